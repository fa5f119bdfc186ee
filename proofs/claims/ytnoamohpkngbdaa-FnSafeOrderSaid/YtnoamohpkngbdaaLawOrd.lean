/-
  Walks: the law FnSafeOrder.
-/
import Derived.Test.YtnoamohpkngbdaaLawT
namespace Go.Proofs.Ytnoamohpkngbdaa
open Go.RowKit

set_option maxHeartbeats 2000000 in
theorem lawSafeOrder_any (v : Value) (w : World) (h : CodeAt w v) :
    Calls Try.prog 10 #[v] w fun e w' => e = .returned (.bool true) ∧ Below w.heap.size w w' := by
  have H := Lib.hid h
  obtain ⟨pb, n, cap, rfl, hn1, hn2, -⟩ := h
  unfold maxLen at hn2
  by_cases hbig : 1048576 < n
  · go_enter Try.func10, Try.ntmps10
    go_wp2
    go_ret
    exact ⟨rfl, Below.refl _ _⟩
  have hbig' : n ≤ 1048576 := by omega
  clear hbig
  go_enter Try.func10, Try.ntmps10
  go_wp2_with fail
  refine (drawRingSafe_any _ _ H.out).mono ?_
  rintro e w1 ⟨u, y, rfl, hat, hsm, hb1⟩
  have HAT := Lib.hid hat
  have hz1 := hb1.size
  clear hsm
  cases hs : ringSafe y
  · have HS := Lib.hid hs
    clear hs hat
    go_wp2_with (first | (go_at_call 20; refine (iRingSafe_any _ y _ HAT.out).mono ?_; rw [HS.out]; rintro e w2 ⟨rfl, hb2⟩) | (go_at_call 35; refine (sRingSafe_any _ y _ (HAT.out.below hb2 (Nat.le_refl _))).mono ?_; rw [HS.out]; rintro e w3 ⟨rfl, hb3⟩))
    go_ret
    exact ⟨rfl, hb1.trans ((hb2.trans (hb3.mono hb2.size)).mono hz1)⟩
  · have HS := Lib.hid hs
    obtain ⟨p, cp, rfl⟩ := hat.form
    clear hs hat
    go_wp2_with (first | (go_at_call 20; refine (iRingSafe_any _ y _ HAT.out).mono ?_; rw [HS.out]; rintro e w2 ⟨rfl, hb2⟩) | (go_at_call 35; refine (sRingSafe_any _ y _ (HAT.out.below hb2 (Nat.le_refl _))).mono ?_; rw [HS.out]; rintro e w3 ⟨rfl, hb3⟩; have hbC := hb2.trans (hb3.mono hb2.size); have HC := Lib.hid (HAT.out.below hbC (Nat.le_refl _)); have hbD := hb1.trans (hbC.mono hz1)))
    go_loopg [2, 6] y.length (fun m _ i wr => ∃ k : Nat, k ≤ y.length ∧ m = y.length - k ∧ i = .int .i64 k ∧ Below w3.heap.size w3 wr)
    case atStart => exact ⟨0, Nat.zero_le _, rfl, rfl, Below.refl _ _⟩
    case round =>
      obtain ⟨k, hk, rfl, rfl, hwr⟩ := hrel
      have HB := Lib.hid (hbD.trans (hwr.mono hbD.size))
      have HW := Lib.hid hwr
      have HR := Lib.hid (show RingAt wr (.slice p y.length cp) y from HC.out.below hwr (Nat.le_refl _))
      clear hwr
      by_cases hlt : k < y.length
      · obtain ⟨b, o, b', o', ca, rfl, -, hc1, hc2, hca, hca', hbl, hbl', k0, k1, k2, k3, k4⟩ := HR.out.node hlt ((safe_shape HS.out).two hlt)
        obtain ⟨g1, g2, g3, g4⟩ := safe_order HS.out (getD_mem hlt)
        have hv := valid_node (safe_valid HS.out) (getD_mem hlt)
        have hbt : cbtw (y.getD k default).id (a0 (y.getD k default)) (a1 (y.getD k default)) = true := by
          unfold cbtw; rw [hv.1, hv.a0ok, hv.a1ok, g1]; rfl
        obtain ⟨i, hi⟩ : ∃ x, (y.getD k default).id = x := ⟨_, rfl⟩
        obtain ⟨x0, hx0⟩ : ∃ x, a0 (y.getD k default) = x := ⟨_, rfl⟩
        obtain ⟨x1, hx1⟩ : ∃ x, a1 (y.getD k default) = x := ⟨_, rfl⟩
        rw [hi] at k0 hbt
        rw [hx0] at k3 hbt
        rw [hx1] at k4 hbt
        have HBT := Lib.hid hbt
        have i0 : (0 : Int) ≤ (k : Int) := by omega
        have i1 : (k : Int) < (y.length : Int) := by omega
        clear k1 hi hx0 hx1 hbt g1 g2 g3 g4 hv
        go_wp2_with fail
        go_region_held3 (fun w' => w'.cell? ⟨b, o + k * 3, none⟩ = some (.int .i64 i) ∧ w'.cell? ⟨b, o + k * 3 + 2, none⟩ = some (.slice (some ⟨b', o', none⟩) 2 ca) ∧ w'.cell? ⟨b', o', none⟩ = some (.int .i64 x0) ∧ w'.cell? ⟨b', o' + 1, none⟩ = some (.int .i64 x1)) (go_keep)
          (first
            | (go_at_call 31; refine (iBetween_any i x0 x1 _).mono ?_; rw [HBT.out]; rintro e w5 ⟨rfl, hb5⟩; have hb5' := (Below.refl _ wr).drew.trans hb5; have s0 := (hb5'.cell (p := ⟨b, o + k * 3, none⟩) hbl).trans k0; have s2 := (hb5'.cell (p := ⟨b, o + k * 3 + 2, none⟩) hbl).trans k2; have s3 := (hb5'.cell (p := ⟨b', o', none⟩) hbl').trans k3; have s4 := (hb5'.cell (p := ⟨b', o' + 1, none⟩) hbl').trans k4))
        go_wp2
        go_roundg (y.length - (k + 1))
        case rel => exact ⟨k + 1, by omega, rfl, by go_num, HW.out.trans (hb5'.mono HW.out.size)⟩
        case measure => omega
      · obtain rfl : k = y.length := by omega
        go_wp2
        go_ret
        exact ⟨rfl, HB.out⟩

end Go.Proofs.Ytnoamohpkngbdaa
