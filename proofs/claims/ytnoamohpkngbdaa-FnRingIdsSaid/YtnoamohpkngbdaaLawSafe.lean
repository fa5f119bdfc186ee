/-
  Walks: the law FnSafe.
-/
import Derived.Test.YtnoamohpkngbdaaLawT
import Derived.Test.YtnoamohpkngbdaaLawK
namespace Go.Proofs.Ytnoamohpkngbdaa
open Go.RowKit

set_option maxHeartbeats 2000000 in
theorem lawSafe_any (v : Value) (w : World) (h : CodeAt w v) :
    Calls Try.prog 8 #[v] w fun e w' => e = .returned (.bool true) ∧ Below w.heap.size w w' := by
  have H := Lib.hid h
  obtain ⟨pb, n, cap, rfl, hn1, hn2, -⟩ := h
  unfold maxLen at hn2
  by_cases hbig : 1048576 < n
  · go_enter Try.func8, Try.ntmps8
    go_wp2
    go_ret
    exact ⟨rfl, Below.refl _ _⟩
  have hbig' : n ≤ 1048576 := by omega
  clear hbig
  go_enter Try.func8, Try.ntmps8
  go_wp2_with fail
  refine (drawRingSafe_any _ _ H.out).mono ?_
  rintro e w1 ⟨u, y, rfl, hat, hsm, hb1⟩
  have HAT := Lib.hid hat
  have hz1 := hb1.size
  clear hsm
  cases hs : ringSafe y
  · have HS := Lib.hid hs
    clear hs hat
    go_wp2_with (first | (go_at_call 20; refine (iRingSafe_any _ y _ HAT.out).mono ?_; rw [HS.out]; rintro e w2 ⟨rfl, hb2⟩) | (go_at_call 35; refine (sRingSafe_any _ y _ (HAT.out.below hb2 (Nat.le_refl _))).mono ?_; rw [HS.out]; rintro e w3 ⟨rfl, hb3⟩))
    go_ret
    exact ⟨rfl, hb1.trans ((hb2.trans (hb3.mono hb2.size)).mono hz1)⟩
  have HS := Lib.hid hs
  have hy10 := (safe_shape hs).1
  obtain ⟨p, cp, rfl⟩ := hat.form
  clear hs hat
  have hf0 := field0
  go_wp2_with (first | (go_at_call 20; refine (iRingSafe_any _ y _ HAT.out).mono ?_; rw [HS.out]; rintro e w2 ⟨rfl, hb2⟩) | (go_at_call 35; refine (sRingSafe_any _ y _ (HAT.out.below hb2 (Nat.le_refl _))).mono ?_; rw [HS.out]; rintro e w3 ⟨rfl, hb3⟩; have hbC := hb2.trans (hb3.mono hb2.size); have HC := Lib.hid (HAT.out.below hbC (Nat.le_refl _)); have hbD := hb1.trans (hbC.mono hz1)))
  go_loopg [2, 6] y.length (fun m _ i wr => ∃ k : Nat, k ≤ y.length ∧ m = y.length - k ∧ i = .int .i64 k ∧ Below w3.heap.size w3 wr)
  case atStart => exact ⟨0, Nat.zero_le _, rfl, rfl, Below.refl _ _⟩
  case round =>
    obtain ⟨k, hk, rfl, rfl, hwr⟩ := hrel
    have HB := Lib.hid (hbD.trans (hwr.mono hbD.size))
    have HW := Lib.hid hwr
    have HR := Lib.hid (show RingAt wr (.slice p y.length cp) y from HC.out.below hwr (Nat.le_refl _))
    clear hwr
    by_cases hlt : k < y.length
    · obtain ⟨b, o, b', o', ca, rfl, -, hc1, hc2, hca, hca', hbl, hbl', k0, k1, k2, k3, k4⟩ := HR.out.node hlt ((safe_shape HS.out).two hlt)
      have hv := valid_node (safe_valid HS.out) (getD_mem hlt)
      have hlv := (ringSafe_iff.1 HS.out).2.1 _ (getD_mem hlt)
      have hx0 := okP_def.1 hv.a0ok
      have hx1 := okP_def.1 hv.a1ok
      obtain ⟨x0, e0⟩ : ∃ x, a0 (y.getD k default) = x := ⟨_, rfl⟩
      obtain ⟨x1, e1⟩ : ∃ x, a1 (y.getD k default) = x := ⟨_, rfl⟩
      rw [e0] at k3 hlv hx0
      rw [e1] at k4 hlv hx1
      obtain ⟨hx00, hx01⟩ := hx0
      obtain ⟨hx10, hx11⟩ := hx1
      have i0 : (0 : Int) ≤ (k : Int) := by omega
      have i1 : (k : Int) < (y.length : Int) := by omega
      clear k0 k1 e0 e1 hv
      cases hl0 : live y x0
      · have HL0 := Lib.hid hl0
        have HL1 := Lib.hid (show live y x1 = true by rw [hl0] at hlv; simpa using hlv)
        clear hlv hl0
        go_wp2_with (first | (have _ := m1; go_at_call 33; refine (nodeAtL_live _ y x1 _ (by exact HR.out.below m1 (Nat.le_refl _)) HL1.out).mono ?_; rintro e w5 ⟨vb, rfl, -, m2⟩) | (go_at_call 33; refine (nodeAtL_dead _ y x0 _ (by exact HR.out) HL0.out).mono ?_; rintro e w4 ⟨va, rfl, -, m1⟩; have s2 := (m1.cell (p := ⟨b, o + k * 3 + 2, none⟩) hbl).trans k2; have s4 := (m1.cell (p := ⟨b', o' + 1, none⟩) hbl').trans k4))
        go_roundg (y.length - (k + 1))
        case rel => exact ⟨k + 1, by omega, rfl, by go_num, HW.out.trans ((m1.trans (m2.mono m1.size)).mono HW.out.size)⟩
        case measure => omega
      · have HL0 := Lib.hid hl0
        clear hlv hl0
        go_wp2_with (first | (go_at_call 33; refine (nodeAtL_live _ y x0 _ (by exact HR.out) HL0.out).mono ?_; rintro e w4 ⟨va, rfl, -, m1⟩))
        go_roundg (y.length - (k + 1))
        case rel => exact ⟨k + 1, by omega, rfl, by go_num, HW.out.trans (m1.mono HW.out.size)⟩
        case measure => omega
    · obtain rfl : k = y.length := by omega
      go_wp2_with (first | (go_at_call 29; refine (iRingPrincipals_any _ y _ HR.out (safe_valid HS.out)).mono ?_; rintro e w5 ⟨u5, rfl, hO5, m5⟩; obtain ⟨pp, cc, e5⟩ := own_slice hO5; subst e5))
      go_ret
      exact ⟨ret_bool (by have := three_le HS.out; simp; omega), HB.out.trans (m5.mono HB.out.size)⟩

end Go.Proofs.Ytnoamohpkngbdaa
