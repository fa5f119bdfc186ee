/-
  Contracts: l4Stabilize and RingStabilize of the reference.
-/
import Derived.Test.YtojpfbbgpcafnaaSRing
import Derived.Test.YtojpfbbgpcafnaaOwn2
import Derived.Test.YtojpfbbgpcafnaaPlain
import Derived.Deep.LoopGhost
namespace Go.Proofs.Ytojpfbbgpcafnaa
open Go.RowKit

theorem RingOwn.nodeN {w : World} {B g cap : Nat} {r : List Nd} (h : RingOwn w B (.slice (some ⟨g, 0, none⟩) r.length cap) r) {k : Nat} (hk : k < r.length) (h2 : (r.getD k default).after.length = 2)
    {i b x y : Int} (hi : (r.getD k default).id = i) (hb : (r.getD k default).before = b) (hx : a0 (r.getD k default) = x) (hy : a1 (r.getD k default) = y) :
    ∃ bk ck, 2 ≤ ck ∧ ck ≤ 9223372036854775807 ∧ B ≤ g ∧ g < w.heap.size ∧ bk < w.heap.size ∧
      w.cell? ⟨g, k * 3, none⟩ = some (.int .i64 i) ∧ w.cell? ⟨g, k * 3 + 1, none⟩ = some (.int .i64 b) ∧ w.cell? ⟨g, k * 3 + 2, none⟩ = some (.slice (some ⟨bk, 0, none⟩) 2 ck) ∧
      w.cell? ⟨bk, 0, none⟩ = some (.int .i64 x) ∧ w.cell? ⟨bk, 1, none⟩ = some (.int .i64 y) ∧ (∀ j, w.frozen? ⟨g, j, none⟩ = false) := by
  subst hi; subst hb; subst hx; subst hy
  exact h.node hk h2
theorem safe_shape {r : List Nd} (h : ringSafe r = true) : Shape r := shape_valid (safe_valid h)
theorem Shape.two {r : List Nd} (h : Shape r) {k : Nat} (hk : k < r.length) : (r.getD k default).after.length = 2 := (h.2 k hk).1

set_option maxHeartbeats 2000000 in
theorem l4Stabilize_any (v : Value) (r : List Nd) (k : Nat) (w : World) (hv : RingAt w v r) (hs : ringSafe r = true) (hk : k < r.length) :
    Calls Try.prog 66 #[v, .int .i64 k] w fun e w' => ∃ u, e = .returned u ∧ RingOwn w' w.heap.size u (stabK r k) ∧ Below w.heap.size w w' := by
  have HV := Lib.hid hv
  have F1 := dropK_fine hs hk
  obtain ⟨F2, F3, F4, l2, l3⟩ := stab_stages hs hk
  have HA := Lib.hid (dropOk_again hs hk)
  have hS0 := safe_shape hs
  have hn10 : r.length ≤ 10 := hS0.1
  have HS0 := Lib.hid hS0
  have HK : Hid (stabK r k = stab4 (stab3 (stab2 r k) k) k) := Lib.hid rfl
  have hd2 : stab2 r k = adoptK (dropK r k) k := rfl
  obtain ⟨r1, e1⟩ : ∃ x, dropK r k = x := ⟨_, rfl⟩
  have HQ : Hid (dropK r1 k = r1) := Lib.hid (by unfold dropK; rw [← e1, HA.out]; rfl)
  obtain ⟨r2, e2⟩ : ∃ x, stab2 r k = x := ⟨_, rfl⟩
  obtain ⟨r3, e3⟩ : ∃ x, stab3 r2 k = x := ⟨_, rfl⟩
  rw [e1] at F1 HA hd2
  rw [e2] at F2 F3 l2 l3 HK hd2
  rw [e3] at F3 l3 HK
  have hk1 : k < r1.length := by rw [F1.len]; exact hk
  have hk2 : k < r2.length := by rw [F2.len]; exact hk
  have hk3 : k < r3.length := by rw [F3.len]; exact hk
  have HS1 := Lib.hid (safe_shape F1.1)
  have HS2 := Lib.hid (safe_shape F2.1)
  have HS3 := Lib.hid (safe_shape F3.1)
  have h110 : r1.length ≤ 10 := HS1.out.1
  have h210 : r2.length ≤ 10 := HS2.out.1
  have h310 : r3.length ≤ 10 := HS3.out.1
  obtain ⟨s2, es2⟩ : ∃ x, stabS r2 k = x := ⟨_, rfl⟩
  obtain ⟨s3, es3⟩ : ∃ x, stabS r3 k = x := ⟨_, rfl⟩
  obtain ⟨hs2, -, hf2⟩ := stabS_lt l2
  obtain ⟨hs3, -, hf3⟩ := stabS_lt l3
  rw [es2] at hs2 hf2
  rw [es3] at hs3 hf3
  obtain ⟨x2, ex2⟩ : ∃ x, a0 (r2.getD k default) = x := ⟨_, rfl⟩
  obtain ⟨x3, ex3⟩ : ∃ x, a0 (r3.getD k default) = x := ⟨_, rfl⟩
  obtain ⟨i3, ei3⟩ : ∃ x, (r3.getD k default).id = x := ⟨_, rfl⟩
  obtain ⟨b2, eb2⟩ : ∃ x, (r2.getD s2 default).before = x := ⟨_, rfl⟩
  have HR3 : Hid (stab4 r3 k = notifyK r3 s3 i3) := Lib.hid (by unfold stab4; rw [es3, ei3])
  have hR2 : r3 = if 0 ≤ b2 then closerK r2 k b2 else r2 := by rw [← e3]; unfold stab3 stabB; rw [es2, eb2]
  rw [ex2] at hf2
  rw [ex3] at hf3
  have HF2 := Lib.hid hf2
  have HF3 := Lib.hid hf3
  have HX2 := Lib.hid ex2
  have HX3 := Lib.hid ex3
  have HI3 := Lib.hid ei3
  have HB2 := Lib.hid eb2
  have HR1 := Lib.hid e1
  have HD2 := Lib.hid hd2
  clear hf2 hf3 ex2 ex3 ei3 eb2 es2 es3 e1 e2 e3 hd2 hv hs F1 F2 F3 F4 l2 l3 hS0
  go_enter Try.func66, Try.ntmps66
  go_wp2
  go_loopw [0, 5, 6, 7, 8] (fun s0 s5 s6 _ _ wr => ∃ i : Nat, s6 = .int .i64 i ∧ ((i = 0 ∧ s5 = .bool true ∧ s0 = v ∧ wr = w) ∨ (1 ≤ i ∧ i ≤ 2 ∧ (s5 = .bool true → i = 1) ∧ (s5 = .bool true ∨ s5 = .bool false) ∧ RingOwn wr w.heap.size s0 r1 ∧ Below w.heap.size w wr))) (fun _ _ s _ _ _ => 3 - (intOf s).toNat)
  case atStart => exact ⟨0, rfl, .inl ⟨rfl, rfl, rfl, rfl⟩⟩
  case round =>
    obtain ⟨i, rfl, hrel⟩ := hrel
    rcases hrel with ⟨rfl, rfl, rfl, rfl⟩ | ⟨hi1, hi2, hi3, hi4, hO1, hb1⟩
    · go_wp2_with (go_at_call 92; refine (l4Drop_any _ r k _ HV.out HS0.out hk).mono ?_; rw [HR1.out]; rintro e w1 ⟨u, rfl, hO1, hb1⟩)
      go_roundw
      case rel => exact ⟨1, by go_num, .inr ⟨by omega, by omega, fun _ => rfl, by cases dropOk r k <;> simp, hO1, hb1⟩⟩
      case measure => simp [intOf]
    · rcases hi4 with rfl | rfl
      · have hi : i = 1 := hi3 rfl
        subst hi
        have hsz := hb1.size
        go_wp2_with (go_at_call 92; refine (l4Drop_any _ r1 k _ hO1.at HS1.out hk1).mono ?_; rw [HA.out]; rintro e w1 ⟨u, rfl, hO1', hb1'⟩)
        go_roundw
        case rel => exact ⟨2, by go_num, .inr ⟨by omega, by omega, fun h => (by cases h), .inr rfl, by have := hO1'.mono hsz; rw [HQ.out] at this; exact this, hb1.trans (hb1'.mono hsz)⟩⟩
        case measure => simp [intOf]
      · clear hi3
        have hz1 := hb1.size
        by_cases hb0 : 0 ≤ b2
        · have HR2 := Lib.hid (show closerK r2 k b2 = r3 by rw [hR2, if_pos hb0])
          clear hR2
          go_wp2_with (first | (go_at_call 93; refine (l4Adopt_any _ r1 k _ hO1.at HS1.out hk1).mono ?_; rw [← HD2.out]; rintro e w2 ⟨u2, rfl, hO2, hb2⟩; have hB2 := hb1.trans (hb2.mono hz1); have hz2 := hB2.size; obtain ⟨g2, c2, rfl, hc21, hc22, -, -⟩ := hO2.form (by omega); have HO2 := Lib.hid hO2; obtain ⟨bk2, ck2, hck2, hck2', -, hg2, hbk2, n20, n21, n22, n23, n24, -⟩ := hO2.nodeN hk2 (HS2.out.two hk2) rfl rfl HX2.out rfl; obtain ⟨bs2, cs2, -, -, -, -, -, m20, m21, m22, m23, m24, -⟩ := hO2.nodeN hs2 (HS2.out.two hs2) rfl HB2.out rfl rfl; clear n20 n21 n24 m20 m22 m23 m24 hO2; unfold maxLen at hc22) | (have _ := n33; go_at_call 79; refine (l3Find_any _ r3 x3 _ (by exact HO3.out.at)).mono ?_; rw [HF3.out]; rintro e w' ⟨rfl, rfl⟩) | (go_at_call_of 79 (Value.int IntKind.i64 x2); refine (l3Find_any _ r2 x2 _ (by exact HO2.out.at)).mono ?_; rw [HF2.out]; rintro e w' ⟨rfl, rfl⟩) | (go_at_call 94; refine (l4Closer_any _ r2 k b2 _ (by exact HO2.out.at) HS2.out hk2).mono ?_; rw [HR2.out]; rintro e w3 ⟨u3, rfl, hO3, hb3⟩; have hB3 := hB2.trans (hb3.mono hz2); have hz3 := hB3.size; obtain ⟨g3, c3, rfl, hc31, hc32, -, -⟩ := hO3.form (by omega); have HO3 := Lib.hid hO3; obtain ⟨bk3, ck3, hck3, hck3', -, hg3, hbk3, n30, n31, n32, n33, n34, -⟩ := hO3.nodeN hk3 (HS3.out.two hk3) HI3.out rfl HX3.out rfl; clear n31 n34 hO3; unfold maxLen at hc32) | (go_at_call 95; refine (l4Notify_any _ r3 s3 i3 _ (by exact HO3.out.at) HS3.out hs3).mono ?_; rw [← HR3.out, ← HK.out]; rintro e w4 ⟨u4, rfl, hO4, hb4⟩))
          all_goals
            go_ret
            exact ⟨_, rfl, hO4.mono hz3, hB3.trans (hb4.mono hz3)⟩
        · have HR2 := Lib.hid (show r3 = r2 by rw [hR2, if_neg hb0])
          clear hR2
          have hss : s3 = s2 := by have a := HF2.out; have b := HF3.out; have c := HX2.out; have d := HX3.out; rw [HR2.out, ← d, HR2.out, c, a] at b; omega
          have hii : (r2.getD k default).id = i3 := by rw [← HR2.out]; exact HI3.out
          have HII := Lib.hid hii
          have HRR := Lib.hid (show stab4 r3 k = notifyK r2 s2 i3 by rw [HR3.out, HR2.out, hss])
          clear hss hii
          go_wp2_with (first | (go_at_call 93; refine (l4Adopt_any _ r1 k _ hO1.at HS1.out hk1).mono ?_; rw [← HD2.out]; rintro e w2 ⟨u2, rfl, hO2, hb2⟩; have hB2 := hb1.trans (hb2.mono hz1); have hz2 := hB2.size; obtain ⟨g2, c2, rfl, hc21, hc22, -, -⟩ := hO2.form (by omega); have HO2 := Lib.hid hO2; obtain ⟨bk2, ck2, hck2, hck2', -, hg2, hbk2, n20, n21, n22, n23, n24, -⟩ := hO2.nodeN hk2 (HS2.out.two hk2) HII.out rfl HX2.out rfl; obtain ⟨bs2, cs2, -, -, -, -, -, m20, m21, m22, m23, m24, -⟩ := hO2.nodeN hs2 (HS2.out.two hs2) rfl HB2.out rfl rfl; clear n21 n24 m20 m22 m23 m24 hO2; unfold maxLen at hc22) | (go_at_call_of 79 (Value.int IntKind.i64 x2); refine (l3Find_any _ r2 x2 _ (by exact HO2.out.at)).mono ?_; rw [HF2.out]; rintro e w' ⟨rfl, rfl⟩) | (go_at_call 95; refine (l4Notify_any _ r2 s2 i3 _ (by exact HO2.out.at) HS2.out hs2).mono ?_; rw [← HRR.out, ← HK.out]; rintro e w4 ⟨u4, rfl, hO4, hb4⟩))
          all_goals
            go_ret
            exact ⟨_, rfl, hO4.mono hz2, hB2.trans (hb4.mono hz2)⟩

set_option maxHeartbeats 1000000 in
theorem sRingStabilize_any (v : Value) (r : List Nd) (id : Int) (w : World) (hv : RingAt w v r) :
    Calls Try.prog 28 #[v, .int .i64 id] w fun e w' => ∃ u, e = .returned (.tuple #[u, .bool (rStabOk r id)]) ∧ RingOwn w' w.heap.size u (rStab r id) ∧ Below w.heap.size w w' := by
  unfold rStabOk rStab
  cases hc : (ringSafe r && okP id)
  · have HC := Lib.hid hc
    rw [stepR_no (by simp), stepB_no (by simp)]
    clear hc
    go_enter Try.func28, Try.ntmps28
    go_wp2_with (first | (go_at_call 65; refine (l4One_no _ r id _ hv HC.out).mono ?_; rintro e w1 ⟨rfl, hb1⟩))
    go_ret2
    exact ⟨_, rfl, (RingOwn.made w1 _ rfl).mono hb1.size, hb1.alloc hb1.size _⟩
  · have HC := Lib.hid hc
    have hsf : ringSafe r = true := by simp at hc; exact hc.1
    have HSF := Lib.hid hsf
    have hsh : Shape r := safe_shape hsf
    have hr10 : r.length ≤ 10 := hsh.1
    have HL := Lib.hid hsh.len
    clear hc hsf hsh
    rcases fnd_cases r id with ⟨hf, -⟩ | ⟨j, hj, hf, -, -⟩
    · have HX := Lib.hid hf
      rw [stepR_miss (by simp) hf, stepB_miss hf]
      clear hf
      go_enter Try.func28, Try.ntmps28
      go_wp2_with (first | (go_at_call 65; refine (l4One_yes _ r id _ hv HC.out).mono ?_; rw [HX.out]; rintro e w1 ⟨rfl, hb1⟩) | (go_at_call 44; refine (l3Copy_any _ r _ (hv.below hb1 (Nat.le_refl _)) (by omega) HL.out).mono ?_; rintro e w2 ⟨u, rfl, hO, hB1⟩))
      go_ret2
      exact ⟨_, rfl, hO.mono hb1.size, hb1.trans (hB1.mono hb1.size)⟩
    · have HX := Lib.hid hf
      rw [stepR_hit (by simp) hf, stepB_hit (by simp) hf]
      clear hf
      go_enter Try.func28, Try.ntmps28
      go_wp2_with (first | (go_at_call 65; refine (l4One_yes _ r id _ hv HC.out).mono ?_; rw [HX.out]; rintro e w1 ⟨rfl, hb1⟩) | (go_at_call 66; refine (l4Stabilize_any _ r j _ (hv.below hb1 (Nat.le_refl _)) HSF.out hj).mono ?_; rintro e w2 ⟨u, rfl, hO, hB1⟩))
      go_ret2
      exact ⟨_, rfl, hO.mono hb1.size, hb1.trans (hB1.mono hb1.size)⟩

end Go.Proofs.Ytojpfbbgpcafnaa
