/-
  Contracts: a drawn step of a ring; a drawn safe ring.
-/
import Derived.Test.YtojpfbbgpcafnaaDraw5
namespace Go.Proofs.Ytojpfbbgpcafnaa
open Go.RowKit

set_option maxRecDepth 100000 in
set_option maxHeartbeats 4000000 in
theorem l91Step_any (S p : Nat) (v : Value) (x : List Nd) (w : World) (h : RdAt w S p) (hp : p ≤ 100000) (hO : RingOwn w (S + 1) v x) (hs : ringSafe x = true) :
    Calls Try.prog 106 #[.pointer (some ⟨S, 0, none⟩), v] w fun e w' => ∃ u y p', e = .returned u ∧ RingOwn w' (S + 1) u y ∧ ringSafe y = true ∧ p' ≤ p + 4 ∧ RdAt w' S p' ∧ w.grownBy w' (some S) := by
  have HSF := Lib.hid hs
  have hpos := ringSafe_pos hs
  have hx10 : x.length ≤ 10 := (safe_shape hs).1
  obtain ⟨g, cap, rfl, hg1, hg2, hgS, hgl⟩ := hO.form hpos
  unfold maxLen at hg2
  have HO := Lib.hid hO
  clear hs hO
  have hx0 : ((x.length : Int) == 0) = false := beq_eq_false_iff_ne.2 (by omega)
  go_enter Try.func106, Try.ntmps106
  go_wp2_with (first | (go_at_call 36; refine (sRingJoin_any _ x ((i1 + 1 + (c4 : Int)) % 64) i1 _ (by exact HO5.out.at)).mono ?_; rintro e w6 ⟨u6, rfl, hO6, hb6⟩; have HO6 := Lib.hid (hO6.mono hz5); have HS6 := Lib.hid (rJoin_safe HSF.out (show okP ((i1 + 1 + (c4 : Int)) % 64) = true by rw [okP_def]; omega) HI1.out); have hr6 := hr5.below hb6 (Nat.le_refl _); have hg6 := grow_trans hg5' (grow_below hb6 (Nat.le_refl _)); clear hO6) | (go_at_call 118; refine (sRingFail_any _ x i1 _ (by exact HO4.out.at)).mono ?_; rintro e w5 ⟨u5, rfl, hO5, hb5⟩; have HO5 := Lib.hid (hO5.mono hz4); have HS5 := Lib.hid (rFail_safe HSF.out HI1.out); have hr5 := hr4.below hb5 (Nat.le_refl _); have hg5 := grow_trans hg4' (grow_below hb5 (Nat.le_refl _)); clear hO5) | (go_at_call 119; refine (sRingDrop_any _ x i1 _ (by exact HO4.out.at)).mono ?_; rintro e w5 ⟨u5, rfl, hO5, hb5⟩; have HO5 := Lib.hid (hO5.mono hz4); have HS5 := Lib.hid (rDrop_safe HSF.out HI1.out); have hr5 := hr4.below hb5 (Nat.le_refl _); have hg5 := grow_trans hg4' (grow_below hb5 (Nat.le_refl _)); clear hO5) | (go_at_call 120; refine (sRingAdopt_any _ x i1 _ (by exact HO4.out.at)).mono ?_; rintro e w5 ⟨u5, rfl, hO5, hb5⟩; have HO5 := Lib.hid (hO5.mono hz4); have HS5 := Lib.hid (rAdopt_safe HSF.out HI1.out); have hr5 := hr4.below hb5 (Nat.le_refl _); have hg5 := grow_trans hg4' (grow_below hb5 (Nat.le_refl _)); clear hO5) | (go_at_call 121; refine (sRingCloser_any _ x i1 i2 _ (by exact HO4.out.at)).mono ?_; rintro e w5 ⟨u5, rfl, hO5, hb5⟩; have HO5 := Lib.hid (hO5.mono hz4); have HS5 := Lib.hid (rCloser_safe HSF.out HI1.out HI2.out); have hr5 := hr4.below hb5 (Nat.le_refl _); have hg5 := grow_trans hg4' (grow_below hb5 (Nat.le_refl _)); clear hO5) | (go_at_call 122; refine (sRingNotify_any _ x i1 i2 _ (by exact HO4.out.at)).mono ?_; rintro e w5 ⟨u5, rfl, hO5, hb5⟩; have HO5 := Lib.hid (hO5.mono hz4); have HS5 := Lib.hid (rNotify_safe HSF.out HI1.out HI2.out); have hr5 := hr4.below hb5 (Nat.le_refl _); have hg5 := grow_trans hg4' (grow_below hb5 (Nat.le_refl _)); clear hO5) | (go_at_call 28; refine (sRingStabilize_any _ x i1 _ (by exact HO4.out.at)).mono ?_; rintro e w5 ⟨u5, rfl, hO5, hb5⟩; have HO5 := Lib.hid (hO5.mono hz4); have HS5 := Lib.hid (rStab_safe HSF.out HI1.out); have hr5 := hr4.below hb5 (Nat.le_refl _); have hg5 := grow_trans hg4' (grow_below hb5 (Nat.le_refl _)); clear hO5) | (have _ := hr4; go_at_call_of 74 (Value.int IntKind.i64 12); refine (pick_any S (p + 3) 12 _ hr4 (by omega) (by omega) (by omega)).mono ?_; rintro e w5 ⟨c4, hc4, rfl, hr5, hg5⟩; have HO5 := Lib.hid (HO4.out.keeps (keeps_grow hg5)); have hg5' := grow_trans hg4' hg5; have hz5 := hr5.lt) | (have _ := hr3; go_at_call_of 74 (Value.int IntKind.i64 10); refine (pick_any S (p + 2) 10 _ hr3 (by omega) (by omega) (by omega)).mono ?_; rintro e w4 ⟨c3, hc3, rfl, hr4, hg4⟩; have HO4 := Lib.hid (HO3.out.keeps (keeps_grow hg4)); have hg4' := grow_trans hg3' hg4; have hz4 := hr4.lt; have hb1 := okP_def.1 HI1.out) | (have _ := hr2; go_at_call 74; refine (pick_any S (p + 1) (x.length : Int) _ hr2 (by omega) (by omega) (by omega)).mono ?_; rintro e w3 ⟨c2, hc2, rfl, hr3, hg3⟩; have HO3 := Lib.hid (HO2.out.keeps (keeps_grow hg3)); obtain ⟨va3, n30, -, -, -, -, -⟩ := HO3.out.cells (k := c2) (by omega); obtain ⟨i2, hi2⟩ : ∃ i, (x.getD c2 default).id = i := ⟨_, rfl⟩; rw [hi2] at n30; have HI2 := Lib.hid (show okP i2 = true by rw [← hi2]; exact (valid_node (safe_valid HSF.out) (getD_mem (by omega))).1); clear hi2; have hg3' := grow_trans hg2 hg3) | (go_at_call 74; refine (pick_any S p (x.length : Int) _ h (by omega) (by omega) (by omega)).mono ?_; rintro e w2 ⟨c1, hc1, rfl, hr2, hg2⟩; have HO2 := Lib.hid (HO.out.keeps (keeps_grow hg2)); obtain ⟨va2, n20, -, -, -, -, -⟩ := HO2.out.cells (k := c1) (by omega); obtain ⟨i1, hi1⟩ : ∃ i, (x.getD c1 default).id = i := ⟨_, rfl⟩; rw [hi1] at n20; have HI1 := Lib.hid (show okP i1 = true by rw [← hi1]; exact (valid_node (safe_valid HSF.out) (getD_mem (by omega))).1); clear hi1; have hz2 := Nat.lt_of_lt_of_le hgl hg2.size))
  all_goals
    go_ret
    first
    | exact ⟨_, _, _, rfl, HO6.out, HS6.out, by omega, hr6, hg6⟩
    | exact ⟨_, _, _, rfl, HO5.out, HS5.out, by omega, hr5, hg5⟩
    | exact ⟨_, _, _, rfl, HO4.out, HSF.out, by omega, hr4, hg4'⟩

set_option maxHeartbeats 2000000 in
theorem l91Ring_any (S p : Nat) (w : World) (h : RdAt w S p) (hp : p ≤ 50000) :
    Calls Try.prog 81 #[.pointer (some ⟨S, 0, none⟩)] w fun e w' => ∃ u y p', e = .returned u ∧ RingOwn w' (S + 1) u y ∧ ringSafe y = true ∧ p' ≤ p + 150 ∧ RdAt w' S p' ∧ w.grownBy w' (some S) := by
  go_enter Try.func81, Try.ntmps81
  go_wp2_with (first | (go_at_call 104; refine (sRingNew_any _ L _ hI.at).mono ?_; rw [HNO.out]; rintro e w2 ⟨u2, rfl, hO2, hb2⟩; have HO2 := Lib.hid (show RingOwn w2 (S + 1) u2 (idealR L) by have := hO2.mono hr1.lt; unfold rNew at this; rw [HNO.out] at this; exact this); have hr2 := hr1.below hb2 (Nat.le_refl _); have hg2 := grow_trans hg1 (grow_below hb2 (Nat.le_refl _)); clear hO2) | (go_at_call 105; refine (l91Good_any S p 3 _ h (by omega) (by omega) (by omega)).mono ?_; rintro e w1 ⟨u1, L, p1, rfl, hI, hA, hl3, hl10, hp1, hr1, hg1⟩; have HNO := Lib.hid (show rNewOk L = true by unfold rNewOk; rw [ndB_iff.2 ⟨by omega, hA.nodes hl10⟩, decide_eq_true hl3]; rfl); have HSF := Lib.hid (ideal_safe (hA.nodes hl10) hl3); have HI := Lib.hid hI))
  go_loopg [3, 5] 24 (fun m s3 s5 wr => ∃ (k : Nat) (x : List Nd) (pp : Nat), k ≤ 23 ∧ m = 24 - k ∧ s5 = .int .i64 k ∧ Hid (RingOwn wr (S + 1) s3 x) ∧ Hid (ringSafe x = true) ∧ pp ≤ p + 11 + 5 * k ∧ RdAt wr S pp ∧ Hid (w.grownBy wr (some S)))
  case atStart => exact ⟨0, _, p1, by omega, by omega, rfl, HO2, HSF, by omega, hr2, Lib.hid hg2⟩
  case round =>
    obtain ⟨k, x, pp, hk, rfl, rfl, HO, HS, hpp, hr, HG⟩ := hrel
    go_wp2_with (first | (have _ := hc3; go_at_call 106; refine (l91Step_any S (pp + 1) _ x _ hr3 (by omega) (by exact HO3.out) HS.out).mono ?_; rintro e w4 ⟨u4, y, p4, rfl, hO4, hs4, hp4, hr4, hg4⟩; have HO4 := Lib.hid hO4; have HS4 := Lib.hid hs4; have HG4 := Lib.hid (grow_trans HG3.out hg4); clear hO4 hs4) | (go_at_call 74; refine (pick_any S pp 24 _ hr (by omega) (by omega) (by omega)).mono ?_; rintro e w3 ⟨c3, hc3, rfl, hr3, hg3⟩; have HO3 := Lib.hid (HO.out.keeps (keeps_grow hg3)); have HG3 := Lib.hid (grow_trans HG.out hg3)))
    · have hkc : k < c3 := by assumption
      go_roundg (24 - (k + 1))
      case rel => exact ⟨k + 1, y, p4, by omega, rfl, by go_num, HO4, HS4, by omega, hr4, HG4⟩
      case measure => omega
    · go_ret
      exact ⟨_, x, pp + 1, rfl, HO3.out, HS.out, by omega, hr3, HG3.out⟩

end Go.Proofs.Ytojpfbbgpcafnaa
