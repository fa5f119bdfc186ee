/-
  Walks: the law FnSafeCloser.
-/
import Derived.Test.YtadplndoopkdgaaLawKP
import Derived.Test.YtadplndoopkdgaaDrawS
import Derived.Test.YtadplndoopkdgaaISafe
import Derived.Test.YtadplndoopkdgaaPlain
import Derived.Test.YtadplndoopkdgaaIRCloser
namespace Go.Proofs.Ytadplndoopkdgaa
open Go.RowKit

theorem fine_keep {r r' : List Nd} (h : Fine r r') : Keep r r' := fun p hp _ => h.2.2 p hp

set_option maxRecDepth 100000 in
set_option maxHeartbeats 4000000 in
theorem lawSafeCloser_any (v : Value) (w : World) (h : CodeAt w v) :
    Calls Try.prog 8 #[v] w fun e w' => e = .returned (.bool true) ∧ Below w.heap.size w w' := by
  have H := Lib.hid h
  obtain ⟨pb, n, cap, rfl, hn1, hn2, -⟩ := h
  unfold maxLen at hn2
  by_cases hbig : 1048576 < n
  · go_enter Try.func8, Try.ntmps8
    go_wp2
    go_ret
    exact ⟨rfl, Below.refl _ _⟩
  have hbig' : n ≤ 1048576 := by omega
  clear hbig
  have hf0 := field0
  have hf1 := field1
  have hf2 := field2
  go_enter Try.func8, Try.ntmps8
  go_wp2_with fail
  refine (drawRingCloser_any _ _ H.out).mono ?_
  rintro e w1 ⟨u, y, id, o, rfl, hat, hsm, hb1⟩
  have HAT := Lib.hid hat
  have hz1 := hb1.size
  have hy10 := hsm.2.1
  have hy1 := hsm.1
  obtain ⟨p, cp, rfl⟩ := hat.form
  clear hsm hat
  cases hok : rCloserOk y id o
  · have HK := Lib.hid hok
    clear hok
    go_wp2_with (first | (have _ := hb4; go_at_call 17; refine (sameRing_any _ _ (rCloser y id o) (rCloser y id o) _ (HA.out.below hb4 (Nat.le_refl _)) (HB.out.below hb4 (Nat.le_refl _))).mono ?_; rw [decide_eq_true rfl]; rintro e w5 ⟨rfl, hb5⟩) | (go_at_call 17; refine (sameRing_any _ _ (rCloser y id o) (rCloser y id o) _ HA.out HB.out).mono ?_; rw [decide_eq_true rfl]; rintro e w4 ⟨rfl, hb4⟩) | (go_at_call 15; refine (iRingCloser_any _ y id o _ HAT.out).mono ?_; rw [HK.out]; rintro e w2 ⟨ua, rfl, hA, hb2⟩; have HA0 := Lib.hid hA.at; clear hA) | (go_at_call 16; refine (sRingCloser_any _ y id o _ (HAT.out.below hb2 (Nat.le_refl _))).mono ?_; rw [HK.out]; rintro e w3 ⟨ub, rfl, hB, hb3⟩; have HB := Lib.hid hB.at; have HA := Lib.hid (HA0.out.below hb3 (Nat.le_refl _)); have hbD := hb1.trans ((hb2.trans (hb3.mono hb2.size)).mono hz1); clear hB))
    go_ret
    exact ⟨rfl, hbD.trans ((hb4.trans (hb5.mono hb4.size)).mono hbD.size)⟩
  have HK := Lib.hid hok
  clear hok
  have HF := Lib.hid (law_closer HK.out).2.2.2.2.2.2
  have HS := Lib.hid (law_closer HK.out).1
  go_wp2_with (first | (go_at_call 17; refine (sameRing_any _ _ (rCloser y id o) (rCloser y id o) _ HA1.out HB.out).mono ?_; rw [decide_eq_true rfl]; rintro e w4 ⟨rfl, hb4⟩; have HA := Lib.hid (HA1.out.below hb4 (Nat.le_refl _)); have hbC := (hb2.trans (hb3.mono hb2.size)).trans (hb4.mono (hb2.trans (hb3.mono hb2.size)).size); have HC := Lib.hid (HAT.out.below hbC (Nat.le_refl _)); have hbD := hb1.trans (hbC.mono hz1)) | (go_at_call 15; refine (iRingCloser_any _ y id o _ HAT.out).mono ?_; rw [HK.out]; rintro e w2 ⟨ua, rfl, hA, hb2⟩; have HA0 := Lib.hid hA.at; obtain ⟨pa, ca, ea⟩ := hA.at.form; subst ea; clear hA) | (go_at_call 16; refine (sRingCloser_any _ y id o _ (HAT.out.below hb2 (Nat.le_refl _))).mono ?_; rw [HK.out]; rintro e w3 ⟨ub, rfl, hB, hb3⟩; have HB := Lib.hid hB.at; have HA1 := Lib.hid (HA0.out.below hb3 (Nat.le_refl _)); clear hB))
  go_wp2_with (first | (go_at_call 35; refine (iRingSafe_any _ _ _ HA.out).mono ?_; rw [HF.out.1]; rintro e w5 ⟨rfl, hb5⟩) | (go_at_call 36; refine (keepsP_any _ _ y _ _ (HC.out.below hb5 (Nat.le_refl _)) (HA.out.below hb5 (Nat.le_refl _)) HS.out HF.out.1 (fine_keep HF.out)).mono ?_; rintro e w6 ⟨rfl, hb6⟩))
  go_ret
  exact ⟨rfl, hbD.trans ((hb5.trans (hb6.mono hb5.size)).mono hbD.size)⟩

end Go.Proofs.Ytadplndoopkdgaa
