/-
  Walks: the law FnRingNew.
-/
import Derived.Test.YtnoamohpkngbdaaDrawNd
import Derived.Test.YtnoamohpkngbdaaLawK
import Derived.Test.YtnoamohpkngbdaaIIdl
import Derived.Test.YtnoamohpkngbdaaIRIds
import Derived.Test.YtnoamohpkngbdaaISafe
namespace Go.Proofs.Ytnoamohpkngbdaa
open Go.RowKit

theorem rNew_open {L : List Int} (h : rNewOk L = true) : rNew L = idealR L ∧ rIdeal (idealR L) = true ∧ ringSafe (idealR L) = true ∧ rIds (idealR L) = L := by
  have h' := h
  unfold rNewOk at h'
  simp only [Bool.and_eq_true, decide_eq_true_eq] at h'
  obtain ⟨h1, h2⟩ := h'
  have hn := (ndB_iff.1 h1).2
  have hv := idealR_valid hn
  refine ⟨by unfold rNew; rw [h]; rfl, ?_, ideal_safe hn h2, ?_⟩
  · unfold rIdeal
    rw [hv, idealR_ids, idealR_len, decide_eq_true h2, decide_eq_true rfl]; rfl
  · unfold rIds
    rw [hv, if_pos rfl, idealR_ids]

set_option maxRecDepth 100000 in
set_option maxHeartbeats 4000000 in
theorem lawRingNew_any (v : Value) (w : World) (h : CodeAt w v) :
    Calls Try.prog 3 #[v] w fun e w' => e = .returned (.bool true) ∧ Below w.heap.size w w' := by
  have H := Lib.hid h
  obtain ⟨pb, n, cap, rfl, hn1, hn2, -⟩ := h
  unfold maxLen at hn2
  by_cases hbig : 1048576 < n
  · go_enter Try.func3, Try.ntmps3
    go_wp2
    go_ret
    exact ⟨rfl, Below.refl _ _⟩
  have hbig' : n ≤ 1048576 := by omega
  clear hbig
  go_enter Try.func3, Try.ntmps3
  go_wp2_with fail
  refine (drawRingNew_any _ _ H.out).mono ?_
  rintro e w1 ⟨u, L, rfl, hat, hl20, hb1⟩
  have HAT := Lib.hid hat
  have hz1 := hb1.size
  clear hat
  cases hk : rNewOk L
  · have HK := Lib.hid hk
    clear hk
    go_wp2_with (first | (have _ := hb4; go_at_call 18; refine (sameRing_any _ _ (rNew L) (rNew L) _ HA.out (HB.out.below hb4 (Nat.le_refl _))).mono ?_; rw [decide_eq_true rfl]; rintro e w5 ⟨rfl, hb5⟩) | (go_at_call 18; (with_reducible refine (sameRing_any _ _ (rNew L) (rNew L) _ HA1.out HB.out).mono ?_); rw [decide_eq_true rfl]; rintro e w4 ⟨rfl, hb4⟩; have HA := Lib.hid (HA1.out.below hb4 (Nat.le_refl _)); have hbC := (hb2.trans (hb3.mono hb2.size)).trans (hb4.mono (hb2.trans (hb3.mono hb2.size)).size); have hbD := hb1.trans (hbC.mono hz1)) | (go_at_call 16; refine (iRingNew_any _ L _ HAT.out).mono ?_; rw [HK.out]; rintro e w2 ⟨ua, rfl, hA, hb2⟩; have HA0 := Lib.hid hA.at; obtain ⟨pa, ca, ea⟩ := hA.at.form; subst ea; clear hA) | (go_at_call 17; refine (sRingNew_any _ L _ (HAT.out.below hb2 (Nat.le_refl _))).mono ?_; rw [HK.out]; rintro e w3 ⟨ub, rfl, hB, hb3⟩; have HB := Lib.hid hB.at; have HA1 := Lib.hid (HA0.out.below hb3 (Nat.le_refl _)); clear hB))
    go_ret
    exact ⟨rfl, hbD.trans (hb5.mono hbD.size)⟩
  have HK := Lib.hid hk
  obtain ⟨g1, g2, g3, g4⟩ := rNew_open hk
  rw [← g1] at g2 g3 g4
  have HG2 := Lib.hid g2
  have HG3 := Lib.hid g3
  have HG4 := Lib.hid g4
  clear hk g1 g2 g3 g4
  go_wp2_with (first | (go_at_call 18; (with_reducible refine (sameRing_any _ _ (rNew L) (rNew L) _ HA1.out HB.out).mono ?_); rw [decide_eq_true rfl]; rintro e w4 ⟨rfl, hb4⟩; have HA := Lib.hid (HA1.out.below hb4 (Nat.le_refl _)); have hbC := (hb2.trans (hb3.mono hb2.size)).trans (hb4.mono (hb2.trans (hb3.mono hb2.size)).size); have hbD := hb1.trans (hbC.mono hz1)) | (go_at_call 16; refine (iRingNew_any _ L _ HAT.out).mono ?_; rw [HK.out]; rintro e w2 ⟨ua, rfl, hA, hb2⟩; have HA0 := Lib.hid hA.at; obtain ⟨pa, ca, ea⟩ := hA.at.form; subst ea; clear hA) | (go_at_call 17; refine (sRingNew_any _ L _ (HAT.out.below hb2 (Nat.le_refl _))).mono ?_; rw [HK.out]; rintro e w3 ⟨ub, rfl, hB, hb3⟩; have HB := Lib.hid hB.at; have HA1 := Lib.hid (HA0.out.below hb3 (Nat.le_refl _)); clear hB) | (go_at_call 19; refine (iRingIdeal_any _ (rNew L) _ HA.out).mono ?_; rw [HG2.out]; rintro e w5 ⟨rfl, hb5⟩) | (go_at_call 20; refine (iRingSafe_any _ (rNew L) _ (HA.out.below hb5 (Nat.le_refl _))).mono ?_; rw [HG3.out]; rintro e w6 ⟨rfl, hb6⟩; have b56 := hb5.trans (hb6.mono hb5.size)) | (go_at_call 22; refine (iRingIds_any _ (rNew L) _ (HA.out.below b56 (Nat.le_refl _))).mono ?_; rw [HG4.out]; rintro e w7 ⟨u7, rfl, hI7, hb7⟩; have HI7 := Lib.hid hI7; clear hI7; have b57 := b56.trans (hb7.mono b56.size)) | (go_at_call 21; refine (sameInts_any _ _ L L _ HI7.out (HAT.out.below (hbC.trans (b57.mono hbC.size)) (Nat.le_refl _))).mono ?_; rw [decide_eq_true rfl]; rintro e w8 ⟨rfl, nd, rfl⟩))
  go_ret
  exact ⟨rfl, below_drewN (hbD.trans (b57.mono hbD.size)) nd⟩

end Go.Proofs.Ytnoamohpkngbdaa
