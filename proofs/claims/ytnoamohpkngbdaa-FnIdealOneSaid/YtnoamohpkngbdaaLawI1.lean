/-
  Walks: the law FnIdealOne.
-/
import Derived.Test.YtnoamohpkngbdaaLawId
import Derived.Test.YtnoamohpkngbdaaIRIds
namespace Go.Proofs.Ytnoamohpkngbdaa
open Go.RowKit

set_option maxHeartbeats 2000000 in
theorem lawIdealOne_any (v : Value) (w : World) (h : CodeAt w v) :
    Calls Try.prog 14 #[v] w fun e w' => e = .returned (.bool true) ∧ Below w.heap.size w w' := by
  have H := Lib.hid h
  obtain ⟨pb, n, cap, rfl, hn1, hn2, -⟩ := h
  unfold maxLen at hn2
  by_cases hbig : 1048576 < n
  · go_enter Try.func14, Try.ntmps14
    go_wp2
    go_ret
    exact ⟨rfl, Below.refl _ _⟩
  have hbig' : n ≤ 1048576 := by omega
  clear hbig
  go_enter Try.func14, Try.ntmps14
  go_wp2_with fail
  refine (drawRingIdeal_any _ _ H.out).mono ?_
  rintro e w1 ⟨u, y, rfl, hat, hsm, hb1⟩
  have HAT := Lib.hid hat
  have hz1 := hb1.size
  have hy10 := hsm.2.1
  have hy1 := hsm.1
  obtain ⟨p, cp, rfl⟩ := hat.form
  clear hsm hat
  cases hr : ringValid y
  · have HK := Lib.hid (show rIdeal y = false by unfold rIdeal; rw [hr]; rfl)
    have HI := Lib.hid (show rIds y = [] by unfold rIds; rw [hr]; rfl)
    have HN := Lib.hid (show rNewOk [] = false by rfl)
    clear hr
    go_wp2_with (first | (go_at_call 19; refine (iRingIdeal_any _ y _ HAT.out).mono ?_; rw [HK.out]; rintro e w2 ⟨rfl, hb2⟩) | (go_at_call 37; refine (sRingIdeal_any _ y _ (HAT.out.below hb2 (Nat.le_refl _))).mono ?_; rw [HK.out]; rintro e w3 ⟨rfl, hb3⟩; have hbC := hb2.trans (hb3.mono hb2.size); have HC := Lib.hid (HAT.out.below hbC (Nat.le_refl _)); have hbD := hb1.trans (hbC.mono hz1)) | (go_at_call 22; refine (iRingIds_any _ y _ HC.out).mono ?_; rw [HI.out]; rintro e w4 ⟨u4, rfl, hI4, hb4⟩; have H4 := Lib.hid hI4; clear hI4) | (go_at_call 16; refine (iRingNew_any _ [] _ H4.out).mono ?_; rw [HN.out]; rintro e w5 ⟨u5, rfl, -, hb5⟩))
    go_ret
    exact ⟨rfl, hbD.trans ((hb4.trans (hb5.mono hb4.size)).mono hbD.size)⟩
  have HI := Lib.hid (show rIds y = y.map Nd.id by unfold rIds; rw [hr]; rfl)
  have hno := rNewOk_ids hr
  by_cases h3 : 3 ≤ y.length
  · rw [decide_eq_true h3] at hno
    have HN := Lib.hid hno
    have HRN := Lib.hid (show rNew (y.map Nd.id) = idealR (y.map Nd.id) by unfold rNew; rw [hno]; rfl)
    have hsym : decide (idealR (y.map Nd.id) = y) = decide (y = idealR (y.map Nd.id)) := by rw [decide_eq_decide]; exact ⟨Eq.symm, Eq.symm⟩
    cases hd : decide (y = idealR (y.map Nd.id))
    all_goals
      have HK := Lib.hid (show rIdeal y = _ by unfold rIdeal; rw [hr, decide_eq_true h3, hd]; first | done | rfl)
      have HD := Lib.hid (hsym.trans hd)
      clear hd hr hno hsym
      go_wp2_with (first | (go_at_call 19; refine (iRingIdeal_any _ y _ HAT.out).mono ?_; rw [HK.out]; rintro e w2 ⟨rfl, hb2⟩) | (go_at_call 37; refine (sRingIdeal_any _ y _ (HAT.out.below hb2 (Nat.le_refl _))).mono ?_; rw [HK.out]; rintro e w3 ⟨rfl, hb3⟩; have hbC := hb2.trans (hb3.mono hb2.size); have HC := Lib.hid (HAT.out.below hbC (Nat.le_refl _)); have hbD := hb1.trans (hbC.mono hz1)) | (go_at_call 22; refine (iRingIds_any _ y _ HC.out).mono ?_; rw [HI.out]; rintro e w4 ⟨u4, rfl, hI4, hb4⟩; have H4 := Lib.hid hI4; clear hI4) | (go_at_call 16; refine (iRingNew_any _ (y.map Nd.id) _ H4.out).mono ?_; rw [HN.out, HRN.out]; rintro e w5 ⟨u5, rfl, hO5, hb5⟩; have H5 := Lib.hid hO5.at; clear hO5; have b45 := hb4.trans (hb5.mono hb4.size)) | (go_at_call 18; refine (sameRing_any _ _ (idealR (y.map Nd.id)) y _ H5.out (HC.out.below b45 (Nat.le_refl _))).mono ?_; rw [HD.out]; rintro e w6 ⟨rfl, hb6⟩))
      go_ret
      exact ⟨rfl, hbD.trans ((b45.trans (hb6.mono b45.size)).mono hbD.size)⟩
  · rw [decide_eq_false h3] at hno
    have HN := Lib.hid hno
    have HK := Lib.hid (show rIdeal y = false by unfold rIdeal; rw [decide_eq_false h3]; simp)
    clear hr hno h3
    go_wp2_with (first | (go_at_call 19; refine (iRingIdeal_any _ y _ HAT.out).mono ?_; rw [HK.out]; rintro e w2 ⟨rfl, hb2⟩) | (go_at_call 37; refine (sRingIdeal_any _ y _ (HAT.out.below hb2 (Nat.le_refl _))).mono ?_; rw [HK.out]; rintro e w3 ⟨rfl, hb3⟩; have hbC := hb2.trans (hb3.mono hb2.size); have HC := Lib.hid (HAT.out.below hbC (Nat.le_refl _)); have hbD := hb1.trans (hbC.mono hz1)) | (go_at_call 22; refine (iRingIds_any _ y _ HC.out).mono ?_; rw [HI.out]; rintro e w4 ⟨u4, rfl, hI4, hb4⟩; have H4 := Lib.hid hI4; clear hI4) | (go_at_call 16; refine (iRingNew_any _ (y.map Nd.id) _ H4.out).mono ?_; rw [HN.out]; rintro e w5 ⟨u5, rfl, -, hb5⟩))
    go_ret
    exact ⟨rfl, hbD.trans ((hb4.trans (hb5.mono hb4.size)).mono hbD.size)⟩

end Go.Proofs.Ytnoamohpkngbdaa
