/-
  Contracts: RingIdeal of the program.
-/
import Derived.Test.YtnoamohpkngbdaaINew
namespace Go.Proofs.Ytnoamohpkngbdaa
open Go.RowKit

theorem rNewOk_ids {r : List Nd} (h : ringValid r = true) : rNewOk (r.map Nd.id) = decide (3 ≤ r.length) := by
  have hn := nodesOk_ids h
  unfold rNewOk
  by_cases h3 : 3 ≤ r.length
  · rw [ndB_iff.2 ⟨by simp; omega, hn⟩, decide_eq_true h3]; simp; omega
  · rw [decide_eq_false h3, Bool.and_eq_false_iff]; right; simp; omega

set_option maxHeartbeats 1000000 in
theorem iRingIdeal_any (v : Value) (r : List Nd) (w : World) (hv : RingAt w v r) :
    Calls Try.prog 19 #[v] w fun e w' => e = .returned (.bool (rIdeal r)) ∧ Below w.heap.size w w' := by
  have HV := Lib.hid hv
  obtain ⟨p, cap, rfl, -, -, -⟩ := hv
  cases hr : ringValid r
  · have HR := Lib.hid hr
    have HI := Lib.hid (show rIdeal r = false by unfold rIdeal; rw [hr]; rfl)
    rw [HI.out]
    clear hr
    go_enter Try.func19, Try.ntmps19
    go_wp2_with (go_at_call 24; refine (iRingValid_any _ r _ HV.out).mono ?_; rw [HR.out]; rintro e w1 ⟨rfl, hb1⟩)
    go_ret
    exact ⟨rfl, hb1⟩
  have HR := Lib.hid hr
  have hl10 := ringValid_len hr
  have hno := rNewOk_ids hr
  by_cases h3 : 3 ≤ r.length
  · rw [decide_eq_true h3] at hno
    have HN := Lib.hid hno
    have HRN := Lib.hid (show rNew (r.map Nd.id) = idealR (r.map Nd.id) by unfold rNew; rw [hno]; rfl)
    cases hd : decide (r = idealR (r.map Nd.id))
    all_goals
      have HD := Lib.hid hd
      have HI := Lib.hid (show rIdeal r = _ by unfold rIdeal; rw [hr, decide_eq_true h3, hd]; first | done | rfl)
      rw [HI.out]
      clear hd hr hno
      go_enter Try.func19, Try.ntmps19
      go_wp2_with (first | (go_at_call 24; refine (iRingValid_any _ r _ HV.out).mono ?_; rw [HR.out]; rintro e w1 ⟨rfl, hb1⟩) | (go_at_call 46; refine (idsOf_any _ r _ (HV.out.below hb1 (Nat.le_refl _)) (by omega)).mono ?_; rintro e w2 ⟨u2, rfl, hO2, hb2⟩; have HI2 := Lib.hid (intsAt_own hO2); clear hO2) | (go_at_call 16; refine (iRingNew_any _ (r.map Nd.id) _ HI2.out).mono ?_; rw [HN.out, HRN.out]; rintro e w3 ⟨u3, rfl, hO3, hb3⟩; have HO3 := Lib.hid hO3.at; clear hO3; have b13 := hb1.trans ((hb2.trans (hb3.mono hb2.size)).mono hb1.size)) | (go_at_call 47; refine (iSameRing_any _ _ r (idealR (r.map Nd.id)) _ (HV.out.below b13 (Nat.le_refl _)) HO3.out).mono ?_; rw [HD.out]; rintro e w4 ⟨rfl, hb4⟩))
      go_ret
      exact ⟨rfl, b13.trans (hb4.mono b13.size)⟩
  · rw [decide_eq_false h3] at hno
    have HN := Lib.hid hno
    have HI := Lib.hid (show rIdeal r = false by unfold rIdeal; rw [decide_eq_false h3]; simp)
    rw [HI.out]
    clear hr hno h3
    go_enter Try.func19, Try.ntmps19
    go_wp2_with (first | (go_at_call 24; refine (iRingValid_any _ r _ HV.out).mono ?_; rw [HR.out]; rintro e w1 ⟨rfl, hb1⟩) | (go_at_call 46; refine (idsOf_any _ r _ (HV.out.below hb1 (Nat.le_refl _)) (by omega)).mono ?_; rintro e w2 ⟨u2, rfl, hO2, hb2⟩; have HI2 := Lib.hid (intsAt_own hO2); clear hO2) | (go_at_call 16; refine (iRingNew_any _ (r.map Nd.id) _ HI2.out).mono ?_; rw [HN.out]; rintro e w3 ⟨u3, rfl, -, hb3⟩; have b13 := hb1.trans ((hb2.trans (hb3.mono hb2.size)).mono hb1.size)))
    go_ret
    exact ⟨rfl, b13⟩

end Go.Proofs.Ytnoamohpkngbdaa
