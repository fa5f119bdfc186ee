/-
  Contracts: RingIdeal of the reference.
-/
import Derived.Test.YtnoamohpkngbdaaSIds
import Derived.Test.YtnoamohpkngbdaaDraw2
import Derived.Test.YtnoamohpkngbdaaSSame
import Derived.Test.YtnoamohpkngbdaaRv
namespace Go.Proofs.Ytnoamohpkngbdaa
open Go.RowKit

set_option maxHeartbeats 1000000 in
theorem sRingIdeal_any (v : Value) (r : List Nd) (w : World) (hv : RingAt w v r) :
    Calls Try.prog 37 #[v] w fun e w' => e = .returned (.bool (rIdeal r)) ∧ Below w.heap.size w w' := by
  have HV := Lib.hid hv
  obtain ⟨p, cap, rfl, -, -, -⟩ := hv
  cases hr : ringValid r
  · have HR := Lib.hid hr
    have HI := Lib.hid (show rIdeal r = false by unfold rIdeal; rw [hr]; rfl)
    rw [HI.out]
    clear hr
    go_enter Try.func37, Try.ntmps37
    go_wp2_with (go_at_call 25; refine (sRingValid_any _ r _ HV.out).mono ?_; rw [HR.out]; rintro e w1 ⟨rfl, hb1⟩)
    go_ret
    exact ⟨rfl, hb1⟩
  have HR := Lib.hid hr
  have hl10 := ringValid_len hr
  by_cases h3 : 3 ≤ r.length
  · cases hd : decide (r = idealR (r.map Nd.id))
    all_goals
      have HD := Lib.hid hd
      have HI := Lib.hid (show rIdeal r = _ by unfold rIdeal; rw [hr, decide_eq_true h3, hd]; first | done | rfl)
      rw [HI.out]
      clear hd hr
      go_enter Try.func37, Try.ntmps37
      go_wp2_with (first | (go_at_call 25; refine (sRingValid_any _ r _ HV.out).mono ?_; rw [HR.out]; rintro e w1 ⟨rfl, hb1⟩) | (go_at_call 55; refine (l3Ids_any _ r _ (HV.out.below hb1 (Nat.le_refl _)) (by omega)).mono ?_; rintro e w2 ⟨u2, rfl, hO2, hb2⟩; have HI2 := Lib.hid (intsAt_own hO2); clear hO2) | (go_at_call 44; refine (l3Ideal_any _ (r.map Nd.id) _ HI2.out (by simp; omega)).mono ?_; rintro e w3 ⟨u3, rfl, hO3, hb3⟩; have HO3 := Lib.hid hO3.at; clear hO3; have b13 := hb1.trans ((hb2.trans (hb3.mono hb2.size)).mono hb1.size)) | (go_at_call 65; refine (l3Same_any _ _ r (idealR (r.map Nd.id)) _ (HV.out.below b13 (Nat.le_refl _)) HO3.out).mono ?_; rw [HD.out]; rintro e w4 ⟨rfl, hb4⟩))
      go_ret
      exact ⟨rfl, b13.trans (hb4.mono b13.size)⟩
  · have HI := Lib.hid (show rIdeal r = false by unfold rIdeal; rw [decide_eq_false h3]; simp)
    rw [HI.out]
    clear hr
    go_enter Try.func37, Try.ntmps37
    go_wp2_with (go_at_call 25; refine (sRingValid_any _ r _ HV.out).mono ?_; rw [HR.out]; rintro e w1 ⟨rfl, hb1⟩)
    go_ret
    exact ⟨rfl, hb1⟩

end Go.Proofs.Ytnoamohpkngbdaa
