/-
  Walks: the laws FnIdealSafe and FnIdealOne.
-/
import Derived.Test.YtnoamohpkngbdaaLawT
import Derived.Test.YtnoamohpkngbdaaLawK
import Derived.Test.YtnoamohpkngbdaaIIdl
import Derived.Test.YtnoamohpkngbdaaSIdl
import Derived.Test.YtnoamohpkngbdaaIPr
namespace Go.Proofs.Ytnoamohpkngbdaa
open Go.RowKit

theorem rIdeal_open {r : List Nd} (h : rIdeal r = true) : ringValid r = true ∧ 3 ≤ r.length ∧ r = idealR (r.map Nd.id) ∧ ringSafe r = true ∧ (prin r).length = r.length := by
  unfold rIdeal at h
  simp only [Bool.and_eq_true, decide_eq_true_eq] at h
  obtain ⟨⟨h1, h2⟩, h3⟩ := h
  have hn := nodesOk_ids h1
  have hs := ideal_safe hn (by simpa using h2)
  have hp := ideal_prin hn
  rw [← h3] at hs hp
  exact ⟨h1, h2, h3, hs, by rw [hp]; simp⟩

set_option maxHeartbeats 2000000 in
theorem lawIdealSafe_any (v : Value) (w : World) (h : CodeAt w v) :
    Calls Try.prog 12 #[v] w fun e w' => e = .returned (.bool true) ∧ Below w.heap.size w w' := by
  have H := Lib.hid h
  obtain ⟨pb, n, cap, rfl, hn1, hn2, -⟩ := h
  unfold maxLen at hn2
  by_cases hbig : 1048576 < n
  · go_enter Try.func12, Try.ntmps12
    go_wp2
    go_ret
    exact ⟨rfl, Below.refl _ _⟩
  have hbig' : n ≤ 1048576 := by omega
  clear hbig
  go_enter Try.func12, Try.ntmps12
  go_wp2_with fail
  refine (drawRingIdeal_any _ _ H.out).mono ?_
  rintro e w1 ⟨u, y, rfl, hat, hsm, hb1⟩
  have HAT := Lib.hid hat
  have hz1 := hb1.size
  have hy10 := hsm.2.1
  have hy1 := hsm.1
  obtain ⟨p, cp, rfl⟩ := hat.form
  clear hsm hat
  cases hk : rIdeal y
  · have HK := Lib.hid hk
    clear hk
    go_wp2_with (first | (go_at_call 19; refine (iRingIdeal_any _ y _ HAT.out).mono ?_; rw [HK.out]; rintro e w2 ⟨rfl, hb2⟩) | (go_at_call 37; refine (sRingIdeal_any _ y _ (HAT.out.below hb2 (Nat.le_refl _))).mono ?_; rw [HK.out]; rintro e w3 ⟨rfl, hb3⟩; have hbC := hb2.trans (hb3.mono hb2.size); have HC := Lib.hid (HAT.out.below hbC (Nat.le_refl _)); have hbD := hb1.trans (hbC.mono hz1)))
    go_ret
    exact ⟨rfl, hbD⟩
  have HK := Lib.hid hk
  obtain ⟨h1, -, -, h4, h5⟩ := rIdeal_open hk
  have HV := Lib.hid h1
  have HS := Lib.hid h4
  have HP := Lib.hid h5
  clear hk h1 h4 h5
  go_wp2_with (first | (go_at_call 19; refine (iRingIdeal_any _ y _ HAT.out).mono ?_; rw [HK.out]; rintro e w2 ⟨rfl, hb2⟩) | (go_at_call 37; refine (sRingIdeal_any _ y _ (HAT.out.below hb2 (Nat.le_refl _))).mono ?_; rw [HK.out]; rintro e w3 ⟨rfl, hb3⟩; have hbC := hb2.trans (hb3.mono hb2.size); have HC := Lib.hid (HAT.out.below hbC (Nat.le_refl _)); have hbD := hb1.trans (hbC.mono hz1)) | (go_at_call 20; refine (iRingSafe_any _ y _ HC.out).mono ?_; rw [HS.out]; rintro e w4 ⟨rfl, hb4⟩) | (go_at_call 29; refine (iRingPrincipals_any _ y _ (HC.out.below hb4 (Nat.le_refl _)) HV.out).mono ?_; rintro e w5 ⟨u5, rfl, hO5, hb5⟩; obtain ⟨p5, c5, e5⟩ := own_slice hO5; subst e5))
  go_ret
  exact ⟨ret_bool (by have := HP.out; simp [this]), hbD.trans ((hb4.trans (hb5.mono hb4.size)).mono hbD.size)⟩

end Go.Proofs.Ytnoamohpkngbdaa
