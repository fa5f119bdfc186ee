/-
  Walks: the law FnCalmSteps.
-/
import Derived.Test.YtojpfbbgpcafnaaLawN2
import Derived.Test.YtojpfbbgpcafnaaDrawK
import Derived.Test.YtojpfbbgpcafnaaSCalm
import Derived.Test.YtojpfbbgpcafnaaIRCalm
import Derived.Test.YtojpfbbgpcafnaaIRCloser
import Derived.Test.YtojpfbbgpcafnaaIRNotify
import Derived.Test.YtojpfbbgpcafnaaIRAdopt
namespace Go.Proofs.Ytojpfbbgpcafnaa
open Go.RowKit

theorem calm_safe {r : List Nd} (h : ringSafe r = true) {id o : Int} (hi : okP id = true) (ho : okP o = true) : ringSafe (rAdopt (rNotify (rCloser (rStab r id) o id) id o) o) = true := by
  have f1 := rStab_fine h hi
  have f2 := f1.trans (rCloser_fine f1.1 ho hi)
  have f3 := f2.trans (rNotify_fine f2.1 hi ho)
  exact (f3.trans (rAdopt_fine f3.1 ho)).1

set_option maxRecDepth 100000 in
set_option maxHeartbeats 4000000 in
theorem lawCalmSteps_any (v v2 : Value) (w : World) (h : CodeAt w v) (h2 : CodeAt w v2) :
    Calls Try.prog 4 #[v, v2] w fun e w' => e = .returned (.bool true) ∧ Below w.heap.size w w' := by
  have H := Lib.hid h
  obtain ⟨pb, n, cap, rfl, hn1, hn2, -⟩ := h
  obtain ⟨pb2, N, cap2, rfl, hm1, hm2, -⟩ := h2
  unfold maxLen at hn2 hm2
  by_cases hbig : 1048576 < n
  · go_enter Try.func4, Try.ntmps4
    go_wp2
    go_ret
    exact ⟨rfl, Below.refl _ _⟩
  have hbig' : n ≤ 1048576 := by omega
  clear hbig
  by_cases hbig : 1048576 < N
  · go_enter Try.func4, Try.ntmps4
    go_wp2
    go_ret
    exact ⟨rfl, Below.refl _ _⟩
  have hbig2' : N ≤ 1048576 := by omega
  clear hbig
  have hf0 := field0
  have hf1 := field1
  have hf2 := field2
  go_enter Try.func4, Try.ntmps4
  go_wp2_with fail
  refine (drawRingCalm_any _ _ H.out).mono ?_
  rintro e w1 ⟨u, y, rfl, hat, hsm, hb1⟩
  have HAT := Lib.hid hat
  have hz1 := hb1.size
  have hy10 := hsm.2.1
  have hy1 := hsm.1
  have hyS := Lib.hid hsm
  obtain ⟨p, cp, rfl⟩ := hat.form
  clear hsm hat
  have HLN := Lib.hid (show ∀ i, i < y.length → (y.getD i default).after.length ≤ 1048576 from fun i hi => by have := hyS.out.2.2 i hi; omega)
  cases hs : ringSafe y
  · have HS := Lib.hid hs
    clear hs
    go_wp2_with (first | (have _ := hb5; go_at_call 16; refine (sameRing_any _ _ (rCalm y) (rCalm y) _ (HA.out.below hb5 (Nat.le_refl _)) (HB.out.below (hb4.trans (hb5.mono hb4.size)) (Nat.le_refl _))).mono ?_; rw [decide_eq_true rfl]; rintro e w6 ⟨rfl, hb6⟩) | (go_at_call 16; refine (sameRing_any _ _ (rCalm y) (rCalm y) _ HA1.out HB.out).mono ?_; rw [decide_eq_true rfl]; rintro e w4 ⟨rfl, hb4⟩; have HA := Lib.hid (HA1.out.below hb4 (Nat.le_refl _)); have hbC := (hb2.trans (hb3.mono hb2.size)).trans (hb4.mono (hb2.trans (hb3.mono hb2.size)).size); have HC := Lib.hid (HAT.out.below hbC (Nat.le_refl _)); have hbD := hb1.trans (hbC.mono hz1)) | (go_at_call 17; refine (sRingSafe_any _ y _ HC.out).mono ?_; rw [HS.out]; rintro e w5 ⟨rfl, hb5⟩) | (go_at_call 20; refine (iRingCalm_any _ y _ HAT.out (by omega) HLN.out).mono ?_; rintro e w2 ⟨ua, rfl, hA, hb2⟩; have HA0 := Lib.hid hA.at; obtain ⟨pa, ca, ea⟩ := hA.at.form; subst ea; clear hA) | (go_at_call 21; refine (sRingCalm_any _ y _ (HAT.out.below hb2 (Nat.le_refl _))).mono ?_; rintro e w3 ⟨ub, rfl, hB, hb3⟩; have HB := Lib.hid hB.at; have HA1 := Lib.hid (HA0.out.below hb3 (Nat.le_refl _)); clear hB))
    go_ret
    exact ⟨rfl, hbD.trans ((hb5.trans (hb6.mono hb5.size)).mono hbD.size)⟩
  have HS := Lib.hid hs
  clear hs
  go_upto_region 8 with (first | (go_at_call 16; refine (sameRing_any _ _ (rCalm y) (rCalm y) _ HA1.out HB.out).mono ?_; rw [decide_eq_true rfl]; rintro e w4 ⟨rfl, hb4⟩; have HA := Lib.hid (HA1.out.below hb4 (Nat.le_refl _)); have hbC := (hb2.trans (hb3.mono hb2.size)).trans (hb4.mono (hb2.trans (hb3.mono hb2.size)).size); have HC := Lib.hid (HAT.out.below hbC (Nat.le_refl _)); have hbD := hb1.trans (hbC.mono hz1)) | (go_at_call 17; refine (sRingSafe_any _ y _ HC.out).mono ?_; rw [HS.out]; rintro e w5 ⟨rfl, hb5⟩; have HC5 := Lib.hid (HC.out.below hb5 (Nat.le_refl _)); have HA5 := Lib.hid (HA.out.below hb5 (Nat.le_refl _)); have hbE := hbD.trans (hb5.mono hbD.size)) | (go_at_call 20; refine (iRingCalm_any _ y _ HAT.out (by omega) HLN.out).mono ?_; rintro e w2 ⟨ua, rfl, hA, hb2⟩; have HA0 := Lib.hid hA.at; obtain ⟨pa, ca, ea⟩ := hA.at.form; subst ea; clear hA) | (go_at_call 21; refine (sRingCalm_any _ y _ (HAT.out.below hb2 (Nat.le_refl _))).mono ?_; rintro e w3 ⟨ub, rfl, hB, hb3⟩; have HB := Lib.hid hB.at; have HA1 := Lib.hid (HA0.out.below hb3 (Nat.le_refl _)); clear hB))
  obtain ⟨k1, e1, j1⟩ : ∃ k1 : Nat, (N : Int) % (y.length : Int) = (k1 : Int) ∧ k1 < y.length := ⟨N % y.length, by simp, Nat.mod_lt _ (by omega)⟩
  obtain ⟨k2, e2, j2⟩ : ∃ k2 : Nat, (N : Int) / 7 % (y.length : Int) = (k2 : Int) ∧ k2 < y.length := ⟨(N / 7) % y.length, by simp, Nat.mod_lt _ (by omega)⟩
  obtain ⟨bY, oY, rfl, -, gY1, gY2, gY3, paY, caY, kY0, -, -, -⟩ := HC5.out.nd (k := k1) j1
  obtain ⟨bZ, oZ, eZ, -, -, -, -, paZ, caZ, kZ0, -, -, -⟩ := HC5.out.nd (k := k2) j2
  cases eZ
  have hi := (valid_node (safe_valid HS.out) (getD_mem j1)).1
  have ho := (valid_node (safe_valid HS.out) (getD_mem j2)).1
  obtain ⟨id, hid⟩ : ∃ x, (y.getD k1 default).id = x := ⟨_, rfl⟩
  obtain ⟨o, hod⟩ : ∃ x, (y.getD k2 default).id = x := ⟨_, rfl⟩
  rw [hid] at kY0 hi
  rw [hod] at kZ0 ho
  have HE := Lib.hid (law_calm_steps HS.out hi ho)
  have HSD := Lib.hid (calm_safe HS.out hi ho)
  have HLD := Lib.hid (show (rAdopt (rNotify (rCloser (rStab y id) o id) id o) o).length ≤ 1048576 ∧ ∀ i, i < (rAdopt (rNotify (rCloser (rStab y id) o id) id o) o).length → ((rAdopt (rNotify (rCloser (rStab y id) o id) id o) o).getD i default).after.length ≤ 1048576 from ⟨by have := (safe_shape HSD.out).1; omega, (safe_shape HSD.out).len⟩)
  have i0 : (0 : Int) ≤ (k1 : Int) := by omega
  have i1 : (k1 : Int) < (y.length : Int) := by omega
  have i2 : (0 : Int) ≤ (k2 : Int) := by omega
  have i3 : (k2 : Int) < (y.length : Int) := by omega
  have i4 : ((y.length : Int) == 0) = false := beq_eq_false_iff_ne.2 (by omega)
  clear hi ho hid hod
  go_wp2_with (first | (go_at_call 22; refine (iRingStabilize_any _ y id _ HC5.out).mono ?_; rintro e w6 ⟨ua6, rfl, hA6, hb6⟩; have H6 := Lib.hid hA6.at; clear hA6) | (go_at_call 23; refine (iRingCloser_any _ (rStab y id) o id _ H6.out).mono ?_; rintro e w7 ⟨ua7, rfl, hA7, hb7⟩; have H7 := Lib.hid hA7.at; clear hA7) | (go_at_call 24; refine (iRingNotify_any _ (rCloser (rStab y id) o id) id o _ H7.out).mono ?_; rintro e w8 ⟨ua8, rfl, hA8, hb8⟩; have H8 := Lib.hid hA8.at; clear hA8) | (go_at_call 25; refine (iRingAdopt_any _ (rNotify (rCloser (rStab y id) o id) id o) o _ H8.out).mono ?_; rintro e w9 ⟨ua9, rfl, hA9, hb9⟩; have H9 := Lib.hid hA9.at; clear hA9) | (go_at_call 20; refine (iRingCalm_any _ (rAdopt (rNotify (rCloser (rStab y id) o id) id o) o) _ H9.out HLD.out.1 HLD.out.2).mono ?_; rw [HE.out]; rintro e w10 ⟨ua10, rfl, hA10, hb10⟩; have H10 := Lib.hid hA10.at; clear hA10; have hb69 := hb6.trans ((hb7.trans ((hb8.trans ((hb9.trans (hb10.mono hb9.size)).mono hb8.size)).mono hb7.size)).mono hb6.size)) | (go_at_call 16; refine (sameRing_any _ _ (rCalm y) (rCalm y) _ H10.out (HA5.out.below hb69 (Nat.le_refl _))).mono ?_; rw [decide_eq_true rfl]; rintro e w11 ⟨rfl, hb11⟩))
  go_ret
  exact ⟨rfl, hbE.trans ((hb69.trans (hb11.mono hb69.size)).mono hbE.size)⟩

end Go.Proofs.Ytojpfbbgpcafnaa
