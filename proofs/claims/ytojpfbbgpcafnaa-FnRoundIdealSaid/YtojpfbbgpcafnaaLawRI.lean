/-
  Walks: the law FnRoundIdeal.
-/
import Derived.Test.YtojpfbbgpcafnaaLawN2
import Derived.Test.YtojpfbbgpcafnaaDrawR
import Derived.Test.YtojpfbbgpcafnaaSRound
import Derived.Test.YtojpfbbgpcafnaaIRound
import Derived.Test.YtojpfbbgpcafnaaIIdl
namespace Go.Proofs.Ytojpfbbgpcafnaa
open Go.RowKit

theorem round_ideal {r : List Nd} (h : ringSafe r = true) : decide (rRound r = r) = rIdeal r := by
  unfold rRound rIdeal
  rw [h, if_pos rfl, safe_valid h, decide_eq_true (safe_len h), Bool.true_and, Bool.true_and, decide_eq_decide]
  exact round_rest h

set_option maxRecDepth 100000 in
set_option maxHeartbeats 4000000 in
theorem lawRoundIdeal_any (v : Value) (w : World) (h : CodeAt w v) :
    Calls Try.prog 3 #[v] w fun e w' => e = .returned (.bool true) ∧ Below w.heap.size w w' := by
  have H := Lib.hid h
  obtain ⟨pb, n, cap, rfl, hn1, hn2, -⟩ := h
  unfold maxLen at hn2
  by_cases hbig : 1048576 < n
  · go_enter Try.func3, Try.ntmps3
    go_wp2
    go_ret
    exact ⟨rfl, Below.refl _ _⟩
  have hbig' : n ≤ 1048576 := by omega
  clear hbig
  go_enter Try.func3, Try.ntmps3
  go_wp2_with fail
  refine (drawRingRound_any _ _ H.out).mono ?_
  rintro e w1 ⟨u, y, rfl, hat, hsm, hb1⟩
  have HAT := Lib.hid hat
  have hz1 := hb1.size
  have hy10 := hsm.2.1
  have hy1 := hsm.1
  have hyS := Lib.hid hsm
  obtain ⟨p, cp, rfl⟩ := hat.form
  clear hsm hat
  cases hs : ringSafe y
  · have HS := Lib.hid hs
    clear hs
    go_wp2_with (first | (have _ := hb5; go_at_call 16; refine (sameRing_any _ _ (rRound y) (rRound y) _ (HA.out.below hb5 (Nat.le_refl _)) (HB.out.below (hb4.trans (hb5.mono hb4.size)) (Nat.le_refl _))).mono ?_; rw [decide_eq_true rfl]; rintro e w6 ⟨rfl, hb6⟩) | (go_at_call 16; refine (sameRing_any _ _ (rRound y) (rRound y) _ HA1.out HB.out).mono ?_; rw [decide_eq_true rfl]; rintro e w4 ⟨rfl, hb4⟩; have HA := Lib.hid (HA1.out.below hb4 (Nat.le_refl _)); have hbC := (hb2.trans (hb3.mono hb2.size)).trans (hb4.mono (hb2.trans (hb3.mono hb2.size)).size); have HC := Lib.hid (HAT.out.below hbC (Nat.le_refl _)); have hbD := hb1.trans (hbC.mono hz1)) | (go_at_call 17; refine (sRingSafe_any _ y _ HC.out).mono ?_; rw [HS.out]; rintro e w5 ⟨rfl, hb5⟩) | (go_at_call 14; refine (iRingRound_any _ y _ HAT.out).mono ?_; rintro e w2 ⟨ua, rfl, hA, hb2⟩; have HA0 := Lib.hid hA.at; obtain ⟨pa, ca, ea⟩ := hA.at.form; subst ea; clear hA) | (go_at_call 15; refine (sRingRound_any _ y _ (HAT.out.below hb2 (Nat.le_refl _))).mono ?_; rintro e w3 ⟨ub, rfl, hB, hb3⟩; have HB := Lib.hid hB.at; have HA1 := Lib.hid (HA0.out.below hb3 (Nat.le_refl _)); clear hB))
    go_ret
    exact ⟨rfl, hbD.trans ((hb5.trans (hb6.mono hb5.size)).mono hbD.size)⟩
  have HS := Lib.hid hs
  clear hs
  have HRI := Lib.hid (round_ideal HS.out)
  cases hi : rIdeal y
  all_goals
    rw [hi] at HRI
    have HI := Lib.hid hi
    clear hi
    go_wp2_with (first | (go_at_call 16; (with_reducible refine (sameRing_any _ _ (rRound y) (rRound y) _ HA1.out HB.out).mono ?_); rw [decide_eq_true rfl]; rintro e w4 ⟨rfl, hb4⟩; have HA := Lib.hid (HA1.out.below hb4 (Nat.le_refl _)); have hbC := (hb2.trans (hb3.mono hb2.size)).trans (hb4.mono (hb2.trans (hb3.mono hb2.size)).size); have HC := Lib.hid (HAT.out.below hbC (Nat.le_refl _)); have hbD := hb1.trans (hbC.mono hz1)) | (go_at_call 17; refine (sRingSafe_any _ y _ HC.out).mono ?_; rw [HS.out]; rintro e w5 ⟨rfl, hb5⟩; have HC5 := Lib.hid (HC.out.below hb5 (Nat.le_refl _)); have HA5 := Lib.hid (HA.out.below hb5 (Nat.le_refl _)); have hbE := hbD.trans (hb5.mono hbD.size)) | (go_at_call 14; refine (iRingRound_any _ y _ HAT.out).mono ?_; rintro e w2 ⟨ua, rfl, hA, hb2⟩; have HA0 := Lib.hid hA.at; obtain ⟨pa, ca, ea⟩ := hA.at.form; subst ea; clear hA) | (go_at_call 15; refine (sRingRound_any _ y _ (HAT.out.below hb2 (Nat.le_refl _))).mono ?_; rintro e w3 ⟨ub, rfl, hB, hb3⟩; have HB := Lib.hid hB.at; have HA1 := Lib.hid (HA0.out.below hb3 (Nat.le_refl _)); clear hB))
    go_wp2_with (first | (go_at_call 16; refine (sameRing_any _ _ (rRound y) y _ HA5.out HC5.out).mono ?_; rw [HRI.out]; rintro e w7 ⟨rfl, hb7⟩) | (go_at_call 18; refine (iRingIdeal_any _ y _ (HC5.out.below hb7 (Nat.le_refl _))).mono ?_; rw [HI.out]; rintro e w8 ⟨rfl, hb8⟩))
    go_ret
    exact ⟨rfl, hbE.trans ((hb7.trans (hb8.mono hb7.size)).mono hbE.size)⟩

end Go.Proofs.Ytojpfbbgpcafnaa
