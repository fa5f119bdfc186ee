/-
  Walks: the law FnRound.
-/
import Derived.Test.YtojpfbbgpcafnaaLawN2
import Derived.Test.YtojpfbbgpcafnaaDrawR
import Derived.Test.YtojpfbbgpcafnaaSRound
import Derived.Test.YtojpfbbgpcafnaaIRound
namespace Go.Proofs.Ytojpfbbgpcafnaa
open Go.RowKit

set_option maxRecDepth 100000 in
set_option maxHeartbeats 4000000 in
theorem lawRound_any (v : Value) (w : World) (h : CodeAt w v) :
    Calls Try.prog 9 #[v] w fun e w' => e = .returned (.bool true) ∧ Below w.heap.size w w' := by
  have H := Lib.hid h
  obtain ⟨pb, n, cap, rfl, hn1, hn2, -⟩ := h
  unfold maxLen at hn2
  by_cases hbig : 1048576 < n
  · go_enter Try.func9, Try.ntmps9
    go_wp2
    go_ret
    exact ⟨rfl, Below.refl _ _⟩
  have hbig' : n ≤ 1048576 := by omega
  clear hbig
  go_enter Try.func9, Try.ntmps9
  go_wp2_with fail
  refine (drawRingRound_any _ _ H.out).mono ?_
  rintro e w1 ⟨u, y, rfl, hat, hsm, hb1⟩
  have HAT := Lib.hid hat
  have hz1 := hb1.size
  have hy10 := hsm.2.1
  have hy1 := hsm.1
  have hyS := Lib.hid hsm
  obtain ⟨p, cp, rfl⟩ := hat.form
  clear hsm hat
  cases hs : ringSafe y
  · have HS := Lib.hid hs
    clear hs
    go_wp2_with (first | (have _ := hb5; go_at_call 16; refine (sameRing_any _ _ (rRound y) (rRound y) _ (HA.out.below hb5 (Nat.le_refl _)) (HB.out.below (hb4.trans (hb5.mono hb4.size)) (Nat.le_refl _))).mono ?_; rw [decide_eq_true rfl]; rintro e w6 ⟨rfl, hb6⟩) | (go_at_call 16; refine (sameRing_any _ _ (rRound y) (rRound y) _ HA1.out HB.out).mono ?_; rw [decide_eq_true rfl]; rintro e w4 ⟨rfl, hb4⟩; have HA := Lib.hid (HA1.out.below hb4 (Nat.le_refl _)); have hbC := (hb2.trans (hb3.mono hb2.size)).trans (hb4.mono (hb2.trans (hb3.mono hb2.size)).size); have HC := Lib.hid (HAT.out.below hbC (Nat.le_refl _)); have hbD := hb1.trans (hbC.mono hz1)) | (go_at_call 17; refine (sRingSafe_any _ y _ HC.out).mono ?_; rw [HS.out]; rintro e w5 ⟨rfl, hb5⟩) | (go_at_call 14; refine (iRingRound_any _ y _ HAT.out).mono ?_; rintro e w2 ⟨ua, rfl, hA, hb2⟩; have HA0 := Lib.hid hA.at; obtain ⟨pa, ca, ea⟩ := hA.at.form; subst ea; clear hA) | (go_at_call 15; refine (sRingRound_any _ y _ (HAT.out.below hb2 (Nat.le_refl _))).mono ?_; rintro e w3 ⟨ub, rfl, hB, hb3⟩; have HB := Lib.hid hB.at; have HA1 := Lib.hid (HA0.out.below hb3 (Nat.le_refl _)); clear hB))
    go_ret
    exact ⟨rfl, hbD.trans ((hb5.trans (hb6.mono hb5.size)).mono hbD.size)⟩
  have HS := Lib.hid hs
  clear hs
  have HRR := Lib.hid (show rRound y = roundTo y y.length by unfold rRound; rw [HS.out]; rfl)
  go_wp2_with (first | (go_at_call 16; refine (sameRing_any _ _ (rRound y) (rRound y) _ HA1.out HB.out).mono ?_; rw [decide_eq_true rfl]; rintro e w4 ⟨rfl, hb4⟩; have HA := Lib.hid (HA1.out.below hb4 (Nat.le_refl _)); have hbC := (hb2.trans (hb3.mono hb2.size)).trans (hb4.mono (hb2.trans (hb3.mono hb2.size)).size); have HC := Lib.hid (HAT.out.below hbC (Nat.le_refl _)); have hbD := hb1.trans (hbC.mono hz1)) | (go_at_call 17; refine (sRingSafe_any _ y _ HC.out).mono ?_; rw [HS.out]; rintro e w5 ⟨rfl, hb5⟩; have HC5 := Lib.hid (HC.out.below hb5 (Nat.le_refl _)); have HA5 := Lib.hid (HA.out.below hb5 (Nat.le_refl _)); have hbE := hbD.trans (hb5.mono hbD.size)) | (go_at_call 14; refine (iRingRound_any _ y _ HAT.out).mono ?_; rintro e w2 ⟨ua, rfl, hA, hb2⟩; have HA0 := Lib.hid hA.at; obtain ⟨pa, ca, ea⟩ := hA.at.form; subst ea; clear hA) | (go_at_call 15; refine (sRingRound_any _ y _ (HAT.out.below hb2 (Nat.le_refl _))).mono ?_; rintro e w3 ⟨ub, rfl, hB, hb3⟩; have HB := Lib.hid hB.at; have HA1 := Lib.hid (HA0.out.below hb3 (Nat.le_refl _)); clear hB))
  go_loopg [2, 6, 7, 8, 9] y.length (fun m _ x i _ _ wr => ∃ k : Nat, k ≤ y.length ∧ m = y.length - k ∧ i = .int .i64 k ∧ Hid (RingAt wr x (roundTo y k)) ∧ Below w5.heap.size w5 wr)
  case atStart => exact ⟨0, Nat.zero_le _, rfl, rfl, HC5, Below.refl _ _⟩
  case round =>
    obtain ⟨k, hk, rfl, rfl, HX, hwr⟩ := hrel
    have HW := Lib.hid hwr
    by_cases hlt : k < y.length
    · obtain ⟨bY, oY, rfl, -, gY1, gY2, gY3, paY, caY, kY0, -, -, -⟩ := (HC5.out.below hwr (Nat.le_refl _)).nd (k := k) hlt
      have hst := rStab_node (roundTo_fine HS.out k (by omega)) hlt
      obtain ⟨i, hi⟩ : ∃ x, (y.getD k default).id = x := ⟨_, rfl⟩
      rw [hi] at kY0 hst
      have HST := Lib.hid hst
      have i0 : (0 : Int) ≤ (k : Int) := by omega
      have i1 : (k : Int) < (y.length : Int) := by omega
      clear hi hst hwr
      go_wp2_with (go_at_call 22; refine (iRingStabilize_any _ (roundTo y k) i _ HX.out).mono ?_; rw [HST.out.1, HST.out.2]; rintro e w7 ⟨ux, rfl, hX, hb7⟩)
      go_roundg (y.length - (k + 1))
      case rel => exact ⟨k + 1, by omega, rfl, by go_num, Lib.hid hX.at, HW.out.trans (hb7.mono HW.out.size)⟩
      case measure => omega
    · obtain rfl : k = y.length := by omega
      have HRX := Lib.hid (show RingAt wr _ (rRound y) by rw [HRR.out]; exact HX.out)
      go_wp2_with (go_at_call 16; refine (sameRing_any _ _ (rRound y) (rRound y) _ HRX.out (HA5.out.below HW.out (Nat.le_refl _))).mono ?_; rw [decide_eq_true rfl]; rintro e w8 ⟨rfl, hb8⟩)
      go_ret
      exact ⟨rfl, hbE.trans ((HW.out.trans (hb8.mono HW.out.size)).mono hbE.size)⟩

end Go.Proofs.Ytojpfbbgpcafnaa
