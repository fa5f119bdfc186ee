/-
  Walks: the law FnJoinRefused.
-/
import Derived.Test.YtojpfbbgpcafnaaIRJoin
import Derived.Test.YtojpfbbgpcafnaaSJoin
import Derived.Test.YtojpfbbgpcafnaaDrawJ
import Derived.Test.YtojpfbbgpcafnaaLawN2
import Derived.Test.YtojpfbbgpcafnaaIsPt
namespace Go.Proofs.Ytojpfbbgpcafnaa
open Go.RowKit

theorem join_refused {r : List Nd} {id o : Int} (hs : ringSafe r = true) (hi : okP id = true) (ho : okP o = true) :
    rJoinOk r id o = (!live r id && live r o && decide (r.length < 10) && btw o id (a0 (ndOf r o))) ∧ (rJoinOk r id o = false → rJoin r id o = r) := by
  have hc : (ringSafe r && okP id && okP o) = true := by rw [hs, hi, ho]; rfl
  have hx : decide (fnd r id < 0) = !live r id := by
    cases hl : live r id
    · have : ¬ 0 ≤ fnd r id := fun h => by rw [fnd_live_iff.1 h] at hl; cases hl
      simp; omega
    · have := fnd_live_iff.2 hl
      simp; omega
  rcases fnd_cases r o with ⟨hf, -⟩ | ⟨k, hk, hf, -, -⟩
  · have e1 : rJoinOk r id o = false := stepB_miss hf _
    have hl : live r o = false := by
      cases hl : live r o
      · rfl
      · have := fnd_live_iff.2 hl; omega
    rw [e1, hl]
    exact ⟨by simp, fun _ => stepR_miss hc hf _⟩
  · have e1 : rJoinOk r id o = joinOk r id o k := stepB_hit hc hf _
    have e2 : rJoin r id o = if joinOk r id o k then joinK r id o k else r := stepR_hit hc hf _
    have hl : live r o = true := fnd_live_iff.1 (by omega)
    rw [e1, e2, hl, ndOf_hit hf]
    exact ⟨by unfold joinOk; rw [hx]; simp, fun h => by rw [h]; rfl⟩

set_option maxRecDepth 100000 in
set_option maxHeartbeats 8000000 in
theorem lawJoinRefused_any (v : Value) (w : World) (h : CodeAt w v) :
    Calls Try.prog 12 #[v] w fun e w' => e = .returned (.bool true) ∧ Below w.heap.size w w' := by
  have H := Lib.hid h
  obtain ⟨pb, n, cap, rfl, hn1, hn2, -⟩ := h
  unfold maxLen at hn2
  by_cases hbig : 1048576 < n
  · go_enter Try.func12, Try.ntmps12
    go_wp2
    go_ret
    exact ⟨rfl, Below.refl _ _⟩
  have hbig' : n ≤ 1048576 := by omega
  clear hbig
  have hf0 := field0
  have hf1 := field1
  have hf2 := field2
  go_enter Try.func12, Try.ntmps12
  go_wp2_with fail
  refine (drawRingJoin_any _ _ H.out).mono ?_
  rintro e w1 ⟨u, y, id, o, rfl, hat, hsm, hb1⟩
  have HAT := Lib.hid hat
  have hz1 := hb1.size
  have hy10 := hsm.2.1
  have hy1 := hsm.1
  have hyS := Lib.hid hsm
  obtain ⟨p, cp, rfl⟩ := hat.form
  clear hsm hat
  cases hs : ringSafe y
  · have HS := Lib.hid hs
    clear hs
    go_wp2_with (first | (have _ := hb5; go_at_call 16; refine (sameRing_any _ _ (rJoin y id o) (rJoin y id o) _ (HA.out.below hb5 (Nat.le_refl _)) (HB.out.below (hb4.trans (hb5.mono hb4.size)) (Nat.le_refl _))).mono ?_; rw [decide_eq_true rfl]; rintro e w6 ⟨rfl, hb6⟩) | (go_at_call 16; refine (sameRing_any _ _ (rJoin y id o) (rJoin y id o) _ HA1.out HB.out).mono ?_; rw [decide_eq_true rfl]; rintro e w4 ⟨rfl, hb4⟩; have HA := Lib.hid (HA1.out.below hb4 (Nat.le_refl _)); have hbC := (hb2.trans (hb3.mono hb2.size)).trans (hb4.mono (hb2.trans (hb3.mono hb2.size)).size); have HC := Lib.hid (HAT.out.below hbC (Nat.le_refl _)); have hbD := hb1.trans (hbC.mono hz1)) | (go_at_call 17; refine (sRingSafe_any _ y _ HC.out).mono ?_; rw [HS.out]; rintro e w5 ⟨rfl, hb5⟩) | (go_at_call 38; (with_reducible refine (isPoint_is id _ HI.out _).mono ?_); rintro e wp ⟨rfl, rfl⟩) | (go_at_call 38; (with_reducible refine (isPoint_is o _ HO.out _).mono ?_); rintro e wp ⟨rfl, rfl⟩) | (go_at_call 35; refine (iRingJoin_any _ y id o _ HAT.out).mono ?_; rintro e w2 ⟨ua, rfl, hA, hb2⟩; have HA0 := Lib.hid hA.at; obtain ⟨pa, ca, ea⟩ := hA.at.form; subst ea; clear hA) | (go_at_call 36; refine (sRingJoin_any _ y id o _ (HAT.out.below hb2 (Nat.le_refl _))).mono ?_; rintro e w3 ⟨ub, rfl, hB, hb3⟩; have HB := Lib.hid hB.at; have HA1 := Lib.hid (HA0.out.below hb3 (Nat.le_refl _)); clear hB))
    go_ret
    exact ⟨rfl, hbD.trans ((hb5.trans (hb6.mono hb5.size)).mono hbD.size)⟩
  have HS := Lib.hid hs
  clear hs
  cases hi : okP id
  · have HI := Lib.hid hi
    clear hi
    go_wp2_with (first | (have _ := hb5; go_at_call 16; refine (sameRing_any _ _ (rJoin y id o) (rJoin y id o) _ (HA.out.below hb5 (Nat.le_refl _)) (HB.out.below (hb4.trans (hb5.mono hb4.size)) (Nat.le_refl _))).mono ?_; rw [decide_eq_true rfl]; rintro e w6 ⟨rfl, hb6⟩) | (go_at_call 16; refine (sameRing_any _ _ (rJoin y id o) (rJoin y id o) _ HA1.out HB.out).mono ?_; rw [decide_eq_true rfl]; rintro e w4 ⟨rfl, hb4⟩; have HA := Lib.hid (HA1.out.below hb4 (Nat.le_refl _)); have hbC := (hb2.trans (hb3.mono hb2.size)).trans (hb4.mono (hb2.trans (hb3.mono hb2.size)).size); have HC := Lib.hid (HAT.out.below hbC (Nat.le_refl _)); have hbD := hb1.trans (hbC.mono hz1)) | (go_at_call 17; refine (sRingSafe_any _ y _ HC.out).mono ?_; rw [HS.out]; rintro e w5 ⟨rfl, hb5⟩) | (go_at_call 38; (with_reducible refine (isPoint_is id _ HI.out _).mono ?_); rintro e wp ⟨rfl, rfl⟩) | (go_at_call 38; (with_reducible refine (isPoint_is o _ HO.out _).mono ?_); rintro e wp ⟨rfl, rfl⟩) | (go_at_call 35; refine (iRingJoin_any _ y id o _ HAT.out).mono ?_; rintro e w2 ⟨ua, rfl, hA, hb2⟩; have HA0 := Lib.hid hA.at; obtain ⟨pa, ca, ea⟩ := hA.at.form; subst ea; clear hA) | (go_at_call 36; refine (sRingJoin_any _ y id o _ (HAT.out.below hb2 (Nat.le_refl _))).mono ?_; rintro e w3 ⟨ub, rfl, hB, hb3⟩; have HB := Lib.hid hB.at; have HA1 := Lib.hid (HA0.out.below hb3 (Nat.le_refl _)); clear hB))
    go_ret
    exact ⟨rfl, hbD.trans ((hb5.trans (hb6.mono hb5.size)).mono hbD.size)⟩
  have HI := Lib.hid hi
  clear hi
  cases ho : okP o
  · have HO := Lib.hid ho
    clear ho
    go_wp2_with (first | (have _ := hb5; go_at_call 16; refine (sameRing_any _ _ (rJoin y id o) (rJoin y id o) _ (HA.out.below hb5 (Nat.le_refl _)) (HB.out.below (hb4.trans (hb5.mono hb4.size)) (Nat.le_refl _))).mono ?_; rw [decide_eq_true rfl]; rintro e w6 ⟨rfl, hb6⟩) | (go_at_call 16; refine (sameRing_any _ _ (rJoin y id o) (rJoin y id o) _ HA1.out HB.out).mono ?_; rw [decide_eq_true rfl]; rintro e w4 ⟨rfl, hb4⟩; have HA := Lib.hid (HA1.out.below hb4 (Nat.le_refl _)); have hbC := (hb2.trans (hb3.mono hb2.size)).trans (hb4.mono (hb2.trans (hb3.mono hb2.size)).size); have HC := Lib.hid (HAT.out.below hbC (Nat.le_refl _)); have hbD := hb1.trans (hbC.mono hz1)) | (go_at_call 17; refine (sRingSafe_any _ y _ HC.out).mono ?_; rw [HS.out]; rintro e w5 ⟨rfl, hb5⟩) | (go_at_call 38; (with_reducible refine (isPoint_is id _ HI.out _).mono ?_); rintro e wp ⟨rfl, rfl⟩) | (go_at_call 38; (with_reducible refine (isPoint_is o _ HO.out _).mono ?_); rintro e wp ⟨rfl, rfl⟩) | (go_at_call 35; refine (iRingJoin_any _ y id o _ HAT.out).mono ?_; rintro e w2 ⟨ua, rfl, hA, hb2⟩; have HA0 := Lib.hid hA.at; obtain ⟨pa, ca, ea⟩ := hA.at.form; subst ea; clear hA) | (go_at_call 36; refine (sRingJoin_any _ y id o _ (HAT.out.below hb2 (Nat.le_refl _))).mono ?_; rintro e w3 ⟨ub, rfl, hB, hb3⟩; have HB := Lib.hid hB.at; have HA1 := Lib.hid (HA0.out.below hb3 (Nat.le_refl _)); clear hB))
    go_ret
    exact ⟨rfl, hbD.trans ((hb5.trans (hb6.mono hb5.size)).mono hbD.size)⟩
  have HO := Lib.hid ho
  clear ho
  obtain ⟨hz1', hz2'⟩ := join_refused HS.out HI.out HO.out
  have HZ1 := Lib.hid hz1'
  have HZ2 := Lib.hid hz2'
  clear hz1' hz2'
  have hv := safe_valid HS.out
  obtain ⟨i3, b3, x0, x1, e3⟩ := ndOf_form hv o
  have HV := Lib.hid hv
  have HE3 := Lib.hid e3
  clear hv e3
  go_wp2_with (first | (go_at_call 16; refine (sameRing_any _ _ (rJoin y id o) (rJoin y id o) _ HA1.out HB.out).mono ?_; rw [decide_eq_true rfl]; rintro e w4 ⟨rfl, hb4⟩; have HA := Lib.hid (HA1.out.below hb4 (Nat.le_refl _)); have hbC := (hb2.trans (hb3.mono hb2.size)).trans (hb4.mono (hb2.trans (hb3.mono hb2.size)).size); have HC := Lib.hid (HAT.out.below hbC (Nat.le_refl _)); have hbD := hb1.trans (hbC.mono hz1)) | (go_at_call 17; refine (sRingSafe_any _ y _ HC.out).mono ?_; rw [HS.out]; rintro e w5 ⟨rfl, hb5⟩; have HC5 := Lib.hid (HC.out.below hb5 (Nat.le_refl _)); have HA5 := Lib.hid (HA.out.below hb5 (Nat.le_refl _)); have hbE := hbD.trans (hb5.mono hbD.size)) | (go_at_call 38; (with_reducible refine (isPoint_is id _ HI.out _).mono ?_); rintro e wp ⟨rfl, rfl⟩) | (go_at_call 38; (with_reducible refine (isPoint_is o _ HO.out _).mono ?_); rintro e wp ⟨rfl, rfl⟩) | (go_at_call 35; refine (iRingJoin_any _ y id o _ HAT.out).mono ?_; rintro e w2 ⟨ua, rfl, hA, hb2⟩; have HA0 := Lib.hid hA.at; obtain ⟨pa, ca, ea⟩ := hA.at.form; subst ea; clear hA) | (go_at_call 36; refine (sRingJoin_any _ y id o _ (HAT.out.below hb2 (Nat.le_refl _))).mono ?_; rintro e w3 ⟨ub, rfl, hB, hb3⟩; have HB := Lib.hid hB.at; have HA1 := Lib.hid (HA0.out.below hb3 (Nat.le_refl _)); clear hB))
  obtain ⟨hid0, hid1⟩ := okP_iff.1 HI.out
  obtain ⟨ho0, ho1⟩ := okP_iff.1 HO.out
  have hidn : ¬ id < 0 := by omega
  have hz1 : rJoinOk y id o = (!live y id && live y o && decide (y.length < 10) && btw o id x0) := by have := HZ1.out; rw [HE3.out] at this; exact this
  have hz2 := HZ2.out
  have HX0 := Lib.hid (show live y o = true → okP x0 = true from fun hl => by
    have h := (valid_node HV.out (ndOf_live hl).2).2.2.2
    rw [HE3.out] at h
    have h2 : posAll [x0, x1] = true := h
    rw [posAll2, Bool.and_eq_true] at h2
    exact h2.1)
  cases hok : rJoinOk y id o
  · have HKF := Lib.hid (show decide (rJoin y id o = y) = true from decide_eq_true (hz2 hok))
    rw [hok] at hz1
    clear hz2 hok
    cases hl : live y id
    · have HL := Lib.hid hl
      rw [hl] at hz1
      clear hl
      cases hlo : live y o
      · have HLO := Lib.hid hlo
        clear hlo hz1
        go_wp2_with fail
        refine (nodeAtL_dead _ y id _ HC5.out HL.out).mono ?_
        rintro e w6 ⟨va, rfl, -, hb6⟩
        have HC6 := Lib.hid (HC5.out.below hb6 (Nat.le_refl _))
        have HA6 := Lib.hid (HA5.out.below hb6 (Nat.le_refl _))
        go_wp2_with fail
        refine (nodeAtL_dead _ y o _ HC6.out HLO.out).mono ?_
        rintro e w7 ⟨vb, rfl, -, hb7⟩
        have HC7 := Lib.hid (HC6.out.below hb7 (Nat.le_refl _))
        have HA7 := Lib.hid (HA6.out.below hb7 (Nat.le_refl _))
        have hbF := hbE.trans ((hb6.trans (hb7.mono hb6.size)).mono hbE.size)
        go_wp2_with fail
        refine (sameRing_any _ _ (rJoin y id o) y _ HA7.out HC7.out).mono ?_
        rw [HKF.out]
        rintro e w8 ⟨rfl, hb8⟩
        go_wp2
        go_ret
        exact ⟨rfl, hbF.trans (hb8.mono hbF.size)⟩
      · have HLO := Lib.hid hlo
        rw [hlo] at hz1
        have HZZ := Lib.hid hz1
        clear hlo hz1
        go_wp2_with fail
        refine (nodeAtL_dead _ y id _ HC5.out HL.out).mono ?_
        rintro e w6 ⟨va, rfl, -, hb6⟩
        have HC6 := Lib.hid (HC5.out.below hb6 (Nat.le_refl _))
        have HA6 := Lib.hid (HA5.out.below hb6 (Nat.le_refl _))
        by_cases h10 : y.length < 10
        · have hbt : btw o id x0 = false := by
            have h := HZZ.out
            rw [decide_eq_true h10] at h
            simpa using h.symm
          have HB := Lib.hid ((cbtw_ok HO.out HI.out (HX0.out HLO.out)).trans hbt)
          clear hbt
          go_wp2_with fail
          refine (nodeAtL_live _ y o _ HC6.out HLO.out).mono ?_
          rintro e w7 ⟨vb, rfl, -, hb7⟩
          have HC7 := Lib.hid (HC6.out.below hb7 (Nat.le_refl _))
          have HA7 := Lib.hid (HA6.out.below hb7 (Nat.le_refl _))
          have hbF := hbE.trans ((hb6.trans (hb7.mono hb6.size)).mono hbE.size)
          go_wp2_with fail
          refine (nodeAtL_two _ y o i3 b3 x0 x1 _ HC7.out HE3.out).mono ?_
          rintro e w8 ⟨n3, o3, c3, rfl, k1, k2, k3, k4, k5, hb8⟩
          have HC8 := Lib.hid (HC7.out.below hb8 (Nat.le_refl _))
          have HA8 := Lib.hid (HA7.out.below hb8 (Nat.le_refl _))
          have hbG := hbF.trans (hb8.mono hbF.size)
          go_wp2_with (go_at_call 39; refine (iBetween_is _ _ _ _ HB.out _).mono ?_; rintro e w9 ⟨rfl, hb9⟩; have HC9 := Lib.hid (HC8.out.below hb9 (Nat.le_refl _)); have HA9 := Lib.hid (HA8.out.below hb9 (Nat.le_refl _)); have hbH := hbG.trans (hb9.mono hbG.size))
          refine (sameRing_any _ _ (rJoin y id o) y _ HA9.out HC9.out).mono ?_
          rw [HKF.out]
          rintro e w10 ⟨rfl, hb10⟩
          go_wp2
          go_ret
          exact ⟨rfl, hbH.trans (hb10.mono hbH.size)⟩
        · go_wp2_with fail
          refine (nodeAtL_live _ y o _ HC6.out HLO.out).mono ?_
          rintro e w7 ⟨vb, rfl, -, hb7⟩
          have HC7 := Lib.hid (HC6.out.below hb7 (Nat.le_refl _))
          have HA7 := Lib.hid (HA6.out.below hb7 (Nat.le_refl _))
          have hbF := hbE.trans ((hb6.trans (hb7.mono hb6.size)).mono hbE.size)
          have h10' : 10 ≤ y.length := by omega
          go_wp2_with fail
          refine (sameRing_any _ _ (rJoin y id o) y _ HA7.out HC7.out).mono ?_
          rw [HKF.out]
          rintro e w8 ⟨rfl, hb8⟩
          go_wp2
          go_ret
          exact ⟨rfl, hbF.trans (hb8.mono hbF.size)⟩
    · have HL := Lib.hid hl
      clear hl hz1
      go_wp2_with fail
      refine (nodeAtL_live _ y id _ HC5.out HL.out).mono ?_
      rintro e w6 ⟨va, rfl, -, hb6⟩
      have HC6 := Lib.hid (HC5.out.below hb6 (Nat.le_refl _))
      have HA6 := Lib.hid (HA5.out.below hb6 (Nat.le_refl _))
      have hbF := hbE.trans (hb6.mono hbE.size)
      go_wp2_with fail
      refine (sameRing_any _ _ (rJoin y id o) y _ HA6.out HC6.out).mono ?_
      rw [HKF.out]
      rintro e w8 ⟨rfl, hb8⟩
      go_wp2
      go_ret
      exact ⟨rfl, hbF.trans (hb8.mono hbF.size)⟩
  · rw [hok] at hz1
    have hz3 : ((live y id = false ∧ live y o = true) ∧ y.length < 10) ∧ btw o id x0 = true := by simpa using hz1.symm
    obtain ⟨⟨⟨hl, hlo⟩, h10⟩, hbt⟩ := hz3
    have HL := Lib.hid hl
    have HLO := Lib.hid hlo
    have HB := Lib.hid ((cbtw_ok HO.out HI.out (HX0.out HLO.out)).trans hbt)
    clear hl hlo hbt hz1 hz2 hok
    go_wp2_with fail
    refine (nodeAtL_dead _ y id _ HC5.out HL.out).mono ?_
    rintro e w6 ⟨va, rfl, -, hb6⟩
    have HC6 := Lib.hid (HC5.out.below hb6 (Nat.le_refl _))
    go_wp2_with fail
    refine (nodeAtL_live _ y o _ HC6.out HLO.out).mono ?_
    rintro e w7 ⟨vb, rfl, -, hb7⟩
    have HC7 := Lib.hid (HC6.out.below hb7 (Nat.le_refl _))
    have hbF := hbE.trans ((hb6.trans (hb7.mono hb6.size)).mono hbE.size)
    go_wp2_with fail
    refine (nodeAtL_two _ y o i3 b3 x0 x1 _ HC7.out HE3.out).mono ?_
    rintro e w8 ⟨n3, o3, c3, rfl, k1, k2, k3, k4, k5, hb8⟩
    have hbG := hbF.trans (hb8.mono hbF.size)
    go_wp2_with (go_at_call 39; refine (iBetween_is _ _ _ _ HB.out _).mono ?_; rintro e w9 ⟨rfl, hb9⟩)
    go_ret
    exact ⟨rfl, hbG.trans (hb9.mono hbG.size)⟩

end Go.Proofs.Ytojpfbbgpcafnaa
