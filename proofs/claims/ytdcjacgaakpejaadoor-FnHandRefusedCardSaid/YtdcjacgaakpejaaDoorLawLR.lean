/-
  Walks: the law FnHandRefused.
-/
import Derived.Test.YtdcjacgaakpejaaDoorLawLC
namespace Go.Proofs.YtdcjacgaakpejaaDoor
open Go.RowKit

set_option maxRecDepth 100000 in
set_option maxHeartbeats 8000000 in
theorem lawHandRefused_any (v : Value) (a0 a1 : Addr) (w : World) (h : CodeAt w v) (hL : Laid w a0 a1) :
    Calls Tryd.prog 5 #[v] w fun e w' => e = .returned (.bool true) ∧ Below w.heap.size w w' := by
  have H := Lib.hid h
  have HL := Lib.hid hL
  obtain ⟨pb, n, cap, rfl, hn1, hn2, -⟩ := h
  unfold maxLen at hn2
  clear hL
  by_cases hbig : 1048576 < n
  · go_enter Tryd.func5, Tryd.ntmps5
    go_wp2
    go_ret
    exact ⟨rfl, Below.refl _ _⟩
  have hbig' : n ≤ 1048576 := by omega
  clear hbig
  go_enter Tryd.func5, Tryd.ntmps5
  go_wp2_with fail
  refine (drawLeaseHand_any _ _ H.out).mono ?_
  rintro e w1 ⟨u, xs, fr, at', to', un, rfl, hu, hb1⟩
  have HU := Lib.hid hu
  obtain ⟨pu, cu, rfl, hu1, hu2⟩ := hu.form
  have HLx := Lib.hid (HL.out.below hb1 (Nat.le_refl _))
  obtain ⟨R, hR⟩ : ∃ R, handR xs fr at' to' un = R := ⟨_, rfl⟩
  obtain ⟨c, hc⟩ : ∃ c, handOk xs fr at' to' un = c := ⟨_, rfl⟩
  have HR := Lib.hid hR
  have HC := Lib.hid hc
  clear hu hR hc
  go_wp2_with fail
  refine (iLeaseHand_any _ xs fr at' to' un a0 a1 _ HU.out HLx.out).mono ?_
  rw [HR.out, HC.out]
  rintro e w2 ⟨uo, rfl, hO2, hb2⟩
  have hb02 := hb1.trans (hb2.mono hb1.size)
  go_wp2_with fail
  refine (sLeaseHand_any _ xs fr at' to' un _ (by exact HU.out.below hb2 (Nat.le_refl _))).mono ?_
  rw [HR.out, HC.out]
  rintro e w3 ⟨ut, rfl, hT3, hb3⟩
  have hb03 := hb02.trans (hb3.mono hb02.size)
  have hb13 := hb2.trans (hb3.mono hb2.size)
  have hO3 := Lib.hid (hO2.at.below hb3 (Nat.le_refl _))
  have hU3 := Lib.hid (HU.out.below hb13 (Nat.le_refl _))
  have hT3' := Lib.hid hT3.at
  clear hO2 hT3
  have hcc : (c != c) = false := by simp
  have hcc' : (c == c) = true := by simp
  obtain ⟨pt, ct, rfl, ht1, ht2⟩ := hT3'.out.form
  cases hA : lsArgs xs fr at' to' un
  · have hRe : R = [] := by rw [← HR.out]; unfold handR; rw [hA]; rfl
    subst hRe
    clear hA ht1
    go_wp2_with fail
    refine (sameLeases_any _ _ [] [] _ hO3.out hT3'.out).mono ?_
    rw [decide_eq_true rfl]
    rintro e w4 ⟨rfl, hb4⟩
    go_wp2_with fail
    refine (sameLeases_any _ _ [] [] _ (by exact hO3.out.below hb4 (Nat.le_refl _)) (by exact hT3'.out.below hb4 (Nat.le_refl _))).mono ?_
    rw [decide_eq_true rfl]
    rintro e w5 ⟨rfl, hb5⟩
    go_wp2
    go_ret
    exact ⟨rfl, (hb03.trans (hb4.mono hb03.size)).trans (hb5.mono (hb03.trans (hb4.mono hb03.size)).size)⟩
  have hAA := hA
  unfold lsArgs at hAA
  simp only [Bool.and_eq_true] at hAA
  obtain ⟨⟨⟨⟨hv, -⟩, hat⟩, -⟩, -⟩ := hAA
  have hl12 := (lsAt_facts hv).1
  obtain ⟨x, hx⟩ : ∃ x, holdL xs at' = x := ⟨_, rfl⟩
  have HX := Lib.hid ((leaseOf_yes hv hat).trans hx)
  have hx' : xs.getD (atL xs at') default = x := hx
  have hcE : c = (decide (x.b = fr) && (decide (x.a = at') || decide (xs.length < 12))) := by
    rw [← HC.out]; unfold handOk; rw [hA, hx', Bool.true_and]
  have hRE : R = if x.b = fr then (if x.a = at' then xs.set (atL xs at') ⟨at', to', un⟩ else if xs.length < 12 then xs.take (ltE xs at') ++ ⟨at', to', un⟩ :: xs.drop (ltE xs at') else xs) else xs := by
    rw [← HR.out]; unfold handR; rw [hA, if_pos rfl, hx']
  have hRn : 0 < R.length := by
    rw [hRE]
    repeat' split
    · rw [List.length_set]; omega
    · simp; omega
    · omega
    · omega
  have hRn' : ((R.length : Int) == 0) = false := beq_eq_false_iff_ne.2 (by omega)
  clear hA hx hx' hv hat hRn ht1
  by_cases hb : x.b = fr
  · have hqb : (x.b != fr) = false := by simp [hb]
    by_cases ha : x.a = at'
    · have hqa : (x.a != at') = false := by simp [ha]
      obtain rfl : c = true := by rw [hcE, hb, ha]; simp
      clear hcE hRE ha hb
      go_wp2_with fail
      refine (sameLeases_any _ _ R R _ hO3.out hT3'.out).mono ?_
      rw [decide_eq_true rfl]
      rintro e w4 ⟨rfl, hb4⟩
      have hb04 := hb03.trans (hb4.mono hb03.size)
      have hU4 := Lib.hid (hU3.out.below hb4 (Nat.le_refl _))
      have hO4 := Lib.hid (hO3.out.below hb4 (Nat.le_refl _))
      clear hU3 hO3 hT3'
      go_wp2_with fail
      refine (leaseOf_any _ xs at' _ hU4.out).mono ?_
      rw [HX.out]
      rintro e w5 ⟨rfl, hb5⟩
      have hb05 := hb04.trans (hb5.mono hb04.size)
      have hb06 := hb05.alloc hb05.size (.cells #[.int .i64 x.a, .int .i64 x.b, .int .i64 x.c] 35)
      have hb46 := (hb5.alloc hb5.size (.cells #[.int .i64 x.a, .int .i64 x.b, .int .i64 x.c] 35))
      go_wp2
      go_ret
      first | exact ⟨rfl, hb06⟩ | exact ⟨rfl, below_drewN hb06 _⟩
    · have hqa : (x.a != at') = true := by simp [ha]
      by_cases hl : xs.length < 12
      · obtain rfl : c = true := by rw [hcE, hb]; simp [hl]
        have hq12 : ((xs.length : Int) == 12) = false := beq_eq_false_iff_ne.2 (by omega)
        clear hcE hRE ha hb
        go_wp2_with fail
        refine (sameLeases_any _ _ R R _ hO3.out hT3'.out).mono ?_
        rw [decide_eq_true rfl]
        rintro e w4 ⟨rfl, hb4⟩
        have hb04 := hb03.trans (hb4.mono hb03.size)
        have hU4 := Lib.hid (hU3.out.below hb4 (Nat.le_refl _))
        have hO4 := Lib.hid (hO3.out.below hb4 (Nat.le_refl _))
        clear hU3 hO3 hT3'
        go_wp2_with fail
        refine (leaseOf_any _ xs at' _ hU4.out).mono ?_
        rw [HX.out]
        rintro e w5 ⟨rfl, hb5⟩
        have hb05 := hb04.trans (hb5.mono hb04.size)
        have hb06 := hb05.alloc hb05.size (.cells #[.int .i64 x.a, .int .i64 x.b, .int .i64 x.c] 35)
        have hb46 := (hb5.alloc hb5.size (.cells #[.int .i64 x.a, .int .i64 x.b, .int .i64 x.c] 35))
        go_wp2
        go_ret
        first | exact ⟨rfl, hb06⟩ | exact ⟨rfl, below_drewN hb06 _⟩
      · obtain rfl : c = false := by rw [hcE, hb]; simp [hl, ha]
        have hq12 : ((xs.length : Int) == 12) = true := by rw [beq_iff_eq]; omega
        have hRx := Lib.hid (show xs = R by rw [hRE, if_pos hb, if_neg ha, if_neg hl])
        clear hcE hRE ha hb
        go_wp2_with fail
        refine (sameLeases_any _ _ R R _ hO3.out hT3'.out).mono ?_
        rw [decide_eq_true rfl]
        rintro e w4 ⟨rfl, hb4⟩
        have hb04 := hb03.trans (hb4.mono hb03.size)
        have hU4 := Lib.hid (hU3.out.below hb4 (Nat.le_refl _))
        have hO4 := Lib.hid (hO3.out.below hb4 (Nat.le_refl _))
        clear hU3 hO3 hT3'
        go_wp2_with fail
        refine (leaseOf_any _ xs at' _ hU4.out).mono ?_
        rw [HX.out]
        rintro e w5 ⟨rfl, hb5⟩
        have hb05 := hb04.trans (hb5.mono hb04.size)
        have hb06 := hb05.alloc hb05.size (.cells #[.int .i64 x.a, .int .i64 x.b, .int .i64 x.c] 35)
        have hb46 := (hb5.alloc hb5.size (.cells #[.int .i64 x.a, .int .i64 x.b, .int .i64 x.c] 35))
        go_wp2_with (go_at_call 18; refine (sameLeases_any _ _ R xs _ (by exact hO4.out.below (by first | exact hb46 | exact below_drewN hb46 _) (Nat.le_refl _)) (by exact hU4.out.below (by first | exact hb46 | exact below_drewN hb46 _) (Nat.le_refl _))).mono ?_; rw [decide_eq_true hRx.out.symm]; rintro e w7 ⟨rfl, hb7⟩; have hb07 := Below.trans (by first | exact hb06 | exact below_drewN hb06 _) (hb7.mono (Nat.le_trans hb06.size (by simp))))
        go_ret
        first | exact ⟨rfl, hb07⟩ | exact ⟨rfl, below_drewN hb07 _⟩
  · have hqb : (x.b != fr) = true := by simp [hb]
    obtain rfl : c = false := by rw [hcE]; simp [hb]
    have hRx := Lib.hid (show xs = R by rw [hRE, if_neg hb])
    clear hcE hRE hb
    go_wp2_with fail
    refine (sameLeases_any _ _ R R _ hO3.out hT3'.out).mono ?_
    rw [decide_eq_true rfl]
    rintro e w4 ⟨rfl, hb4⟩
    have hb04 := hb03.trans (hb4.mono hb03.size)
    have hU4 := Lib.hid (hU3.out.below hb4 (Nat.le_refl _))
    have hO4 := Lib.hid (hO3.out.below hb4 (Nat.le_refl _))
    clear hU3 hO3 hT3'
    go_wp2_with fail
    refine (leaseOf_any _ xs at' _ hU4.out).mono ?_
    rw [HX.out]
    rintro e w5 ⟨rfl, hb5⟩
    have hb05 := hb04.trans (hb5.mono hb04.size)
    have hb06 := hb05.alloc hb05.size (.cells #[.int .i64 x.a, .int .i64 x.b, .int .i64 x.c] 35)
    have hb46 := (hb5.alloc hb5.size (.cells #[.int .i64 x.a, .int .i64 x.b, .int .i64 x.c] 35))
    go_wp2_with (go_at_call 18; refine (sameLeases_any _ _ R xs _ (by exact hO4.out.below (by first | exact hb46 | exact below_drewN hb46 _) (Nat.le_refl _)) (by exact hU4.out.below (by first | exact hb46 | exact below_drewN hb46 _) (Nat.le_refl _))).mono ?_; rw [decide_eq_true hRx.out.symm]; rintro e w7 ⟨rfl, hb7⟩; have hb07 := Below.trans (by first | exact hb06 | exact below_drewN hb06 _) (hb7.mono (Nat.le_trans hb06.size (by simp))))
    go_ret
    first | exact ⟨rfl, hb07⟩ | exact ⟨rfl, below_drewN hb07 _⟩

end Go.Proofs.YtdcjacgaakpejaaDoor
