/-
  Walks: the laws FnHandCount, FnHandOwner.
-/
import Derived.Test.YtdcjacgaakpejaaDoorDrM
import Derived.Test.YtdcjacgaakpejaaDoorPLu
import Derived.Test.YtdcjacgaakpejaaDoorLsQ
import Derived.Test.YtdcjacgaakpejaaDoorLsB
namespace Go.Proofs.YtdcjacgaakpejaaDoor
open Go.RowKit

theorem leaseOf_yes {xs : List Tr} {k : Int} (hv : lsValid xs = true) (hk : okP k = true) : leaseOf xs k = holdL xs k := by unfold leaseOf; rw [hv, hk]; rfl

set_option maxRecDepth 100000 in
set_option maxHeartbeats 8000000 in
theorem lawHandCount_any (v : Value) (a0 a1 : Addr) (w : World) (h : CodeAt w v) (hL : Laid w a0 a1) :
    Calls Tryd.prog 4 #[v] w fun e w' => e = .returned (.bool true) ∧ Below w.heap.size w w' := by
  have H := Lib.hid h
  have HL := Lib.hid hL
  obtain ⟨pb, n, cap, rfl, hn1, hn2, -⟩ := h
  unfold maxLen at hn2
  clear hL
  by_cases hbig : 1048576 < n
  · go_enter Tryd.func4, Tryd.ntmps4
    go_wp2
    go_ret
    exact ⟨rfl, Below.refl _ _⟩
  have hbig' : n ≤ 1048576 := by omega
  clear hbig
  go_enter Tryd.func4, Tryd.ntmps4
  go_wp2_with fail
  refine (drawLeaseHand_any _ _ H.out).mono ?_
  rintro e w1 ⟨u, xs, fr, at', to', un, rfl, hu, hb1⟩
  have HU := Lib.hid hu
  obtain ⟨pu, cu, rfl, hu1, hu2⟩ := hu.form
  have HLx := Lib.hid (HL.out.below hb1 (Nat.le_refl _))
  obtain ⟨R, hR⟩ : ∃ R, handR xs fr at' to' un = R := ⟨_, rfl⟩
  obtain ⟨c, hc⟩ : ∃ c, handOk xs fr at' to' un = c := ⟨_, rfl⟩
  have HR := Lib.hid hR
  have HC := Lib.hid hc
  clear hu hR hc
  go_wp2_with fail
  refine (iLeaseHand_any _ xs fr at' to' un a0 a1 _ HU.out HLx.out).mono ?_
  rw [HR.out, HC.out]
  rintro e w2 ⟨uo, rfl, hO2, hb2⟩
  have hb02 := hb1.trans (hb2.mono hb1.size)
  go_wp2_with fail
  refine (sLeaseHand_any _ xs fr at' to' un _ (by exact HU.out.below hb2 (Nat.le_refl _))).mono ?_
  rw [HR.out, HC.out]
  rintro e w3 ⟨ut, rfl, hT3, hb3⟩
  have hb03 := hb02.trans (hb3.mono hb02.size)
  have hb13 := hb2.trans (hb3.mono hb2.size)
  have hO3 := Lib.hid (hO2.at.below hb3 (Nat.le_refl _))
  have hU3 := Lib.hid (HU.out.below hb13 (Nat.le_refl _))
  have hT3' := Lib.hid hT3.at
  clear hO2 hT3
  have hcc : (c != c) = false := by simp
  have hcc' : (c == c) = true := by simp
  cases c
  · go_wp2_with fail
    refine (sameLeases_any _ _ R R _ hO3.out hT3'.out).mono ?_
    rw [decide_eq_true rfl]
    rintro e w4 ⟨rfl, hb4⟩
    go_wp2_with fail
    refine (sameLeases_any _ _ R R _ (by exact hO3.out.below hb4 (Nat.le_refl _)) (by exact hT3'.out.below hb4 (Nat.le_refl _))).mono ?_
    rw [decide_eq_true rfl]
    rintro e w5 ⟨rfl, hb5⟩
    go_wp2
    go_ret
    exact ⟨rfl, (hb03.trans (hb4.mono hb03.size)).trans (hb5.mono (hb03.trans (hb4.mono hb03.size)).size)⟩
  go_wp2_with fail
  refine (sameLeases_any _ _ R R _ hO3.out hT3'.out).mono ?_
  rw [decide_eq_true rfl]
  rintro e w4 ⟨rfl, hb4⟩
  have hb04 := hb03.trans (hb4.mono hb03.size)
  have hU4 := Lib.hid (hU3.out.below hb4 (Nat.le_refl _))
  have hO4 := Lib.hid (hO3.out.below hb4 (Nat.le_refl _))
  have HL4 := Lib.hid (HL.out.below hb04 (Nat.le_refl _))
  clear hU3 hO3 hT3'
  have HLen := Lib.hid (hand_len HC.out)
  rw [HR.out] at HLen
  obtain ⟨hv, -, hat, -⟩ := handOk_facts HC.out
  obtain ⟨x, hx⟩ : ∃ x, holdL xs at' = x := ⟨_, rfl⟩
  have HX := Lib.hid ((leaseOf_yes hv hat).trans hx)
  rw [hx] at HLen
  obtain ⟨po, co, rfl, ho1, ho2⟩ := hO4.out.form
  have ho1' : (R.length : Int) ≤ 9223372036854775807 := by omega
  go_wp2_with fail
  refine (leaseOf_any _ xs at' _ hU4.out).mono ?_
  rw [HX.out]
  rintro e w5 ⟨rfl, hb5⟩
  have hb05 := hb04.trans (hb5.mono hb04.size)
  have hb06 := hb05.alloc hb05.size (.cells #[.int .i64 x.a, .int .i64 x.b, .int .i64 x.c] 35)
  clear hx
  by_cases he : x.a = at'
  · have hl := HLen.out
    rw [if_pos he] at hl
    have hq : (x.a == at') = true := by simp [he]
    have hl' : ((R.length : Int) == (xs.length : Int)) = true := by simp [hl]
    clear he hl
    go_wp2
    go_ret
    first | exact ⟨rfl, hb06⟩ | exact ⟨rfl, below_drewN hb06 _⟩
  · have hl := HLen.out
    rw [if_neg he] at hl
    have hq : (x.a == at') = false := by simp [he]
    have hl12 := (lsAt_facts hv).1.2
    have hl' : ((R.length : Int) == (xs.length : Int) + 1) = true := by simp [hl]
    clear he hl
    go_wp2
    go_ret
    first | exact ⟨rfl, hb06⟩ | exact ⟨rfl, below_drewN hb06 _⟩

set_option maxRecDepth 100000 in
set_option maxHeartbeats 8000000 in
theorem lawHandOwner_any (v : Value) (a0 a1 : Addr) (w : World) (h : CodeAt w v) (hL : Laid w a0 a1) :
    Calls Tryd.prog 7 #[v] w fun e w' => e = .returned (.bool true) ∧ Below w.heap.size w w' := by
  have H := Lib.hid h
  have HL := Lib.hid hL
  obtain ⟨pb, n, cap, rfl, hn1, hn2, -⟩ := h
  unfold maxLen at hn2
  clear hL
  by_cases hbig : 1048576 < n
  · go_enter Tryd.func7, Tryd.ntmps7
    go_wp2
    go_ret
    exact ⟨rfl, Below.refl _ _⟩
  have hbig' : n ≤ 1048576 := by omega
  clear hbig
  go_enter Tryd.func7, Tryd.ntmps7
  go_wp2_with fail
  refine (drawLeaseHand_any _ _ H.out).mono ?_
  rintro e w1 ⟨u, xs, fr, at', to', un, rfl, hu, hb1⟩
  have HU := Lib.hid hu
  obtain ⟨pu, cu, rfl, hu1, hu2⟩ := hu.form
  have HLx := Lib.hid (HL.out.below hb1 (Nat.le_refl _))
  obtain ⟨R, hR⟩ : ∃ R, handR xs fr at' to' un = R := ⟨_, rfl⟩
  obtain ⟨c, hc⟩ : ∃ c, handOk xs fr at' to' un = c := ⟨_, rfl⟩
  have HR := Lib.hid hR
  have HC := Lib.hid hc
  clear hu hR hc
  go_wp2_with fail
  refine (iLeaseHand_any _ xs fr at' to' un a0 a1 _ HU.out HLx.out).mono ?_
  rw [HR.out, HC.out]
  rintro e w2 ⟨uo, rfl, hO2, hb2⟩
  have hb02 := hb1.trans (hb2.mono hb1.size)
  go_wp2_with fail
  refine (sLeaseHand_any _ xs fr at' to' un _ (by exact HU.out.below hb2 (Nat.le_refl _))).mono ?_
  rw [HR.out, HC.out]
  rintro e w3 ⟨ut, rfl, hT3, hb3⟩
  have hb03 := hb02.trans (hb3.mono hb02.size)
  have hb13 := hb2.trans (hb3.mono hb2.size)
  have hO3 := Lib.hid (hO2.at.below hb3 (Nat.le_refl _))
  have hU3 := Lib.hid (HU.out.below hb13 (Nat.le_refl _))
  have hT3' := Lib.hid hT3.at
  clear hO2 hT3
  have hcc : (c != c) = false := by simp
  have hcc' : (c == c) = true := by simp
  cases c
  · go_wp2_with fail
    refine (sameLeases_any _ _ R R _ hO3.out hT3'.out).mono ?_
    rw [decide_eq_true rfl]
    rintro e w4 ⟨rfl, hb4⟩
    go_wp2_with fail
    refine (sameLeases_any _ _ R R _ (by exact hO3.out.below hb4 (Nat.le_refl _)) (by exact hT3'.out.below hb4 (Nat.le_refl _))).mono ?_
    rw [decide_eq_true rfl]
    rintro e w5 ⟨rfl, hb5⟩
    go_wp2
    go_ret
    exact ⟨rfl, (hb03.trans (hb4.mono hb03.size)).trans (hb5.mono (hb03.trans (hb4.mono hb03.size)).size)⟩
  go_wp2_with fail
  refine (sameLeases_any _ _ R R _ hO3.out hT3'.out).mono ?_
  rw [decide_eq_true rfl]
  rintro e w4 ⟨rfl, hb4⟩
  have hb04 := hb03.trans (hb4.mono hb03.size)
  have hU4 := Lib.hid (hU3.out.below hb4 (Nat.le_refl _))
  have hO4 := Lib.hid (hO3.out.below hb4 (Nat.le_refl _))
  have HL4 := Lib.hid (HL.out.below hb04 (Nat.le_refl _))
  clear hU3 hO3 hT3'
  obtain ⟨hv, -, hat, -, -, hb, -⟩ := handOk_facts HC.out
  have hv2 := hand_valid HC.out
  have hh := hand_hold HC.out at'
  rw [part_self, if_pos rfl, HR.out] at hh
  rw [HR.out] at hv2
  have HX := Lib.hid (show (leaseOf xs at').b = fr by rw [leaseOf_yes hv hat]; exact hb)
  have HY := Lib.hid (show leaseOf R at' = ⟨at', to', un⟩ from (leaseOf_yes hv2 hat).trans hh)
  clear hb hh
  go_wp2_with fail
  refine (holder_any _ xs at' _ hU4.out).mono ?_
  rw [HX.out]
  rintro e w5 ⟨rfl, hb5⟩
  have hb05 := hb04.trans (hb5.mono hb04.size)
  go_wp2_with fail
  refine (holder_any _ R at' _ (by exact hO4.out.below hb5 (Nat.le_refl _))).mono ?_
  rw [HY.out]
  rintro e w6 ⟨rfl, hb6⟩
  have hb06 := hb05.trans (hb6.mono hb05.size)
  go_wp2
  go_ret
  first | exact ⟨rfl, hb06⟩ | exact ⟨rfl, below_drewN hb06 _⟩

set_option maxRecDepth 100000 in
set_option maxHeartbeats 8000000 in
theorem lawHandBack_any (v : Value) (a0 a1 : Addr) (w : World) (h : CodeAt w v) (hL : Laid w a0 a1) :
    Calls Tryd.prog 8 #[v] w fun e w' => e = .returned (.bool true) ∧ Below w.heap.size w w' := by
  have H := Lib.hid h
  have HL := Lib.hid hL
  obtain ⟨pb, n, cap, rfl, hn1, hn2, -⟩ := h
  unfold maxLen at hn2
  clear hL
  by_cases hbig : 1048576 < n
  · go_enter Tryd.func8, Tryd.ntmps8
    go_wp2
    go_ret
    exact ⟨rfl, Below.refl _ _⟩
  have hbig' : n ≤ 1048576 := by omega
  clear hbig
  go_enter Tryd.func8, Tryd.ntmps8
  go_wp2_with fail
  refine (drawLeaseHand_any _ _ H.out).mono ?_
  rintro e w1 ⟨u, xs, fr, at', to', un, rfl, hu, hb1⟩
  have HU := Lib.hid hu
  obtain ⟨pu, cu, rfl, hu1, hu2⟩ := hu.form
  have HLx := Lib.hid (HL.out.below hb1 (Nat.le_refl _))
  obtain ⟨R, hR⟩ : ∃ R, handR xs fr at' to' un = R := ⟨_, rfl⟩
  obtain ⟨c, hc⟩ : ∃ c, handOk xs fr at' to' un = c := ⟨_, rfl⟩
  have HR := Lib.hid hR
  have HC := Lib.hid hc
  clear hu hR hc
  go_wp2_with fail
  refine (iLeaseHand_any _ xs fr at' to' un a0 a1 _ HU.out HLx.out).mono ?_
  rw [HR.out, HC.out]
  rintro e w2 ⟨uo, rfl, hO2, hb2⟩
  have hb02 := hb1.trans (hb2.mono hb1.size)
  go_wp2_with fail
  refine (sLeaseHand_any _ xs fr at' to' un _ (by exact HU.out.below hb2 (Nat.le_refl _))).mono ?_
  rw [HR.out, HC.out]
  rintro e w3 ⟨ut, rfl, hT3, hb3⟩
  have hb03 := hb02.trans (hb3.mono hb02.size)
  have hb13 := hb2.trans (hb3.mono hb2.size)
  have hO3 := Lib.hid (hO2.at.below hb3 (Nat.le_refl _))
  have hU3 := Lib.hid (HU.out.below hb13 (Nat.le_refl _))
  have hT3' := Lib.hid hT3.at
  clear hO2 hT3
  have hcc : (c != c) = false := by simp
  have hcc' : (c == c) = true := by simp
  cases c
  · go_wp2_with fail
    refine (sameLeases_any _ _ R R _ hO3.out hT3'.out).mono ?_
    rw [decide_eq_true rfl]
    rintro e w4 ⟨rfl, hb4⟩
    go_wp2_with fail
    refine (sameLeases_any _ _ R R _ (by exact hO3.out.below hb4 (Nat.le_refl _)) (by exact hT3'.out.below hb4 (Nat.le_refl _))).mono ?_
    rw [decide_eq_true rfl]
    rintro e w5 ⟨rfl, hb5⟩
    go_wp2
    go_ret
    exact ⟨rfl, (hb03.trans (hb4.mono hb03.size)).trans (hb5.mono (hb03.trans (hb4.mono hb03.size)).size)⟩
  go_wp2_with fail
  refine (sameLeases_any _ _ R R _ hO3.out hT3'.out).mono ?_
  rw [decide_eq_true rfl]
  rintro e w4 ⟨rfl, hb4⟩
  have hb04 := hb03.trans (hb4.mono hb03.size)
  have hU4 := Lib.hid (hU3.out.below hb4 (Nat.le_refl _))
  have hO4 := Lib.hid (hO3.out.below hb4 (Nat.le_refl _))
  have HL4 := Lib.hid (HL.out.below hb04 (Nat.le_refl _))
  clear hU3 hO3 hT3'
  obtain ⟨hv, -, hat, -, -, hb, -⟩ := handOk_facts HC.out
  obtain ⟨hk1, hk2, hk3⟩ := hand_back HC.out
  have hks := hand_self hk1
  rw [HR.out] at hk2 hk3
  rw [← hk3] at hks
  have hx : (leaseOf xs at').c = (holdL xs at').c := by rw [leaseOf_yes hv hat]
  obtain ⟨t, ht⟩ : ∃ t, (holdL xs at').c = t := ⟨_, rfl⟩
  rw [ht] at hk2 hks hx
  obtain ⟨Y, hY⟩ : ∃ Y, handR R to' at' fr t = Y := ⟨_, rfl⟩
  rw [hY] at hks
  have HX := Lib.hid hx
  have HOK := Lib.hid hk2
  have HY := Lib.hid hY
  obtain ⟨K, hK⟩ : ∃ K, leaseKeys xs fr = K := ⟨_, rfl⟩
  rw [hK] at hks
  have HK := Lib.hid hK
  have HKS := Lib.hid hks
  clear hb hk1 hk2 hk3 hks hx ht hY hK
  go_wp2_with fail
  refine (holder_any _ xs at' _ hU4.out).mono ?_
  rw [HX.out]
  rintro e w5 ⟨rfl, hb5⟩
  have hb05 := hb04.trans (hb5.mono hb04.size)
  go_wp2_with fail
  refine (iLeaseHand_any _ R to' at' fr t a0 a1 _ (by exact hO4.out.below hb5 (Nat.le_refl _)) (by exact HL4.out.below hb5 (Nat.le_refl _))).mono ?_
  rw [HOK.out, HY.out]
  rintro e w6 ⟨uy, rfl, hO6, hb6⟩
  have hb06 := hb05.trans (hb6.mono hb05.size)
  have hb46 := hb5.trans (hb6.mono hb5.size)
  go_wp2_with fail
  refine (leaseKeys_any _ Y fr _ hO6.at).mono ?_
  rw [HKS.out]
  rintro e w7 ⟨rfl, hb7⟩
  have hb07 := hb06.trans (hb7.mono hb06.size)
  have hb47 := hb46.trans (hb7.mono hb46.size)
  go_wp2_with fail
  refine (leaseKeys_any _ xs fr _ (by exact hU4.out.below hb47 (Nat.le_refl _))).mono ?_
  rw [HK.out]
  rintro e w8 ⟨rfl, hb8⟩
  have hb08 := hb07.trans (hb8.mono hb07.size)
  have hKK : (K == K) = true := by simp
  go_wp2
  go_ret
  first | exact ⟨rfl, hb08⟩ | exact ⟨rfl, below_drewN hb08 _⟩

set_option maxRecDepth 100000 in
set_option maxHeartbeats 8000000 in
theorem lawHandSelf_any (v : Value) (a0 a1 : Addr) (w : World) (h : CodeAt w v) (hL : Laid w a0 a1) :
    Calls Tryd.prog 9 #[v] w fun e w' => e = .returned (.bool true) ∧ Below w.heap.size w w' := by
  have H := Lib.hid h
  have HL := Lib.hid hL
  obtain ⟨pb, n, cap, rfl, hn1, hn2, -⟩ := h
  unfold maxLen at hn2
  clear hL
  by_cases hbig : 1048576 < n
  · go_enter Tryd.func9, Tryd.ntmps9
    go_wp2
    go_ret
    exact ⟨rfl, Below.refl _ _⟩
  have hbig' : n ≤ 1048576 := by omega
  clear hbig
  go_enter Tryd.func9, Tryd.ntmps9
  go_wp2_with fail
  refine (drawLeaseHand_any _ _ H.out).mono ?_
  rintro e w1 ⟨u, xs, fr, at', to', un, rfl, hu, hb1⟩
  have HU := Lib.hid hu
  obtain ⟨pu, cu, rfl, hu1, hu2⟩ := hu.form
  have HLx := Lib.hid (HL.out.below hb1 (Nat.le_refl _))
  obtain ⟨R, hR⟩ : ∃ R, handR xs fr at' to' un = R := ⟨_, rfl⟩
  obtain ⟨c, hc⟩ : ∃ c, handOk xs fr at' to' un = c := ⟨_, rfl⟩
  have HR := Lib.hid hR
  have HC := Lib.hid hc
  clear hu hR hc
  go_wp2_with fail
  refine (iLeaseHand_any _ xs fr at' to' un a0 a1 _ HU.out HLx.out).mono ?_
  rw [HR.out, HC.out]
  rintro e w2 ⟨uo, rfl, hO2, hb2⟩
  have hb02 := hb1.trans (hb2.mono hb1.size)
  go_wp2_with fail
  refine (sLeaseHand_any _ xs fr at' to' un _ (by exact HU.out.below hb2 (Nat.le_refl _))).mono ?_
  rw [HR.out, HC.out]
  rintro e w3 ⟨ut, rfl, hT3, hb3⟩
  have hb03 := hb02.trans (hb3.mono hb02.size)
  have hb13 := hb2.trans (hb3.mono hb2.size)
  have hO3 := Lib.hid (hO2.at.below hb3 (Nat.le_refl _))
  have hU3 := Lib.hid (HU.out.below hb13 (Nat.le_refl _))
  have hT3' := Lib.hid hT3.at
  clear hO2 hT3
  have hcc : (c != c) = false := by simp
  have hcc' : (c == c) = true := by simp
  cases c
  · go_wp2_with fail
    refine (sameLeases_any _ _ R R _ hO3.out hT3'.out).mono ?_
    rw [decide_eq_true rfl]
    rintro e w4 ⟨rfl, hb4⟩
    go_wp2_with fail
    refine (sameLeases_any _ _ R R _ (by exact hO3.out.below hb4 (Nat.le_refl _)) (by exact hT3'.out.below hb4 (Nat.le_refl _))).mono ?_
    rw [decide_eq_true rfl]
    rintro e w5 ⟨rfl, hb5⟩
    go_wp2
    go_ret
    exact ⟨rfl, (hb03.trans (hb4.mono hb03.size)).trans (hb5.mono (hb03.trans (hb4.mono hb03.size)).size)⟩
  go_wp2_with fail
  refine (sameLeases_any _ _ R R _ hO3.out hT3'.out).mono ?_
  rw [decide_eq_true rfl]
  rintro e w4 ⟨rfl, hb4⟩
  have hb04 := hb03.trans (hb4.mono hb03.size)
  have hU4 := Lib.hid (hU3.out.below hb4 (Nat.le_refl _))
  have hO4 := Lib.hid (hO3.out.below hb4 (Nat.le_refl _))
  have HL4 := Lib.hid (HL.out.below hb04 (Nat.le_refl _))
  clear hU3 hO3 hT3'
  obtain ⟨Y, hY⟩ : ∃ Y, handR xs fr at' fr un = Y := ⟨_, rfl⟩
  obtain ⟨d, hd⟩ : ∃ d, handOk xs fr at' fr un = d := ⟨_, rfl⟩
  have HY := Lib.hid hY
  have HD := Lib.hid hd
  clear hY hd
  go_wp2_with fail
  refine (iLeaseHand_any _ xs fr at' fr un a0 a1 _ hU4.out HL4.out).mono ?_
  rw [HD.out, HY.out]
  rintro e w5 ⟨uy, rfl, hO5, hb5⟩
  have hb05 := hb04.trans (hb5.mono hb04.size)
  have hY5 := Lib.hid hO5.at
  clear hO5
  cases d
  · obtain ⟨z, hz⟩ : ∃ z, leaseOf Y at' = z := ⟨_, rfl⟩
    have HZ := Lib.hid hz
    clear hz
    go_wp2_with fail
    refine (holder_any _ Y at' _ hY5.out).mono ?_
    rw [HZ.out]
    rintro e w6 ⟨rfl, hb6⟩
    have hb06 := hb05.trans (hb6.mono hb05.size)
    go_wp2
    go_ret
    first | exact ⟨rfl, hb06⟩ | exact ⟨rfl, below_drewN hb06 _⟩
  · have hv2 := hand_valid HD.out
    have hh := hand_hold HD.out at'
    rw [part_self, if_pos rfl, HY.out] at hh
    rw [HY.out] at hv2
    obtain ⟨hv, -, hat, -⟩ := handOk_facts HD.out
    have hks := hand_self HD.out
    rw [HY.out] at hks
    have HZ := Lib.hid (show leaseOf Y at' = ⟨at', fr, un⟩ from (leaseOf_yes hv2 hat).trans hh)
    obtain ⟨K, hK⟩ : ∃ K, leaseKeys xs fr = K := ⟨_, rfl⟩
    rw [hK] at hks
    have HK := Lib.hid hK
    have HKS := Lib.hid hks
    clear hks hK hh hv2 hat hv
    go_wp2_with fail
    refine (holder_any _ Y at' _ hY5.out).mono ?_
    rw [HZ.out]
    rintro e w6 ⟨rfl, hb6⟩
    have hb06 := hb05.trans (hb6.mono hb05.size)
    have hb56 := hb5.trans (hb6.mono hb5.size)
    go_wp2_with fail
    refine (leaseKeys_any _ Y fr _ (by exact hY5.out.below hb6 (Nat.le_refl _))).mono ?_
    rw [HKS.out]
    rintro e w7 ⟨rfl, hb7⟩
    have hb07 := hb06.trans (hb7.mono hb06.size)
    have hb57 := hb56.trans (hb7.mono hb56.size)
    go_wp2_with fail
    refine (leaseKeys_any _ xs fr _ (by exact hU4.out.below hb57 (Nat.le_refl _))).mono ?_
    rw [HK.out]
    rintro e w8 ⟨rfl, hb8⟩
    have hb08 := hb07.trans (hb8.mono hb07.size)
    have hKK : (K == K) = true := by simp
    go_wp2
    go_ret
    first | exact ⟨rfl, hb08⟩ | exact ⟨rfl, below_drewN hb08 _⟩

end Go.Proofs.YtdcjacgaakpejaaDoor
