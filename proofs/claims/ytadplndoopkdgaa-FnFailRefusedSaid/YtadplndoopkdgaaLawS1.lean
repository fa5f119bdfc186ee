/-
  Walks: the law FnStepOne.
-/
import Derived.Test.YtadplndoopkdgaaLawCl
import Derived.Test.YtadplndoopkdgaaIRAdopt
import Derived.Test.YtadplndoopkdgaaIRDrop
import Derived.Test.YtadplndoopkdgaaPlain
namespace Go.Proofs.Ytadplndoopkdgaa
open Go.RowKit

theorem isPoint_is (x : Int) (c : Bool) (h : okP x = c) (w : World) :
    Calls Try.prog 34 #[.int .i64 x] w fun e w' => e = .returned (.bool c) ∧ w = w' := by
  subst h
  have hd : okP x = (decide (0 ≤ x) && decide (x < 64)) := by unfold okP; simp
  rw [hd]
  go_enter Try.func34, Try.ntmps34
  go_wp2
  all_goals
    go_ret
    exact ⟨ret_bool (by first | (simp [*]; done) | (simp [*]; omega)), rfl⟩

set_option maxRecDepth 100000 in
set_option maxHeartbeats 8000000 in
theorem lawStepOne_any (v : Value) (w : World) (h : CodeAt w v) :
    Calls Try.prog 9 #[v] w fun e w' => e = .returned (.bool true) ∧ Below w.heap.size w w' := by
  have H := Lib.hid h
  obtain ⟨pb, n, cap, rfl, hn1, hn2, -⟩ := h
  unfold maxLen at hn2
  by_cases hbig : 1048576 < n
  · go_enter Try.func9, Try.ntmps9
    go_wp2
    go_ret
    exact ⟨rfl, Below.refl _ _⟩
  have hbig' : n ≤ 1048576 := by omega
  clear hbig
  have hf0 := field0
  have hf1 := field1
  have hf2 := field2
  go_enter Try.func9, Try.ntmps9
  go_wp2_with fail
  refine (drawRingCloser_any _ _ H.out).mono ?_
  rintro e w1 ⟨u, y, id, o, rfl, hat, hsm, hb1⟩
  have HAT := Lib.hid hat
  have hz1 := hb1.size
  have hy10 := hsm.2.1
  have hy1 := hsm.1
  have hyS := Lib.hid hsm
  obtain ⟨p, cp, rfl⟩ := hat.form
  clear hsm hat
  cases hs : ringSafe y
  · have HS := Lib.hid hs
    clear hs
    go_wp2_with (first | (have _ := hb5; go_at_call 17; refine (sameRing_any _ _ (rCloser y id o) (rCloser y id o) _ (HA.out.below hb5 (Nat.le_refl _)) (HB.out.below (hb4.trans (hb5.mono hb4.size)) (Nat.le_refl _))).mono ?_; rw [decide_eq_true rfl]; rintro e w6 ⟨rfl, hb6⟩) | (go_at_call 17; refine (sameRing_any _ _ (rCloser y id o) (rCloser y id o) _ HA1.out HB.out).mono ?_; rw [decide_eq_true rfl]; rintro e w4 ⟨rfl, hb4⟩; have HA := Lib.hid (HA1.out.below hb4 (Nat.le_refl _)); have hbC := (hb2.trans (hb3.mono hb2.size)).trans (hb4.mono (hb2.trans (hb3.mono hb2.size)).size); have HC := Lib.hid (HAT.out.below hbC (Nat.le_refl _)); have hbD := hb1.trans (hbC.mono hz1)) | (go_at_call 33; refine (sRingSafe_any _ y _ HC.out).mono ?_; rw [HS.out]; rintro e w5 ⟨rfl, hb5⟩) | (go_at_call 34; (with_reducible refine (isPoint_is id _ HI.out _).mono ?_); rintro e wp ⟨rfl, rfl⟩) | (go_at_call 34; (with_reducible refine (isPoint_is o _ HO.out _).mono ?_); rintro e wp ⟨rfl, rfl⟩) | (go_at_call 15; refine (iRingCloser_any _ y id o _ HAT.out).mono ?_; rintro e w2 ⟨ua, rfl, hA, hb2⟩; have HA0 := Lib.hid hA.at; obtain ⟨pa, ca, ea⟩ := hA.at.form; subst ea; clear hA) | (go_at_call 16; refine (sRingCloser_any _ y id o _ (HAT.out.below hb2 (Nat.le_refl _))).mono ?_; rintro e w3 ⟨ub, rfl, hB, hb3⟩; have HB := Lib.hid hB.at; have HA1 := Lib.hid (HA0.out.below hb3 (Nat.le_refl _)); clear hB))
    go_ret
    exact ⟨rfl, hbD.trans ((hb5.trans (hb6.mono hb5.size)).mono hbD.size)⟩
  have HS := Lib.hid hs
  clear hs
  cases hi : okP id
  · have HI := Lib.hid hi
    clear hi
    go_wp2_with (first | (have _ := hb5; go_at_call 17; refine (sameRing_any _ _ (rCloser y id o) (rCloser y id o) _ (HA.out.below hb5 (Nat.le_refl _)) (HB.out.below (hb4.trans (hb5.mono hb4.size)) (Nat.le_refl _))).mono ?_; rw [decide_eq_true rfl]; rintro e w6 ⟨rfl, hb6⟩) | (go_at_call 17; refine (sameRing_any _ _ (rCloser y id o) (rCloser y id o) _ HA1.out HB.out).mono ?_; rw [decide_eq_true rfl]; rintro e w4 ⟨rfl, hb4⟩; have HA := Lib.hid (HA1.out.below hb4 (Nat.le_refl _)); have hbC := (hb2.trans (hb3.mono hb2.size)).trans (hb4.mono (hb2.trans (hb3.mono hb2.size)).size); have HC := Lib.hid (HAT.out.below hbC (Nat.le_refl _)); have hbD := hb1.trans (hbC.mono hz1)) | (go_at_call 33; refine (sRingSafe_any _ y _ HC.out).mono ?_; rw [HS.out]; rintro e w5 ⟨rfl, hb5⟩) | (go_at_call 34; (with_reducible refine (isPoint_is id _ HI.out _).mono ?_); rintro e wp ⟨rfl, rfl⟩) | (go_at_call 34; (with_reducible refine (isPoint_is o _ HO.out _).mono ?_); rintro e wp ⟨rfl, rfl⟩) | (go_at_call 15; refine (iRingCloser_any _ y id o _ HAT.out).mono ?_; rintro e w2 ⟨ua, rfl, hA, hb2⟩; have HA0 := Lib.hid hA.at; obtain ⟨pa, ca, ea⟩ := hA.at.form; subst ea; clear hA) | (go_at_call 16; refine (sRingCloser_any _ y id o _ (HAT.out.below hb2 (Nat.le_refl _))).mono ?_; rintro e w3 ⟨ub, rfl, hB, hb3⟩; have HB := Lib.hid hB.at; have HA1 := Lib.hid (HA0.out.below hb3 (Nat.le_refl _)); clear hB))
    go_ret
    exact ⟨rfl, hbD.trans ((hb5.trans (hb6.mono hb5.size)).mono hbD.size)⟩
  have HI := Lib.hid hi
  clear hi
  cases ho : okP o
  · have HO := Lib.hid ho
    clear ho
    go_wp2_with (first | (have _ := hb5; go_at_call 17; refine (sameRing_any _ _ (rCloser y id o) (rCloser y id o) _ (HA.out.below hb5 (Nat.le_refl _)) (HB.out.below (hb4.trans (hb5.mono hb4.size)) (Nat.le_refl _))).mono ?_; rw [decide_eq_true rfl]; rintro e w6 ⟨rfl, hb6⟩) | (go_at_call 17; refine (sameRing_any _ _ (rCloser y id o) (rCloser y id o) _ HA1.out HB.out).mono ?_; rw [decide_eq_true rfl]; rintro e w4 ⟨rfl, hb4⟩; have HA := Lib.hid (HA1.out.below hb4 (Nat.le_refl _)); have hbC := (hb2.trans (hb3.mono hb2.size)).trans (hb4.mono (hb2.trans (hb3.mono hb2.size)).size); have HC := Lib.hid (HAT.out.below hbC (Nat.le_refl _)); have hbD := hb1.trans (hbC.mono hz1)) | (go_at_call 33; refine (sRingSafe_any _ y _ HC.out).mono ?_; rw [HS.out]; rintro e w5 ⟨rfl, hb5⟩) | (go_at_call 34; (with_reducible refine (isPoint_is id _ HI.out _).mono ?_); rintro e wp ⟨rfl, rfl⟩) | (go_at_call 34; (with_reducible refine (isPoint_is o _ HO.out _).mono ?_); rintro e wp ⟨rfl, rfl⟩) | (go_at_call 15; refine (iRingCloser_any _ y id o _ HAT.out).mono ?_; rintro e w2 ⟨ua, rfl, hA, hb2⟩; have HA0 := Lib.hid hA.at; obtain ⟨pa, ca, ea⟩ := hA.at.form; subst ea; clear hA) | (go_at_call 16; refine (sRingCloser_any _ y id o _ (HAT.out.below hb2 (Nat.le_refl _))).mono ?_; rintro e w3 ⟨ub, rfl, hB, hb3⟩; have HB := Lib.hid hB.at; have HA1 := Lib.hid (HA0.out.below hb3 (Nat.le_refl _)); clear hB))
    go_ret
    exact ⟨rfl, hbD.trans ((hb5.trans (hb6.mono hb5.size)).mono hbD.size)⟩
  have HO := Lib.hid ho
  clear ho
  have HA1' := Lib.hid (rCloser_one HS.out HI.out HO.out)
  have HB1' := Lib.hid (rDrop_one HS.out HI.out)
  have HC1' := Lib.hid (rAdopt_one HS.out HI.out)
  have hlA : (rCloser y id o).length = y.length := HA1'.out.1
  have hlB : (rDrop y id).length = y.length := HB1'.out.1
  have hlC : (rAdopt y id).length = y.length := HC1'.out.1
  have HLA := Lib.hid hlA
  have HLB := Lib.hid hlB
  have HLC := Lib.hid hlC
  clear hlA hlB hlC
  go_wp2_with (first | (go_at_call 17; refine (sameRing_any _ _ (rCloser y id o) (rCloser y id o) _ HA1.out HB.out).mono ?_; rw [decide_eq_true rfl]; rintro e w4 ⟨rfl, hb4⟩; have HA := Lib.hid (HA1.out.below hb4 (Nat.le_refl _)); have hbC := (hb2.trans (hb3.mono hb2.size)).trans (hb4.mono (hb2.trans (hb3.mono hb2.size)).size); have HC := Lib.hid (HAT.out.below hbC (Nat.le_refl _)); have hbD := hb1.trans (hbC.mono hz1)) | (go_at_call 33; refine (sRingSafe_any _ y _ HC.out).mono ?_; rw [HS.out]; rintro e w5 ⟨rfl, hb5⟩; have HC5 := Lib.hid (HC.out.below hb5 (Nat.le_refl _)); have HA5 := Lib.hid (HA.out.below hb5 (Nat.le_refl _)); have hbE := hbD.trans (hb5.mono hbD.size)) | (go_at_call 34; (with_reducible refine (isPoint_is id _ HI.out _).mono ?_); rintro e wp ⟨rfl, rfl⟩) | (go_at_call 34; (with_reducible refine (isPoint_is o _ HO.out _).mono ?_); rintro e wp ⟨rfl, rfl⟩) | (go_at_call 15; refine (iRingCloser_any _ y id o _ HAT.out).mono ?_; rintro e w2 ⟨ua, rfl, hA, hb2⟩; have HA0 := Lib.hid hA.at; obtain ⟨pa, ca, ea⟩ := hA.at.form; subst ea; clear hA) | (go_at_call 16; refine (sRingCloser_any _ y id o _ (HAT.out.below hb2 (Nat.le_refl _))).mono ?_; rintro e w3 ⟨ub, rfl, hB, hb3⟩; have HB := Lib.hid hB.at; have HA1 := Lib.hid (HA0.out.below hb3 (Nat.le_refl _)); clear hB))
  go_wp2_with (first | (go_at_call 24; refine (iRingDrop_any _ y id _ HC5.out).mono ?_; rintro e w7 ⟨ud, rfl, hD, hb7⟩; have HD0 := Lib.hid hD.at; obtain ⟨pd, cd, ed⟩ := hD.at.form; subst ed; clear hD; have HC7 := Lib.hid (HC5.out.below hb7 (Nat.le_refl _)); have HA7 := Lib.hid (HA5.out.below hb7 (Nat.le_refl _)); have hbF := hbE.trans (hb7.mono hbE.size)) | (go_at_call 21; refine (iRingAdopt_any _ y id _ HC7.out).mono ?_; rintro e w8 ⟨uc, rfl, hE, hb8⟩; have HC9 := Lib.hid hE.at; obtain ⟨pe, ce, ee⟩ := hE.at.form; subst ee; clear hE; have HY9 := Lib.hid (HC7.out.below hb8 (Nat.le_refl _)); have HA9 := Lib.hid (HA7.out.below hb8 (Nat.le_refl _)); have HB9 := Lib.hid (HD0.out.below hb8 (Nat.le_refl _)); have hbG := hbF.trans (hb8.mono hbF.size)))
  go_loopg [2, 14, 15] y.length (fun m _ i _ wr => ∃ k : Nat, k ≤ y.length ∧ m = y.length - k ∧ i = .int .i64 k ∧ Below w8.heap.size w8 wr)
  case atStart => exact ⟨0, Nat.zero_le _, rfl, rfl, Below.refl _ _⟩
  case round =>
    obtain ⟨k, hk, rfl, rfl, hwr⟩ := hrel
    have HW := Lib.hid hwr
    by_cases hlt : k < y.length
    · have ltA : k < (rCloser y id o).length := by have := HLA.out; omega
      have ltB : k < (rDrop y id).length := by have := HLB.out; omega
      have ltC : k < (rAdopt y id).length := by have := HLC.out; omega
      obtain ⟨bY, oY, rfl, -, gY1, gY2, gY3, paY, caY, kY0, kY1, kY2, hIY⟩ := (HY9.out.below hwr (Nat.le_refl _)).nd (k := k) hlt
      obtain ⟨bA, oA, rfl, -, gA1, gA2, gA3, paA, caA, kA0, kA1, kA2, hIA⟩ := (HA9.out.below hwr (Nat.le_refl _)).nd (k := k) ltA
      obtain ⟨bB, oB, rfl, -, gB1, gB2, gB3, paB, caB, kB0, kB1, kB2, hIB⟩ := (HB9.out.below hwr (Nat.le_refl _)).nd (k := k) ltB
      obtain ⟨bC, oC, rfl, -, gC1, gC2, gC3, paC, caC, kC0, kC1, kC2, hIC⟩ := (HC9.out.below hwr (Nat.le_refl _)).nd (k := k) ltC
      obtain ⟨n, hn⟩ : ∃ x, y.getD k default = x := ⟨_, rfl⟩
      have eA := HA1'.out.2 k hlt
      have eB := HB1'.out.2 k hlt
      have eC := HC1'.out.2 k hlt
      rw [hn] at kY0 kY1 kY2 hIY eA eB eC
      rw [eA.1] at kA1
      rw [eB.1] at kB1
      rw [eC.1] at kC1
      obtain ⟨i, bf, A⟩ := n
      have HIX0 := Lib.hid hIY
      have i0 : (0 : Int) ≤ (k : Int) := by omega
      have i1 : (k : Int) < (y.length : Int) := by omega
      have j1 : (k : Int) < ((rCloser y id o).length : Int) := by omega
      have j2 : (k : Int) < ((rDrop y id).length : Int) := by omega
      have j3 : (k : Int) < ((rAdopt y id).length : Int) := by omega
      have HEA := Lib.hid eA.2
      have HEB := Lib.hid eB.2
      have HEC := Lib.hid eC.2
      clear hn eA eB eC hIY hwr
      obtain hq | hq : (i != id) = true ∨ (i != id) = false := by cases (i != id) <;> simp
      · have hne : i ≠ id := by simpa using hq
        rw [HEA.out hne] at kA0 kA2 hIA
        rw [HEB.out hne] at kB0 kB2 hIB
        rw [HEC.out hne] at kC0 kC2 hIC
        clear hne
        go_wp2_with fail
        obtain ⟨W, hW⟩ : ∃ W, wr.alloc (.cells #[.int .i64 i, .int .i64 bf, .slice paY A.length caY] 31) = W := ⟨_, rfl⟩
        have hWa := (Below.refl wr.heap.size wr).alloc (Nat.le_refl _) (.cells #[.int .i64 i, .int .i64 bf, .slice paY A.length caY] 31)
        have xx0 : W.cell? ⟨wr.heap.size, 0, none⟩ = some (.int .i64 i) := by rw [← hW]; simp
        have xx1 : W.cell? ⟨wr.heap.size, 1, none⟩ = some (.int .i64 bf) := by rw [← hW]; simp
        have xx2 : W.cell? ⟨wr.heap.size, 2, none⟩ = some (.slice paY A.length caY) := by rw [← hW]; simp
        have lx : wr.heap.size < W.heap.size := by rw [← hW]; simp
        rw [hW] at hWa
        rw [hW]
        have mA0 := (hWa.cell (p := ⟨bA, oA + k * 3, none⟩) gA3).trans kA0
        have mA1 := (hWa.cell (p := ⟨bA, oA + k * 3 + 1, none⟩) gA3).trans kA1
        have mA2 := (hWa.cell (p := ⟨bA, oA + k * 3 + 2, none⟩) gA3).trans kA2
        have lA : bA < W.heap.size := by omega
        have mB0 := (hWa.cell (p := ⟨bB, oB + k * 3, none⟩) gB3).trans kB0
        have mB1 := (hWa.cell (p := ⟨bB, oB + k * 3 + 1, none⟩) gB3).trans kB1
        have mB2 := (hWa.cell (p := ⟨bB, oB + k * 3 + 2, none⟩) gB3).trans kB2
        have lB : bB < W.heap.size := by omega
        have mC0 := (hWa.cell (p := ⟨bC, oC + k * 3, none⟩) gC3).trans kC0
        have mC1 := (hWa.cell (p := ⟨bC, oC + k * 3 + 1, none⟩) gC3).trans kC1
        have mC2 := (hWa.cell (p := ⟨bC, oC + k * 3 + 2, none⟩) gC3).trans kC2
        have lC : bC < W.heap.size := by omega
        have HIX := Lib.hid (HIX0.out.below hWa (Nat.le_refl _))
        have HIA := Lib.hid (hIA.below hWa (Nat.le_refl _))
        have HIB := Lib.hid (hIB.below hWa (Nat.le_refl _))
        have HIC := Lib.hid (hIC.below hWa (Nat.le_refl _))
        clear hW kY0 kY1 kY2 kA0 kA1 kA2 kB0 kB1 kB2 kC0 kC1 kC2 hIA hIB hIC
        refine wp_region_held_drew (S := fun w' => Below (W).heap.size W w') (by kernel_rfl) (Below.refl _ W).drew (fun hHeld => ?_)
        refine wpAnyH_take (i := 0) (v := ?_) rfl (by kernel_rfl) (by kernel_rfl) (by kernel_rfl) (fun _ _ _ h => h) (Or.inl ⟨by rfl, ?_⟩) (by assumption) ?_
        rotate_left
        · (intro wz hSw; clear hSw; go_simp; try (with_reducible rfl))
        simp only [Act.put, List.getElem_toArray, List.getElem_cons_zero, List.setIfInBounds_toArray, List.set_cons_zero, List.set_cons_succ]
        refine wpAnyH_take (i := 1) (v := ?_) rfl (by kernel_rfl) (by kernel_rfl) (by kernel_rfl) (fun _ _ _ h => h) (Or.inl ⟨by rfl, ?_⟩) (by assumption) ?_
        rotate_left
        · (intro wz hSw; have x0 := (hSw.cell (p := ⟨wr.heap.size, 0, none⟩) lx).trans xx0; have x1 := (hSw.cell (p := ⟨wr.heap.size, 1, none⟩) lx).trans xx1; have x2 := (hSw.cell (p := ⟨wr.heap.size, 2, none⟩) lx).trans xx2; have fA0 := (hSw.cell (p := ⟨bA, oA + k * 3, none⟩) lA).trans mA0; have fA1 := (hSw.cell (p := ⟨bA, oA + k * 3 + 1, none⟩) lA).trans mA1; have fA2 := (hSw.cell (p := ⟨bA, oA + k * 3 + 2, none⟩) lA).trans mA2; have fB0 := (hSw.cell (p := ⟨bB, oB + k * 3, none⟩) lB).trans mB0; have fB1 := (hSw.cell (p := ⟨bB, oB + k * 3 + 1, none⟩) lB).trans mB1; have fB2 := (hSw.cell (p := ⟨bB, oB + k * 3 + 2, none⟩) lB).trans mB2; have fC0 := (hSw.cell (p := ⟨bC, oC + k * 3, none⟩) lC).trans mC0; have fC1 := (hSw.cell (p := ⟨bC, oC + k * 3 + 1, none⟩) lC).trans mC1; have fC2 := (hSw.cell (p := ⟨bC, oC + k * 3 + 2, none⟩) lC).trans mC2; go_simp; try (with_reducible rfl))
        simp only [Act.put, List.getElem_toArray, List.getElem_cons_zero, List.getElem_cons_succ, List.setIfInBounds_toArray, List.set_cons_zero, List.set_cons_succ]
        refine wpAnyH_take (i := 2) (v := ?_) rfl (by kernel_rfl) (by kernel_rfl) (by kernel_rfl) (fun _ _ _ h => h) (Or.inl ⟨by rfl, ?_⟩) (by assumption) ?_
        rotate_left
        · (intro wz hSw; clear hSw; go_simp; try (with_reducible rfl))
        simp only [Act.put, List.getElem_toArray, List.getElem_cons_zero, List.getElem_cons_succ, List.setIfInBounds_toArray, List.set_cons_zero, List.set_cons_succ]
        refine wpAnyH_take (i := 3) (v := ?_) rfl (by kernel_rfl) (by kernel_rfl) (by kernel_rfl) (fun _ _ _ h => h) (Or.inl ⟨by rfl, ?_⟩) (by assumption) ?_
        rotate_left
        · (intro wz hSw; clear hSw; go_simp; try (with_reducible rfl))
        simp only [Act.put, List.getElem_toArray, List.getElem_cons_zero, List.getElem_cons_succ, List.setIfInBounds_toArray, List.set_cons_zero, List.set_cons_succ]
        refine wpAnyH_take (i := 4) (v := ?_) rfl (by kernel_rfl) (by kernel_rfl) (by kernel_rfl) (fun _ _ _ h => h) (Or.inl ⟨by rfl, ?_⟩) (by assumption) ?_
        rotate_left
        · (intro wz hSw; clear hSw; go_simp; try (with_reducible rfl))
        simp only [Act.put, List.getElem_toArray, List.getElem_cons_zero, List.getElem_cons_succ, List.setIfInBounds_toArray, List.set_cons_zero, List.set_cons_succ]
        refine wpAnyH_take (i := 5) (v := ?_) rfl (by kernel_rfl) (by kernel_rfl) (by kernel_rfl) (fun _ _ _ h => h) (Or.inl ⟨by rfl, ?_⟩) (by assumption) ?_
        rotate_left
        · (intro wz hSw; clear hSw; go_simp; try (with_reducible rfl))
        simp only [Act.put, List.getElem_toArray, List.getElem_cons_zero, List.getElem_cons_succ, List.setIfInBounds_toArray, List.set_cons_zero, List.set_cons_succ]
        refine wpAnyH_take (i := 6) (v := ?_) rfl (by kernel_rfl) (by kernel_rfl) (by kernel_rfl) (fun _ _ _ h => h) (Or.inl ⟨by rfl, ?_⟩) (by assumption) ?_
        rotate_left
        · (intro wz hSw; clear hSw; go_simp; try (with_reducible rfl))
        simp only [Act.put, List.getElem_toArray, List.getElem_cons_zero, List.getElem_cons_succ, List.setIfInBounds_toArray, List.set_cons_zero, List.set_cons_succ]
        refine wpAnyH_take (i := 7) (v := ?_) rfl (by kernel_rfl) (by kernel_rfl) (by kernel_rfl) (fun _ _ _ h => h) (Or.inl ⟨by rfl, ?_⟩) (by assumption) ?_
        rotate_left
        · (intro wz hSw; clear hSw; go_simp; try (with_reducible rfl))
        simp only [Act.put, List.getElem_toArray, List.getElem_cons_zero, List.getElem_cons_succ, List.setIfInBounds_toArray, List.set_cons_zero, List.set_cons_succ]
        refine wpAnyH_take (i := 8) (v := ?_) rfl (by kernel_rfl) (by kernel_rfl) (by kernel_rfl) (fun _ _ _ h => h) (Or.inl ⟨by rfl, ?_⟩) (by assumption) ?_
        rotate_left
        · (intro wz hSw; have x0 := (hSw.cell (p := ⟨wr.heap.size, 0, none⟩) lx).trans xx0; have x1 := (hSw.cell (p := ⟨wr.heap.size, 1, none⟩) lx).trans xx1; have x2 := (hSw.cell (p := ⟨wr.heap.size, 2, none⟩) lx).trans xx2; have fA0 := (hSw.cell (p := ⟨bA, oA + k * 3, none⟩) lA).trans mA0; have fA1 := (hSw.cell (p := ⟨bA, oA + k * 3 + 1, none⟩) lA).trans mA1; have fA2 := (hSw.cell (p := ⟨bA, oA + k * 3 + 2, none⟩) lA).trans mA2; have fB0 := (hSw.cell (p := ⟨bB, oB + k * 3, none⟩) lB).trans mB0; have fB1 := (hSw.cell (p := ⟨bB, oB + k * 3 + 1, none⟩) lB).trans mB1; have fB2 := (hSw.cell (p := ⟨bB, oB + k * 3 + 2, none⟩) lB).trans mB2; have fC0 := (hSw.cell (p := ⟨bC, oC + k * 3, none⟩) lC).trans mC0; have fC1 := (hSw.cell (p := ⟨bC, oC + k * 3 + 1, none⟩) lC).trans mC1; have fC2 := (hSw.cell (p := ⟨bC, oC + k * 3 + 2, none⟩) lC).trans mC2; go_simp; try (with_reducible rfl))
        simp only [Act.put, List.getElem_toArray, List.getElem_cons_zero, List.getElem_cons_succ, List.setIfInBounds_toArray, List.set_cons_zero, List.set_cons_succ]
        refine wpAnyH_take (i := 9) (v := ?_) rfl (by kernel_rfl) (by kernel_rfl) (by kernel_rfl) (fun _ _ _ h => h) (Or.inl ⟨by rfl, ?_⟩) (by assumption) ?_
        rotate_left
        · (intro wz hSw; have x0 := (hSw.cell (p := ⟨wr.heap.size, 0, none⟩) lx).trans xx0; have x1 := (hSw.cell (p := ⟨wr.heap.size, 1, none⟩) lx).trans xx1; have x2 := (hSw.cell (p := ⟨wr.heap.size, 2, none⟩) lx).trans xx2; have fA0 := (hSw.cell (p := ⟨bA, oA + k * 3, none⟩) lA).trans mA0; have fA1 := (hSw.cell (p := ⟨bA, oA + k * 3 + 1, none⟩) lA).trans mA1; have fA2 := (hSw.cell (p := ⟨bA, oA + k * 3 + 2, none⟩) lA).trans mA2; have fB0 := (hSw.cell (p := ⟨bB, oB + k * 3, none⟩) lB).trans mB0; have fB1 := (hSw.cell (p := ⟨bB, oB + k * 3 + 1, none⟩) lB).trans mB1; have fB2 := (hSw.cell (p := ⟨bB, oB + k * 3 + 2, none⟩) lB).trans mB2; have fC0 := (hSw.cell (p := ⟨bC, oC + k * 3, none⟩) lC).trans mC0; have fC1 := (hSw.cell (p := ⟨bC, oC + k * 3 + 1, none⟩) lC).trans mC1; have fC2 := (hSw.cell (p := ⟨bC, oC + k * 3 + 2, none⟩) lC).trans mC2; go_simp; try (with_reducible rfl))
        simp only [Act.put, List.getElem_toArray, List.getElem_cons_zero, List.getElem_cons_succ, List.setIfInBounds_toArray, List.set_cons_zero, List.set_cons_succ]
        refine wpAnyH_ready (rs := [10]) (by kernel_rfl) (by simp) ?_
        refine AllReadyH.cons rfl (fun K hK => ?_) AllReadyH.nil
        rw [if_pos (by rfl)]
        go_wp2_with (go_at_call 37; refine (sameNode_refl i bf A _ _ _ (by exact HIA.out.below hHeld (Nat.le_refl _)) (by exact HIX.out.below hHeld (Nat.le_refl _))).mono ?_; rintro e wq ⟨rfl, hbq⟩)
        refine hK.out _ _ (hHeld.trans (hbq.mono hHeld.size)) (fun hHeld => ?_)
        clear hK K hbq
        refine wpAnyH_take (i := 11) (v := ?_) rfl (by kernel_rfl) (by kernel_rfl) (by kernel_rfl) (fun _ _ _ h => h) (Or.inl ⟨by rfl, ?_⟩) (by assumption) ?_
        rotate_left
        · (intro wz hSw; clear hSw; go_simp; try (with_reducible rfl))
        simp only [Act.put, List.getElem_toArray, List.getElem_cons_zero, List.getElem_cons_succ, List.setIfInBounds_toArray, List.set_cons_zero, List.set_cons_succ]
        refine wpAnyH_take (i := 12) (v := ?_) rfl (by kernel_rfl) (by kernel_rfl) (by kernel_rfl) (fun _ _ _ h => h) (Or.inl ⟨by rfl, ?_⟩) (by assumption) ?_
        rotate_left
        · (intro wz hSw; clear hSw; go_simp; try (with_reducible rfl))
        simp only [Act.put, List.getElem_toArray, List.getElem_cons_zero, List.getElem_cons_succ, List.setIfInBounds_toArray, List.set_cons_zero, List.set_cons_succ]
        refine wpAnyH_take (i := 13) (v := ?_) rfl (by kernel_rfl) (by kernel_rfl) (by kernel_rfl) (fun _ _ _ h => h) (Or.inl ⟨by rfl, ?_⟩) (by assumption) ?_
        rotate_left
        · (intro wz hSw; clear hSw; go_simp; try (with_reducible rfl))
        simp only [Act.put, List.getElem_toArray, List.getElem_cons_zero, List.getElem_cons_succ, List.setIfInBounds_toArray, List.set_cons_zero, List.set_cons_succ]
        refine wpAnyH_take (i := 14) (v := ?_) rfl (by kernel_rfl) (by kernel_rfl) (by kernel_rfl) (fun _ _ _ h => h) (Or.inl ⟨by rfl, ?_⟩) (by assumption) ?_
        rotate_left
        · (intro wz hSw; clear hSw; go_simp; try (with_reducible rfl))
        simp only [Act.put, List.getElem_toArray, List.getElem_cons_zero, List.getElem_cons_succ, List.setIfInBounds_toArray, List.set_cons_zero, List.set_cons_succ]
        refine wpAnyH_take (i := 15) (v := ?_) rfl (by kernel_rfl) (by kernel_rfl) (by kernel_rfl) (fun _ _ _ h => h) (Or.inl ⟨by rfl, ?_⟩) (by assumption) ?_
        rotate_left
        · (intro wz hSw; clear hSw; go_simp; try (with_reducible rfl))
        simp only [Act.put, List.getElem_toArray, List.getElem_cons_zero, List.getElem_cons_succ, List.setIfInBounds_toArray, List.set_cons_zero, List.set_cons_succ]
        refine wpAnyH_take (i := 16) (v := ?_) rfl (by kernel_rfl) (by kernel_rfl) (by kernel_rfl) (fun _ _ _ h => h) (Or.inl ⟨by rfl, ?_⟩) (by assumption) ?_
        rotate_left
        · (intro wz hSw; have x0 := (hSw.cell (p := ⟨wr.heap.size, 0, none⟩) lx).trans xx0; have x1 := (hSw.cell (p := ⟨wr.heap.size, 1, none⟩) lx).trans xx1; have x2 := (hSw.cell (p := ⟨wr.heap.size, 2, none⟩) lx).trans xx2; have fA0 := (hSw.cell (p := ⟨bA, oA + k * 3, none⟩) lA).trans mA0; have fA1 := (hSw.cell (p := ⟨bA, oA + k * 3 + 1, none⟩) lA).trans mA1; have fA2 := (hSw.cell (p := ⟨bA, oA + k * 3 + 2, none⟩) lA).trans mA2; have fB0 := (hSw.cell (p := ⟨bB, oB + k * 3, none⟩) lB).trans mB0; have fB1 := (hSw.cell (p := ⟨bB, oB + k * 3 + 1, none⟩) lB).trans mB1; have fB2 := (hSw.cell (p := ⟨bB, oB + k * 3 + 2, none⟩) lB).trans mB2; have fC0 := (hSw.cell (p := ⟨bC, oC + k * 3, none⟩) lC).trans mC0; have fC1 := (hSw.cell (p := ⟨bC, oC + k * 3 + 1, none⟩) lC).trans mC1; have fC2 := (hSw.cell (p := ⟨bC, oC + k * 3 + 2, none⟩) lC).trans mC2; go_simp; try (with_reducible rfl))
        simp only [Act.put, List.getElem_toArray, List.getElem_cons_zero, List.getElem_cons_succ, List.setIfInBounds_toArray, List.set_cons_zero, List.set_cons_succ]
        refine wpAnyH_take (i := 17) (v := ?_) rfl (by kernel_rfl) (by kernel_rfl) (by kernel_rfl) (fun _ _ _ h => h) (Or.inl ⟨by rfl, ?_⟩) (by assumption) ?_
        rotate_left
        · (intro wz hSw; have x0 := (hSw.cell (p := ⟨wr.heap.size, 0, none⟩) lx).trans xx0; have x1 := (hSw.cell (p := ⟨wr.heap.size, 1, none⟩) lx).trans xx1; have x2 := (hSw.cell (p := ⟨wr.heap.size, 2, none⟩) lx).trans xx2; have fA0 := (hSw.cell (p := ⟨bA, oA + k * 3, none⟩) lA).trans mA0; have fA1 := (hSw.cell (p := ⟨bA, oA + k * 3 + 1, none⟩) lA).trans mA1; have fA2 := (hSw.cell (p := ⟨bA, oA + k * 3 + 2, none⟩) lA).trans mA2; have fB0 := (hSw.cell (p := ⟨bB, oB + k * 3, none⟩) lB).trans mB0; have fB1 := (hSw.cell (p := ⟨bB, oB + k * 3 + 1, none⟩) lB).trans mB1; have fB2 := (hSw.cell (p := ⟨bB, oB + k * 3 + 2, none⟩) lB).trans mB2; have fC0 := (hSw.cell (p := ⟨bC, oC + k * 3, none⟩) lC).trans mC0; have fC1 := (hSw.cell (p := ⟨bC, oC + k * 3 + 1, none⟩) lC).trans mC1; have fC2 := (hSw.cell (p := ⟨bC, oC + k * 3 + 2, none⟩) lC).trans mC2; go_simp; try (with_reducible rfl))
        simp only [Act.put, List.getElem_toArray, List.getElem_cons_zero, List.getElem_cons_succ, List.setIfInBounds_toArray, List.set_cons_zero, List.set_cons_succ]
        refine wpAnyH_ready (rs := [18]) (by kernel_rfl) (by simp) ?_
        refine AllReadyH.cons rfl (fun K hK => ?_) AllReadyH.nil
        rw [if_pos (by rfl)]
        go_wp2_with (go_at_call 37; refine (sameNode_refl i bf A _ _ _ (by exact HIB.out.below hHeld (Nat.le_refl _)) (by exact HIX.out.below hHeld (Nat.le_refl _))).mono ?_; rintro e wq ⟨rfl, hbq⟩)
        refine hK.out _ _ (hHeld.trans (hbq.mono hHeld.size)) (fun hHeld => ?_)
        clear hK K hbq
        refine wpAnyH_take (i := 19) (v := ?_) rfl (by kernel_rfl) (by kernel_rfl) (by kernel_rfl) (fun _ _ _ h => h) (Or.inl ⟨by rfl, ?_⟩) (by assumption) ?_
        rotate_left
        · (intro wz hSw; clear hSw; go_simp; try (with_reducible rfl))
        simp only [Act.put, List.getElem_toArray, List.getElem_cons_zero, List.getElem_cons_succ, List.setIfInBounds_toArray, List.set_cons_zero, List.set_cons_succ]
        refine wpAnyH_take (i := 20) (v := ?_) rfl (by kernel_rfl) (by kernel_rfl) (by kernel_rfl) (fun _ _ _ h => h) (Or.inl ⟨by rfl, ?_⟩) (by assumption) ?_
        rotate_left
        · (intro wz hSw; clear hSw; go_simp; try (with_reducible rfl))
        simp only [Act.put, List.getElem_toArray, List.getElem_cons_zero, List.getElem_cons_succ, List.setIfInBounds_toArray, List.set_cons_zero, List.set_cons_succ]
        refine wpAnyH_take (i := 21) (v := ?_) rfl (by kernel_rfl) (by kernel_rfl) (by kernel_rfl) (fun _ _ _ h => h) (Or.inl ⟨by rfl, ?_⟩) (by assumption) ?_
        rotate_left
        · (intro wz hSw; clear hSw; go_simp; try (with_reducible rfl))
        simp only [Act.put, List.getElem_toArray, List.getElem_cons_zero, List.getElem_cons_succ, List.setIfInBounds_toArray, List.set_cons_zero, List.set_cons_succ]
        refine wpAnyH_take (i := 22) (v := ?_) rfl (by kernel_rfl) (by kernel_rfl) (by kernel_rfl) (fun _ _ _ h => h) (Or.inl ⟨by rfl, ?_⟩) (by assumption) ?_
        rotate_left
        · (intro wz hSw; clear hSw; go_simp; try (with_reducible rfl))
        simp only [Act.put, List.getElem_toArray, List.getElem_cons_zero, List.getElem_cons_succ, List.setIfInBounds_toArray, List.set_cons_zero, List.set_cons_succ]
        refine wpAnyH_take (i := 23) (v := ?_) rfl (by kernel_rfl) (by kernel_rfl) (by kernel_rfl) (fun _ _ _ h => h) (Or.inl ⟨by rfl, ?_⟩) (by assumption) ?_
        rotate_left
        · (intro wz hSw; clear hSw; go_simp; try (with_reducible rfl))
        simp only [Act.put, List.getElem_toArray, List.getElem_cons_zero, List.getElem_cons_succ, List.setIfInBounds_toArray, List.set_cons_zero, List.set_cons_succ]
        refine wpAnyH_take (i := 24) (v := ?_) rfl (by kernel_rfl) (by kernel_rfl) (by kernel_rfl) (fun _ _ _ h => h) (Or.inl ⟨by rfl, ?_⟩) (by assumption) ?_
        rotate_left
        · (intro wz hSw; clear hSw; go_simp; try (with_reducible rfl))
        simp only [Act.put, List.getElem_toArray, List.getElem_cons_zero, List.getElem_cons_succ, List.setIfInBounds_toArray, List.set_cons_zero, List.set_cons_succ]
        refine wpAnyH_take (i := 25) (v := ?_) rfl (by kernel_rfl) (by kernel_rfl) (by kernel_rfl) (fun _ _ _ h => h) (Or.inl ⟨by rfl, ?_⟩) (by assumption) ?_
        rotate_left
        · (intro wz hSw; have x0 := (hSw.cell (p := ⟨wr.heap.size, 0, none⟩) lx).trans xx0; have x1 := (hSw.cell (p := ⟨wr.heap.size, 1, none⟩) lx).trans xx1; have x2 := (hSw.cell (p := ⟨wr.heap.size, 2, none⟩) lx).trans xx2; have fA0 := (hSw.cell (p := ⟨bA, oA + k * 3, none⟩) lA).trans mA0; have fA1 := (hSw.cell (p := ⟨bA, oA + k * 3 + 1, none⟩) lA).trans mA1; have fA2 := (hSw.cell (p := ⟨bA, oA + k * 3 + 2, none⟩) lA).trans mA2; have fB0 := (hSw.cell (p := ⟨bB, oB + k * 3, none⟩) lB).trans mB0; have fB1 := (hSw.cell (p := ⟨bB, oB + k * 3 + 1, none⟩) lB).trans mB1; have fB2 := (hSw.cell (p := ⟨bB, oB + k * 3 + 2, none⟩) lB).trans mB2; have fC0 := (hSw.cell (p := ⟨bC, oC + k * 3, none⟩) lC).trans mC0; have fC1 := (hSw.cell (p := ⟨bC, oC + k * 3 + 1, none⟩) lC).trans mC1; have fC2 := (hSw.cell (p := ⟨bC, oC + k * 3 + 2, none⟩) lC).trans mC2; go_simp; try (with_reducible rfl))
        simp only [Act.put, List.getElem_toArray, List.getElem_cons_zero, List.getElem_cons_succ, List.setIfInBounds_toArray, List.set_cons_zero, List.set_cons_succ]
        refine wpAnyH_take (i := 26) (v := ?_) rfl (by kernel_rfl) (by kernel_rfl) (by kernel_rfl) (fun _ _ _ h => h) (Or.inl ⟨by rfl, ?_⟩) (by assumption) ?_
        rotate_left
        · (intro wz hSw; have x0 := (hSw.cell (p := ⟨wr.heap.size, 0, none⟩) lx).trans xx0; have x1 := (hSw.cell (p := ⟨wr.heap.size, 1, none⟩) lx).trans xx1; have x2 := (hSw.cell (p := ⟨wr.heap.size, 2, none⟩) lx).trans xx2; have fA0 := (hSw.cell (p := ⟨bA, oA + k * 3, none⟩) lA).trans mA0; have fA1 := (hSw.cell (p := ⟨bA, oA + k * 3 + 1, none⟩) lA).trans mA1; have fA2 := (hSw.cell (p := ⟨bA, oA + k * 3 + 2, none⟩) lA).trans mA2; have fB0 := (hSw.cell (p := ⟨bB, oB + k * 3, none⟩) lB).trans mB0; have fB1 := (hSw.cell (p := ⟨bB, oB + k * 3 + 1, none⟩) lB).trans mB1; have fB2 := (hSw.cell (p := ⟨bB, oB + k * 3 + 2, none⟩) lB).trans mB2; have fC0 := (hSw.cell (p := ⟨bC, oC + k * 3, none⟩) lC).trans mC0; have fC1 := (hSw.cell (p := ⟨bC, oC + k * 3 + 1, none⟩) lC).trans mC1; have fC2 := (hSw.cell (p := ⟨bC, oC + k * 3 + 2, none⟩) lC).trans mC2; go_simp; try (with_reducible rfl))
        simp only [Act.put, List.getElem_toArray, List.getElem_cons_zero, List.getElem_cons_succ, List.setIfInBounds_toArray, List.set_cons_zero, List.set_cons_succ]
        refine wpAnyH_ready (rs := [27]) (by kernel_rfl) (by simp) ?_
        refine AllReadyH.cons rfl (fun K hK => ?_) AllReadyH.nil
        rw [if_pos (by rfl)]
        go_wp2_with (go_at_call 37; refine (sameNode_refl i bf A _ _ _ (by exact HIC.out.below hHeld (Nat.le_refl _)) (by exact HIX.out.below hHeld (Nat.le_refl _))).mono ?_; rintro e wq ⟨rfl, hbq⟩)
        refine hK.out _ _ (hHeld.trans (hbq.mono hHeld.size)) (fun hHeld => ?_)
        clear hK K hbq
        refine wpAnyH_take (i := 28) (v := ?_) rfl (by kernel_rfl) (by kernel_rfl) (by kernel_rfl) (fun _ _ _ h => h) (Or.inl ⟨by rfl, ?_⟩) (by assumption) ?_
        rotate_left
        · (intro wz hSw; clear hSw; go_simp; try (with_reducible rfl))
        simp only [Act.put, List.getElem_toArray, List.getElem_cons_zero, List.getElem_cons_succ, List.setIfInBounds_toArray, List.set_cons_zero, List.set_cons_succ]
        refine wpAnyH_take (i := 29) (v := ?_) rfl (by kernel_rfl) (by kernel_rfl) (by kernel_rfl) (fun _ _ _ h => h) (Or.inl ⟨by rfl, ?_⟩) (by assumption) ?_
        rotate_left
        · (intro wz hSw; clear hSw; go_simp; try (with_reducible rfl))
        simp only [Act.put, List.getElem_toArray, List.getElem_cons_zero, List.getElem_cons_succ, List.setIfInBounds_toArray, List.set_cons_zero, List.set_cons_succ]
        refine wpAnyH_take (i := 30) (v := ?_) rfl (by kernel_rfl) (by kernel_rfl) (by kernel_rfl) (fun _ _ _ h => h) (Or.inl ⟨by rfl, ?_⟩) (by assumption) ?_
        rotate_left
        · (intro wz hSw; clear hSw; go_simp; try (with_reducible rfl))
        simp only [Act.put, List.getElem_toArray, List.getElem_cons_zero, List.getElem_cons_succ, List.setIfInBounds_toArray, List.set_cons_zero, List.set_cons_succ]
        refine wpAnyH_take (i := 31) (v := ?_) rfl (by kernel_rfl) (by kernel_rfl) (by kernel_rfl) (fun _ _ _ h => h) (Or.inl ⟨by rfl, ?_⟩) (by assumption) ?_
        rotate_left
        · (intro wz hSw; clear hSw; go_simp; try (with_reducible rfl))
        simp only [Act.put, List.getElem_toArray, List.getElem_cons_zero, List.getElem_cons_succ, List.setIfInBounds_toArray, List.set_cons_zero, List.set_cons_succ]
        refine wpAnyH_take (i := 32) (v := ?_) rfl (by kernel_rfl) (by kernel_rfl) (by kernel_rfl) (fun _ _ _ h => h) (Or.inl ⟨by rfl, ?_⟩) (by assumption) ?_
        rotate_left
        · (intro wz hSw; clear hSw; go_simp; try (with_reducible rfl))
        simp only [Act.put, List.getElem_toArray, List.getElem_cons_zero, List.getElem_cons_succ, List.setIfInBounds_toArray, List.set_cons_zero, List.set_cons_succ]
        refine wpAnyH_take (i := 33) (v := ?_) rfl (by kernel_rfl) (by kernel_rfl) (by kernel_rfl) (fun _ _ _ h => h) (Or.inl ⟨by rfl, ?_⟩) (by assumption) ?_
        rotate_left
        · (intro wz hSw; clear hSw; go_simp; try (with_reducible rfl))
        simp only [Act.put, List.getElem_toArray, List.getElem_cons_zero, List.getElem_cons_succ, List.setIfInBounds_toArray, List.set_cons_zero, List.set_cons_succ]
        refine wpAnyH_take (i := 34) (v := ?_) rfl (by kernel_rfl) (by kernel_rfl) (by kernel_rfl) (fun _ _ _ h => h) (Or.inl ⟨by rfl, ?_⟩) (by assumption) ?_
        rotate_left
        · (intro wz hSw; clear hSw; go_simp; try (with_reducible rfl))
        simp only [Act.put, List.getElem_toArray, List.getElem_cons_zero, List.getElem_cons_succ, List.setIfInBounds_toArray, List.set_cons_zero, List.set_cons_succ]
        refine wpAnyH_take (i := 35) (v := ?_) rfl (by kernel_rfl) (by kernel_rfl) (by kernel_rfl) (fun _ _ _ h => h) (Or.inl ⟨by rfl, ?_⟩) (by assumption) ?_
        rotate_left
        · (intro wz hSw; clear hSw; go_simp; try (with_reducible rfl))
        simp only [Act.put, List.getElem_toArray, List.getElem_cons_zero, List.getElem_cons_succ, List.setIfInBounds_toArray, List.set_cons_zero, List.set_cons_succ]
        refine wpAnyH_take (i := 36) (v := ?_) rfl (by kernel_rfl) (by kernel_rfl) (by kernel_rfl) (fun _ _ _ h => h) (Or.inl ⟨by rfl, ?_⟩) (by assumption) ?_
        rotate_left
        · (intro wz hSw; have x0 := (hSw.cell (p := ⟨wr.heap.size, 0, none⟩) lx).trans xx0; have x1 := (hSw.cell (p := ⟨wr.heap.size, 1, none⟩) lx).trans xx1; have x2 := (hSw.cell (p := ⟨wr.heap.size, 2, none⟩) lx).trans xx2; have fA0 := (hSw.cell (p := ⟨bA, oA + k * 3, none⟩) lA).trans mA0; have fA1 := (hSw.cell (p := ⟨bA, oA + k * 3 + 1, none⟩) lA).trans mA1; have fA2 := (hSw.cell (p := ⟨bA, oA + k * 3 + 2, none⟩) lA).trans mA2; have fB0 := (hSw.cell (p := ⟨bB, oB + k * 3, none⟩) lB).trans mB0; have fB1 := (hSw.cell (p := ⟨bB, oB + k * 3 + 1, none⟩) lB).trans mB1; have fB2 := (hSw.cell (p := ⟨bB, oB + k * 3 + 2, none⟩) lB).trans mB2; have fC0 := (hSw.cell (p := ⟨bC, oC + k * 3, none⟩) lC).trans mC0; have fC1 := (hSw.cell (p := ⟨bC, oC + k * 3 + 1, none⟩) lC).trans mC1; have fC2 := (hSw.cell (p := ⟨bC, oC + k * 3 + 2, none⟩) lC).trans mC2; go_simp; try (with_reducible rfl))
        simp only [Act.put, List.getElem_toArray, List.getElem_cons_zero, List.getElem_cons_succ, List.setIfInBounds_toArray, List.set_cons_zero, List.set_cons_succ]
        refine wpAnyH_take (i := 37) (v := ?_) rfl (by kernel_rfl) (by kernel_rfl) (by kernel_rfl) (fun _ _ _ h => h) (Or.inl ⟨by rfl, ?_⟩) (by assumption) ?_
        rotate_left
        · (intro wz hSw; clear hSw; go_simp; try (with_reducible rfl))
        simp only [Act.put, List.getElem_toArray, List.getElem_cons_zero, List.getElem_cons_succ, List.setIfInBounds_toArray, List.set_cons_zero, List.set_cons_succ]
        refine wpAnyH_take (i := 38) (v := ?_) rfl (by kernel_rfl) (by kernel_rfl) (by kernel_rfl) (fun _ _ _ h => h) (Or.inl ⟨by rfl, ?_⟩) (by assumption) ?_
        rotate_left
        · (intro wz hSw; have x0 := (hSw.cell (p := ⟨wr.heap.size, 0, none⟩) lx).trans xx0; have x1 := (hSw.cell (p := ⟨wr.heap.size, 1, none⟩) lx).trans xx1; have x2 := (hSw.cell (p := ⟨wr.heap.size, 2, none⟩) lx).trans xx2; have fA0 := (hSw.cell (p := ⟨bA, oA + k * 3, none⟩) lA).trans mA0; have fA1 := (hSw.cell (p := ⟨bA, oA + k * 3 + 1, none⟩) lA).trans mA1; have fA2 := (hSw.cell (p := ⟨bA, oA + k * 3 + 2, none⟩) lA).trans mA2; have fB0 := (hSw.cell (p := ⟨bB, oB + k * 3, none⟩) lB).trans mB0; have fB1 := (hSw.cell (p := ⟨bB, oB + k * 3 + 1, none⟩) lB).trans mB1; have fB2 := (hSw.cell (p := ⟨bB, oB + k * 3 + 2, none⟩) lB).trans mB2; have fC0 := (hSw.cell (p := ⟨bC, oC + k * 3, none⟩) lC).trans mC0; have fC1 := (hSw.cell (p := ⟨bC, oC + k * 3 + 1, none⟩) lC).trans mC1; have fC2 := (hSw.cell (p := ⟨bC, oC + k * 3 + 2, none⟩) lC).trans mC2; go_simp; try (with_reducible rfl))
        simp only [Act.put, List.getElem_toArray, List.getElem_cons_zero, List.getElem_cons_succ, List.setIfInBounds_toArray, List.set_cons_zero, List.set_cons_succ]
        refine wpAnyH_take (i := 39) (v := ?_) rfl (by kernel_rfl) (by kernel_rfl) (by kernel_rfl) (fun _ _ _ h => h) (Or.inl ⟨by rfl, ?_⟩) (by assumption) ?_
        rotate_left
        · (intro wz hSw; clear hSw; go_simp; try (with_reducible rfl))
        simp only [Act.put, List.getElem_toArray, List.getElem_cons_zero, List.getElem_cons_succ, List.setIfInBounds_toArray, List.set_cons_zero, List.set_cons_succ]
        refine wpAnyH_take (i := 40) (v := ?_) rfl (by kernel_rfl) (by kernel_rfl) (by kernel_rfl) (fun _ _ _ h => h) (Or.inl ⟨by rfl, ?_⟩) (by assumption) ?_
        rotate_left
        · (intro wz hSw; clear hSw; go_simp; try (with_reducible rfl))
        simp only [Act.put, List.getElem_toArray, List.getElem_cons_zero, List.getElem_cons_succ, List.setIfInBounds_toArray, List.set_cons_zero, List.set_cons_succ]
        refine wpAnyH_take (i := 41) (v := ?_) rfl (by kernel_rfl) (by kernel_rfl) (by kernel_rfl) (fun _ _ _ h => h) (Or.inl ⟨by rfl, ?_⟩) (by assumption) ?_
        rotate_left
        · (intro wz hSw; clear hSw; go_simp; try (with_reducible rfl))
        simp only [Act.put, List.getElem_toArray, List.getElem_cons_zero, List.getElem_cons_succ, List.setIfInBounds_toArray, List.set_cons_zero, List.set_cons_succ]
        refine wpAnyH_take (i := 42) (v := ?_) rfl (by kernel_rfl) (by kernel_rfl) (by kernel_rfl) (fun _ _ _ h => h) (Or.inl ⟨by rfl, ?_⟩) (by assumption) ?_
        rotate_left
        · (intro wz hSw; clear hSw; go_simp; try (with_reducible rfl))
        simp only [Act.put, List.getElem_toArray, List.getElem_cons_zero, List.getElem_cons_succ, List.setIfInBounds_toArray, List.set_cons_zero, List.set_cons_succ]
        refine wpAnyH_take (i := 43) (v := ?_) rfl (by kernel_rfl) (by kernel_rfl) (by kernel_rfl) (fun _ _ _ h => h) (Or.inl ⟨by rfl, ?_⟩) (by assumption) ?_
        rotate_left
        · (intro wz hSw; clear hSw; go_simp; try (with_reducible rfl))
        simp only [Act.put, List.getElem_toArray, List.getElem_cons_zero, List.getElem_cons_succ, List.setIfInBounds_toArray, List.set_cons_zero, List.set_cons_succ]
        refine wpAnyH_take (i := 44) (v := ?_) rfl (by kernel_rfl) (by kernel_rfl) (by kernel_rfl) (fun _ _ _ h => h) (Or.inl ⟨by rfl, ?_⟩) (by assumption) ?_
        rotate_left
        · (intro wz hSw; clear hSw; go_simp; try (with_reducible rfl))
        simp only [Act.put, List.getElem_toArray, List.getElem_cons_zero, List.getElem_cons_succ, List.setIfInBounds_toArray, List.set_cons_zero, List.set_cons_succ]
        refine wpAnyH_take (i := 45) (v := ?_) rfl (by kernel_rfl) (by kernel_rfl) (by kernel_rfl) (fun _ _ _ h => h) (Or.inl ⟨by rfl, ?_⟩) (by assumption) ?_
        rotate_left
        · (intro wz hSw; clear hSw; go_simp; try (with_reducible rfl))
        simp only [Act.put, List.getElem_toArray, List.getElem_cons_zero, List.getElem_cons_succ, List.setIfInBounds_toArray, List.set_cons_zero, List.set_cons_succ]
        refine wpAnyH_take (i := 46) (v := ?_) rfl (by kernel_rfl) (by kernel_rfl) (by kernel_rfl) (fun _ _ _ h => h) (Or.inl ⟨by rfl, ?_⟩) (by assumption) ?_
        rotate_left
        · (intro wz hSw; have x0 := (hSw.cell (p := ⟨wr.heap.size, 0, none⟩) lx).trans xx0; have x1 := (hSw.cell (p := ⟨wr.heap.size, 1, none⟩) lx).trans xx1; have x2 := (hSw.cell (p := ⟨wr.heap.size, 2, none⟩) lx).trans xx2; have fA0 := (hSw.cell (p := ⟨bA, oA + k * 3, none⟩) lA).trans mA0; have fA1 := (hSw.cell (p := ⟨bA, oA + k * 3 + 1, none⟩) lA).trans mA1; have fA2 := (hSw.cell (p := ⟨bA, oA + k * 3 + 2, none⟩) lA).trans mA2; have fB0 := (hSw.cell (p := ⟨bB, oB + k * 3, none⟩) lB).trans mB0; have fB1 := (hSw.cell (p := ⟨bB, oB + k * 3 + 1, none⟩) lB).trans mB1; have fB2 := (hSw.cell (p := ⟨bB, oB + k * 3 + 2, none⟩) lB).trans mB2; have fC0 := (hSw.cell (p := ⟨bC, oC + k * 3, none⟩) lC).trans mC0; have fC1 := (hSw.cell (p := ⟨bC, oC + k * 3 + 1, none⟩) lC).trans mC1; have fC2 := (hSw.cell (p := ⟨bC, oC + k * 3 + 2, none⟩) lC).trans mC2; go_simp; try (with_reducible rfl))
        simp only [Act.put, List.getElem_toArray, List.getElem_cons_zero, List.getElem_cons_succ, List.setIfInBounds_toArray, List.set_cons_zero, List.set_cons_succ]
        refine wpAnyH_take (i := 47) (v := ?_) rfl (by kernel_rfl) (by kernel_rfl) (by kernel_rfl) (fun _ _ _ h => h) (Or.inl ⟨by rfl, ?_⟩) (by assumption) ?_
        rotate_left
        · (intro wz hSw; clear hSw; go_simp; try (with_reducible rfl))
        simp only [Act.put, List.getElem_toArray, List.getElem_cons_zero, List.getElem_cons_succ, List.setIfInBounds_toArray, List.set_cons_zero, List.set_cons_succ]
        refine wpAnyH_take (i := 48) (v := ?_) rfl (by kernel_rfl) (by kernel_rfl) (by kernel_rfl) (fun _ _ _ h => h) (Or.inl ⟨by rfl, ?_⟩) (by assumption) ?_
        rotate_left
        · (intro wz hSw; have x0 := (hSw.cell (p := ⟨wr.heap.size, 0, none⟩) lx).trans xx0; have x1 := (hSw.cell (p := ⟨wr.heap.size, 1, none⟩) lx).trans xx1; have x2 := (hSw.cell (p := ⟨wr.heap.size, 2, none⟩) lx).trans xx2; have fA0 := (hSw.cell (p := ⟨bA, oA + k * 3, none⟩) lA).trans mA0; have fA1 := (hSw.cell (p := ⟨bA, oA + k * 3 + 1, none⟩) lA).trans mA1; have fA2 := (hSw.cell (p := ⟨bA, oA + k * 3 + 2, none⟩) lA).trans mA2; have fB0 := (hSw.cell (p := ⟨bB, oB + k * 3, none⟩) lB).trans mB0; have fB1 := (hSw.cell (p := ⟨bB, oB + k * 3 + 1, none⟩) lB).trans mB1; have fB2 := (hSw.cell (p := ⟨bB, oB + k * 3 + 2, none⟩) lB).trans mB2; have fC0 := (hSw.cell (p := ⟨bC, oC + k * 3, none⟩) lC).trans mC0; have fC1 := (hSw.cell (p := ⟨bC, oC + k * 3 + 1, none⟩) lC).trans mC1; have fC2 := (hSw.cell (p := ⟨bC, oC + k * 3 + 2, none⟩) lC).trans mC2; go_simp; try (with_reducible rfl))
        simp only [Act.put, List.getElem_toArray, List.getElem_cons_zero, List.getElem_cons_succ, List.setIfInBounds_toArray, List.set_cons_zero, List.set_cons_succ]
        refine wpAnyH_take (i := 49) (v := ?_) rfl (by kernel_rfl) (by kernel_rfl) (by kernel_rfl) (fun _ _ _ h => h) (Or.inl ⟨by rfl, ?_⟩) (by assumption) ?_
        rotate_left
        · (intro wz hSw; clear hSw; go_simp; try (with_reducible rfl))
        simp only [Act.put, List.getElem_toArray, List.getElem_cons_zero, List.getElem_cons_succ, List.setIfInBounds_toArray, List.set_cons_zero, List.set_cons_succ]
        refine wpAnyH_take (i := 50) (v := ?_) rfl (by kernel_rfl) (by kernel_rfl) (by kernel_rfl) (fun _ _ _ h => h) (Or.inl ⟨by rfl, ?_⟩) (by assumption) ?_
        rotate_left
        · (intro wz hSw; clear hSw; go_simp; try (with_reducible rfl))
        simp only [Act.put, List.getElem_toArray, List.getElem_cons_zero, List.getElem_cons_succ, List.setIfInBounds_toArray, List.set_cons_zero, List.set_cons_succ]
        refine wpAnyH_take (i := 51) (v := ?_) rfl (by kernel_rfl) (by kernel_rfl) (by kernel_rfl) (fun _ _ _ h => h) (Or.inl ⟨by rfl, ?_⟩) (by assumption) ?_
        rotate_left
        · (intro wz hSw; clear hSw; go_simp; try (with_reducible rfl))
        simp only [Act.put, List.getElem_toArray, List.getElem_cons_zero, List.getElem_cons_succ, List.setIfInBounds_toArray, List.set_cons_zero, List.set_cons_succ]
        refine wpAnyH_take (i := 52) (v := ?_) rfl (by kernel_rfl) (by kernel_rfl) (by kernel_rfl) (fun _ _ _ h => h) (Or.inl ⟨by rfl, ?_⟩) (by assumption) ?_
        rotate_left
        · (intro wz hSw; clear hSw; go_simp; try (with_reducible rfl))
        simp only [Act.put, List.getElem_toArray, List.getElem_cons_zero, List.getElem_cons_succ, List.setIfInBounds_toArray, List.set_cons_zero, List.set_cons_succ]
        refine wpAnyH_take (i := 53) (v := ?_) rfl (by kernel_rfl) (by kernel_rfl) (by kernel_rfl) (fun _ _ _ h => h) (Or.inl ⟨by rfl, ?_⟩) (by assumption) ?_
        rotate_left
        · (intro wz hSw; clear hSw; go_simp; try (with_reducible rfl))
        simp only [Act.put, List.getElem_toArray, List.getElem_cons_zero, List.getElem_cons_succ, List.setIfInBounds_toArray, List.set_cons_zero, List.set_cons_succ]
        refine wpAnyH_take (i := 54) (v := ?_) rfl (by kernel_rfl) (by kernel_rfl) (by kernel_rfl) (fun _ _ _ h => h) (Or.inl ⟨by rfl, ?_⟩) (by assumption) ?_
        rotate_left
        · (intro wz hSw; clear hSw; go_simp; try (with_reducible rfl))
        simp only [Act.put, List.getElem_toArray, List.getElem_cons_zero, List.getElem_cons_succ, List.setIfInBounds_toArray, List.set_cons_zero, List.set_cons_succ]
        refine wpAnyH_take (i := 55) (v := ?_) rfl (by kernel_rfl) (by kernel_rfl) (by kernel_rfl) (fun _ _ _ h => h) (Or.inl ⟨by rfl, ?_⟩) (by assumption) ?_
        rotate_left
        · (intro wz hSw; clear hSw; go_simp; try (with_reducible rfl))
        simp only [Act.put, List.getElem_toArray, List.getElem_cons_zero, List.getElem_cons_succ, List.setIfInBounds_toArray, List.set_cons_zero, List.set_cons_succ]
        refine wpAnyH_take (i := 56) (v := ?_) rfl (by kernel_rfl) (by kernel_rfl) (by kernel_rfl) (fun _ _ _ h => h) (Or.inl ⟨by rfl, ?_⟩) (by assumption) ?_
        rotate_left
        · (intro wz hSw; have x0 := (hSw.cell (p := ⟨wr.heap.size, 0, none⟩) lx).trans xx0; have x1 := (hSw.cell (p := ⟨wr.heap.size, 1, none⟩) lx).trans xx1; have x2 := (hSw.cell (p := ⟨wr.heap.size, 2, none⟩) lx).trans xx2; have fA0 := (hSw.cell (p := ⟨bA, oA + k * 3, none⟩) lA).trans mA0; have fA1 := (hSw.cell (p := ⟨bA, oA + k * 3 + 1, none⟩) lA).trans mA1; have fA2 := (hSw.cell (p := ⟨bA, oA + k * 3 + 2, none⟩) lA).trans mA2; have fB0 := (hSw.cell (p := ⟨bB, oB + k * 3, none⟩) lB).trans mB0; have fB1 := (hSw.cell (p := ⟨bB, oB + k * 3 + 1, none⟩) lB).trans mB1; have fB2 := (hSw.cell (p := ⟨bB, oB + k * 3 + 2, none⟩) lB).trans mB2; have fC0 := (hSw.cell (p := ⟨bC, oC + k * 3, none⟩) lC).trans mC0; have fC1 := (hSw.cell (p := ⟨bC, oC + k * 3 + 1, none⟩) lC).trans mC1; have fC2 := (hSw.cell (p := ⟨bC, oC + k * 3 + 2, none⟩) lC).trans mC2; go_simp; try (with_reducible rfl))
        simp only [Act.put, List.getElem_toArray, List.getElem_cons_zero, List.getElem_cons_succ, List.setIfInBounds_toArray, List.set_cons_zero, List.set_cons_succ]
        refine wpAnyH_take (i := 57) (v := ?_) rfl (by kernel_rfl) (by kernel_rfl) (by kernel_rfl) (fun _ _ _ h => h) (Or.inl ⟨by rfl, ?_⟩) (by assumption) ?_
        rotate_left
        · (intro wz hSw; clear hSw; go_simp; try (with_reducible rfl))
        simp only [Act.put, List.getElem_toArray, List.getElem_cons_zero, List.getElem_cons_succ, List.setIfInBounds_toArray, List.set_cons_zero, List.set_cons_succ]
        refine wpAnyH_take (i := 58) (v := ?_) rfl (by kernel_rfl) (by kernel_rfl) (by kernel_rfl) (fun _ _ _ h => h) (Or.inl ⟨by rfl, ?_⟩) (by assumption) ?_
        rotate_left
        · (intro wz hSw; have x0 := (hSw.cell (p := ⟨wr.heap.size, 0, none⟩) lx).trans xx0; have x1 := (hSw.cell (p := ⟨wr.heap.size, 1, none⟩) lx).trans xx1; have x2 := (hSw.cell (p := ⟨wr.heap.size, 2, none⟩) lx).trans xx2; have fA0 := (hSw.cell (p := ⟨bA, oA + k * 3, none⟩) lA).trans mA0; have fA1 := (hSw.cell (p := ⟨bA, oA + k * 3 + 1, none⟩) lA).trans mA1; have fA2 := (hSw.cell (p := ⟨bA, oA + k * 3 + 2, none⟩) lA).trans mA2; have fB0 := (hSw.cell (p := ⟨bB, oB + k * 3, none⟩) lB).trans mB0; have fB1 := (hSw.cell (p := ⟨bB, oB + k * 3 + 1, none⟩) lB).trans mB1; have fB2 := (hSw.cell (p := ⟨bB, oB + k * 3 + 2, none⟩) lB).trans mB2; have fC0 := (hSw.cell (p := ⟨bC, oC + k * 3, none⟩) lC).trans mC0; have fC1 := (hSw.cell (p := ⟨bC, oC + k * 3 + 1, none⟩) lC).trans mC1; have fC2 := (hSw.cell (p := ⟨bC, oC + k * 3 + 2, none⟩) lC).trans mC2; go_simp; try (with_reducible rfl))
        simp only [Act.put, List.getElem_toArray, List.getElem_cons_zero, List.getElem_cons_succ, List.setIfInBounds_toArray, List.set_cons_zero, List.set_cons_succ]
        refine wpAnyH_take (i := 59) (v := ?_) rfl (by kernel_rfl) (by kernel_rfl) (by kernel_rfl) (fun _ _ _ h => h) (Or.inl ⟨by rfl, ?_⟩) (by assumption) ?_
        rotate_left
        · (intro wz hSw; clear hSw; go_simp; try (with_reducible rfl))
        simp only [Act.put, List.getElem_toArray, List.getElem_cons_zero, List.getElem_cons_succ, List.setIfInBounds_toArray, List.set_cons_zero, List.set_cons_succ]
        refine wpAnyH_take (i := 60) (v := ?_) rfl (by kernel_rfl) (by kernel_rfl) (by kernel_rfl) (fun _ _ _ h => h) (Or.inl ⟨by rfl, ?_⟩) (by assumption) ?_
        rotate_left
        · (intro wz hSw; clear hSw; go_simp; try (with_reducible rfl))
        simp only [Act.put, List.getElem_toArray, List.getElem_cons_zero, List.getElem_cons_succ, List.setIfInBounds_toArray, List.set_cons_zero, List.set_cons_succ]
        refine wpAnyH_done (by kernel_rfl) ?_ _
        go_wp2
        go_roundg (y.length - (k + 1))
        case rel => exact ⟨k + 1, by omega, rfl, by go_num, HW.out.trans ((hWa.trans (hHeld.mono hWa.size)).mono HW.out.size)⟩
        case measure => omega
      · clear HEA HEB HEC
        go_wp2_with fail
        obtain ⟨W, hW⟩ : ∃ W, wr.alloc (.cells #[.int .i64 i, .int .i64 bf, .slice paY A.length caY] 31) = W := ⟨_, rfl⟩
        have hWa := (Below.refl wr.heap.size wr).alloc (Nat.le_refl _) (.cells #[.int .i64 i, .int .i64 bf, .slice paY A.length caY] 31)
        have xx0 : W.cell? ⟨wr.heap.size, 0, none⟩ = some (.int .i64 i) := by rw [← hW]; simp
        have xx1 : W.cell? ⟨wr.heap.size, 1, none⟩ = some (.int .i64 bf) := by rw [← hW]; simp
        have xx2 : W.cell? ⟨wr.heap.size, 2, none⟩ = some (.slice paY A.length caY) := by rw [← hW]; simp
        have lx : wr.heap.size < W.heap.size := by rw [← hW]; simp
        rw [hW] at hWa
        rw [hW]
        have mA1 := (hWa.cell (p := ⟨bA, oA + k * 3 + 1, none⟩) gA3).trans kA1
        have lA : bA < W.heap.size := by omega
        have mB1 := (hWa.cell (p := ⟨bB, oB + k * 3 + 1, none⟩) gB3).trans kB1
        have lB : bB < W.heap.size := by omega
        have mC1 := (hWa.cell (p := ⟨bC, oC + k * 3 + 1, none⟩) gC3).trans kC1
        have lC : bC < W.heap.size := by omega
        clear hW kY0 kY1 kY2 kA0 kA1 kA2 kB0 kB1 kB2 kC0 kC1 kC2 hIA hIB hIC
        refine wp_region_held_drew (S := fun w' => Below (W).heap.size W w') (by kernel_rfl) (Below.refl _ W).drew (fun hHeld => ?_)
        refine wpAnyH_take (i := 0) (v := ?_) rfl (by kernel_rfl) (by kernel_rfl) (by kernel_rfl) (fun _ _ _ h => h) (Or.inl ⟨by rfl, ?_⟩) (by assumption) ?_
        rotate_left
        · (intro wz hSw; clear hSw; go_simp; try (with_reducible rfl))
        simp only [Act.put, List.getElem_toArray, List.getElem_cons_zero, List.setIfInBounds_toArray, List.set_cons_zero, List.set_cons_succ]
        refine wpAnyH_take (i := 1) (v := ?_) rfl (by kernel_rfl) (by kernel_rfl) (by kernel_rfl) (fun _ _ _ h => h) (Or.inl ⟨by rfl, ?_⟩) (by assumption) ?_
        rotate_left
        · (intro wz hSw; have x0 := (hSw.cell (p := ⟨wr.heap.size, 0, none⟩) lx).trans xx0; have x1 := (hSw.cell (p := ⟨wr.heap.size, 1, none⟩) lx).trans xx1; have x2 := (hSw.cell (p := ⟨wr.heap.size, 2, none⟩) lx).trans xx2; have fA1 := (hSw.cell (p := ⟨bA, oA + k * 3 + 1, none⟩) lA).trans mA1; have fB1 := (hSw.cell (p := ⟨bB, oB + k * 3 + 1, none⟩) lB).trans mB1; have fC1 := (hSw.cell (p := ⟨bC, oC + k * 3 + 1, none⟩) lC).trans mC1; go_simp; try (with_reducible rfl))
        simp only [Act.put, List.getElem_toArray, List.getElem_cons_zero, List.getElem_cons_succ, List.setIfInBounds_toArray, List.set_cons_zero, List.set_cons_succ]
        refine wpAnyH_take (i := 2) (v := ?_) rfl (by kernel_rfl) (by kernel_rfl) (by kernel_rfl) (fun _ _ _ h => h) (Or.inl ⟨by rfl, ?_⟩) (by assumption) ?_
        rotate_left
        · (intro wz hSw; clear hSw; go_simp; try (with_reducible rfl))
        simp only [Act.put, List.getElem_toArray, List.getElem_cons_zero, List.getElem_cons_succ, List.setIfInBounds_toArray, List.set_cons_zero, List.set_cons_succ]
        refine wpAnyH_take (i := 3) (v := ?_) rfl (by kernel_rfl) (by kernel_rfl) (by kernel_rfl) (fun _ _ _ h => h) (Or.inl ⟨by rfl, ?_⟩) (by assumption) ?_
        rotate_left
        · (intro wz hSw; clear hSw; go_simp; try (with_reducible rfl))
        simp only [Act.put, List.getElem_toArray, List.getElem_cons_zero, List.getElem_cons_succ, List.setIfInBounds_toArray, List.set_cons_zero, List.set_cons_succ]
        refine wpAnyH_take (i := 4) (v := ?_) rfl (by kernel_rfl) (by kernel_rfl) (by kernel_rfl) (fun _ _ _ h => h) (Or.inl ⟨by rfl, ?_⟩) (by assumption) ?_
        rotate_left
        · (intro wz hSw; clear hSw; go_simp; try (with_reducible rfl))
        simp only [Act.put, List.getElem_toArray, List.getElem_cons_zero, List.getElem_cons_succ, List.setIfInBounds_toArray, List.set_cons_zero, List.set_cons_succ]
        refine wpAnyH_take (i := 5) (v := undef) rfl (by kernel_rfl) (by kernel_rfl) (by kernel_rfl) (fun _ _ _ h => h) (Or.inr ⟨by rfl, rfl⟩) (by assumption) ?_
        simp only [Act.put, List.getElem_toArray, List.getElem_cons_zero, List.getElem_cons_succ, List.setIfInBounds_toArray, List.set_cons_zero, List.set_cons_succ]
        refine wpAnyH_take (i := 6) (v := undef) rfl (by kernel_rfl) (by kernel_rfl) (by kernel_rfl) (fun _ _ _ h => h) (Or.inr ⟨by rfl, rfl⟩) (by assumption) ?_
        simp only [Act.put, List.getElem_toArray, List.getElem_cons_zero, List.getElem_cons_succ, List.setIfInBounds_toArray, List.set_cons_zero, List.set_cons_succ]
        refine wpAnyH_take (i := 7) (v := undef) rfl (by kernel_rfl) (by kernel_rfl) (by kernel_rfl) (fun _ _ _ h => h) (Or.inr ⟨by rfl, rfl⟩) (by assumption) ?_
        simp only [Act.put, List.getElem_toArray, List.getElem_cons_zero, List.getElem_cons_succ, List.setIfInBounds_toArray, List.set_cons_zero, List.set_cons_succ]
        refine wpAnyH_take (i := 8) (v := undef) rfl (by kernel_rfl) (by kernel_rfl) (by kernel_rfl) (fun _ _ _ h => h) (Or.inr ⟨by rfl, rfl⟩) (by assumption) ?_
        simp only [Act.put, List.getElem_toArray, List.getElem_cons_zero, List.getElem_cons_succ, List.setIfInBounds_toArray, List.set_cons_zero, List.set_cons_succ]
        refine wpAnyH_take (i := 9) (v := undef) rfl (by kernel_rfl) (by kernel_rfl) (by kernel_rfl) (fun _ _ _ h => h) (Or.inr ⟨by rfl, rfl⟩) (by assumption) ?_
        simp only [Act.put, List.getElem_toArray, List.getElem_cons_zero, List.getElem_cons_succ, List.setIfInBounds_toArray, List.set_cons_zero, List.set_cons_succ]
        refine wpAnyH_take (i := 10) (v := undef) rfl (by kernel_rfl) (by kernel_rfl) (by kernel_rfl) (fun _ _ _ h => h) (Or.inr ⟨by rfl, rfl⟩) (by assumption) ?_
        simp only [Act.put, List.getElem_toArray, List.getElem_cons_zero, List.getElem_cons_succ, List.setIfInBounds_toArray, List.set_cons_zero, List.set_cons_succ]
        refine wpAnyH_take (i := 11) (v := undef) rfl (by kernel_rfl) (by kernel_rfl) (by kernel_rfl) (fun _ _ _ h => h) (Or.inr ⟨by rfl, rfl⟩) (by assumption) ?_
        simp only [Act.put, List.getElem_toArray, List.getElem_cons_zero, List.getElem_cons_succ, List.setIfInBounds_toArray, List.set_cons_zero, List.set_cons_succ]
        refine wpAnyH_take (i := 12) (v := undef) rfl (by kernel_rfl) (by kernel_rfl) (by kernel_rfl) (fun _ _ _ h => h) (Or.inr ⟨by rfl, rfl⟩) (by assumption) ?_
        simp only [Act.put, List.getElem_toArray, List.getElem_cons_zero, List.getElem_cons_succ, List.setIfInBounds_toArray, List.set_cons_zero, List.set_cons_succ]
        refine wpAnyH_take (i := 13) (v := undef) rfl (by kernel_rfl) (by kernel_rfl) (by kernel_rfl) (fun _ _ _ h => h) (Or.inr ⟨by rfl, rfl⟩) (by assumption) ?_
        simp only [Act.put, List.getElem_toArray, List.getElem_cons_zero, List.getElem_cons_succ, List.setIfInBounds_toArray, List.set_cons_zero, List.set_cons_succ]
        refine wpAnyH_take (i := 14) (v := undef) rfl (by kernel_rfl) (by kernel_rfl) (by kernel_rfl) (fun _ _ _ h => h) (Or.inr ⟨by rfl, rfl⟩) (by assumption) ?_
        simp only [Act.put, List.getElem_toArray, List.getElem_cons_zero, List.getElem_cons_succ, List.setIfInBounds_toArray, List.set_cons_zero, List.set_cons_succ]
        refine wpAnyH_take (i := 15) (v := undef) rfl (by kernel_rfl) (by kernel_rfl) (by kernel_rfl) (fun _ _ _ h => h) (Or.inr ⟨by rfl, rfl⟩) (by assumption) ?_
        simp only [Act.put, List.getElem_toArray, List.getElem_cons_zero, List.getElem_cons_succ, List.setIfInBounds_toArray, List.set_cons_zero, List.set_cons_succ]
        refine wpAnyH_take (i := 16) (v := undef) rfl (by kernel_rfl) (by kernel_rfl) (by kernel_rfl) (fun _ _ _ h => h) (Or.inr ⟨by rfl, rfl⟩) (by assumption) ?_
        simp only [Act.put, List.getElem_toArray, List.getElem_cons_zero, List.getElem_cons_succ, List.setIfInBounds_toArray, List.set_cons_zero, List.set_cons_succ]
        refine wpAnyH_take (i := 17) (v := undef) rfl (by kernel_rfl) (by kernel_rfl) (by kernel_rfl) (fun _ _ _ h => h) (Or.inr ⟨by rfl, rfl⟩) (by assumption) ?_
        simp only [Act.put, List.getElem_toArray, List.getElem_cons_zero, List.getElem_cons_succ, List.setIfInBounds_toArray, List.set_cons_zero, List.set_cons_succ]
        refine wpAnyH_take (i := 18) (v := undef) rfl (by kernel_rfl) (by kernel_rfl) (by kernel_rfl) (fun _ _ _ h => h) (Or.inr ⟨by rfl, rfl⟩) (by assumption) ?_
        simp only [Act.put, List.getElem_toArray, List.getElem_cons_zero, List.getElem_cons_succ, List.setIfInBounds_toArray, List.set_cons_zero, List.set_cons_succ]
        refine wpAnyH_take (i := 19) (v := undef) rfl (by kernel_rfl) (by kernel_rfl) (by kernel_rfl) (fun _ _ _ h => h) (Or.inr ⟨by rfl, rfl⟩) (by assumption) ?_
        simp only [Act.put, List.getElem_toArray, List.getElem_cons_zero, List.getElem_cons_succ, List.setIfInBounds_toArray, List.set_cons_zero, List.set_cons_succ]
        refine wpAnyH_take (i := 20) (v := undef) rfl (by kernel_rfl) (by kernel_rfl) (by kernel_rfl) (fun _ _ _ h => h) (Or.inr ⟨by rfl, rfl⟩) (by assumption) ?_
        simp only [Act.put, List.getElem_toArray, List.getElem_cons_zero, List.getElem_cons_succ, List.setIfInBounds_toArray, List.set_cons_zero, List.set_cons_succ]
        refine wpAnyH_take (i := 21) (v := undef) rfl (by kernel_rfl) (by kernel_rfl) (by kernel_rfl) (fun _ _ _ h => h) (Or.inr ⟨by rfl, rfl⟩) (by assumption) ?_
        simp only [Act.put, List.getElem_toArray, List.getElem_cons_zero, List.getElem_cons_succ, List.setIfInBounds_toArray, List.set_cons_zero, List.set_cons_succ]
        refine wpAnyH_take (i := 22) (v := undef) rfl (by kernel_rfl) (by kernel_rfl) (by kernel_rfl) (fun _ _ _ h => h) (Or.inr ⟨by rfl, rfl⟩) (by assumption) ?_
        simp only [Act.put, List.getElem_toArray, List.getElem_cons_zero, List.getElem_cons_succ, List.setIfInBounds_toArray, List.set_cons_zero, List.set_cons_succ]
        refine wpAnyH_take (i := 23) (v := undef) rfl (by kernel_rfl) (by kernel_rfl) (by kernel_rfl) (fun _ _ _ h => h) (Or.inr ⟨by rfl, rfl⟩) (by assumption) ?_
        simp only [Act.put, List.getElem_toArray, List.getElem_cons_zero, List.getElem_cons_succ, List.setIfInBounds_toArray, List.set_cons_zero, List.set_cons_succ]
        refine wpAnyH_take (i := 24) (v := undef) rfl (by kernel_rfl) (by kernel_rfl) (by kernel_rfl) (fun _ _ _ h => h) (Or.inr ⟨by rfl, rfl⟩) (by assumption) ?_
        simp only [Act.put, List.getElem_toArray, List.getElem_cons_zero, List.getElem_cons_succ, List.setIfInBounds_toArray, List.set_cons_zero, List.set_cons_succ]
        refine wpAnyH_take (i := 25) (v := undef) rfl (by kernel_rfl) (by kernel_rfl) (by kernel_rfl) (fun _ _ _ h => h) (Or.inr ⟨by rfl, rfl⟩) (by assumption) ?_
        simp only [Act.put, List.getElem_toArray, List.getElem_cons_zero, List.getElem_cons_succ, List.setIfInBounds_toArray, List.set_cons_zero, List.set_cons_succ]
        refine wpAnyH_take (i := 26) (v := undef) rfl (by kernel_rfl) (by kernel_rfl) (by kernel_rfl) (fun _ _ _ h => h) (Or.inr ⟨by rfl, rfl⟩) (by assumption) ?_
        simp only [Act.put, List.getElem_toArray, List.getElem_cons_zero, List.getElem_cons_succ, List.setIfInBounds_toArray, List.set_cons_zero, List.set_cons_succ]
        refine wpAnyH_take (i := 27) (v := undef) rfl (by kernel_rfl) (by kernel_rfl) (by kernel_rfl) (fun _ _ _ h => h) (Or.inr ⟨by rfl, rfl⟩) (by assumption) ?_
        simp only [Act.put, List.getElem_toArray, List.getElem_cons_zero, List.getElem_cons_succ, List.setIfInBounds_toArray, List.set_cons_zero, List.set_cons_succ]
        refine wpAnyH_take (i := 28) (v := undef) rfl (by kernel_rfl) (by kernel_rfl) (by kernel_rfl) (fun _ _ _ h => h) (Or.inr ⟨by rfl, rfl⟩) (by assumption) ?_
        simp only [Act.put, List.getElem_toArray, List.getElem_cons_zero, List.getElem_cons_succ, List.setIfInBounds_toArray, List.set_cons_zero, List.set_cons_succ]
        refine wpAnyH_take (i := 29) (v := undef) rfl (by kernel_rfl) (by kernel_rfl) (by kernel_rfl) (fun _ _ _ h => h) (Or.inr ⟨by rfl, rfl⟩) (by assumption) ?_
        simp only [Act.put, List.getElem_toArray, List.getElem_cons_zero, List.getElem_cons_succ, List.setIfInBounds_toArray, List.set_cons_zero, List.set_cons_succ]
        refine wpAnyH_take (i := 30) (v := ?_) rfl (by kernel_rfl) (by kernel_rfl) (by kernel_rfl) (fun _ _ _ h => h) (Or.inl ⟨by rfl, ?_⟩) (by assumption) ?_
        rotate_left
        · (intro wz hSw; clear hSw; go_simp; try (with_reducible rfl))
        simp only [Act.put, List.getElem_toArray, List.getElem_cons_zero, List.getElem_cons_succ, List.setIfInBounds_toArray, List.set_cons_zero, List.set_cons_succ]
        refine wpAnyH_take (i := 31) (v := ?_) rfl (by kernel_rfl) (by kernel_rfl) (by kernel_rfl) (fun _ _ _ h => h) (Or.inl ⟨by rfl, ?_⟩) (by assumption) ?_
        rotate_left
        · (intro wz hSw; clear hSw; go_simp; try (with_reducible rfl))
        simp only [Act.put, List.getElem_toArray, List.getElem_cons_zero, List.getElem_cons_succ, List.setIfInBounds_toArray, List.set_cons_zero, List.set_cons_succ]
        refine wpAnyH_take (i := 32) (v := ?_) rfl (by kernel_rfl) (by kernel_rfl) (by kernel_rfl) (fun _ _ _ h => h) (Or.inl ⟨by rfl, ?_⟩) (by assumption) ?_
        rotate_left
        · (intro wz hSw; clear hSw; go_simp; try (with_reducible rfl))
        simp only [Act.put, List.getElem_toArray, List.getElem_cons_zero, List.getElem_cons_succ, List.setIfInBounds_toArray, List.set_cons_zero, List.set_cons_succ]
        refine wpAnyH_take (i := 33) (v := ?_) rfl (by kernel_rfl) (by kernel_rfl) (by kernel_rfl) (fun _ _ _ h => h) (Or.inl ⟨by rfl, ?_⟩) (by assumption) ?_
        rotate_left
        · (intro wz hSw; clear hSw; go_simp; try (with_reducible rfl))
        simp only [Act.put, List.getElem_toArray, List.getElem_cons_zero, List.getElem_cons_succ, List.setIfInBounds_toArray, List.set_cons_zero, List.set_cons_succ]
        refine wpAnyH_take (i := 34) (v := ?_) rfl (by kernel_rfl) (by kernel_rfl) (by kernel_rfl) (fun _ _ _ h => h) (Or.inl ⟨by rfl, ?_⟩) (by assumption) ?_
        rotate_left
        · (intro wz hSw; clear hSw; go_simp; try (with_reducible rfl))
        simp only [Act.put, List.getElem_toArray, List.getElem_cons_zero, List.getElem_cons_succ, List.setIfInBounds_toArray, List.set_cons_zero, List.set_cons_succ]
        refine wpAnyH_take (i := 35) (v := ?_) rfl (by kernel_rfl) (by kernel_rfl) (by kernel_rfl) (fun _ _ _ h => h) (Or.inl ⟨by rfl, ?_⟩) (by assumption) ?_
        rotate_left
        · (intro wz hSw; clear hSw; go_simp; try (with_reducible rfl))
        simp only [Act.put, List.getElem_toArray, List.getElem_cons_zero, List.getElem_cons_succ, List.setIfInBounds_toArray, List.set_cons_zero, List.set_cons_succ]
        refine wpAnyH_take (i := 36) (v := ?_) rfl (by kernel_rfl) (by kernel_rfl) (by kernel_rfl) (fun _ _ _ h => h) (Or.inl ⟨by rfl, ?_⟩) (by assumption) ?_
        rotate_left
        · (intro wz hSw; have x0 := (hSw.cell (p := ⟨wr.heap.size, 0, none⟩) lx).trans xx0; have x1 := (hSw.cell (p := ⟨wr.heap.size, 1, none⟩) lx).trans xx1; have x2 := (hSw.cell (p := ⟨wr.heap.size, 2, none⟩) lx).trans xx2; have fA1 := (hSw.cell (p := ⟨bA, oA + k * 3 + 1, none⟩) lA).trans mA1; have fB1 := (hSw.cell (p := ⟨bB, oB + k * 3 + 1, none⟩) lB).trans mB1; have fC1 := (hSw.cell (p := ⟨bC, oC + k * 3 + 1, none⟩) lC).trans mC1; go_simp; try (with_reducible rfl))
        simp only [Act.put, List.getElem_toArray, List.getElem_cons_zero, List.getElem_cons_succ, List.setIfInBounds_toArray, List.set_cons_zero, List.set_cons_succ]
        refine wpAnyH_take (i := 37) (v := ?_) rfl (by kernel_rfl) (by kernel_rfl) (by kernel_rfl) (fun _ _ _ h => h) (Or.inl ⟨by rfl, ?_⟩) (by assumption) ?_
        rotate_left
        · (intro wz hSw; clear hSw; go_simp; try (with_reducible rfl))
        simp only [Act.put, List.getElem_toArray, List.getElem_cons_zero, List.getElem_cons_succ, List.setIfInBounds_toArray, List.set_cons_zero, List.set_cons_succ]
        refine wpAnyH_take (i := 38) (v := ?_) rfl (by kernel_rfl) (by kernel_rfl) (by kernel_rfl) (fun _ _ _ h => h) (Or.inl ⟨by rfl, ?_⟩) (by assumption) ?_
        rotate_left
        · (intro wz hSw; have x0 := (hSw.cell (p := ⟨wr.heap.size, 0, none⟩) lx).trans xx0; have x1 := (hSw.cell (p := ⟨wr.heap.size, 1, none⟩) lx).trans xx1; have x2 := (hSw.cell (p := ⟨wr.heap.size, 2, none⟩) lx).trans xx2; have fA1 := (hSw.cell (p := ⟨bA, oA + k * 3 + 1, none⟩) lA).trans mA1; have fB1 := (hSw.cell (p := ⟨bB, oB + k * 3 + 1, none⟩) lB).trans mB1; have fC1 := (hSw.cell (p := ⟨bC, oC + k * 3 + 1, none⟩) lC).trans mC1; go_simp; try (with_reducible rfl))
        simp only [Act.put, List.getElem_toArray, List.getElem_cons_zero, List.getElem_cons_succ, List.setIfInBounds_toArray, List.set_cons_zero, List.set_cons_succ]
        refine wpAnyH_take (i := 39) (v := ?_) rfl (by kernel_rfl) (by kernel_rfl) (by kernel_rfl) (fun _ _ _ h => h) (Or.inl ⟨by rfl, ?_⟩) (by assumption) ?_
        rotate_left
        · (intro wz hSw; clear hSw; go_simp; try (with_reducible rfl))
        simp only [Act.put, List.getElem_toArray, List.getElem_cons_zero, List.getElem_cons_succ, List.setIfInBounds_toArray, List.set_cons_zero, List.set_cons_succ]
        refine wpAnyH_take (i := 40) (v := ?_) rfl (by kernel_rfl) (by kernel_rfl) (by kernel_rfl) (fun _ _ _ h => h) (Or.inl ⟨by rfl, ?_⟩) (by assumption) ?_
        rotate_left
        · (intro wz hSw; clear hSw; go_simp; try (with_reducible rfl))
        simp only [Act.put, List.getElem_toArray, List.getElem_cons_zero, List.getElem_cons_succ, List.setIfInBounds_toArray, List.set_cons_zero, List.set_cons_succ]
        refine wpAnyH_take (i := 41) (v := ?_) rfl (by kernel_rfl) (by kernel_rfl) (by kernel_rfl) (fun _ _ _ h => h) (Or.inl ⟨by rfl, ?_⟩) (by assumption) ?_
        rotate_left
        · (intro wz hSw; clear hSw; go_simp; try (with_reducible rfl))
        simp only [Act.put, List.getElem_toArray, List.getElem_cons_zero, List.getElem_cons_succ, List.setIfInBounds_toArray, List.set_cons_zero, List.set_cons_succ]
        refine wpAnyH_take (i := 42) (v := ?_) rfl (by kernel_rfl) (by kernel_rfl) (by kernel_rfl) (fun _ _ _ h => h) (Or.inl ⟨by rfl, ?_⟩) (by assumption) ?_
        rotate_left
        · (intro wz hSw; clear hSw; go_simp; try (with_reducible rfl))
        simp only [Act.put, List.getElem_toArray, List.getElem_cons_zero, List.getElem_cons_succ, List.setIfInBounds_toArray, List.set_cons_zero, List.set_cons_succ]
        refine wpAnyH_take (i := 43) (v := ?_) rfl (by kernel_rfl) (by kernel_rfl) (by kernel_rfl) (fun _ _ _ h => h) (Or.inl ⟨by rfl, ?_⟩) (by assumption) ?_
        rotate_left
        · (intro wz hSw; clear hSw; go_simp; try (with_reducible rfl))
        simp only [Act.put, List.getElem_toArray, List.getElem_cons_zero, List.getElem_cons_succ, List.setIfInBounds_toArray, List.set_cons_zero, List.set_cons_succ]
        refine wpAnyH_take (i := 44) (v := ?_) rfl (by kernel_rfl) (by kernel_rfl) (by kernel_rfl) (fun _ _ _ h => h) (Or.inl ⟨by rfl, ?_⟩) (by assumption) ?_
        rotate_left
        · (intro wz hSw; clear hSw; go_simp; try (with_reducible rfl))
        simp only [Act.put, List.getElem_toArray, List.getElem_cons_zero, List.getElem_cons_succ, List.setIfInBounds_toArray, List.set_cons_zero, List.set_cons_succ]
        refine wpAnyH_take (i := 45) (v := ?_) rfl (by kernel_rfl) (by kernel_rfl) (by kernel_rfl) (fun _ _ _ h => h) (Or.inl ⟨by rfl, ?_⟩) (by assumption) ?_
        rotate_left
        · (intro wz hSw; clear hSw; go_simp; try (with_reducible rfl))
        simp only [Act.put, List.getElem_toArray, List.getElem_cons_zero, List.getElem_cons_succ, List.setIfInBounds_toArray, List.set_cons_zero, List.set_cons_succ]
        refine wpAnyH_take (i := 46) (v := ?_) rfl (by kernel_rfl) (by kernel_rfl) (by kernel_rfl) (fun _ _ _ h => h) (Or.inl ⟨by rfl, ?_⟩) (by assumption) ?_
        rotate_left
        · (intro wz hSw; have x0 := (hSw.cell (p := ⟨wr.heap.size, 0, none⟩) lx).trans xx0; have x1 := (hSw.cell (p := ⟨wr.heap.size, 1, none⟩) lx).trans xx1; have x2 := (hSw.cell (p := ⟨wr.heap.size, 2, none⟩) lx).trans xx2; have fA1 := (hSw.cell (p := ⟨bA, oA + k * 3 + 1, none⟩) lA).trans mA1; have fB1 := (hSw.cell (p := ⟨bB, oB + k * 3 + 1, none⟩) lB).trans mB1; have fC1 := (hSw.cell (p := ⟨bC, oC + k * 3 + 1, none⟩) lC).trans mC1; go_simp; try (with_reducible rfl))
        simp only [Act.put, List.getElem_toArray, List.getElem_cons_zero, List.getElem_cons_succ, List.setIfInBounds_toArray, List.set_cons_zero, List.set_cons_succ]
        refine wpAnyH_take (i := 47) (v := ?_) rfl (by kernel_rfl) (by kernel_rfl) (by kernel_rfl) (fun _ _ _ h => h) (Or.inl ⟨by rfl, ?_⟩) (by assumption) ?_
        rotate_left
        · (intro wz hSw; clear hSw; go_simp; try (with_reducible rfl))
        simp only [Act.put, List.getElem_toArray, List.getElem_cons_zero, List.getElem_cons_succ, List.setIfInBounds_toArray, List.set_cons_zero, List.set_cons_succ]
        refine wpAnyH_take (i := 48) (v := ?_) rfl (by kernel_rfl) (by kernel_rfl) (by kernel_rfl) (fun _ _ _ h => h) (Or.inl ⟨by rfl, ?_⟩) (by assumption) ?_
        rotate_left
        · (intro wz hSw; have x0 := (hSw.cell (p := ⟨wr.heap.size, 0, none⟩) lx).trans xx0; have x1 := (hSw.cell (p := ⟨wr.heap.size, 1, none⟩) lx).trans xx1; have x2 := (hSw.cell (p := ⟨wr.heap.size, 2, none⟩) lx).trans xx2; have fA1 := (hSw.cell (p := ⟨bA, oA + k * 3 + 1, none⟩) lA).trans mA1; have fB1 := (hSw.cell (p := ⟨bB, oB + k * 3 + 1, none⟩) lB).trans mB1; have fC1 := (hSw.cell (p := ⟨bC, oC + k * 3 + 1, none⟩) lC).trans mC1; go_simp; try (with_reducible rfl))
        simp only [Act.put, List.getElem_toArray, List.getElem_cons_zero, List.getElem_cons_succ, List.setIfInBounds_toArray, List.set_cons_zero, List.set_cons_succ]
        refine wpAnyH_take (i := 49) (v := ?_) rfl (by kernel_rfl) (by kernel_rfl) (by kernel_rfl) (fun _ _ _ h => h) (Or.inl ⟨by rfl, ?_⟩) (by assumption) ?_
        rotate_left
        · (intro wz hSw; clear hSw; go_simp; try (with_reducible rfl))
        simp only [Act.put, List.getElem_toArray, List.getElem_cons_zero, List.getElem_cons_succ, List.setIfInBounds_toArray, List.set_cons_zero, List.set_cons_succ]
        refine wpAnyH_take (i := 50) (v := ?_) rfl (by kernel_rfl) (by kernel_rfl) (by kernel_rfl) (fun _ _ _ h => h) (Or.inl ⟨by rfl, ?_⟩) (by assumption) ?_
        rotate_left
        · (intro wz hSw; clear hSw; go_simp; try (with_reducible rfl))
        simp only [Act.put, List.getElem_toArray, List.getElem_cons_zero, List.getElem_cons_succ, List.setIfInBounds_toArray, List.set_cons_zero, List.set_cons_succ]
        refine wpAnyH_take (i := 51) (v := ?_) rfl (by kernel_rfl) (by kernel_rfl) (by kernel_rfl) (fun _ _ _ h => h) (Or.inl ⟨by rfl, ?_⟩) (by assumption) ?_
        rotate_left
        · (intro wz hSw; clear hSw; go_simp; try (with_reducible rfl))
        simp only [Act.put, List.getElem_toArray, List.getElem_cons_zero, List.getElem_cons_succ, List.setIfInBounds_toArray, List.set_cons_zero, List.set_cons_succ]
        refine wpAnyH_take (i := 52) (v := ?_) rfl (by kernel_rfl) (by kernel_rfl) (by kernel_rfl) (fun _ _ _ h => h) (Or.inl ⟨by rfl, ?_⟩) (by assumption) ?_
        rotate_left
        · (intro wz hSw; clear hSw; go_simp; try (with_reducible rfl))
        simp only [Act.put, List.getElem_toArray, List.getElem_cons_zero, List.getElem_cons_succ, List.setIfInBounds_toArray, List.set_cons_zero, List.set_cons_succ]
        refine wpAnyH_take (i := 53) (v := ?_) rfl (by kernel_rfl) (by kernel_rfl) (by kernel_rfl) (fun _ _ _ h => h) (Or.inl ⟨by rfl, ?_⟩) (by assumption) ?_
        rotate_left
        · (intro wz hSw; clear hSw; go_simp; try (with_reducible rfl))
        simp only [Act.put, List.getElem_toArray, List.getElem_cons_zero, List.getElem_cons_succ, List.setIfInBounds_toArray, List.set_cons_zero, List.set_cons_succ]
        refine wpAnyH_take (i := 54) (v := ?_) rfl (by kernel_rfl) (by kernel_rfl) (by kernel_rfl) (fun _ _ _ h => h) (Or.inl ⟨by rfl, ?_⟩) (by assumption) ?_
        rotate_left
        · (intro wz hSw; clear hSw; go_simp; try (with_reducible rfl))
        simp only [Act.put, List.getElem_toArray, List.getElem_cons_zero, List.getElem_cons_succ, List.setIfInBounds_toArray, List.set_cons_zero, List.set_cons_succ]
        refine wpAnyH_take (i := 55) (v := ?_) rfl (by kernel_rfl) (by kernel_rfl) (by kernel_rfl) (fun _ _ _ h => h) (Or.inl ⟨by rfl, ?_⟩) (by assumption) ?_
        rotate_left
        · (intro wz hSw; clear hSw; go_simp; try (with_reducible rfl))
        simp only [Act.put, List.getElem_toArray, List.getElem_cons_zero, List.getElem_cons_succ, List.setIfInBounds_toArray, List.set_cons_zero, List.set_cons_succ]
        refine wpAnyH_take (i := 56) (v := ?_) rfl (by kernel_rfl) (by kernel_rfl) (by kernel_rfl) (fun _ _ _ h => h) (Or.inl ⟨by rfl, ?_⟩) (by assumption) ?_
        rotate_left
        · (intro wz hSw; have x0 := (hSw.cell (p := ⟨wr.heap.size, 0, none⟩) lx).trans xx0; have x1 := (hSw.cell (p := ⟨wr.heap.size, 1, none⟩) lx).trans xx1; have x2 := (hSw.cell (p := ⟨wr.heap.size, 2, none⟩) lx).trans xx2; have fA1 := (hSw.cell (p := ⟨bA, oA + k * 3 + 1, none⟩) lA).trans mA1; have fB1 := (hSw.cell (p := ⟨bB, oB + k * 3 + 1, none⟩) lB).trans mB1; have fC1 := (hSw.cell (p := ⟨bC, oC + k * 3 + 1, none⟩) lC).trans mC1; go_simp; try (with_reducible rfl))
        simp only [Act.put, List.getElem_toArray, List.getElem_cons_zero, List.getElem_cons_succ, List.setIfInBounds_toArray, List.set_cons_zero, List.set_cons_succ]
        refine wpAnyH_take (i := 57) (v := ?_) rfl (by kernel_rfl) (by kernel_rfl) (by kernel_rfl) (fun _ _ _ h => h) (Or.inl ⟨by rfl, ?_⟩) (by assumption) ?_
        rotate_left
        · (intro wz hSw; clear hSw; go_simp; try (with_reducible rfl))
        simp only [Act.put, List.getElem_toArray, List.getElem_cons_zero, List.getElem_cons_succ, List.setIfInBounds_toArray, List.set_cons_zero, List.set_cons_succ]
        refine wpAnyH_take (i := 58) (v := ?_) rfl (by kernel_rfl) (by kernel_rfl) (by kernel_rfl) (fun _ _ _ h => h) (Or.inl ⟨by rfl, ?_⟩) (by assumption) ?_
        rotate_left
        · (intro wz hSw; have x0 := (hSw.cell (p := ⟨wr.heap.size, 0, none⟩) lx).trans xx0; have x1 := (hSw.cell (p := ⟨wr.heap.size, 1, none⟩) lx).trans xx1; have x2 := (hSw.cell (p := ⟨wr.heap.size, 2, none⟩) lx).trans xx2; have fA1 := (hSw.cell (p := ⟨bA, oA + k * 3 + 1, none⟩) lA).trans mA1; have fB1 := (hSw.cell (p := ⟨bB, oB + k * 3 + 1, none⟩) lB).trans mB1; have fC1 := (hSw.cell (p := ⟨bC, oC + k * 3 + 1, none⟩) lC).trans mC1; go_simp; try (with_reducible rfl))
        simp only [Act.put, List.getElem_toArray, List.getElem_cons_zero, List.getElem_cons_succ, List.setIfInBounds_toArray, List.set_cons_zero, List.set_cons_succ]
        refine wpAnyH_take (i := 59) (v := ?_) rfl (by kernel_rfl) (by kernel_rfl) (by kernel_rfl) (fun _ _ _ h => h) (Or.inl ⟨by rfl, ?_⟩) (by assumption) ?_
        rotate_left
        · (intro wz hSw; clear hSw; go_simp; try (with_reducible rfl))
        simp only [Act.put, List.getElem_toArray, List.getElem_cons_zero, List.getElem_cons_succ, List.setIfInBounds_toArray, List.set_cons_zero, List.set_cons_succ]
        refine wpAnyH_take (i := 60) (v := ?_) rfl (by kernel_rfl) (by kernel_rfl) (by kernel_rfl) (fun _ _ _ h => h) (Or.inl ⟨by rfl, ?_⟩) (by assumption) ?_
        rotate_left
        · (intro wz hSw; clear hSw; go_simp; try (with_reducible rfl))
        simp only [Act.put, List.getElem_toArray, List.getElem_cons_zero, List.getElem_cons_succ, List.setIfInBounds_toArray, List.set_cons_zero, List.set_cons_succ]
        refine wpAnyH_done (by kernel_rfl) ?_ _
        go_wp2
        go_roundg (y.length - (k + 1))
        case rel => exact ⟨k + 1, by omega, rfl, by go_num, HW.out.trans ((hWa.trans (hHeld.mono hWa.size)).mono HW.out.size)⟩
        case measure => omega
    · obtain rfl : k = y.length := by omega
      have hle : ((rCloser y id o).length : Int) = (y.length : Int) := by have := HLA.out; omega
      have hle' : (((rCloser y id o).length : Int) == (y.length : Int)) = true := by simp [hle]
      clear hle
      go_wp2
      go_ret
      exact ⟨rfl, hbG.trans (HW.out.mono hbG.size)⟩

end Go.Proofs.Ytadplndoopkdgaa
