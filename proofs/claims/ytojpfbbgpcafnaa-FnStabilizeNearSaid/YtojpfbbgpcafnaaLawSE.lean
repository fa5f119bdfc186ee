/-
  Walks: the law FnStabilizeNear.
-/
import Derived.Test.YtojpfbbgpcafnaaLawN2
import Derived.Test.YtojpfbbgpcafnaaDrawT
import Derived.Test.YtojpfbbgpcafnaaPlain
import Derived.Test.YtojpfbbgpcafnaaIRound
namespace Go.Proofs.Ytojpfbbgpcafnaa
open Go.RowKit

set_option maxRecDepth 100000 in
set_option maxHeartbeats 4000000 in
theorem lawStabilizeNear_any (v : Value) (w : World) (h : CodeAt w v) :
    Calls Try.prog 8 #[v] w fun e w' => e = .returned (.bool true) ∧ Below w.heap.size w w' := by
  have H := Lib.hid h
  obtain ⟨pb, n, cap, rfl, hn1, hn2, -⟩ := h
  unfold maxLen at hn2
  by_cases hbig : 1048576 < n
  · go_enter Try.func8, Try.ntmps8
    go_wp2
    go_ret
    exact ⟨rfl, Below.refl _ _⟩
  have hbig' : n ≤ 1048576 := by omega
  clear hbig
  have hf0 := field0
  have hf1 := field1
  have hf2 := field2
  go_enter Try.func8, Try.ntmps8
  go_wp2_with fail
  refine (drawRingStabilize_any _ _ H.out).mono ?_
  rintro e w1 ⟨u, y, id, rfl, hat, hsm, hb1⟩
  have HAT := Lib.hid hat
  have hz1 := hb1.size
  have hy10 := hsm.2.1
  have hy1 := hsm.1
  obtain ⟨p, cp, rfl⟩ := hat.form
  clear hsm hat
  cases hok : rStabOk y id
  · have HK := Lib.hid hok
    clear hok
    go_wp2_with (first | (have _ := hb4; go_at_call 16; refine (sameRing_any _ _ (rStab y id) (rStab y id) _ (HA.out.below hb4 (Nat.le_refl _)) (HB.out.below hb4 (Nat.le_refl _))).mono ?_; rw [decide_eq_true rfl]; rintro e w5 ⟨rfl, hb5⟩) | (go_at_call 16; refine (sameRing_any _ _ (rStab y id) (rStab y id) _ HA.out HB.out).mono ?_; rw [decide_eq_true rfl]; rintro e w4 ⟨rfl, hb4⟩) | (go_at_call 22; refine (iRingStabilize_any _ y id _ HAT.out).mono ?_; rw [HK.out]; rintro e w2 ⟨ua, rfl, hA, hb2⟩; have HA0 := Lib.hid hA.at; clear hA) | (go_at_call 28; refine (sRingStabilize_any _ y id _ (HAT.out.below hb2 (Nat.le_refl _))).mono ?_; rw [HK.out]; rintro e w3 ⟨ub, rfl, hB, hb3⟩; have HB := Lib.hid hB.at; have HA := Lib.hid (HA0.out.below hb3 (Nat.le_refl _)); have hbD := hb1.trans ((hb2.trans (hb3.mono hb2.size)).mono hz1); clear hB))
    go_ret
    exact ⟨rfl, hbD.trans ((hb4.trans (hb5.mono hb4.size)).mono hbD.size)⟩
  have HK := Lib.hid hok
  clear hok
  obtain ⟨g1, g2, g3, g4⟩ := law_stab_near HK.out
  obtain ⟨hs, -, -⟩ := stab_open HK.out
  have hv := safe_valid hs
  obtain ⟨i1, b1, x0, x1, e1⟩ := ndOf_form hv id
  obtain ⟨i2, b2, q0, q1, e2⟩ := ndOf_form (safe_valid (law_stab_others HK.out).1.1) id
  rw [e1] at g2 g4
  rw [e2] at g3 g4
  have g2' : okP x0 = true := g2
  have g3' : okP q0 = true := g3
  have g4' : live y x0 = true → dist id q0 ≤ dist id x0 := g4
  obtain ⟨d1, hd1⟩ : ∃ d, dist id q0 = d := ⟨_, rfl⟩
  obtain ⟨d2, hd2⟩ : ∃ d, dist id x0 = d := ⟨_, rfl⟩
  rw [hd1, hd2] at g4'
  have HD1 := Lib.hid hd1
  have HD2 := Lib.hid hd2
  have HO1 := Lib.hid g1
  have HO2 := Lib.hid g3'
  have HO3 := Lib.hid g2'
  have HG4 := Lib.hid g4'
  have HE1 := Lib.hid e1
  have HE2 := Lib.hid e2
  obtain ⟨hx00, hx01⟩ := okP_def.1 g2'
  clear hs g1 g2 g2' g3 g3' g4 g4' hv e1 e2 hd1 hd2
  go_wp2_with (first | (go_at_call 16; refine (sameRing_any _ _ (rStab y id) (rStab y id) _ HA1.out HB.out).mono ?_; rw [decide_eq_true rfl]; rintro e w4 ⟨rfl, hb4⟩; have HA := Lib.hid (HA1.out.below hb4 (Nat.le_refl _)); have hbC := (hb2.trans (hb3.mono hb2.size)).trans (hb4.mono (hb2.trans (hb3.mono hb2.size)).size); have HC := Lib.hid (HAT.out.below hbC (Nat.le_refl _)); have hbD := hb1.trans (hbC.mono hz1)) | (go_at_call 22; refine (iRingStabilize_any _ y id _ HAT.out).mono ?_; rw [HK.out]; rintro e w2 ⟨ua, rfl, hA, hb2⟩; have HA0 := Lib.hid hA.at; obtain ⟨pa, ca, ea⟩ := hA.at.form; subst ea; clear hA) | (go_at_call 28; refine (sRingStabilize_any _ y id _ (HAT.out.below hb2 (Nat.le_refl _))).mono ?_; rw [HK.out]; rintro e w3 ⟨ub, rfl, hB, hb3⟩; have HB := Lib.hid hB.at; have HA1 := Lib.hid (HA0.out.below hb3 (Nat.le_refl _)); clear hB))
  refine (nodeAtL_two _ y id i1 b1 x0 x1 _ HC.out HE1.out).mono ?_
  rintro e w5 ⟨n1, o1, c1, rfl, u1, u2, u3, u4, u5, hb5⟩
  have hb5' := (hb5.alloc hb5.size (.cells #[.int .i64 i1, .int .i64 b1, .slice (some ⟨n1, o1, none⟩) 2 c1] 31))
  have hz5 : w5.heap.size < (w5.alloc (.cells #[.int .i64 i1, .int .i64 b1, .slice (some ⟨n1, o1, none⟩) 2 c1] 31)).heap.size := by simp
  go_wp2_with fail
  refine (nodeAtL_two _ (rStab y id) id i2 b2 q0 q1 _ (by exact HA.out.below hb5' (Nat.le_refl _)) HE2.out).mono ?_
  rintro e w6 ⟨n2, o2, c2, rfl, v1, v2, v3, v4, v5, hb6⟩
  go_wp2_with fail
  obtain ⟨W, hW⟩ : ∃ W, w6.alloc (.cells #[.int .i64 i2, .int .i64 b2, .slice (some ⟨n2, o2, none⟩) 2 c2] 31) = W := ⟨_, rfl⟩
  have hbw := hb5'.trans ((hb6.alloc hb6.size (.cells #[.int .i64 i2, .int .i64 b2, .slice (some ⟨n2, o2, none⟩) 2 c2] 31)).mono hb5'.size)
  have hb6' := hb6.alloc hb6.size (.cells #[.int .i64 i2, .int .i64 b2, .slice (some ⟨n2, o2, none⟩) 2 c2] 31)
  have hz6 := hb6.size
  have t1 : W.cell? ⟨w6.heap.size, 1, none⟩ = some (.int .i64 b2) := by rw [← hW]; simp
  have t2 : W.cell? ⟨w6.heap.size, 2, none⟩ = some (.slice (some ⟨n2, o2, none⟩) 2 c2) := by rw [← hW]; simp
  have t3 : W.cell? ⟨n2, o2, none⟩ = some (.int .i64 q0) := by rw [← hW]; exact (((Below.refl w6.heap.size w6).alloc (Nat.le_refl _) _).cell (p := ⟨n2, o2, none⟩) v3).trans v4
  have t4 : W.cell? ⟨n2, o2 + 1, none⟩ = some (.int .i64 q1) := by rw [← hW]; exact (((Below.refl w6.heap.size w6).alloc (Nat.le_refl _) _).cell (p := ⟨n2, o2 + 1, none⟩) v3).trans v5
  rw [hW] at hbw hb6'
  have r1 : W.cell? ⟨w5.heap.size, 1, none⟩ = some (.int .i64 b1) := (hb6'.cell (p := ⟨w5.heap.size, 1, none⟩) hz5).trans (by simp)
  have r2 : W.cell? ⟨w5.heap.size, 2, none⟩ = some (.slice (some ⟨n1, o1, none⟩) 2 c1) := (hb6'.cell (p := ⟨w5.heap.size, 2, none⟩) hz5).trans (by simp)
  have r3 : W.cell? ⟨n1, o1, none⟩ = some (.int .i64 x0) := (hb6'.cell (p := ⟨n1, o1, none⟩) (by show n1 < _; omega)).trans ((((Below.refl w5.heap.size w5).alloc (Nat.le_refl _) _).cell (p := ⟨n1, o1, none⟩) u3).trans u4)
  have r4 : W.cell? ⟨n1, o1 + 1, none⟩ = some (.int .i64 x1) := (hb6'.cell (p := ⟨n1, o1 + 1, none⟩) (by show n1 < _; omega)).trans ((((Below.refl w5.heap.size w5).alloc (Nat.le_refl _) _).cell (p := ⟨n1, o1 + 1, none⟩) u3).trans u5)
  have l1 : w6.heap.size < W.heap.size := by rw [← hW]; simp
  have l2 : w5.heap.size < W.heap.size := by omega
  have l3 : n1 < W.heap.size := by omega
  have l4 : n2 < W.heap.size := by omega
  rw [hW]
  have HC9 := Lib.hid (HC.out.below hbw (Nat.le_refl _))
  have HA9 := Lib.hid (HA.out.below hbw (Nat.le_refl _))
  clear hW u4 u5 v4 v5 hb5' hb6'
  clear HA9
  cases hl : live y x0
  · have HL := Lib.hid hl
    clear hl HG4
    refine wp_region_held_drew (S := fun w' => Below (W).heap.size W w') (by kernel_rfl) (Below.refl _ W).drew (fun hHeld => ?_)
    refine wpAnyH_take (i := 0) (v := ?_) rfl (by kernel_rfl) (by kernel_rfl) (by kernel_rfl) (fun _ _ _ h => h) (Or.inl ⟨by rfl, ?_⟩) (by assumption) ?_
    rotate_left
    · (intro w hSw; clear hSw; go_simp; try (with_reducible rfl))
    simp only [Act.put, List.getElem_toArray, List.getElem_cons_zero, List.setIfInBounds_toArray, List.set_cons_zero, List.set_cons_succ]
    refine wpAnyH_take (i := 1) (v := ?_) rfl (by kernel_rfl) (by kernel_rfl) (by kernel_rfl) (fun _ _ _ h => h) (Or.inl ⟨by rfl, ?_⟩) (by assumption) ?_
    rotate_left
    · (intro w hSw; clear hSw; go_simp; try (with_reducible rfl))
    simp only [Act.put, List.getElem_toArray, List.getElem_cons_zero, List.getElem_cons_succ, List.setIfInBounds_toArray, List.set_cons_zero, List.set_cons_succ]
    refine wpAnyH_take (i := 2) (v := ?_) rfl (by kernel_rfl) (by kernel_rfl) (by kernel_rfl) (fun _ _ _ h => h) (Or.inl ⟨by rfl, ?_⟩) (by assumption) ?_
    rotate_left
    · (intro w hSw; have p1 := (hSw.cell (p := ⟨w5.heap.size, 1, none⟩) l2).trans r1; have s1 := (hSw.cell (p := ⟨w5.heap.size, 2, none⟩) l2).trans r2; have s2 := (hSw.cell (p := ⟨n1, o1, none⟩) l3).trans r3; have s2b := (hSw.cell (p := ⟨n1, o1 + 1, none⟩) l3).trans r4; have p3 := (hSw.cell (p := ⟨w6.heap.size, 1, none⟩) l1).trans t1; have s3 := (hSw.cell (p := ⟨w6.heap.size, 2, none⟩) l1).trans t2; have s4 := (hSw.cell (p := ⟨n2, o2, none⟩) l4).trans t3; have s5 := (hSw.cell (p := ⟨n2, o2 + 1, none⟩) l4).trans t4; go_simp; try (with_reducible rfl))
    simp only [Act.put, List.getElem_toArray, List.getElem_cons_zero, List.getElem_cons_succ, List.setIfInBounds_toArray, List.set_cons_zero, List.set_cons_succ]
    refine wpAnyH_take (i := 3) (v := ?_) rfl (by kernel_rfl) (by kernel_rfl) (by kernel_rfl) (fun _ _ _ h => h) (Or.inl ⟨by rfl, ?_⟩) (by assumption) ?_
    rotate_left
    · (intro w hSw; clear hSw; go_simp; try (with_reducible rfl))
    simp only [Act.put, List.getElem_toArray, List.getElem_cons_zero, List.getElem_cons_succ, List.setIfInBounds_toArray, List.set_cons_zero, List.set_cons_succ]
    refine wpAnyH_take (i := 4) (v := ?_) rfl (by kernel_rfl) (by kernel_rfl) (by kernel_rfl) (fun _ _ _ h => h) (Or.inl ⟨by rfl, ?_⟩) (by assumption) ?_
    rotate_left
    · (intro w hSw; have p1 := (hSw.cell (p := ⟨w5.heap.size, 1, none⟩) l2).trans r1; have s1 := (hSw.cell (p := ⟨w5.heap.size, 2, none⟩) l2).trans r2; have s2 := (hSw.cell (p := ⟨n1, o1, none⟩) l3).trans r3; have s2b := (hSw.cell (p := ⟨n1, o1 + 1, none⟩) l3).trans r4; have p3 := (hSw.cell (p := ⟨w6.heap.size, 1, none⟩) l1).trans t1; have s3 := (hSw.cell (p := ⟨w6.heap.size, 2, none⟩) l1).trans t2; have s4 := (hSw.cell (p := ⟨n2, o2, none⟩) l4).trans t3; have s5 := (hSw.cell (p := ⟨n2, o2 + 1, none⟩) l4).trans t4; go_simp; try (with_reducible rfl))
    simp only [Act.put, List.getElem_toArray, List.getElem_cons_zero, List.getElem_cons_succ, List.setIfInBounds_toArray, List.set_cons_zero, List.set_cons_succ]
    refine wpAnyH_ready (rs := [5]) (by kernel_rfl) (by simp) ?_
    refine AllReadyH.cons rfl (fun K hK => ?_) AllReadyH.nil
    rw [if_pos (by rfl)]
    go_wp2_with (go_at_call 30; (with_reducible refine (nodeAtL_dead _ y x0 _ (by exact HC9.out.below hHeld (Nat.le_refl _)) HL.out).mono ?_); rintro e wq ⟨va, rfl, -, hbq⟩)
    refine hK.out _ _ (hHeld.trans (hbq.mono hHeld.size)) (fun hHeld => ?_)
    clear hK K hbq
    refine wpAnyH_take (i := 6) (v := ?_) rfl (by kernel_rfl) (by kernel_rfl) (by kernel_rfl) (fun _ _ _ h => h) (Or.inl ⟨by rfl, ?_⟩) (by assumption) ?_
    rotate_left
    · (intro w hSw; clear hSw; go_simp; try (with_reducible rfl))
    simp only [Act.put, List.getElem_toArray, List.getElem_cons_zero, List.getElem_cons_succ, List.setIfInBounds_toArray, List.set_cons_zero, List.set_cons_succ]
    refine wpAnyH_take (i := 7) (v := ?_) rfl (by kernel_rfl) (by kernel_rfl) (by kernel_rfl) (fun _ _ _ h => h) (Or.inl ⟨by rfl, ?_⟩) (by assumption) ?_
    rotate_left
    · (intro w hSw; clear hSw; go_simp; try (with_reducible rfl))
    simp only [Act.put, List.getElem_toArray, List.getElem_cons_zero, List.getElem_cons_succ, List.setIfInBounds_toArray, List.set_cons_zero, List.set_cons_succ]
    refine wpAnyH_take (i := 8) (v := ?_) rfl (by kernel_rfl) (by kernel_rfl) (by kernel_rfl) (fun _ _ _ h => h) (Or.inl ⟨by rfl, ?_⟩) (by assumption) ?_
    rotate_left
    · (intro w hSw; clear hSw; go_simp; try (with_reducible rfl))
    simp only [Act.put, List.getElem_toArray, List.getElem_cons_zero, List.getElem_cons_succ, List.setIfInBounds_toArray, List.set_cons_zero, List.set_cons_succ]
    refine wpAnyH_take (i := 9) (v := undef) rfl (by kernel_rfl) (by kernel_rfl) (by kernel_rfl) (fun _ _ _ h => h) (Or.inr ⟨by rfl, rfl⟩) (by assumption) ?_
    simp only [Act.put, List.getElem_toArray, List.getElem_cons_zero, List.getElem_cons_succ, List.setIfInBounds_toArray, List.set_cons_zero, List.set_cons_succ]
    refine wpAnyH_take (i := 10) (v := undef) rfl (by kernel_rfl) (by kernel_rfl) (by kernel_rfl) (fun _ _ _ h => h) (Or.inr ⟨by rfl, rfl⟩) (by assumption) ?_
    simp only [Act.put, List.getElem_toArray, List.getElem_cons_zero, List.getElem_cons_succ, List.setIfInBounds_toArray, List.set_cons_zero, List.set_cons_succ]
    refine wpAnyH_take (i := 11) (v := undef) rfl (by kernel_rfl) (by kernel_rfl) (by kernel_rfl) (fun _ _ _ h => h) (Or.inr ⟨by rfl, rfl⟩) (by assumption) ?_
    simp only [Act.put, List.getElem_toArray, List.getElem_cons_zero, List.getElem_cons_succ, List.setIfInBounds_toArray, List.set_cons_zero, List.set_cons_succ]
    refine wpAnyH_take (i := 12) (v := undef) rfl (by kernel_rfl) (by kernel_rfl) (by kernel_rfl) (fun _ _ _ h => h) (Or.inr ⟨by rfl, rfl⟩) (by assumption) ?_
    simp only [Act.put, List.getElem_toArray, List.getElem_cons_zero, List.getElem_cons_succ, List.setIfInBounds_toArray, List.set_cons_zero, List.set_cons_succ]
    refine wpAnyH_take (i := 13) (v := undef) rfl (by kernel_rfl) (by kernel_rfl) (by kernel_rfl) (fun _ _ _ h => h) (Or.inr ⟨by rfl, rfl⟩) (by assumption) ?_
    simp only [Act.put, List.getElem_toArray, List.getElem_cons_zero, List.getElem_cons_succ, List.setIfInBounds_toArray, List.set_cons_zero, List.set_cons_succ]
    refine wpAnyH_take (i := 14) (v := undef) rfl (by kernel_rfl) (by kernel_rfl) (by kernel_rfl) (fun _ _ _ h => h) (Or.inr ⟨by rfl, rfl⟩) (by assumption) ?_
    simp only [Act.put, List.getElem_toArray, List.getElem_cons_zero, List.getElem_cons_succ, List.setIfInBounds_toArray, List.set_cons_zero, List.set_cons_succ]
    refine wpAnyH_take (i := 15) (v := undef) rfl (by kernel_rfl) (by kernel_rfl) (by kernel_rfl) (fun _ _ _ h => h) (Or.inr ⟨by rfl, rfl⟩) (by assumption) ?_
    simp only [Act.put, List.getElem_toArray, List.getElem_cons_zero, List.getElem_cons_succ, List.setIfInBounds_toArray, List.set_cons_zero, List.set_cons_succ]
    refine wpAnyH_take (i := 16) (v := undef) rfl (by kernel_rfl) (by kernel_rfl) (by kernel_rfl) (fun _ _ _ h => h) (Or.inr ⟨by rfl, rfl⟩) (by assumption) ?_
    simp only [Act.put, List.getElem_toArray, List.getElem_cons_zero, List.getElem_cons_succ, List.setIfInBounds_toArray, List.set_cons_zero, List.set_cons_succ]
    refine wpAnyH_take (i := 17) (v := undef) rfl (by kernel_rfl) (by kernel_rfl) (by kernel_rfl) (fun _ _ _ h => h) (Or.inr ⟨by rfl, rfl⟩) (by assumption) ?_
    simp only [Act.put, List.getElem_toArray, List.getElem_cons_zero, List.getElem_cons_succ, List.setIfInBounds_toArray, List.set_cons_zero, List.set_cons_succ]
    refine wpAnyH_take (i := 18) (v := undef) rfl (by kernel_rfl) (by kernel_rfl) (by kernel_rfl) (fun _ _ _ h => h) (Or.inr ⟨by rfl, rfl⟩) (by assumption) ?_
    simp only [Act.put, List.getElem_toArray, List.getElem_cons_zero, List.getElem_cons_succ, List.setIfInBounds_toArray, List.set_cons_zero, List.set_cons_succ]
    refine wpAnyH_take (i := 19) (v := undef) rfl (by kernel_rfl) (by kernel_rfl) (by kernel_rfl) (fun _ _ _ h => h) (Or.inr ⟨by rfl, rfl⟩) (by assumption) ?_
    simp only [Act.put, List.getElem_toArray, List.getElem_cons_zero, List.getElem_cons_succ, List.setIfInBounds_toArray, List.set_cons_zero, List.set_cons_succ]
    refine wpAnyH_take (i := 20) (v := undef) rfl (by kernel_rfl) (by kernel_rfl) (by kernel_rfl) (fun _ _ _ h => h) (Or.inr ⟨by rfl, rfl⟩) (by assumption) ?_
    simp only [Act.put, List.getElem_toArray, List.getElem_cons_zero, List.getElem_cons_succ, List.setIfInBounds_toArray, List.set_cons_zero, List.set_cons_succ]
    refine wpAnyH_take (i := 21) (v := undef) rfl (by kernel_rfl) (by kernel_rfl) (by kernel_rfl) (fun _ _ _ h => h) (Or.inr ⟨by rfl, rfl⟩) (by assumption) ?_
    simp only [Act.put, List.getElem_toArray, List.getElem_cons_zero, List.getElem_cons_succ, List.setIfInBounds_toArray, List.set_cons_zero, List.set_cons_succ]
    refine wpAnyH_take (i := 22) (v := ?_) rfl (by kernel_rfl) (by kernel_rfl) (by kernel_rfl) (fun _ _ _ h => h) (Or.inl ⟨by rfl, ?_⟩) (by assumption) ?_
    rotate_left
    · (intro w hSw; clear hSw; go_simp; try (with_reducible rfl))
    simp only [Act.put, List.getElem_toArray, List.getElem_cons_zero, List.getElem_cons_succ, List.setIfInBounds_toArray, List.set_cons_zero, List.set_cons_succ]
    refine wpAnyH_take (i := 23) (v := ?_) rfl (by kernel_rfl) (by kernel_rfl) (by kernel_rfl) (fun _ _ _ h => h) (Or.inl ⟨by rfl, ?_⟩) (by assumption) ?_
    rotate_left
    · (intro w hSw; clear hSw; go_simp; try (with_reducible rfl))
    simp only [Act.put, List.getElem_toArray, List.getElem_cons_zero, List.getElem_cons_succ, List.setIfInBounds_toArray, List.set_cons_zero, List.set_cons_succ]
    refine wpAnyH_done (by kernel_rfl) ?_ _
    go_wp2
    go_ret
    exact ⟨rfl, hbD.trans ((hbw.trans (hHeld.mono hbw.size)).mono hbD.size)⟩
  · have hle := HG4.out hl
    have HL := Lib.hid hl
    clear hl HG4
    refine wp_region_held_drew (S := fun w' => Below (W).heap.size W w') (by kernel_rfl) (Below.refl _ W).drew (fun hHeld => ?_)
    refine wpAnyH_take (i := 0) (v := ?_) rfl (by kernel_rfl) (by kernel_rfl) (by kernel_rfl) (fun _ _ _ h => h) (Or.inl ⟨by rfl, ?_⟩) (by assumption) ?_
    rotate_left
    · (intro w hSw; clear hSw; have hxz : ¬ x0 < 0 := Int.not_lt.2 hx00; go_simp; try (with_reducible rfl))
    simp only [Act.put, List.getElem_toArray, List.getElem_cons_zero, List.setIfInBounds_toArray, List.set_cons_zero, List.set_cons_succ]
    refine wpAnyH_take (i := 1) (v := ?_) rfl (by kernel_rfl) (by kernel_rfl) (by kernel_rfl) (fun _ _ _ h => h) (Or.inl ⟨by rfl, ?_⟩) (by assumption) ?_
    rotate_left
    · (intro w hSw; clear hSw; have hxz : ¬ x0 < 0 := Int.not_lt.2 hx00; go_simp; try (with_reducible rfl))
    simp only [Act.put, List.getElem_toArray, List.getElem_cons_zero, List.getElem_cons_succ, List.setIfInBounds_toArray, List.set_cons_zero, List.set_cons_succ]
    refine wpAnyH_take (i := 2) (v := ?_) rfl (by kernel_rfl) (by kernel_rfl) (by kernel_rfl) (fun _ _ _ h => h) (Or.inl ⟨by rfl, ?_⟩) (by assumption) ?_
    rotate_left
    · (intro w hSw; have p1 := (hSw.cell (p := ⟨w5.heap.size, 1, none⟩) l2).trans r1; have s1 := (hSw.cell (p := ⟨w5.heap.size, 2, none⟩) l2).trans r2; have s2 := (hSw.cell (p := ⟨n1, o1, none⟩) l3).trans r3; have s2b := (hSw.cell (p := ⟨n1, o1 + 1, none⟩) l3).trans r4; have p3 := (hSw.cell (p := ⟨w6.heap.size, 1, none⟩) l1).trans t1; have s3 := (hSw.cell (p := ⟨w6.heap.size, 2, none⟩) l1).trans t2; have s4 := (hSw.cell (p := ⟨n2, o2, none⟩) l4).trans t3; have s5 := (hSw.cell (p := ⟨n2, o2 + 1, none⟩) l4).trans t4; have hxz : ¬ x0 < 0 := Int.not_lt.2 hx00; go_simp; try (with_reducible rfl))
    simp only [Act.put, List.getElem_toArray, List.getElem_cons_zero, List.getElem_cons_succ, List.setIfInBounds_toArray, List.set_cons_zero, List.set_cons_succ]
    refine wpAnyH_take (i := 3) (v := ?_) rfl (by kernel_rfl) (by kernel_rfl) (by kernel_rfl) (fun _ _ _ h => h) (Or.inl ⟨by rfl, ?_⟩) (by assumption) ?_
    rotate_left
    · (intro w hSw; clear hSw; have hxz : ¬ x0 < 0 := Int.not_lt.2 hx00; go_simp; try (with_reducible rfl))
    simp only [Act.put, List.getElem_toArray, List.getElem_cons_zero, List.getElem_cons_succ, List.setIfInBounds_toArray, List.set_cons_zero, List.set_cons_succ]
    refine wpAnyH_take (i := 4) (v := ?_) rfl (by kernel_rfl) (by kernel_rfl) (by kernel_rfl) (fun _ _ _ h => h) (Or.inl ⟨by rfl, ?_⟩) (by assumption) ?_
    rotate_left
    · (intro w hSw; have p1 := (hSw.cell (p := ⟨w5.heap.size, 1, none⟩) l2).trans r1; have s1 := (hSw.cell (p := ⟨w5.heap.size, 2, none⟩) l2).trans r2; have s2 := (hSw.cell (p := ⟨n1, o1, none⟩) l3).trans r3; have s2b := (hSw.cell (p := ⟨n1, o1 + 1, none⟩) l3).trans r4; have p3 := (hSw.cell (p := ⟨w6.heap.size, 1, none⟩) l1).trans t1; have s3 := (hSw.cell (p := ⟨w6.heap.size, 2, none⟩) l1).trans t2; have s4 := (hSw.cell (p := ⟨n2, o2, none⟩) l4).trans t3; have s5 := (hSw.cell (p := ⟨n2, o2 + 1, none⟩) l4).trans t4; have hxz : ¬ x0 < 0 := Int.not_lt.2 hx00; go_simp; try (with_reducible rfl))
    simp only [Act.put, List.getElem_toArray, List.getElem_cons_zero, List.getElem_cons_succ, List.setIfInBounds_toArray, List.set_cons_zero, List.set_cons_succ]
    refine wpAnyH_ready (rs := [5]) (by kernel_rfl) (by simp) ?_
    refine AllReadyH.cons rfl (fun K hK => ?_) AllReadyH.nil
    rw [if_pos (by rfl)]
    go_wp2_with (go_at_call 30; (with_reducible refine (nodeAtL_live _ y x0 _ (by exact HC9.out.below hHeld (Nat.le_refl _)) HL.out).mono ?_); rintro e wq ⟨va, rfl, -, hbq⟩)
    refine hK.out _ _ (hHeld.trans (hbq.mono hHeld.size)) (fun hHeld => ?_)
    clear hK K hbq
    refine wpAnyH_take (i := 6) (v := ?_) rfl (by kernel_rfl) (by kernel_rfl) (by kernel_rfl) (fun _ _ _ h => h) (Or.inl ⟨by rfl, ?_⟩) (by assumption) ?_
    rotate_left
    · (intro w hSw; clear hSw; have hxz : ¬ x0 < 0 := Int.not_lt.2 hx00; go_simp; try (with_reducible rfl))
    simp only [Act.put, List.getElem_toArray, List.getElem_cons_zero, List.getElem_cons_succ, List.setIfInBounds_toArray, List.set_cons_zero, List.set_cons_succ]
    refine wpAnyH_take (i := 7) (v := ?_) rfl (by kernel_rfl) (by kernel_rfl) (by kernel_rfl) (fun _ _ _ h => h) (Or.inl ⟨by rfl, ?_⟩) (by assumption) ?_
    rotate_left
    · (intro w hSw; clear hSw; have hxz : ¬ x0 < 0 := Int.not_lt.2 hx00; go_simp; try (with_reducible rfl))
    simp only [Act.put, List.getElem_toArray, List.getElem_cons_zero, List.getElem_cons_succ, List.setIfInBounds_toArray, List.set_cons_zero, List.set_cons_succ]
    refine wpAnyH_take (i := 8) (v := ?_) rfl (by kernel_rfl) (by kernel_rfl) (by kernel_rfl) (fun _ _ _ h => h) (Or.inl ⟨by rfl, ?_⟩) (by assumption) ?_
    rotate_left
    · (intro w hSw; clear hSw; have hxz : ¬ x0 < 0 := Int.not_lt.2 hx00; go_simp; try (with_reducible rfl))
    simp only [Act.put, List.getElem_toArray, List.getElem_cons_zero, List.getElem_cons_succ, List.setIfInBounds_toArray, List.set_cons_zero, List.set_cons_succ]
    refine wpAnyH_take (i := 9) (v := ?_) rfl (by kernel_rfl) (by kernel_rfl) (by kernel_rfl) (fun _ _ _ h => h) (Or.inl ⟨by rfl, ?_⟩) (by assumption) ?_
    rotate_left
    · (intro w hSw; clear hSw; have hxz : ¬ x0 < 0 := Int.not_lt.2 hx00; go_simp; try (with_reducible rfl))
    simp only [Act.put, List.getElem_toArray, List.getElem_cons_zero, List.getElem_cons_succ, List.setIfInBounds_toArray, List.set_cons_zero, List.set_cons_succ]
    refine wpAnyH_take (i := 10) (v := ?_) rfl (by kernel_rfl) (by kernel_rfl) (by kernel_rfl) (fun _ _ _ h => h) (Or.inl ⟨by rfl, ?_⟩) (by assumption) ?_
    rotate_left
    · (intro w hSw; clear hSw; have hxz : ¬ x0 < 0 := Int.not_lt.2 hx00; go_simp; try (with_reducible rfl))
    simp only [Act.put, List.getElem_toArray, List.getElem_cons_zero, List.getElem_cons_succ, List.setIfInBounds_toArray, List.set_cons_zero, List.set_cons_succ]
    refine wpAnyH_take (i := 11) (v := ?_) rfl (by kernel_rfl) (by kernel_rfl) (by kernel_rfl) (fun _ _ _ h => h) (Or.inl ⟨by rfl, ?_⟩) (by assumption) ?_
    rotate_left
    · (intro w hSw; have p1 := (hSw.cell (p := ⟨w5.heap.size, 1, none⟩) l2).trans r1; have s1 := (hSw.cell (p := ⟨w5.heap.size, 2, none⟩) l2).trans r2; have s2 := (hSw.cell (p := ⟨n1, o1, none⟩) l3).trans r3; have s2b := (hSw.cell (p := ⟨n1, o1 + 1, none⟩) l3).trans r4; have p3 := (hSw.cell (p := ⟨w6.heap.size, 1, none⟩) l1).trans t1; have s3 := (hSw.cell (p := ⟨w6.heap.size, 2, none⟩) l1).trans t2; have s4 := (hSw.cell (p := ⟨n2, o2, none⟩) l4).trans t3; have s5 := (hSw.cell (p := ⟨n2, o2 + 1, none⟩) l4).trans t4; have hxz : ¬ x0 < 0 := Int.not_lt.2 hx00; go_simp; try (with_reducible rfl))
    simp only [Act.put, List.getElem_toArray, List.getElem_cons_zero, List.getElem_cons_succ, List.setIfInBounds_toArray, List.set_cons_zero, List.set_cons_succ]
    refine wpAnyH_take (i := 12) (v := ?_) rfl (by kernel_rfl) (by kernel_rfl) (by kernel_rfl) (fun _ _ _ h => h) (Or.inl ⟨by rfl, ?_⟩) (by assumption) ?_
    rotate_left
    · (intro w hSw; clear hSw; have hxz : ¬ x0 < 0 := Int.not_lt.2 hx00; go_simp; try (with_reducible rfl))
    simp only [Act.put, List.getElem_toArray, List.getElem_cons_zero, List.getElem_cons_succ, List.setIfInBounds_toArray, List.set_cons_zero, List.set_cons_succ]
    refine wpAnyH_take (i := 13) (v := ?_) rfl (by kernel_rfl) (by kernel_rfl) (by kernel_rfl) (fun _ _ _ h => h) (Or.inl ⟨by rfl, ?_⟩) (by assumption) ?_
    rotate_left
    · (intro w hSw; have p1 := (hSw.cell (p := ⟨w5.heap.size, 1, none⟩) l2).trans r1; have s1 := (hSw.cell (p := ⟨w5.heap.size, 2, none⟩) l2).trans r2; have s2 := (hSw.cell (p := ⟨n1, o1, none⟩) l3).trans r3; have s2b := (hSw.cell (p := ⟨n1, o1 + 1, none⟩) l3).trans r4; have p3 := (hSw.cell (p := ⟨w6.heap.size, 1, none⟩) l1).trans t1; have s3 := (hSw.cell (p := ⟨w6.heap.size, 2, none⟩) l1).trans t2; have s4 := (hSw.cell (p := ⟨n2, o2, none⟩) l4).trans t3; have s5 := (hSw.cell (p := ⟨n2, o2 + 1, none⟩) l4).trans t4; have hxz : ¬ x0 < 0 := Int.not_lt.2 hx00; go_simp; try (with_reducible rfl))
    simp only [Act.put, List.getElem_toArray, List.getElem_cons_zero, List.getElem_cons_succ, List.setIfInBounds_toArray, List.set_cons_zero, List.set_cons_succ]
    refine wpAnyH_take (i := 15) (v := ?_) rfl (by kernel_rfl) (by kernel_rfl) (by kernel_rfl) (fun _ _ _ h => h) (Or.inl ⟨by rfl, ?_⟩) (by assumption) ?_
    rotate_left
    · (intro w hSw; clear hSw; have hxz : ¬ x0 < 0 := Int.not_lt.2 hx00; go_simp; try (with_reducible rfl))
    simp only [Act.put, List.getElem_toArray, List.getElem_cons_zero, List.getElem_cons_succ, List.setIfInBounds_toArray, List.set_cons_zero, List.set_cons_succ]
    refine wpAnyH_take (i := 16) (v := ?_) rfl (by kernel_rfl) (by kernel_rfl) (by kernel_rfl) (fun _ _ _ h => h) (Or.inl ⟨by rfl, ?_⟩) (by assumption) ?_
    rotate_left
    · (intro w hSw; clear hSw; have hxz : ¬ x0 < 0 := Int.not_lt.2 hx00; go_simp; try (with_reducible rfl))
    simp only [Act.put, List.getElem_toArray, List.getElem_cons_zero, List.getElem_cons_succ, List.setIfInBounds_toArray, List.set_cons_zero, List.set_cons_succ]
    refine wpAnyH_take (i := 17) (v := ?_) rfl (by kernel_rfl) (by kernel_rfl) (by kernel_rfl) (fun _ _ _ h => h) (Or.inl ⟨by rfl, ?_⟩) (by assumption) ?_
    rotate_left
    · (intro w hSw; have p1 := (hSw.cell (p := ⟨w5.heap.size, 1, none⟩) l2).trans r1; have s1 := (hSw.cell (p := ⟨w5.heap.size, 2, none⟩) l2).trans r2; have s2 := (hSw.cell (p := ⟨n1, o1, none⟩) l3).trans r3; have s2b := (hSw.cell (p := ⟨n1, o1 + 1, none⟩) l3).trans r4; have p3 := (hSw.cell (p := ⟨w6.heap.size, 1, none⟩) l1).trans t1; have s3 := (hSw.cell (p := ⟨w6.heap.size, 2, none⟩) l1).trans t2; have s4 := (hSw.cell (p := ⟨n2, o2, none⟩) l4).trans t3; have s5 := (hSw.cell (p := ⟨n2, o2 + 1, none⟩) l4).trans t4; have hxz : ¬ x0 < 0 := Int.not_lt.2 hx00; go_simp; try (with_reducible rfl))
    simp only [Act.put, List.getElem_toArray, List.getElem_cons_zero, List.getElem_cons_succ, List.setIfInBounds_toArray, List.set_cons_zero, List.set_cons_succ]
    refine wpAnyH_take (i := 18) (v := ?_) rfl (by kernel_rfl) (by kernel_rfl) (by kernel_rfl) (fun _ _ _ h => h) (Or.inl ⟨by rfl, ?_⟩) (by assumption) ?_
    rotate_left
    · (intro w hSw; clear hSw; have hxz : ¬ x0 < 0 := Int.not_lt.2 hx00; go_simp; try (with_reducible rfl))
    simp only [Act.put, List.getElem_toArray, List.getElem_cons_zero, List.getElem_cons_succ, List.setIfInBounds_toArray, List.set_cons_zero, List.set_cons_succ]
    refine wpAnyH_take (i := 19) (v := ?_) rfl (by kernel_rfl) (by kernel_rfl) (by kernel_rfl) (fun _ _ _ h => h) (Or.inl ⟨by rfl, ?_⟩) (by assumption) ?_
    rotate_left
    · (intro w hSw; have p1 := (hSw.cell (p := ⟨w5.heap.size, 1, none⟩) l2).trans r1; have s1 := (hSw.cell (p := ⟨w5.heap.size, 2, none⟩) l2).trans r2; have s2 := (hSw.cell (p := ⟨n1, o1, none⟩) l3).trans r3; have s2b := (hSw.cell (p := ⟨n1, o1 + 1, none⟩) l3).trans r4; have p3 := (hSw.cell (p := ⟨w6.heap.size, 1, none⟩) l1).trans t1; have s3 := (hSw.cell (p := ⟨w6.heap.size, 2, none⟩) l1).trans t2; have s4 := (hSw.cell (p := ⟨n2, o2, none⟩) l4).trans t3; have s5 := (hSw.cell (p := ⟨n2, o2 + 1, none⟩) l4).trans t4; have hxz : ¬ x0 < 0 := Int.not_lt.2 hx00; go_simp; try (with_reducible rfl))
    simp only [Act.put, List.getElem_toArray, List.getElem_cons_zero, List.getElem_cons_succ, List.setIfInBounds_toArray, List.set_cons_zero, List.set_cons_succ]
    refine wpAnyH_ready (rs := [14]) (by kernel_rfl) (by simp) ?_
    refine AllReadyH.cons rfl (fun K hK => ?_) AllReadyH.nil
    rw [if_pos (by rfl)]
    go_wp2_with (go_at_call 31; (with_reducible refine (iDistance_is id q0 d1 HO1.out HO2.out HD1.out _).mono ?_); rintro e wq ⟨rfl, hbq⟩)
    refine hK.out _ _ (hHeld.trans (hbq.mono hHeld.size)) (fun hHeld => ?_)
    clear hK K hbq
    refine wpAnyH_ready (rs := [20]) (by kernel_rfl) (by simp) ?_
    refine AllReadyH.cons rfl (fun K hK => ?_) AllReadyH.nil
    rw [if_pos (by rfl)]
    go_wp2_with (go_at_call 31; (with_reducible refine (iDistance_is id x0 d2 HO1.out HO3.out HD2.out _).mono ?_); rintro e wq ⟨rfl, hbq⟩)
    refine hK.out _ _ (hHeld.trans (hbq.mono hHeld.size)) (fun hHeld => ?_)
    clear hK K hbq
    refine wpAnyH_take (i := 21) (v := ?_) rfl (by kernel_rfl) (by kernel_rfl) (by kernel_rfl) (fun _ _ _ h => h) (Or.inl ⟨by rfl, ?_⟩) (by assumption) ?_
    rotate_left
    · (intro w hSw; clear hSw; have hxz : ¬ x0 < 0 := Int.not_lt.2 hx00; go_simp; try (with_reducible rfl))
    simp only [Act.put, List.getElem_toArray, List.getElem_cons_zero, List.getElem_cons_succ, List.setIfInBounds_toArray, List.set_cons_zero, List.set_cons_succ]
    refine wpAnyH_take (i := 22) (v := ?_) rfl (by kernel_rfl) (by kernel_rfl) (by kernel_rfl) (fun _ _ _ h => h) (Or.inl ⟨by rfl, ?_⟩) (by assumption) ?_
    rotate_left
    · (intro w hSw; clear hSw; have hxz : ¬ x0 < 0 := Int.not_lt.2 hx00; go_simp; try (with_reducible rfl))
    simp only [Act.put, List.getElem_toArray, List.getElem_cons_zero, List.getElem_cons_succ, List.setIfInBounds_toArray, List.set_cons_zero, List.set_cons_succ]
    refine wpAnyH_take (i := 23) (v := ?_) rfl (by kernel_rfl) (by kernel_rfl) (by kernel_rfl) (fun _ _ _ h => h) (Or.inl ⟨by rfl, ?_⟩) (by assumption) ?_
    rotate_left
    · (intro w hSw; clear hSw; have hxz : ¬ x0 < 0 := Int.not_lt.2 hx00; go_simp; try (with_reducible rfl))
    simp only [Act.put, List.getElem_toArray, List.getElem_cons_zero, List.getElem_cons_succ, List.setIfInBounds_toArray, List.set_cons_zero, List.set_cons_succ]
    refine wpAnyH_done (by kernel_rfl) ?_ _
    go_wp2
    go_ret
    exact ⟨rfl, hbD.trans ((hbw.trans (hHeld.mono hbw.size)).mono hbD.size)⟩

end Go.Proofs.Ytojpfbbgpcafnaa
