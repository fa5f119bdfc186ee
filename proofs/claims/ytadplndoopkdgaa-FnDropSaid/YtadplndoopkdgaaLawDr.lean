/-
  Walks: the law FnDrop.
-/
import Derived.Test.YtadplndoopkdgaaLawSD
import Derived.Test.YtadplndoopkdgaaLawN2
namespace Go.Proofs.Ytadplndoopkdgaa
open Go.RowKit

theorem pair_eqD {a b c d : Int} (h : [a, b] = [c, d]) : (a == c) = true ∧ (b == d) = true := by
  simp at h; simp [h]

set_option maxRecDepth 100000 in
set_option maxHeartbeats 4000000 in
theorem lawDrop_any (v : Value) (w : World) (h : CodeAt w v) :
    Calls Try.prog 5 #[v] w fun e w' => e = .returned (.bool true) ∧ Below w.heap.size w w' := by
  have H := Lib.hid h
  obtain ⟨pb, n, cap, rfl, hn1, hn2, -⟩ := h
  unfold maxLen at hn2
  by_cases hbig : 1048576 < n
  · go_enter Try.func5, Try.ntmps5
    go_wp2
    go_ret
    exact ⟨rfl, Below.refl _ _⟩
  have hbig' : n ≤ 1048576 := by omega
  clear hbig
  have hf0 := field0
  have hf1 := field1
  have hf2 := field2
  go_enter Try.func5, Try.ntmps5
  go_wp2_with fail
  refine (drawRingDrop_any _ _ H.out).mono ?_
  rintro e w1 ⟨u, y, id, rfl, hat, hsm, hb1⟩
  have HAT := Lib.hid hat
  have hz1 := hb1.size
  have hy10 := hsm.2.1
  have hy1 := hsm.1
  obtain ⟨p, cp, rfl⟩ := hat.form
  clear hsm hat
  cases hok : rDropOk y id
  · have HK := Lib.hid hok
    clear hok
    go_wp2_with (first | (have _ := hb4; go_at_call 17; refine (sameRing_any _ _ (rDrop y id) (rDrop y id) _ (HA.out.below hb4 (Nat.le_refl _)) (HB.out.below hb4 (Nat.le_refl _))).mono ?_; rw [decide_eq_true rfl]; rintro e w5 ⟨rfl, hb5⟩) | (go_at_call 17; refine (sameRing_any _ _ (rDrop y id) (rDrop y id) _ HA.out HB.out).mono ?_; rw [decide_eq_true rfl]; rintro e w4 ⟨rfl, hb4⟩) | (go_at_call 24; refine (iRingDrop_any _ y id _ HAT.out).mono ?_; rw [HK.out]; rintro e w2 ⟨ua, rfl, hA, hb2⟩; have HA0 := Lib.hid hA.at; clear hA) | (go_at_call 25; refine (sRingDrop_any _ y id _ (HAT.out.below hb2 (Nat.le_refl _))).mono ?_; rw [HK.out]; rintro e w3 ⟨ub, rfl, hB, hb3⟩; have HB := Lib.hid hB.at; have HA := Lib.hid (HA0.out.below hb3 (Nat.le_refl _)); have hbD := hb1.trans ((hb2.trans (hb3.mono hb2.size)).mono hz1); clear hB))
    go_ret
    exact ⟨rfl, hbD.trans ((hb4.trans (hb5.mono hb4.size)).mono hbD.size)⟩
  have HK := Lib.hid hok
  clear hok
  obtain ⟨hs, g1, g2, g3, g4, g5⟩ := law_drop HK.out
  have hv := safe_valid hs
  obtain ⟨i1, b1, x0, x1, e1⟩ := ndOf_form hv id
  obtain ⟨i2, b2, q0, q1, e2⟩ := ndOf_form (safe_valid g5.1) id
  rw [e1] at g2 g3 g4
  rw [e2] at g4
  have h4 : [q0, q1] = [x1, (x1 + 1) % 64] := g4
  obtain ⟨h1, h2⟩ := pair_eqD h4
  have h5 : q0 = x1 := by simpa using h1
  have hl1 : live y q0 = true := by rw [h5]; exact g3
  have hl0 : live y x0 = false := g2
  obtain ⟨hx0, hx1⟩ := okP_def.1 (live_ok hv (show live y x1 = true from g3))
  have hq0 : 0 ≤ q0 := by omega
  have HL0 := Lib.hid hl0
  have HL1 := Lib.hid hl1
  have HE1 := Lib.hid e1
  have HE2 := Lib.hid e2
  clear hs g1 g2 g3 g4 g5 hv e1 e2 h4 h5 hl0 hl1
  go_wp2_with (first | (go_at_call 17; refine (sameRing_any _ _ (rDrop y id) (rDrop y id) _ HA1.out HB.out).mono ?_; rw [decide_eq_true rfl]; rintro e w4 ⟨rfl, hb4⟩; have HA := Lib.hid (HA1.out.below hb4 (Nat.le_refl _)); have hbC := (hb2.trans (hb3.mono hb2.size)).trans (hb4.mono (hb2.trans (hb3.mono hb2.size)).size); have HC := Lib.hid (HAT.out.below hbC (Nat.le_refl _)); have hbD := hb1.trans (hbC.mono hz1)) | (go_at_call 24; refine (iRingDrop_any _ y id _ HAT.out).mono ?_; rw [HK.out]; rintro e w2 ⟨ua, rfl, hA, hb2⟩; have HA0 := Lib.hid hA.at; obtain ⟨pa, ca, ea⟩ := hA.at.form; subst ea; clear hA) | (go_at_call 25; refine (sRingDrop_any _ y id _ (HAT.out.below hb2 (Nat.le_refl _))).mono ?_; rw [HK.out]; rintro e w3 ⟨ub, rfl, hB, hb3⟩; have HB := Lib.hid hB.at; have HA1 := Lib.hid (HA0.out.below hb3 (Nat.le_refl _)); clear hB))
  refine (nodeAtL_two _ y id i1 b1 x0 x1 _ HC.out HE1.out).mono ?_
  rintro e w5 ⟨n1, o1, c1, rfl, u1, u2, u3, u4, u5, hb5⟩
  have hb5' := (hb5.alloc hb5.size (.cells #[.int .i64 i1, .int .i64 b1, .slice (some ⟨n1, o1, none⟩) 2 c1] 31))
  have hz5 : w5.heap.size < (w5.alloc (.cells #[.int .i64 i1, .int .i64 b1, .slice (some ⟨n1, o1, none⟩) 2 c1] 31)).heap.size := by simp
  go_wp2_with fail
  refine (nodeAtL_two _ (rDrop y id) id i2 b2 q0 q1 _ (by exact HA.out.below hb5' (Nat.le_refl _)) HE2.out).mono ?_
  rintro e w6 ⟨n2, o2, c2, rfl, v1, v2, v3, v4, v5, hb6⟩
  go_wp2_with fail
  obtain ⟨W, hW⟩ : ∃ W, w6.alloc (.cells #[.int .i64 i2, .int .i64 b2, .slice (some ⟨n2, o2, none⟩) 2 c2] 31) = W := ⟨_, rfl⟩
  have hbw := hb5'.trans ((hb6.alloc hb6.size (.cells #[.int .i64 i2, .int .i64 b2, .slice (some ⟨n2, o2, none⟩) 2 c2] 31)).mono hb5'.size)
  have hb6' := hb6.alloc hb6.size (.cells #[.int .i64 i2, .int .i64 b2, .slice (some ⟨n2, o2, none⟩) 2 c2] 31)
  have hz6 := hb6.size
  have t1 : W.cell? ⟨w6.heap.size, 1, none⟩ = some (.int .i64 b2) := by rw [← hW]; simp
  have t2 : W.cell? ⟨w6.heap.size, 2, none⟩ = some (.slice (some ⟨n2, o2, none⟩) 2 c2) := by rw [← hW]; simp
  have t3 : W.cell? ⟨n2, o2, none⟩ = some (.int .i64 q0) := by rw [← hW]; exact (((Below.refl w6.heap.size w6).alloc (Nat.le_refl _) _).cell (p := ⟨n2, o2, none⟩) v3).trans v4
  have t4 : W.cell? ⟨n2, o2 + 1, none⟩ = some (.int .i64 q1) := by rw [← hW]; exact (((Below.refl w6.heap.size w6).alloc (Nat.le_refl _) _).cell (p := ⟨n2, o2 + 1, none⟩) v3).trans v5
  rw [hW] at hbw hb6'
  have r1 : W.cell? ⟨w5.heap.size, 1, none⟩ = some (.int .i64 b1) := (hb6'.cell (p := ⟨w5.heap.size, 1, none⟩) hz5).trans (by simp)
  have r2 : W.cell? ⟨w5.heap.size, 2, none⟩ = some (.slice (some ⟨n1, o1, none⟩) 2 c1) := (hb6'.cell (p := ⟨w5.heap.size, 2, none⟩) hz5).trans (by simp)
  have r3 : W.cell? ⟨n1, o1, none⟩ = some (.int .i64 x0) := (hb6'.cell (p := ⟨n1, o1, none⟩) (by show n1 < _; omega)).trans ((((Below.refl w5.heap.size w5).alloc (Nat.le_refl _) _).cell (p := ⟨n1, o1, none⟩) u3).trans u4)
  have r4 : W.cell? ⟨n1, o1 + 1, none⟩ = some (.int .i64 x1) := (hb6'.cell (p := ⟨n1, o1 + 1, none⟩) (by show n1 < _; omega)).trans ((((Below.refl w5.heap.size w5).alloc (Nat.le_refl _) _).cell (p := ⟨n1, o1 + 1, none⟩) u3).trans u5)
  have l1 : w6.heap.size < W.heap.size := by rw [← hW]; simp
  have l2 : w5.heap.size < W.heap.size := by omega
  have l3 : n1 < W.heap.size := by omega
  have l4 : n2 < W.heap.size := by omega
  rw [hW]
  have HC9 := Lib.hid (HC.out.below hbw (Nat.le_refl _))
  have HA9 := Lib.hid (HA.out.below hbw (Nat.le_refl _))
  clear hW u4 u5 v4 v5 hb5' hb6'
  clear HA9
  have hw1 : IntKind.i64.wrap (x1 + 1) = x1 + 1 := IntWalk.i64_in _ (by omega)
  have hw2 : (x1 + 1).tmod 64 = (x1 + 1) % 64 := Int.tmod_eq_emod_of_nonneg (by omega)
  refine wp_region_held_drew (S := fun w' => Below (W).heap.size W w') (by kernel_rfl) (Below.refl _ W).drew (fun hHeld => ?_)
  refine wpAnyH_take (i := 0) (v := ?_) rfl (by kernel_rfl) (by kernel_rfl) (by kernel_rfl) (fun _ _ _ h => h) (Or.inl ⟨by rfl, ?_⟩) (by assumption) ?_
  rotate_left
  · (intro w hSw; clear hSw; go_simp; try (with_reducible rfl))
  simp only [Act.put, List.getElem_toArray, List.getElem_cons_zero, List.setIfInBounds_toArray, List.set_cons_zero, List.set_cons_succ]
  refine wpAnyH_take (i := 1) (v := ?_) rfl (by kernel_rfl) (by kernel_rfl) (by kernel_rfl) (fun _ _ _ h => h) (Or.inl ⟨by rfl, ?_⟩) (by assumption) ?_
  rotate_left
  · (intro w hSw; clear hSw; go_simp; try (with_reducible rfl))
  simp only [Act.put, List.getElem_toArray, List.getElem_cons_zero, List.getElem_cons_succ, List.setIfInBounds_toArray, List.set_cons_zero, List.set_cons_succ]
  refine wpAnyH_take (i := 2) (v := ?_) rfl (by kernel_rfl) (by kernel_rfl) (by kernel_rfl) (fun _ _ _ h => h) (Or.inl ⟨by rfl, ?_⟩) (by assumption) ?_
  rotate_left
  · (intro w hSw; have p1 := (hSw.cell (p := ⟨w5.heap.size, 1, none⟩) l2).trans r1; have s1 := (hSw.cell (p := ⟨w5.heap.size, 2, none⟩) l2).trans r2; have s2 := (hSw.cell (p := ⟨n1, o1, none⟩) l3).trans r3; have s2b := (hSw.cell (p := ⟨n1, o1 + 1, none⟩) l3).trans r4; have p3 := (hSw.cell (p := ⟨w6.heap.size, 1, none⟩) l1).trans t1; have s3 := (hSw.cell (p := ⟨w6.heap.size, 2, none⟩) l1).trans t2; have s4 := (hSw.cell (p := ⟨n2, o2, none⟩) l4).trans t3; have s5 := (hSw.cell (p := ⟨n2, o2 + 1, none⟩) l4).trans t4; go_simp; try (with_reducible rfl))
  simp only [Act.put, List.getElem_toArray, List.getElem_cons_zero, List.getElem_cons_succ, List.setIfInBounds_toArray, List.set_cons_zero, List.set_cons_succ]
  refine wpAnyH_take (i := 3) (v := ?_) rfl (by kernel_rfl) (by kernel_rfl) (by kernel_rfl) (fun _ _ _ h => h) (Or.inl ⟨by rfl, ?_⟩) (by assumption) ?_
  rotate_left
  · (intro w hSw; clear hSw; go_simp; try (with_reducible rfl))
  simp only [Act.put, List.getElem_toArray, List.getElem_cons_zero, List.getElem_cons_succ, List.setIfInBounds_toArray, List.set_cons_zero, List.set_cons_succ]
  refine wpAnyH_take (i := 4) (v := ?_) rfl (by kernel_rfl) (by kernel_rfl) (by kernel_rfl) (fun _ _ _ h => h) (Or.inl ⟨by rfl, ?_⟩) (by assumption) ?_
  rotate_left
  · (intro w hSw; have p1 := (hSw.cell (p := ⟨w5.heap.size, 1, none⟩) l2).trans r1; have s1 := (hSw.cell (p := ⟨w5.heap.size, 2, none⟩) l2).trans r2; have s2 := (hSw.cell (p := ⟨n1, o1, none⟩) l3).trans r3; have s2b := (hSw.cell (p := ⟨n1, o1 + 1, none⟩) l3).trans r4; have p3 := (hSw.cell (p := ⟨w6.heap.size, 1, none⟩) l1).trans t1; have s3 := (hSw.cell (p := ⟨w6.heap.size, 2, none⟩) l1).trans t2; have s4 := (hSw.cell (p := ⟨n2, o2, none⟩) l4).trans t3; have s5 := (hSw.cell (p := ⟨n2, o2 + 1, none⟩) l4).trans t4; go_simp; try (with_reducible rfl))
  simp only [Act.put, List.getElem_toArray, List.getElem_cons_zero, List.getElem_cons_succ, List.setIfInBounds_toArray, List.set_cons_zero, List.set_cons_succ]
  refine wpAnyH_ready (rs := [5]) (by kernel_rfl) (by simp) ?_
  refine AllReadyH.cons rfl (fun K hK => ?_) AllReadyH.nil
  rw [if_pos (by rfl)]
  go_wp2_with (go_at_call 18; (with_reducible refine (nodeAtL_dead _ y x0 _ (by exact HC9.out.below hHeld (Nat.le_refl _)) HL0.out).mono ?_); rintro e wq ⟨va, rfl, -, hbq⟩)
  refine hK.out _ _ (hHeld.trans (hbq.mono hHeld.size)) (fun hHeld => ?_)
  clear hK K hbq
  refine wpAnyH_take (i := 6) (v := ?_) rfl (by kernel_rfl) (by kernel_rfl) (by kernel_rfl) (fun _ _ _ h => h) (Or.inl ⟨by rfl, ?_⟩) (by assumption) ?_
  rotate_left
  · (intro w hSw; clear hSw; go_simp; try (with_reducible rfl))
  simp only [Act.put, List.getElem_toArray, List.getElem_cons_zero, List.getElem_cons_succ, List.setIfInBounds_toArray, List.set_cons_zero, List.set_cons_succ]
  refine wpAnyH_take (i := 7) (v := ?_) rfl (by kernel_rfl) (by kernel_rfl) (by kernel_rfl) (fun _ _ _ h => h) (Or.inl ⟨by rfl, ?_⟩) (by assumption) ?_
  rotate_left
  · (intro w hSw; clear hSw; go_simp; try (with_reducible rfl))
  simp only [Act.put, List.getElem_toArray, List.getElem_cons_zero, List.getElem_cons_succ, List.setIfInBounds_toArray, List.set_cons_zero, List.set_cons_succ]
  refine wpAnyH_take (i := 8) (v := ?_) rfl (by kernel_rfl) (by kernel_rfl) (by kernel_rfl) (fun _ _ _ h => h) (Or.inl ⟨by rfl, ?_⟩) (by assumption) ?_
  rotate_left
  · (intro w hSw; clear hSw; go_simp; try (with_reducible rfl))
  simp only [Act.put, List.getElem_toArray, List.getElem_cons_zero, List.getElem_cons_succ, List.setIfInBounds_toArray, List.set_cons_zero, List.set_cons_succ]
  refine wpAnyH_take (i := 9) (v := ?_) rfl (by kernel_rfl) (by kernel_rfl) (by kernel_rfl) (fun _ _ _ h => h) (Or.inl ⟨by rfl, ?_⟩) (by assumption) ?_
  rotate_left
  · (intro w hSw; clear hSw; go_simp; try (with_reducible rfl))
  simp only [Act.put, List.getElem_toArray, List.getElem_cons_zero, List.getElem_cons_succ, List.setIfInBounds_toArray, List.set_cons_zero, List.set_cons_succ]
  refine wpAnyH_take (i := 10) (v := ?_) rfl (by kernel_rfl) (by kernel_rfl) (by kernel_rfl) (fun _ _ _ h => h) (Or.inl ⟨by rfl, ?_⟩) (by assumption) ?_
  rotate_left
  · (intro w hSw; have p1 := (hSw.cell (p := ⟨w5.heap.size, 1, none⟩) l2).trans r1; have s1 := (hSw.cell (p := ⟨w5.heap.size, 2, none⟩) l2).trans r2; have s2 := (hSw.cell (p := ⟨n1, o1, none⟩) l3).trans r3; have s2b := (hSw.cell (p := ⟨n1, o1 + 1, none⟩) l3).trans r4; have p3 := (hSw.cell (p := ⟨w6.heap.size, 1, none⟩) l1).trans t1; have s3 := (hSw.cell (p := ⟨w6.heap.size, 2, none⟩) l1).trans t2; have s4 := (hSw.cell (p := ⟨n2, o2, none⟩) l4).trans t3; have s5 := (hSw.cell (p := ⟨n2, o2 + 1, none⟩) l4).trans t4; go_simp; try (with_reducible rfl))
  simp only [Act.put, List.getElem_toArray, List.getElem_cons_zero, List.getElem_cons_succ, List.setIfInBounds_toArray, List.set_cons_zero, List.set_cons_succ]
  refine wpAnyH_take (i := 11) (v := ?_) rfl (by kernel_rfl) (by kernel_rfl) (by kernel_rfl) (fun _ _ _ h => h) (Or.inl ⟨by rfl, ?_⟩) (by assumption) ?_
  rotate_left
  · (intro w hSw; clear hSw; go_simp; try (with_reducible rfl))
  simp only [Act.put, List.getElem_toArray, List.getElem_cons_zero, List.getElem_cons_succ, List.setIfInBounds_toArray, List.set_cons_zero, List.set_cons_succ]
  refine wpAnyH_take (i := 12) (v := ?_) rfl (by kernel_rfl) (by kernel_rfl) (by kernel_rfl) (fun _ _ _ h => h) (Or.inl ⟨by rfl, ?_⟩) (by assumption) ?_
  rotate_left
  · (intro w hSw; have p1 := (hSw.cell (p := ⟨w5.heap.size, 1, none⟩) l2).trans r1; have s1 := (hSw.cell (p := ⟨w5.heap.size, 2, none⟩) l2).trans r2; have s2 := (hSw.cell (p := ⟨n1, o1, none⟩) l3).trans r3; have s2b := (hSw.cell (p := ⟨n1, o1 + 1, none⟩) l3).trans r4; have p3 := (hSw.cell (p := ⟨w6.heap.size, 1, none⟩) l1).trans t1; have s3 := (hSw.cell (p := ⟨w6.heap.size, 2, none⟩) l1).trans t2; have s4 := (hSw.cell (p := ⟨n2, o2, none⟩) l4).trans t3; have s5 := (hSw.cell (p := ⟨n2, o2 + 1, none⟩) l4).trans t4; go_simp; try (with_reducible rfl))
  simp only [Act.put, List.getElem_toArray, List.getElem_cons_zero, List.getElem_cons_succ, List.setIfInBounds_toArray, List.set_cons_zero, List.set_cons_succ]
  refine wpAnyH_take (i := 13) (v := ?_) rfl (by kernel_rfl) (by kernel_rfl) (by kernel_rfl) (fun _ _ _ h => h) (Or.inl ⟨by rfl, ?_⟩) (by assumption) ?_
  rotate_left
  · (intro w hSw; clear hSw; go_simp; try (with_reducible rfl))
  simp only [Act.put, List.getElem_toArray, List.getElem_cons_zero, List.getElem_cons_succ, List.setIfInBounds_toArray, List.set_cons_zero, List.set_cons_succ]
  refine wpAnyH_take (i := 14) (v := ?_) rfl (by kernel_rfl) (by kernel_rfl) (by kernel_rfl) (fun _ _ _ h => h) (Or.inl ⟨by rfl, ?_⟩) (by assumption) ?_
  rotate_left
  · (intro w hSw; have p1 := (hSw.cell (p := ⟨w5.heap.size, 1, none⟩) l2).trans r1; have s1 := (hSw.cell (p := ⟨w5.heap.size, 2, none⟩) l2).trans r2; have s2 := (hSw.cell (p := ⟨n1, o1, none⟩) l3).trans r3; have s2b := (hSw.cell (p := ⟨n1, o1 + 1, none⟩) l3).trans r4; have p3 := (hSw.cell (p := ⟨w6.heap.size, 1, none⟩) l1).trans t1; have s3 := (hSw.cell (p := ⟨w6.heap.size, 2, none⟩) l1).trans t2; have s4 := (hSw.cell (p := ⟨n2, o2, none⟩) l4).trans t3; have s5 := (hSw.cell (p := ⟨n2, o2 + 1, none⟩) l4).trans t4; go_simp; try (with_reducible rfl))
  simp only [Act.put, List.getElem_toArray, List.getElem_cons_zero, List.getElem_cons_succ, List.setIfInBounds_toArray, List.set_cons_zero, List.set_cons_succ]
  refine wpAnyH_take (i := 15) (v := ?_) rfl (by kernel_rfl) (by kernel_rfl) (by kernel_rfl) (fun _ _ _ h => h) (Or.inl ⟨by rfl, ?_⟩) (by assumption) ?_
  rotate_left
  · (intro w hSw; clear hSw; go_simp; try (with_reducible rfl))
  simp only [Act.put, List.getElem_toArray, List.getElem_cons_zero, List.getElem_cons_succ, List.setIfInBounds_toArray, List.set_cons_zero, List.set_cons_succ]
  refine wpAnyH_take (i := 16) (v := ?_) rfl (by kernel_rfl) (by kernel_rfl) (by kernel_rfl) (fun _ _ _ h => h) (Or.inl ⟨by rfl, ?_⟩) (by assumption) ?_
  rotate_left
  · (intro w hSw; have p1 := (hSw.cell (p := ⟨w5.heap.size, 1, none⟩) l2).trans r1; have s1 := (hSw.cell (p := ⟨w5.heap.size, 2, none⟩) l2).trans r2; have s2 := (hSw.cell (p := ⟨n1, o1, none⟩) l3).trans r3; have s2b := (hSw.cell (p := ⟨n1, o1 + 1, none⟩) l3).trans r4; have p3 := (hSw.cell (p := ⟨w6.heap.size, 1, none⟩) l1).trans t1; have s3 := (hSw.cell (p := ⟨w6.heap.size, 2, none⟩) l1).trans t2; have s4 := (hSw.cell (p := ⟨n2, o2, none⟩) l4).trans t3; have s5 := (hSw.cell (p := ⟨n2, o2 + 1, none⟩) l4).trans t4; go_simp; try (with_reducible rfl))
  simp only [Act.put, List.getElem_toArray, List.getElem_cons_zero, List.getElem_cons_succ, List.setIfInBounds_toArray, List.set_cons_zero, List.set_cons_succ]
  refine wpAnyH_take (i := 17) (v := ?_) rfl (by kernel_rfl) (by kernel_rfl) (by kernel_rfl) (fun _ _ _ h => h) (Or.inl ⟨by rfl, ?_⟩) (by assumption) ?_
  rotate_left
  · (intro w hSw; clear hSw; go_simp; try (with_reducible rfl))
  simp only [Act.put, List.getElem_toArray, List.getElem_cons_zero, List.getElem_cons_succ, List.setIfInBounds_toArray, List.set_cons_zero, List.set_cons_succ]
  refine wpAnyH_take (i := 18) (v := ?_) rfl (by kernel_rfl) (by kernel_rfl) (by kernel_rfl) (fun _ _ _ h => h) (Or.inl ⟨by rfl, ?_⟩) (by assumption) ?_
  rotate_left
  · (intro w hSw; clear hSw; go_simp; try (with_reducible rfl))
  simp only [Act.put, List.getElem_toArray, List.getElem_cons_zero, List.getElem_cons_succ, List.setIfInBounds_toArray, List.set_cons_zero, List.set_cons_succ]
  refine wpAnyH_take (i := 19) (v := ?_) rfl (by kernel_rfl) (by kernel_rfl) (by kernel_rfl) (fun _ _ _ h => h) (Or.inl ⟨by rfl, ?_⟩) (by assumption) ?_
  rotate_left
  · (intro w hSw; clear hSw; go_simp; try (with_reducible rfl))
  simp only [Act.put, List.getElem_toArray, List.getElem_cons_zero, List.getElem_cons_succ, List.setIfInBounds_toArray, List.set_cons_zero, List.set_cons_succ]
  refine wpAnyH_take (i := 20) (v := ?_) rfl (by kernel_rfl) (by kernel_rfl) (by kernel_rfl) (fun _ _ _ h => h) (Or.inl ⟨by rfl, ?_⟩) (by assumption) ?_
  rotate_left
  · (intro w hSw; clear hSw; go_simp; try (with_reducible rfl))
  simp only [Act.put, List.getElem_toArray, List.getElem_cons_zero, List.getElem_cons_succ, List.setIfInBounds_toArray, List.set_cons_zero, List.set_cons_succ]
  refine wpAnyH_take (i := 21) (v := ?_) rfl (by kernel_rfl) (by kernel_rfl) (by kernel_rfl) (fun _ _ _ h => h) (Or.inl ⟨by rfl, ?_⟩) (by assumption) ?_
  rotate_left
  · (intro w hSw; clear hSw; go_simp; try (with_reducible rfl))
  simp only [Act.put, List.getElem_toArray, List.getElem_cons_zero, List.getElem_cons_succ, List.setIfInBounds_toArray, List.set_cons_zero, List.set_cons_succ]
  refine wpAnyH_take (i := 22) (v := ?_) rfl (by kernel_rfl) (by kernel_rfl) (by kernel_rfl) (fun _ _ _ h => h) (Or.inl ⟨by rfl, ?_⟩) (by assumption) ?_
  rotate_left
  · (intro w hSw; have p1 := (hSw.cell (p := ⟨w5.heap.size, 1, none⟩) l2).trans r1; have s1 := (hSw.cell (p := ⟨w5.heap.size, 2, none⟩) l2).trans r2; have s2 := (hSw.cell (p := ⟨n1, o1, none⟩) l3).trans r3; have s2b := (hSw.cell (p := ⟨n1, o1 + 1, none⟩) l3).trans r4; have p3 := (hSw.cell (p := ⟨w6.heap.size, 1, none⟩) l1).trans t1; have s3 := (hSw.cell (p := ⟨w6.heap.size, 2, none⟩) l1).trans t2; have s4 := (hSw.cell (p := ⟨n2, o2, none⟩) l4).trans t3; have s5 := (hSw.cell (p := ⟨n2, o2 + 1, none⟩) l4).trans t4; go_simp; try (with_reducible rfl))
  simp only [Act.put, List.getElem_toArray, List.getElem_cons_zero, List.getElem_cons_succ, List.setIfInBounds_toArray, List.set_cons_zero, List.set_cons_succ]
  refine wpAnyH_take (i := 23) (v := ?_) rfl (by kernel_rfl) (by kernel_rfl) (by kernel_rfl) (fun _ _ _ h => h) (Or.inl ⟨by rfl, ?_⟩) (by assumption) ?_
  rotate_left
  · (intro w hSw; clear hSw; go_simp; try (with_reducible rfl))
  simp only [Act.put, List.getElem_toArray, List.getElem_cons_zero, List.getElem_cons_succ, List.setIfInBounds_toArray, List.set_cons_zero, List.set_cons_succ]
  refine wpAnyH_take (i := 24) (v := ?_) rfl (by kernel_rfl) (by kernel_rfl) (by kernel_rfl) (fun _ _ _ h => h) (Or.inl ⟨by rfl, ?_⟩) (by assumption) ?_
  rotate_left
  · (intro w hSw; have p1 := (hSw.cell (p := ⟨w5.heap.size, 1, none⟩) l2).trans r1; have s1 := (hSw.cell (p := ⟨w5.heap.size, 2, none⟩) l2).trans r2; have s2 := (hSw.cell (p := ⟨n1, o1, none⟩) l3).trans r3; have s2b := (hSw.cell (p := ⟨n1, o1 + 1, none⟩) l3).trans r4; have p3 := (hSw.cell (p := ⟨w6.heap.size, 1, none⟩) l1).trans t1; have s3 := (hSw.cell (p := ⟨w6.heap.size, 2, none⟩) l1).trans t2; have s4 := (hSw.cell (p := ⟨n2, o2, none⟩) l4).trans t3; have s5 := (hSw.cell (p := ⟨n2, o2 + 1, none⟩) l4).trans t4; go_simp; try (with_reducible rfl))
  simp only [Act.put, List.getElem_toArray, List.getElem_cons_zero, List.getElem_cons_succ, List.setIfInBounds_toArray, List.set_cons_zero, List.set_cons_succ]
  refine wpAnyH_ready (rs := [25]) (by kernel_rfl) (by simp) ?_
  refine AllReadyH.cons rfl (fun K hK => ?_) AllReadyH.nil
  rw [if_pos (by rfl)]
  go_wp2_with (go_at_call 18; (with_reducible refine (nodeAtL_live _ y q0 _ (by exact HC9.out.below hHeld (Nat.le_refl _)) HL1.out).mono ?_); rintro e wq ⟨vb, rfl, -, hbq⟩)
  refine hK.out _ _ (hHeld.trans (hbq.mono hHeld.size)) (fun hHeld => ?_)
  clear hK K hbq
  refine wpAnyH_take (i := 26) (v := ?_) rfl (by kernel_rfl) (by kernel_rfl) (by kernel_rfl) (fun _ _ _ h => h) (Or.inl ⟨by rfl, ?_⟩) (by assumption) ?_
  rotate_left
  · (intro w hSw; clear hSw; go_simp; try (with_reducible rfl))
  simp only [Act.put, List.getElem_toArray, List.getElem_cons_zero, List.getElem_cons_succ, List.setIfInBounds_toArray, List.set_cons_zero, List.set_cons_succ]
  refine wpAnyH_take (i := 27) (v := ?_) rfl (by kernel_rfl) (by kernel_rfl) (by kernel_rfl) (fun _ _ _ h => h) (Or.inl ⟨by rfl, ?_⟩) (by assumption) ?_
  rotate_left
  · (intro w hSw; clear hSw; go_simp; try (with_reducible rfl))
  simp only [Act.put, List.getElem_toArray, List.getElem_cons_zero, List.getElem_cons_succ, List.setIfInBounds_toArray, List.set_cons_zero, List.set_cons_succ]
  refine wpAnyH_take (i := 28) (v := ?_) rfl (by kernel_rfl) (by kernel_rfl) (by kernel_rfl) (fun _ _ _ h => h) (Or.inl ⟨by rfl, ?_⟩) (by assumption) ?_
  rotate_left
  · (intro w hSw; clear hSw; go_simp; try (with_reducible rfl))
  simp only [Act.put, List.getElem_toArray, List.getElem_cons_zero, List.getElem_cons_succ, List.setIfInBounds_toArray, List.set_cons_zero, List.set_cons_succ]
  refine wpAnyH_take (i := 29) (v := ?_) rfl (by kernel_rfl) (by kernel_rfl) (by kernel_rfl) (fun _ _ _ h => h) (Or.inl ⟨by rfl, ?_⟩) (by assumption) ?_
  rotate_left
  · (intro w hSw; clear hSw; go_simp; try (with_reducible rfl))
  simp only [Act.put, List.getElem_toArray, List.getElem_cons_zero, List.getElem_cons_succ, List.setIfInBounds_toArray, List.set_cons_zero, List.set_cons_succ]
  refine wpAnyH_take (i := 30) (v := ?_) rfl (by kernel_rfl) (by kernel_rfl) (by kernel_rfl) (fun _ _ _ h => h) (Or.inl ⟨by rfl, ?_⟩) (by assumption) ?_
  rotate_left
  · (intro w hSw; clear hSw; go_simp; try (with_reducible rfl))
  simp only [Act.put, List.getElem_toArray, List.getElem_cons_zero, List.getElem_cons_succ, List.setIfInBounds_toArray, List.set_cons_zero, List.set_cons_succ]
  refine wpAnyH_take (i := 31) (v := ?_) rfl (by kernel_rfl) (by kernel_rfl) (by kernel_rfl) (fun _ _ _ h => h) (Or.inl ⟨by rfl, ?_⟩) (by assumption) ?_
  rotate_left
  · (intro w hSw; have p1 := (hSw.cell (p := ⟨w5.heap.size, 1, none⟩) l2).trans r1; have s1 := (hSw.cell (p := ⟨w5.heap.size, 2, none⟩) l2).trans r2; have s2 := (hSw.cell (p := ⟨n1, o1, none⟩) l3).trans r3; have s2b := (hSw.cell (p := ⟨n1, o1 + 1, none⟩) l3).trans r4; have p3 := (hSw.cell (p := ⟨w6.heap.size, 1, none⟩) l1).trans t1; have s3 := (hSw.cell (p := ⟨w6.heap.size, 2, none⟩) l1).trans t2; have s4 := (hSw.cell (p := ⟨n2, o2, none⟩) l4).trans t3; have s5 := (hSw.cell (p := ⟨n2, o2 + 1, none⟩) l4).trans t4; go_simp; try (with_reducible rfl))
  simp only [Act.put, List.getElem_toArray, List.getElem_cons_zero, List.getElem_cons_succ, List.setIfInBounds_toArray, List.set_cons_zero, List.set_cons_succ]
  refine wpAnyH_take (i := 32) (v := ?_) rfl (by kernel_rfl) (by kernel_rfl) (by kernel_rfl) (fun _ _ _ h => h) (Or.inl ⟨by rfl, ?_⟩) (by assumption) ?_
  rotate_left
  · (intro w hSw; clear hSw; go_simp; try (with_reducible rfl))
  simp only [Act.put, List.getElem_toArray, List.getElem_cons_zero, List.getElem_cons_succ, List.setIfInBounds_toArray, List.set_cons_zero, List.set_cons_succ]
  refine wpAnyH_take (i := 33) (v := ?_) rfl (by kernel_rfl) (by kernel_rfl) (by kernel_rfl) (fun _ _ _ h => h) (Or.inl ⟨by rfl, ?_⟩) (by assumption) ?_
  rotate_left
  · (intro w hSw; have p1 := (hSw.cell (p := ⟨w5.heap.size, 1, none⟩) l2).trans r1; have s1 := (hSw.cell (p := ⟨w5.heap.size, 2, none⟩) l2).trans r2; have s2 := (hSw.cell (p := ⟨n1, o1, none⟩) l3).trans r3; have s2b := (hSw.cell (p := ⟨n1, o1 + 1, none⟩) l3).trans r4; have p3 := (hSw.cell (p := ⟨w6.heap.size, 1, none⟩) l1).trans t1; have s3 := (hSw.cell (p := ⟨w6.heap.size, 2, none⟩) l1).trans t2; have s4 := (hSw.cell (p := ⟨n2, o2, none⟩) l4).trans t3; have s5 := (hSw.cell (p := ⟨n2, o2 + 1, none⟩) l4).trans t4; go_simp; try (with_reducible rfl))
  simp only [Act.put, List.getElem_toArray, List.getElem_cons_zero, List.getElem_cons_succ, List.setIfInBounds_toArray, List.set_cons_zero, List.set_cons_succ]
  refine wpAnyH_take (i := 34) (v := ?_) rfl (by kernel_rfl) (by kernel_rfl) (by kernel_rfl) (fun _ _ _ h => h) (Or.inl ⟨by rfl, ?_⟩) (by assumption) ?_
  rotate_left
  · (intro w hSw; clear hSw; go_simp; try (with_reducible rfl))
  simp only [Act.put, List.getElem_toArray, List.getElem_cons_zero, List.getElem_cons_succ, List.setIfInBounds_toArray, List.set_cons_zero, List.set_cons_succ]
  refine wpAnyH_take (i := 35) (v := ?_) rfl (by kernel_rfl) (by kernel_rfl) (by kernel_rfl) (fun _ _ _ h => h) (Or.inl ⟨by rfl, ?_⟩) (by assumption) ?_
  rotate_left
  · (intro w hSw; have p1 := (hSw.cell (p := ⟨w5.heap.size, 1, none⟩) l2).trans r1; have s1 := (hSw.cell (p := ⟨w5.heap.size, 2, none⟩) l2).trans r2; have s2 := (hSw.cell (p := ⟨n1, o1, none⟩) l3).trans r3; have s2b := (hSw.cell (p := ⟨n1, o1 + 1, none⟩) l3).trans r4; have p3 := (hSw.cell (p := ⟨w6.heap.size, 1, none⟩) l1).trans t1; have s3 := (hSw.cell (p := ⟨w6.heap.size, 2, none⟩) l1).trans t2; have s4 := (hSw.cell (p := ⟨n2, o2, none⟩) l4).trans t3; have s5 := (hSw.cell (p := ⟨n2, o2 + 1, none⟩) l4).trans t4; go_simp; try (with_reducible rfl))
  simp only [Act.put, List.getElem_toArray, List.getElem_cons_zero, List.getElem_cons_succ, List.setIfInBounds_toArray, List.set_cons_zero, List.set_cons_succ]
  refine wpAnyH_take (i := 36) (v := ?_) rfl (by kernel_rfl) (by kernel_rfl) (by kernel_rfl) (fun _ _ _ h => h) (Or.inl ⟨by rfl, ?_⟩) (by assumption) ?_
  rotate_left
  · (intro w hSw; clear hSw; go_simp; try (with_reducible rfl))
  simp only [Act.put, List.getElem_toArray, List.getElem_cons_zero, List.getElem_cons_succ, List.setIfInBounds_toArray, List.set_cons_zero, List.set_cons_succ]
  refine wpAnyH_take (i := 37) (v := ?_) rfl (by kernel_rfl) (by kernel_rfl) (by kernel_rfl) (fun _ _ _ h => h) (Or.inl ⟨by rfl, ?_⟩) (by assumption) ?_
  rotate_left
  · (intro w hSw; have p1 := (hSw.cell (p := ⟨w5.heap.size, 1, none⟩) l2).trans r1; have s1 := (hSw.cell (p := ⟨w5.heap.size, 2, none⟩) l2).trans r2; have s2 := (hSw.cell (p := ⟨n1, o1, none⟩) l3).trans r3; have s2b := (hSw.cell (p := ⟨n1, o1 + 1, none⟩) l3).trans r4; have p3 := (hSw.cell (p := ⟨w6.heap.size, 1, none⟩) l1).trans t1; have s3 := (hSw.cell (p := ⟨w6.heap.size, 2, none⟩) l1).trans t2; have s4 := (hSw.cell (p := ⟨n2, o2, none⟩) l4).trans t3; have s5 := (hSw.cell (p := ⟨n2, o2 + 1, none⟩) l4).trans t4; go_simp; try (with_reducible rfl))
  simp only [Act.put, List.getElem_toArray, List.getElem_cons_zero, List.getElem_cons_succ, List.setIfInBounds_toArray, List.set_cons_zero, List.set_cons_succ]
  refine wpAnyH_take (i := 38) (v := ?_) rfl (by kernel_rfl) (by kernel_rfl) (by kernel_rfl) (fun _ _ _ h => h) (Or.inl ⟨by rfl, ?_⟩) (by assumption) ?_
  rotate_left
  · (intro w hSw; clear hSw; go_simp; try (with_reducible rfl))
  simp only [Act.put, List.getElem_toArray, List.getElem_cons_zero, List.getElem_cons_succ, List.setIfInBounds_toArray, List.set_cons_zero, List.set_cons_succ]
  refine wpAnyH_take (i := 39) (v := ?_) rfl (by kernel_rfl) (by kernel_rfl) (by kernel_rfl) (fun _ _ _ h => h) (Or.inl ⟨by rfl, ?_⟩) (by assumption) ?_
  rotate_left
  · (intro w hSw; clear hSw; go_simp; try (with_reducible rfl))
  simp only [Act.put, List.getElem_toArray, List.getElem_cons_zero, List.getElem_cons_succ, List.setIfInBounds_toArray, List.set_cons_zero, List.set_cons_succ]
  refine wpAnyH_take (i := 40) (v := ?_) rfl (by kernel_rfl) (by kernel_rfl) (by kernel_rfl) (fun _ _ _ h => h) (Or.inl ⟨by rfl, ?_⟩) (by assumption) ?_
  rotate_left
  · (intro w hSw; clear hSw; go_simp; try (with_reducible rfl))
  simp only [Act.put, List.getElem_toArray, List.getElem_cons_zero, List.getElem_cons_succ, List.setIfInBounds_toArray, List.set_cons_zero, List.set_cons_succ]
  refine wpAnyH_take (i := 41) (v := ?_) rfl (by kernel_rfl) (by kernel_rfl) (by kernel_rfl) (fun _ _ _ h => h) (Or.inl ⟨by rfl, ?_⟩) (by assumption) ?_
  rotate_left
  · (intro w hSw; clear hSw; go_simp; try (with_reducible rfl))
  simp only [Act.put, List.getElem_toArray, List.getElem_cons_zero, List.getElem_cons_succ, List.setIfInBounds_toArray, List.set_cons_zero, List.set_cons_succ]
  refine wpAnyH_take (i := 42) (v := ?_) rfl (by kernel_rfl) (by kernel_rfl) (by kernel_rfl) (fun _ _ _ h => h) (Or.inl ⟨by rfl, ?_⟩) (by assumption) ?_
  rotate_left
  · (intro w hSw; clear hSw; go_simp; try (with_reducible rfl))
  simp only [Act.put, List.getElem_toArray, List.getElem_cons_zero, List.getElem_cons_succ, List.setIfInBounds_toArray, List.set_cons_zero, List.set_cons_succ]
  refine wpAnyH_done (by kernel_rfl) ?_ _
  clear hw1 hw2
  go_wp2
  go_ret
  exact ⟨rfl, hbD.trans ((hbw.trans (hHeld.mono hbw.size)).mono hbD.size)⟩

end Go.Proofs.Ytadplndoopkdgaa
