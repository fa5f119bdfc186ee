/-
  Walks: the law FnCloser.
-/
import Derived.Test.YtadplndoopkdgaaLawSC
import Derived.Test.YtadplndoopkdgaaLawN2
namespace Go.Proofs.Ytadplndoopkdgaa
open Go.RowKit

set_option maxRecDepth 100000 in
set_option maxHeartbeats 4000000 in
theorem lawCloser_any (v : Value) (w : World) (h : CodeAt w v) :
    Calls Try.prog 3 #[v] w fun e w' => e = .returned (.bool true) ∧ Below w.heap.size w w' := by
  have H := Lib.hid h
  obtain ⟨pb, n, cap, rfl, hn1, hn2, -⟩ := h
  unfold maxLen at hn2
  by_cases hbig : 1048576 < n
  · go_enter Try.func3, Try.ntmps3
    go_wp2
    go_ret
    exact ⟨rfl, Below.refl _ _⟩
  have hbig' : n ≤ 1048576 := by omega
  clear hbig
  have hf0 := field0
  have hf1 := field1
  have hf2 := field2
  go_enter Try.func3, Try.ntmps3
  go_wp2_with fail
  refine (drawRingCloser_any _ _ H.out).mono ?_
  rintro e w1 ⟨u, y, id, o, rfl, hat, hsm, hb1⟩
  have HAT := Lib.hid hat
  have hz1 := hb1.size
  have hy10 := hsm.2.1
  have hy1 := hsm.1
  obtain ⟨p, cp, rfl⟩ := hat.form
  clear hsm hat
  cases hok : rCloserOk y id o
  · have HK := Lib.hid hok
    clear hok
    go_wp2_with (first | (have _ := hb4; go_at_call 17; refine (sameRing_any _ _ (rCloser y id o) (rCloser y id o) _ (HA.out.below hb4 (Nat.le_refl _)) (HB.out.below hb4 (Nat.le_refl _))).mono ?_; rw [decide_eq_true rfl]; rintro e w5 ⟨rfl, hb5⟩) | (go_at_call 17; refine (sameRing_any _ _ (rCloser y id o) (rCloser y id o) _ HA.out HB.out).mono ?_; rw [decide_eq_true rfl]; rintro e w4 ⟨rfl, hb4⟩) | (go_at_call 15; refine (iRingCloser_any _ y id o _ HAT.out).mono ?_; rw [HK.out]; rintro e w2 ⟨ua, rfl, hA, hb2⟩; have HA0 := Lib.hid hA.at; clear hA) | (go_at_call 16; refine (sRingCloser_any _ y id o _ (HAT.out.below hb2 (Nat.le_refl _))).mono ?_; rw [HK.out]; rintro e w3 ⟨ub, rfl, hB, hb3⟩; have HB := Lib.hid hB.at; have HA := Lib.hid (HA0.out.below hb3 (Nat.le_refl _)); have hbD := hb1.trans ((hb2.trans (hb3.mono hb2.size)).mono hz1); clear hB))
    go_ret
    exact ⟨rfl, hbD.trans ((hb4.trans (hb5.mono hb4.size)).mono hbD.size)⟩
  have HK := Lib.hid hok
  clear hok
  obtain ⟨hs, g1, g2, g3, g4, g5, g6⟩ := law_closer HK.out
  have hv := safe_valid hs
  obtain ⟨i1, b1, x0, x1, e1⟩ := ndOf_form hv id
  obtain ⟨i2, b2, q0, q1, e2⟩ := ndOf_form (safe_valid g6.1) id
  obtain ⟨i3, b3, z0, z1, e3⟩ := ndOf_form hv o
  rw [e1] at g3 g5
  rw [e2, e3] at g4
  have g3' : okP x0 = true := g3
  have g5' : dist id o < dist id x0 := g5
  have h4 : q0 = o ∧ q1 = z0 := by
    have : [q0, q1] = [o, z0] := g4
    simp at this; exact this
  obtain ⟨rfl, rfl⟩ := h4
  obtain ⟨d1, hd1⟩ : ∃ d, dist id q0 = d := ⟨_, rfl⟩
  obtain ⟨d2, hd2⟩ : ∃ d, dist id x0 = d := ⟨_, rfl⟩
  rw [hd1, hd2] at g5'
  have HD1 := Lib.hid hd1
  have HD2 := Lib.hid hd2
  have HO1 := Lib.hid g1
  have HO2 := Lib.hid g2
  have HO3 := Lib.hid g3'
  have HE1 := Lib.hid e1
  have HE2 := Lib.hid e2
  have HE3 := Lib.hid e3
  clear hs g1 g2 g3 g4 g5 g6 hv e1 e2 e3 g3' hd1 hd2
  go_wp2_with (first | (go_at_call 17; refine (sameRing_any _ _ (rCloser y id q0) (rCloser y id q0) _ HA1.out HB.out).mono ?_; rw [decide_eq_true rfl]; rintro e w4 ⟨rfl, hb4⟩; have HA := Lib.hid (HA1.out.below hb4 (Nat.le_refl _)); have hbC := (hb2.trans (hb3.mono hb2.size)).trans (hb4.mono (hb2.trans (hb3.mono hb2.size)).size); have HC := Lib.hid (HAT.out.below hbC (Nat.le_refl _)); have hbD := hb1.trans (hbC.mono hz1)) | (go_at_call 15; refine (iRingCloser_any _ y id q0 _ HAT.out).mono ?_; rw [HK.out]; rintro e w2 ⟨ua, rfl, hA, hb2⟩; have HA0 := Lib.hid hA.at; obtain ⟨pa, ca, ea⟩ := hA.at.form; subst ea; clear hA) | (go_at_call 16; refine (sRingCloser_any _ y id q0 _ (HAT.out.below hb2 (Nat.le_refl _))).mono ?_; rw [HK.out]; rintro e w3 ⟨ub, rfl, hB, hb3⟩; have HB := Lib.hid hB.at; have HA1 := Lib.hid (HA0.out.below hb3 (Nat.le_refl _)); clear hB))
  refine (nodeAtL_two _ y id i1 b1 x0 x1 _ HC.out HE1.out).mono ?_
  rintro e w5 ⟨n1, o1, c1, rfl, u1, u2, u3, u4, u5, hb5⟩
  have hb5' := (hb5.alloc hb5.size (.cells #[.int .i64 i1, .int .i64 b1, .slice (some ⟨n1, o1, none⟩) 2 c1] 31))
  have hz5 : w5.heap.size < (w5.alloc (.cells #[.int .i64 i1, .int .i64 b1, .slice (some ⟨n1, o1, none⟩) 2 c1] 31)).heap.size := by simp
  go_wp2_with fail
  refine (nodeAtL_two _ (rCloser y id q0) id i2 b2 q0 q1 _ (by exact HA.out.below hb5' (Nat.le_refl _)) HE2.out).mono ?_
  rintro e w6 ⟨n2, o2, c2, rfl, v1, v2, v3, v4, v5, hb6⟩
  go_wp2_with fail
  obtain ⟨W, hW⟩ : ∃ W, w6.alloc (.cells #[.int .i64 i2, .int .i64 b2, .slice (some ⟨n2, o2, none⟩) 2 c2] 31) = W := ⟨_, rfl⟩
  have hbw := hb5'.trans ((hb6.alloc hb6.size (.cells #[.int .i64 i2, .int .i64 b2, .slice (some ⟨n2, o2, none⟩) 2 c2] 31)).mono hb5'.size)
  have hb6' := hb6.alloc hb6.size (.cells #[.int .i64 i2, .int .i64 b2, .slice (some ⟨n2, o2, none⟩) 2 c2] 31)
  have hz6 := hb6.size
  have t2 : W.cell? ⟨w6.heap.size, 2, none⟩ = some (.slice (some ⟨n2, o2, none⟩) 2 c2) := by rw [← hW]; simp
  have t3 : W.cell? ⟨n2, o2, none⟩ = some (.int .i64 q0) := by rw [← hW]; exact (((Below.refl w6.heap.size w6).alloc (Nat.le_refl _) _).cell (p := ⟨n2, o2, none⟩) v3).trans v4
  have t4 : W.cell? ⟨n2, o2 + 1, none⟩ = some (.int .i64 q1) := by rw [← hW]; exact (((Below.refl w6.heap.size w6).alloc (Nat.le_refl _) _).cell (p := ⟨n2, o2 + 1, none⟩) v3).trans v5
  rw [hW] at hbw hb6'
  have r2 : W.cell? ⟨w5.heap.size, 2, none⟩ = some (.slice (some ⟨n1, o1, none⟩) 2 c1) := (hb6'.cell (p := ⟨w5.heap.size, 2, none⟩) hz5).trans (by simp)
  have r3 : W.cell? ⟨n1, o1, none⟩ = some (.int .i64 x0) := (hb6'.cell (p := ⟨n1, o1, none⟩) (by show n1 < _; omega)).trans ((((Below.refl w5.heap.size w5).alloc (Nat.le_refl _) _).cell (p := ⟨n1, o1, none⟩) u3).trans u4)
  have l1 : w6.heap.size < W.heap.size := by rw [← hW]; simp
  have l2 : w5.heap.size < W.heap.size := by omega
  have l3 : n1 < W.heap.size := by omega
  have l4 : n2 < W.heap.size := by omega
  rw [hW]
  have HC9 := Lib.hid (HC.out.below hbw (Nat.le_refl _))
  clear hW u4 u5 v4 v5 hb5' hb6'
  refine wp_region_held_drew (S := fun w' => Below (W).heap.size W w') (by kernel_rfl) (Below.refl _ W).drew (fun hHeld => ?_)
  refine wpAnyH_take (i := 0) (v := ?_) rfl (by kernel_rfl) (by kernel_rfl) (by kernel_rfl) (fun _ _ _ h => h) (Or.inl ⟨by rfl, ?_⟩) (by assumption) ?_
  rotate_left
  · (intro wz hSw; clear hSw; go_simp; try (with_reducible rfl))
  simp only [Act.put, List.getElem_toArray, List.getElem_cons_zero, List.setIfInBounds_toArray, List.set_cons_zero, List.set_cons_succ]
  refine wpAnyH_take (i := 1) (v := ?_) rfl (by kernel_rfl) (by kernel_rfl) (by kernel_rfl) (fun _ _ _ h => h) (Or.inl ⟨by rfl, ?_⟩) (by assumption) ?_
  rotate_left
  · (intro wz hSw; have s1 := (hSw.cell (p := ⟨w5.heap.size, 2, none⟩) l2).trans r2; have s2 := (hSw.cell (p := ⟨n1, o1, none⟩) l3).trans r3; have s3 := (hSw.cell (p := ⟨w6.heap.size, 2, none⟩) l1).trans t2; have s4 := (hSw.cell (p := ⟨n2, o2, none⟩) l4).trans t3; have s5 := (hSw.cell (p := ⟨n2, o2 + 1, none⟩) l4).trans t4; go_simp; try (with_reducible rfl))
  simp only [Act.put, List.getElem_toArray, List.getElem_cons_zero, List.getElem_cons_succ, List.setIfInBounds_toArray, List.set_cons_zero, List.set_cons_succ]
  refine wpAnyH_take (i := 2) (v := ?_) rfl (by kernel_rfl) (by kernel_rfl) (by kernel_rfl) (fun _ _ _ h => h) (Or.inl ⟨by rfl, ?_⟩) (by assumption) ?_
  rotate_left
  · (intro wz hSw; clear hSw; go_simp; try (with_reducible rfl))
  simp only [Act.put, List.getElem_toArray, List.getElem_cons_zero, List.getElem_cons_succ, List.setIfInBounds_toArray, List.set_cons_zero, List.set_cons_succ]
  refine wpAnyH_take (i := 3) (v := ?_) rfl (by kernel_rfl) (by kernel_rfl) (by kernel_rfl) (fun _ _ _ h => h) (Or.inl ⟨by rfl, ?_⟩) (by assumption) ?_
  rotate_left
  · (intro wz hSw; have s1 := (hSw.cell (p := ⟨w5.heap.size, 2, none⟩) l2).trans r2; have s2 := (hSw.cell (p := ⟨n1, o1, none⟩) l3).trans r3; have s3 := (hSw.cell (p := ⟨w6.heap.size, 2, none⟩) l1).trans t2; have s4 := (hSw.cell (p := ⟨n2, o2, none⟩) l4).trans t3; have s5 := (hSw.cell (p := ⟨n2, o2 + 1, none⟩) l4).trans t4; go_simp; try (with_reducible rfl))
  simp only [Act.put, List.getElem_toArray, List.getElem_cons_zero, List.getElem_cons_succ, List.setIfInBounds_toArray, List.set_cons_zero, List.set_cons_succ]
  refine wpAnyH_take (i := 4) (v := ?_) rfl (by kernel_rfl) (by kernel_rfl) (by kernel_rfl) (fun _ _ _ h => h) (Or.inl ⟨by rfl, ?_⟩) (by assumption) ?_
  rotate_left
  · (intro wz hSw; clear hSw; go_simp; try (with_reducible rfl))
  simp only [Act.put, List.getElem_toArray, List.getElem_cons_zero, List.getElem_cons_succ, List.setIfInBounds_toArray, List.set_cons_zero, List.set_cons_succ]
  refine wpAnyH_take (i := 5) (v := ?_) rfl (by kernel_rfl) (by kernel_rfl) (by kernel_rfl) (fun _ _ _ h => h) (Or.inl ⟨by rfl, ?_⟩) (by assumption) ?_
  rotate_left
  · (intro wz hSw; clear hSw; go_simp; try (with_reducible rfl))
  simp only [Act.put, List.getElem_toArray, List.getElem_cons_zero, List.getElem_cons_succ, List.setIfInBounds_toArray, List.set_cons_zero, List.set_cons_succ]
  refine wpAnyH_take (i := 6) (v := ?_) rfl (by kernel_rfl) (by kernel_rfl) (by kernel_rfl) (fun _ _ _ h => h) (Or.inl ⟨by rfl, ?_⟩) (by assumption) ?_
  rotate_left
  · (intro wz hSw; clear hSw; go_simp; try (with_reducible rfl))
  simp only [Act.put, List.getElem_toArray, List.getElem_cons_zero, List.getElem_cons_succ, List.setIfInBounds_toArray, List.set_cons_zero, List.set_cons_succ]
  refine wpAnyH_take (i := 7) (v := ?_) rfl (by kernel_rfl) (by kernel_rfl) (by kernel_rfl) (fun _ _ _ h => h) (Or.inl ⟨by rfl, ?_⟩) (by assumption) ?_
  rotate_left
  · (intro wz hSw; clear hSw; go_simp; try (with_reducible rfl))
  simp only [Act.put, List.getElem_toArray, List.getElem_cons_zero, List.getElem_cons_succ, List.setIfInBounds_toArray, List.set_cons_zero, List.set_cons_succ]
  refine wpAnyH_take (i := 8) (v := ?_) rfl (by kernel_rfl) (by kernel_rfl) (by kernel_rfl) (fun _ _ _ h => h) (Or.inl ⟨by rfl, ?_⟩) (by assumption) ?_
  rotate_left
  · (intro wz hSw; clear hSw; go_simp; try (with_reducible rfl))
  simp only [Act.put, List.getElem_toArray, List.getElem_cons_zero, List.getElem_cons_succ, List.setIfInBounds_toArray, List.set_cons_zero, List.set_cons_succ]
  refine wpAnyH_take (i := 10) (v := ?_) rfl (by kernel_rfl) (by kernel_rfl) (by kernel_rfl) (fun _ _ _ h => h) (Or.inl ⟨by rfl, ?_⟩) (by assumption) ?_
  rotate_left
  · (intro wz hSw; clear hSw; go_simp; try (with_reducible rfl))
  simp only [Act.put, List.getElem_toArray, List.getElem_cons_zero, List.getElem_cons_succ, List.setIfInBounds_toArray, List.set_cons_zero, List.set_cons_succ]
  refine wpAnyH_take (i := 11) (v := ?_) rfl (by kernel_rfl) (by kernel_rfl) (by kernel_rfl) (fun _ _ _ h => h) (Or.inl ⟨by rfl, ?_⟩) (by assumption) ?_
  rotate_left
  · (intro wz hSw; clear hSw; go_simp; try (with_reducible rfl))
  simp only [Act.put, List.getElem_toArray, List.getElem_cons_zero, List.getElem_cons_succ, List.setIfInBounds_toArray, List.set_cons_zero, List.set_cons_succ]
  refine wpAnyH_take (i := 12) (v := ?_) rfl (by kernel_rfl) (by kernel_rfl) (by kernel_rfl) (fun _ _ _ h => h) (Or.inl ⟨by rfl, ?_⟩) (by assumption) ?_
  rotate_left
  · (intro wz hSw; have s1 := (hSw.cell (p := ⟨w5.heap.size, 2, none⟩) l2).trans r2; have s2 := (hSw.cell (p := ⟨n1, o1, none⟩) l3).trans r3; have s3 := (hSw.cell (p := ⟨w6.heap.size, 2, none⟩) l1).trans t2; have s4 := (hSw.cell (p := ⟨n2, o2, none⟩) l4).trans t3; have s5 := (hSw.cell (p := ⟨n2, o2 + 1, none⟩) l4).trans t4; go_simp; try (with_reducible rfl))
  simp only [Act.put, List.getElem_toArray, List.getElem_cons_zero, List.getElem_cons_succ, List.setIfInBounds_toArray, List.set_cons_zero, List.set_cons_succ]
  refine wpAnyH_take (i := 13) (v := ?_) rfl (by kernel_rfl) (by kernel_rfl) (by kernel_rfl) (fun _ _ _ h => h) (Or.inl ⟨by rfl, ?_⟩) (by assumption) ?_
  rotate_left
  · (intro wz hSw; clear hSw; go_simp; try (with_reducible rfl))
  simp only [Act.put, List.getElem_toArray, List.getElem_cons_zero, List.getElem_cons_succ, List.setIfInBounds_toArray, List.set_cons_zero, List.set_cons_succ]
  refine wpAnyH_take (i := 14) (v := ?_) rfl (by kernel_rfl) (by kernel_rfl) (by kernel_rfl) (fun _ _ _ h => h) (Or.inl ⟨by rfl, ?_⟩) (by assumption) ?_
  rotate_left
  · (intro wz hSw; have s1 := (hSw.cell (p := ⟨w5.heap.size, 2, none⟩) l2).trans r2; have s2 := (hSw.cell (p := ⟨n1, o1, none⟩) l3).trans r3; have s3 := (hSw.cell (p := ⟨w6.heap.size, 2, none⟩) l1).trans t2; have s4 := (hSw.cell (p := ⟨n2, o2, none⟩) l4).trans t3; have s5 := (hSw.cell (p := ⟨n2, o2 + 1, none⟩) l4).trans t4; go_simp; try (with_reducible rfl))
  simp only [Act.put, List.getElem_toArray, List.getElem_cons_zero, List.getElem_cons_succ, List.setIfInBounds_toArray, List.set_cons_zero, List.set_cons_succ]
  refine wpAnyH_ready (rs := [9]) (by kernel_rfl) (by simp) ?_
  refine AllReadyH.cons rfl (fun K hK => ?_) AllReadyH.nil
  rw [if_pos (by rfl)]
  go_wp2_with (go_at_call 19; (with_reducible refine (iDistance_is id q0 d1 HO1.out HO2.out HD1.out _).mono ?_); rintro e wq ⟨rfl, hbq⟩)
  refine hK.out _ _ (hHeld.trans (hbq.mono hHeld.size)) (fun hHeld => ?_)
  clear hK K hbq
  refine wpAnyH_ready (rs := [15]) (by kernel_rfl) (by simp) ?_
  refine AllReadyH.cons rfl (fun K hK => ?_) AllReadyH.nil
  rw [if_pos (by rfl)]
  go_wp2_with (go_at_call 19; (with_reducible refine (iDistance_is id x0 d2 HO1.out HO3.out HD2.out _).mono ?_); rintro e wq ⟨rfl, hbq⟩)
  refine hK.out _ _ (hHeld.trans (hbq.mono hHeld.size)) (fun hHeld => ?_)
  clear hK K hbq
  refine wpAnyH_take (i := 16) (v := ?_) rfl (by kernel_rfl) (by kernel_rfl) (by kernel_rfl) (fun _ _ _ h => h) (Or.inl ⟨by rfl, ?_⟩) (by assumption) ?_
  rotate_left
  · (intro wz hSw; clear hSw; go_simp; try (with_reducible rfl))
  simp only [Act.put, List.getElem_toArray, List.getElem_cons_zero, List.getElem_cons_succ, List.setIfInBounds_toArray, List.set_cons_zero, List.set_cons_succ]
  refine wpAnyH_take (i := 17) (v := ?_) rfl (by kernel_rfl) (by kernel_rfl) (by kernel_rfl) (fun _ _ _ h => h) (Or.inl ⟨by rfl, ?_⟩) (by assumption) ?_
  rotate_left
  · (intro wz hSw; clear hSw; go_simp; try (with_reducible rfl))
  simp only [Act.put, List.getElem_toArray, List.getElem_cons_zero, List.getElem_cons_succ, List.setIfInBounds_toArray, List.set_cons_zero, List.set_cons_succ]
  refine wpAnyH_take (i := 18) (v := ?_) rfl (by kernel_rfl) (by kernel_rfl) (by kernel_rfl) (fun _ _ _ h => h) (Or.inl ⟨by rfl, ?_⟩) (by assumption) ?_
  rotate_left
  · (intro wz hSw; clear hSw; go_simp; try (with_reducible rfl))
  simp only [Act.put, List.getElem_toArray, List.getElem_cons_zero, List.getElem_cons_succ, List.setIfInBounds_toArray, List.set_cons_zero, List.set_cons_succ]
  refine wpAnyH_take (i := 19) (v := ?_) rfl (by kernel_rfl) (by kernel_rfl) (by kernel_rfl) (fun _ _ _ h => h) (Or.inl ⟨by rfl, ?_⟩) (by assumption) ?_
  rotate_left
  · (intro wz hSw; clear hSw; go_simp; try (with_reducible rfl))
  simp only [Act.put, List.getElem_toArray, List.getElem_cons_zero, List.getElem_cons_succ, List.setIfInBounds_toArray, List.set_cons_zero, List.set_cons_succ]
  refine wpAnyH_take (i := 20) (v := ?_) rfl (by kernel_rfl) (by kernel_rfl) (by kernel_rfl) (fun _ _ _ h => h) (Or.inl ⟨by rfl, ?_⟩) (by assumption) ?_
  rotate_left
  · (intro wz hSw; have s1 := (hSw.cell (p := ⟨w5.heap.size, 2, none⟩) l2).trans r2; have s2 := (hSw.cell (p := ⟨n1, o1, none⟩) l3).trans r3; have s3 := (hSw.cell (p := ⟨w6.heap.size, 2, none⟩) l1).trans t2; have s4 := (hSw.cell (p := ⟨n2, o2, none⟩) l4).trans t3; have s5 := (hSw.cell (p := ⟨n2, o2 + 1, none⟩) l4).trans t4; go_simp; try (with_reducible rfl))
  simp only [Act.put, List.getElem_toArray, List.getElem_cons_zero, List.getElem_cons_succ, List.setIfInBounds_toArray, List.set_cons_zero, List.set_cons_succ]
  refine wpAnyH_take (i := 21) (v := ?_) rfl (by kernel_rfl) (by kernel_rfl) (by kernel_rfl) (fun _ _ _ h => h) (Or.inl ⟨by rfl, ?_⟩) (by assumption) ?_
  rotate_left
  · (intro wz hSw; clear hSw; go_simp; try (with_reducible rfl))
  simp only [Act.put, List.getElem_toArray, List.getElem_cons_zero, List.getElem_cons_succ, List.setIfInBounds_toArray, List.set_cons_zero, List.set_cons_succ]
  refine wpAnyH_take (i := 22) (v := ?_) rfl (by kernel_rfl) (by kernel_rfl) (by kernel_rfl) (fun _ _ _ h => h) (Or.inl ⟨by rfl, ?_⟩) (by assumption) ?_
  rotate_left
  · (intro wz hSw; have s1 := (hSw.cell (p := ⟨w5.heap.size, 2, none⟩) l2).trans r2; have s2 := (hSw.cell (p := ⟨n1, o1, none⟩) l3).trans r3; have s3 := (hSw.cell (p := ⟨w6.heap.size, 2, none⟩) l1).trans t2; have s4 := (hSw.cell (p := ⟨n2, o2, none⟩) l4).trans t3; have s5 := (hSw.cell (p := ⟨n2, o2 + 1, none⟩) l4).trans t4; go_simp; try (with_reducible rfl))
  simp only [Act.put, List.getElem_toArray, List.getElem_cons_zero, List.getElem_cons_succ, List.setIfInBounds_toArray, List.set_cons_zero, List.set_cons_succ]
  refine wpAnyH_take (i := 23) (v := ?_) rfl (by kernel_rfl) (by kernel_rfl) (by kernel_rfl) (fun _ _ _ h => h) (Or.inl ⟨by rfl, ?_⟩) (by assumption) ?_
  rotate_left
  · (intro wz hSw; clear hSw; go_simp; try (with_reducible rfl))
  simp only [Act.put, List.getElem_toArray, List.getElem_cons_zero, List.getElem_cons_succ, List.setIfInBounds_toArray, List.set_cons_zero, List.set_cons_succ]
  refine wpAnyH_take (i := 24) (v := ?_) rfl (by kernel_rfl) (by kernel_rfl) (by kernel_rfl) (fun _ _ _ h => h) (Or.inl ⟨by rfl, ?_⟩) (by assumption) ?_
  rotate_left
  · (intro wz hSw; clear hSw; go_simp; try (with_reducible rfl))
  simp only [Act.put, List.getElem_toArray, List.getElem_cons_zero, List.getElem_cons_succ, List.setIfInBounds_toArray, List.set_cons_zero, List.set_cons_succ]
  refine wpAnyH_ready (rs := [25]) (by kernel_rfl) (by simp) ?_
  refine AllReadyH.cons rfl (fun K hK => ?_) AllReadyH.nil
  rw [if_pos (by rfl)]
  go_wp2_with (go_at_call 18; refine (nodeAtL_two _ y q0 i3 b3 q1 z1 _ (by exact HC9.out.below hHeld (Nat.le_refl _)) HE3.out).mono ?_; rintro e wt1 ⟨n3, o3, c3, rfl, k1, k2, k3, k4, k5, hbq⟩)
  refine hK.out _ _ (hHeld.trans (hbq.mono hHeld.size)) (fun hHeld => ?_)
  clear hK K hbq
  have hT1 := hHeld
  refine wpAnyH_turn (S' := fun w' => Below wt1.heap.size wt1 w') (fun w h => hT1.trans (h.mono hT1.size)) _ _ _ _ ?_
  have hHeld : Below wt1.heap.size wt1 wt1 := Below.refl _ _
  refine wpAnyH_take (i := 26) (v := ?_) rfl (by kernel_rfl) (by kernel_rfl) (by kernel_rfl) (fun _ _ _ h => h) (Or.inl ⟨by rfl, ?_⟩) (by assumption) ?_
  rotate_left
  · (intro wz hSw; clear hSw; go_simp; try (with_reducible rfl))
  simp only [Act.put, List.getElem_toArray, List.getElem_cons_zero, List.getElem_cons_succ, List.setIfInBounds_toArray, List.set_cons_zero, List.set_cons_succ]
  refine wpAnyH_take (i := 27) (v := ?_) rfl (by kernel_rfl) (by kernel_rfl) (by kernel_rfl) (fun _ _ _ h => h) (Or.inl ⟨by rfl, ?_⟩) (by assumption) ?_
  rotate_left
  · (intro wz hSw; clear hSw; go_simp; try (with_reducible rfl))
  simp only [Act.put, List.getElem_toArray, List.getElem_cons_zero, List.getElem_cons_succ, List.setIfInBounds_toArray, List.set_cons_zero, List.set_cons_succ]
  refine wpAnyH_take (i := 28) (v := ?_) rfl (by kernel_rfl) (by kernel_rfl) (by kernel_rfl) (fun _ _ _ h => h) (Or.inl ⟨by rfl, ?_⟩) (by assumption) ?_
  rotate_left
  · (intro wz hSw; have hSt1 := hSw; have hSw := hT1.trans (hSt1.mono hT1.size); have s1 := (hSw.cell (p := ⟨w5.heap.size, 2, none⟩) l2).trans r2; have s2 := (hSw.cell (p := ⟨n1, o1, none⟩) l3).trans r3; have s3 := (hSw.cell (p := ⟨w6.heap.size, 2, none⟩) l1).trans t2; have s4 := (hSw.cell (p := ⟨n2, o2, none⟩) l4).trans t3; have s5 := (hSw.cell (p := ⟨n2, o2 + 1, none⟩) l4).trans t4; have s6 := (hSt1.cell (p := ⟨n3, o3, none⟩) k3).trans k4; go_simp; try (with_reducible rfl))
  simp only [Act.put, List.getElem_toArray, List.getElem_cons_zero, List.getElem_cons_succ, List.setIfInBounds_toArray, List.set_cons_zero, List.set_cons_succ]
  refine wpAnyH_take (i := 29) (v := ?_) rfl (by kernel_rfl) (by kernel_rfl) (by kernel_rfl) (fun _ _ _ h => h) (Or.inl ⟨by rfl, ?_⟩) (by assumption) ?_
  rotate_left
  · (intro wz hSw; clear hSw; go_simp; try (with_reducible rfl))
  simp only [Act.put, List.getElem_toArray, List.getElem_cons_zero, List.getElem_cons_succ, List.setIfInBounds_toArray, List.set_cons_zero, List.set_cons_succ]
  refine wpAnyH_take (i := 30) (v := ?_) rfl (by kernel_rfl) (by kernel_rfl) (by kernel_rfl) (fun _ _ _ h => h) (Or.inl ⟨by rfl, ?_⟩) (by assumption) ?_
  rotate_left
  · (intro wz hSw; clear hSw; go_simp; try (with_reducible rfl))
  simp only [Act.put, List.getElem_toArray, List.getElem_cons_zero, List.getElem_cons_succ, List.setIfInBounds_toArray, List.set_cons_zero, List.set_cons_succ]
  refine wpAnyH_take (i := 31) (v := ?_) rfl (by kernel_rfl) (by kernel_rfl) (by kernel_rfl) (fun _ _ _ h => h) (Or.inl ⟨by rfl, ?_⟩) (by assumption) ?_
  rotate_left
  · (intro wz hSw; clear hSw; go_simp; try (with_reducible rfl))
  simp only [Act.put, List.getElem_toArray, List.getElem_cons_zero, List.getElem_cons_succ, List.setIfInBounds_toArray, List.set_cons_zero, List.set_cons_succ]
  refine wpAnyH_done (by kernel_rfl) ?_ _
  go_wp2
  go_ret
  exact ⟨rfl, hbD.trans ((hbw.trans (hT1.mono hbw.size)).mono hbD.size)⟩

end Go.Proofs.Ytadplndoopkdgaa
