/-
  Walks: the law FnNotify.
-/
import Derived.Test.YtadplndoopkdgaaLawSN
import Derived.Test.YtadplndoopkdgaaLawN2
namespace Go.Proofs.Ytadplndoopkdgaa
open Go.RowKit


set_option maxRecDepth 100000 in
set_option maxHeartbeats 4000000 in
theorem lawNotify_any (v : Value) (w : World) (h : CodeAt w v) :
    Calls Try.prog 6 #[v] w fun e w' => e = .returned (.bool true) ∧ Below w.heap.size w w' := by
  have H := Lib.hid h
  obtain ⟨pb, n, cap, rfl, hn1, hn2, -⟩ := h
  unfold maxLen at hn2
  by_cases hbig : 1048576 < n
  · go_enter Try.func6, Try.ntmps6
    go_wp2
    go_ret
    exact ⟨rfl, Below.refl _ _⟩
  have hbig' : n ≤ 1048576 := by omega
  clear hbig
  have hf0 := field0
  have hf1 := field1
  have hf2 := field2
  go_enter Try.func6, Try.ntmps6
  go_wp2_with fail
  refine (drawRingNotify_any _ _ H.out).mono ?_
  rintro e w1 ⟨u, y, id, o, rfl, hat, hsm, hb1⟩
  have HAT := Lib.hid hat
  have hz1 := hb1.size
  have hy10 := hsm.2.1
  have hy1 := hsm.1
  obtain ⟨p, cp, rfl⟩ := hat.form
  clear hsm hat
  cases hok : rNotifyOk y id o
  · have HK := Lib.hid hok
    clear hok
    go_wp2_with (first | (have _ := hb4; go_at_call 17; refine (sameRing_any _ _ (rNotify y id o) (rNotify y id o) _ (HA.out.below hb4 (Nat.le_refl _)) (HB.out.below hb4 (Nat.le_refl _))).mono ?_; rw [decide_eq_true rfl]; rintro e w5 ⟨rfl, hb5⟩) | (go_at_call 17; refine (sameRing_any _ _ (rNotify y id o) (rNotify y id o) _ HA.out HB.out).mono ?_; rw [decide_eq_true rfl]; rintro e w4 ⟨rfl, hb4⟩) | (go_at_call 27; refine (iRingNotify_any _ y id o _ HAT.out).mono ?_; rw [HK.out]; rintro e w2 ⟨ua, rfl, hA, hb2⟩; have HA0 := Lib.hid hA.at; clear hA) | (go_at_call 28; refine (sRingNotify_any _ y id o _ (HAT.out.below hb2 (Nat.le_refl _))).mono ?_; rw [HK.out]; rintro e w3 ⟨ub, rfl, hB, hb3⟩; have HB := Lib.hid hB.at; have HA := Lib.hid (HA0.out.below hb3 (Nat.le_refl _)); have hbD := hb1.trans ((hb2.trans (hb3.mono hb2.size)).mono hz1); clear hB))
    go_ret
    exact ⟨rfl, hbD.trans ((hb4.trans (hb5.mono hb4.size)).mono hbD.size)⟩
  have HK := Lib.hid hok
  clear hok
  obtain ⟨hs, g1, g2, g3, g4, g5, g6⟩ := law_notify HK.out
  have hv := safe_valid hs
  obtain ⟨i1, b1, x0, x1, e1⟩ := ndOf_form hv id
  obtain ⟨i2, b2, q0, q1, e2⟩ := ndOf_form (safe_valid g6.1) id
  rw [e1] at g4 g5
  rw [e2] at g3 g4
  have h3 : (b2 == o) = true := by have h : b2 = o := g3; simp [h]
  have HD3 := Lib.hid (show decide ([q0, q1] = [x0, x1]) = true from decide_eq_true g4)
  have g5' : b1 < 0 ∨ live y b1 = false ∨ b1 = id ∨ (okP b1 = true ∧ dist o id < dist b1 id) := g5
  have HV := Lib.hid hv
  have HO1 := Lib.hid g1
  have HO2 := Lib.hid g2
  have HG5 := Lib.hid g5'
  have HE1 := Lib.hid e1
  have HE2 := Lib.hid e2
  clear hs g1 g2 g3 g4 g5 g5' g6 hv e1 e2
  go_wp2_with (first | (go_at_call 17; refine (sameRing_any _ _ (rNotify y id o) (rNotify y id o) _ HA1.out HB.out).mono ?_; rw [decide_eq_true rfl]; rintro e w4 ⟨rfl, hb4⟩; have HA := Lib.hid (HA1.out.below hb4 (Nat.le_refl _)); have hbC := (hb2.trans (hb3.mono hb2.size)).trans (hb4.mono (hb2.trans (hb3.mono hb2.size)).size); have HC := Lib.hid (HAT.out.below hbC (Nat.le_refl _)); have hbD := hb1.trans (hbC.mono hz1)) | (go_at_call 27; refine (iRingNotify_any _ y id o _ HAT.out).mono ?_; rw [HK.out]; rintro e w2 ⟨ua, rfl, hA, hb2⟩; have HA0 := Lib.hid hA.at; obtain ⟨pa, ca, ea⟩ := hA.at.form; subst ea; clear hA) | (go_at_call 28; refine (sRingNotify_any _ y id o _ (HAT.out.below hb2 (Nat.le_refl _))).mono ?_; rw [HK.out]; rintro e w3 ⟨ub, rfl, hB, hb3⟩; have HB := Lib.hid hB.at; have HA1 := Lib.hid (HA0.out.below hb3 (Nat.le_refl _)); clear hB))
  refine (nodeAtL_two _ y id i1 b1 x0 x1 _ HC.out HE1.out).mono ?_
  rintro e w5 ⟨n1, o1, c1, rfl, u1, u2, u3, u4, u5, hb5⟩
  have hb5' := (hb5.alloc hb5.size (.cells #[.int .i64 i1, .int .i64 b1, .slice (some ⟨n1, o1, none⟩) 2 c1] 31))
  have hz5 : w5.heap.size < (w5.alloc (.cells #[.int .i64 i1, .int .i64 b1, .slice (some ⟨n1, o1, none⟩) 2 c1] 31)).heap.size := by simp
  go_wp2_with fail
  refine (nodeAtL_two _ (rNotify y id o) id i2 b2 q0 q1 _ (by exact HA.out.below hb5' (Nat.le_refl _)) HE2.out).mono ?_
  rintro e w6 ⟨n2, o2, c2, rfl, v1, v2, v3, v4, v5, hb6⟩
  go_wp2_with fail
  obtain ⟨W, hW⟩ : ∃ W, w6.alloc (.cells #[.int .i64 i2, .int .i64 b2, .slice (some ⟨n2, o2, none⟩) 2 c2] 31) = W := ⟨_, rfl⟩
  have hbw := hb5'.trans ((hb6.alloc hb6.size (.cells #[.int .i64 i2, .int .i64 b2, .slice (some ⟨n2, o2, none⟩) 2 c2] 31)).mono hb5'.size)
  have hb6' := hb6.alloc hb6.size (.cells #[.int .i64 i2, .int .i64 b2, .slice (some ⟨n2, o2, none⟩) 2 c2] 31)
  have hz6 := hb6.size
  have t1 : W.cell? ⟨w6.heap.size, 1, none⟩ = some (.int .i64 b2) := by rw [← hW]; simp
  have t2 : W.cell? ⟨w6.heap.size, 2, none⟩ = some (.slice (some ⟨n2, o2, none⟩) 2 c2) := by rw [← hW]; simp
  have t3 : W.cell? ⟨n2, o2, none⟩ = some (.int .i64 q0) := by rw [← hW]; exact (((Below.refl w6.heap.size w6).alloc (Nat.le_refl _) _).cell (p := ⟨n2, o2, none⟩) v3).trans v4
  have t4 : W.cell? ⟨n2, o2 + 1, none⟩ = some (.int .i64 q1) := by rw [← hW]; exact (((Below.refl w6.heap.size w6).alloc (Nat.le_refl _) _).cell (p := ⟨n2, o2 + 1, none⟩) v3).trans v5
  rw [hW] at hbw hb6'
  have r1 : W.cell? ⟨w5.heap.size, 1, none⟩ = some (.int .i64 b1) := (hb6'.cell (p := ⟨w5.heap.size, 1, none⟩) hz5).trans (by simp)
  have r2 : W.cell? ⟨w5.heap.size, 2, none⟩ = some (.slice (some ⟨n1, o1, none⟩) 2 c1) := (hb6'.cell (p := ⟨w5.heap.size, 2, none⟩) hz5).trans (by simp)
  have r3 : W.cell? ⟨n1, o1, none⟩ = some (.int .i64 x0) := (hb6'.cell (p := ⟨n1, o1, none⟩) (by show n1 < _; omega)).trans ((((Below.refl w5.heap.size w5).alloc (Nat.le_refl _) _).cell (p := ⟨n1, o1, none⟩) u3).trans u4)
  have r4 : W.cell? ⟨n1, o1 + 1, none⟩ = some (.int .i64 x1) := (hb6'.cell (p := ⟨n1, o1 + 1, none⟩) (by show n1 < _; omega)).trans ((((Below.refl w5.heap.size w5).alloc (Nat.le_refl _) _).cell (p := ⟨n1, o1 + 1, none⟩) u3).trans u5)
  have l1 : w6.heap.size < W.heap.size := by rw [← hW]; simp
  have l2 : w5.heap.size < W.heap.size := by omega
  have l3 : n1 < W.heap.size := by omega
  have l4 : n2 < W.heap.size := by omega
  rw [hW]
  have HC9 := Lib.hid (HC.out.below hbw (Nat.le_refl _))
  have HA9 := Lib.hid (HA.out.below hbw (Nat.le_refl _))
  clear hW u4 u5 v4 v5 hb5' hb6'
  clear HA9
  have HI1 : Hid (IntsAt W (.slice (some ⟨n1, o1, none⟩) 2 c1) [x0, x1]) := Lib.hid ⟨_, c1, rfl, u1, by unfold maxLen; omega, .inr ⟨n1, o1, rfl, l3, fun i hi => by
    have hi' : i < 2 := hi
    match i, hi' with
    | 0, _ => exact r3
    | 1, _ => exact r4⟩⟩
  have HI2 : Hid (IntsAt W (.slice (some ⟨n2, o2, none⟩) 2 c2) [q0, q1]) := Lib.hid ⟨_, c2, rfl, v1, by unfold maxLen; omega, .inr ⟨n2, o2, rfl, l4, fun i hi => by
    have hi' : i < 2 := hi
    match i, hi' with
    | 0, _ => exact t3
    | 1, _ => exact t4⟩⟩
  by_cases hb0 : b1 < 0
  · clear HG5
    refine wp_region_held_drew (S := fun w' => Below (W).heap.size W w') (by kernel_rfl) (Below.refl _ W).drew (fun hHeld => ?_)
    refine wpAnyH_take (i := 0) (v := ?_) rfl (by kernel_rfl) (by kernel_rfl) (by kernel_rfl) (fun _ _ _ h => h) (Or.inl ⟨by rfl, ?_⟩) (by assumption) ?_
    rotate_left
    · (intro w hSw; clear hSw; go_simp; try (with_reducible rfl))
    simp only [Act.put, List.getElem_toArray, List.getElem_cons_zero, List.setIfInBounds_toArray, List.set_cons_zero, List.set_cons_succ]
    refine wpAnyH_take (i := 1) (v := ?_) rfl (by kernel_rfl) (by kernel_rfl) (by kernel_rfl) (fun _ _ _ h => h) (Or.inl ⟨by rfl, ?_⟩) (by assumption) ?_
    rotate_left
    · (intro w hSw; have p1 := (hSw.cell (p := ⟨w5.heap.size, 1, none⟩) l2).trans r1; have s1 := (hSw.cell (p := ⟨w5.heap.size, 2, none⟩) l2).trans r2; have s2 := (hSw.cell (p := ⟨n1, o1, none⟩) l3).trans r3; have s2b := (hSw.cell (p := ⟨n1, o1 + 1, none⟩) l3).trans r4; have p3 := (hSw.cell (p := ⟨w6.heap.size, 1, none⟩) l1).trans t1; have s3 := (hSw.cell (p := ⟨w6.heap.size, 2, none⟩) l1).trans t2; have s4 := (hSw.cell (p := ⟨n2, o2, none⟩) l4).trans t3; have s5 := (hSw.cell (p := ⟨n2, o2 + 1, none⟩) l4).trans t4; go_simp; try (with_reducible rfl))
    simp only [Act.put, List.getElem_toArray, List.getElem_cons_zero, List.getElem_cons_succ, List.setIfInBounds_toArray, List.set_cons_zero, List.set_cons_succ]
    refine wpAnyH_take (i := 2) (v := ?_) rfl (by kernel_rfl) (by kernel_rfl) (by kernel_rfl) (fun _ _ _ h => h) (Or.inl ⟨by rfl, ?_⟩) (by assumption) ?_
    rotate_left
    · (intro w hSw; clear hSw; go_simp; try (with_reducible rfl))
    simp only [Act.put, List.getElem_toArray, List.getElem_cons_zero, List.getElem_cons_succ, List.setIfInBounds_toArray, List.set_cons_zero, List.set_cons_succ]
    refine wpAnyH_take (i := 3) (v := ?_) rfl (by kernel_rfl) (by kernel_rfl) (by kernel_rfl) (fun _ _ _ h => h) (Or.inl ⟨by rfl, ?_⟩) (by assumption) ?_
    rotate_left
    · (intro w hSw; clear hSw; go_simp; try (with_reducible rfl))
    simp only [Act.put, List.getElem_toArray, List.getElem_cons_zero, List.getElem_cons_succ, List.setIfInBounds_toArray, List.set_cons_zero, List.set_cons_succ]
    refine wpAnyH_take (i := 4) (v := undef) rfl (by kernel_rfl) (by kernel_rfl) (by kernel_rfl) (fun _ _ _ h => h) (Or.inr ⟨by rfl, rfl⟩) (by assumption) ?_
    simp only [Act.put, List.getElem_toArray, List.getElem_cons_zero, List.getElem_cons_succ, List.setIfInBounds_toArray, List.set_cons_zero, List.set_cons_succ]
    refine wpAnyH_take (i := 5) (v := undef) rfl (by kernel_rfl) (by kernel_rfl) (by kernel_rfl) (fun _ _ _ h => h) (Or.inr ⟨by rfl, rfl⟩) (by assumption) ?_
    simp only [Act.put, List.getElem_toArray, List.getElem_cons_zero, List.getElem_cons_succ, List.setIfInBounds_toArray, List.set_cons_zero, List.set_cons_succ]
    refine wpAnyH_take (i := 6) (v := undef) rfl (by kernel_rfl) (by kernel_rfl) (by kernel_rfl) (fun _ _ _ h => h) (Or.inr ⟨by rfl, rfl⟩) (by assumption) ?_
    simp only [Act.put, List.getElem_toArray, List.getElem_cons_zero, List.getElem_cons_succ, List.setIfInBounds_toArray, List.set_cons_zero, List.set_cons_succ]
    refine wpAnyH_take (i := 7) (v := undef) rfl (by kernel_rfl) (by kernel_rfl) (by kernel_rfl) (fun _ _ _ h => h) (Or.inr ⟨by rfl, rfl⟩) (by assumption) ?_
    simp only [Act.put, List.getElem_toArray, List.getElem_cons_zero, List.getElem_cons_succ, List.setIfInBounds_toArray, List.set_cons_zero, List.set_cons_succ]
    refine wpAnyH_take (i := 8) (v := undef) rfl (by kernel_rfl) (by kernel_rfl) (by kernel_rfl) (fun _ _ _ h => h) (Or.inr ⟨by rfl, rfl⟩) (by assumption) ?_
    simp only [Act.put, List.getElem_toArray, List.getElem_cons_zero, List.getElem_cons_succ, List.setIfInBounds_toArray, List.set_cons_zero, List.set_cons_succ]
    refine wpAnyH_take (i := 9) (v := undef) rfl (by kernel_rfl) (by kernel_rfl) (by kernel_rfl) (fun _ _ _ h => h) (Or.inr ⟨by rfl, rfl⟩) (by assumption) ?_
    simp only [Act.put, List.getElem_toArray, List.getElem_cons_zero, List.getElem_cons_succ, List.setIfInBounds_toArray, List.set_cons_zero, List.set_cons_succ]
    refine wpAnyH_take (i := 10) (v := ?_) rfl (by kernel_rfl) (by kernel_rfl) (by kernel_rfl) (fun _ _ _ h => h) (Or.inl ⟨by rfl, ?_⟩) (by assumption) ?_
    rotate_left
    · (intro w hSw; clear hSw; go_simp; try (with_reducible rfl))
    simp only [Act.put, List.getElem_toArray, List.getElem_cons_zero, List.getElem_cons_succ, List.setIfInBounds_toArray, List.set_cons_zero, List.set_cons_succ]
    refine wpAnyH_take (i := 11) (v := ?_) rfl (by kernel_rfl) (by kernel_rfl) (by kernel_rfl) (fun _ _ _ h => h) (Or.inl ⟨by rfl, ?_⟩) (by assumption) ?_
    rotate_left
    · (intro w hSw; clear hSw; go_simp; try (with_reducible rfl))
    simp only [Act.put, List.getElem_toArray, List.getElem_cons_zero, List.getElem_cons_succ, List.setIfInBounds_toArray, List.set_cons_zero, List.set_cons_succ]
    refine wpAnyH_take (i := 12) (v := undef) rfl (by kernel_rfl) (by kernel_rfl) (by kernel_rfl) (fun _ _ _ h => h) (Or.inr ⟨by rfl, rfl⟩) (by assumption) ?_
    simp only [Act.put, List.getElem_toArray, List.getElem_cons_zero, List.getElem_cons_succ, List.setIfInBounds_toArray, List.set_cons_zero, List.set_cons_succ]
    refine wpAnyH_take (i := 13) (v := undef) rfl (by kernel_rfl) (by kernel_rfl) (by kernel_rfl) (fun _ _ _ h => h) (Or.inr ⟨by rfl, rfl⟩) (by assumption) ?_
    simp only [Act.put, List.getElem_toArray, List.getElem_cons_zero, List.getElem_cons_succ, List.setIfInBounds_toArray, List.set_cons_zero, List.set_cons_succ]
    refine wpAnyH_take (i := 14) (v := undef) rfl (by kernel_rfl) (by kernel_rfl) (by kernel_rfl) (fun _ _ _ h => h) (Or.inr ⟨by rfl, rfl⟩) (by assumption) ?_
    simp only [Act.put, List.getElem_toArray, List.getElem_cons_zero, List.getElem_cons_succ, List.setIfInBounds_toArray, List.set_cons_zero, List.set_cons_succ]
    refine wpAnyH_take (i := 15) (v := undef) rfl (by kernel_rfl) (by kernel_rfl) (by kernel_rfl) (fun _ _ _ h => h) (Or.inr ⟨by rfl, rfl⟩) (by assumption) ?_
    simp only [Act.put, List.getElem_toArray, List.getElem_cons_zero, List.getElem_cons_succ, List.setIfInBounds_toArray, List.set_cons_zero, List.set_cons_succ]
    refine wpAnyH_take (i := 16) (v := ?_) rfl (by kernel_rfl) (by kernel_rfl) (by kernel_rfl) (fun _ _ _ h => h) (Or.inl ⟨by rfl, ?_⟩) (by assumption) ?_
    rotate_left
    · (intro w hSw; clear hSw; go_simp; try (with_reducible rfl))
    simp only [Act.put, List.getElem_toArray, List.getElem_cons_zero, List.getElem_cons_succ, List.setIfInBounds_toArray, List.set_cons_zero, List.set_cons_succ]
    refine wpAnyH_take (i := 17) (v := ?_) rfl (by kernel_rfl) (by kernel_rfl) (by kernel_rfl) (fun _ _ _ h => h) (Or.inl ⟨by rfl, ?_⟩) (by assumption) ?_
    rotate_left
    · (intro w hSw; clear hSw; go_simp; try (with_reducible rfl))
    simp only [Act.put, List.getElem_toArray, List.getElem_cons_zero, List.getElem_cons_succ, List.setIfInBounds_toArray, List.set_cons_zero, List.set_cons_succ]
    refine wpAnyH_take (i := 18) (v := undef) rfl (by kernel_rfl) (by kernel_rfl) (by kernel_rfl) (fun _ _ _ h => h) (Or.inr ⟨by rfl, rfl⟩) (by assumption) ?_
    simp only [Act.put, List.getElem_toArray, List.getElem_cons_zero, List.getElem_cons_succ, List.setIfInBounds_toArray, List.set_cons_zero, List.set_cons_succ]
    refine wpAnyH_take (i := 19) (v := undef) rfl (by kernel_rfl) (by kernel_rfl) (by kernel_rfl) (fun _ _ _ h => h) (Or.inr ⟨by rfl, rfl⟩) (by assumption) ?_
    simp only [Act.put, List.getElem_toArray, List.getElem_cons_zero, List.getElem_cons_succ, List.setIfInBounds_toArray, List.set_cons_zero, List.set_cons_succ]
    refine wpAnyH_take (i := 20) (v := undef) rfl (by kernel_rfl) (by kernel_rfl) (by kernel_rfl) (fun _ _ _ h => h) (Or.inr ⟨by rfl, rfl⟩) (by assumption) ?_
    simp only [Act.put, List.getElem_toArray, List.getElem_cons_zero, List.getElem_cons_succ, List.setIfInBounds_toArray, List.set_cons_zero, List.set_cons_succ]
    refine wpAnyH_take (i := 21) (v := undef) rfl (by kernel_rfl) (by kernel_rfl) (by kernel_rfl) (fun _ _ _ h => h) (Or.inr ⟨by rfl, rfl⟩) (by assumption) ?_
    simp only [Act.put, List.getElem_toArray, List.getElem_cons_zero, List.getElem_cons_succ, List.setIfInBounds_toArray, List.set_cons_zero, List.set_cons_succ]
    refine wpAnyH_take (i := 22) (v := undef) rfl (by kernel_rfl) (by kernel_rfl) (by kernel_rfl) (fun _ _ _ h => h) (Or.inr ⟨by rfl, rfl⟩) (by assumption) ?_
    simp only [Act.put, List.getElem_toArray, List.getElem_cons_zero, List.getElem_cons_succ, List.setIfInBounds_toArray, List.set_cons_zero, List.set_cons_succ]
    refine wpAnyH_take (i := 23) (v := undef) rfl (by kernel_rfl) (by kernel_rfl) (by kernel_rfl) (fun _ _ _ h => h) (Or.inr ⟨by rfl, rfl⟩) (by assumption) ?_
    simp only [Act.put, List.getElem_toArray, List.getElem_cons_zero, List.getElem_cons_succ, List.setIfInBounds_toArray, List.set_cons_zero, List.set_cons_succ]
    refine wpAnyH_take (i := 24) (v := undef) rfl (by kernel_rfl) (by kernel_rfl) (by kernel_rfl) (fun _ _ _ h => h) (Or.inr ⟨by rfl, rfl⟩) (by assumption) ?_
    simp only [Act.put, List.getElem_toArray, List.getElem_cons_zero, List.getElem_cons_succ, List.setIfInBounds_toArray, List.set_cons_zero, List.set_cons_succ]
    refine wpAnyH_take (i := 25) (v := undef) rfl (by kernel_rfl) (by kernel_rfl) (by kernel_rfl) (fun _ _ _ h => h) (Or.inr ⟨by rfl, rfl⟩) (by assumption) ?_
    simp only [Act.put, List.getElem_toArray, List.getElem_cons_zero, List.getElem_cons_succ, List.setIfInBounds_toArray, List.set_cons_zero, List.set_cons_succ]
    refine wpAnyH_take (i := 26) (v := ?_) rfl (by kernel_rfl) (by kernel_rfl) (by kernel_rfl) (fun _ _ _ h => h) (Or.inl ⟨by rfl, ?_⟩) (by assumption) ?_
    rotate_left
    · (intro w hSw; clear hSw; go_simp; try (with_reducible rfl))
    simp only [Act.put, List.getElem_toArray, List.getElem_cons_zero, List.getElem_cons_succ, List.setIfInBounds_toArray, List.set_cons_zero, List.set_cons_succ]
    refine wpAnyH_take (i := 27) (v := ?_) rfl (by kernel_rfl) (by kernel_rfl) (by kernel_rfl) (fun _ _ _ h => h) (Or.inl ⟨by rfl, ?_⟩) (by assumption) ?_
    rotate_left
    · (intro w hSw; clear hSw; go_simp; try (with_reducible rfl))
    simp only [Act.put, List.getElem_toArray, List.getElem_cons_zero, List.getElem_cons_succ, List.setIfInBounds_toArray, List.set_cons_zero, List.set_cons_succ]
    refine wpAnyH_done (by kernel_rfl) ?_ _
    have p1 := (hHeld.cell (p := ⟨w5.heap.size, 1, none⟩) l2).trans r1
    have s1 := (hHeld.cell (p := ⟨w5.heap.size, 2, none⟩) l2).trans r2
    have p3 := (hHeld.cell (p := ⟨w6.heap.size, 1, none⟩) l1).trans t1
    have s3 := (hHeld.cell (p := ⟨w6.heap.size, 2, none⟩) l1).trans t2
    clear r1 r2 r3 r4 t1 t2 t3 t4
    go_wp2_with (go_at_call 29; refine (sameInts_any _ _ [q0, q1] [x0, x1] _ (by exact HI2.out.below hHeld (Nat.le_refl _)) (by exact HI1.out.below hHeld (Nat.le_refl _))).mono ?_; rw [HD3.out]; rintro e w9 ⟨rfl, nd, rfl⟩)
    go_ret
    first
    | exact ⟨rfl, below_drewN (hbD.trans ((hbw.trans (hHeld.mono hbw.size)).mono hbD.size)) nd⟩
    | exact ⟨rfl, below_drewN (hbD.trans (hbw.mono hbD.size)) _⟩
  have HG5 := Lib.hid (show live y b1 = false ∨ b1 = id ∨ (okP b1 = true ∧ dist o id < dist b1 id) by rcases HG5.out with h | h; exact absurd h hb0; exact h)
  cases hl : live y b1
  · have HL := Lib.hid hl
    clear hl HG5
    refine wp_region_held_drew (S := fun w' => Below (W).heap.size W w') (by kernel_rfl) (Below.refl _ W).drew (fun hHeld => ?_)
    refine wpAnyH_take (i := 0) (v := ?_) rfl (by kernel_rfl) (by kernel_rfl) (by kernel_rfl) (fun _ _ _ h => h) (Or.inl ⟨by rfl, ?_⟩) (by assumption) ?_
    rotate_left
    · (intro w hSw; clear hSw; go_simp; try (with_reducible rfl))
    simp only [Act.put, List.getElem_toArray, List.getElem_cons_zero, List.setIfInBounds_toArray, List.set_cons_zero, List.set_cons_succ]
    refine wpAnyH_take (i := 1) (v := ?_) rfl (by kernel_rfl) (by kernel_rfl) (by kernel_rfl) (fun _ _ _ h => h) (Or.inl ⟨by rfl, ?_⟩) (by assumption) ?_
    rotate_left
    · (intro w hSw; have p1 := (hSw.cell (p := ⟨w5.heap.size, 1, none⟩) l2).trans r1; have s1 := (hSw.cell (p := ⟨w5.heap.size, 2, none⟩) l2).trans r2; have s2 := (hSw.cell (p := ⟨n1, o1, none⟩) l3).trans r3; have s2b := (hSw.cell (p := ⟨n1, o1 + 1, none⟩) l3).trans r4; have p3 := (hSw.cell (p := ⟨w6.heap.size, 1, none⟩) l1).trans t1; have s3 := (hSw.cell (p := ⟨w6.heap.size, 2, none⟩) l1).trans t2; have s4 := (hSw.cell (p := ⟨n2, o2, none⟩) l4).trans t3; have s5 := (hSw.cell (p := ⟨n2, o2 + 1, none⟩) l4).trans t4; go_simp; try (with_reducible rfl))
    simp only [Act.put, List.getElem_toArray, List.getElem_cons_zero, List.getElem_cons_succ, List.setIfInBounds_toArray, List.set_cons_zero, List.set_cons_succ]
    refine wpAnyH_take (i := 2) (v := ?_) rfl (by kernel_rfl) (by kernel_rfl) (by kernel_rfl) (fun _ _ _ h => h) (Or.inl ⟨by rfl, ?_⟩) (by assumption) ?_
    rotate_left
    · (intro w hSw; clear hSw; go_simp; try (with_reducible rfl))
    simp only [Act.put, List.getElem_toArray, List.getElem_cons_zero, List.getElem_cons_succ, List.setIfInBounds_toArray, List.set_cons_zero, List.set_cons_succ]
    refine wpAnyH_take (i := 3) (v := ?_) rfl (by kernel_rfl) (by kernel_rfl) (by kernel_rfl) (fun _ _ _ h => h) (Or.inl ⟨by rfl, ?_⟩) (by assumption) ?_
    rotate_left
    · (intro w hSw; clear hSw; go_simp; try (with_reducible rfl))
    simp only [Act.put, List.getElem_toArray, List.getElem_cons_zero, List.getElem_cons_succ, List.setIfInBounds_toArray, List.set_cons_zero, List.set_cons_succ]
    refine wpAnyH_take (i := 4) (v := ?_) rfl (by kernel_rfl) (by kernel_rfl) (by kernel_rfl) (fun _ _ _ h => h) (Or.inl ⟨by rfl, ?_⟩) (by assumption) ?_
    rotate_left
    · (intro w hSw; clear hSw; go_simp; try (with_reducible rfl))
    simp only [Act.put, List.getElem_toArray, List.getElem_cons_zero, List.getElem_cons_succ, List.setIfInBounds_toArray, List.set_cons_zero, List.set_cons_succ]
    refine wpAnyH_take (i := 5) (v := ?_) rfl (by kernel_rfl) (by kernel_rfl) (by kernel_rfl) (fun _ _ _ h => h) (Or.inl ⟨by rfl, ?_⟩) (by assumption) ?_
    rotate_left
    · (intro w hSw; clear hSw; go_simp; try (with_reducible rfl))
    simp only [Act.put, List.getElem_toArray, List.getElem_cons_zero, List.getElem_cons_succ, List.setIfInBounds_toArray, List.set_cons_zero, List.set_cons_succ]
    refine wpAnyH_take (i := 6) (v := ?_) rfl (by kernel_rfl) (by kernel_rfl) (by kernel_rfl) (fun _ _ _ h => h) (Or.inl ⟨by rfl, ?_⟩) (by assumption) ?_
    rotate_left
    · (intro w hSw; have p1 := (hSw.cell (p := ⟨w5.heap.size, 1, none⟩) l2).trans r1; have s1 := (hSw.cell (p := ⟨w5.heap.size, 2, none⟩) l2).trans r2; have s2 := (hSw.cell (p := ⟨n1, o1, none⟩) l3).trans r3; have s2b := (hSw.cell (p := ⟨n1, o1 + 1, none⟩) l3).trans r4; have p3 := (hSw.cell (p := ⟨w6.heap.size, 1, none⟩) l1).trans t1; have s3 := (hSw.cell (p := ⟨w6.heap.size, 2, none⟩) l1).trans t2; have s4 := (hSw.cell (p := ⟨n2, o2, none⟩) l4).trans t3; have s5 := (hSw.cell (p := ⟨n2, o2 + 1, none⟩) l4).trans t4; go_simp; try (with_reducible rfl))
    simp only [Act.put, List.getElem_toArray, List.getElem_cons_zero, List.getElem_cons_succ, List.setIfInBounds_toArray, List.set_cons_zero, List.set_cons_succ]
    refine wpAnyH_ready (rs := [7]) (by kernel_rfl) (by simp) ?_
    refine AllReadyH.cons rfl (fun K hK => ?_) AllReadyH.nil
    rw [if_pos (by rfl)]
    go_wp2_with (go_at_call 18; (with_reducible refine (nodeAtL_dead _ y b1 _ (by exact HC9.out.below hHeld (Nat.le_refl _)) HL.out).mono ?_); rintro e wq ⟨va, rfl, -, hbq⟩)
    refine hK.out _ _ (hHeld.trans (hbq.mono hHeld.size)) (fun hHeld => ?_)
    clear hK K hbq
    refine wpAnyH_take (i := 8) (v := ?_) rfl (by kernel_rfl) (by kernel_rfl) (by kernel_rfl) (fun _ _ _ h => h) (Or.inl ⟨by rfl, ?_⟩) (by assumption) ?_
    rotate_left
    · (intro w hSw; clear hSw; go_simp; try (with_reducible rfl))
    simp only [Act.put, List.getElem_toArray, List.getElem_cons_zero, List.getElem_cons_succ, List.setIfInBounds_toArray, List.set_cons_zero, List.set_cons_succ]
    refine wpAnyH_take (i := 9) (v := ?_) rfl (by kernel_rfl) (by kernel_rfl) (by kernel_rfl) (fun _ _ _ h => h) (Or.inl ⟨by rfl, ?_⟩) (by assumption) ?_
    rotate_left
    · (intro w hSw; clear hSw; go_simp; try (with_reducible rfl))
    simp only [Act.put, List.getElem_toArray, List.getElem_cons_zero, List.getElem_cons_succ, List.setIfInBounds_toArray, List.set_cons_zero, List.set_cons_succ]
    refine wpAnyH_take (i := 10) (v := ?_) rfl (by kernel_rfl) (by kernel_rfl) (by kernel_rfl) (fun _ _ _ h => h) (Or.inl ⟨by rfl, ?_⟩) (by assumption) ?_
    rotate_left
    · (intro w hSw; clear hSw; go_simp; try (with_reducible rfl))
    simp only [Act.put, List.getElem_toArray, List.getElem_cons_zero, List.getElem_cons_succ, List.setIfInBounds_toArray, List.set_cons_zero, List.set_cons_succ]
    refine wpAnyH_take (i := 11) (v := ?_) rfl (by kernel_rfl) (by kernel_rfl) (by kernel_rfl) (fun _ _ _ h => h) (Or.inl ⟨by rfl, ?_⟩) (by assumption) ?_
    rotate_left
    · (intro w hSw; clear hSw; go_simp; try (with_reducible rfl))
    simp only [Act.put, List.getElem_toArray, List.getElem_cons_zero, List.getElem_cons_succ, List.setIfInBounds_toArray, List.set_cons_zero, List.set_cons_succ]
    refine wpAnyH_take (i := 12) (v := undef) rfl (by kernel_rfl) (by kernel_rfl) (by kernel_rfl) (fun _ _ _ h => h) (Or.inr ⟨by rfl, rfl⟩) (by assumption) ?_
    simp only [Act.put, List.getElem_toArray, List.getElem_cons_zero, List.getElem_cons_succ, List.setIfInBounds_toArray, List.set_cons_zero, List.set_cons_succ]
    refine wpAnyH_take (i := 13) (v := undef) rfl (by kernel_rfl) (by kernel_rfl) (by kernel_rfl) (fun _ _ _ h => h) (Or.inr ⟨by rfl, rfl⟩) (by assumption) ?_
    simp only [Act.put, List.getElem_toArray, List.getElem_cons_zero, List.getElem_cons_succ, List.setIfInBounds_toArray, List.set_cons_zero, List.set_cons_succ]
    refine wpAnyH_take (i := 14) (v := undef) rfl (by kernel_rfl) (by kernel_rfl) (by kernel_rfl) (fun _ _ _ h => h) (Or.inr ⟨by rfl, rfl⟩) (by assumption) ?_
    simp only [Act.put, List.getElem_toArray, List.getElem_cons_zero, List.getElem_cons_succ, List.setIfInBounds_toArray, List.set_cons_zero, List.set_cons_succ]
    refine wpAnyH_take (i := 15) (v := undef) rfl (by kernel_rfl) (by kernel_rfl) (by kernel_rfl) (fun _ _ _ h => h) (Or.inr ⟨by rfl, rfl⟩) (by assumption) ?_
    simp only [Act.put, List.getElem_toArray, List.getElem_cons_zero, List.getElem_cons_succ, List.setIfInBounds_toArray, List.set_cons_zero, List.set_cons_succ]
    refine wpAnyH_take (i := 16) (v := ?_) rfl (by kernel_rfl) (by kernel_rfl) (by kernel_rfl) (fun _ _ _ h => h) (Or.inl ⟨by rfl, ?_⟩) (by assumption) ?_
    rotate_left
    · (intro w hSw; clear hSw; go_simp; try (with_reducible rfl))
    simp only [Act.put, List.getElem_toArray, List.getElem_cons_zero, List.getElem_cons_succ, List.setIfInBounds_toArray, List.set_cons_zero, List.set_cons_succ]
    refine wpAnyH_take (i := 17) (v := ?_) rfl (by kernel_rfl) (by kernel_rfl) (by kernel_rfl) (fun _ _ _ h => h) (Or.inl ⟨by rfl, ?_⟩) (by assumption) ?_
    rotate_left
    · (intro w hSw; clear hSw; go_simp; try (with_reducible rfl))
    simp only [Act.put, List.getElem_toArray, List.getElem_cons_zero, List.getElem_cons_succ, List.setIfInBounds_toArray, List.set_cons_zero, List.set_cons_succ]
    refine wpAnyH_take (i := 18) (v := undef) rfl (by kernel_rfl) (by kernel_rfl) (by kernel_rfl) (fun _ _ _ h => h) (Or.inr ⟨by rfl, rfl⟩) (by assumption) ?_
    simp only [Act.put, List.getElem_toArray, List.getElem_cons_zero, List.getElem_cons_succ, List.setIfInBounds_toArray, List.set_cons_zero, List.set_cons_succ]
    refine wpAnyH_take (i := 19) (v := undef) rfl (by kernel_rfl) (by kernel_rfl) (by kernel_rfl) (fun _ _ _ h => h) (Or.inr ⟨by rfl, rfl⟩) (by assumption) ?_
    simp only [Act.put, List.getElem_toArray, List.getElem_cons_zero, List.getElem_cons_succ, List.setIfInBounds_toArray, List.set_cons_zero, List.set_cons_succ]
    refine wpAnyH_take (i := 20) (v := undef) rfl (by kernel_rfl) (by kernel_rfl) (by kernel_rfl) (fun _ _ _ h => h) (Or.inr ⟨by rfl, rfl⟩) (by assumption) ?_
    simp only [Act.put, List.getElem_toArray, List.getElem_cons_zero, List.getElem_cons_succ, List.setIfInBounds_toArray, List.set_cons_zero, List.set_cons_succ]
    refine wpAnyH_take (i := 21) (v := undef) rfl (by kernel_rfl) (by kernel_rfl) (by kernel_rfl) (fun _ _ _ h => h) (Or.inr ⟨by rfl, rfl⟩) (by assumption) ?_
    simp only [Act.put, List.getElem_toArray, List.getElem_cons_zero, List.getElem_cons_succ, List.setIfInBounds_toArray, List.set_cons_zero, List.set_cons_succ]
    refine wpAnyH_take (i := 22) (v := undef) rfl (by kernel_rfl) (by kernel_rfl) (by kernel_rfl) (fun _ _ _ h => h) (Or.inr ⟨by rfl, rfl⟩) (by assumption) ?_
    simp only [Act.put, List.getElem_toArray, List.getElem_cons_zero, List.getElem_cons_succ, List.setIfInBounds_toArray, List.set_cons_zero, List.set_cons_succ]
    refine wpAnyH_take (i := 23) (v := undef) rfl (by kernel_rfl) (by kernel_rfl) (by kernel_rfl) (fun _ _ _ h => h) (Or.inr ⟨by rfl, rfl⟩) (by assumption) ?_
    simp only [Act.put, List.getElem_toArray, List.getElem_cons_zero, List.getElem_cons_succ, List.setIfInBounds_toArray, List.set_cons_zero, List.set_cons_succ]
    refine wpAnyH_take (i := 24) (v := undef) rfl (by kernel_rfl) (by kernel_rfl) (by kernel_rfl) (fun _ _ _ h => h) (Or.inr ⟨by rfl, rfl⟩) (by assumption) ?_
    simp only [Act.put, List.getElem_toArray, List.getElem_cons_zero, List.getElem_cons_succ, List.setIfInBounds_toArray, List.set_cons_zero, List.set_cons_succ]
    refine wpAnyH_take (i := 25) (v := undef) rfl (by kernel_rfl) (by kernel_rfl) (by kernel_rfl) (fun _ _ _ h => h) (Or.inr ⟨by rfl, rfl⟩) (by assumption) ?_
    simp only [Act.put, List.getElem_toArray, List.getElem_cons_zero, List.getElem_cons_succ, List.setIfInBounds_toArray, List.set_cons_zero, List.set_cons_succ]
    refine wpAnyH_take (i := 26) (v := ?_) rfl (by kernel_rfl) (by kernel_rfl) (by kernel_rfl) (fun _ _ _ h => h) (Or.inl ⟨by rfl, ?_⟩) (by assumption) ?_
    rotate_left
    · (intro w hSw; clear hSw; go_simp; try (with_reducible rfl))
    simp only [Act.put, List.getElem_toArray, List.getElem_cons_zero, List.getElem_cons_succ, List.setIfInBounds_toArray, List.set_cons_zero, List.set_cons_succ]
    refine wpAnyH_take (i := 27) (v := ?_) rfl (by kernel_rfl) (by kernel_rfl) (by kernel_rfl) (fun _ _ _ h => h) (Or.inl ⟨by rfl, ?_⟩) (by assumption) ?_
    rotate_left
    · (intro w hSw; clear hSw; go_simp; try (with_reducible rfl))
    simp only [Act.put, List.getElem_toArray, List.getElem_cons_zero, List.getElem_cons_succ, List.setIfInBounds_toArray, List.set_cons_zero, List.set_cons_succ]
    refine wpAnyH_done (by kernel_rfl) ?_ _
    have p1 := (hHeld.cell (p := ⟨w5.heap.size, 1, none⟩) l2).trans r1
    have s1 := (hHeld.cell (p := ⟨w5.heap.size, 2, none⟩) l2).trans r2
    have p3 := (hHeld.cell (p := ⟨w6.heap.size, 1, none⟩) l1).trans t1
    have s3 := (hHeld.cell (p := ⟨w6.heap.size, 2, none⟩) l1).trans t2
    clear r1 r2 r3 r4 t1 t2 t3 t4
    go_wp2_with (go_at_call 29; refine (sameInts_any _ _ [q0, q1] [x0, x1] _ (by exact HI2.out.below hHeld (Nat.le_refl _)) (by exact HI1.out.below hHeld (Nat.le_refl _))).mono ?_; rw [HD3.out]; rintro e w9 ⟨rfl, nd, rfl⟩)
    go_ret
    first
    | exact ⟨rfl, below_drewN (hbD.trans ((hbw.trans (hHeld.mono hbw.size)).mono hbD.size)) nd⟩
    | exact ⟨rfl, below_drewN (hbD.trans (hbw.mono hbD.size)) _⟩
  have HL := Lib.hid hl
  have HG5 := Lib.hid (show b1 = id ∨ (okP b1 = true ∧ dist o id < dist b1 id) by rcases HG5.out with h | h; exact absurd (hl.symm.trans h) (by decide); exact h)
  clear hl
  have hb0 : 0 ≤ b1 := Int.not_lt.1 hb0
  obtain hbi | hbi : (b1 == id) = true ∨ (b1 == id) = false := by cases (b1 == id) <;> simp
  · clear HG5
    refine wp_region_held_drew (S := fun w' => Below (W).heap.size W w') (by kernel_rfl) (Below.refl _ W).drew (fun hHeld => ?_)
    refine wpAnyH_take (i := 0) (v := ?_) rfl (by kernel_rfl) (by kernel_rfl) (by kernel_rfl) (fun _ _ _ h => h) (Or.inl ⟨by rfl, ?_⟩) (by assumption) ?_
    rotate_left
    · (intro w hSw; clear hSw; have hbz : ¬ b1 < 0 := Int.not_lt.2 hb0; go_simp; try (with_reducible rfl))
    simp only [Act.put, List.getElem_toArray, List.getElem_cons_zero, List.setIfInBounds_toArray, List.set_cons_zero, List.set_cons_succ]
    refine wpAnyH_take (i := 1) (v := ?_) rfl (by kernel_rfl) (by kernel_rfl) (by kernel_rfl) (fun _ _ _ h => h) (Or.inl ⟨by rfl, ?_⟩) (by assumption) ?_
    rotate_left
    · (intro w hSw; have p1 := (hSw.cell (p := ⟨w5.heap.size, 1, none⟩) l2).trans r1; have s1 := (hSw.cell (p := ⟨w5.heap.size, 2, none⟩) l2).trans r2; have s2 := (hSw.cell (p := ⟨n1, o1, none⟩) l3).trans r3; have s2b := (hSw.cell (p := ⟨n1, o1 + 1, none⟩) l3).trans r4; have p3 := (hSw.cell (p := ⟨w6.heap.size, 1, none⟩) l1).trans t1; have s3 := (hSw.cell (p := ⟨w6.heap.size, 2, none⟩) l1).trans t2; have s4 := (hSw.cell (p := ⟨n2, o2, none⟩) l4).trans t3; have s5 := (hSw.cell (p := ⟨n2, o2 + 1, none⟩) l4).trans t4; have hbz : ¬ b1 < 0 := Int.not_lt.2 hb0; go_simp; try (with_reducible rfl))
    simp only [Act.put, List.getElem_toArray, List.getElem_cons_zero, List.getElem_cons_succ, List.setIfInBounds_toArray, List.set_cons_zero, List.set_cons_succ]
    refine wpAnyH_take (i := 2) (v := ?_) rfl (by kernel_rfl) (by kernel_rfl) (by kernel_rfl) (fun _ _ _ h => h) (Or.inl ⟨by rfl, ?_⟩) (by assumption) ?_
    rotate_left
    · (intro w hSw; clear hSw; have hbz : ¬ b1 < 0 := Int.not_lt.2 hb0; go_simp; try (with_reducible rfl))
    simp only [Act.put, List.getElem_toArray, List.getElem_cons_zero, List.getElem_cons_succ, List.setIfInBounds_toArray, List.set_cons_zero, List.set_cons_succ]
    refine wpAnyH_take (i := 3) (v := ?_) rfl (by kernel_rfl) (by kernel_rfl) (by kernel_rfl) (fun _ _ _ h => h) (Or.inl ⟨by rfl, ?_⟩) (by assumption) ?_
    rotate_left
    · (intro w hSw; clear hSw; have hbz : ¬ b1 < 0 := Int.not_lt.2 hb0; go_simp; try (with_reducible rfl))
    simp only [Act.put, List.getElem_toArray, List.getElem_cons_zero, List.getElem_cons_succ, List.setIfInBounds_toArray, List.set_cons_zero, List.set_cons_succ]
    refine wpAnyH_take (i := 4) (v := ?_) rfl (by kernel_rfl) (by kernel_rfl) (by kernel_rfl) (fun _ _ _ h => h) (Or.inl ⟨by rfl, ?_⟩) (by assumption) ?_
    rotate_left
    · (intro w hSw; clear hSw; have hbz : ¬ b1 < 0 := Int.not_lt.2 hb0; go_simp; try (with_reducible rfl))
    simp only [Act.put, List.getElem_toArray, List.getElem_cons_zero, List.getElem_cons_succ, List.setIfInBounds_toArray, List.set_cons_zero, List.set_cons_succ]
    refine wpAnyH_take (i := 5) (v := ?_) rfl (by kernel_rfl) (by kernel_rfl) (by kernel_rfl) (fun _ _ _ h => h) (Or.inl ⟨by rfl, ?_⟩) (by assumption) ?_
    rotate_left
    · (intro w hSw; clear hSw; have hbz : ¬ b1 < 0 := Int.not_lt.2 hb0; go_simp; try (with_reducible rfl))
    simp only [Act.put, List.getElem_toArray, List.getElem_cons_zero, List.getElem_cons_succ, List.setIfInBounds_toArray, List.set_cons_zero, List.set_cons_succ]
    refine wpAnyH_take (i := 6) (v := ?_) rfl (by kernel_rfl) (by kernel_rfl) (by kernel_rfl) (fun _ _ _ h => h) (Or.inl ⟨by rfl, ?_⟩) (by assumption) ?_
    rotate_left
    · (intro w hSw; have p1 := (hSw.cell (p := ⟨w5.heap.size, 1, none⟩) l2).trans r1; have s1 := (hSw.cell (p := ⟨w5.heap.size, 2, none⟩) l2).trans r2; have s2 := (hSw.cell (p := ⟨n1, o1, none⟩) l3).trans r3; have s2b := (hSw.cell (p := ⟨n1, o1 + 1, none⟩) l3).trans r4; have p3 := (hSw.cell (p := ⟨w6.heap.size, 1, none⟩) l1).trans t1; have s3 := (hSw.cell (p := ⟨w6.heap.size, 2, none⟩) l1).trans t2; have s4 := (hSw.cell (p := ⟨n2, o2, none⟩) l4).trans t3; have s5 := (hSw.cell (p := ⟨n2, o2 + 1, none⟩) l4).trans t4; have hbz : ¬ b1 < 0 := Int.not_lt.2 hb0; go_simp; try (with_reducible rfl))
    simp only [Act.put, List.getElem_toArray, List.getElem_cons_zero, List.getElem_cons_succ, List.setIfInBounds_toArray, List.set_cons_zero, List.set_cons_succ]
    refine wpAnyH_ready (rs := [7]) (by kernel_rfl) (by simp) ?_
    refine AllReadyH.cons rfl (fun K hK => ?_) AllReadyH.nil
    rw [if_pos (by rfl)]
    go_wp2_with (go_at_call 18; (with_reducible refine (nodeAtL_live _ y b1 _ (by exact HC9.out.below hHeld (Nat.le_refl _)) HL.out).mono ?_); rintro e wq ⟨va, rfl, -, hbq⟩)
    refine hK.out _ _ (hHeld.trans (hbq.mono hHeld.size)) (fun hHeld => ?_)
    clear hK K hbq
    refine wpAnyH_take (i := 8) (v := ?_) rfl (by kernel_rfl) (by kernel_rfl) (by kernel_rfl) (fun _ _ _ h => h) (Or.inl ⟨by rfl, ?_⟩) (by assumption) ?_
    rotate_left
    · (intro w hSw; clear hSw; have hbz : ¬ b1 < 0 := Int.not_lt.2 hb0; go_simp; try (with_reducible rfl))
    simp only [Act.put, List.getElem_toArray, List.getElem_cons_zero, List.getElem_cons_succ, List.setIfInBounds_toArray, List.set_cons_zero, List.set_cons_succ]
    refine wpAnyH_take (i := 9) (v := ?_) rfl (by kernel_rfl) (by kernel_rfl) (by kernel_rfl) (fun _ _ _ h => h) (Or.inl ⟨by rfl, ?_⟩) (by assumption) ?_
    rotate_left
    · (intro w hSw; clear hSw; have hbz : ¬ b1 < 0 := Int.not_lt.2 hb0; go_simp; try (with_reducible rfl))
    simp only [Act.put, List.getElem_toArray, List.getElem_cons_zero, List.getElem_cons_succ, List.setIfInBounds_toArray, List.set_cons_zero, List.set_cons_succ]
    refine wpAnyH_take (i := 10) (v := ?_) rfl (by kernel_rfl) (by kernel_rfl) (by kernel_rfl) (fun _ _ _ h => h) (Or.inl ⟨by rfl, ?_⟩) (by assumption) ?_
    rotate_left
    · (intro w hSw; clear hSw; have hbz : ¬ b1 < 0 := Int.not_lt.2 hb0; go_simp; try (with_reducible rfl))
    simp only [Act.put, List.getElem_toArray, List.getElem_cons_zero, List.getElem_cons_succ, List.setIfInBounds_toArray, List.set_cons_zero, List.set_cons_succ]
    refine wpAnyH_take (i := 11) (v := ?_) rfl (by kernel_rfl) (by kernel_rfl) (by kernel_rfl) (fun _ _ _ h => h) (Or.inl ⟨by rfl, ?_⟩) (by assumption) ?_
    rotate_left
    · (intro w hSw; clear hSw; have hbz : ¬ b1 < 0 := Int.not_lt.2 hb0; go_simp; try (with_reducible rfl))
    simp only [Act.put, List.getElem_toArray, List.getElem_cons_zero, List.getElem_cons_succ, List.setIfInBounds_toArray, List.set_cons_zero, List.set_cons_succ]
    refine wpAnyH_take (i := 12) (v := ?_) rfl (by kernel_rfl) (by kernel_rfl) (by kernel_rfl) (fun _ _ _ h => h) (Or.inl ⟨by rfl, ?_⟩) (by assumption) ?_
    rotate_left
    · (intro w hSw; clear hSw; have hbz : ¬ b1 < 0 := Int.not_lt.2 hb0; go_simp; try (with_reducible rfl))
    simp only [Act.put, List.getElem_toArray, List.getElem_cons_zero, List.getElem_cons_succ, List.setIfInBounds_toArray, List.set_cons_zero, List.set_cons_succ]
    refine wpAnyH_take (i := 13) (v := ?_) rfl (by kernel_rfl) (by kernel_rfl) (by kernel_rfl) (fun _ _ _ h => h) (Or.inl ⟨by rfl, ?_⟩) (by assumption) ?_
    rotate_left
    · (intro w hSw; have p1 := (hSw.cell (p := ⟨w5.heap.size, 1, none⟩) l2).trans r1; have s1 := (hSw.cell (p := ⟨w5.heap.size, 2, none⟩) l2).trans r2; have s2 := (hSw.cell (p := ⟨n1, o1, none⟩) l3).trans r3; have s2b := (hSw.cell (p := ⟨n1, o1 + 1, none⟩) l3).trans r4; have p3 := (hSw.cell (p := ⟨w6.heap.size, 1, none⟩) l1).trans t1; have s3 := (hSw.cell (p := ⟨w6.heap.size, 2, none⟩) l1).trans t2; have s4 := (hSw.cell (p := ⟨n2, o2, none⟩) l4).trans t3; have s5 := (hSw.cell (p := ⟨n2, o2 + 1, none⟩) l4).trans t4; have hbz : ¬ b1 < 0 := Int.not_lt.2 hb0; go_simp; try (with_reducible rfl))
    simp only [Act.put, List.getElem_toArray, List.getElem_cons_zero, List.getElem_cons_succ, List.setIfInBounds_toArray, List.set_cons_zero, List.set_cons_succ]
    refine wpAnyH_take (i := 14) (v := ?_) rfl (by kernel_rfl) (by kernel_rfl) (by kernel_rfl) (fun _ _ _ h => h) (Or.inl ⟨by rfl, ?_⟩) (by assumption) ?_
    rotate_left
    · (intro w hSw; clear hSw; have hbz : ¬ b1 < 0 := Int.not_lt.2 hb0; go_simp; try (with_reducible rfl))
    simp only [Act.put, List.getElem_toArray, List.getElem_cons_zero, List.getElem_cons_succ, List.setIfInBounds_toArray, List.set_cons_zero, List.set_cons_succ]
    refine wpAnyH_take (i := 15) (v := ?_) rfl (by kernel_rfl) (by kernel_rfl) (by kernel_rfl) (fun _ _ _ h => h) (Or.inl ⟨by rfl, ?_⟩) (by assumption) ?_
    rotate_left
    · (intro w hSw; clear hSw; have hbz : ¬ b1 < 0 := Int.not_lt.2 hb0; go_simp; try (with_reducible rfl))
    simp only [Act.put, List.getElem_toArray, List.getElem_cons_zero, List.getElem_cons_succ, List.setIfInBounds_toArray, List.set_cons_zero, List.set_cons_succ]
    refine wpAnyH_take (i := 16) (v := ?_) rfl (by kernel_rfl) (by kernel_rfl) (by kernel_rfl) (fun _ _ _ h => h) (Or.inl ⟨by rfl, ?_⟩) (by assumption) ?_
    rotate_left
    · (intro w hSw; clear hSw; have hbz : ¬ b1 < 0 := Int.not_lt.2 hb0; go_simp; try (with_reducible rfl))
    simp only [Act.put, List.getElem_toArray, List.getElem_cons_zero, List.getElem_cons_succ, List.setIfInBounds_toArray, List.set_cons_zero, List.set_cons_succ]
    refine wpAnyH_take (i := 17) (v := ?_) rfl (by kernel_rfl) (by kernel_rfl) (by kernel_rfl) (fun _ _ _ h => h) (Or.inl ⟨by rfl, ?_⟩) (by assumption) ?_
    rotate_left
    · (intro w hSw; clear hSw; have hbz : ¬ b1 < 0 := Int.not_lt.2 hb0; go_simp; try (with_reducible rfl))
    simp only [Act.put, List.getElem_toArray, List.getElem_cons_zero, List.getElem_cons_succ, List.setIfInBounds_toArray, List.set_cons_zero, List.set_cons_succ]
    refine wpAnyH_take (i := 18) (v := undef) rfl (by kernel_rfl) (by kernel_rfl) (by kernel_rfl) (fun _ _ _ h => h) (Or.inr ⟨by rfl, rfl⟩) (by assumption) ?_
    simp only [Act.put, List.getElem_toArray, List.getElem_cons_zero, List.getElem_cons_succ, List.setIfInBounds_toArray, List.set_cons_zero, List.set_cons_succ]
    refine wpAnyH_take (i := 19) (v := undef) rfl (by kernel_rfl) (by kernel_rfl) (by kernel_rfl) (fun _ _ _ h => h) (Or.inr ⟨by rfl, rfl⟩) (by assumption) ?_
    simp only [Act.put, List.getElem_toArray, List.getElem_cons_zero, List.getElem_cons_succ, List.setIfInBounds_toArray, List.set_cons_zero, List.set_cons_succ]
    refine wpAnyH_take (i := 20) (v := undef) rfl (by kernel_rfl) (by kernel_rfl) (by kernel_rfl) (fun _ _ _ h => h) (Or.inr ⟨by rfl, rfl⟩) (by assumption) ?_
    simp only [Act.put, List.getElem_toArray, List.getElem_cons_zero, List.getElem_cons_succ, List.setIfInBounds_toArray, List.set_cons_zero, List.set_cons_succ]
    refine wpAnyH_take (i := 21) (v := undef) rfl (by kernel_rfl) (by kernel_rfl) (by kernel_rfl) (fun _ _ _ h => h) (Or.inr ⟨by rfl, rfl⟩) (by assumption) ?_
    simp only [Act.put, List.getElem_toArray, List.getElem_cons_zero, List.getElem_cons_succ, List.setIfInBounds_toArray, List.set_cons_zero, List.set_cons_succ]
    refine wpAnyH_take (i := 22) (v := undef) rfl (by kernel_rfl) (by kernel_rfl) (by kernel_rfl) (fun _ _ _ h => h) (Or.inr ⟨by rfl, rfl⟩) (by assumption) ?_
    simp only [Act.put, List.getElem_toArray, List.getElem_cons_zero, List.getElem_cons_succ, List.setIfInBounds_toArray, List.set_cons_zero, List.set_cons_succ]
    refine wpAnyH_take (i := 23) (v := undef) rfl (by kernel_rfl) (by kernel_rfl) (by kernel_rfl) (fun _ _ _ h => h) (Or.inr ⟨by rfl, rfl⟩) (by assumption) ?_
    simp only [Act.put, List.getElem_toArray, List.getElem_cons_zero, List.getElem_cons_succ, List.setIfInBounds_toArray, List.set_cons_zero, List.set_cons_succ]
    refine wpAnyH_take (i := 24) (v := undef) rfl (by kernel_rfl) (by kernel_rfl) (by kernel_rfl) (fun _ _ _ h => h) (Or.inr ⟨by rfl, rfl⟩) (by assumption) ?_
    simp only [Act.put, List.getElem_toArray, List.getElem_cons_zero, List.getElem_cons_succ, List.setIfInBounds_toArray, List.set_cons_zero, List.set_cons_succ]
    refine wpAnyH_take (i := 25) (v := undef) rfl (by kernel_rfl) (by kernel_rfl) (by kernel_rfl) (fun _ _ _ h => h) (Or.inr ⟨by rfl, rfl⟩) (by assumption) ?_
    simp only [Act.put, List.getElem_toArray, List.getElem_cons_zero, List.getElem_cons_succ, List.setIfInBounds_toArray, List.set_cons_zero, List.set_cons_succ]
    refine wpAnyH_take (i := 26) (v := ?_) rfl (by kernel_rfl) (by kernel_rfl) (by kernel_rfl) (fun _ _ _ h => h) (Or.inl ⟨by rfl, ?_⟩) (by assumption) ?_
    rotate_left
    · (intro w hSw; clear hSw; have hbz : ¬ b1 < 0 := Int.not_lt.2 hb0; go_simp; try (with_reducible rfl))
    simp only [Act.put, List.getElem_toArray, List.getElem_cons_zero, List.getElem_cons_succ, List.setIfInBounds_toArray, List.set_cons_zero, List.set_cons_succ]
    refine wpAnyH_take (i := 27) (v := ?_) rfl (by kernel_rfl) (by kernel_rfl) (by kernel_rfl) (fun _ _ _ h => h) (Or.inl ⟨by rfl, ?_⟩) (by assumption) ?_
    rotate_left
    · (intro w hSw; clear hSw; have hbz : ¬ b1 < 0 := Int.not_lt.2 hb0; go_simp; try (with_reducible rfl))
    simp only [Act.put, List.getElem_toArray, List.getElem_cons_zero, List.getElem_cons_succ, List.setIfInBounds_toArray, List.set_cons_zero, List.set_cons_succ]
    refine wpAnyH_done (by kernel_rfl) ?_ _
    have p1 := (hHeld.cell (p := ⟨w5.heap.size, 1, none⟩) l2).trans r1
    have s1 := (hHeld.cell (p := ⟨w5.heap.size, 2, none⟩) l2).trans r2
    have p3 := (hHeld.cell (p := ⟨w6.heap.size, 1, none⟩) l1).trans t1
    have s3 := (hHeld.cell (p := ⟨w6.heap.size, 2, none⟩) l1).trans t2
    clear r1 r2 r3 r4 t1 t2 t3 t4
    go_wp2_with (go_at_call 29; refine (sameInts_any _ _ [q0, q1] [x0, x1] _ (by exact HI2.out.below hHeld (Nat.le_refl _)) (by exact HI1.out.below hHeld (Nat.le_refl _))).mono ?_; rw [HD3.out]; rintro e w9 ⟨rfl, nd, rfl⟩)
    go_ret
    first
    | exact ⟨rfl, below_drewN (hbD.trans ((hbw.trans (hHeld.mono hbw.size)).mono hbD.size)) nd⟩
    | exact ⟨rfl, below_drewN (hbD.trans (hbw.mono hbD.size)) _⟩
  · obtain ⟨hob, hdd⟩ : okP b1 = true ∧ dist o id < dist b1 id := by rcases HG5.out with h | h; exact absurd h (by simpa using hbi); exact h
    obtain ⟨d1, hd1⟩ : ∃ d, dist o id = d := ⟨_, rfl⟩
    obtain ⟨d2, hd2⟩ : ∃ d, dist b1 id = d := ⟨_, rfl⟩
    rw [hd1, hd2] at hdd
    have HD1 := Lib.hid hd1
    have HD2 := Lib.hid hd2
    have HOB := Lib.hid hob
    clear HG5 hob hd1 hd2
    refine wp_region_held_drew (S := fun w' => Below (W).heap.size W w') (by kernel_rfl) (Below.refl _ W).drew (fun hHeld => ?_)
    refine wpAnyH_take (i := 0) (v := ?_) rfl (by kernel_rfl) (by kernel_rfl) (by kernel_rfl) (fun _ _ _ h => h) (Or.inl ⟨by rfl, ?_⟩) (by assumption) ?_
    rotate_left
    · (intro w hSw; clear hSw; have hbz : ¬ b1 < 0 := Int.not_lt.2 hb0; go_simp; try (with_reducible rfl))
    simp only [Act.put, List.getElem_toArray, List.getElem_cons_zero, List.setIfInBounds_toArray, List.set_cons_zero, List.set_cons_succ]
    refine wpAnyH_take (i := 1) (v := ?_) rfl (by kernel_rfl) (by kernel_rfl) (by kernel_rfl) (fun _ _ _ h => h) (Or.inl ⟨by rfl, ?_⟩) (by assumption) ?_
    rotate_left
    · (intro w hSw; have p1 := (hSw.cell (p := ⟨w5.heap.size, 1, none⟩) l2).trans r1; have s1 := (hSw.cell (p := ⟨w5.heap.size, 2, none⟩) l2).trans r2; have s2 := (hSw.cell (p := ⟨n1, o1, none⟩) l3).trans r3; have s2b := (hSw.cell (p := ⟨n1, o1 + 1, none⟩) l3).trans r4; have p3 := (hSw.cell (p := ⟨w6.heap.size, 1, none⟩) l1).trans t1; have s3 := (hSw.cell (p := ⟨w6.heap.size, 2, none⟩) l1).trans t2; have s4 := (hSw.cell (p := ⟨n2, o2, none⟩) l4).trans t3; have s5 := (hSw.cell (p := ⟨n2, o2 + 1, none⟩) l4).trans t4; have hbz : ¬ b1 < 0 := Int.not_lt.2 hb0; go_simp; try (with_reducible rfl))
    simp only [Act.put, List.getElem_toArray, List.getElem_cons_zero, List.getElem_cons_succ, List.setIfInBounds_toArray, List.set_cons_zero, List.set_cons_succ]
    refine wpAnyH_take (i := 2) (v := ?_) rfl (by kernel_rfl) (by kernel_rfl) (by kernel_rfl) (fun _ _ _ h => h) (Or.inl ⟨by rfl, ?_⟩) (by assumption) ?_
    rotate_left
    · (intro w hSw; clear hSw; have hbz : ¬ b1 < 0 := Int.not_lt.2 hb0; go_simp; try (with_reducible rfl))
    simp only [Act.put, List.getElem_toArray, List.getElem_cons_zero, List.getElem_cons_succ, List.setIfInBounds_toArray, List.set_cons_zero, List.set_cons_succ]
    refine wpAnyH_take (i := 3) (v := ?_) rfl (by kernel_rfl) (by kernel_rfl) (by kernel_rfl) (fun _ _ _ h => h) (Or.inl ⟨by rfl, ?_⟩) (by assumption) ?_
    rotate_left
    · (intro w hSw; clear hSw; have hbz : ¬ b1 < 0 := Int.not_lt.2 hb0; go_simp; try (with_reducible rfl))
    simp only [Act.put, List.getElem_toArray, List.getElem_cons_zero, List.getElem_cons_succ, List.setIfInBounds_toArray, List.set_cons_zero, List.set_cons_succ]
    refine wpAnyH_take (i := 4) (v := ?_) rfl (by kernel_rfl) (by kernel_rfl) (by kernel_rfl) (fun _ _ _ h => h) (Or.inl ⟨by rfl, ?_⟩) (by assumption) ?_
    rotate_left
    · (intro w hSw; clear hSw; have hbz : ¬ b1 < 0 := Int.not_lt.2 hb0; go_simp; try (with_reducible rfl))
    simp only [Act.put, List.getElem_toArray, List.getElem_cons_zero, List.getElem_cons_succ, List.setIfInBounds_toArray, List.set_cons_zero, List.set_cons_succ]
    refine wpAnyH_take (i := 5) (v := ?_) rfl (by kernel_rfl) (by kernel_rfl) (by kernel_rfl) (fun _ _ _ h => h) (Or.inl ⟨by rfl, ?_⟩) (by assumption) ?_
    rotate_left
    · (intro w hSw; clear hSw; have hbz : ¬ b1 < 0 := Int.not_lt.2 hb0; go_simp; try (with_reducible rfl))
    simp only [Act.put, List.getElem_toArray, List.getElem_cons_zero, List.getElem_cons_succ, List.setIfInBounds_toArray, List.set_cons_zero, List.set_cons_succ]
    refine wpAnyH_take (i := 6) (v := ?_) rfl (by kernel_rfl) (by kernel_rfl) (by kernel_rfl) (fun _ _ _ h => h) (Or.inl ⟨by rfl, ?_⟩) (by assumption) ?_
    rotate_left
    · (intro w hSw; have p1 := (hSw.cell (p := ⟨w5.heap.size, 1, none⟩) l2).trans r1; have s1 := (hSw.cell (p := ⟨w5.heap.size, 2, none⟩) l2).trans r2; have s2 := (hSw.cell (p := ⟨n1, o1, none⟩) l3).trans r3; have s2b := (hSw.cell (p := ⟨n1, o1 + 1, none⟩) l3).trans r4; have p3 := (hSw.cell (p := ⟨w6.heap.size, 1, none⟩) l1).trans t1; have s3 := (hSw.cell (p := ⟨w6.heap.size, 2, none⟩) l1).trans t2; have s4 := (hSw.cell (p := ⟨n2, o2, none⟩) l4).trans t3; have s5 := (hSw.cell (p := ⟨n2, o2 + 1, none⟩) l4).trans t4; have hbz : ¬ b1 < 0 := Int.not_lt.2 hb0; go_simp; try (with_reducible rfl))
    simp only [Act.put, List.getElem_toArray, List.getElem_cons_zero, List.getElem_cons_succ, List.setIfInBounds_toArray, List.set_cons_zero, List.set_cons_succ]
    refine wpAnyH_ready (rs := [7]) (by kernel_rfl) (by simp) ?_
    refine AllReadyH.cons rfl (fun K hK => ?_) AllReadyH.nil
    rw [if_pos (by rfl)]
    go_wp2_with (go_at_call 18; (with_reducible refine (nodeAtL_live _ y b1 _ (by exact HC9.out.below hHeld (Nat.le_refl _)) HL.out).mono ?_); rintro e wq ⟨va, rfl, -, hbq⟩)
    refine hK.out _ _ (hHeld.trans (hbq.mono hHeld.size)) (fun hHeld => ?_)
    clear hK K hbq
    refine wpAnyH_take (i := 8) (v := ?_) rfl (by kernel_rfl) (by kernel_rfl) (by kernel_rfl) (fun _ _ _ h => h) (Or.inl ⟨by rfl, ?_⟩) (by assumption) ?_
    rotate_left
    · (intro w hSw; clear hSw; have hbz : ¬ b1 < 0 := Int.not_lt.2 hb0; go_simp; try (with_reducible rfl))
    simp only [Act.put, List.getElem_toArray, List.getElem_cons_zero, List.getElem_cons_succ, List.setIfInBounds_toArray, List.set_cons_zero, List.set_cons_succ]
    refine wpAnyH_take (i := 9) (v := ?_) rfl (by kernel_rfl) (by kernel_rfl) (by kernel_rfl) (fun _ _ _ h => h) (Or.inl ⟨by rfl, ?_⟩) (by assumption) ?_
    rotate_left
    · (intro w hSw; clear hSw; have hbz : ¬ b1 < 0 := Int.not_lt.2 hb0; go_simp; try (with_reducible rfl))
    simp only [Act.put, List.getElem_toArray, List.getElem_cons_zero, List.getElem_cons_succ, List.setIfInBounds_toArray, List.set_cons_zero, List.set_cons_succ]
    refine wpAnyH_take (i := 10) (v := ?_) rfl (by kernel_rfl) (by kernel_rfl) (by kernel_rfl) (fun _ _ _ h => h) (Or.inl ⟨by rfl, ?_⟩) (by assumption) ?_
    rotate_left
    · (intro w hSw; clear hSw; have hbz : ¬ b1 < 0 := Int.not_lt.2 hb0; go_simp; try (with_reducible rfl))
    simp only [Act.put, List.getElem_toArray, List.getElem_cons_zero, List.getElem_cons_succ, List.setIfInBounds_toArray, List.set_cons_zero, List.set_cons_succ]
    refine wpAnyH_take (i := 11) (v := ?_) rfl (by kernel_rfl) (by kernel_rfl) (by kernel_rfl) (fun _ _ _ h => h) (Or.inl ⟨by rfl, ?_⟩) (by assumption) ?_
    rotate_left
    · (intro w hSw; clear hSw; have hbz : ¬ b1 < 0 := Int.not_lt.2 hb0; go_simp; try (with_reducible rfl))
    simp only [Act.put, List.getElem_toArray, List.getElem_cons_zero, List.getElem_cons_succ, List.setIfInBounds_toArray, List.set_cons_zero, List.set_cons_succ]
    refine wpAnyH_take (i := 12) (v := ?_) rfl (by kernel_rfl) (by kernel_rfl) (by kernel_rfl) (fun _ _ _ h => h) (Or.inl ⟨by rfl, ?_⟩) (by assumption) ?_
    rotate_left
    · (intro w hSw; clear hSw; have hbz : ¬ b1 < 0 := Int.not_lt.2 hb0; go_simp; try (with_reducible rfl))
    simp only [Act.put, List.getElem_toArray, List.getElem_cons_zero, List.getElem_cons_succ, List.setIfInBounds_toArray, List.set_cons_zero, List.set_cons_succ]
    refine wpAnyH_take (i := 13) (v := ?_) rfl (by kernel_rfl) (by kernel_rfl) (by kernel_rfl) (fun _ _ _ h => h) (Or.inl ⟨by rfl, ?_⟩) (by assumption) ?_
    rotate_left
    · (intro w hSw; have p1 := (hSw.cell (p := ⟨w5.heap.size, 1, none⟩) l2).trans r1; have s1 := (hSw.cell (p := ⟨w5.heap.size, 2, none⟩) l2).trans r2; have s2 := (hSw.cell (p := ⟨n1, o1, none⟩) l3).trans r3; have s2b := (hSw.cell (p := ⟨n1, o1 + 1, none⟩) l3).trans r4; have p3 := (hSw.cell (p := ⟨w6.heap.size, 1, none⟩) l1).trans t1; have s3 := (hSw.cell (p := ⟨w6.heap.size, 2, none⟩) l1).trans t2; have s4 := (hSw.cell (p := ⟨n2, o2, none⟩) l4).trans t3; have s5 := (hSw.cell (p := ⟨n2, o2 + 1, none⟩) l4).trans t4; have hbz : ¬ b1 < 0 := Int.not_lt.2 hb0; go_simp; try (with_reducible rfl))
    simp only [Act.put, List.getElem_toArray, List.getElem_cons_zero, List.getElem_cons_succ, List.setIfInBounds_toArray, List.set_cons_zero, List.set_cons_succ]
    refine wpAnyH_take (i := 14) (v := ?_) rfl (by kernel_rfl) (by kernel_rfl) (by kernel_rfl) (fun _ _ _ h => h) (Or.inl ⟨by rfl, ?_⟩) (by assumption) ?_
    rotate_left
    · (intro w hSw; clear hSw; have hbz : ¬ b1 < 0 := Int.not_lt.2 hb0; go_simp; try (with_reducible rfl))
    simp only [Act.put, List.getElem_toArray, List.getElem_cons_zero, List.getElem_cons_succ, List.setIfInBounds_toArray, List.set_cons_zero, List.set_cons_succ]
    refine wpAnyH_take (i := 15) (v := ?_) rfl (by kernel_rfl) (by kernel_rfl) (by kernel_rfl) (fun _ _ _ h => h) (Or.inl ⟨by rfl, ?_⟩) (by assumption) ?_
    rotate_left
    · (intro w hSw; clear hSw; have hbz : ¬ b1 < 0 := Int.not_lt.2 hb0; go_simp; try (with_reducible rfl))
    simp only [Act.put, List.getElem_toArray, List.getElem_cons_zero, List.getElem_cons_succ, List.setIfInBounds_toArray, List.set_cons_zero, List.set_cons_succ]
    refine wpAnyH_take (i := 16) (v := ?_) rfl (by kernel_rfl) (by kernel_rfl) (by kernel_rfl) (fun _ _ _ h => h) (Or.inl ⟨by rfl, ?_⟩) (by assumption) ?_
    rotate_left
    · (intro w hSw; clear hSw; have hbz : ¬ b1 < 0 := Int.not_lt.2 hb0; go_simp; try (with_reducible rfl))
    simp only [Act.put, List.getElem_toArray, List.getElem_cons_zero, List.getElem_cons_succ, List.setIfInBounds_toArray, List.set_cons_zero, List.set_cons_succ]
    refine wpAnyH_take (i := 17) (v := ?_) rfl (by kernel_rfl) (by kernel_rfl) (by kernel_rfl) (fun _ _ _ h => h) (Or.inl ⟨by rfl, ?_⟩) (by assumption) ?_
    rotate_left
    · (intro w hSw; clear hSw; have hbz : ¬ b1 < 0 := Int.not_lt.2 hb0; go_simp; try (with_reducible rfl))
    simp only [Act.put, List.getElem_toArray, List.getElem_cons_zero, List.getElem_cons_succ, List.setIfInBounds_toArray, List.set_cons_zero, List.set_cons_succ]
    refine wpAnyH_take (i := 18) (v := ?_) rfl (by kernel_rfl) (by kernel_rfl) (by kernel_rfl) (fun _ _ _ h => h) (Or.inl ⟨by rfl, ?_⟩) (by assumption) ?_
    rotate_left
    · (intro w hSw; clear hSw; have hbz : ¬ b1 < 0 := Int.not_lt.2 hb0; go_simp; try (with_reducible rfl))
    simp only [Act.put, List.getElem_toArray, List.getElem_cons_zero, List.getElem_cons_succ, List.setIfInBounds_toArray, List.set_cons_zero, List.set_cons_succ]
    refine wpAnyH_take (i := 19) (v := ?_) rfl (by kernel_rfl) (by kernel_rfl) (by kernel_rfl) (fun _ _ _ h => h) (Or.inl ⟨by rfl, ?_⟩) (by assumption) ?_
    rotate_left
    · (intro w hSw; clear hSw; have hbz : ¬ b1 < 0 := Int.not_lt.2 hb0; go_simp; try (with_reducible rfl))
    simp only [Act.put, List.getElem_toArray, List.getElem_cons_zero, List.getElem_cons_succ, List.setIfInBounds_toArray, List.set_cons_zero, List.set_cons_succ]
    refine wpAnyH_take (i := 21) (v := ?_) rfl (by kernel_rfl) (by kernel_rfl) (by kernel_rfl) (fun _ _ _ h => h) (Or.inl ⟨by rfl, ?_⟩) (by assumption) ?_
    rotate_left
    · (intro w hSw; clear hSw; have hbz : ¬ b1 < 0 := Int.not_lt.2 hb0; go_simp; try (with_reducible rfl))
    simp only [Act.put, List.getElem_toArray, List.getElem_cons_zero, List.getElem_cons_succ, List.setIfInBounds_toArray, List.set_cons_zero, List.set_cons_succ]
    refine wpAnyH_take (i := 22) (v := ?_) rfl (by kernel_rfl) (by kernel_rfl) (by kernel_rfl) (fun _ _ _ h => h) (Or.inl ⟨by rfl, ?_⟩) (by assumption) ?_
    rotate_left
    · (intro w hSw; have p1 := (hSw.cell (p := ⟨w5.heap.size, 1, none⟩) l2).trans r1; have s1 := (hSw.cell (p := ⟨w5.heap.size, 2, none⟩) l2).trans r2; have s2 := (hSw.cell (p := ⟨n1, o1, none⟩) l3).trans r3; have s2b := (hSw.cell (p := ⟨n1, o1 + 1, none⟩) l3).trans r4; have p3 := (hSw.cell (p := ⟨w6.heap.size, 1, none⟩) l1).trans t1; have s3 := (hSw.cell (p := ⟨w6.heap.size, 2, none⟩) l1).trans t2; have s4 := (hSw.cell (p := ⟨n2, o2, none⟩) l4).trans t3; have s5 := (hSw.cell (p := ⟨n2, o2 + 1, none⟩) l4).trans t4; have hbz : ¬ b1 < 0 := Int.not_lt.2 hb0; go_simp; try (with_reducible rfl))
    simp only [Act.put, List.getElem_toArray, List.getElem_cons_zero, List.getElem_cons_succ, List.setIfInBounds_toArray, List.set_cons_zero, List.set_cons_succ]
    refine wpAnyH_take (i := 23) (v := ?_) rfl (by kernel_rfl) (by kernel_rfl) (by kernel_rfl) (fun _ _ _ h => h) (Or.inl ⟨by rfl, ?_⟩) (by assumption) ?_
    rotate_left
    · (intro w hSw; clear hSw; have hbz : ¬ b1 < 0 := Int.not_lt.2 hb0; go_simp; try (with_reducible rfl))
    simp only [Act.put, List.getElem_toArray, List.getElem_cons_zero, List.getElem_cons_succ, List.setIfInBounds_toArray, List.set_cons_zero, List.set_cons_succ]
    refine wpAnyH_ready (rs := [20]) (by kernel_rfl) (by simp) ?_
    refine AllReadyH.cons rfl (fun K hK => ?_) AllReadyH.nil
    rw [if_pos (by rfl)]
    go_wp2_with (go_at_call 19; (with_reducible refine (iDistance_is o id d1 HO2.out HO1.out HD1.out _).mono ?_); rintro e wq ⟨rfl, hbq⟩)
    refine hK.out _ _ (hHeld.trans (hbq.mono hHeld.size)) (fun hHeld => ?_)
    clear hK K hbq
    refine wpAnyH_ready (rs := [24]) (by kernel_rfl) (by simp) ?_
    refine AllReadyH.cons rfl (fun K hK => ?_) AllReadyH.nil
    rw [if_pos (by rfl)]
    go_wp2_with (go_at_call 19; (with_reducible refine (iDistance_is b1 id d2 HOB.out HO1.out HD2.out _).mono ?_); rintro e wq ⟨rfl, hbq⟩)
    refine hK.out _ _ (hHeld.trans (hbq.mono hHeld.size)) (fun hHeld => ?_)
    clear hK K hbq
    refine wpAnyH_take (i := 25) (v := ?_) rfl (by kernel_rfl) (by kernel_rfl) (by kernel_rfl) (fun _ _ _ h => h) (Or.inl ⟨by rfl, ?_⟩) (by assumption) ?_
    rotate_left
    · (intro w hSw; clear hSw; have hbz : ¬ b1 < 0 := Int.not_lt.2 hb0; go_simp; try (with_reducible rfl))
    simp only [Act.put, List.getElem_toArray, List.getElem_cons_zero, List.getElem_cons_succ, List.setIfInBounds_toArray, List.set_cons_zero, List.set_cons_succ]
    refine wpAnyH_take (i := 26) (v := ?_) rfl (by kernel_rfl) (by kernel_rfl) (by kernel_rfl) (fun _ _ _ h => h) (Or.inl ⟨by rfl, ?_⟩) (by assumption) ?_
    rotate_left
    · (intro w hSw; clear hSw; have hbz : ¬ b1 < 0 := Int.not_lt.2 hb0; go_simp; try (with_reducible rfl))
    simp only [Act.put, List.getElem_toArray, List.getElem_cons_zero, List.getElem_cons_succ, List.setIfInBounds_toArray, List.set_cons_zero, List.set_cons_succ]
    refine wpAnyH_take (i := 27) (v := ?_) rfl (by kernel_rfl) (by kernel_rfl) (by kernel_rfl) (fun _ _ _ h => h) (Or.inl ⟨by rfl, ?_⟩) (by assumption) ?_
    rotate_left
    · (intro w hSw; clear hSw; have hbz : ¬ b1 < 0 := Int.not_lt.2 hb0; go_simp; try (with_reducible rfl))
    simp only [Act.put, List.getElem_toArray, List.getElem_cons_zero, List.getElem_cons_succ, List.setIfInBounds_toArray, List.set_cons_zero, List.set_cons_succ]
    refine wpAnyH_done (by kernel_rfl) ?_ _
    have p1 := (hHeld.cell (p := ⟨w5.heap.size, 1, none⟩) l2).trans r1
    have s1 := (hHeld.cell (p := ⟨w5.heap.size, 2, none⟩) l2).trans r2
    have p3 := (hHeld.cell (p := ⟨w6.heap.size, 1, none⟩) l1).trans t1
    have s3 := (hHeld.cell (p := ⟨w6.heap.size, 2, none⟩) l1).trans t2
    clear r1 r2 r3 r4 t1 t2 t3 t4
    go_wp2_with (go_at_call 29; refine (sameInts_any _ _ [q0, q1] [x0, x1] _ (by exact HI2.out.below hHeld (Nat.le_refl _)) (by exact HI1.out.below hHeld (Nat.le_refl _))).mono ?_; rw [HD3.out]; rintro e w9 ⟨rfl, nd, rfl⟩)
    go_ret
    first
    | exact ⟨rfl, below_drewN (hbD.trans ((hbw.trans (hHeld.mono hbw.size)).mono hbD.size)) nd⟩
    | exact ⟨rfl, below_drewN (hbD.trans (hbw.mono hbD.size)) _⟩

end Go.Proofs.Ytadplndoopkdgaa
