/-
  The law FnPartOlder, beside goroutines that only leave.
-/
import Derived.Test.YtkefnmmpipeppaaLpt
import Derived.Test.YtkefnmmpipeppaaRbh
set_option linter.unusedSimpArgs false
set_option linter.unusedVariables false
set_option linter.unusedSectionVars false
namespace Go.Proofs.Ytkefnmmpipeppaa
open Go.Conc Go.ConcN Go.RowKit Go.Conc.Lib Go.ConcR.Gen Go.ConcN.Gen Go.Proofs.Ytkefnmmpipeppaa.Rg
open Go.ConcR (KK wgBlock WgAt stA smA rd wr mk Payload Aside2 DC0 Bk)
variable [Kept]

theorem closedDQ : Closed Try.prog [10, 32, 33, 35, 12, 39, 41, 51, 50, 40, 42, 60, 34, 53, 13, 14, 15, 16, 37, 44, 43, 54] := by
  intro f hf
  simp only [List.mem_cons, List.not_mem_nil, or_false] at hf
  rcases hf with rfl | rfl | rfl | rfl | rfl | rfl | rfl | rfl | rfl | rfl | rfl | rfl | rfl | rfl | rfl | rfl | rfl | rfl | rfl | rfl | rfl | rfl <;> kernel_rfl
theorem neq_same (x y : Tr) (h : x = y) (w : World) : (binOp .neq 26 (.agg #[.int .i64 x.a, .int .i64 x.b, .int .i64 x.c]) (.agg #[.int .i64 y.a, .int .i64 y.b, .int .i64 y.c])).run Try.prog w = .ok (.bool false) w := by
  have := Try.neqReplica x y w
  rw [decide_eq_true h] at this
  exact this
set_option maxRecDepth 100000 in
set_option maxHeartbeats 8000000 in
theorem fnPartOlderG (v : World) (vc : Value) (hc : CodeAt v vc) :
    CallsM Try.prog 4 #[vc] v fun z u => z = .bool true ∧ KeepG v u := by
  refine callsM_of_gt Try.func4 rfl fun cs => ?_
  walk_nrmf Try.f4
  have HC := Lib.hid hc
  obtain ⟨pb, n, cap, rfl, hn1, hn2, hn3⟩ := hc
  clear hn3
  unfold maxLen at hn2
  refine gt_code ?_
  refine gt_wpc closedDQ (plain_of Try.func4) rfl (by kernel_rfl) (fun w hw => ?_)
  have K1 := Lib.hid (KeepG.of_same hw)
  have HC1 := Lib.hid (HC.out.same hw)
  clear hw HC
  go_wp2
  ((try simp only [Exit.inBlock, Exit.then]); refine segPost_nil rfl ?_)
  refine gt_code ?_
  obtain ⟨v1, hv1⟩ : ∃ v1, w = v1 := ⟨_, rfl⟩
  subst hv1
  refine gt_wpc closedDQ (plain_of Try.func4) rfl (by kernel_rfl) (fun w hw => ?_)
  have K2 := Lib.hid (K1.out.same hw)
  have HC2 := Lib.hid (HC1.out.same hw)
  clear hw K1 HC1
  by_cases hbig : (1048576 : Int) < (n : Int)
  · go_wp2
    ((try simp only [Exit.inBlock, Exit.then]); refine segPost_ret rfl (gt_returned Try.func4 rfl rfl (results_tmp rfl _ _ _) ?_))
    exact ⟨rfl, K2.out⟩
  go_wp2
  ((try simp only [Exit.inBlock, Exit.then]); refine segPost_nil rfl ?_)
  refine gt_code ?_
  refine gt_wpc closedDQ (plain_of Try.func4) rfl (by kernel_rfl) (fun w hw => ?_)
  have K3 := Lib.hid (K2.out.same hw)
  have HC3 := Lib.hid (HC2.out.same hw)
  clear hw K2 HC2
  go_wp2_with fail
  refine (drawPart_any _ _ HC3.out).mono ?_
  rintro e w1 ⟨u, xs, z, ks, x, rfl, hu, hz, hl1, hl2, hl3, hb⟩
  have hbox := heap_alloc_new w1 (.cells #[.int .i64 x.a, .int .i64 x.b, .int .i64 x.c] 26)
  have hA := (Below.refl w1.heap.size w1).alloc (Nat.le_refl _) (.cells #[.int .i64 x.a, .int .i64 x.b, .int .i64 x.c] 26)
  have K4 := Lib.hid ((K3.out.below hb).below hA)
  have HU4 := Lib.hid (hu.below hA (Nat.le_refl _))
  have HZ4 := Lib.hid (hz.below hA (Nat.le_refl _))
  have hs4 : (w1.alloc (.cells #[.int .i64 x.a, .int .i64 x.b, .int .i64 x.c] 26)).heap.size = w1.heap.size + 1 := by simp
  obtain ⟨pu, cu, rfl, hu1, hu2⟩ := hu.form
  clear hA hb K3 HC3
  go_wp2
  ((try simp only [Exit.inBlock, Exit.then]); refine segPost_nil rfl ?_)
  obtain ⟨N, hN⟩ : ∃ N, w1.heap.size = N := ⟨_, rfl⟩
  obtain ⟨v4, hv4⟩ : ∃ v4, w1.alloc (.cells #[.int .i64 x.a, .int .i64 x.b, .int .i64 x.c] 26) = v4 := ⟨_, rfl⟩
  rw [hN] at hbox hs4 ⊢
  rw [hv4] at hbox K4 HU4 HZ4 hs4 ⊢
  have HX4 := Lib.hid hbox
  clear hN hv4 hu hz hbox
  refine gt_code ?_
  refine gt_region ?_
  simp only [List.size_toArray, List.length_cons, List.length_nil, Nat.reduceAdd, Nat.zero_add, List.range, List.range.loop]
  refine gt_op closedDQ rfl rfl (by kernel_rfl) rfl (z := ?_) (v' := _) (fun u hu => ⟨u, ?_, hu⟩) ?_
  rotate_left
  · skip
    go_simp
    try (with_reducible rfl)
  walk_nrm
  refine gt_op closedDQ rfl rfl (by kernel_rfl) rfl (z := ?_) (v' := _) (fun u hu => ⟨u, ?_, hu⟩) ?_
  rotate_left
  · skip
    go_simp
    try (with_reducible rfl)
  walk_nrm
  obtain ⟨x0, x1, x2⟩ := cells3 HX4.out
  refine gt_op closedDQ rfl rfl (by kernel_rfl) rfl (z := ?_) (v' := _) (fun u hu => ⟨u, ?_, hu⟩) ?_
  rotate_left
  · have s0 := (same_cell hu _).trans x0; have s1 := (same_cell hu _).trans x1; have s2 := (same_cell hu _).trans x2
    go_simp
    try (with_reducible rfl)
  walk_nrm
  clear x0 x1 x2
  refine gt_call rfl rfl rfl (f := 11) (args := #[.slice pu xs.length cu, z, .agg #[.int .i64 x.a, .int .i64 x.b, .int .i64 x.c]]) (fun u => ⟨?_, ?_⟩) (iPartG v4 _ _ xs ks x HU4.out HZ4.out) (fun y5 v5 hy => ?_)
  · go_simp
  · simp [go_sem, callFunc, Try.func11, Try.f11]
  obtain ⟨y, rfl, hO5, hK5⟩ := hy
  have K5 := Lib.hid (K4.out.trans hK5)
  have HO5 := Lib.hid hO5
  have HU5 := Lib.hid (HU4.out.keep hK5)
  have HZ5 := Lib.hid (HZ4.out.keep hK5)
  have HX5 := Lib.hid ((hK5.block N (by omega)).trans HX4.out)
  have hs5 := hK5.size
  clear hO5 hK5
  walk_nrm
  refine gt_op closedDQ rfl rfl (by kernel_rfl) rfl (z := ?_) (v' := _) (fun u hu => ⟨u, ?_, hu⟩) ?_
  rotate_left
  · skip
    go_simp
    try (with_reducible rfl)
  walk_nrm
  refine gt_op closedDQ rfl rfl (by kernel_rfl) rfl (z := ?_) (v' := _) (fun u hu => ⟨u, ?_, hu⟩) ?_
  rotate_left
  · skip
    go_simp
    try (with_reducible rfl)
  walk_nrm
  refine gt_op closedDQ rfl rfl (by kernel_rfl) rfl (z := ?_) (v' := _) (fun u hu => ⟨u, ?_, hu⟩) ?_
  rotate_left
  · skip
    go_simp
    try (with_reducible rfl)
  walk_nrm
  refine gt_op closedDQ rfl rfl (by kernel_rfl) rfl (z := ?_) (v' := _) (fun u hu => ⟨u, ?_, hu⟩) ?_
  rotate_left
  · skip
    go_simp
    try (with_reducible rfl)
  walk_nrm
  refine gt_op closedDQ rfl rfl (by kernel_rfl) rfl (z := ?_) (v' := _) (fun u hu => ⟨u, ?_, hu⟩) ?_
  rotate_left
  · skip
    go_simp
    try (with_reducible rfl)
  walk_nrm
  refine gt_region_end ?_
  refine gt_code ?_
  refine gt_wpc closedDQ (plain_of Try.func4) rfl (by kernel_rfl) (fun w hw => ?_)
  have K6 := Lib.hid (K5.out.same hw)
  have HO6 := Lib.hid (HO5.out.same hw)
  have HU6 := Lib.hid (HU5.out.same hw)
  have HZ6 := Lib.hid (HZ5.out.same hw)
  have HX6 := Lib.hid (show w.heap[N]? = some (.cells #[.int .i64 x.a, .int .i64 x.b, .int .i64 x.c] 26) from by rw [hw.heap]; exact HX5.out)
  have hs6 : N < w.heap.size := by rw [hw.heap]; omega
  clear hw K5 HO5 HU5 HZ5 HX5
  obtain ⟨x0, x1, x2⟩ := cells3 HX6.out
  go_wp2_with fail
  refine (sPart_any _ _ xs ks x _ HU6.out HZ6.out (by omega)).mono ?_
  rintro e w7 ⟨y', rfl, hO7, hb7⟩
  have K7 := Lib.hid (K6.out.below hb7)
  have HO7 := Lib.hid (HO6.out.below hb7 (Nat.le_refl _))
  have HQ7 := Lib.hid hO7
  have HU7 := Lib.hid (HU6.out.below hb7 (Nat.le_refl _))
  have HZ7 := Lib.hid (HZ6.out.below hb7 (Nat.le_refl _))
  have HX7 := Lib.hid ((hb7.block N hs6).trans HX6.out)
  have hs7 : N < w7.heap.size := Nat.lt_of_lt_of_le hs6 hb7.size
  clear hO7 hb7 x0 x1 x2 K6 HO6 HU6 HZ6 HX6
  go_wp2
  ((try simp only [Exit.inBlock, Exit.then]); refine segPost_nil rfl ?_)
  refine gt_code ?_
  refine gt_wpc closedDQ (plain_of Try.func4) rfl (by kernel_rfl) (fun w hw => ?_)
  have K8 := Lib.hid (K7.out.same hw)
  have HO8 := Lib.hid (HO7.out.same hw)
  have HQ8 := Lib.hid (HQ7.out.same hw)
  have HU8 := Lib.hid (HU7.out.same hw)
  have HZ8 := Lib.hid (HZ7.out.same hw)
  have HX8 := Lib.hid (show w.heap[N]? = some (.cells #[.int .i64 x.a, .int .i64 x.b, .int .i64 x.c] 26) from by rw [hw.heap]; exact HX7.out)
  have hs8 : N < w.heap.size := by rw [hw.heap]; exact hs7
  clear hw K7 HO7 HQ7 HU7 HZ7 HX7
  rcases hok : partB xs ks x with _ | _
  · have HOK := Lib.hid hok
    clear hok
    go_wp2_with (go_at_call 13; with_reducible refine (sameReplicas_any _ _ _ _ _ HO8.out.at HQ8.out.at).mono ?_; rw [decide_eq_true rfl]; rintro e w9 ⟨rfl, hb9⟩; have K9 := Lib.hid (K8.out.below hb9); have HO9 := Lib.hid (HO8.out.below hb9 (Nat.le_refl _)); have HQ9 := Lib.hid (HQ8.out.below hb9 (Nat.le_refl _)))
    refine (sameReplicas_any _ _ _ _ _ HO9.out.at HQ9.out.at).mono ?_
    rw [decide_eq_true rfl]
    rintro e wA ⟨rfl, hbA⟩
    go_wp2
    ((try simp only [Exit.inBlock, Exit.then]); refine segPost_ret rfl (gt_returned Try.func4 rfl rfl (results_tmp rfl _ _ _) ?_))
    exact ⟨rfl, K9.out.below hbA⟩
  have HOK := Lib.hid hok
  clear hok
  go_wp2_with (go_at_call 13; with_reducible refine (sameReplicas_any _ _ _ _ _ HO8.out.at HQ8.out.at).mono ?_; rw [decide_eq_true rfl]; rintro e w9 ⟨rfl, hb9⟩)
  have K9 := Lib.hid (K8.out.below hb9)
  have HO9 := Lib.hid (show TrsOwn w9 v4.heap.size 26 y (rPutAll x xs ks) from by rw [← partR_yes HOK.out]; exact HO8.out.below hb9 (Nat.le_refl _))
  have HU9 := Lib.hid (HU8.out.below hb9 (Nat.le_refl _))
  have HZ9 := Lib.hid (HZ8.out.below hb9 (Nat.le_refl _))
  have HX9 := Lib.hid ((hb9.block N hs8).trans HX8.out)
  have hs9 : N < w9.heap.size := Nat.lt_of_lt_of_le hs8 hb9.size
  clear hb9 K8 HO8 HQ8 HU8 HZ8 HX8
  ((try simp only [Exit.inBlock, Exit.then]); refine segPost_nil rfl ?_)
  refine gt_wpc closedDQ (plain_of Try.func4) rfl (by kernel_rfl) (fun w hw => ?_)
  have KA := Lib.hid (K9.out.same hw)
  have HOA := Lib.hid (HO9.out.same hw)
  have HUA := Lib.hid (HU9.out.same hw)
  have HZA := Lib.hid (HZ9.out.same hw)
  have HXA := Lib.hid (show w.heap[N]? = some (.cells #[.int .i64 x.a, .int .i64 x.b, .int .i64 x.c] 26) from by rw [hw.heap]; exact HX9.out)
  have hsA : N < w.heap.size := by rw [hw.heap]; exact hs9
  clear hw K9 HO9 HU9 HZ9 HX9
  obtain ⟨g, cg, rfl, hg1, hg2, hg3, hg4⟩ := HOA.out.form (by rw [rPutAll_length]; omega)
  have HPL := Lib.hid (rPutAll_length x xs ks)
  have HVB := Lib.hid (show regB (rPutAll x xs ks) = true by have := HOK.out; unfold partB at this; simp only [Bool.and_eq_true] at this; exact this.2)
  have HOL := Lib.hid (show ∃ pl, (rPutAll x xs ks).length = pl ∧ pl = xs.length from ⟨_, rfl, HPL.out⟩)
  obtain ⟨pl, hpl, hpe⟩ := HOL.out
  rw [hpl] at hg1 ⊢
  have HPLE := Lib.hid hpl
  clear hpl HOL
  subst hpe
  go_wp2
  go_loopg [2, 10] xs.length (fun m _ i wr => ∃ k : Nat, k ≤ xs.length ∧ m = xs.length - k ∧ i = .int .i64 k ∧ Hid (Below w.heap.size w wr))
  case atStart => exact ⟨0, Nat.zero_le _, rfl, rfl, Lib.hid (Below.refl _ _)⟩
  case round =>
    obtain ⟨k, hk, rfl, rfl, HB⟩ := hrel
    by_cases hlt : k < xs.length
    · have hlt' : (k : Int) < (xs.length : Int) := by omega
      have HOW := Lib.hid (HOA.out.below HB.out (Nat.le_refl _))
      have HZW := Lib.hid (HZA.out.below HB.out (Nat.le_refl _))
      obtain ⟨bu, ou, rfl, hbu, u0, u1, u2⟩ := (HUA.out.below HB.out (Nat.le_refl _)).tr hlt
      obtain ⟨o0, o1, o2, -, hgl, -⟩ := HOW.out.cells (k := k) (by rw [HPL.out]; exact hlt)
      obtain ⟨x0, x1, x2⟩ := cells3 ((HB.out.block N hsA).trans HXA.out)
      have hNl : N < wr.heap.size := Nat.lt_of_lt_of_le hsA HB.out.size
      rw [rPutAll_get _ _ _ hlt] at o0 o1 o2
      obtain ⟨y, hy⟩ : ∃ y, xs.getD k default = y := ⟨_, rfl⟩
      rw [hy] at u0 u1 u2 o0 o1 o2
      clear hy
      by_cases hm : (k : Int) ∈ ks
      · rw [if_pos hm] at o0 o1 o2
        have HM := Lib.hid hm
        clear hm
        rcases hold : rOlder y x with _ | _
        · have HOLD := Lib.hid hold
          rw [rPut_new hold] at o0 o1 o2
          clear hold
          go_wp2_with fail
          refine wp_region_held_drew (S := fun w' => Below (wr).heap.size wr w') (by kernel_rfl) (Below.refl _ wr).drew (fun hHeld => ?_)
          refine wpAnyH_take (i := 0) (v := ?_) rfl (by kernel_rfl) (by kernel_rfl) (by kernel_rfl) (fun _ _ _ h => h) (Or.inl ⟨by rfl, ?_⟩) (by assumption) ?_
          rotate_left
          · (intro wz hSw; clear hSw; have i0 : (0 : Int) ≤ (k : Int) := (by omega); have i1 : (k : Int) < (xs.length : Int) := hlt'; go_simp; try (with_reducible rfl))
          simp only [Act.put, List.getElem_toArray, List.getElem_cons_zero, List.setIfInBounds_toArray, List.set_cons_zero, List.set_cons_succ]
          refine wpAnyH_take (i := 1) (v := ?_) rfl (by kernel_rfl) (by kernel_rfl) (by kernel_rfl) (fun _ _ _ h => h) (Or.inl ⟨by rfl, ?_⟩) (by assumption) ?_
          rotate_left
          · (intro wz hSw; clear hSw; have i0 : (0 : Int) ≤ (k : Int) := (by omega); have i1 : (k : Int) < (xs.length : Int) := hlt'; go_simp; try (with_reducible rfl))
          simp only [Act.put, List.getElem_toArray, List.getElem_cons_zero, List.getElem_cons_succ, List.setIfInBounds_toArray, List.set_cons_zero, List.set_cons_succ]
          refine wpAnyH_ready (rs := [2]) (by kernel_rfl) (by simp) ?_
          refine AllReadyH.cons rfl (fun K hK => ?_) AllReadyH.nil
          rw [if_pos (by rfl)]
          go_wp2_with (go_at_call 14; refine (hasInt_is _ ks _ true (decide_eq_true HM.out) _ (HZW.out.below hHeld (Nat.le_refl _))).mono ?_; rintro e wq ⟨rfl, hwq⟩; have hbq : Below wr.drew.heap.size wr.drew wq := hwq ▸ Below.refl _ _)
          refine hK.out _ _ (hHeld.trans (hbq.mono hHeld.size)) (fun hHeld => ?_)
          clear hK K hbq
          refine wpAnyH_take (i := 3) (v := ?_) rfl (by kernel_rfl) (by kernel_rfl) (by kernel_rfl) (fun _ _ _ h => h) (Or.inl ⟨by rfl, ?_⟩) (by assumption) ?_
          rotate_left
          · (intro wz hSw; clear hSw; have i0 : (0 : Int) ≤ (k : Int) := (by omega); have i1 : (k : Int) < (xs.length : Int) := hlt'; go_simp; try (with_reducible rfl))
          simp only [Act.put, List.getElem_toArray, List.getElem_cons_zero, List.getElem_cons_succ, List.setIfInBounds_toArray, List.set_cons_zero, List.set_cons_succ]
          refine wpAnyH_take (i := 4) (v := ?_) rfl (by kernel_rfl) (by kernel_rfl) (by kernel_rfl) (fun _ _ _ h => h) (Or.inl ⟨by rfl, ?_⟩) (by assumption) ?_
          rotate_left
          · (intro wz hSw; clear hSw; have i0 : (0 : Int) ≤ (k : Int) := (by omega); have i1 : (k : Int) < (xs.length : Int) := hlt'; go_simp; try (with_reducible rfl))
          simp only [Act.put, List.getElem_toArray, List.getElem_cons_zero, List.getElem_cons_succ, List.setIfInBounds_toArray, List.set_cons_zero, List.set_cons_succ]
          refine wpAnyH_take (i := 5) (v := ?_) rfl (by kernel_rfl) (by kernel_rfl) (by kernel_rfl) (fun _ _ _ h => h) (Or.inl ⟨by rfl, ?_⟩) (by assumption) ?_
          rotate_left
          · (intro wz hSw; clear hSw; have i0 : (0 : Int) ≤ (k : Int) := (by omega); have i1 : (k : Int) < (xs.length : Int) := hlt'; go_simp; try (with_reducible rfl))
          simp only [Act.put, List.getElem_toArray, List.getElem_cons_zero, List.getElem_cons_succ, List.setIfInBounds_toArray, List.set_cons_zero, List.set_cons_succ]
          refine wpAnyH_take (i := 6) (v := ?_) rfl (by kernel_rfl) (by kernel_rfl) (by kernel_rfl) (fun _ _ _ h => h) (Or.inl ⟨by rfl, ?_⟩) (by assumption) ?_
          rotate_left
          · (intro wz hSw; clear hSw; have i0 : (0 : Int) ≤ (k : Int) := (by omega); have i1 : (k : Int) < (xs.length : Int) := hlt'; go_simp; try (with_reducible rfl))
          simp only [Act.put, List.getElem_toArray, List.getElem_cons_zero, List.getElem_cons_succ, List.setIfInBounds_toArray, List.set_cons_zero, List.set_cons_succ]
          refine wpAnyH_take (i := 7) (v := ?_) rfl (by kernel_rfl) (by kernel_rfl) (by kernel_rfl) (fun _ _ _ h => h) (Or.inl ⟨by rfl, ?_⟩) (by assumption) ?_
          rotate_left
          · (intro wz hSw; have s0 := (hSw.cell (p := ⟨bu, ou + k * 3, none⟩) hbu).trans u0; have s1 := (hSw.cell (p := ⟨bu, ou + k * 3 + 1, none⟩) hbu).trans u1; have s2 := (hSw.cell (p := ⟨bu, ou + k * 3 + 2, none⟩) hbu).trans u2; have s3 := (hSw.cell (p := ⟨N, 0, none⟩) hNl).trans x0; have s4 := (hSw.cell (p := ⟨N, 1, none⟩) hNl).trans x1; have s5 := (hSw.cell (p := ⟨N, 2, none⟩) hNl).trans x2; have i0 : (0 : Int) ≤ (k : Int) := (by omega); have i1 : (k : Int) < (xs.length : Int) := hlt'; go_simp; try (with_reducible rfl))
          simp only [Act.put, List.getElem_toArray, List.getElem_cons_zero, List.getElem_cons_succ, List.setIfInBounds_toArray, List.set_cons_zero, List.set_cons_succ]
          refine wpAnyH_take (i := 8) (v := ?_) rfl (by kernel_rfl) (by kernel_rfl) (by kernel_rfl) (fun _ _ _ h => h) (Or.inl ⟨by rfl, ?_⟩) (by assumption) ?_
          rotate_left
          · (intro wz hSw; have s0 := (hSw.cell (p := ⟨bu, ou + k * 3, none⟩) hbu).trans u0; have s1 := (hSw.cell (p := ⟨bu, ou + k * 3 + 1, none⟩) hbu).trans u1; have s2 := (hSw.cell (p := ⟨bu, ou + k * 3 + 2, none⟩) hbu).trans u2; have s3 := (hSw.cell (p := ⟨N, 0, none⟩) hNl).trans x0; have s4 := (hSw.cell (p := ⟨N, 1, none⟩) hNl).trans x1; have s5 := (hSw.cell (p := ⟨N, 2, none⟩) hNl).trans x2; have i0 : (0 : Int) ≤ (k : Int) := (by omega); have i1 : (k : Int) < (xs.length : Int) := hlt'; go_simp; try (with_reducible rfl))
          simp only [Act.put, List.getElem_toArray, List.getElem_cons_zero, List.getElem_cons_succ, List.setIfInBounds_toArray, List.set_cons_zero, List.set_cons_succ]
          refine wpAnyH_ready (rs := [9]) (by kernel_rfl) (by simp) ?_
          refine AllReadyH.cons rfl (fun K hK => ?_) AllReadyH.nil
          rw [if_pos (by rfl)]
          go_wp2_with (go_at_call 15; refine (lOlder_any y x _).mono ?_; rw [HOLD.out]; rintro e wq2 ⟨rfl, hbq⟩)
          refine hK.out _ _ (hHeld.trans (hbq.mono hHeld.size)) (fun hHeld => ?_)
          clear hK K hbq
          refine wpAnyH_take (i := 10) (v := ?_) rfl (by kernel_rfl) (by kernel_rfl) (by kernel_rfl) (fun _ _ _ h => h) (Or.inl ⟨by rfl, ?_⟩) (by assumption) ?_
          rotate_left
          · (intro wz hSw; clear hSw; have i0 : (0 : Int) ≤ (k : Int) := (by omega); have i1 : (k : Int) < (xs.length : Int) := hlt'; go_simp; try (with_reducible rfl))
          simp only [Act.put, List.getElem_toArray, List.getElem_cons_zero, List.getElem_cons_succ, List.setIfInBounds_toArray, List.set_cons_zero, List.set_cons_succ]
          refine wpAnyH_done (by kernel_rfl) ?_ _
          have u0 := (hHeld.cell (p := ⟨bu, ou + k * 3, none⟩) hbu).trans u0
          have u1 := (hHeld.cell (p := ⟨bu, ou + k * 3 + 1, none⟩) hbu).trans u1
          have u2 := (hHeld.cell (p := ⟨bu, ou + k * 3 + 2, none⟩) hbu).trans u2
          have o0 := (hHeld.cell (p := ⟨g, k * 3, none⟩) hgl).trans o0
          have o1 := (hHeld.cell (p := ⟨g, k * 3 + 1, none⟩) hgl).trans o1
          have o2 := (hHeld.cell (p := ⟨g, k * 3 + 2, none⟩) hgl).trans o2
          have x0 := (hHeld.cell (p := ⟨N, 0, none⟩) hNl).trans x0
          have x1 := (hHeld.cell (p := ⟨N, 1, none⟩) hNl).trans x1
          have x2 := (hHeld.cell (p := ⟨N, 2, none⟩) hNl).trans x2
          have HH := Lib.hid (HB.out.trans (hHeld.mono HB.out.size))
          clear hHeld
          have hq := neq_same y y rfl
          have i0 : (0 : Int) ≤ (k : Int) := by omega
          go_wp2_with fail
          go_quiet (fail)
          clear i0 u0 u1 u2 o0 o1 o2 x0 x1 x2 hq
          go_wp2
          go_roundg (xs.length - (k + 1))
          case rel => exact ⟨k + 1, by omega, rfl, by go_num, Lib.hid (below_drewN HH.out _)⟩
          case measure => omega
        · have HOLD := Lib.hid hold
          rw [rPut_old hold] at o0 o1 o2
          clear hold
          go_wp2_with fail
          refine wp_region_held_drew (S := fun w' => Below (wr).heap.size wr w') (by kernel_rfl) (Below.refl _ wr).drew (fun hHeld => ?_)
          refine wpAnyH_take (i := 0) (v := ?_) rfl (by kernel_rfl) (by kernel_rfl) (by kernel_rfl) (fun _ _ _ h => h) (Or.inl ⟨by rfl, ?_⟩) (by assumption) ?_
          rotate_left
          · (intro wz hSw; clear hSw; have i0 : (0 : Int) ≤ (k : Int) := (by omega); have i1 : (k : Int) < (xs.length : Int) := hlt'; go_simp; try (with_reducible rfl))
          simp only [Act.put, List.getElem_toArray, List.getElem_cons_zero, List.setIfInBounds_toArray, List.set_cons_zero, List.set_cons_succ]
          refine wpAnyH_take (i := 1) (v := ?_) rfl (by kernel_rfl) (by kernel_rfl) (by kernel_rfl) (fun _ _ _ h => h) (Or.inl ⟨by rfl, ?_⟩) (by assumption) ?_
          rotate_left
          · (intro wz hSw; clear hSw; have i0 : (0 : Int) ≤ (k : Int) := (by omega); have i1 : (k : Int) < (xs.length : Int) := hlt'; go_simp; try (with_reducible rfl))
          simp only [Act.put, List.getElem_toArray, List.getElem_cons_zero, List.getElem_cons_succ, List.setIfInBounds_toArray, List.set_cons_zero, List.set_cons_succ]
          refine wpAnyH_ready (rs := [2]) (by kernel_rfl) (by simp) ?_
          refine AllReadyH.cons rfl (fun K hK => ?_) AllReadyH.nil
          rw [if_pos (by rfl)]
          go_wp2_with (go_at_call 14; refine (hasInt_is _ ks _ true (decide_eq_true HM.out) _ (HZW.out.below hHeld (Nat.le_refl _))).mono ?_; rintro e wq ⟨rfl, hwq⟩; have hbq : Below wr.drew.heap.size wr.drew wq := hwq ▸ Below.refl _ _)
          refine hK.out _ _ (hHeld.trans (hbq.mono hHeld.size)) (fun hHeld => ?_)
          clear hK K hbq
          refine wpAnyH_take (i := 3) (v := ?_) rfl (by kernel_rfl) (by kernel_rfl) (by kernel_rfl) (fun _ _ _ h => h) (Or.inl ⟨by rfl, ?_⟩) (by assumption) ?_
          rotate_left
          · (intro wz hSw; clear hSw; have i0 : (0 : Int) ≤ (k : Int) := (by omega); have i1 : (k : Int) < (xs.length : Int) := hlt'; go_simp; try (with_reducible rfl))
          simp only [Act.put, List.getElem_toArray, List.getElem_cons_zero, List.getElem_cons_succ, List.setIfInBounds_toArray, List.set_cons_zero, List.set_cons_succ]
          refine wpAnyH_take (i := 4) (v := ?_) rfl (by kernel_rfl) (by kernel_rfl) (by kernel_rfl) (fun _ _ _ h => h) (Or.inl ⟨by rfl, ?_⟩) (by assumption) ?_
          rotate_left
          · (intro wz hSw; clear hSw; have i0 : (0 : Int) ≤ (k : Int) := (by omega); have i1 : (k : Int) < (xs.length : Int) := hlt'; go_simp; try (with_reducible rfl))
          simp only [Act.put, List.getElem_toArray, List.getElem_cons_zero, List.getElem_cons_succ, List.setIfInBounds_toArray, List.set_cons_zero, List.set_cons_succ]
          refine wpAnyH_take (i := 5) (v := ?_) rfl (by kernel_rfl) (by kernel_rfl) (by kernel_rfl) (fun _ _ _ h => h) (Or.inl ⟨by rfl, ?_⟩) (by assumption) ?_
          rotate_left
          · (intro wz hSw; clear hSw; have i0 : (0 : Int) ≤ (k : Int) := (by omega); have i1 : (k : Int) < (xs.length : Int) := hlt'; go_simp; try (with_reducible rfl))
          simp only [Act.put, List.getElem_toArray, List.getElem_cons_zero, List.getElem_cons_succ, List.setIfInBounds_toArray, List.set_cons_zero, List.set_cons_succ]
          refine wpAnyH_take (i := 6) (v := ?_) rfl (by kernel_rfl) (by kernel_rfl) (by kernel_rfl) (fun _ _ _ h => h) (Or.inl ⟨by rfl, ?_⟩) (by assumption) ?_
          rotate_left
          · (intro wz hSw; clear hSw; have i0 : (0 : Int) ≤ (k : Int) := (by omega); have i1 : (k : Int) < (xs.length : Int) := hlt'; go_simp; try (with_reducible rfl))
          simp only [Act.put, List.getElem_toArray, List.getElem_cons_zero, List.getElem_cons_succ, List.setIfInBounds_toArray, List.set_cons_zero, List.set_cons_succ]
          refine wpAnyH_take (i := 7) (v := ?_) rfl (by kernel_rfl) (by kernel_rfl) (by kernel_rfl) (fun _ _ _ h => h) (Or.inl ⟨by rfl, ?_⟩) (by assumption) ?_
          rotate_left
          · (intro wz hSw; have s0 := (hSw.cell (p := ⟨bu, ou + k * 3, none⟩) hbu).trans u0; have s1 := (hSw.cell (p := ⟨bu, ou + k * 3 + 1, none⟩) hbu).trans u1; have s2 := (hSw.cell (p := ⟨bu, ou + k * 3 + 2, none⟩) hbu).trans u2; have s3 := (hSw.cell (p := ⟨N, 0, none⟩) hNl).trans x0; have s4 := (hSw.cell (p := ⟨N, 1, none⟩) hNl).trans x1; have s5 := (hSw.cell (p := ⟨N, 2, none⟩) hNl).trans x2; have i0 : (0 : Int) ≤ (k : Int) := (by omega); have i1 : (k : Int) < (xs.length : Int) := hlt'; go_simp; try (with_reducible rfl))
          simp only [Act.put, List.getElem_toArray, List.getElem_cons_zero, List.getElem_cons_succ, List.setIfInBounds_toArray, List.set_cons_zero, List.set_cons_succ]
          refine wpAnyH_take (i := 8) (v := ?_) rfl (by kernel_rfl) (by kernel_rfl) (by kernel_rfl) (fun _ _ _ h => h) (Or.inl ⟨by rfl, ?_⟩) (by assumption) ?_
          rotate_left
          · (intro wz hSw; have s0 := (hSw.cell (p := ⟨bu, ou + k * 3, none⟩) hbu).trans u0; have s1 := (hSw.cell (p := ⟨bu, ou + k * 3 + 1, none⟩) hbu).trans u1; have s2 := (hSw.cell (p := ⟨bu, ou + k * 3 + 2, none⟩) hbu).trans u2; have s3 := (hSw.cell (p := ⟨N, 0, none⟩) hNl).trans x0; have s4 := (hSw.cell (p := ⟨N, 1, none⟩) hNl).trans x1; have s5 := (hSw.cell (p := ⟨N, 2, none⟩) hNl).trans x2; have i0 : (0 : Int) ≤ (k : Int) := (by omega); have i1 : (k : Int) < (xs.length : Int) := hlt'; go_simp; try (with_reducible rfl))
          simp only [Act.put, List.getElem_toArray, List.getElem_cons_zero, List.getElem_cons_succ, List.setIfInBounds_toArray, List.set_cons_zero, List.set_cons_succ]
          refine wpAnyH_ready (rs := [9]) (by kernel_rfl) (by simp) ?_
          refine AllReadyH.cons rfl (fun K hK => ?_) AllReadyH.nil
          rw [if_pos (by rfl)]
          go_wp2_with (go_at_call 15; refine (lOlder_any y x _).mono ?_; rw [HOLD.out]; rintro e wq2 ⟨rfl, hbq⟩)
          refine hK.out _ _ (hHeld.trans (hbq.mono hHeld.size)) (fun hHeld => ?_)
          clear hK K hbq
          refine wpAnyH_take (i := 10) (v := ?_) rfl (by kernel_rfl) (by kernel_rfl) (by kernel_rfl) (fun _ _ _ h => h) (Or.inl ⟨by rfl, ?_⟩) (by assumption) ?_
          rotate_left
          · (intro wz hSw; clear hSw; have i0 : (0 : Int) ≤ (k : Int) := (by omega); have i1 : (k : Int) < (xs.length : Int) := hlt'; go_simp; try (with_reducible rfl))
          simp only [Act.put, List.getElem_toArray, List.getElem_cons_zero, List.getElem_cons_succ, List.setIfInBounds_toArray, List.set_cons_zero, List.set_cons_succ]
          refine wpAnyH_done (by kernel_rfl) ?_ _
          have u0 := (hHeld.cell (p := ⟨bu, ou + k * 3, none⟩) hbu).trans u0
          have u1 := (hHeld.cell (p := ⟨bu, ou + k * 3 + 1, none⟩) hbu).trans u1
          have u2 := (hHeld.cell (p := ⟨bu, ou + k * 3 + 2, none⟩) hbu).trans u2
          have o0 := (hHeld.cell (p := ⟨g, k * 3, none⟩) hgl).trans o0
          have o1 := (hHeld.cell (p := ⟨g, k * 3 + 1, none⟩) hgl).trans o1
          have o2 := (hHeld.cell (p := ⟨g, k * 3 + 2, none⟩) hgl).trans o2
          have x0 := (hHeld.cell (p := ⟨N, 0, none⟩) hNl).trans x0
          have x1 := (hHeld.cell (p := ⟨N, 1, none⟩) hNl).trans x1
          have x2 := (hHeld.cell (p := ⟨N, 2, none⟩) hNl).trans x2
          have HH := Lib.hid (HB.out.trans (hHeld.mono HB.out.size))
          clear hHeld
          have hq := neq_same x x rfl
          have i0 : (0 : Int) ≤ (k : Int) := by omega
          go_wp2_with fail
          go_quiet (fail)
          clear i0 u0 u1 u2 o0 o1 o2 x0 x1 x2 hq
          go_wp2
          go_roundg (xs.length - (k + 1))
          case rel => exact ⟨k + 1, by omega, rfl, by go_num, Lib.hid (below_drewN HH.out _)⟩
          case measure => omega
      · rw [if_neg hm] at o0 o1 o2
        have HM := Lib.hid hm
        clear hm
        go_wp2_with fail
        refine wp_region_held_drew (S := fun w' => Below (wr).heap.size wr w') (by kernel_rfl) (Below.refl _ wr).drew (fun hHeld => ?_)
        refine wpAnyH_take (i := 0) (v := ?_) rfl (by kernel_rfl) (by kernel_rfl) (by kernel_rfl) (fun _ _ _ h => h) (Or.inl ⟨by rfl, ?_⟩) (by assumption) ?_
        rotate_left
        · (intro wz hSw; clear hSw; have i0 : (0 : Int) ≤ (k : Int) := (by omega); have i1 : (k : Int) < (xs.length : Int) := hlt'; go_simp; try (with_reducible rfl))
        simp only [Act.put, List.getElem_toArray, List.getElem_cons_zero, List.setIfInBounds_toArray, List.set_cons_zero, List.set_cons_succ]
        refine wpAnyH_take (i := 1) (v := ?_) rfl (by kernel_rfl) (by kernel_rfl) (by kernel_rfl) (fun _ _ _ h => h) (Or.inl ⟨by rfl, ?_⟩) (by assumption) ?_
        rotate_left
        · (intro wz hSw; clear hSw; have i0 : (0 : Int) ≤ (k : Int) := (by omega); have i1 : (k : Int) < (xs.length : Int) := hlt'; go_simp; try (with_reducible rfl))
        simp only [Act.put, List.getElem_toArray, List.getElem_cons_zero, List.getElem_cons_succ, List.setIfInBounds_toArray, List.set_cons_zero, List.set_cons_succ]
        refine wpAnyH_ready (rs := [2]) (by kernel_rfl) (by simp) ?_
        refine AllReadyH.cons rfl (fun K hK => ?_) AllReadyH.nil
        rw [if_pos (by rfl)]
        go_wp2_with (go_at_call 14; refine (hasInt_is _ ks _ false (decide_eq_false HM.out) _ (HZW.out.below hHeld (Nat.le_refl _))).mono ?_; rintro e wq ⟨rfl, hwq⟩; have hbq : Below wr.drew.heap.size wr.drew wq := hwq ▸ Below.refl _ _)
        refine hK.out _ _ (hHeld.trans (hbq.mono hHeld.size)) (fun hHeld => ?_)
        clear hK K hbq
        refine wpAnyH_take (i := 3) (v := ?_) rfl (by kernel_rfl) (by kernel_rfl) (by kernel_rfl) (fun _ _ _ h => h) (Or.inl ⟨by rfl, ?_⟩) (by assumption) ?_
        rotate_left
        · (intro wz hSw; clear hSw; have i0 : (0 : Int) ≤ (k : Int) := (by omega); have i1 : (k : Int) < (xs.length : Int) := hlt'; go_simp; try (with_reducible rfl))
        simp only [Act.put, List.getElem_toArray, List.getElem_cons_zero, List.getElem_cons_succ, List.setIfInBounds_toArray, List.set_cons_zero, List.set_cons_succ]
        refine wpAnyH_take (i := 4) (v := undef) rfl (by kernel_rfl) (by kernel_rfl) (by kernel_rfl) (fun _ _ _ h => h) (Or.inr ⟨by rfl, rfl⟩) (by assumption) ?_
        simp only [Act.put, List.getElem_toArray, List.getElem_cons_zero, List.getElem_cons_succ, List.setIfInBounds_toArray, List.set_cons_zero, List.set_cons_succ]
        refine wpAnyH_take (i := 5) (v := undef) rfl (by kernel_rfl) (by kernel_rfl) (by kernel_rfl) (fun _ _ _ h => h) (Or.inr ⟨by rfl, rfl⟩) (by assumption) ?_
        simp only [Act.put, List.getElem_toArray, List.getElem_cons_zero, List.getElem_cons_succ, List.setIfInBounds_toArray, List.set_cons_zero, List.set_cons_succ]
        refine wpAnyH_take (i := 6) (v := undef) rfl (by kernel_rfl) (by kernel_rfl) (by kernel_rfl) (fun _ _ _ h => h) (Or.inr ⟨by rfl, rfl⟩) (by assumption) ?_
        simp only [Act.put, List.getElem_toArray, List.getElem_cons_zero, List.getElem_cons_succ, List.setIfInBounds_toArray, List.set_cons_zero, List.set_cons_succ]
        refine wpAnyH_take (i := 7) (v := undef) rfl (by kernel_rfl) (by kernel_rfl) (by kernel_rfl) (fun _ _ _ h => h) (Or.inr ⟨by rfl, rfl⟩) (by assumption) ?_
        simp only [Act.put, List.getElem_toArray, List.getElem_cons_zero, List.getElem_cons_succ, List.setIfInBounds_toArray, List.set_cons_zero, List.set_cons_succ]
        refine wpAnyH_take (i := 8) (v := undef) rfl (by kernel_rfl) (by kernel_rfl) (by kernel_rfl) (fun _ _ _ h => h) (Or.inr ⟨by rfl, rfl⟩) (by assumption) ?_
        simp only [Act.put, List.getElem_toArray, List.getElem_cons_zero, List.getElem_cons_succ, List.setIfInBounds_toArray, List.set_cons_zero, List.set_cons_succ]
        refine wpAnyH_take (i := 9) (v := undef) rfl (by kernel_rfl) (by kernel_rfl) (by kernel_rfl) (fun _ _ _ h => h) (Or.inr ⟨by rfl, rfl⟩) (by assumption) ?_
        simp only [Act.put, List.getElem_toArray, List.getElem_cons_zero, List.getElem_cons_succ, List.setIfInBounds_toArray, List.set_cons_zero, List.set_cons_succ]
        refine wpAnyH_take (i := 10) (v := ?_) rfl (by kernel_rfl) (by kernel_rfl) (by kernel_rfl) (fun _ _ _ h => h) (Or.inl ⟨by rfl, ?_⟩) (by assumption) ?_
        rotate_left
        · (intro wz hSw; clear hSw; have i0 : (0 : Int) ≤ (k : Int) := (by omega); have i1 : (k : Int) < (xs.length : Int) := hlt'; go_simp; try (with_reducible rfl))
        simp only [Act.put, List.getElem_toArray, List.getElem_cons_zero, List.getElem_cons_succ, List.setIfInBounds_toArray, List.set_cons_zero, List.set_cons_succ]
        refine wpAnyH_done (by kernel_rfl) ?_ _
        have u0 := (hHeld.cell (p := ⟨bu, ou + k * 3, none⟩) hbu).trans u0
        have u1 := (hHeld.cell (p := ⟨bu, ou + k * 3 + 1, none⟩) hbu).trans u1
        have u2 := (hHeld.cell (p := ⟨bu, ou + k * 3 + 2, none⟩) hbu).trans u2
        have o0 := (hHeld.cell (p := ⟨g, k * 3, none⟩) hgl).trans o0
        have o1 := (hHeld.cell (p := ⟨g, k * 3 + 1, none⟩) hgl).trans o1
        have o2 := (hHeld.cell (p := ⟨g, k * 3 + 2, none⟩) hgl).trans o2
        have x0 := (hHeld.cell (p := ⟨N, 0, none⟩) hNl).trans x0
        have x1 := (hHeld.cell (p := ⟨N, 1, none⟩) hNl).trans x1
        have x2 := (hHeld.cell (p := ⟨N, 2, none⟩) hNl).trans x2
        have HH := Lib.hid (HB.out.trans (hHeld.mono HB.out.size))
        clear hHeld
        have hq := neq_same y y rfl
        have i0 : (0 : Int) ≤ (k : Int) := by omega
        go_wp2_with fail
        go_quiet (fail)
        clear i0 u0 u1 u2 o0 o1 o2 x0 x1 x2 hq
        go_wp2
        go_roundg (xs.length - (k + 1))
        case rel => exact ⟨k + 1, by omega, rfl, by go_num, Lib.hid (below_drewN HH.out _)⟩
        case measure => omega
    · obtain rfl : k = xs.length := by omega
      go_wp2_with fail
      refine (iReg_any _ _ _ (by have := (HOA.out.below HB.out (Nat.le_refl _)).at; rw [HPLE.out] at this; exact this)).mono ?_
      rw [HVB.out]
      rintro e wZ ⟨rfl, hbZ⟩
      go_wp2
      ((try simp only [Exit.inBlock, Exit.then]); refine segPost_ret rfl (gt_returned Try.func4 rfl rfl (results_tmp rfl _ _ _) ?_))
      exact ⟨rfl, (KA.out.below HB.out).below hbZ⟩
end Go.Proofs.Ytkefnmmpipeppaa
