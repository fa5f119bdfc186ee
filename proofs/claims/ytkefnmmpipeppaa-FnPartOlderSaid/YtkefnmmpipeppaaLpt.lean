/-
  The law FnPartTwice, beside goroutines that only leave.
-/
import Derived.Test.YtkefnmmpipeppaaGp
import Derived.Test.YtkefnmmpipeppaaPe
import Derived.Test.YtkefnmmpipeppaaDrq
set_option linter.unusedSimpArgs false
set_option linter.unusedVariables false
set_option linter.unusedSectionVars false
namespace Go.Proofs.Ytkefnmmpipeppaa
open Go.Conc Go.ConcN Go.RowKit Go.Conc.Lib Go.ConcR.Gen Go.ConcN.Gen Go.Proofs.Ytkefnmmpipeppaa.Rg
open Go.ConcR (KK wgBlock WgAt stA smA rd wr mk Payload Aside2 DC0 Bk)
variable [Kept]

theorem rPutAll_twice (x : Tr) (rs : List Tr) (ks : List Int) : rPutAll x (rPutAll x rs ks) ks = rPutAll x rs ks :=
  trs_ext (rPutAll_length _ _ _) fun j hj => by
    rw [rPutAll_length, rPutAll_length] at hj
    rw [rPutAll_get _ _ _ (by rw [rPutAll_length]; exact hj), rPutAll_get _ _ _ hj]
    split
    · rw [rPut_put]
    · rfl
theorem partB_twice {x : Tr} {rs : List Tr} {ks : List Int} (h : partB rs ks x = true) : partB (rPutAll x rs ks) ks x = true := by
  unfold partB at h ⊢
  simp only [Bool.and_eq_true] at h ⊢
  obtain ⟨⟨⟨h1, h2⟩, h3⟩, h4⟩ := h
  rw [rPutAll_length, rPutAll_twice]
  exact ⟨⟨⟨h4, h2⟩, h3⟩, h4⟩
theorem partR_twice {x : Tr} {rs : List Tr} {ks : List Int} (h : partB rs ks x = true) : partR (rPutAll x rs ks) ks x = rPutAll x rs ks := by rw [partR_yes (partB_twice h), rPutAll_twice]
theorem closedDP : Closed Try.prog [10, 32, 33, 35, 12, 39, 41, 51, 50, 40, 42, 60, 34, 53, 13] := by
  intro f hf
  simp only [List.mem_cons, List.not_mem_nil, or_false] at hf
  rcases hf with rfl | rfl | rfl | rfl | rfl | rfl | rfl | rfl | rfl | rfl | rfl | rfl | rfl | rfl | rfl <;> kernel_rfl
set_option maxRecDepth 100000 in
set_option maxHeartbeats 4000000 in
theorem fnPartTwiceG (v : World) (vc : Value) (hc : CodeAt v vc) :
    CallsM Try.prog 3 #[vc] v fun z u => z = .bool true ∧ KeepG v u := by
  refine callsM_of_gt Try.func3 rfl fun cs => ?_
  walk_nrmf Try.f3
  have HC := Lib.hid hc
  obtain ⟨pb, n, cap, rfl, hn1, hn2, hn3⟩ := hc
  clear hn3
  unfold maxLen at hn2
  refine gt_code ?_
  refine gt_wpc closedDP (plain_of Try.func3) rfl (by kernel_rfl) (fun w hw => ?_)
  have K1 := Lib.hid (KeepG.of_same hw)
  have HC1 := Lib.hid (HC.out.same hw)
  clear hw HC
  go_wp2
  ((try simp only [Exit.inBlock, Exit.then]); refine segPost_nil rfl ?_)
  refine gt_code ?_
  obtain ⟨v1, hv1⟩ : ∃ v1, w = v1 := ⟨_, rfl⟩
  subst hv1
  refine gt_wpc closedDP (plain_of Try.func3) rfl (by kernel_rfl) (fun w hw => ?_)
  have K2 := Lib.hid (K1.out.same hw)
  have HC2 := Lib.hid (HC1.out.same hw)
  clear hw K1 HC1
  by_cases hbig : (1048576 : Int) < (n : Int)
  · go_wp2
    ((try simp only [Exit.inBlock, Exit.then]); refine segPost_ret rfl (gt_returned Try.func3 rfl rfl (results_tmp rfl _ _ _) ?_))
    exact ⟨rfl, K2.out⟩
  go_wp2
  ((try simp only [Exit.inBlock, Exit.then]); refine segPost_nil rfl ?_)
  refine gt_code ?_
  refine gt_wpc closedDP (plain_of Try.func3) rfl (by kernel_rfl) (fun w hw => ?_)
  have K3 := Lib.hid (K2.out.same hw)
  have HC3 := Lib.hid (HC2.out.same hw)
  clear hw K2 HC2
  go_wp2_with fail
  refine (drawPart_any _ _ HC3.out).mono ?_
  rintro e w1 ⟨u, xs, z, ks, x, rfl, hu, hz, hl1, hl2, hl3, hb⟩
  have hbox := heap_alloc_new w1 (.cells #[.int .i64 x.a, .int .i64 x.b, .int .i64 x.c] 26)
  have hA := (Below.refl w1.heap.size w1).alloc (Nat.le_refl _) (.cells #[.int .i64 x.a, .int .i64 x.b, .int .i64 x.c] 26)
  have K4 := Lib.hid ((K3.out.below hb).below hA)
  have HU4 := Lib.hid (hu.below hA (Nat.le_refl _))
  have HZ4 := Lib.hid (hz.below hA (Nat.le_refl _))
  have hs4 : (w1.alloc (.cells #[.int .i64 x.a, .int .i64 x.b, .int .i64 x.c] 26)).heap.size = w1.heap.size + 1 := by simp
  obtain ⟨pu, cu, rfl, hu1, hu2⟩ := hu.form
  clear hA hb K3 HC3
  go_wp2
  ((try simp only [Exit.inBlock, Exit.then]); refine segPost_nil rfl ?_)
  obtain ⟨N, hN⟩ : ∃ N, w1.heap.size = N := ⟨_, rfl⟩
  obtain ⟨v4, hv4⟩ : ∃ v4, w1.alloc (.cells #[.int .i64 x.a, .int .i64 x.b, .int .i64 x.c] 26) = v4 := ⟨_, rfl⟩
  rw [hN] at hbox hs4 ⊢
  rw [hv4] at hbox K4 HU4 HZ4 hs4 ⊢
  have HX4 := Lib.hid hbox
  clear hN hv4 hu hz hbox
  refine gt_code ?_
  refine gt_region ?_
  simp only [List.size_toArray, List.length_cons, List.length_nil, Nat.reduceAdd, Nat.zero_add, List.range, List.range.loop]
  refine gt_op closedDP rfl rfl (by kernel_rfl) rfl (z := ?_) (v' := _) (fun u hu => ⟨u, ?_, hu⟩) ?_
  rotate_left
  · skip
    go_simp
    try (with_reducible rfl)
  walk_nrm
  refine gt_op closedDP rfl rfl (by kernel_rfl) rfl (z := ?_) (v' := _) (fun u hu => ⟨u, ?_, hu⟩) ?_
  rotate_left
  · skip
    go_simp
    try (with_reducible rfl)
  walk_nrm
  obtain ⟨x0, x1, x2⟩ := cells3 HX4.out
  refine gt_op closedDP rfl rfl (by kernel_rfl) rfl (z := ?_) (v' := _) (fun u hu => ⟨u, ?_, hu⟩) ?_
  rotate_left
  · have s0 := (same_cell hu _).trans x0; have s1 := (same_cell hu _).trans x1; have s2 := (same_cell hu _).trans x2
    go_simp
    try (with_reducible rfl)
  walk_nrm
  clear x0 x1 x2
  refine gt_call rfl rfl rfl (f := 11) (args := #[.slice pu xs.length cu, z, .agg #[.int .i64 x.a, .int .i64 x.b, .int .i64 x.c]]) (fun u => ⟨?_, ?_⟩) (iPartG v4 _ _ xs ks x HU4.out HZ4.out) (fun y5 v5 hy => ?_)
  · go_simp
  · simp [go_sem, callFunc, Try.func11, Try.f11]
  obtain ⟨y, rfl, hO5, hK5⟩ := hy
  have K5 := Lib.hid (K4.out.trans hK5)
  have HO5 := Lib.hid hO5
  have HU5 := Lib.hid (HU4.out.keep hK5)
  have HZ5 := Lib.hid (HZ4.out.keep hK5)
  have HX5 := Lib.hid ((hK5.block N (by omega)).trans HX4.out)
  have hs5 := hK5.size
  clear hO5 hK5
  walk_nrm
  refine gt_op closedDP rfl rfl (by kernel_rfl) rfl (z := ?_) (v' := _) (fun u hu => ⟨u, ?_, hu⟩) ?_
  rotate_left
  · skip
    go_simp
    try (with_reducible rfl)
  walk_nrm
  refine gt_op closedDP rfl rfl (by kernel_rfl) rfl (z := ?_) (v' := _) (fun u hu => ⟨u, ?_, hu⟩) ?_
  rotate_left
  · skip
    go_simp
    try (with_reducible rfl)
  walk_nrm
  refine gt_op closedDP rfl rfl (by kernel_rfl) rfl (z := ?_) (v' := _) (fun u hu => ⟨u, ?_, hu⟩) ?_
  rotate_left
  · skip
    go_simp
    try (with_reducible rfl)
  walk_nrm
  refine gt_op closedDP rfl rfl (by kernel_rfl) rfl (z := ?_) (v' := _) (fun u hu => ⟨u, ?_, hu⟩) ?_
  rotate_left
  · skip
    go_simp
    try (with_reducible rfl)
  walk_nrm
  refine gt_op closedDP rfl rfl (by kernel_rfl) rfl (z := ?_) (v' := _) (fun u hu => ⟨u, ?_, hu⟩) ?_
  rotate_left
  · skip
    go_simp
    try (with_reducible rfl)
  walk_nrm
  refine gt_region_end ?_
  refine gt_code ?_
  refine gt_wpc closedDP (plain_of Try.func3) rfl (by kernel_rfl) (fun w hw => ?_)
  have K6 := Lib.hid (K5.out.same hw)
  have HO6 := Lib.hid (HO5.out.same hw)
  have HU6 := Lib.hid (HU5.out.same hw)
  have HZ6 := Lib.hid (HZ5.out.same hw)
  have HX6 := Lib.hid (show w.heap[N]? = some (.cells #[.int .i64 x.a, .int .i64 x.b, .int .i64 x.c] 26) from by rw [hw.heap]; exact HX5.out)
  have hs6 : N < w.heap.size := by rw [hw.heap]; omega
  clear hw K5 HO5 HU5 HZ5 HX5
  obtain ⟨x0, x1, x2⟩ := cells3 HX6.out
  go_wp2_with fail
  refine (sPart_any _ _ xs ks x _ HU6.out HZ6.out (by omega)).mono ?_
  rintro e w7 ⟨y', rfl, hO7, hb7⟩
  have K7 := Lib.hid (K6.out.below hb7)
  have HO7 := Lib.hid (HO6.out.below hb7 (Nat.le_refl _))
  have HQ7 := Lib.hid hO7
  have HU7 := Lib.hid (HU6.out.below hb7 (Nat.le_refl _))
  have HZ7 := Lib.hid (HZ6.out.below hb7 (Nat.le_refl _))
  have HX7 := Lib.hid ((hb7.block N hs6).trans HX6.out)
  have hs7 : N < w7.heap.size := Nat.lt_of_lt_of_le hs6 hb7.size
  clear hO7 hb7 x0 x1 x2 K6 HO6 HU6 HZ6 HX6
  go_wp2
  ((try simp only [Exit.inBlock, Exit.then]); refine segPost_nil rfl ?_)
  refine gt_code ?_
  refine gt_wpc closedDP (plain_of Try.func3) rfl (by kernel_rfl) (fun w hw => ?_)
  have K8 := Lib.hid (K7.out.same hw)
  have HO8 := Lib.hid (HO7.out.same hw)
  have HQ8 := Lib.hid (HQ7.out.same hw)
  have HU8 := Lib.hid (HU7.out.same hw)
  have HZ8 := Lib.hid (HZ7.out.same hw)
  have HX8 := Lib.hid (show w.heap[N]? = some (.cells #[.int .i64 x.a, .int .i64 x.b, .int .i64 x.c] 26) from by rw [hw.heap]; exact HX7.out)
  have hs8 : N < w.heap.size := by rw [hw.heap]; exact hs7
  clear hw K7 HO7 HQ7 HU7 HZ7 HX7
  rcases hok : partB xs ks x with _ | _
  · have HOK := Lib.hid hok
    clear hok
    go_wp2_with (go_at_call 13; with_reducible refine (sameReplicas_any _ _ _ _ _ HO8.out.at HQ8.out.at).mono ?_; rw [decide_eq_true rfl]; rintro e w9 ⟨rfl, hb9⟩; have K9 := Lib.hid (K8.out.below hb9); have HO9 := Lib.hid (HO8.out.below hb9 (Nat.le_refl _)); have HQ9 := Lib.hid (HQ8.out.below hb9 (Nat.le_refl _)))
    refine (sameReplicas_any _ _ _ _ _ HO9.out.at HQ9.out.at).mono ?_
    rw [decide_eq_true rfl]
    rintro e wA ⟨rfl, hbA⟩
    go_wp2
    ((try simp only [Exit.inBlock, Exit.then]); refine segPost_ret rfl (gt_returned Try.func3 rfl rfl (results_tmp rfl _ _ _) ?_))
    exact ⟨rfl, K9.out.below hbA⟩
  have HOK := Lib.hid hok
  clear hok
  go_wp2_with (go_at_call 13; with_reducible refine (sameReplicas_any _ _ _ _ _ HO8.out.at HQ8.out.at).mono ?_; rw [decide_eq_true rfl]; rintro e w9 ⟨rfl, hb9⟩)
  have K9 := Lib.hid (K8.out.below hb9)
  have HO9 := Lib.hid (show TrsOwn w9 v4.heap.size 26 y (rPutAll x xs ks) from by rw [← partR_yes HOK.out]; exact HO8.out.below hb9 (Nat.le_refl _))
  have HU9 := Lib.hid (HU8.out.below hb9 (Nat.le_refl _))
  have HZ9 := Lib.hid (HZ8.out.below hb9 (Nat.le_refl _))
  have HX9 := Lib.hid ((hb9.block N hs8).trans HX8.out)
  have hs9 : N < w9.heap.size := Nat.lt_of_lt_of_le hs8 hb9.size
  clear hb9 K8 HO8 HQ8 HU8 HZ8 HX8
  ((try simp only [Exit.inBlock, Exit.then]); refine segPost_nil rfl ?_)
  refine gt_code ?_
  refine gt_region ?_
  simp only [List.size_toArray, List.length_cons, List.length_nil, Nat.reduceAdd, Nat.zero_add, List.range, List.range.loop]
  refine gt_op closedDP rfl rfl (by kernel_rfl) rfl (z := ?_) (v' := _) (fun u hu => ⟨u, ?_, hu⟩) ?_
  rotate_left
  · skip
    go_simp
    try (with_reducible rfl)
  walk_nrm
  refine gt_op closedDP rfl rfl (by kernel_rfl) rfl (z := ?_) (v' := _) (fun u hu => ⟨u, ?_, hu⟩) ?_
  rotate_left
  · skip
    go_simp
    try (with_reducible rfl)
  walk_nrm
  obtain ⟨x0, x1, x2⟩ := cells3 HX9.out
  refine gt_op closedDP rfl rfl (by kernel_rfl) rfl (z := ?_) (v' := _) (fun u hu => ⟨u, ?_, hu⟩) ?_
  rotate_left
  · have s0 := (same_cell hu _).trans x0; have s1 := (same_cell hu _).trans x1; have s2 := (same_cell hu _).trans x2
    go_simp
    try (with_reducible rfl)
  walk_nrm
  clear x0 x1 x2
  refine gt_call rfl rfl rfl (f := 11) (args := #[y, z, .agg #[.int .i64 x.a, .int .i64 x.b, .int .i64 x.c]]) (fun u => ⟨?_, ?_⟩) (iPartG w9 _ _ (rPutAll x xs ks) ks x HO9.out.at HZ9.out) (fun y10 v10 hy => ?_)
  · go_simp
  · simp [go_sem, callFunc, Try.func11, Try.f11]
  unfold PartG at hy
  rw [partB_twice HOK.out, partR_twice HOK.out] at hy
  obtain ⟨yb, rfl, hOb, hKb⟩ := hy
  have KB := Lib.hid (K9.out.trans hKb)
  have HOB := Lib.hid hOb
  have HQB := Lib.hid (HO9.out.keep hKb)
  clear hOb hKb
  walk_nrm
  refine gt_op closedDP rfl rfl (by kernel_rfl) rfl (z := ?_) (v' := _) (fun u hu => ⟨u, ?_, hu⟩) ?_
  rotate_left
  · skip
    go_simp
    try (with_reducible rfl)
  walk_nrm
  refine gt_op closedDP rfl rfl (by kernel_rfl) rfl (z := ?_) (v' := _) (fun u hu => ⟨u, ?_, hu⟩) ?_
  rotate_left
  · skip
    go_simp
    try (with_reducible rfl)
  walk_nrm
  refine gt_op closedDP rfl rfl (by kernel_rfl) rfl (z := ?_) (v' := _) (fun u hu => ⟨u, ?_, hu⟩) ?_
  rotate_left
  · skip
    go_simp
    try (with_reducible rfl)
  walk_nrm
  refine gt_op closedDP rfl rfl (by kernel_rfl) rfl (z := ?_) (v' := _) (fun u hu => ⟨u, ?_, hu⟩) ?_
  rotate_left
  · skip
    go_simp
    try (with_reducible rfl)
  walk_nrm
  refine gt_op closedDP rfl rfl (by kernel_rfl) rfl (z := ?_) (v' := _) (fun u hu => ⟨u, ?_, hu⟩) ?_
  rotate_left
  · skip
    go_simp
    try (with_reducible rfl)
  walk_nrm
  refine gt_region_end ?_
  refine gt_wpc closedDP (plain_of Try.func3) rfl (by kernel_rfl) (fun w hw => ?_)
  have HQC := Lib.hid (HQB.out.same hw)
  have HOC := Lib.hid (HOB.out.same hw)
  have KC := Lib.hid (KB.out.same hw)
  clear hw
  go_wp2_with fail
  refine (sameReplicas_any _ _ _ _ _ HOC.out.at HQC.out.at).mono ?_
  rw [decide_eq_true rfl]
  rintro e wD ⟨rfl, hbD⟩
  go_wp2
  ((try simp only [Exit.inBlock, Exit.then]); refine segPost_ret rfl (gt_returned Try.func3 rfl rfl (results_tmp rfl _ _ _) ?_))
  exact ⟨rfl, KC.out.below hbD⟩
end Go.Proofs.Ytkefnmmpipeppaa
