/-
  The law FnPartFinished, beside goroutines that only leave.
-/
import Derived.Test.YtkefnmmpipeppaaGr
import Derived.Test.YtkefnmmpipeppaaLpt
import Derived.Test.YtkefnmmpipeppaaPc
set_option linter.unusedSimpArgs false
set_option linter.unusedVariables false
set_option linter.unusedSectionVars false
namespace Go.Proofs.Ytkefnmmpipeppaa
open Go.Conc Go.ConcN Go.RowKit Go.Conc.Lib Go.ConcR.Gen Go.ConcN.Gen Go.Proofs.Ytkefnmmpipeppaa.Rg
open Go.ConcR (KK wgBlock WgAt stA smA rd wr mk Payload Aside2 DC0 Bk)
variable [Kept]

theorem closedPF : Closed Try.prog [10, 32, 33, 35, 12, 39, 41, 51, 50, 40, 42, 60, 34, 53, 13, 15, 26, 28, 48, 46, 47, 36, 16, 37, 44, 43, 54] := by
  intro f hf
  simp only [List.mem_cons, List.not_mem_nil, or_false] at hf
  rcases hf with rfl | rfl | rfl | rfl | rfl | rfl | rfl | rfl | rfl | rfl | rfl | rfl | rfl | rfl | rfl | rfl | rfl | rfl | rfl | rfl | rfl | rfl | rfl | rfl | rfl | rfl | rfl <;> kernel_rfl
set_option maxRecDepth 100000 in
set_option maxHeartbeats 16000000 in
theorem fnPartFinishedG (v : World) (vc vd : Value) (hc : CodeAt v vc) (hd : CodeAt v vd) :
    CallsM Try.prog 6 #[vc, vd] v fun z u => z = .bool true ∧ KeepG v u := by
  refine callsM_of_gt Try.func6 rfl fun cs => ?_
  walk_nrmf Try.f6
  have HC := Lib.hid hc
  have HD := Lib.hid hd
  obtain ⟨pb, n, cap, rfl, hn1, hn2, hn3⟩ := hc
  obtain ⟨pb', n', cap', rfl, hn1', hn2', hn3'⟩ := hd
  clear hn3 hn3'
  unfold maxLen at hn2 hn2'
  refine gt_code ?_
  refine gt_wpc closedPF (plain_of Try.func6) rfl (by kernel_rfl) (fun w hw => ?_)
  have K1 := Lib.hid (KeepG.of_same hw)
  have HC1 := Lib.hid (HC.out.same hw)
  have HD1 := Lib.hid (HD.out.same hw)
  clear hw HC HD
  go_wp2
  ((try simp only [Exit.inBlock, Exit.then]); refine segPost_nil rfl ?_)
  refine gt_code ?_
  obtain ⟨v1, hv1⟩ : ∃ v1, w = v1 := ⟨_, rfl⟩
  subst hv1
  refine gt_wpc closedPF (plain_of Try.func6) rfl (by kernel_rfl) (fun w hw => ?_)
  have K2 := Lib.hid (K1.out.same hw)
  have HC2 := Lib.hid (HC1.out.same hw)
  have HD2 := Lib.hid (HD1.out.same hw)
  clear hw K1 HC1 HD1
  by_cases hbig : (1048576 : Int) < (n : Int)
  · go_wp2
    ((try simp only [Exit.inBlock, Exit.then]); refine segPost_ret rfl (gt_returned Try.func6 rfl rfl (results_tmp rfl _ _ _) ?_))
    exact ⟨rfl, K2.out⟩
  by_cases hbig' : (1048576 : Int) < (n' : Int)
  · go_wp2
    ((try simp only [Exit.inBlock, Exit.then]); refine segPost_ret rfl (gt_returned Try.func6 rfl rfl (results_tmp rfl _ _ _) ?_))
    exact ⟨rfl, K2.out⟩
  go_wp2
  ((try simp only [Exit.inBlock, Exit.then]); refine segPost_nil rfl ?_)
  refine gt_code ?_
  refine gt_wpc closedPF (plain_of Try.func6) rfl (by kernel_rfl) (fun w hw => ?_)
  have K3 := Lib.hid (K2.out.same hw)
  have HC3 := Lib.hid (HC2.out.same hw)
  clear hw K2 HC2
  go_wp2_with fail
  refine (drawPart_any _ _ HC3.out).mono ?_
  rintro e w1 ⟨u, xs, z, ks, x, rfl, hu, hz, hl1, hl2, hl3, hb⟩
  have hbox := heap_alloc_new w1 (.cells #[.int .i64 x.a, .int .i64 x.b, .int .i64 x.c] 26)
  have hA := (Below.refl w1.heap.size w1).alloc (Nat.le_refl _) (.cells #[.int .i64 x.a, .int .i64 x.b, .int .i64 x.c] 26)
  have K4 := Lib.hid ((K3.out.below hb).below hA)
  have HU4 := Lib.hid (hu.below hA (Nat.le_refl _))
  have HZ4 := Lib.hid (hz.below hA (Nat.le_refl _))
  have hs4 : (w1.alloc (.cells #[.int .i64 x.a, .int .i64 x.b, .int .i64 x.c] 26)).heap.size = w1.heap.size + 1 := by simp
  obtain ⟨pu, cu, rfl, hu1, hu2⟩ := hu.form
  clear hA hb K3 HC3
  go_wp2
  ((try simp only [Exit.inBlock, Exit.then]); refine segPost_nil rfl ?_)
  obtain ⟨N, hN⟩ : ∃ N, w1.heap.size = N := ⟨_, rfl⟩
  obtain ⟨v4, hv4⟩ : ∃ v4, w1.alloc (.cells #[.int .i64 x.a, .int .i64 x.b, .int .i64 x.c] 26) = v4 := ⟨_, rfl⟩
  rw [hN] at hbox hs4 ⊢
  rw [hv4] at hbox K4 HU4 HZ4 hs4 ⊢
  have HX4 := Lib.hid hbox
  clear hN hv4 hu hz hbox
  refine gt_code ?_
  refine gt_region ?_
  simp only [List.size_toArray, List.length_cons, List.length_nil, Nat.reduceAdd, Nat.zero_add, List.range, List.range.loop]
  refine gt_op closedPF rfl rfl (by kernel_rfl) rfl (z := ?_) (v' := _) (fun u hu => ⟨u, ?_, hu⟩) ?_
  rotate_left
  · skip
    go_simp
    try (with_reducible rfl)
  walk_nrm
  refine gt_op closedPF rfl rfl (by kernel_rfl) rfl (z := ?_) (v' := _) (fun u hu => ⟨u, ?_, hu⟩) ?_
  rotate_left
  · skip
    go_simp
    try (with_reducible rfl)
  walk_nrm
  obtain ⟨x0, x1, x2⟩ := cells3 HX4.out
  refine gt_op closedPF rfl rfl (by kernel_rfl) rfl (z := ?_) (v' := _) (fun u hu => ⟨u, ?_, hu⟩) ?_
  rotate_left
  · have s0 := (same_cell hu _).trans x0; have s1 := (same_cell hu _).trans x1; have s2 := (same_cell hu _).trans x2
    go_simp
    try (with_reducible rfl)
  walk_nrm
  clear x0 x1 x2
  refine gt_call rfl rfl rfl (f := 11) (args := #[.slice pu xs.length cu, z, .agg #[.int .i64 x.a, .int .i64 x.b, .int .i64 x.c]]) (fun u => ⟨?_, ?_⟩) (iPartG v4 _ _ xs ks x HU4.out HZ4.out) (fun y5 v5 hy => ?_)
  · go_simp
  · simp [go_sem, callFunc, Try.func11, Try.f11]
  obtain ⟨y, rfl, hO5, hK5⟩ := hy
  have K5 := Lib.hid (K4.out.trans hK5)
  have HO5 := Lib.hid hO5
  have HU5 := Lib.hid (HU4.out.keep hK5)
  have HZ5 := Lib.hid (HZ4.out.keep hK5)
  have HX5 := Lib.hid ((hK5.block N (by omega)).trans HX4.out)
  have hs5 := hK5.size
  clear hO5 hK5
  walk_nrm
  refine gt_op closedPF rfl rfl (by kernel_rfl) rfl (z := ?_) (v' := _) (fun u hu => ⟨u, ?_, hu⟩) ?_
  rotate_left
  · skip
    go_simp
    try (with_reducible rfl)
  walk_nrm
  refine gt_op closedPF rfl rfl (by kernel_rfl) rfl (z := ?_) (v' := _) (fun u hu => ⟨u, ?_, hu⟩) ?_
  rotate_left
  · skip
    go_simp
    try (with_reducible rfl)
  walk_nrm
  refine gt_op closedPF rfl rfl (by kernel_rfl) rfl (z := ?_) (v' := _) (fun u hu => ⟨u, ?_, hu⟩) ?_
  rotate_left
  · skip
    go_simp
    try (with_reducible rfl)
  walk_nrm
  refine gt_op closedPF rfl rfl (by kernel_rfl) rfl (z := ?_) (v' := _) (fun u hu => ⟨u, ?_, hu⟩) ?_
  rotate_left
  · skip
    go_simp
    try (with_reducible rfl)
  walk_nrm
  refine gt_op closedPF rfl rfl (by kernel_rfl) rfl (z := ?_) (v' := _) (fun u hu => ⟨u, ?_, hu⟩) ?_
  rotate_left
  · skip
    go_simp
    try (with_reducible rfl)
  walk_nrm
  refine gt_region_end ?_
  refine gt_code ?_
  refine gt_wpc closedPF (plain_of Try.func6) rfl (by kernel_rfl) (fun w hw => ?_)
  have K6 := Lib.hid (K5.out.same hw)
  have HO6 := Lib.hid (HO5.out.same hw)
  have HU6 := Lib.hid (HU5.out.same hw)
  have HZ6 := Lib.hid (HZ5.out.same hw)
  have HX6 := Lib.hid (show w.heap[N]? = some (.cells #[.int .i64 x.a, .int .i64 x.b, .int .i64 x.c] 26) from by rw [hw.heap]; exact HX5.out)
  have hs6 : N < w.heap.size := by rw [hw.heap]; omega
  clear hw K5 HO5 HU5 HZ5 HX5
  obtain ⟨x0, x1, x2⟩ := cells3 HX6.out
  go_wp2_with fail
  refine (sPart_any _ _ xs ks x _ HU6.out HZ6.out (by omega)).mono ?_
  rintro e w7 ⟨y', rfl, hO7, hb7⟩
  have K7 := Lib.hid (K6.out.below hb7)
  have HO7 := Lib.hid (HO6.out.below hb7 (Nat.le_refl _))
  have HQ7 := Lib.hid hO7
  have HU7 := Lib.hid (HU6.out.below hb7 (Nat.le_refl _))
  have HZ7 := Lib.hid (HZ6.out.below hb7 (Nat.le_refl _))
  have HX7 := Lib.hid ((hb7.block N hs6).trans HX6.out)
  have hs7 : N < w7.heap.size := Nat.lt_of_lt_of_le hs6 hb7.size
  clear hO7 hb7 x0 x1 x2 K6 HO6 HU6 HZ6 HX6
  go_wp2
  ((try simp only [Exit.inBlock, Exit.then]); refine segPost_nil rfl ?_)
  refine gt_code ?_
  refine gt_wpc closedPF (plain_of Try.func6) rfl (by kernel_rfl) (fun w hw => ?_)
  have K8 := Lib.hid (K7.out.same hw)
  have HO8 := Lib.hid (HO7.out.same hw)
  have HQ8 := Lib.hid (HQ7.out.same hw)
  have HU8 := Lib.hid (HU7.out.same hw)
  have HZ8 := Lib.hid (HZ7.out.same hw)
  have HX8 := Lib.hid (show w.heap[N]? = some (.cells #[.int .i64 x.a, .int .i64 x.b, .int .i64 x.c] 26) from by rw [hw.heap]; exact HX7.out)
  have hs8 : N < w.heap.size := by rw [hw.heap]; exact hs7
  clear hw K7 HO7 HQ7 HU7 HZ7 HX7
  rcases hok : partB xs ks x with _ | _
  · have HOK := Lib.hid hok
    clear hok
    go_wp2_with (go_at_call 13; with_reducible refine (sameReplicas_any _ _ _ _ _ HO8.out.at HQ8.out.at).mono ?_; rw [decide_eq_true rfl]; rintro e w9 ⟨rfl, hb9⟩; have K9 := Lib.hid (K8.out.below hb9); have HO9 := Lib.hid (HO8.out.below hb9 (Nat.le_refl _)); have HQ9 := Lib.hid (HQ8.out.below hb9 (Nat.le_refl _)))
    refine (sameReplicas_any _ _ _ _ _ HO9.out.at HQ9.out.at).mono ?_
    rw [decide_eq_true rfl]
    rintro e wA ⟨rfl, hbA⟩
    go_wp2
    ((try simp only [Exit.inBlock, Exit.then]); refine segPost_ret rfl (gt_returned Try.func6 rfl rfl (results_tmp rfl _ _ _) ?_))
    exact ⟨rfl, K9.out.below hbA⟩
  have HOK := Lib.hid hok
  clear hok
  go_wp2_with (go_at_call 13; with_reducible refine (sameReplicas_any _ _ _ _ _ HO8.out.at HQ8.out.at).mono ?_; rw [decide_eq_true rfl]; rintro e w9 ⟨rfl, hb9⟩)
  have K9 := Lib.hid (K8.out.below hb9)
  have HO9 := Lib.hid (show TrsOwn w9 v4.heap.size 26 y (rPutAll x xs ks) from by rw [← partR_yes HOK.out]; exact HO8.out.below hb9 (Nat.le_refl _))
  have HU9 := Lib.hid (HU8.out.below hb9 (Nat.le_refl _))
  have HZ9 := Lib.hid (HZ8.out.below hb9 (Nat.le_refl _))
  have HX9 := Lib.hid ((hb9.block N hs8).trans HX8.out)
  have hs9 : N < w9.heap.size := Nat.lt_of_lt_of_le hs8 hb9.size
  clear hb9 K8 HO8 HQ8 HU8 HZ8 HX8
  ((try simp only [Exit.inBlock, Exit.then]); refine segPost_nil rfl ?_)
  obtain ⟨O, hO⟩ : ∃ O, rPutAll x xs ks = O := ⟨_, rfl⟩
  have HVB := Lib.hid (show regB O = true by have := HOK.out; unfold partB at this; simp only [Bool.and_eq_true] at this; rw [← hO]; exact this.2)
  rw [hO] at HO9
  have hOl : O.length = xs.length := by rw [← hO, rPutAll_length]
  have hl5 := regB_len HVB.out
  clear hO
  obtain ⟨gy, cy, rfl, gy1, gy2, gy3, gy4⟩ := HO9.out.form (by omega)
  obtain ⟨l, hll⟩ : ∃ l, O.length = l := ⟨_, rfl⟩
  rw [hll] at hl5 gy1 ⊢
  have HO9 := Lib.hid (show TrsOwn w9 v4.heap.size 26 (.slice (some ⟨gy, 0, none⟩) l cy) O by rw [← hll]; exact HO9.out)
  have HLL := Lib.hid hll
  clear hll hOl
  -- all
  refine gt_code ?_
  refine gt_wpc closedPF (plain_of Try.func6) rfl (by kernel_rfl) (fun w hw => ?_)
  have KA := Lib.hid (K9.out.same hw)
  have HOA := Lib.hid (HO9.out.same hw)
  clear hw K9 HO9 HU9 HZ9 HX9
  go_wp2_with fail
  refine (everyone_any l _ (by omega)).mono ?_
  rintro e wE ⟨a, rfl, hE, hbE⟩
  obtain ⟨g, cg, rfl, gc1, gc2, gB, gl⟩ := hE.form
  have hEl : ((List.range l).map Int.ofNat).length = l := by simp
  rw [hEl] at gc1 hE
  unfold maxLen at gc2
  have HE := Lib.hid hE
  have HOE := Lib.hid (HOA.out.below hbE (Nat.le_refl _))
  have KE := Lib.hid (KA.out.below hbE)
  clear hE hbE KA HOA
  go_wp2_with fail
  try rw [hEl]
  ((try simp only [Exit.inBlock, Exit.then]); refine segPost_nil rfl ?_)
  -- the read
  obtain ⟨D, hD⟩ : ∃ D, l - l / 2 = D := ⟨_, rfl⟩
  have hDp : 0 < D := by omega
  obtain ⟨k, hke⟩ : ∃ k, n' % D = k := ⟨_, rfl⟩
  have hkd' : k < l - l / 2 := by rw [hD, ← hke]; exact Nat.mod_lt _ hDp
  have hw1 : IntKind.i64.wrap ((l : Int) / 2) = (l : Int) / 2 := IntWalk.i64_in _ (by omega)
  have hw2 : IntKind.i64.wrap ((l : Int) - (l : Int) / 2) = (D : Int) := by
    have : (l : Int) - (l : Int) / 2 = (D : Int) := by omega
    rw [this]; exact IntWalk.i64_in _ (by omega)
  have hDz : ¬ (D = 0) := by omega
  have hmk : (n' : Int).tmod (D : Int) = (k : Int) := by rw [← hke]; rfl
  have hk0 : (0 : Int) ≤ (k : Int) := by omega
  have hkl : (k : Int) ≤ (l : Int) := by omega
  have hkc : (k : Int) ≤ (cg : Int) := by omega
  have hcc : cg ≠ k := by omega
  refine gt_code ?_
  refine gt_region ?_
  simp only [List.size_toArray, List.length_cons, List.length_nil, Nat.reduceAdd, Nat.zero_add, List.range, List.range.loop]
  refine gt_op closedPF rfl rfl (by kernel_rfl) rfl (z := ?_) (v' := _) (fun u hu => ⟨u, ?_, hu⟩) ?_
  rotate_left
  · skip
    go_simp
    try (with_reducible rfl)
  walk_nrm
  refine gt_op closedPF rfl rfl (by kernel_rfl) rfl (z := ?_) (v' := _) (fun u hu => ⟨u, ?_, hu⟩) ?_
  rotate_left
  · skip
    go_simp
    try (with_reducible rfl)
  walk_nrm
  refine gt_op closedPF rfl rfl (by kernel_rfl) rfl (z := ?_) (v' := _) (fun u hu => ⟨u, ?_, hu⟩) ?_
  rotate_left
  · skip
    go_simp
    try (with_reducible rfl)
  walk_nrm
  refine gt_op closedPF rfl rfl (by kernel_rfl) rfl (z := ?_) (v' := _) (fun u hu => ⟨u, ?_, hu⟩) ?_
  rotate_left
  · skip
    go_simp
    try (with_reducible rfl)
  walk_nrm
  refine gt_op closedPF rfl rfl (by kernel_rfl) rfl (z := ?_) (v' := _) (fun u hu => ⟨u, ?_, hu⟩) ?_
  rotate_left
  · skip
    go_simp
    try (with_reducible rfl)
  walk_nrm
  refine gt_op closedPF rfl rfl (by kernel_rfl) rfl (z := ?_) (v' := _) (fun u hu => ⟨u, ?_, hu⟩) ?_
  rotate_left
  · skip
    go_simp
    try (with_reducible rfl)
  walk_nrm
  refine gt_op closedPF rfl rfl (by kernel_rfl) rfl (z := ?_) (v' := _) (fun u hu => ⟨u, ?_, hu⟩) ?_
  rotate_left
  · skip
    go_simp
    try (with_reducible rfl)
  walk_nrm
  refine gt_op closedPF rfl rfl (by kernel_rfl) rfl (z := ?_) (v' := _) (fun u hu => ⟨u, ?_, hu⟩) ?_
  rotate_left
  · skip
    go_simp
    try (with_reducible rfl)
  walk_nrm
  refine gt_op closedPF rfl rfl (by kernel_rfl) rfl (z := ?_) (v' := _) (fun u hu => ⟨u, ?_, hu⟩) ?_
  rotate_left
  · skip
    go_simp
    try (with_reducible rfl)
  walk_nrm
  refine gt_op closedPF rfl rfl (by kernel_rfl) rfl (z := ?_) (v' := _) (fun u hu => ⟨u, ?_, hu⟩) ?_
  rotate_left
  · skip
    go_simp
    try (with_reducible rfl)
  walk_nrm
  refine gt_op closedPF rfl rfl (by kernel_rfl) rfl (z := ?_) (v' := _) (fun u hu => ⟨u, ?_, hu⟩) ?_
  rotate_left
  · skip
    go_simp
    try (with_reducible rfl)
  walk_nrm
  refine gt_op closedPF rfl rfl (by kernel_rfl) rfl (z := ?_) (v' := _) (fun u hu => ⟨u, ?_, hu⟩) ?_
  rotate_left
  · skip
    go_simp
    try (with_reducible rfl)
  walk_nrm
  refine gt_op closedPF rfl rfl (by kernel_rfl) rfl (z := ?_) (v' := _) (fun u hu => ⟨u, ?_, hu⟩) ?_
  rotate_left
  · skip
    go_simp
    try (with_reducible rfl)
  walk_nrm
  have HAO := Lib.hid (show askB O (fromK l 0) = true by unfold askB; rw [HVB.out, HLL.out, firstK_maj (Nat.le_refl l) (by omega)]; rfl)
  have HRB := Lib.hid (show rdB O (fromK l 0) (fromK l k) = true by unfold rdB; rw [HAO.out, HLL.out, fromK_maj hkd']; rfl)
  refine gt_call rfl rfl rfl (f := 27) (args := #[.slice (some ⟨gy, 0, none⟩) l cy, .slice (some ⟨g, 0, none⟩) l cg, .slice (some ⟨g, k, none⟩) (l - k) (cg - k)]) (fun u => ⟨?_, ?_⟩) (iReadG wE _ _ _ O (fromK l 0) (fromK l k) HOE.out.at (firstK_at HE.out (Nat.le_refl _) (by omega)) (fromK_at HE.out (by omega)) (by rw [fromK_length]; omega) (by rw [fromK_length]; omega)) (fun y9 v9 hy => ?_)
  · go_simp
  · simp [go_sem, callFunc, Try.func27, Try.f27]
  unfold ReadG at hy
  rw [HRB.out, (rdR_yes HRB.out).1, (rdR_yes HRB.out).2] at hy
  obtain ⟨yb, rfl, hOb, hKb⟩ := hy
  have KB := Lib.hid (KE.out.trans hKb)
  have HOB := Lib.hid (HOE.out.keep hKb)
  have HEB := Lib.hid (HE.out.keep hKb)
  have HYB := Lib.hid hOb
  clear hOb hKb
  obtain ⟨X, hX⟩ : ∃ X, rLat O (fromK l 0) = X := ⟨_, rfl⟩
  have HX := Lib.hid hX
  rw [hX] at HYB ⊢
  clear hX
  walk_nrm
  refine gt_op closedPF rfl rfl (by kernel_rfl) rfl (z := ?_) (v' := _) (fun u hu => ⟨u, ?_, hu⟩) ?_
  rotate_left
  · skip
    go_simp
    try (with_reducible rfl)
  walk_nrm
  refine gt_op closedPF rfl rfl (by kernel_rfl) rfl (z := ?_) (v' := _) (fun u hu => ⟨u, ?_, hu⟩) ?_
  rotate_left
  · skip
    go_simp
    try (with_reducible rfl)
  walk_nrm
  refine gt_op closedPF rfl rfl (by kernel_rfl) rfl (z := ?_) (v' := _) (fun u hu => ⟨u, ?_, hu⟩) ?_
  rotate_left
  · skip
    go_simp
    try (with_reducible rfl)
  walk_nrm
  refine gt_op closedPF rfl rfl (by kernel_rfl) rfl (z := ?_) (v' := _) (fun u hu => ⟨u, ?_, hu⟩) ?_
  rotate_left
  · skip
    go_simp
    try (with_reducible rfl)
  walk_nrm
  refine gt_op closedPF rfl rfl (by kernel_rfl) rfl (z := ?_) (v' := _) (fun u hu => ⟨u, ?_, hu⟩) ?_
  rotate_left
  · skip
    go_simp
    try (with_reducible rfl)
  walk_nrm
  refine gt_op closedPF rfl rfl (by kernel_rfl) rfl (z := ?_) (v' := _) (fun u hu => ⟨u, ?_, hu⟩) ?_
  rotate_left
  · skip
    go_simp
    try (with_reducible rfl)
  walk_nrm
  refine gt_op closedPF rfl rfl (by kernel_rfl) rfl (z := ?_) (v' := _) (fun u hu => ⟨u, ?_, hu⟩) ?_
  rotate_left
  · skip
    go_simp
    try (with_reducible rfl)
  walk_nrm
  refine gt_region_end ?_
  refine gt_wpc closedPF (plain_of Try.func6) rfl (by kernel_rfl) (fun w hw => ?_)
  have KC := Lib.hid (KB.out.same hw)
  have HOC := Lib.hid (HOB.out.keep (KeepG.of_same hw))
  have HEC := Lib.hid (HEB.out.keep (KeepG.of_same hw))
  have HYC := Lib.hid (HYB.out.keep (KeepG.of_same hw))
  clear hw KB HOB HEB HYB KE HOE HE
  have HLX := Lib.hid (show latR O (fromK l 0) = X by unfold latR; rw [HAO.out]; exact HX.out)
  go_wp2_with fail
  refine (iRLat_any _ _ O (fromK l 0) _ HOC.out.at (firstK_at HEC.out (Nat.le_refl _) (by omega)) (by rw [fromK_length]; omega)).mono ?_
  rw [HAO.out, HLX.out]
  rintro e wF ⟨rfl, hbF⟩
  have hbG := (Below.refl wF.heap.size wF).alloc (Nat.le_refl _) (.cells #[.int .i64 X.a, .int .i64 X.b, .int .i64 X.c] 26)
  have hxG := heap_alloc_new wF (.cells #[.int .i64 X.a, .int .i64 X.b, .int .i64 X.c] 26)
  have hsG : (wF.alloc (.cells #[.int .i64 X.a, .int .i64 X.b, .int .i64 X.c] 26)).heap.size = wF.heap.size + 1 := by simp
  have HBG := Lib.hid (hbF.trans (hbG.mono hbF.size))
  have HXG := Lib.hid hxG
  clear hbG hxG hbF
  obtain ⟨h, hh⟩ : ∃ h, l / 2 + 1 = h := ⟨_, rfl⟩
  have hh1 : (l : Int) / 2 + 1 = (h : Int) := by omega
  have hh2 : (0 : Int) ≤ (h : Int) := by omega
  have hh3 : (h : Int) ≤ (cg : Int) := by omega
  have HKN := Lib.hid (show rOlder (rLat (rPutAll X O (fromK l k)) (fromK h 0)) X = false by have := put_known2 (rs := O) (x := X) (k := k) (h := h) (by omega) (by rw [HLL.out]; omega); rw [HLL.out] at this; exact this)
  have HVY := Lib.hid (show regB (rPutAll X O (fromK l k)) = true from regB_put HVB.out (by rw [← HX.out]; exact rLat_mem HAO.out))
  have HAY := Lib.hid (show askB (rPutAll X O (fromK l k)) (fromK h 0) = true by unfold askB; rw [HVY.out, rPutAll_length, HLL.out, firstK_maj (by omega) (by omega)]; rfl)
  have HLY := Lib.hid (show latR (rPutAll X O (fromK l k)) (fromK h 0) = rLat (rPutAll X O (fromK l k)) (fromK h 0) by unfold latR; rw [HAY.out]; rfl)
  go_wp2_with fail
  refine (iRLat_any _ _ (rPutAll X O (fromK l k)) (fromK h 0) _ (HYC.out.below HBG.out (Nat.le_refl _)).at ((firstK_at HEC.out (by omega) (by omega)).below HBG.out (Nat.le_refl _)) (by rw [fromK_length]; omega)).mono ?_
  rw [HAY.out, HLY.out]
  rintro e wH ⟨rfl, hbH⟩
  obtain ⟨M, hM⟩ : ∃ M, rLat (rPutAll X O (fromK l k)) (fromK h 0) = M := ⟨_, rfl⟩
  have HMX := Lib.hid (show rOlder M X = false by rw [← hM]; exact HKN.out)
  rw [hM]
  clear hM
  have hsF : wF.heap.size < wH.heap.size := Nat.lt_of_lt_of_le (by omega) hbH.size
  have hxH := (hbH.block wF.heap.size (by omega)).trans HXG.out
  have hbI := (Below.refl wH.heap.size wH).alloc (Nat.le_refl _) (.cells #[.int .i64 M.a, .int .i64 M.b, .int .i64 M.c] 26)
  have hxI := heap_alloc_new wH (.cells #[.int .i64 M.a, .int .i64 M.b, .int .i64 M.c] 26)
  have hsI : (wH.alloc (.cells #[.int .i64 M.a, .int .i64 M.b, .int .i64 M.c] 26)).heap.size = wH.heap.size + 1 := by simp
  obtain ⟨c0, c1, c2⟩ := cells3 ((hbI.block wF.heap.size hsF).trans hxH)
  obtain ⟨m0, m1, m2⟩ := cells3 hxI
  have KI := Lib.hid (((KC.out.below HBG.out).below hbH).below hbI)
  clear hbI hxI hbH hxH
  go_wp2_with (go_at_call 15; refine (lOlder_any M X _).mono ?_; rw [HMX.out]; rintro e wJ ⟨rfl, hbJ⟩)
  ((try simp only [Exit.inBlock, Exit.then]); refine segPost_ret rfl (gt_returned Try.func6 rfl rfl (results_tmp rfl _ _ _) ?_))
  exact ⟨rfl, KI.out.below hbJ⟩
end Go.Proofs.Ytkefnmmpipeppaa
