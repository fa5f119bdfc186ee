/-
  The contract of impl.RegisterPart, beside goroutines that only leave.
-/
import Derived.Test.YtkefnmmpipeppaaGw
set_option linter.unusedSimpArgs false
set_option linter.unusedVariables false
set_option linter.unusedSectionVars false
namespace Go.Proofs.Ytkefnmmpipeppaa
open Go.Conc Go.ConcN Go.RowKit Go.Conc.Lib Go.ConcR.Gen Go.ConcN.Gen Go.Proofs.Ytkefnmmpipeppaa.Rg
open Go.ConcR (KK wgBlock WgAt stA smA rd wr mk Payload Aside2 DC0 Bk)
variable [Kept]

theorem closedP : Closed Try.prog [16, 36, 37, 44, 43, 54] := by
  intro f hf
  simp only [List.mem_cons, List.not_mem_nil, or_false] at hf
  rcases hf with rfl | rfl | rfl | rfl | rfl | rfl <;> kernel_rfl
def PartG (rs : List Tr) (ks : List Int) (x : Tr) (v : World) (z : Value) (u : World) : Prop :=
  ∃ y, z = .tuple #[y, .bool (partB rs ks x)] ∧ TrsOwn u v.heap.size 26 y (partR rs ks x) ∧ KeepG v u
set_option maxRecDepth 100000 in
set_option maxHeartbeats 2000000 in
theorem iPartG (v : World) (vl vt : Value) (rs : List Tr) (ks : List Int) (x : Tr) (hl : TrsAt v vl rs) (ht : IntsAt v vt ks) :
    CallsG Try.prog 11 #[vl, vt, .agg #[.int .i64 x.a, .int .i64 x.b, .int .i64 x.c]] v (PartG rs ks x v) := by
  refine CallsM.to (callsM_of_gt Try.func11 rfl fun cs => ?_)
  walk_nrmf Try.f11
  refine gt_code ?_
  refine gt_wpc closedP (plain_of Try.func11) rfl (by kernel_rfl) (fun w hw => ?_)
  have hbox := heap_alloc_new w (.cells #[.int .i64 x.a, .int .i64 x.b, .int .i64 x.c] 26)
  have K0 := Lib.hid ((KeepG.of_same hw).trans (KeepG.alloc w (.cells #[.int .i64 x.a, .int .i64 x.b, .int .i64 x.c] 26)))
  have hsz : w.heap.size = v.heap.size := by rw [hw.heap]
  rw [hsz] at hbox
  go_wp2
  ((try simp only [Exit.inBlock, Exit.then]); refine segPost_nil rfl ?_)
  obtain ⟨v1, hv1⟩ : ∃ v1, w.alloc (.cells #[.int .i64 x.a, .int .i64 x.b, .int .i64 x.c] 26) = v1 := ⟨_, rfl⟩
  have hs1 : v1.heap.size = v.heap.size + 1 := by rw [← hv1, ← hsz]; simp
  rw [hv1] at hbox K0 ⊢
  clear hw hsz hv1
  have HBX := Lib.hid hbox
  have HL1 := Lib.hid (hl.keep K0.out)
  have HT1 := Lib.hid (ht.keep K0.out)
  obtain ⟨p, cap, rfl, hc1, hc2⟩ := hl.form
  obtain ⟨q, capk, rfl, hq1, hq2, hq3⟩ := ht
  clear hq3 hl hbox
  unfold maxLen at hq2
  refine gt_code ?_
  refine gt_wpc closedP (plain_of Try.func11) rfl (by kernel_rfl) (fun w hw => ?_)
  have HL2 := Lib.hid (HL1.out.same hw)
  have HT2 := Lib.hid (HT1.out.same hw)
  have HX2 := Lib.hid (show w.heap[v.heap.size]? = some (.cells #[.int .i64 x.a, .int .i64 x.b, .int .i64 x.c] 26) from (by rw [hw.heap]; exact HBX.out))
  have K2 := Lib.hid (K0.out.same hw)
  have hs2 : w.heap.size = v.heap.size + 1 := by rw [hw.heap, hs1]
  clear hw
  go_wp2_with fail
  refine (iReg_any _ rs _ HL2.out).mono ?_
  rintro e w1 ⟨rfl, hb1⟩
  rcases h1 : regB rs with _ | _
  · have HN := Lib.hid (show partB rs ks x = false by unfold partB; rw [h1]; rfl)
    clear h1
    go_wp2
    ((try simp only [Exit.inBlock, Exit.then]); refine segPost_ret rfl (gt_returned Try.func11 rfl rfl (results_tmp2 rfl _ _ _) ?_))
    exact ⟨_, by rw [HN.out]; rfl, by rw [partR_no HN.out]; exact TrsOwn.nil _ _ _, K2.out.below hb1⟩
  have H1 := Lib.hid h1
  have hlen := regB_len h1
  clear h1
  have hb1' := Lib.hid hb1
  go_wp2_with fail
  refine (iSet_any _ ks _ _ (HT2.out.below hb1 (Nat.le_refl _)) (by omega) (by omega)).mono ?_
  rintro e w2 ⟨rfl, hb2⟩
  rcases h2 : setB rs.length ks with _ | _
  · have HN := Lib.hid (show partB rs ks x = false by unfold partB; rw [H1.out, h2]; rfl)
    clear h2
    go_wp2
    ((try simp only [Exit.inBlock, Exit.then]); refine segPost_ret rfl (gt_returned Try.func11 rfl rfl (results_tmp2 rfl _ _ _) ?_))
    exact ⟨_, by rw [HN.out]; rfl, by rw [partR_no HN.out]; exact TrsOwn.nil _ _ _, (K2.out.below hb1).below hb2⟩
  have H2 := Lib.hid h2
  clear h2
  have hb12 := hb1.trans (hb2.mono hb1.size)
  obtain ⟨x0, x1, x2⟩ := cells3 (show w2.heap[v.heap.size]? = some (.cells #[.int .i64 x.a, .int .i64 x.b, .int .i64 x.c] 26) from (hb12.block _ (by omega)).trans HX2.out)
  have HB12 := Lib.hid hb12
  clear hb1 hb2 hb12 hb1'
  go_wp2_with fail
  refine (iOk_any x _).mono ?_
  rintro e w3 ⟨rfl, hb3⟩
  have HB3 := Lib.hid (HB12.out.trans (hb3.mono HB12.out.size))
  have K3 := Lib.hid (K2.out.below HB3.out)
  clear hb3
  rcases h3 : rOk x with _ | _
  · have HN := Lib.hid (show partB rs ks x = false by unfold partB; rw [H1.out, H2.out, h3]; rfl)
    clear h3 x0 x1 x2
    go_wp2
    ((try simp only [Exit.inBlock, Exit.then]); refine segPost_ret rfl (gt_returned Try.func11 rfl rfl (results_tmp2 rfl _ _ _) ?_))
    exact ⟨_, by rw [HN.out]; rfl, by rw [partR_no HN.out]; exact TrsOwn.nil _ _ _, K3.out⟩
  have H3 := Lib.hid h3
  have HL3 := Lib.hid (HL2.out.below HB3.out (Nat.le_refl _))
  have HT3 := Lib.hid (HT2.out.below HB3.out (Nat.le_refl _))
  have HX3 := Lib.hid (show w3.heap[v.heap.size]? = some (.cells #[.int .i64 x.a, .int .i64 x.b, .int .i64 x.c] 26) from (HB3.out.block _ (by omega)).trans HX2.out)
  have hs3 := K3.out.size
  clear h3 x0 x1 x2
  go_wp2
  ((try simp only [Exit.inBlock, Exit.then]); refine segPost_nil rfl ?_)
  refine gt_code ?_
  refine gt_region ?_
  simp only [List.size_toArray, List.length_cons, List.length_nil, Nat.reduceAdd, Nat.zero_add, List.range, List.range.loop]
  refine gt_op closedP rfl rfl (by kernel_rfl) rfl (z := ?_) (v' := _) (fun u hu => ⟨u, ?_, hu⟩) ?_
  rotate_left
  · skip
    go_simp
    try (with_reducible rfl)
  walk_nrm
  refine gt_op closedP rfl rfl (by kernel_rfl) rfl (z := ?_) (v' := _) (fun u hu => ⟨u, ?_, hu⟩) ?_
  rotate_left
  · skip
    go_simp
    try (with_reducible rfl)
  walk_nrm
  obtain ⟨x0, x1, x2⟩ := cells3 HX3.out
  refine gt_op closedP rfl rfl (by kernel_rfl) rfl (z := ?_) (v' := _) (fun u hu => ⟨u, ?_, hu⟩) ?_
  rotate_left
  · have s0 := (same_cell hu _).trans x0; have s1 := (same_cell hu _).trans x1; have s2 := (same_cell hu _).trans x2
    go_simp
    try (with_reducible rfl)
  walk_nrm
  clear x0 x1 x2
  refine gt_call rfl rfl rfl (f := 38) (args := #[.slice p rs.length cap, .slice q ks.length capk, .agg #[.int .i64 x.a, .int .i64 x.b, .int .i64 x.c]]) (fun u => ⟨?_, ?_⟩) (writeG w3 _ _ rs ks x HL3.out HT3.out (by omega) (by omega) (setB_range H2.out) (setB_mono H2.out) (setB_len H2.out)) (fun y v4 hy => ?_)
  · go_simp
  · simp [go_sem, callFunc, Try.func38, Try.f38]
  obtain ⟨hown, k4⟩ := hy
  have K4 := Lib.hid (K3.out.trans k4)
  have HO4 := Lib.hid (hown.mono hs3)
  clear hown k4
  walk_nrm
  refine gt_op closedP rfl rfl (by kernel_rfl) rfl (z := ?_) (v' := _) (fun u hu => ⟨u, ?_, hu⟩) ?_
  rotate_left
  · skip
    go_simp
    try (with_reducible rfl)
  walk_nrm
  refine gt_region_end ?_
  refine gt_wpc closedP (plain_of Try.func11) rfl (by kernel_rfl) (fun w hw => ?_)
  have HO5 := Lib.hid (HO4.out.same hw)
  have K5 := Lib.hid (K4.out.same hw)
  clear hw
  go_wp2_with fail
  refine (iReg_any _ _ _ HO5.out.at).mono ?_
  rintro e w5 ⟨rfl, hb5⟩
  have K6 := Lib.hid (K5.out.below hb5)
  have HO6 := Lib.hid (HO5.out.below hb5 (Nat.le_refl _))
  clear hb5
  rcases h4 : regB (rPutAll x rs ks) with _ | _
  · have HN := Lib.hid (show partB rs ks x = false by unfold partB; rw [H1.out, H2.out, H3.out, h4]; rfl)
    clear h4
    go_wp2
    ((try simp only [Exit.inBlock, Exit.then]); refine segPost_ret rfl (gt_returned Try.func11 rfl rfl (results_tmp2 rfl _ _ _) ?_))
    exact ⟨_, by rw [HN.out]; rfl, by rw [partR_no HN.out]; exact TrsOwn.nil _ _ _, K6.out⟩
  · have HN := Lib.hid (show partB rs ks x = true by unfold partB; rw [H1.out, H2.out, H3.out, h4]; rfl)
    clear h4
    go_wp2
    ((try simp only [Exit.inBlock, Exit.then]); refine segPost_ret rfl (gt_returned Try.func11 rfl rfl (results_tmp2 rfl _ _ _) ?_))
    exact ⟨y, by rw [HN.out]; rfl, by rw [partR_yes HN.out]; exact HO6.out, K6.out⟩
end Go.Proofs.Ytkefnmmpipeppaa
