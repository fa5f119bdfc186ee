/-
  The contract of impl.RegisterWrite, beside goroutines that only leave.
-/
import Derived.Test.YtkefnmmpipeppaaGp
import Derived.Test.YtkefnmmpipeppaaSg
set_option linter.unusedSimpArgs false
set_option linter.unusedVariables false
set_option linter.unusedSectionVars false
namespace Go.Proofs.Ytkefnmmpipeppaa
open Go.Conc Go.ConcN Go.RowKit Go.Conc.Lib Go.ConcR.Gen Go.ConcN.Gen Go.Proofs.Ytkefnmmpipeppaa.Rg
open Go.ConcR (KK wgBlock WgAt stA smA rd wr mk Payload Aside2 DC0 Bk)
variable [Kept]

theorem closedLt : Closed Try.prog [48, 44] := by
  intro f hf
  simp only [List.mem_cons, List.not_mem_nil, or_false] at hf
  rcases hf with rfl | rfl <;> kernel_rfl
theorem latestG (v : World) (vl vt : Value) (rs : List Tr) (ks : List Int) (hl : TrsAt v vl rs) (ht : IntsAt v vt ks) (h0 : 0 < ks.length) (hk : ∀ m, m < ks.length → 0 ≤ ks.getD m 0 ∧ ks.getD m 0 < rs.length) :
    CallsG Try.prog 48 #[vl, vt] v fun z u => z = .agg #[.int .i64 (rLat rs ks).a, .int .i64 (rLat rs ks).b, .int .i64 (rLat rs ks).c] ∧ KeepG v u :=
  callsG_of_calls closedLt (by simp) (fun z u u' s h => ⟨h.1, h.2.same s⟩) fun w s => (iLat_any vl vt rs ks w (hl.same s) (ht.same s) h0 hk).mono fun e w' h => ⟨_, h.1, rfl, .of_below s h.2⟩
theorem closedAs : Closed Try.prog [46, 47, 36, 43, 16, 37, 44, 54] := by
  intro f hf
  simp only [List.mem_cons, List.not_mem_nil, or_false] at hf
  rcases hf with rfl | rfl | rfl | rfl | rfl | rfl | rfl | rfl <;> kernel_rfl
def WriteG (rs : List Tr) (ks ts : List Int) (wr vl : Int) (v : World) (z : Value) (u : World) : Prop :=
  ∃ y, z = .tuple #[y, .bool (wrB rs ks ts wr vl)] ∧ TrsOwn u v.heap.size 26 y (wrR rs ks ts wr vl) ∧ KeepG v u
set_option maxRecDepth 100000 in
set_option maxHeartbeats 4000000 in
theorem iWriteG (v : World) (vl vu vt : Value) (rs : List Tr) (ks ts : List Int) (wr val : Int) (hl : TrsAt v vl rs) (hu : IntsAt v vu ks) (ht : IntsAt v vt ts) (hk1 : ks.length ≤ 1048576) (hk2 : ts.length ≤ 1048576) :
    CallsG Try.prog 30 #[vl, vu, vt, .int .i64 wr, .int .i64 val] v (WriteG rs ks ts wr val v) := by
  refine CallsM.to (callsM_of_gt Try.func30 rfl fun cs => ?_)
  walk_nrmf Try.f30
  have HL := Lib.hid hl
  have HU := Lib.hid hu
  have HT := Lib.hid ht
  obtain ⟨p, cap, rfl, hc1, hc2⟩ := hl.form
  clear hl hu ht
  refine gt_code ?_
  refine gt_wpc closedAs (plain_of Try.func30) rfl (by kernel_rfl) (fun w hw => ?_)
  have K1 := Lib.hid (KeepG.of_same hw)
  clear hw
  go_wp2
  ((try simp only [Exit.inBlock, Exit.then]); refine segPost_nil rfl ?_)
  refine gt_code ?_
  obtain ⟨v1, hv1⟩ : ∃ v1, w = v1 := ⟨_, rfl⟩
  subst hv1
  refine gt_wpc closedAs (plain_of Try.func30) rfl (by kernel_rfl) (fun w hw => ?_)
  have K2 := Lib.hid (K1.out.same hw)
  have HL2 := Lib.hid (HL.out.keep K2.out)
  have HU2 := Lib.hid (HU.out.keep K2.out)
  have HT2 := Lib.hid (HT.out.keep K2.out)
  clear hw K1
  go_wp2_with fail
  refine (iAsked_any _ _ rs ks _ HL2.out HU2.out hk1).mono ?_
  rintro e w1 ⟨rfl, hb1⟩
  rcases h1 : (regB rs && majB rs.length ks) with _ | _
  · have HN := Lib.hid (show wrB rs ks ts wr val = false by unfold wrB askB; rw [h1]; rfl)
    clear h1
    go_wp2
    ((try simp only [Exit.inBlock, Exit.then]); refine segPost_ret rfl (gt_returned Try.func30 rfl rfl (results_tmp2 rfl _ _ _) ?_))
    exact ⟨_, by rw [HN.out]; rfl, by rw [wrR_no HN.out]; exact TrsOwn.nil _ _ _, K2.out.below hb1⟩
  have HA := Lib.hid (show askB rs ks = true from h1)
  have hlen : 1 ≤ rs.length ∧ rs.length ≤ 5 := regB_len (by simp only [Bool.and_eq_true] at h1; exact h1.1)
  have HM := Lib.hid (show majB rs.length ks = true by simp only [Bool.and_eq_true] at h1; exact h1.2)
  clear h1
  go_wp2_with fail
  refine (iMaj_any _ ts _ _ (HT2.out.below hb1 (Nat.le_refl _)) (by omega) (by omega) hk2).mono ?_
  rintro e w2 ⟨rfl, hb2⟩
  have K3 := Lib.hid ((K2.out.below hb1).below hb2)
  clear hb1 hb2
  rcases h2 : majB rs.length ts with _ | _
  · have HN := Lib.hid (show wrB rs ks ts wr val = false by unfold wrB; rw [h2]; simp)
    clear h2
    go_wp2
    ((try simp only [Exit.inBlock, Exit.then]); refine segPost_ret rfl (gt_returned Try.func30 rfl rfl (results_tmp2 rfl _ _ _) ?_))
    exact ⟨_, by rw [HN.out]; rfl, by rw [wrR_no HN.out]; exact TrsOwn.nil _ _ _, K3.out⟩
  have HW := Lib.hid (show wrB rs ks ts wr val = partB rs ts (wrX rs ks wr val) by unfold wrB; rw [HA.out, h2]; rfl)
  have HWR := Lib.hid (show wrR rs ks ts wr val = partR rs ts (wrX rs ks wr val) by unfold wrR partR; rw [HW.out])
  clear h2
  go_wp2
  ((try simp only [Exit.inBlock, Exit.then]); refine segPost_nil rfl ?_)
  have HL3 := Lib.hid (HL.out.keep K3.out)
  have HU3 := Lib.hid (HU.out.keep K3.out)
  have HT3 := Lib.hid (HT.out.keep K3.out)
  refine gt_code ?_
  refine gt_region ?_
  simp only [List.size_toArray, List.length_cons, List.length_nil, Nat.reduceAdd, Nat.zero_add, List.range, List.range.loop]
  refine gt_op closedAs rfl rfl (by kernel_rfl) rfl (z := ?_) (v' := _) (fun u hu => ⟨u, ?_, hu⟩) ?_
  rotate_left
  · skip
    go_simp
    try (with_reducible rfl)
  walk_nrm
  refine gt_op closedAs rfl rfl (by kernel_rfl) rfl (z := ?_) (v' := _) (fun u hu => ⟨u, ?_, hu⟩) ?_
  rotate_left
  · skip
    go_simp
    try (with_reducible rfl)
  walk_nrm
  refine gt_op closedAs rfl rfl (by kernel_rfl) rfl (z := ?_) (v' := _) (fun u hu => ⟨u, ?_, hu⟩) ?_
  rotate_left
  · skip
    go_simp
    try (with_reducible rfl)
  walk_nrm
  refine gt_op closedAs rfl rfl (by kernel_rfl) rfl (z := ?_) (v' := _) (fun u hu => ⟨u, ?_, hu⟩) ?_
  rotate_left
  · skip
    go_simp
    try (with_reducible rfl)
  walk_nrm
  refine gt_call rfl rfl rfl (f := 48) (args := #[.slice p rs.length cap, vu]) (fun u => ⟨?_, ?_⟩) (latestG w2 _ _ rs ks HL3.out HU3.out (majB_pos HM.out) (setB_range (majB_set HM.out))) (fun y4 v4 hy => ?_)
  · go_simp
  · simp [go_sem, callFunc, Try.func48, Try.f48]
  obtain ⟨rfl, hK4⟩ := hy
  have K4 := Lib.hid (K3.out.trans hK4)
  have HL4 := Lib.hid (HL3.out.keep hK4)
  have HT4 := Lib.hid (HT3.out.keep hK4)
  clear hK4
  walk_nrm
  obtain ⟨ha1, ha2⟩ := rOk_a (rLat_ok HA.out)
  have hwr : IntKind.i64.wrap ((rLat rs ks).a + 1) = (rLat rs ks).a + 1 := IntWalk.i64_in _ (by omega)
  refine gt_op closedAs rfl rfl (by kernel_rfl) rfl (z := ?_) (v' := _) (fun u hu => ⟨u, ?_, hu⟩) ?_
  rotate_left
  · have hfd := field_a (rLat rs ks).a (rLat rs ks).b (rLat rs ks).c
    go_simp
    try (with_reducible rfl)
  walk_nrm
  refine gt_op closedAs rfl rfl (by kernel_rfl) rfl (z := ?_) (v' := _) (fun u hu => ⟨u, ?_, hu⟩) ?_
  rotate_left
  · skip
    go_simp
    try (with_reducible rfl)
  walk_nrm
  refine gt_op closedAs rfl rfl (by kernel_rfl) rfl (z := ?_) (v' := _) (fun u hu => ⟨u, ?_, hu⟩) ?_
  rotate_left
  · skip
    go_simp
    try (with_reducible rfl)
  walk_nrm
  refine gt_op closedAs rfl rfl (by kernel_rfl) rfl (z := ?_) (v' := _) (fun u hu => ⟨u, ?_, hu⟩) ?_
  rotate_left
  · skip
    go_simp
    try (with_reducible rfl)
  walk_nrm
  refine gt_op closedAs rfl rfl (by kernel_rfl) rfl (z := ?_) (v' := _) (fun u hu => ⟨u, ?_, hu⟩) ?_
  rotate_left
  · skip
    go_simp
    try (with_reducible rfl)
  walk_nrm
  refine gt_call rfl rfl rfl (f := 11) (args := #[.slice p rs.length cap, vt, .agg #[.int .i64 ((rLat rs ks).a + 1), .int .i64 wr, .int .i64 val]]) (fun u => ⟨?_, ?_⟩) (iPartG v4 _ _ rs ts (wrX rs ks wr val) HL4.out HT4.out) (fun y5 v5 hy => ?_)
  · go_simp
  · simp [go_sem, callFunc, Try.func11, Try.f11]
  unfold PartG at hy
  rw [← HW.out, ← HWR.out] at hy
  obtain ⟨y, rfl, hO5, hK5⟩ := hy
  have HO5 := Lib.hid (hO5.mono K4.out.size)
  have K5 := Lib.hid (K4.out.trans hK5)
  clear hO5 hK5
  walk_nrm
  refine gt_op closedAs rfl rfl (by kernel_rfl) rfl (z := ?_) (v' := _) (fun u hu => ⟨u, ?_, hu⟩) ?_
  rotate_left
  · skip
    go_simp
    try (with_reducible rfl)
  walk_nrm
  refine gt_op closedAs rfl rfl (by kernel_rfl) rfl (z := ?_) (v' := _) (fun u hu => ⟨u, ?_, hu⟩) ?_
  rotate_left
  · skip
    go_simp
    try (with_reducible rfl)
  walk_nrm
  refine gt_op closedAs rfl rfl (by kernel_rfl) rfl (z := ?_) (v' := _) (fun u hu => ⟨u, ?_, hu⟩) ?_
  rotate_left
  · skip
    go_simp
    try (with_reducible rfl)
  walk_nrm
  refine gt_op closedAs rfl rfl (by kernel_rfl) rfl (z := ?_) (v' := _) (fun u hu => ⟨u, ?_, hu⟩) ?_
  rotate_left
  · skip
    go_simp
    try (with_reducible rfl)
  walk_nrm
  refine gt_region_end ?_
  refine gt_ret ?_
  exact gt_returned Try.func30 rfl rfl (results_tmp2 rfl _ _ _) ⟨y, rfl, HO5.out, K5.out⟩ _
end Go.Proofs.Ytkefnmmpipeppaa
