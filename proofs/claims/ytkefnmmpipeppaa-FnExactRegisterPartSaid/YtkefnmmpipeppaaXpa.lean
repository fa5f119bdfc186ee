/-
  The law FnExactRegisterPart, beside goroutines that only leave.
-/
import Derived.Test.YtkefnmmpipeppaaXs
import Derived.Test.YtkefnmmpipeppaaGp
set_option linter.unusedSimpArgs false
set_option linter.unusedVariables false
set_option linter.unusedSectionVars false
namespace Go.Proofs.Ytkefnmmpipeppaa
open Go.Conc Go.ConcN Go.RowKit Go.Conc.Lib Go.ConcR.Gen Go.ConcN.Gen Go.Proofs.Ytkefnmmpipeppaa.Rg
open Go.ConcR (KK wgBlock WgAt stA smA rd wr mk Payload Aside2 DC0 Bk)

theorem partR_len (r : List Tr) (ks : List Int) (x : Tr) : (partR r ks x).length ≤ r.length := by
  unfold partR
  split
  · rw [rPutAll_length]; exact Nat.le_refl _
  · exact Nat.zero_le _
variable [Kept]
theorem closedXpa : Closed Try.prog [17, 18, 20, 19, 21, 45, 22, 23, 24, 25, 12, 39, 41, 51, 50, 40, 42, 60] := by
  intro f hf
  simp only [List.mem_cons, List.not_mem_nil, or_false] at hf
  rcases hf with rfl | rfl | rfl | rfl | rfl | rfl | rfl | rfl | rfl | rfl | rfl | rfl | rfl | rfl | rfl | rfl | rfl | rfl <;> kernel_rfl
set_option maxRecDepth 100000 in
set_option maxHeartbeats 16000000 in
theorem fnExactRegisterPartG (v : World) (v0 : Value) (r : List Tr) (vn0 : Value) (xs0 : List Int) (x : Tr) (hv : TrsAt v v0 r) (hn0 : IntsAt v vn0 xs0) :
    CallsM Try.prog 5 #[v0, vn0, .agg #[.int .i64 x.a, .int .i64 x.b, .int .i64 x.c]] v fun z u => z = .bool true ∧ KeepG v u := by
  refine callsM_of_gt Try.func5 rfl fun cs => ?_
  walk_nrmf Try.f5
  have HV := Lib.hid hv
  obtain ⟨p, cap, rfl, hc1, hc2⟩ := hv.form
  clear hv
  have HN0 := Lib.hid hn0
  obtain ⟨q0, cq0, rfl, hq0, hm0, hz0⟩ := hn0
  clear hz0
  unfold maxLen at hm0
  refine gt_code ?_
  refine gt_wpc closedXpa (plain_of Try.func5) rfl (by kernel_rfl) (fun w hw => ?_)
  have hsz0 : w.heap.size = v.heap.size := by rw [hw.heap]
  have hbox := heap_alloc_new w (.cells #[.int .i64 x.a, .int .i64 x.b, .int .i64 x.c] 37)
  have KB := Lib.hid ((KeepG.of_same hw).trans (KeepG.alloc w (.cells #[.int .i64 x.a, .int .i64 x.b, .int .i64 x.c] 37)))
  have hs1 : (w.alloc (.cells #[.int .i64 x.a, .int .i64 x.b, .int .i64 x.c] 37)).heap.size = v.heap.size + 1 := by simp [hsz0]
  rw [hsz0] at hbox
  clear hw
  go_wp2
  ((try simp only [Exit.inBlock, Exit.then]); refine segPost_nil rfl ?_)
  try rw [hsz0]
  obtain ⟨N, hN⟩ : ∃ N, v.heap.size = N := ⟨_, rfl⟩
  obtain ⟨v1, hv1⟩ : ∃ v1, w.alloc (.cells #[.int .i64 x.a, .int .i64 x.b, .int .i64 x.c] 37) = v1 := ⟨_, rfl⟩
  rw [hN] at hbox hs1 ⊢
  rw [hv1] at hbox KB hs1 ⊢
  have HBX := Lib.hid hbox
  have hNv : N < v1.heap.size := by omega
  clear hsz0 hbox hv1 hs1 hN
  replace HV := Lib.hid (HV.out.keep KB.out)
  replace HN0 := Lib.hid (HN0.out.keep KB.out)
  have K := Lib.hid (KeepG.refl v1)
  refine gt_code ?_
  refine gt_wpc closedXpa (plain_of Try.func5) rfl (by kernel_rfl) (fun w hw => ?_)
  replace K := Lib.hid (K.out.same hw)
  clear hw
  by_cases hbig0 : (1048576 : Int) < (xs0.length : Int)
  · skip
    go_wp2
    ((try simp only [Exit.inBlock, Exit.then]); refine segPost_ret rfl (gt_returned Try.func5 rfl rfl (results_tmp rfl _ _ _) ?_))
    exact ⟨rfl, KB.out.trans K.out⟩
  have hl0 : xs0.length ≤ 1048576 := by omega
  go_wp2
  ((try simp only [Exit.inBlock, Exit.then]); refine segPost_nil rfl ?_)
  refine gt_code ?_
  refine gt_wpc closedXpa (plain_of Try.func5) rfl (by kernel_rfl) (fun w hw => ?_)
  replace K := Lib.hid (K.out.same hw)
  clear hw
  go_wp2
  ((try simp only [Exit.inBlock, Exit.then]); refine segPost_nil rfl ?_)
  refine gt_code ?_
  refine gt_wpc closedXpa (plain_of Try.func5) rfl (by kernel_rfl) (fun w hw => ?_)
  replace K := Lib.hid (K.out.same hw)
  clear hw
  go_wp2_with fail
  refine (szReplicaS_any _ r _ (HV.out.keep K.out)).mono ?_
  rintro e w' ⟨⟨s, rfl, hs⟩, rfl⟩
  go_wp2
  ((try simp only [Exit.inBlock, Exit.then]); refine segPost_nil rfl ?_)
  refine gt_code ?_
  refine gt_wpc closedXpa (plain_of Try.func5) rfl (by kernel_rfl) (fun w hw => ?_)
  replace K := Lib.hid (K.out.same hw)
  clear hw
  by_cases hs0 : s < 0
  · skip
    go_wp2
    ((try simp only [Exit.inBlock, Exit.then]); refine segPost_ret rfl (gt_returned Try.func5 rfl rfl (results_tmp rfl _ _ _) ?_))
    exact ⟨rfl, KB.out.trans K.out⟩
  have hsz : r.length ≤ 1048576 := by rcases hs with h | h; exact absurd h hs0; exact h
  have hs0' : 0 ≤ s := by omega
  go_wp2
  ((try simp only [Exit.inBlock, Exit.then]); refine segPost_nil rfl ?_)
  obtain ⟨R, hR⟩ : ∃ R, partR r xs0 x = R := ⟨_, rfl⟩
  obtain ⟨c, hc⟩ : ∃ c, partB r xs0 x = c := ⟨_, rfl⟩
  have HR := Lib.hid hR
  have HC := Lib.hid hc
  have hRl : R.length ≤ 1048576 := by rw [← hR]; exact Nat.le_trans (partR_len _ _ _) hsz
  have hcc : (c != c) = false := by simp
  clear hs hs0 hR hc
  refine gt_code ?_
  refine gt_wpc closedXpa (plain_of Try.func5) rfl (by kernel_rfl) (fun w hw => ?_)
  replace K := Lib.hid (K.out.same hw)
  clear hw
  obtain ⟨x0, x1, x2⟩ := cells3 ((K.out.block N hNv).trans HBX.out)
  have hNw : N < w.heap.size := Nat.lt_of_lt_of_le hNv K.out.size
  have KC := K
  clear K
  refine wp_region_held_drew (S := fun w' => Below (w).heap.size w w') (by kernel_rfl) (Below.refl _ w).drew (fun hHeld => ?_)
  refine wpAnyH_take (i := 0) (v := ?_) rfl (by kernel_rfl) (by kernel_rfl) (by kernel_rfl) (fun _ _ _ h => h) (Or.inl ⟨by rfl, ?_⟩) (by assumption) ?_
  rotate_left
  · (intro wz hSw; clear hSw; go_simp; try (with_reducible rfl))
  simp only [Act.put, List.getElem_toArray, List.getElem_cons_zero, List.setIfInBounds_toArray, List.set_cons_zero, List.set_cons_succ]
  refine wpAnyH_take (i := 2) (v := ?_) rfl (by kernel_rfl) (by kernel_rfl) (by kernel_rfl) (fun _ _ _ h => h) (Or.inl ⟨by rfl, ?_⟩) (by assumption) ?_
  rotate_left
  · (intro wz hSw; clear hSw; go_simp; try (with_reducible rfl))
  simp only [Act.put, List.getElem_toArray, List.getElem_cons_zero, List.getElem_cons_succ, List.setIfInBounds_toArray, List.set_cons_zero, List.set_cons_succ]
  refine wpAnyH_take (i := 4) (v := ?_) rfl (by kernel_rfl) (by kernel_rfl) (by kernel_rfl) (fun _ _ _ h => h) (Or.inl ⟨by rfl, ?_⟩) (by assumption) ?_
  rotate_left
  · (intro wz hSw; have s0 := (hSw.cell (p := ⟨N, 0, none⟩) hNw).trans x0; have s1 := (hSw.cell (p := ⟨N, 1, none⟩) hNw).trans x1; have s2 := (hSw.cell (p := ⟨N, 2, none⟩) hNw).trans x2; go_simp; try (with_reducible rfl))
  simp only [Act.put, List.getElem_toArray, List.getElem_cons_zero, List.getElem_cons_succ, List.setIfInBounds_toArray, List.set_cons_zero, List.set_cons_succ]
  refine wpAnyH_ready (rs := [1]) (by kernel_rfl) (by simp) ?_
  refine AllReadyH.cons rfl (fun K hK => ?_) AllReadyH.nil
  rw [if_pos (by rfl)]
  go_wp2_with (go_at_call 18; refine (toReplicaS_any _ r _ (HV.out.keep (KC.out.below hHeld)) hsz).mono ?_; rintro e wa ⟨ua, rfl, hOa, hbq⟩; have HA := Lib.hid hOa.at)
  refine hK.out _ _ (hHeld.trans (hbq.mono hHeld.size)) (fun hHeld => ?_)
  clear hK K hbq
  refine wpAnyH_ready (rs := [3]) (by kernel_rfl) (by simp) ?_
  refine AllReadyH.cons rfl (fun K hK => ?_) AllReadyH.nil
  rw [if_pos (by rfl)]
  go_wp2_with (go_at_call 19; refine (toIntS_any _ xs0 _ (HN0.out.keep (KC.out.below hHeld)) hl0).mono ?_; rintro e wb ⟨ub, rfl, hOb, hbq⟩; have HB := Lib.hid (intsAt_own hOb); have HA2 := Lib.hid (HA.out.below hbq (Nat.le_refl _)))
  refine hK.out _ _ (hHeld.trans (hbq.mono hHeld.size)) (fun hHeld => ?_)
  clear hK K hbq
  refine wpAnyH_ready (rs := [5]) (by kernel_rfl) (by simp) ?_
  refine AllReadyH.cons rfl (fun K hK => ?_) AllReadyH.nil
  rw [if_pos (by rfl)]
  go_wp2_with (go_at_call 20; refine (toReplica_any x _).mono ?_; rintro e wc ⟨rfl, hbq⟩; have HA3 := Lib.hid (HA2.out.below hbq (Nat.le_refl _)); have HB3 := Lib.hid (HB.out.below hbq (Nat.le_refl _)))
  refine hK.out _ _ (hHeld.trans (hbq.mono hHeld.size)) (fun hHeld => ?_)
  clear hK K hbq
  refine wpAnyH_ready (rs := [6]) (by kernel_rfl) (by simp) ?_
  refine AllReadyH.cons rfl (fun K hK => ?_) AllReadyH.nil
  rw [if_pos (by rfl)]
  go_wp2_with (go_at_call 12; refine (sPart_any _ _ r xs0 x _ HA3.out HB3.out hsz).mono ?_; rintro e w2 hpost; unfold PartPost at hpost; rw [HR.out, HC.out] at hpost; obtain ⟨uw, rfl, hW, hbq⟩ := hpost; have HW := Lib.hid hW.at)
  refine hK.out _ _ (hHeld.trans (hbq.mono hHeld.size)) (fun hHeld => ?_)
  clear hK K hbq
  refine wpAnyH_take (i := 7) (v := ?_) rfl (by kernel_rfl) (by kernel_rfl) (by kernel_rfl) (fun _ _ _ h => h) (Or.inl ⟨by rfl, ?_⟩) (by assumption) ?_
  rotate_left
  · (intro wz hSw; clear hSw; go_simp; try (with_reducible rfl))
  simp only [Act.put, List.getElem_toArray, List.getElem_cons_zero, List.getElem_cons_succ, List.setIfInBounds_toArray, List.set_cons_zero, List.set_cons_succ]
  refine wpAnyH_take (i := 8) (v := ?_) rfl (by kernel_rfl) (by kernel_rfl) (by kernel_rfl) (fun _ _ _ h => h) (Or.inl ⟨by rfl, ?_⟩) (by assumption) ?_
  rotate_left
  · (intro wz hSw; clear hSw; go_simp; try (with_reducible rfl))
  simp only [Act.put, List.getElem_toArray, List.getElem_cons_zero, List.getElem_cons_succ, List.setIfInBounds_toArray, List.set_cons_zero, List.set_cons_succ]
  refine wpAnyH_take (i := 9) (v := ?_) rfl (by kernel_rfl) (by kernel_rfl) (by kernel_rfl) (fun _ _ _ h => h) (Or.inl ⟨by rfl, ?_⟩) (by assumption) ?_
  rotate_left
  · (intro wz hSw; clear hSw; go_simp; try (with_reducible rfl))
  simp only [Act.put, List.getElem_toArray, List.getElem_cons_zero, List.getElem_cons_succ, List.setIfInBounds_toArray, List.set_cons_zero, List.set_cons_succ]
  refine wpAnyH_take (i := 10) (v := ?_) rfl (by kernel_rfl) (by kernel_rfl) (by kernel_rfl) (fun _ _ _ h => h) (Or.inl ⟨by rfl, ?_⟩) (by assumption) ?_
  rotate_left
  · (intro wz hSw; clear hSw; go_simp; try (with_reducible rfl))
  simp only [Act.put, List.getElem_toArray, List.getElem_cons_zero, List.getElem_cons_succ, List.setIfInBounds_toArray, List.set_cons_zero, List.set_cons_succ]
  refine wpAnyH_take (i := 11) (v := ?_) rfl (by kernel_rfl) (by kernel_rfl) (by kernel_rfl) (fun _ _ _ h => h) (Or.inl ⟨by rfl, ?_⟩) (by assumption) ?_
  rotate_left
  · (intro wz hSw; clear hSw; go_simp; try (with_reducible rfl))
  simp only [Act.put, List.getElem_toArray, List.getElem_cons_zero, List.getElem_cons_succ, List.setIfInBounds_toArray, List.set_cons_zero, List.set_cons_succ]
  refine wpAnyH_done (by kernel_rfl) ?_ _
  have K2 := Lib.hid (KC.out.below hHeld)
  clear hHeld KC HA HA2 HA3 HB HB3 hW hOa hOb x0 x1 x2 hNw
  go_wp2
  ((try simp only [Exit.inBlock, Exit.then]); refine segPost_nil rfl ?_)
  have K := Lib.hid (KeepG.refl w2)
  refine gt_code ?_
  refine gt_wpc closedXpa (plain_of Try.func5) rfl (by kernel_rfl) (fun w hw => ?_)
  replace K := Lib.hid (K.out.same hw)
  clear hw
  go_wp2_with fail
  refine (toReplicaS_any _ r _ (HV.out.keep (K2.out.trans K.out)) hsz).mono ?_
  rintro e w3 ⟨ux, rfl, hX, hb⟩
  have HX := Lib.hid (hX.mono K.out.size)
  have HXL := Lib.hid (fun q (hq : ux.ownBlock = some q) => (World.ownsRow.lt hX q hq).2)
  have K3 := Lib.hid (K.out.below hb)
  clear hX hb K
  go_wp2
  ((try simp only [Exit.inBlock, Exit.then]); refine segPost_nil rfl ?_)
  have K := Lib.hid (KeepG.refl w3)
  refine gt_code ?_
  refine gt_wpc closedXpa (plain_of Try.func5) rfl (by kernel_rfl) (fun w hw => ?_)
  replace K := Lib.hid (K.out.same hw)
  clear hw
  go_wp2_with fail
  refine (toIntS_any _ xs0 _ (HN0.out.keep ((K2.out.trans K3.out).trans K.out)) hl0).mono ?_
  rintro e w4 ⟨uy0, rfl, hY, hb⟩
  obtain ⟨py0, cy0, rfl⟩ := own_slice hY
  have HY0 := Lib.hid (show IOwn w4 w3.heap.size _ xs0 from ownsRow_mono hY K.out.size)
  have K4 := Lib.hid (K.out.below hb)
  clear hY hb K
  go_wp2
  ((try simp only [Exit.inBlock, Exit.then]); refine segPost_nil rfl ?_)
  refine gt_code ?_
  refine gt_region ?_
  simp only [List.size_toArray, List.length_cons, List.length_nil, Nat.reduceAdd, Nat.zero_add, List.range, List.range.loop]
  obtain ⟨x0, x1, x2⟩ := cells3 ((((K2.out.trans K3.out).trans K4.out).block N hNv).trans HBX.out)
  refine gt_op closedXpa rfl rfl (by kernel_rfl) rfl (z := ?_) (v' := _) (fun u hu => ⟨u, ?_, hu⟩) ?_
  rotate_left
  · skip
    go_simp
    try (with_reducible rfl)
  walk_nrm
  refine gt_op closedXpa rfl rfl (by kernel_rfl) rfl (z := ?_) (v' := _) (fun u hu => ⟨u, ?_, hu⟩) ?_
  rotate_left
  · skip
    go_simp
    try (with_reducible rfl)
  walk_nrm
  refine gt_op closedXpa rfl rfl (by kernel_rfl) rfl (z := ?_) (v' := _) (fun u hu => ⟨u, ?_, hu⟩) ?_
  rotate_left
  · have s0 := (same_cell hu _).trans x0; have s1 := (same_cell hu _).trans x1; have s2 := (same_cell hu _).trans x2
    go_simp
    try (with_reducible rfl)
  walk_nrm
  clear x0 x1 x2
  refine gt_call rfl rfl rfl (f := 20) (args := #[.agg #[.int .i64 x.a, .int .i64 x.b, .int .i64 x.c]]) (fun u => ⟨?_, ?_⟩) (toRG w4 x) (fun y70 v70 hy => ?_)
  · go_simp
  · simp [go_sem, callFunc, Try.func20, Try.f20]
  obtain ⟨rfl, hK⟩ := hy
  have K5 := Lib.hid hK
  clear hK
  walk_nrm
  refine gt_call rfl rfl rfl (f := 11) (args := #[ux, .slice py0 xs0.length cy0, .agg #[.int .i64 x.a, .int .i64 x.b, .int .i64 x.c]]) (fun u => ⟨?_, ?_⟩) (iPartG v70 _ _ r xs0 x (HX.out.keep (K4.out.trans K5.out)).at (intsAt_own (HY0.out.keep K5.out))) (fun y71 v71 hy => ?_)
  · go_simp
  · simp [go_sem, callFunc, Try.func11, Try.f11]
  unfold PartG at hy
  rw [HR.out, HC.out] at hy
  obtain ⟨ug, rfl, hG, hK⟩ := hy
  have E := Lib.hid (Ex.make1 K2.out HW.out K3.out K4.out (K5.out.trans hK) HY0.out (hG.mono K5.out.size))
  replace HX := Lib.hid (HX.out.keep ((K4.out.trans K5.out).trans hK))
  clear hG hK K2 HW K3 K4 K5 HY0
  walk_nrm
  refine gt_op closedXpa rfl rfl (by kernel_rfl) rfl (z := ?_) (v' := _) (fun u hu => ⟨u, ?_, hu⟩) ?_
  rotate_left
  · skip
    go_simp
    try (with_reducible rfl)
  walk_nrm
  refine gt_op closedXpa rfl rfl (by kernel_rfl) rfl (z := ?_) (v' := _) (fun u hu => ⟨u, ?_, hu⟩) ?_
  rotate_left
  · skip
    go_simp
    try (with_reducible rfl)
  walk_nrm
  refine gt_op closedXpa rfl rfl (by kernel_rfl) rfl (z := ?_) (v' := _) (fun u hu => ⟨u, ?_, hu⟩) ?_
  rotate_left
  · skip
    go_simp
    try (with_reducible rfl)
  walk_nrm
  refine gt_op closedXpa rfl rfl (by kernel_rfl) rfl (z := ?_) (v' := _) (fun u hu => ⟨u, ?_, hu⟩) ?_
  rotate_left
  · skip
    go_simp
    try (with_reducible rfl)
  walk_nrm
  refine gt_op closedXpa rfl rfl (by kernel_rfl) rfl (z := ?_) (v' := _) (fun u hu => ⟨u, ?_, hu⟩) ?_
  rotate_left
  · skip
    go_simp
    try (with_reducible rfl)
  walk_nrm
  refine gt_region_end ?_
  refine gt_code ?_
  refine gt_wpc closedXpa (plain_of Try.func5) rfl (by kernel_rfl) (fun w hw => ?_)
  replace HX := Lib.hid (HX.out.same hw)
  replace E := Lib.hid (E.out.same hw)
  clear hw
  go_wp2_with fail
  refine (eqReplicaS_any _ _ R R _ E.out.g.at E.out.wat).mono ?_
  rw [decide_eq_true rfl]
  rintro e wg ⟨rfl, hb⟩
  replace HX := Lib.hid (HX.out.below hb (Nat.le_refl _))
  replace E := Lib.hid (E.out.below hb)
  clear hb
  go_wp2
  ((try simp only [Exit.inBlock, Exit.then]); refine segPost_nil rfl ?_)
  refine gt_code ?_
  refine gt_wpc closedXpa (plain_of Try.func5) rfl (by kernel_rfl) (fun w hw => ?_)
  replace HX := Lib.hid (HX.out.same hw)
  replace E := Lib.hid (E.out.same hw)
  clear hw
  go_wp2_with fail
  refine (toReplicaS_any _ r _ (HV.out.keep E.out.kv) hsz).mono ?_
  rintro e wa ⟨ua, rfl, hOa, hb⟩
  have HA := Lib.hid hOa.at
  clear hOa
  replace HX := Lib.hid (HX.out.below hb (Nat.le_refl _))
  replace E := Lib.hid (E.out.below hb)
  clear hb
  go_wp2_with fail
  refine (eqReplicaS_any _ _ r r _ HX.out.at HA.out).mono ?_
  rw [decide_eq_true rfl]
  rintro e wb ⟨rfl, hb⟩
  clear HA
  replace HX := Lib.hid (HX.out.below hb (Nat.le_refl _))
  replace E := Lib.hid (E.out.below hb)
  clear hb
  go_wp2
  ((try simp only [Exit.inBlock, Exit.then]); refine segPost_nil rfl ?_)
  refine gt_code ?_
  refine gt_wpc closedXpa (plain_of Try.func5) rfl (by kernel_rfl) (fun w hw => ?_)
  replace HX := Lib.hid (HX.out.same hw)
  replace E := Lib.hid (E.out.same hw)
  clear hw
  go_wp2_with fail
  refine (toIntS_any _ xs0 _ (HN0.out.keep E.out.kv) hl0).mono ?_
  rintro e wa ⟨ua, rfl, hOa, hb⟩
  have HA := Lib.hid (intsAt_own hOa)
  clear hOa
  replace HX := Lib.hid (HX.out.below hb (Nat.le_refl _))
  replace E := Lib.hid (E.out.below hb)
  clear hb
  go_wp2_with fail
  refine (eqIntS_any _ _ xs0 xs0 _ (intsAt_own E.out.y0) HA.out).mono ?_
  rw [decide_eq_true rfl]
  rintro e wb ⟨rfl, hb⟩
  clear HA
  replace HX := Lib.hid (HX.out.below hb (Nat.le_refl _))
  replace E := Lib.hid (E.out.below hb)
  clear hb
  go_wp2
  ((try simp only [Exit.inBlock, Exit.then]); refine segPost_nil rfl ?_)
  refine gt_code ?_
  refine gt_wpc closedXpa (plain_of Try.func5) rfl (by kernel_rfl) (fun w hw => ?_)
  replace HX := Lib.hid (HX.out.same hw)
  replace E := Lib.hid (E.out.same hw)
  clear hw
  go_wp2
  ((try simp only [Exit.inBlock, Exit.then]); refine segPost_nil rfl ?_)
  have hcr : 1 + 3 * (r.length : Int) ≤ 1000000000000000 := by omega
  refine gt_code ?_
  refine gt_wpc closedXpa (plain_of Try.func5) rfl (by kernel_rfl) (fun w hw => ?_)
  replace HX := Lib.hid (HX.out.same hw)
  replace E := Lib.hid (E.out.same hw)
  clear hw
  go_wp2_with fail
  refine (markReplicaS_any _ r 1 w2.heap.size w3.heap.size _ HX.out HXL.out (by decide) hcr).mono ?_
  rintro e w7 ⟨rfl, -, hb, hk⟩
  replace E := Lib.hid (E.out.markX hb hk)
  clear hb hk HX HXL
  obtain ⟨k0, hk0⟩ : ∃ k : Int, 1 + 3 * (r.length : Int) = k := ⟨_, rfl⟩
  have hk0n : 0 ≤ k0 := by omega
  have hk0m : k0 ≤ 10000000 := by omega
  rw [hk0]
  clear hk0
  go_wp2
  ((try simp only [Exit.inBlock, Exit.then]); refine segPost_nil rfl ?_)
  refine gt_code ?_
  refine gt_wpc closedXpa (plain_of Try.func5) rfl (by kernel_rfl) (fun w hw => ?_)
  replace E := Lib.hid (E.out.same hw)
  clear hw
  go_wp2_with fail
  refine (markIntS_any _ _ xs0 k0 w3.heap.size _ E.out.y0 (by omega) (by omega)).mono ?_
  rintro e w7 ⟨rfl, -, hg⟩
  replace E := Lib.hid (E.out.markY hg)
  clear hg
  obtain ⟨k1, hk1⟩ : ∃ k : Int, k0 + (xs0.length : Int) = k := ⟨_, rfl⟩
  have hkn : ¬ k1 < 0 := by omega
  rw [hk1]
  clear hk1
  go_wp2
  ((try simp only [Exit.inBlock, Exit.then]); refine segPost_nil rfl ?_)
  refine gt_code ?_
  refine gt_wpc closedXpa (plain_of Try.func5) rfl (by kernel_rfl) (fun w hw => ?_)
  replace E := Lib.hid (E.out.same hw)
  clear hw
  go_wp2_with fail
  refine (eqReplicaS_any _ _ R R _ E.out.g.at E.out.wat).mono ?_
  rw [decide_eq_true rfl]
  rintro e wg ⟨rfl, hb⟩
  replace E := Lib.hid (E.out.below hb)
  clear hb
  go_wp2
  ((try simp only [Exit.inBlock, Exit.then]); refine segPost_nil rfl ?_)
  refine gt_code ?_
  refine gt_wpc closedXpa (plain_of Try.func5) rfl (by kernel_rfl) (fun w hw => ?_)
  replace E := Lib.hid (E.out.same hw)
  clear hw
  go_wp2
  ((try simp only [Exit.inBlock, Exit.then]); refine segPost_nil rfl ?_)
  have hcR : 1 + 3 * (R.length : Int) ≤ 1000000000000000 := by omega
  refine gt_code ?_
  refine gt_wpc closedXpa (plain_of Try.func5) rfl (by kernel_rfl) (fun w hw => ?_)
  replace E := Lib.hid (E.out.same hw)
  clear hw
  go_wp2_with fail
  refine (markReplicaS_any _ R 1 w4.heap.size _ _ E.out.g E.out.gl (by decide) hcR).mono ?_
  rintro e w7 ⟨rfl, hG, hb, -⟩
  replace E := Lib.hid (E.out.markG hb hG)
  clear hb hG
  obtain ⟨mm, hmm⟩ : ∃ k : Int, 1 + 3 * (R.length : Int) = k := ⟨_, rfl⟩
  have hmn : ¬ mm < 0 := by omega
  have hmne : (mm != mm) = false := by simp
  rw [hmm]
  go_wp2
  ((try simp only [Exit.inBlock, Exit.then]); refine segPost_nil rfl ?_)
  refine gt_code ?_
  refine gt_wpc closedXpa (plain_of Try.func5) rfl (by kernel_rfl) (fun w hw => ?_)
  replace E := Lib.hid (E.out.same hw)
  clear hw
  go_wp2
  ((try simp only [Exit.inBlock, Exit.then]); refine segPost_nil rfl ?_)
  refine gt_code ?_
  refine gt_wpc closedXpa (plain_of Try.func5) rfl (by kernel_rfl) (fun w hw => ?_)
  replace E := Lib.hid (E.out.same hw)
  clear hw
  go_wp2_with fail
  refine (heldReplicaS_any _ R.length 1 _ E.out.g.at (by decide) hcR).mono ?_
  rintro e w' ⟨rfl, rfl⟩
  rw [hmm]
  go_wp2
  ((try simp only [Exit.inBlock, Exit.then]); refine segPost_nil rfl ?_)
  refine gt_code ?_
  refine gt_wpc closedXpa (plain_of Try.func5) rfl (by kernel_rfl) (fun w hw => ?_)
  replace E := Lib.hid (E.out.same hw)
  clear hw
  go_wp2
  ((try simp only [Exit.inBlock, Exit.then]); refine segPost_nil rfl ?_)
  refine gt_code ?_
  refine gt_wpc closedXpa (plain_of Try.func5) rfl (by kernel_rfl) (fun w hw => ?_)
  replace E := Lib.hid (E.out.same hw)
  clear hw
  go_wp2
  ((try simp only [Exit.inBlock, Exit.then]); refine segPost_nil rfl ?_)
  obtain ⟨wz, hwz⟩ : ∃ wz, w = wz := ⟨_, rfl⟩
  subst hwz
  obtain ⟨x0, x1, x2⟩ := cells3 ((E.out.kv.block N hNv).trans HBX.out)
  have hNw : N < w.heap.size := Nat.lt_of_lt_of_le hNv E.out.kv.size
  refine gt_code ?_
  refine gt_region_held closedXpa (by kernel_rfl) rfl (S := fun w' => KeepG (w) w') ?_
  have hHeld : KeepG (w) (w) := KeepG.refl _
  refine gtAny_take KeepG.sames (i := 0) (z := ?_) rfl (by kernel_rfl) (by kernel_rfl) (by kernel_rfl) (Or.inl ⟨by rfl, by kernel_rfl, ?_⟩) (by assumption) ?_
  rotate_left
  · (intro wz hSw; clear hSw; go_simp; try (with_reducible rfl))
  simp only [Act.put, List.getElem_toArray, List.getElem_cons_zero, List.setIfInBounds_toArray, List.set_cons_zero, List.set_cons_succ]
  refine gtAny_take KeepG.sames (i := 2) (z := ?_) rfl (by kernel_rfl) (by kernel_rfl) (by kernel_rfl) (Or.inl ⟨by rfl, by kernel_rfl, ?_⟩) (by assumption) ?_
  rotate_left
  · (intro wz hSw; clear hSw; go_simp; try (with_reducible rfl))
  simp only [Act.put, List.getElem_toArray, List.getElem_cons_zero, List.getElem_cons_succ, List.setIfInBounds_toArray, List.set_cons_zero, List.set_cons_succ]
  refine gtAny_take KeepG.sames (i := 4) (z := ?_) rfl (by kernel_rfl) (by kernel_rfl) (by kernel_rfl) (Or.inl ⟨by rfl, by kernel_rfl, ?_⟩) (by assumption) ?_
  rotate_left
  · (intro wz hSw; have s0 := (hSw.cell (p := ⟨N, 0, none⟩) hNw).trans x0; have s1 := (hSw.cell (p := ⟨N, 1, none⟩) hNw).trans x1; have s2 := (hSw.cell (p := ⟨N, 2, none⟩) hNw).trans x2; go_simp; try (with_reducible rfl))
  simp only [Act.put, List.getElem_toArray, List.getElem_cons_zero, List.getElem_cons_succ, List.setIfInBounds_toArray, List.set_cons_zero, List.set_cons_succ]
  refine gtAny_call (i := 1) (f := 18) (args := #[.slice p r.length cap]) (by kernel_rfl) rfl (by rfl) (fun u => ⟨?_, ?_⟩) (toRsG _ _ r (HV.out.keep (E.out.kv.trans hHeld)) hsz) (fun y80 v80 hy => ?_)
  · go_simp
  · simp [go_sem, callFunc, Try.func18, Try.f18]
  obtain ⟨hA, hbq⟩ := hy; have HA := Lib.hid hA.at
  have hHeld := hHeld.trans hbq
  refine ⟨hHeld, ?_⟩
  clear hbq
  simp only [Act.put, List.getElem_toArray, List.getElem_cons_zero, List.getElem_cons_succ, List.setIfInBounds_toArray, List.set_cons_zero, List.set_cons_succ]
  refine gtAny_call (i := 3) (f := 19) (args := #[.slice q0 xs0.length cq0]) (by kernel_rfl) rfl (by rfl) (fun u => ⟨?_, ?_⟩) (toIsG _ _ xs0 (HN0.out.keep (E.out.kv.trans hHeld)) hl0) (fun y81 v81 hy => ?_)
  · go_simp
  · simp [go_sem, callFunc, Try.func19, Try.f19]
  obtain ⟨hB, hbq⟩ := hy; have HB := Lib.hid hB; have HA2 := Lib.hid (HA.out.keep hbq)
  have hHeld := hHeld.trans hbq
  refine ⟨hHeld, ?_⟩
  clear hbq
  simp only [Act.put, List.getElem_toArray, List.getElem_cons_zero, List.getElem_cons_succ, List.setIfInBounds_toArray, List.set_cons_zero, List.set_cons_succ]
  refine gtAny_call (i := 5) (f := 20) (args := #[.agg #[.int .i64 x.a, .int .i64 x.b, .int .i64 x.c]]) (by kernel_rfl) rfl (by rfl) (fun u => ⟨?_, ?_⟩) (toRG _ x) (fun y82 v82 hy => ?_)
  · go_simp
  · simp [go_sem, callFunc, Try.func20, Try.f20]
  obtain ⟨rfl, hbq⟩ := hy; have HA3 := Lib.hid (HA2.out.keep hbq); have HB3 := Lib.hid (HB.out.keep hbq)
  have hHeld := hHeld.trans hbq
  refine ⟨hHeld, ?_⟩
  clear hbq
  simp only [Act.put, List.getElem_toArray, List.getElem_cons_zero, List.getElem_cons_succ, List.setIfInBounds_toArray, List.set_cons_zero, List.set_cons_succ]
  refine gtAny_call (i := 6) (f := 11) (args := #[y80, y81, .agg #[.int .i64 x.a, .int .i64 x.b, .int .i64 x.c]]) (by kernel_rfl) rfl (by rfl) (fun u => ⟨?_, ?_⟩) (iPartG _ _ _ r xs0 x HA3.out HB3.out) (fun y83 v83 hy => ?_)
  · go_simp
  · simp [go_sem, callFunc, Try.func11, Try.f11]
  unfold PartG at hy; rw [HR.out, HC.out] at hy; obtain ⟨uh, rfl, hH, hbq⟩ := hy; have HH := Lib.hid hH.at
  have hHeld := hHeld.trans hbq
  refine ⟨hHeld, ?_⟩
  clear hbq
  simp only [Act.put, List.getElem_toArray, List.getElem_cons_zero, List.getElem_cons_succ, List.setIfInBounds_toArray, List.set_cons_zero, List.set_cons_succ]
  refine gtAny_take KeepG.sames (i := 7) (z := ?_) rfl (by kernel_rfl) (by kernel_rfl) (by kernel_rfl) (Or.inl ⟨by rfl, by kernel_rfl, ?_⟩) (by assumption) ?_
  rotate_left
  · (intro wz hSw; clear hSw; go_simp; try (with_reducible rfl))
  simp only [Act.put, List.getElem_toArray, List.getElem_cons_zero, List.getElem_cons_succ, List.setIfInBounds_toArray, List.set_cons_zero, List.set_cons_succ]
  refine gtAny_take KeepG.sames (i := 8) (z := ?_) rfl (by kernel_rfl) (by kernel_rfl) (by kernel_rfl) (Or.inl ⟨by rfl, by kernel_rfl, ?_⟩) (by assumption) ?_
  rotate_left
  · (intro wz hSw; clear hSw; go_simp; try (with_reducible rfl))
  simp only [Act.put, List.getElem_toArray, List.getElem_cons_zero, List.getElem_cons_succ, List.setIfInBounds_toArray, List.set_cons_zero, List.set_cons_succ]
  refine gtAny_take KeepG.sames (i := 9) (z := ?_) rfl (by kernel_rfl) (by kernel_rfl) (by kernel_rfl) (Or.inl ⟨by rfl, by kernel_rfl, ?_⟩) (by assumption) ?_
  rotate_left
  · (intro wz hSw; clear hSw; go_simp; try (with_reducible rfl))
  simp only [Act.put, List.getElem_toArray, List.getElem_cons_zero, List.getElem_cons_succ, List.setIfInBounds_toArray, List.set_cons_zero, List.set_cons_succ]
  refine gtAny_take KeepG.sames (i := 10) (z := ?_) rfl (by kernel_rfl) (by kernel_rfl) (by kernel_rfl) (Or.inl ⟨by rfl, by kernel_rfl, ?_⟩) (by assumption) ?_
  rotate_left
  · (intro wz hSw; clear hSw; go_simp; try (with_reducible rfl))
  simp only [Act.put, List.getElem_toArray, List.getElem_cons_zero, List.getElem_cons_succ, List.setIfInBounds_toArray, List.set_cons_zero, List.set_cons_succ]
  refine gtAny_take KeepG.sames (i := 11) (z := ?_) rfl (by kernel_rfl) (by kernel_rfl) (by kernel_rfl) (Or.inl ⟨by rfl, by kernel_rfl, ?_⟩) (by assumption) ?_
  rotate_left
  · (intro wz hSw; clear hSw; go_simp; try (with_reducible rfl))
  simp only [Act.put, List.getElem_toArray, List.getElem_cons_zero, List.getElem_cons_succ, List.setIfInBounds_toArray, List.set_cons_zero, List.set_cons_succ]
  refine gtAny_done (by kernel_rfl) ?_ _
  refine gt_region_end ?_
  replace E := Lib.hid (E.out.keep hHeld)
  clear hHeld HA HA2 HA3 HB HB3 hA hB hH x0 x1 x2 hNw
  refine gt_wpc closedXpa (plain_of Try.func5) rfl (by kernel_rfl) (fun w hw => ?_)
  replace HH := Lib.hid (HH.out.same hw)
  replace E := Lib.hid (E.out.same hw)
  clear hw
  go_wp2_with fail
  refine (eqReplicaS_any _ _ R R _ HH.out E.out.wat).mono ?_
  rw [decide_eq_true rfl]
  rintro e wg ⟨rfl, hb⟩
  replace E := Lib.hid (E.out.below hb)
  clear hb
  go_wp2_with fail
  refine (heldReplicaS_any _ R.length 1 _ E.out.g.at (by decide) hcR).mono ?_
  rintro e w' ⟨rfl, rfl⟩
  rw [hmm]
  go_wp2
  ((try simp only [Exit.inBlock, Exit.then]); refine segPost_ret rfl (gt_returned Try.func5 rfl rfl (results_tmp rfl _ _ _) ?_))
  exact ⟨rfl, KB.out.trans E.out.kv⟩
end Go.Proofs.Ytkefnmmpipeppaa
