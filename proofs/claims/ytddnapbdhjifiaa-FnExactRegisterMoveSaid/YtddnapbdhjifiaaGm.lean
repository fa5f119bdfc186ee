/-
  The contract of impl.RegisterMove, beside goroutines that only leave.
-/
import Derived.Test.YtddnapbdhjifiaaGo
import Derived.Test.YtddnapbdhjifiaaSm
set_option linter.unusedSimpArgs false
set_option linter.unusedVariables false
set_option linter.unusedSectionVars false
namespace Go.Proofs.Ytddnapbdhjifiaa
open Go.Conc Go.ConcN Go.RowKit Go.Conc.Lib Go.ConcR.Gen Go.ConcN.Gen Go.Proofs.Ytddnapbdhjifiaa.Rg
open Go.ConcR (KK wgBlock WgAt stA smA rd wr mk Payload Aside2 DC0 Bk)
variable [Kept]

section
variable {P : Program} {L : List FuncId} {ops : Array Oper} {md : Region.Mode} {S : World → Prop}
theorem gtAny_two {F : Act → World → Prop} {i j : Nat} {fuel : Nat} {listed : Array Bool} {a : Act} {w : World} (hr : Region.ready md ops listed = [i, j])
    (h : GOp P L ops i (fun a' v' => S v' ∧ gtAny P L md ops F S fuel (listed.setIfInBounds i true) a' v') a w)
    (h' : GOp P L ops j (fun a' v' => S v' ∧ gtAny P L md ops F S fuel (listed.setIfInBounds j true) a' v') a w) : gtAny P L md ops F S (fuel + 1) listed a w :=
  ⟨fun h0 => (by rw [h0] at hr; cases hr), fun k hk => by
    rw [hr] at hk
    rcases List.mem_cons.1 hk with rfl | hk
    · exact h
    · obtain rfl := List.mem_singleton.1 hk
      exact h'⟩
theorem gtAny_lone {F : Act → World → Prop} {i : Nat} {fuel : Nat} {listed : Array Bool} {a : Act} {w : World} (hr : Region.ready md ops listed = [i])
    (h : GOp P L ops i (fun a' v' => S v' ∧ gtAny P L md ops F S fuel (listed.setIfInBounds i true) a' v') a w) : gtAny P L md ops F S (fuel + 1) listed a w :=
  ⟨fun h0 => (by rw [h0] at hr; cases hr), fun k hk => by
    rw [hr] at hk
    obtain rfl := List.mem_singleton.1 hk
    exact h⟩
theorem gop_make {i : Nat} {o : Oper} {K : Act → World → Prop} {a : Act} {v v' : World} {z : Value} (hi : ops[i]? = some o) (hw : Region.wanted o (yielded ops a.tmps) = true) (hok : okOp P L o = true)
    (hrun : ∀ u, Same v u → ∃ u', (execOp a.eval o).run P u = .ok (.value z) u' ∧ Same v' u') (h : K (a.put o.dst z) v') : GOp P L ops i K a v :=
  ⟨o, hi, .inl ⟨hw, .inl ⟨z, v', hok, hrun, h⟩⟩⟩
theorem gop_call {i : Nat} {o : Oper} {K : Act → World → Prop} {a : Act} {v : World} {f : FuncId} {args : Array Value} {R : Value → World → Prop} (hi : ops[i]? = some o) (hw : Region.wanted o (yielded ops a.tmps) = true)
    (hrun : ∀ u, (execOp a.eval o).run P u = .ok (.enter f args) u ∧ (execOp a.eval o).events P u #[] = #[]) (hc : CallsG P f args v R) (h : ∀ z v', R z v' → K (a.put o.dst z) v') : GOp P L ops i K a v :=
  ⟨o, hi, .inl ⟨hw, .inr (.inr ⟨f, args, R, hrun, hc, h⟩)⟩⟩
end

theorem closedLt : Closed Try.prog [38, 45] := by
  intro f hf
  simp only [List.mem_cons, List.not_mem_nil, or_false] at hf
  rcases hf with rfl | rfl <;> kernel_rfl
theorem latestG (v : World) (vl vt : Value) (rs : List Tr) (ks : List Int) (hl : TrsAt v vl rs) (ht : IntsAt v vt ks) (h0 : 0 < ks.length) (hk : ∀ m, m < ks.length → 0 ≤ ks.getD m 0 ∧ ks.getD m 0 < rs.length) :
    CallsG Try.prog 38 #[vl, vt] v fun z u => z = .agg #[.int .i64 (rLat rs ks).a, .int .i64 (rLat rs ks).b, .int .i64 (rLat rs ks).c] ∧ KeepG v u :=
  callsG_of_calls closedLt (by simp) (fun z u u' s h => ⟨h.1, h.2.same s⟩) fun w s => (iLat_any vl vt rs ks w (hl.same s) (ht.same s) h0 hk).mono fun e w' h => ⟨_, h.1, rfl, .of_below s h.2⟩
theorem closedAs : Closed Try.prog [34, 36, 49, 35, 23, 44, 45, 57] := by
  intro f hf
  simp only [List.mem_cons, List.not_mem_nil, or_false] at hf
  rcases hf with rfl | rfl | rfl | rfl | rfl | rfl | rfl | rfl <;> kernel_rfl
def MoveG (rs : List Tr) (ks : List Int) (many : Int) (ts : List Int) (v : World) (z : Value) (u : World) : Prop :=
  ∃ y, z = .tuple #[y, .bool (mvB rs ks many ts)] ∧ TrsOwn u v.heap.size 39 y (mvR rs ks many ts) ∧ KeepG v u
set_option maxRecDepth 100000 in
set_option maxHeartbeats 4000000 in
theorem iMoveG (v : World) (vl vu vt : Value) (rs : List Tr) (ks ts : List Int) (many : Int) (hl : TrsAt v vl rs) (hu : IntsAt v vu ks) (ht : IntsAt v vt ts) (hk1 : ks.length ≤ 1048576) (hk2 : ts.length ≤ 1048576) :
    CallsG Try.prog 13 #[vl, vu, .int .i64 many, vt] v (MoveG rs ks many ts v) := by
  refine CallsM.to (callsM_of_gt Try.func13 rfl fun cs => ?_)
  walk_nrmf Try.f13
  have HL := Lib.hid hl
  have HU := Lib.hid hu
  have HT := Lib.hid ht
  obtain ⟨p, cap, rfl, hc1, hc2⟩ := hl.form
  clear hl hu ht
  refine gt_code ?_
  refine gt_wpc closedAs (plain_of Try.func13) rfl (by kernel_rfl) (fun w hw => ?_)
  have K1 := Lib.hid (KeepG.of_same hw)
  clear hw
  go_wp2
  ((try simp only [Exit.inBlock, Exit.then]); refine segPost_nil rfl ?_)
  refine gt_code ?_
  obtain ⟨v1, hv1⟩ : ∃ v1, w = v1 := ⟨_, rfl⟩
  subst hv1
  refine gt_wpc closedAs (plain_of Try.func13) rfl (by kernel_rfl) (fun w hw => ?_)
  have K2 := Lib.hid (K1.out.same hw)
  have HL2 := Lib.hid (HL.out.keep K2.out)
  have HU2 := Lib.hid (HU.out.keep K2.out)
  have HT2 := Lib.hid (HT.out.keep K2.out)
  clear hw K1
  go_wp2_with fail
  refine (iAsked_any _ _ rs ks _ HL2.out HU2.out hk1).mono ?_
  rintro e w1 ⟨rfl, hb1⟩
  rcases h1 : (regB rs && majB rs.length ks) with _ | _
  · have HN := Lib.hid (show mvB rs ks many ts = false by unfold mvB askB; rw [h1]; rfl)
    clear h1
    go_wp2
    ((try simp only [Exit.inBlock, Exit.then]); refine segPost_ret rfl (gt_returned Try.func13 rfl rfl (results_tmp2 rfl _ _ _) ?_))
    exact ⟨_, by rw [HN.out]; rfl, by rw [mvR_no HN.out]; exact TrsOwn.nil _ _ _, K2.out.below hb1⟩
  have HA := Lib.hid (show askB rs ks = true from h1)
  have hlen : 1 ≤ rs.length ∧ rs.length ≤ 5 := regB_len (by simp only [Bool.and_eq_true] at h1; exact h1.1)
  have HM1 := Lib.hid (show majB rs.length ks = true by simp only [Bool.and_eq_true] at h1; exact h1.2)
  clear h1
  rcases h5 : inR many 1 5 with _ | _
  · have HN := Lib.hid (show mvB rs ks many ts = false by unfold mvB; rw [h5]; simp)
    have H5 := Lib.hid h5
    clear h5
    go_wp2_with (go_at_call 35; refine (inRange_is many 1 5 _ H5.out _).mono ?_; rintro e w' ⟨rfl, rfl⟩)
    ((try simp only [Exit.inBlock, Exit.then]); refine segPost_ret rfl (gt_returned Try.func13 rfl rfl (results_tmp2 rfl _ _ _) ?_))
    exact ⟨_, by rw [HN.out]; rfl, by rw [mvR_no HN.out]; exact TrsOwn.nil _ _ _, K2.out.below hb1⟩
  have H5 := Lib.hid h5
  obtain ⟨m, rfl, hm1, hm5⟩ := many_nat h5
  clear h5
  go_wp2_with (go_at_call 35; refine (inRange_is (m : Int) 1 5 _ H5.out _).mono ?_; rintro e w' ⟨rfl, rfl⟩)
  refine (iMaj_any _ ts _ _ (HT2.out.below hb1 (Nat.le_refl _)) (by omega) (by omega) hk2).mono ?_
  rintro e w2 ⟨rfl, hb2⟩
  have K3 := Lib.hid ((K2.out.below hb1).below hb2)
  clear hb1 hb2
  rcases h2 : majB (m : Int) ts with _ | _
  · have HN := Lib.hid (show mvB rs ks (m : Int) ts = false by unfold mvB; rw [h2]; simp)
    clear h2
    go_wp2
    ((try simp only [Exit.inBlock, Exit.then]); refine segPost_ret rfl (gt_returned Try.func13 rfl rfl (results_tmp2 rfl _ _ _) ?_))
    exact ⟨_, by rw [HN.out]; rfl, by rw [mvR_no HN.out]; exact TrsOwn.nil _ _ _, K3.out⟩
  have HY := Lib.hid (show mvB rs ks (m : Int) ts = true by unfold mvB; rw [HA.out, H5.out, h2]; rfl)
  have HM2 := Lib.hid (show majB ((List.replicate m (default : Tr)).length : Int) ts = true by rw [List.length_replicate]; exact h2)
  clear h2
  go_wp2
  ((try simp only [Exit.inBlock, Exit.then]); refine segPost_nil rfl ?_)
  have hmk := mkReplicas m (by omega)
  refine gt_code ?_
  refine gt_region_held closedAs (by kernel_rfl) rfl (S := fun w' => KeepG (w2) w') ?_
  have hHeld : KeepG (w2) (w2) := KeepG.refl _
  refine gtAny_take KeepG.sames (i := 0) (z := ?_) rfl (by kernel_rfl) (by kernel_rfl) (by kernel_rfl) (Or.inl ⟨by rfl, by kernel_rfl, ?_⟩) (by assumption) ?_
  rotate_left
  · (intro wz hSw; clear hSw; go_simp; try (with_reducible rfl))
  simp only [Act.put, List.getElem_toArray, List.getElem_cons_zero, List.setIfInBounds_toArray, List.set_cons_zero, List.set_cons_succ]
  refine gtAny_take KeepG.sames (i := 2) (z := ?_) rfl (by kernel_rfl) (by kernel_rfl) (by kernel_rfl) (Or.inl ⟨by rfl, by kernel_rfl, ?_⟩) (by assumption) ?_
  rotate_left
  · (intro wz hSw; clear hSw; go_simp; try (with_reducible rfl))
  simp only [Act.put, List.getElem_toArray, List.getElem_cons_zero, List.getElem_cons_succ, List.setIfInBounds_toArray, List.set_cons_zero, List.set_cons_succ]
  refine gtAny_take KeepG.sames (i := 3) (z := ?_) rfl (by kernel_rfl) (by kernel_rfl) (by kernel_rfl) (Or.inl ⟨by rfl, by kernel_rfl, ?_⟩) (by assumption) ?_
  rotate_left
  · (intro wz hSw; clear hSw; go_simp; try (with_reducible rfl))
  simp only [Act.put, List.getElem_toArray, List.getElem_cons_zero, List.getElem_cons_succ, List.setIfInBounds_toArray, List.set_cons_zero, List.set_cons_succ]
  refine gtAny_take KeepG.sames (i := 4) (z := ?_) rfl (by kernel_rfl) (by kernel_rfl) (by kernel_rfl) (Or.inl ⟨by rfl, by kernel_rfl, ?_⟩) (by assumption) ?_
  rotate_left
  · (intro wz hSw; clear hSw; go_simp; try (with_reducible rfl))
  simp only [Act.put, List.getElem_toArray, List.getElem_cons_zero, List.getElem_cons_succ, List.setIfInBounds_toArray, List.set_cons_zero, List.set_cons_succ]
  refine gtAny_two (i := 1) (j := 5) (by kernel_rfl) ?_ ?_
  · refine gop_make (i := 1) rfl (by rfl) (by kernel_rfl) (z := .slice (some ⟨(w2).heap.size, 0, none⟩) m m) (v' := (w2).alloc (.cells (mkT m) 39)) (fun u hu => ⟨u.alloc (.cells (mkT m) 39), by (rw [← hu.heap]; have e := hmk u; go_simp; try (with_reducible rfl)), same_alloc hu _⟩) ?_
    have hbq : KeepG w2 ((w2).alloc (.cells (mkT m) 39)) := KeepG.alloc (w2) _
    have hHeld := hHeld.trans hbq
    refine ⟨hHeld, ?_⟩
    have HM0 := Lib.hid (zerosAt w2 m hm5)
    clear hbq
    simp only [Act.put, List.getElem_toArray, List.getElem_cons_zero, List.getElem_cons_succ, List.setIfInBounds_toArray, List.set_cons_zero, List.set_cons_succ]
    refine gtAny_lone (i := 5) (by kernel_rfl) ?_
    refine gop_call (i := 5) (f := 38) (args := #[.slice p rs.length cap, vu]) rfl (by rfl) (fun u => ⟨?_, ?_⟩) (latestG _ _ _ rs ks (HL.out.keep (K3.out.trans hHeld)) (HU.out.keep (K3.out.trans hHeld)) (majB_pos HM1.out) (setB_range (majB_set HM1.out))) (fun y70 v70 hy => ?_)
    · go_simp
    · simp [go_sem, callFunc, Try.func38, Try.f38]
    obtain ⟨rfl, hbq⟩ := hy; have HM := Lib.hid (HM0.out.keep hbq)
    have hHeld := hHeld.trans hbq
    refine ⟨hHeld, ?_⟩
    clear hbq
    simp only [Act.put, List.getElem_toArray, List.getElem_cons_zero, List.getElem_cons_succ, List.setIfInBounds_toArray, List.set_cons_zero, List.set_cons_succ]
    refine gtAny_call (i := 6) (f := 37) (args := _) (by kernel_rfl) rfl (by rfl) (fun u => ⟨?_, ?_⟩) (writeG _ _ _ (List.replicate m default) ts (rLat rs ks) HM.out (HT.out.keep (K3.out.trans hHeld)) (by simp; omega) (by simp; omega) (setB_range (majB_set HM2.out)) (setB_mono (majB_set HM2.out)) (setB_len (majB_set HM2.out))) (fun y80 v80 hy => ?_)
    · go_simp
    · simp [go_sem, callFunc, Try.func37, Try.f37]
    obtain ⟨hO7, hbq⟩ := hy; have HO7 := Lib.hid (hO7.mono (K3.out.trans hHeld).size)
    have hHeld := hHeld.trans hbq
    refine ⟨hHeld, ?_⟩
    clear hbq
    simp only [Act.put, List.getElem_toArray, List.getElem_cons_zero, List.getElem_cons_succ, List.setIfInBounds_toArray, List.set_cons_zero, List.set_cons_succ]
    refine gtAny_take KeepG.sames (i := 7) (z := ?_) rfl (by kernel_rfl) (by kernel_rfl) (by kernel_rfl) (Or.inl ⟨by rfl, by kernel_rfl, ?_⟩) (by assumption) ?_
    rotate_left
    · (intro wz hSw; clear hSw; go_simp; try (with_reducible rfl))
    simp only [Act.put, List.getElem_toArray, List.getElem_cons_zero, List.getElem_cons_succ, List.setIfInBounds_toArray, List.set_cons_zero, List.set_cons_succ]
    refine gtAny_take KeepG.sames (i := 8) (z := ?_) rfl (by kernel_rfl) (by kernel_rfl) (by kernel_rfl) (Or.inl ⟨by rfl, by kernel_rfl, ?_⟩) (by assumption) ?_
    rotate_left
    · (intro wz hSw; clear hSw; go_simp; try (with_reducible rfl))
    simp only [Act.put, List.getElem_toArray, List.getElem_cons_zero, List.getElem_cons_succ, List.setIfInBounds_toArray, List.set_cons_zero, List.set_cons_succ]
    refine gtAny_done (by kernel_rfl) ?_ _
    refine gt_region_end ?_
    refine gt_ret ?_
    refine gt_returned Try.func13 rfl rfl (results_tmp2 rfl _ _ _) ⟨y80, ?_, by rw [mvR_yes HY.out]; exact HO7.out, K3.out.trans hHeld⟩ _
    rw [HY.out]
    rfl
  · refine gop_call (i := 5) (f := 38) (args := #[.slice p rs.length cap, vu]) rfl (by rfl) (fun u => ⟨?_, ?_⟩) (latestG _ _ _ rs ks (HL.out.keep (K3.out.trans hHeld)) (HU.out.keep (K3.out.trans hHeld)) (majB_pos HM1.out) (setB_range (majB_set HM1.out))) (fun y70 v70 hy => ?_)
    · go_simp
    · simp [go_sem, callFunc, Try.func38, Try.f38]
    obtain ⟨rfl, hbq⟩ := hy
    have hHeld := hHeld.trans hbq
    refine ⟨hHeld, ?_⟩
    clear hbq
    simp only [Act.put, List.getElem_toArray, List.getElem_cons_zero, List.getElem_cons_succ, List.setIfInBounds_toArray, List.set_cons_zero, List.set_cons_succ]
    refine gtAny_lone (i := 1) (by kernel_rfl) ?_
    refine gop_make (i := 1) rfl (by rfl) (by kernel_rfl) (z := .slice (some ⟨(v70).heap.size, 0, none⟩) m m) (v' := (v70).alloc (.cells (mkT m) 39)) (fun u hu => ⟨u.alloc (.cells (mkT m) 39), by (rw [← hu.heap]; have e := hmk u; go_simp; try (with_reducible rfl)), same_alloc hu _⟩) ?_
    have hbq : KeepG v70 ((v70).alloc (.cells (mkT m) 39)) := KeepG.alloc (v70) _
    have hHeld := hHeld.trans hbq
    refine ⟨hHeld, ?_⟩
    have HM := Lib.hid (zerosAt v70 m hm5)
    clear hbq
    simp only [Act.put, List.getElem_toArray, List.getElem_cons_zero, List.getElem_cons_succ, List.setIfInBounds_toArray, List.set_cons_zero, List.set_cons_succ]
    refine gtAny_call (i := 6) (f := 37) (args := _) (by kernel_rfl) rfl (by rfl) (fun u => ⟨?_, ?_⟩) (writeG _ _ _ (List.replicate m default) ts (rLat rs ks) HM.out (HT.out.keep (K3.out.trans hHeld)) (by simp; omega) (by simp; omega) (setB_range (majB_set HM2.out)) (setB_mono (majB_set HM2.out)) (setB_len (majB_set HM2.out))) (fun y80 v80 hy => ?_)
    · go_simp
    · simp [go_sem, callFunc, Try.func37, Try.f37]
    obtain ⟨hO7, hbq⟩ := hy; have HO7 := Lib.hid (hO7.mono (K3.out.trans hHeld).size)
    have hHeld := hHeld.trans hbq
    refine ⟨hHeld, ?_⟩
    clear hbq
    simp only [Act.put, List.getElem_toArray, List.getElem_cons_zero, List.getElem_cons_succ, List.setIfInBounds_toArray, List.set_cons_zero, List.set_cons_succ]
    refine gtAny_take KeepG.sames (i := 7) (z := ?_) rfl (by kernel_rfl) (by kernel_rfl) (by kernel_rfl) (Or.inl ⟨by rfl, by kernel_rfl, ?_⟩) (by assumption) ?_
    rotate_left
    · (intro wz hSw; clear hSw; go_simp; try (with_reducible rfl))
    simp only [Act.put, List.getElem_toArray, List.getElem_cons_zero, List.getElem_cons_succ, List.setIfInBounds_toArray, List.set_cons_zero, List.set_cons_succ]
    refine gtAny_take KeepG.sames (i := 8) (z := ?_) rfl (by kernel_rfl) (by kernel_rfl) (by kernel_rfl) (Or.inl ⟨by rfl, by kernel_rfl, ?_⟩) (by assumption) ?_
    rotate_left
    · (intro wz hSw; clear hSw; go_simp; try (with_reducible rfl))
    simp only [Act.put, List.getElem_toArray, List.getElem_cons_zero, List.getElem_cons_succ, List.setIfInBounds_toArray, List.set_cons_zero, List.set_cons_succ]
    refine gtAny_done (by kernel_rfl) ?_ _
    refine gt_region_end ?_
    refine gt_ret ?_
    refine gt_returned Try.func13 rfl rfl (results_tmp2 rfl _ _ _) ⟨y80, ?_, by rw [mvR_yes HY.out]; exact HO7.out, K3.out.trans hHeld⟩ _
    rw [HY.out]
    rfl
end Go.Proofs.Ytddnapbdhjifiaa
