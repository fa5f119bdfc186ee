/-
  The contract of impl.RegisterRead, beside goroutines that only leave.
-/
import Derived.Test.YtkefnmmpipeppaaGo
import Derived.Test.YtkefnmmpipeppaaSf
set_option linter.unusedSimpArgs false
set_option linter.unusedVariables false
set_option linter.unusedSectionVars false
namespace Go.Proofs.Ytkefnmmpipeppaa
open Go.Conc Go.ConcN Go.RowKit Go.Conc.Lib Go.ConcR.Gen Go.ConcN.Gen Go.Proofs.Ytkefnmmpipeppaa.Rg
open Go.ConcR (KK wgBlock WgAt stA smA rd wr mk Payload Aside2 DC0 Bk)
variable [Kept]

/-- Is a register read, and what is left, and the value. -/
def rdB (rs : List Tr) (ks bs : List Int) : Bool := askB rs ks && majB rs.length bs
def rdR (rs : List Tr) (ks bs : List Int) : List Tr := if rdB rs ks bs then rPutAll (rLat rs ks) rs bs else []
def rdV (rs : List Tr) (ks bs : List Int) : Int := if rdB rs ks bs then (rLat rs ks).c else 0
omit [Kept] in
theorem rdR_no {rs : List Tr} {ks bs : List Int} (h : rdB rs ks bs = false) : rdR rs ks bs = [] ∧ rdV rs ks bs = 0 := by unfold rdR rdV; rw [h]; exact ⟨rfl, rfl⟩
omit [Kept] in
theorem rdR_yes {rs : List Tr} {ks bs : List Int} (h : rdB rs ks bs = true) : rdR rs ks bs = rPutAll (rLat rs ks) rs bs ∧ rdV rs ks bs = (rLat rs ks).c := by unfold rdR rdV; rw [h]; exact ⟨rfl, rfl⟩
omit [Kept] in
theorem results_tmp3 {fn : Func} {t u v : Tmp} (h : fn.results = #[.tmp t, .tmp u, .tmp v]) (tmps : Array Value) (P : Program) (w : World) :
    (results fn tmps).run P w = .ok (.tuple #[tmps.getD t undef, tmps.getD u undef, tmps.getD v undef]) w := by
  simp [results, h]
theorem closedRd : Closed Try.prog [46, 47, 36, 43, 16, 37, 44, 54, 48] := by
  intro f hf
  simp only [List.mem_cons, List.not_mem_nil, or_false] at hf
  rcases hf with rfl | rfl | rfl | rfl | rfl | rfl | rfl | rfl | rfl <;> kernel_rfl
def ReadG (rs : List Tr) (ks bs : List Int) (v : World) (z : Value) (u : World) : Prop :=
  ∃ y, z = .tuple #[y, .int .i64 (rdV rs ks bs), .bool (rdB rs ks bs)] ∧ TrsOwn u v.heap.size 26 y (rdR rs ks bs) ∧ KeepG v u
set_option maxRecDepth 100000 in
set_option maxHeartbeats 4000000 in
theorem iReadG (v : World) (vl vu vt : Value) (rs : List Tr) (ks bs : List Int) (hl : TrsAt v vl rs) (hu : IntsAt v vu ks) (ht : IntsAt v vt bs) (hk1 : ks.length ≤ 1048576) (hk2 : bs.length ≤ 1048576) :
    CallsG Try.prog 27 #[vl, vu, vt] v (ReadG rs ks bs v) := by
  refine CallsM.to (callsM_of_gt Try.func27 rfl fun cs => ?_)
  walk_nrmf Try.f27
  have HL := Lib.hid hl
  have HU := Lib.hid hu
  have HT := Lib.hid ht
  obtain ⟨p, cap, rfl, hc1, hc2⟩ := hl.form
  clear hl hu ht
  refine gt_code ?_
  refine gt_wpc closedRd (plain_of Try.func27) rfl (by kernel_rfl) (fun w hw => ?_)
  have K1 := Lib.hid (KeepG.of_same hw)
  clear hw
  go_wp2
  ((try simp only [Exit.inBlock, Exit.then]); refine segPost_nil rfl ?_)
  refine gt_code ?_
  obtain ⟨v1, hv1⟩ : ∃ v1, w = v1 := ⟨_, rfl⟩
  subst hv1
  refine gt_wpc closedRd (plain_of Try.func27) rfl (by kernel_rfl) (fun w hw => ?_)
  have K2 := Lib.hid (K1.out.same hw)
  have HL2 := Lib.hid (HL.out.keep K2.out)
  have HU2 := Lib.hid (HU.out.keep K2.out)
  have HT2 := Lib.hid (HT.out.keep K2.out)
  clear hw K1
  go_wp2_with fail
  refine (iAsked_any _ _ rs ks _ HL2.out HU2.out hk1).mono ?_
  rintro e w1 ⟨rfl, hb1⟩
  rcases h1 : (regB rs && majB rs.length ks) with _ | _
  · have HN := Lib.hid (show rdB rs ks bs = false by unfold rdB askB; rw [h1]; rfl)
    clear h1
    go_wp2
    ((try simp only [Exit.inBlock, Exit.then]); refine segPost_ret rfl (gt_returned Try.func27 rfl rfl (results_tmp3 rfl _ _ _) ?_))
    exact ⟨_, by rw [HN.out, (rdR_no HN.out).2]; rfl, by rw [(rdR_no HN.out).1]; exact TrsOwn.nil _ _ _, K2.out.below hb1⟩
  have HA := Lib.hid (show askB rs ks = true from h1)
  have hlen : 1 ≤ rs.length ∧ rs.length ≤ 5 := regB_len (by simp only [Bool.and_eq_true] at h1; exact h1.1)
  have HM := Lib.hid (show majB rs.length ks = true by simp only [Bool.and_eq_true] at h1; exact h1.2)
  clear h1
  go_wp2_with fail
  refine (iMaj_any _ bs _ _ (HT2.out.below hb1 (Nat.le_refl _)) (by omega) (by omega) hk2).mono ?_
  rintro e w2 ⟨rfl, hb2⟩
  have K3 := Lib.hid ((K2.out.below hb1).below hb2)
  clear hb1 hb2
  rcases h2 : majB rs.length bs with _ | _
  · have HN := Lib.hid (show rdB rs ks bs = false by unfold rdB; rw [h2]; simp)
    clear h2
    go_wp2
    ((try simp only [Exit.inBlock, Exit.then]); refine segPost_ret rfl (gt_returned Try.func27 rfl rfl (results_tmp3 rfl _ _ _) ?_))
    exact ⟨_, by rw [HN.out, (rdR_no HN.out).2]; rfl, by rw [(rdR_no HN.out).1]; exact TrsOwn.nil _ _ _, K3.out⟩
  have HY := Lib.hid (show rdB rs ks bs = true by unfold rdB; rw [HA.out, h2]; rfl)
  have HM2 := Lib.hid h2
  clear h2
  go_wp2
  ((try simp only [Exit.inBlock, Exit.then]); refine segPost_nil rfl ?_)
  have HL3 := Lib.hid (HL.out.keep K3.out)
  have HU3 := Lib.hid (HU.out.keep K3.out)
  have HT3 := Lib.hid (HT.out.keep K3.out)
  refine gt_code ?_
  refine gt_wpc closedRd (plain_of Try.func27) rfl (by kernel_rfl) (fun w hw => ?_)
  have K4 := Lib.hid (K3.out.same hw)
  clear hw
  go_wp2_with fail
  refine (iLat_any _ _ rs ks _ (HL.out.keep K4.out) (HU.out.keep K4.out) (majB_pos HM.out) (setB_range (majB_set HM.out))).mono ?_
  rintro e w5 ⟨rfl, hb5⟩
  obtain ⟨x, hx⟩ : ∃ x, rLat rs ks = x := ⟨_, rfl⟩
  have HX := Lib.hid hx
  rw [hx]
  clear hx
  have hbox := heap_alloc_new w5 (.cells #[.int .i64 x.a, .int .i64 x.b, .int .i64 x.c] 26)
  have hA := (Below.refl w5.heap.size w5).alloc (Nat.le_refl _) (.cells #[.int .i64 x.a, .int .i64 x.b, .int .i64 x.c] 26)
  have hs6 : (w5.alloc (.cells #[.int .i64 x.a, .int .i64 x.b, .int .i64 x.c] 26)).heap.size = w5.heap.size + 1 := by simp
  have K6 := Lib.hid ((K4.out.below hb5).below hA)
  clear hA hb5
  go_wp2
  ((try simp only [Exit.inBlock, Exit.then]); refine segPost_nil rfl ?_)
  obtain ⟨N, hN⟩ : ∃ N, w5.heap.size = N := ⟨_, rfl⟩
  obtain ⟨v6, hv6⟩ : ∃ v6, w5.alloc (.cells #[.int .i64 x.a, .int .i64 x.b, .int .i64 x.c] 26) = v6 := ⟨_, rfl⟩
  rw [hN] at hbox hs6 ⊢
  rw [hv6] at hbox K6 hs6 ⊢
  clear hN hv6
  have HL6 := Lib.hid (HL.out.keep K6.out)
  have HT6 := Lib.hid (HT.out.keep K6.out)
  obtain ⟨x0, x1, x2⟩ := cells3 hbox
  have hNl : N < v6.heap.size := by omega
  clear hbox
  refine gt_code ?_
  refine gt_region_held closedRd (by kernel_rfl) rfl (S := fun w' => KeepG (v6) w') ?_
  have hHeld : KeepG (v6) (v6) := KeepG.refl _
  refine gtAny_take KeepG.sames (i := 0) (z := ?_) rfl (by kernel_rfl) (by kernel_rfl) (by kernel_rfl) (Or.inl ⟨by rfl, by kernel_rfl, ?_⟩) (by assumption) ?_
  rotate_left
  · (intro wz hSw; clear hSw; go_simp; try (with_reducible rfl))
  simp only [Act.put, List.getElem_toArray, List.getElem_cons_zero, List.setIfInBounds_toArray, List.set_cons_zero, List.set_cons_succ]
  refine gtAny_take KeepG.sames (i := 1) (z := ?_) rfl (by kernel_rfl) (by kernel_rfl) (by kernel_rfl) (Or.inl ⟨by rfl, by kernel_rfl, ?_⟩) (by assumption) ?_
  rotate_left
  · (intro wz hSw; clear hSw; go_simp; try (with_reducible rfl))
  simp only [Act.put, List.getElem_toArray, List.getElem_cons_zero, List.getElem_cons_succ, List.setIfInBounds_toArray, List.set_cons_zero, List.set_cons_succ]
  refine gtAny_take KeepG.sames (i := 2) (z := ?_) rfl (by kernel_rfl) (by kernel_rfl) (by kernel_rfl) (Or.inl ⟨by rfl, by kernel_rfl, ?_⟩) (by assumption) ?_
  rotate_left
  · (intro wz hSw; have s0 := (hSw.cell (p := ⟨N, 0, none⟩) hNl).trans x0; have s1 := (hSw.cell (p := ⟨N, 1, none⟩) hNl).trans x1; have s2 := (hSw.cell (p := ⟨N, 2, none⟩) hNl).trans x2; go_simp; try (with_reducible rfl))
  simp only [Act.put, List.getElem_toArray, List.getElem_cons_zero, List.getElem_cons_succ, List.setIfInBounds_toArray, List.set_cons_zero, List.set_cons_succ]
  refine gtAny_take KeepG.sames (i := 4) (z := ?_) rfl (by kernel_rfl) (by kernel_rfl) (by kernel_rfl) (Or.inl ⟨by rfl, by kernel_rfl, ?_⟩) (by assumption) ?_
  rotate_left
  · (intro wz hSw; clear hSw; go_simp; try (with_reducible rfl))
  simp only [Act.put, List.getElem_toArray, List.getElem_cons_zero, List.getElem_cons_succ, List.setIfInBounds_toArray, List.set_cons_zero, List.set_cons_succ]
  refine gtAny_take KeepG.sames (i := 5) (z := ?_) rfl (by kernel_rfl) (by kernel_rfl) (by kernel_rfl) (Or.inl ⟨by rfl, by kernel_rfl, ?_⟩) (by assumption) ?_
  rotate_left
  · (intro wz hSw; have s0 := (hSw.cell (p := ⟨N, 0, none⟩) hNl).trans x0; have s1 := (hSw.cell (p := ⟨N, 1, none⟩) hNl).trans x1; have s2 := (hSw.cell (p := ⟨N, 2, none⟩) hNl).trans x2; go_simp; try (with_reducible rfl))
  simp only [Act.put, List.getElem_toArray, List.getElem_cons_zero, List.getElem_cons_succ, List.setIfInBounds_toArray, List.set_cons_zero, List.set_cons_succ]
  refine gtAny_call (i := 3) (f := 38) (args := #[.slice p rs.length cap, vt, .agg #[.int .i64 x.a, .int .i64 x.b, .int .i64 x.c]]) (by kernel_rfl) rfl (by rfl) (fun u => ⟨?_, ?_⟩) (writeG v6 _ _ rs bs x HL6.out HT6.out (by omega) (by omega) (setB_range (majB_set HM2.out)) (setB_mono (majB_set HM2.out)) (setB_len (majB_set HM2.out))) (fun y80 v80 hy => ?_)
  · go_simp
  · simp [go_sem, callFunc, Try.func38, Try.f38]
  obtain ⟨hO7, hbq⟩ := hy
  have hHeld := hHeld.trans hbq
  refine ⟨hHeld, ?_⟩
  clear hbq
  simp only [Act.put, List.getElem_toArray, List.getElem_cons_zero, List.getElem_cons_succ, List.setIfInBounds_toArray, List.set_cons_zero, List.set_cons_succ]
  refine gtAny_take KeepG.sames (i := 6) (z := ?_) rfl (by kernel_rfl) (by kernel_rfl) (by kernel_rfl) (Or.inl ⟨by rfl, by kernel_rfl, ?_⟩) (by assumption) ?_
  rotate_left
  · (intro wz hSw; clear hSw; go_simp; try (with_reducible rfl))
  simp only [Act.put, List.getElem_toArray, List.getElem_cons_zero, List.getElem_cons_succ, List.setIfInBounds_toArray, List.set_cons_zero, List.set_cons_succ]
  refine gtAny_take KeepG.sames (i := 7) (z := ?_) rfl (by kernel_rfl) (by kernel_rfl) (by kernel_rfl) (Or.inl ⟨by rfl, by kernel_rfl, ?_⟩) (by assumption) ?_
  rotate_left
  · (intro wz hSw; clear hSw; go_simp; try (with_reducible rfl))
  simp only [Act.put, List.getElem_toArray, List.getElem_cons_zero, List.getElem_cons_succ, List.setIfInBounds_toArray, List.set_cons_zero, List.set_cons_succ]
  refine gtAny_take KeepG.sames (i := 8) (z := ?_) rfl (by kernel_rfl) (by kernel_rfl) (by kernel_rfl) (Or.inl ⟨by rfl, by kernel_rfl, ?_⟩) (by assumption) ?_
  rotate_left
  · (intro wz hSw; clear hSw; go_simp; try (with_reducible rfl))
  simp only [Act.put, List.getElem_toArray, List.getElem_cons_zero, List.getElem_cons_succ, List.setIfInBounds_toArray, List.set_cons_zero, List.set_cons_succ]
  refine gtAny_done (by kernel_rfl) ?_ _
  refine gt_region_end ?_
  refine gt_ret ?_
  have HO7 := hO7.mono K6.out.size
  have K7 := K6.out.trans hHeld
  refine gt_returned Try.func27 rfl rfl (results_tmp3 rfl _ _ _) ⟨y80, ?_, by rw [(rdR_yes HY.out).1, HX.out]; exact HO7, K7⟩ _
  rw [HY.out, (rdR_yes HY.out).2, HX.out]
  rfl
end Go.Proofs.Ytkefnmmpipeppaa
