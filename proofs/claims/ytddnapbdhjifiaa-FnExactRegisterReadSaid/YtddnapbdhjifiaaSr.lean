/-
  Contracts: spec.RegisterRead, DrawRegisterRead.
-/
import Derived.Test.YtddnapbdhjifiaaGr
import Derived.Test.YtddnapbdhjifiaaDrp
set_option linter.unusedSimpArgs false
set_option linter.unusedVariables false
set_option linter.unusedSectionVars false
namespace Go.Proofs.Ytddnapbdhjifiaa
open Go.RowKit

def RdPost (rs : List Tr) (ks bs : List Int) (w : World) (e : Ending) (w' : World) : Prop :=
  ∃ z, e = .returned (.tuple #[z, .int .i64 (rdV rs ks bs), .bool (rdB rs ks bs)]) ∧ TrsOwn w' w.heap.size 39 z (rdR rs ks bs) ∧ Below w.heap.size w w'
theorem rdPost_no {rs : List Tr} {ks bs : List Int} {w w1 : World} (h : rdB rs ks bs = false) (hb : Below w.heap.size w w1) :
    RdPost rs ks bs w (.returned (.tuple #[.slice (some ⟨w1.heap.size, 0, none⟩) 0 0, .int .i64 0, .bool false])) (w1.alloc (.cells #[] 39)) :=
  ⟨_, by rw [h, (rdR_no h).2], by rw [(rdR_no h).1]; exact TrsOwn.made _ _ _ hb.size, hb.alloc hb.size _⟩
set_option maxRecDepth 100000 in
set_option maxHeartbeats 4000000 in
theorem sRead_any (v u t : Value) (rs : List Tr) (ks bs : List Int) (w : World) (hv : TrsAt w v rs) (hu : IntsAt w u ks) (ht : IntsAt w t bs) (hr : rs.length ≤ 1048576) (hl : ks.length ≤ 1048576) (hl2 : bs.length ≤ 1048576) :
    Calls Try.prog 26 #[v, u, t] w (RdPost rs ks bs w) := by
  have HV := Lib.hid hv
  have HU := Lib.hid hu
  have HT := Lib.hid ht
  obtain ⟨p, cap, rfl, hc1, hc2⟩ := hv.form
  clear hv hu ht
  go_enter Try.func26, Try.ntmps26
  go_wp2_with fail
  refine (sReg_any _ rs _ HV.out).mono ?_
  rintro e w1 ⟨rfl, hb1⟩
  have HB1 := Lib.hid hb1
  rcases h1 : regB rs with _ | _
  · have HN := Lib.hid (show rdB rs ks bs = false by unfold rdB askB; rw [h1]; rfl)
    go_wp2
    ((try simp only [Exit.inBlock, Exit.then]); refine bodyPost_ret (results_tmp3 rfl _ _ _) rfl ?_)
    exact rdPost_no HN.out HB1.out
  have H1 := Lib.hid h1
  have hlen := regB_len h1
  clear h1
  go_wp2_with fail
  refine (sMaj_any _ ks _ _ (HU.out.below HB1.out (Nat.le_refl _)) (by omega) (by omega) hl).mono ?_
  rintro e w2 ⟨rfl, hb2⟩
  have HB2 := Lib.hid (HB1.out.trans (hb2.mono HB1.out.size))
  clear hb1 hb2
  rcases h2 : majB rs.length ks with _ | _
  · have HN := Lib.hid (show rdB rs ks bs = false by unfold rdB askB; rw [H1.out, h2]; rfl)
    go_wp2
    ((try simp only [Exit.inBlock, Exit.then]); refine bodyPost_ret (results_tmp3 rfl _ _ _) rfl ?_)
    exact rdPost_no HN.out HB2.out
  have HA := Lib.hid (show askB rs ks = true by unfold askB; rw [H1.out, h2]; rfl)
  have H2 := Lib.hid h2
  clear h2
  go_wp2_with fail
  refine (sMaj_any _ bs _ _ (HT.out.below HB2.out (Nat.le_refl _)) (by omega) (by omega) hl2).mono ?_
  rintro e w3 ⟨rfl, hb3⟩
  have HB3 := Lib.hid (HB2.out.trans (hb3.mono HB2.out.size))
  clear hb3
  rcases h3 : majB rs.length bs with _ | _
  · have HN := Lib.hid (show rdB rs ks bs = false by unfold rdB; rw [h3]; simp)
    go_wp2
    ((try simp only [Exit.inBlock, Exit.then]); refine bodyPost_ret (results_tmp3 rfl _ _ _) rfl ?_)
    exact rdPost_no HN.out HB3.out
  have HY := Lib.hid (show rdB rs ks bs = true by unfold rdB; rw [HA.out, h3]; rfl)
  have H3 := Lib.hid h3
  clear h3
  go_wp2_with fail
  refine (sLat_any _ _ rs ks _ (HV.out.below HB3.out (Nat.le_refl _)) (HU.out.below HB3.out (Nat.le_refl _)) (majB_pos H2.out) (setB_range (majB_set H2.out))).mono ?_
  rintro e w4 ⟨rfl, hb4⟩
  have HB4 := Lib.hid (HB3.out.trans (hb4.mono HB3.out.size))
  clear hb4
  obtain ⟨x, hx⟩ : ∃ x, rLat rs ks = x := ⟨_, rfl⟩
  have HX := Lib.hid hx
  rw [hx]
  clear hx
  have hb5 := (Below.refl w4.heap.size w4).alloc (Nat.le_refl _) (.cells #[.int .i64 x.a, .int .i64 x.b, .int .i64 x.c] 39)
  have hbox := heap_alloc_new w4 (.cells #[.int .i64 x.a, .int .i64 x.b, .int .i64 x.c] 39)
  have hs5 : (w4.alloc (.cells #[.int .i64 x.a, .int .i64 x.b, .int .i64 x.c] 39)).heap.size = w4.heap.size + 1 := by simp
  have HB5 := Lib.hid (HB4.out.trans (hb5.mono HB4.out.size))
  clear hb5
  go_wp2_with fail
  obtain ⟨W, hW⟩ : ∃ W, w4.alloc (.cells #[.int .i64 x.a, .int .i64 x.b, .int .i64 x.c] 39) = W := ⟨_, rfl⟩
  obtain ⟨N, hN⟩ : ∃ N, w4.heap.size = N := ⟨_, rfl⟩
  rw [hW, hN] at hbox hs5
  rw [hW] at HB5 ⊢
  rw [hN]
  clear hW hN
  obtain ⟨x0, x1, x2⟩ := cells3 hbox
  have hNl : N < W.heap.size := by omega
  clear hbox
  refine wp_region_held_drew (S := fun w' => Below (W).heap.size W w') (by kernel_rfl) (Below.refl _ W).drew (fun hHeld => ?_)
  refine wpAnyH_take (i := 0) (v := ?_) rfl (by kernel_rfl) (by kernel_rfl) (by kernel_rfl) (fun _ _ _ h => h) (Or.inl ⟨by rfl, ?_⟩) (by assumption) ?_
  rotate_left
  · (intro wz hSw; clear hSw; go_simp; try (with_reducible rfl))
  simp only [Act.put, List.getElem_toArray, List.getElem_cons_zero, List.setIfInBounds_toArray, List.set_cons_zero, List.set_cons_succ]
  refine wpAnyH_take (i := 1) (v := ?_) rfl (by kernel_rfl) (by kernel_rfl) (by kernel_rfl) (fun _ _ _ h => h) (Or.inl ⟨by rfl, ?_⟩) (by assumption) ?_
  rotate_left
  · (intro wz hSw; clear hSw; go_simp; try (with_reducible rfl))
  simp only [Act.put, List.getElem_toArray, List.getElem_cons_zero, List.getElem_cons_succ, List.setIfInBounds_toArray, List.set_cons_zero, List.set_cons_succ]
  refine wpAnyH_take (i := 2) (v := ?_) rfl (by kernel_rfl) (by kernel_rfl) (by kernel_rfl) (fun _ _ _ h => h) (Or.inl ⟨by rfl, ?_⟩) (by assumption) ?_
  rotate_left
  · (intro wz hSw; have s0 := (hSw.cell (p := ⟨N, 0, none⟩) hNl).trans x0; have s1 := (hSw.cell (p := ⟨N, 1, none⟩) hNl).trans x1; have s2 := (hSw.cell (p := ⟨N, 2, none⟩) hNl).trans x2; go_simp; try (with_reducible rfl))
  simp only [Act.put, List.getElem_toArray, List.getElem_cons_zero, List.getElem_cons_succ, List.setIfInBounds_toArray, List.set_cons_zero, List.set_cons_succ]
  refine wpAnyH_take (i := 4) (v := ?_) rfl (by kernel_rfl) (by kernel_rfl) (by kernel_rfl) (fun _ _ _ h => h) (Or.inl ⟨by rfl, ?_⟩) (by assumption) ?_
  rotate_left
  · (intro wz hSw; clear hSw; go_simp; try (with_reducible rfl))
  simp only [Act.put, List.getElem_toArray, List.getElem_cons_zero, List.getElem_cons_succ, List.setIfInBounds_toArray, List.set_cons_zero, List.set_cons_succ]
  refine wpAnyH_take (i := 5) (v := ?_) rfl (by kernel_rfl) (by kernel_rfl) (by kernel_rfl) (fun _ _ _ h => h) (Or.inl ⟨by rfl, ?_⟩) (by assumption) ?_
  rotate_left
  · (intro wz hSw; have s0 := (hSw.cell (p := ⟨N, 0, none⟩) hNl).trans x0; have s1 := (hSw.cell (p := ⟨N, 1, none⟩) hNl).trans x1; have s2 := (hSw.cell (p := ⟨N, 2, none⟩) hNl).trans x2; go_simp; try (with_reducible rfl))
  simp only [Act.put, List.getElem_toArray, List.getElem_cons_zero, List.getElem_cons_succ, List.setIfInBounds_toArray, List.set_cons_zero, List.set_cons_succ]
  refine wpAnyH_ready (rs := [3]) (by kernel_rfl) (by simp) ?_
  refine AllReadyH.cons rfl (fun K hK => ?_) AllReadyH.nil
  rw [if_pos (by rfl)]
  go_wp2_with (go_at_call 31; refine (sPut_any _ _ rs bs x _ (HV.out.below (HB5.out.trans (hHeld.mono HB5.out.size)) (Nat.le_refl _)) (HT.out.below (HB5.out.trans (hHeld.mono HB5.out.size)) (Nat.le_refl _)) (by omega) hr (setB_range (majB_set H3.out))).mono ?_; rintro e wq ⟨z, rfl, hO6, hbq⟩)
  refine hK.out _ _ (hHeld.trans (hbq.mono hHeld.size)) (fun hHeld => ?_)
  clear hK K hbq
  refine wpAnyH_take (i := 6) (v := ?_) rfl (by kernel_rfl) (by kernel_rfl) (by kernel_rfl) (fun _ _ _ h => h) (Or.inl ⟨by rfl, ?_⟩) (by assumption) ?_
  rotate_left
  · (intro wz hSw; clear hSw; go_simp; try (with_reducible rfl))
  simp only [Act.put, List.getElem_toArray, List.getElem_cons_zero, List.getElem_cons_succ, List.setIfInBounds_toArray, List.set_cons_zero, List.set_cons_succ]
  refine wpAnyH_take (i := 7) (v := ?_) rfl (by kernel_rfl) (by kernel_rfl) (by kernel_rfl) (fun _ _ _ h => h) (Or.inl ⟨by rfl, ?_⟩) (by assumption) ?_
  rotate_left
  · (intro wz hSw; clear hSw; go_simp; try (with_reducible rfl))
  simp only [Act.put, List.getElem_toArray, List.getElem_cons_zero, List.getElem_cons_succ, List.setIfInBounds_toArray, List.set_cons_zero, List.set_cons_succ]
  refine wpAnyH_take (i := 8) (v := ?_) rfl (by kernel_rfl) (by kernel_rfl) (by kernel_rfl) (fun _ _ _ h => h) (Or.inl ⟨by rfl, ?_⟩) (by assumption) ?_
  rotate_left
  · (intro wz hSw; clear hSw; go_simp; try (with_reducible rfl))
  simp only [Act.put, List.getElem_toArray, List.getElem_cons_zero, List.getElem_cons_succ, List.setIfInBounds_toArray, List.set_cons_zero, List.set_cons_succ]
  refine wpAnyH_done (by kernel_rfl) ?_ _
  have HB6 := Lib.hid (HB5.out.trans (hHeld.mono HB5.out.size))
  have HO6 := Lib.hid (hO6.mono HB5.out.size)
  clear hO6 hHeld
  go_wp2
  ((try simp only [Exit.inBlock, Exit.then]); refine bodyPost_ret (results_tmp3 rfl _ _ _) rfl ?_)
  exact ⟨z, by rw [HY.out, (rdR_yes HY.out).2, HX.out]; rfl, by rw [(rdR_yes HY.out).1, HX.out]; exact HO6.out, HB6.out⟩

def DRPost (w : World) (e : Ending) (w' : World) : Prop := ∃ (u : Value) (xs : List Tr) (z : Value) (ks : List Int) (y : Value) (bs : List Int), e = .returned (.tuple #[u, z, y]) ∧
  TrsAt w' u xs ∧ IntsAt w' z ks ∧ IntsAt w' y bs ∧ 1 ≤ xs.length ∧ xs.length ≤ 10 ∧ ks.length ≤ 11 ∧ bs.length ≤ 11 ∧ Below w.heap.size w w'
set_option maxRecDepth 100000 in
set_option maxHeartbeats 4000000 in
theorem drawRead_any (v : Value) (w : World) (h : CodeAt w v) : Calls Try.prog 24 #[v] w (DRPost w) := by
  obtain ⟨B, hB⟩ : ∃ B, w.heap.size = B := ⟨_, rfl⟩
  go_enter Try.func24, Try.ntmps24
  go_wp2_with fail
  refine (l6Open_any _ _ h).mono ?_
  rw [hB]
  rintro e w1 ⟨rfl, hr1, hb1⟩
  go_wp2_with fail
  refine (l91Replicas_any B _ hr1).mono ?_
  rintro e w2 ⟨u, xs, p2, rfl, hu, hl1, hl10, hbd, hp2, hr2, hg2⟩
  have HU := Lib.hid hu
  obtain ⟨pu, cu, rfl, hc1, hc2⟩ := hu.at.form
  clear hu
  go_wp2_with fail
  refine (l91Some_any B p2 xs.length _ hr2 (by omega) (by omega)).mono ?_
  rintro e w3 ⟨z, ks, p3, rfl, hk, hkl, hp3, hr3, hg3⟩
  have HK := Lib.hid hk
  clear hk
  go_wp2_with fail
  refine (l91Some_any B p3 xs.length _ hr3 (by omega) (by omega)).mono ?_
  rintro e w4 ⟨y, bs, p4, rfl, ht, htl, hp4, hr4, hg4⟩
  have hg24 := grow_trans hg3 hg4
  have hb4 : Below B w w4 := hb1.trans (below_grow (grow_trans hg2 hg24) (Nat.le_refl _) (by have := hr1.lt; omega))
  go_wp2
  ((try simp only [Exit.inBlock, Exit.then]); refine bodyPost_ret (results_tmp3 rfl _ _ _) rfl ?_)
  exact ⟨_, xs, z, ks, y, bs, rfl, HU.out _ (keeps_grow hg24), HK.out _ (keeps_grow hg4), ht.at, hl1, hl10, by omega, by omega, by rw [hB]; exact hb4⟩
end Go.Proofs.Ytddnapbdhjifiaa
