/-
  Contracts: spec.RegisterMove, DrawRegisterMove.
-/
import Derived.Test.YtddnapbdhjifiaaSf
import Derived.Test.YtddnapbdhjifiaaSx
import Derived.Test.YtddnapbdhjifiaaDrp
set_option linter.unusedSimpArgs false
set_option linter.unusedVariables false
set_option linter.unusedSectionVars false
namespace Go.Proofs.Ytddnapbdhjifiaa
open Go.RowKit

/-- Is a register moved, and what is there then. -/
def mvB (rs : List Tr) (ks : List Int) (many : Int) (ts : List Int) : Bool := askB rs ks && inR many 1 5 && majB many ts
def mvR (rs : List Tr) (ks : List Int) (many : Int) (ts : List Int) : List Tr := if mvB rs ks many ts then rPutAll (rLat rs ks) (List.replicate many.toNat default) ts else []
theorem mvR_no {rs : List Tr} {ks ts : List Int} {many : Int} (h : mvB rs ks many ts = false) : mvR rs ks many ts = [] := by unfold mvR; rw [h]; rfl
theorem mvR_yes {rs : List Tr} {ks ts : List Int} {n : Nat} (h : mvB rs ks (n : Int) ts = true) : mvR rs ks (n : Int) ts = rPutAll (rLat rs ks) (List.replicate n default) ts := by unfold mvR; rw [h, Int.toNat_natCast]; rfl
theorem many_nat {many : Int} (h : inR many 1 5 = true) : ∃ n : Nat, many = (n : Int) ∧ 1 ≤ n ∧ n ≤ 5 := by
  unfold inR at h
  simp only [Bool.and_eq_true, decide_eq_true_eq] at h
  exact ⟨many.toNat, by omega, by omega, by omega⟩
theorem zerosAt (w : World) (n : Nat) (h : n ≤ 5) : TrsAt (w.alloc (.cells (mkT n) 39)) (.slice (some ⟨w.heap.size, 0, none⟩) n n) (List.replicate n default) :=
  (trs_made w n _ (by unfold maxLen; omega)).at

def MvPost (rs : List Tr) (ks : List Int) (many : Int) (ts : List Int) (w : World) (e : Ending) (w' : World) : Prop :=
  ∃ z, e = .returned (.tuple #[z, .bool (mvB rs ks many ts)]) ∧ TrsOwn w' w.heap.size 39 z (mvR rs ks many ts) ∧ Below w.heap.size w w'
theorem mvPost_no {rs : List Tr} {ks ts : List Int} {many : Int} {w w1 : World} (h : mvB rs ks many ts = false) (hb : Below w.heap.size w w1) :
    MvPost rs ks many ts w (.returned (.tuple #[.slice (some ⟨w1.heap.size, 0, none⟩) 0 0, .bool false])) (w1.alloc (.cells #[] 39)) :=
  ⟨_, by rw [h], by rw [mvR_no h]; exact TrsOwn.made _ _ _ hb.size, hb.alloc hb.size _⟩
set_option maxRecDepth 100000 in
set_option maxHeartbeats 4000000 in
theorem sMove_any (v u t : Value) (rs : List Tr) (ks ts : List Int) (many : Int) (w : World) (hv : TrsAt w v rs) (hu : IntsAt w u ks) (ht : IntsAt w t ts) (hr : rs.length ≤ 1048576) (hl : ks.length ≤ 1048576) (hl2 : ts.length ≤ 1048576) :
    Calls Try.prog 10 #[v, u, .int .i64 many, t] w (MvPost rs ks many ts w) := by
  have HV := Lib.hid hv
  have HU := Lib.hid hu
  have HT := Lib.hid ht
  obtain ⟨p, cap, rfl, hc1, hc2⟩ := hv.form
  clear hv hu ht
  go_enter Try.func10, Try.ntmps10
  go_wp2_with fail
  refine (sReg_any _ rs _ HV.out).mono ?_
  rintro e w1 ⟨rfl, hb1⟩
  have HB1 := Lib.hid hb1
  rcases h1 : regB rs with _ | _
  · have HN := Lib.hid (show mvB rs ks many ts = false by unfold mvB askB; rw [h1]; rfl)
    go_wp2
    go_ret2
    exact mvPost_no HN.out HB1.out
  have H1 := Lib.hid h1
  have hlen := regB_len h1
  clear h1
  go_wp2_with fail
  refine (sMaj_any _ ks _ _ (HU.out.below HB1.out (Nat.le_refl _)) (by omega) (by omega) hl).mono ?_
  rintro e w2 ⟨rfl, hb2⟩
  have HB2 := Lib.hid (HB1.out.trans (hb2.mono HB1.out.size))
  clear hb1 hb2
  rcases h2 : majB rs.length ks with _ | _
  · have HN := Lib.hid (show mvB rs ks many ts = false by unfold mvB askB; rw [H1.out, h2]; rfl)
    go_wp2
    go_ret2
    exact mvPost_no HN.out HB2.out
  have HA := Lib.hid (show askB rs ks = true by unfold askB; rw [H1.out, h2]; rfl)
  have H2 := Lib.hid h2
  clear h2
  rcases h5 : inR many 1 5 with _ | _
  · have HN := Lib.hid (show mvB rs ks many ts = false by unfold mvB; rw [h5]; simp)
    have H5 := Lib.hid h5
    clear h5
    go_wp2_with (go_at_call 30; refine (l6In_is many 1 5 _ H5.out _).mono ?_; rintro e w' ⟨rfl, rfl⟩)
    go_ret2
    exact mvPost_no HN.out HB2.out
  have H5 := Lib.hid h5
  obtain ⟨m, rfl, hm1, hm5⟩ := many_nat h5
  clear h5
  go_wp2_with (go_at_call 30; refine (l6In_is (m : Int) 1 5 _ H5.out _).mono ?_; rintro e w' ⟨rfl, rfl⟩)
  refine (sMaj_any _ ts _ _ (HT.out.below HB2.out (Nat.le_refl _)) (by omega) (by omega) hl2).mono ?_
  rintro e w3 ⟨rfl, hb3⟩
  have HB3 := Lib.hid (HB2.out.trans (hb3.mono HB2.out.size))
  clear hb3
  rcases h3 : majB (m : Int) ts with _ | _
  · have HN := Lib.hid (show mvB rs ks (m : Int) ts = false by unfold mvB; rw [h3]; simp)
    go_wp2
    go_ret2
    exact mvPost_no HN.out HB3.out
  have HY := Lib.hid (show mvB rs ks (m : Int) ts = true by unfold mvB; rw [HA.out, H5.out, h3]; rfl)
  have H3 := Lib.hid h3
  clear h3
  have hmk := mkReplicas m (by omega)
  go_wp2_with fail
  obtain ⟨W, hW⟩ : ∃ W, w3 = W := ⟨_, rfl⟩
  subst hW
  refine wp_region_held_drew (S := fun w' => Below (w3).heap.size w3 w') (by kernel_rfl) (Below.refl _ w3).drew (fun hHeld => ?_)
  refine wpAnyH_take (i := 0) (v := ?_) rfl (by kernel_rfl) (by kernel_rfl) (by kernel_rfl) (fun _ _ _ h => h) (Or.inl ⟨by rfl, ?_⟩) (by assumption) ?_
  rotate_left
  · (intro wz hSw; clear hSw; go_simp; try (with_reducible rfl))
  simp only [Act.put, List.getElem_toArray, List.getElem_cons_zero, List.setIfInBounds_toArray, List.set_cons_zero, List.set_cons_succ]
  refine wpAnyH_take (i := 2) (v := ?_) rfl (by kernel_rfl) (by kernel_rfl) (by kernel_rfl) (fun _ _ _ h => h) (Or.inl ⟨by rfl, ?_⟩) (by assumption) ?_
  rotate_left
  · (intro wz hSw; clear hSw; go_simp; try (with_reducible rfl))
  simp only [Act.put, List.getElem_toArray, List.getElem_cons_zero, List.getElem_cons_succ, List.setIfInBounds_toArray, List.set_cons_zero, List.set_cons_succ]
  refine wpAnyH_take (i := 3) (v := ?_) rfl (by kernel_rfl) (by kernel_rfl) (by kernel_rfl) (fun _ _ _ h => h) (Or.inl ⟨by rfl, ?_⟩) (by assumption) ?_
  rotate_left
  · (intro wz hSw; clear hSw; go_simp; try (with_reducible rfl))
  simp only [Act.put, List.getElem_toArray, List.getElem_cons_zero, List.getElem_cons_succ, List.setIfInBounds_toArray, List.set_cons_zero, List.set_cons_succ]
  refine wpAnyH_take (i := 4) (v := ?_) rfl (by kernel_rfl) (by kernel_rfl) (by kernel_rfl) (fun _ _ _ h => h) (Or.inl ⟨by rfl, ?_⟩) (by assumption) ?_
  rotate_left
  · (intro wz hSw; clear hSw; go_simp; try (with_reducible rfl))
  simp only [Act.put, List.getElem_toArray, List.getElem_cons_zero, List.getElem_cons_succ, List.setIfInBounds_toArray, List.set_cons_zero, List.set_cons_succ]
  refine wpAnyH_ready (rs := [1, 5]) (by kernel_rfl) (by simp) ?_
  refine AllReadyH.cons rfl (fun K hK => ?_) (AllReadyH.cons rfl (fun K hK => ?_) AllReadyH.nil)
  · rw [if_pos (by rfl)]
    go_wp2
    refine hK.out _ _ (hHeld.alloc hHeld.size _) (fun hHeld => ?_)
    clear hK K
    have HM0 := Lib.hid (zerosAt w3.drew m hm5)
    refine wpAnyH_ready (rs := [5]) (by kernel_rfl) (by simp) ?_
    refine AllReadyH.cons rfl (fun K hK => ?_) AllReadyH.nil
    rw [if_pos (by rfl)]
    go_wp2_with (go_at_call 32; refine (sLat_any _ _ rs ks _ (HV.out.below (HB3.out.trans (hHeld.mono HB3.out.size)) (Nat.le_refl _)) (HU.out.below (HB3.out.trans (hHeld.mono HB3.out.size)) (Nat.le_refl _)) (majB_pos H2.out) (setB_range (majB_set H2.out))).mono ?_; rintro e wp ⟨rfl, hbq⟩; have HM := Lib.hid (HM0.out.below hbq (Nat.le_refl _)))
    refine hK.out _ _ (hHeld.trans (hbq.mono hHeld.size)) (fun hHeld => ?_)
    clear hK K hbq
    refine wpAnyH_ready (rs := [6]) (by kernel_rfl) (by simp) ?_
    refine AllReadyH.cons rfl (fun K hK => ?_) AllReadyH.nil
    rw [if_pos (by rfl)]
    go_wp2_with (go_at_call 31; refine (sPut_any _ _ (List.replicate m default) ts (rLat rs ks) _ HM.out (HT.out.below (HB3.out.trans (hHeld.mono HB3.out.size)) (Nat.le_refl _)) (by simp; omega) (by simp; omega) (by have := setB_range (majB_set H3.out); rw [List.length_replicate]; exact this)).mono ?_; rintro e wq ⟨z, rfl, hO6, hbq⟩; have HO6 := Lib.hid (hO6.mono (Nat.le_trans HB3.out.size hHeld.size)))
    refine hK.out _ _ (hHeld.trans (hbq.mono hHeld.size)) (fun hHeld => ?_)
    clear hK K hbq
    refine wpAnyH_take (i := 7) (v := ?_) rfl (by kernel_rfl) (by kernel_rfl) (by kernel_rfl) (fun _ _ _ h => h) (Or.inl ⟨by rfl, ?_⟩) (by assumption) ?_
    rotate_left
    · (intro wz hSw; clear hSw; go_simp; try (with_reducible rfl))
    simp only [Act.put, List.getElem_toArray, List.getElem_cons_zero, List.getElem_cons_succ, List.setIfInBounds_toArray, List.set_cons_zero, List.set_cons_succ]
    refine wpAnyH_take (i := 8) (v := ?_) rfl (by kernel_rfl) (by kernel_rfl) (by kernel_rfl) (fun _ _ _ h => h) (Or.inl ⟨by rfl, ?_⟩) (by assumption) ?_
    rotate_left
    · (intro wz hSw; clear hSw; go_simp; try (with_reducible rfl))
    simp only [Act.put, List.getElem_toArray, List.getElem_cons_zero, List.getElem_cons_succ, List.setIfInBounds_toArray, List.set_cons_zero, List.set_cons_succ]
    refine wpAnyH_done (by kernel_rfl) ?_ _
    have HB6 := Lib.hid (HB3.out.trans (hHeld.mono HB3.out.size))
    go_wp2
    go_ret2
    exact ⟨z, by rw [HY.out]; rfl, by rw [mvR_yes HY.out]; exact HO6.out, HB6.out⟩
  · rw [if_pos (by rfl)]
    go_wp2_with (go_at_call 32; refine (sLat_any _ _ rs ks _ (HV.out.below (HB3.out.trans (hHeld.mono HB3.out.size)) (Nat.le_refl _)) (HU.out.below (HB3.out.trans (hHeld.mono HB3.out.size)) (Nat.le_refl _)) (majB_pos H2.out) (setB_range (majB_set H2.out))).mono ?_; rintro e wp ⟨rfl, hbq⟩)
    refine hK.out _ _ (hHeld.trans (hbq.mono hHeld.size)) (fun hHeld => ?_)
    clear hK K hbq
    refine wpAnyH_ready (rs := [1]) (by kernel_rfl) (by simp) ?_
    refine AllReadyH.cons rfl (fun K hK => ?_) AllReadyH.nil
    rw [if_pos (by rfl)]
    go_wp2
    refine hK.out _ _ (hHeld.alloc hHeld.size _) (fun hHeld => ?_)
    clear hK K
    have HM := Lib.hid (zerosAt wp m hm5)
    refine wpAnyH_ready (rs := [6]) (by kernel_rfl) (by simp) ?_
    refine AllReadyH.cons rfl (fun K hK => ?_) AllReadyH.nil
    rw [if_pos (by rfl)]
    go_wp2_with (go_at_call 31; refine (sPut_any _ _ (List.replicate m default) ts (rLat rs ks) _ HM.out (HT.out.below (HB3.out.trans (hHeld.mono HB3.out.size)) (Nat.le_refl _)) (by simp; omega) (by simp; omega) (by have := setB_range (majB_set H3.out); rw [List.length_replicate]; exact this)).mono ?_; rintro e wq ⟨z, rfl, hO6, hbq⟩; have HO6 := Lib.hid (hO6.mono (Nat.le_trans HB3.out.size hHeld.size)))
    refine hK.out _ _ (hHeld.trans (hbq.mono hHeld.size)) (fun hHeld => ?_)
    clear hK K hbq
    refine wpAnyH_take (i := 7) (v := ?_) rfl (by kernel_rfl) (by kernel_rfl) (by kernel_rfl) (fun _ _ _ h => h) (Or.inl ⟨by rfl, ?_⟩) (by assumption) ?_
    rotate_left
    · (intro wz hSw; clear hSw; go_simp; try (with_reducible rfl))
    simp only [Act.put, List.getElem_toArray, List.getElem_cons_zero, List.getElem_cons_succ, List.setIfInBounds_toArray, List.set_cons_zero, List.set_cons_succ]
    refine wpAnyH_take (i := 8) (v := ?_) rfl (by kernel_rfl) (by kernel_rfl) (by kernel_rfl) (fun _ _ _ h => h) (Or.inl ⟨by rfl, ?_⟩) (by assumption) ?_
    rotate_left
    · (intro wz hSw; clear hSw; go_simp; try (with_reducible rfl))
    simp only [Act.put, List.getElem_toArray, List.getElem_cons_zero, List.getElem_cons_succ, List.setIfInBounds_toArray, List.set_cons_zero, List.set_cons_succ]
    refine wpAnyH_done (by kernel_rfl) ?_ _
    have HB6 := Lib.hid (HB3.out.trans (hHeld.mono HB3.out.size))
    go_wp2
    go_ret2
    exact ⟨z, by rw [HY.out]; rfl, by rw [mvR_yes HY.out]; exact HO6.out, HB6.out⟩

theorem results_tmp4 {fn : Func} {t u v x : Tmp} (h : fn.results = #[.tmp t, .tmp u, .tmp v, .tmp x]) (tmps : Array Value) (P : Program) (w : World) :
    (results fn tmps).run P w = .ok (.tuple #[tmps.getD t undef, tmps.getD u undef, tmps.getD v undef, tmps.getD x undef]) w := by
  simp [results, h]
def DMPost (w : World) (e : Ending) (w' : World) : Prop := ∃ (u : Value) (xs : List Tr) (z : Value) (ks : List Int) (many : Nat) (y : Value) (ts : List Int), e = .returned (.tuple #[u, z, .int .i64 (many : Int), y]) ∧
  TrsAt w' u xs ∧ IntsAt w' z ks ∧ IntsAt w' y ts ∧ 1 ≤ xs.length ∧ xs.length ≤ 10 ∧ ks.length ≤ 11 ∧ ts.length ≤ 11 ∧ many ≤ 10 ∧ Below w.heap.size w w'
set_option maxRecDepth 100000 in
set_option maxHeartbeats 4000000 in
theorem drawMove_any (v : Value) (w : World) (h : CodeAt w v) : Calls Try.prog 19 #[v] w (DMPost w) := by
  obtain ⟨B, hB⟩ : ∃ B, w.heap.size = B := ⟨_, rfl⟩
  go_enter Try.func19, Try.ntmps19
  go_wp2_with fail
  refine (l6Open_any _ _ h).mono ?_
  rw [hB]
  rintro e w1 ⟨rfl, hr1, hb1⟩
  go_wp2_with fail
  refine (l91Replicas_any B _ hr1).mono ?_
  rintro e w2 ⟨u, xs, p2, rfl, hu, hl1, hl10, hbd, hp2, hr2, hg2⟩
  have HU := Lib.hid hu
  obtain ⟨pu, cu, rfl, hc1, hc2⟩ := hu.at.form
  clear hu
  go_wp2_with fail
  refine (l91Some_any B p2 xs.length _ hr2 (by omega) (by omega)).mono ?_
  rintro e w3 ⟨z, ks, p3, rfl, hk, hkl, hp3, hr3, hg3⟩
  have HK := Lib.hid hk
  clear hk
  go_wp2_with fail
  refine (pick_any B p3 5 _ hr3 (by omega) (by omega) (by omega)).mono ?_
  rintro e w5 ⟨c5, hc5, rfl, hr5, hg5⟩
  obtain ⟨a, ha⟩ : ∃ a, 1 + c5 = a := ⟨_, rfl⟩
  have hcast : (1 : Int) + (c5 : Int) = (a : Int) := by omega
  have ha5 : a ≤ 5 := by omega
  go_wp2_with fail
  refine (pick_any B (p3 + 1) 20 _ hr5 (by omega) (by omega) (by omega)).mono ?_
  rintro e w6 ⟨c6, hc6, rfl, hr6, hg6⟩
  have hdv : (c6 : Int).tdiv 19 = ((c6 / 19 : Nat) : Int) := rfl
  have hd1 : c6 / 19 ≤ 1 := by omega
  obtain ⟨d, hd⟩ : ∃ d, c6 / 19 = d := ⟨_, rfl⟩
  rw [hd] at hdv hd1
  clear hd
  obtain ⟨m, hm⟩ : ∃ m, a + d * 5 = m := ⟨_, rfl⟩
  have hcm : (a : Int) + (d : Int) * 5 = (m : Int) := by omega
  have hm10 : m ≤ 10 := by omega
  clear ha
  go_wp2_with fail
  try rw [hcm]
  refine (l91Some_any B (p3 + 1 + 1) m _ hr6 (by omega) (by omega)).mono ?_
  rintro e w4 ⟨y, ts, p4, rfl, ht, htl, hp4, hr4, hg4⟩
  have hg46 := grow_trans (grow_trans hg5 hg6) hg4
  have hg26 := grow_trans hg3 hg46
  have hb7 : Below B w w4 := hb1.trans (below_grow (grow_trans hg2 hg26) (Nat.le_refl _) (by have := hr1.lt; omega))
  go_wp2
  ((try simp only [Exit.inBlock, Exit.then]); refine bodyPost_ret (results_tmp4 rfl _ _ _) rfl ?_)
  exact ⟨_, xs, z, ks, m, y, ts, rfl, HU.out _ (keeps_grow hg26), HK.out _ (keeps_grow hg46), ht.at, hl1, hl10, by omega, by omega, hm10, by rw [hB]; exact hb7⟩
end Go.Proofs.Ytddnapbdhjifiaa
