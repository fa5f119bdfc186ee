/-
  Contracts: RingFail of the program.
-/
import Derived.Test.YtadplndoopkdgaaIDel
import Derived.Test.YtadplndoopkdgaaIRDrop
import Derived.Deep.RegionHeld3
namespace Go.Proofs.Ytadplndoopkdgaa
open Go.RowKit

def boxT (w : World) (S : Nat) : Prop := ∃ cur fl, w.heap[S]? = some (.cells cur 68 fl)
theorem boxT.grown {w w' : World} {S g : Nat} (h : boxT w S) (hg : w.grownBy w' (some g)) (hne : S ≠ g) : boxT w' S := by
  obtain ⟨cur, fl, h⟩ := h
  exact ⟨cur, fl, (hg.block S (Array.getElem?_eq_some_iff.1 h).1 (fun e => by cases e; exact hne rfl)).trans h⟩
theorem ownsRow_notT {w : World} {B size n S : Nat} {e : TypeId} {v : Value} {xs : List Value} (h : w.ownsRow B e size v n xs) (hS : boxT w S) (hne : e ≠ 68) : v.ownBlock ≠ some S := by
  obtain ⟨cur', fl, hS⟩ := hS
  rcases h.2 with ⟨rfl, -⟩ | ⟨g, cap, cur, rfl, -, hg, -⟩
  · intro e; cases e
  · intro e
    have e' : g = S := by simpa [Value.ownBlock] using e
    subst e'
    rw [hg] at hS
    simp at hS
    exact hne hS.2.1
theorem RingOwn.storeS {w : World} {B S : Nat} {v u : Value} {r : List Nd} (h : RingOwn w B v r) (hS : boxT w S) : RingOwn (w.setCell ⟨S, 0, none⟩ u) B v r := by
  obtain ⟨vs, hl, ho, ha, hd⟩ := h
  exact ⟨vs, hl, ownsRow_setCell_other ho (ownsRow_notT ho hS (by decide)) _, fun i hi => ownsRow_setCell_other (ha i hi) (ownsRow_notT (ha i hi) hS (by decide)) _, hd⟩

set_option maxHeartbeats 2000000 in
theorem iFail_any (S g cap : Nat) (r : List Nd) (id x : Int) (B : Nat) (w : World) (hO : RingOwn w B (.slice (some ⟨g, 0, none⟩) r.length cap) r) (hs : ringValid r = true) (hpos : 0 < r.length)
    (hS : w.cell? ⟨S, 0, none⟩ = some (.slice (some ⟨g, 0, none⟩) r.length cap)) (hSg : S ≠ g) (hBw : B ≤ w.heap.size) (hBS : B ≤ S) (hfr : w.frozen? ⟨S, 0, none⟩ = false) (hT : boxT w S) :
    Calls Try.prog 61 #[.pointer (some ⟨S, 0, none⟩), .int .i64 id, .int .i64 x] w fun e w' => e = .returned (.bool (stepB true r id fun k => safeB (r.eraseIdx k))) ∧ Below B w w' ∧
      (stepB true r id (fun k => safeB (r.eraseIdx k)) = true → ∃ u, w'.cell? ⟨S, 0, none⟩ = some u ∧ RingOwn w' B u (stepR true r id fun k => failK r k)) := by
  have hmf : ∀ (fn : Fn) (first cap : Array Value) (w : World), (Instr.makeFunc fn first cap).run Try.prog w = .ok (.func fn first cap) w := fun _ _ _ _ => rfl
  have HV := Lib.hid hs
  have HT := Lib.hid hT
  have hSl : S < w.heap.size := World.block_lt_of_cell? w _ hS
  have hgl : g < w.heap.size ∧ B ≤ g := by
    obtain ⟨g', c', e, -, -, hb, hl⟩ := hO.form hpos
    cases e; exact ⟨hl, hb⟩
  obtain ⟨hgl, hBg⟩ := hgl
  have HO := Lib.hid hO
  have b0 := (Below.refl w.heap.size w).alloc (Nat.le_refl _) (.cells #[.int .i64 id] 3)
  obtain ⟨W, hW⟩ : ∃ W, w.alloc (.cells #[.int .i64 id] 3) = W := ⟨_, rfl⟩
  have hA : W.cell? ⟨w.heap.size, 0, none⟩ = some (.int .i64 id) := by rw [← hW]; simp
  have hAl : w.heap.size < W.heap.size := by rw [← hW]; simp
  rw [hW] at b0
  have hS0 := (b0.cell (p := ⟨S, 0, none⟩) hSl).trans hS
  have hSl0 : S < W.heap.size := by omega
  have HO0 := Lib.hid (HO.out.below b0 (Nat.le_refl _))
  have HW := Lib.hid hW
  rcases fnd_cases r id with ⟨hf, -⟩ | ⟨k, hk, hf, hidk, -⟩
  · rw [stepB_miss hf]
    have HF := Lib.hid hf
    clear hf hO hs hT hW
    go_enter Try.func61, Try.ntmps61
    go_wp2_with fail
    rw [HW.out]
    refine wp_region_held_drew (S := fun w' => Below (W).heap.size W w') (by kernel_rfl) (Below.refl _ W).drew (fun hHeld => ?_)
    refine wpAnyH_take (i := 0) (v := ?_) rfl (by kernel_rfl) (by kernel_rfl) (by kernel_rfl) (fun _ _ _ h => h) (Or.inl ⟨by rfl, ?_⟩) (by assumption) ?_
    rotate_left
    · (intro wz hSw; clear hSw; go_simp; try (with_reducible rfl))
    simp only [Act.put, List.getElem_toArray, List.getElem_cons_zero, List.setIfInBounds_toArray, List.set_cons_zero, List.set_cons_succ]
    refine wpAnyH_take (i := 1) (v := ?_) rfl (by kernel_rfl) (by kernel_rfl) (by kernel_rfl) (fun _ _ _ h => h) (Or.inl ⟨by rfl, ?_⟩) (by assumption) ?_
    rotate_left
    · (intro wz hSw; clear hSw; go_simp; try (with_reducible rfl))
    simp only [Act.put, List.getElem_toArray, List.getElem_cons_zero, List.getElem_cons_succ, List.setIfInBounds_toArray, List.set_cons_zero, List.set_cons_succ]
    refine wpAnyH_take (i := 2) (v := ?_) rfl (by kernel_rfl) (by kernel_rfl) (by kernel_rfl) (fun _ _ _ h => h) (Or.inl ⟨by rfl, ?_⟩) (by assumption) ?_
    rotate_left
    · (intro wz hSw; clear hSw; go_simp; try (with_reducible rfl))
    simp only [Act.put, List.getElem_toArray, List.getElem_cons_zero, List.getElem_cons_succ, List.setIfInBounds_toArray, List.set_cons_zero, List.set_cons_succ]
    refine wpAnyH_take (i := 3) (v := ?_) rfl (by kernel_rfl) (by kernel_rfl) (by kernel_rfl) (fun _ _ _ h => h) (Or.inl ⟨by rfl, ?_⟩) (by assumption) ?_
    rotate_left
    · (intro wz hSw; have s0 := (hSw.cell (p := ⟨S, 0, none⟩) hSl0).trans hS0; have s1 := (hSw.cell (p := ⟨w.heap.size, 0, none⟩) hAl).trans hA; go_simp; try (with_reducible rfl))
    simp only [Act.put, List.getElem_toArray, List.getElem_cons_zero, List.getElem_cons_succ, List.setIfInBounds_toArray, List.set_cons_zero, List.set_cons_succ]
    refine wpAnyH_take (i := 4) (v := ?_) rfl (by kernel_rfl) (by kernel_rfl) (by kernel_rfl) (fun _ _ _ h => h) (Or.inl ⟨by rfl, ?_⟩) (by assumption) ?_
    rotate_left
    · (intro wz hSw; have s0 := (hSw.cell (p := ⟨S, 0, none⟩) hSl0).trans hS0; have s1 := (hSw.cell (p := ⟨w.heap.size, 0, none⟩) hAl).trans hA; go_simp; try (with_reducible rfl))
    simp only [Act.put, List.getElem_toArray, List.getElem_cons_zero, List.getElem_cons_succ, List.setIfInBounds_toArray, List.set_cons_zero, List.set_cons_succ]
    refine wpAnyH_ready (rs := [5]) (by kernel_rfl) (by simp) ?_
    refine AllReadyH.cons rfl (fun K hK => ?_) AllReadyH.nil
    rw [if_pos (by rfl)]
    go_wp2_with (go_at_call 67; refine (nodeAt_no _ r id _ (by exact (HO0.out.below hHeld (Nat.le_refl _)).at) HF.out).mono ?_; rintro e wq ⟨rfl, hbq⟩)
    refine hK.out _ _ (hHeld.trans (hbq.mono hHeld.size)) (fun hHeld => ?_)
    clear hK K hbq
    refine wpAnyH_take (i := 6) (v := ?_) rfl (by kernel_rfl) (by kernel_rfl) (by kernel_rfl) (fun _ _ _ h => h) (Or.inl ⟨by rfl, ?_⟩) (by assumption) ?_
    rotate_left
    · (intro wz hSw; clear hSw; go_simp; try (with_reducible rfl))
    simp only [Act.put, List.getElem_toArray, List.getElem_cons_zero, List.getElem_cons_succ, List.setIfInBounds_toArray, List.set_cons_zero, List.set_cons_succ]
    refine wpAnyH_done (by kernel_rfl) ?_ _
    go_wp2
    go_ret
    exact ⟨rfl, (b0.trans (hHeld.mono b0.size)).mono hBw, fun h => by cases h⟩
  rw [stepB_hit rfl hf, stepR_hit rfl hf]
  have HF := Lib.hid hf
  have HID := Lib.hid hidk
  have hsb : ringSafe (r.eraseIdx k) = safeB (r.eraseIdx k) := by unfold ringSafe; rw [erase_valid hs k]; rfl
  have HSB := Lib.hid hsb
  clear hf hO hs hT hW hidk hsb
  go_enter Try.func61, Try.ntmps61
  go_wp2_with fail
  rw [HW.out]
  refine wp_region_held_drew (S := fun w' => Below (W).heap.size W w') (by kernel_rfl) (Below.refl _ W).drew (fun hHeld => ?_)
  refine wpAnyH_take (i := 0) (v := ?_) rfl (by kernel_rfl) (by kernel_rfl) (by kernel_rfl) (fun _ _ _ h => h) (Or.inl ⟨by rfl, ?_⟩) (by assumption) ?_
  rotate_left
  · (intro wz hSw; clear hSw; go_simp; try (with_reducible rfl))
  simp only [Act.put, List.getElem_toArray, List.getElem_cons_zero, List.setIfInBounds_toArray, List.set_cons_zero, List.set_cons_succ]
  refine wpAnyH_take (i := 1) (v := ?_) rfl (by kernel_rfl) (by kernel_rfl) (by kernel_rfl) (fun _ _ _ h => h) (Or.inl ⟨by rfl, ?_⟩) (by assumption) ?_
  rotate_left
  · (intro wz hSw; clear hSw; go_simp; try (with_reducible rfl))
  simp only [Act.put, List.getElem_toArray, List.getElem_cons_zero, List.getElem_cons_succ, List.setIfInBounds_toArray, List.set_cons_zero, List.set_cons_succ]
  refine wpAnyH_take (i := 2) (v := ?_) rfl (by kernel_rfl) (by kernel_rfl) (by kernel_rfl) (fun _ _ _ h => h) (Or.inl ⟨by rfl, ?_⟩) (by assumption) ?_
  rotate_left
  · (intro wz hSw; clear hSw; go_simp; try (with_reducible rfl))
  simp only [Act.put, List.getElem_toArray, List.getElem_cons_zero, List.getElem_cons_succ, List.setIfInBounds_toArray, List.set_cons_zero, List.set_cons_succ]
  refine wpAnyH_take (i := 3) (v := ?_) rfl (by kernel_rfl) (by kernel_rfl) (by kernel_rfl) (fun _ _ _ h => h) (Or.inl ⟨by rfl, ?_⟩) (by assumption) ?_
  rotate_left
  · (intro wz hSw; have s0 := (hSw.cell (p := ⟨S, 0, none⟩) hSl0).trans hS0; have s1 := (hSw.cell (p := ⟨w.heap.size, 0, none⟩) hAl).trans hA; go_simp; try (with_reducible rfl))
  simp only [Act.put, List.getElem_toArray, List.getElem_cons_zero, List.getElem_cons_succ, List.setIfInBounds_toArray, List.set_cons_zero, List.set_cons_succ]
  refine wpAnyH_take (i := 4) (v := ?_) rfl (by kernel_rfl) (by kernel_rfl) (by kernel_rfl) (fun _ _ _ h => h) (Or.inl ⟨by rfl, ?_⟩) (by assumption) ?_
  rotate_left
  · (intro wz hSw; have s0 := (hSw.cell (p := ⟨S, 0, none⟩) hSl0).trans hS0; have s1 := (hSw.cell (p := ⟨w.heap.size, 0, none⟩) hAl).trans hA; go_simp; try (with_reducible rfl))
  simp only [Act.put, List.getElem_toArray, List.getElem_cons_zero, List.getElem_cons_succ, List.setIfInBounds_toArray, List.set_cons_zero, List.set_cons_succ]
  refine wpAnyH_ready (rs := [5]) (by kernel_rfl) (by simp) ?_
  refine AllReadyH.cons rfl (fun K hK => ?_) AllReadyH.nil
  rw [if_pos (by rfl)]
  go_wp2_with (go_at_call 67; refine (nodeAt_own r id g cap k _ (by exact (HO0.out.below hHeld (Nat.le_refl _)).at) hk HF.out).mono ?_; rintro e wq ⟨rfl, hbq⟩)
  refine hK.out _ _ (hHeld.trans (hbq.mono hHeld.size)) (fun hHeld => ?_)
  clear hK K hbq
  refine wpAnyH_take (i := 6) (v := ?_) rfl (by kernel_rfl) (by kernel_rfl) (by kernel_rfl) (fun _ _ _ h => h) (Or.inl ⟨by rfl, ?_⟩) (by assumption) ?_
  rotate_left
  · (intro wz hSw; clear hSw; go_simp; try (with_reducible rfl))
  simp only [Act.put, List.getElem_toArray, List.getElem_cons_zero, List.getElem_cons_succ, List.setIfInBounds_toArray, List.set_cons_zero, List.set_cons_succ]
  refine wpAnyH_done (by kernel_rfl) ?_ _
  have b1 := b0.trans (hHeld.mono b0.size)
  have hS1 := (hHeld.cell (p := ⟨S, 0, none⟩) hSl0).trans hS0
  have hA1 := (hHeld.cell (p := ⟨w.heap.size, 0, none⟩) hAl).trans hA
  have HO1 := Lib.hid (HO.out.below b1 (Nat.le_refl _))
  have hT1 : boxT wq S := by
    obtain ⟨cur, fl, h⟩ := HT.out
    exact ⟨cur, fl, (b1.block S hSl).trans h⟩
  have HT1 := Lib.hid hT1
  have hf1 : wq.frozen? ⟨S, 0, none⟩ = false := (b1.frozen (p := ⟨S, 0, none⟩) hSl).trans hfr
  have hSl1 : S < wq.heap.size := Nat.lt_of_lt_of_le hSl b1.size
  have hagne : w.heap.size ≠ g := by omega
  clear hS0 hA hT1
  go_wp2_with fail
  refine (deleteN_any r g cap k w.heap.size B id _ HO1.out HV.out hk HID.out hA1 hagne).mono ?_
  rintro e w3 ⟨rfl, hO3, hg3⟩
  have hS3 := (grow_cell (o := 0) hg3 hSl1 hSg).trans hS1
  have hf3 : w3.frozen? ⟨S, 0, none⟩ = false := (World.frozen?_of_block (a := ⟨S, 0, none⟩) (hg3.block S hSl1 (fun e => by cases e; exact hSg rfl))).trans hf1
  have HO3 := Lib.hid (hO3.storeS (u := .slice (some ⟨g, 0, none⟩) (r.eraseIdx k).length cap) (HT1.out.grown hg3 hSg))
  have hSl3 : S < w3.heap.size := Nat.lt_of_lt_of_le hSl1 hg3.size
  have b3 : Below B w w3 := (b1.mono hBw).trans (below_grow hg3 hBg (by have := b1.size; omega))
  have b4 := b3.setCell (p := ⟨S, 0, none⟩) hBS (.slice (some ⟨g, 0, none⟩) (r.eraseIdx k).length cap)
  have hc4 : (w3.setCell ⟨S, 0, none⟩ (.slice (some ⟨g, 0, none⟩) (r.eraseIdx k).length cap)).cell? ⟨S, 0, none⟩ = some (.slice (some ⟨g, 0, none⟩) (r.eraseIdx k).length cap) := World.cell?_setCell_same _ _ _ (by rw [hS3])
  have HC4 := Lib.hid hc4
  clear hO3 hS1 hA1 hf1 hc4
  go_wp2_with (go_at_call 35; refine (iRingSafe_any _ (r.eraseIdx k) _ (by exact HO3.out.at)).mono ?_; rw [HSB.out]; rintro e w5 ⟨rfl, hb5⟩)
  go_ret
  refine ⟨rfl, b4.trans (hb5.mono (by have := b4.size; omega)), fun hb => ⟨_, (hb5.cell (p := ⟨S, 0, none⟩) (by simpa [World.setCell] using hSl3)).trans HC4.out, ?_⟩⟩
  unfold failK
  rw [hb, if_pos rfl]
  exact HO3.out.below hb5 (Nat.le_refl _)

set_option maxHeartbeats 1000000 in
theorem failG_any (S g cap : Nat) (r : List Nd) (id : Int) (B A : Nat) (w : World) (hO : RingOwn w B (.slice (some ⟨g, 0, none⟩) r.length cap) r) (hs : ringValid r = true) (hpos : 0 < r.length)
    (hS : w.cell? ⟨S, 0, none⟩ = some (.slice (some ⟨g, 0, none⟩) r.length cap)) (hSg : S ≠ g) (hBw : B ≤ w.heap.size) (hBS : B ≤ S) (hfr : w.frozen? ⟨S, 0, none⟩ = false) (hT : boxT w S) (hA : w.cell? ⟨A, 0, none⟩ = some (.int .i64 id)) :
    Calls Try.prog 60 #[.pointer (some ⟨S, 0, none⟩), .pointer (some ⟨A, 0, none⟩)] w fun e w' => e = .returned (.bool (stepB true r id fun k => safeB (r.eraseIdx k))) ∧ Below B w w' ∧
      (stepB true r id (fun k => safeB (r.eraseIdx k)) = true → ∃ u, w'.cell? ⟨S, 0, none⟩ = some u ∧ RingOwn w' B u (stepR true r id fun k => failK r k)) := by
  go_enter Try.func60, Try.ntmps60
  go_wp2_with (go_at_call 61; refine (iFail_any S g cap r id 0 B _ hO hs hpos hS hSg hBw hBS hfr hT).mono ?_; rintro e w1 ⟨rfl, hb1, hr1⟩)
  go_ret
  exact ⟨rfl, hb1, hr1⟩

set_option maxHeartbeats 2000000 in
theorem takeFail_any (v va : Value) (r : List Nd) (id : Int) (A : Nat) (w : World) (hv : RingAt w v r) (hx : IntsAt w va [id]) (hA : w.cell? ⟨A, 0, none⟩ = some (.int .i64 id)) :
    Calls Try.prog 41 #[v, .func (.func 60) #[] #[.pointer (some ⟨A, 0, none⟩)], va] w fun e w' => ∃ u, e = .returned (.tuple #[u, .bool (ringSafe r && posAll [id] && stepB true r id (fun k => safeB (r.eraseIdx k)))]) ∧ RingOwn w' w.heap.size u (if ringSafe r && posAll [id] then (if stepB true r id (fun k => safeB (r.eraseIdx k)) then stepR true r id (fun k => failK r k) else r) else []) ∧ Below w.heap.size w w' := by
  have HV := Lib.hid hv
  have HX := Lib.hid hx
  clear hv hx
  cases hrs : ringSafe r
  · have HR := Lib.hid hrs
    clear hrs
    go_enter Try.func41, Try.ntmps41
    go_wp2_with (go_at_call 35; refine (iRingSafe_any _ r _ HV.out).mono ?_; rw [HR.out]; rintro e w1 ⟨rfl, hb1⟩)
    go_ret2
    exact ⟨_, rfl, RingOwn.nil _ _, hb1⟩
  cases hpa : posAll [id]
  · have HR := Lib.hid hrs
    have HP := Lib.hid hpa
    clear hrs hpa
    go_enter Try.func41, Try.ntmps41
    go_wp2_with (first | (go_at_call 35; refine (iRingSafe_any _ r _ HV.out).mono ?_; rw [HR.out]; rintro e w1 ⟨rfl, hb1⟩) | (go_at_call 48; refine (positions_any _ [id] _ (by exact HX.out.below hb1 (Nat.le_refl _))).mono ?_; rw [HP.out]; rintro e w' ⟨rfl, rfl⟩))
    go_ret2
    exact ⟨_, rfl, RingOwn.nil _ _, hb1⟩
  have HR := Lib.hid hrs
  have HP := Lib.hid hpa
  have hrv : ringValid r = true := by unfold ringSafe at hrs; simp at hrs; exact hrs.1
  have hsh := shape_valid hrv
  have hl10 := hsh.1
  have hlen := hsh.len
  have HS := Lib.hid hsh
  have hpos : 0 < r.length := ringSafe_pos hrs
  have HL := Lib.hid hlen
  clear hrs hpa hrv hsh hlen
  cases hok : stepB true r id (fun k => safeB (r.eraseIdx k))
  · have HO := Lib.hid hok
    clear hok
    go_enter Try.func41, Try.ntmps41
    go_wp2_with (first | (go_at_call 35; refine (iRingSafe_any _ r _ HV.out).mono ?_; rw [HR.out]; rintro e w1 ⟨rfl, hb1⟩) | (go_at_call 48; refine (positions_any _ [id] _ (by exact HX.out.below hb1 (Nat.le_refl _))).mono ?_; rw [HP.out]; rintro e w' ⟨rfl, rfl⟩) | (go_at_call 74; refine (copyRing_any _ r _ (by exact HV.out.below hb1 (Nat.le_refl _)) (by omega) HL.out).mono ?_; rintro e w2 ⟨u, rfl, hO, hb2⟩; obtain ⟨g, cap, rfl, hg1, hg2, hg3, hg4⟩ := hO.form hpos; have hb12 := hb1.trans (hb2.mono hb1.size); have hsz2 := hb12.size; have hbox := (Below.refl w2.heap.size w2).alloc (Nat.le_refl _) (.cells #[.slice (some ⟨g, 0, none⟩) r.length cap] 68); have hO2 := hO.below hbox (Nat.le_refl _); have hBf := hb12.trans (hbox.mono hb12.size); (have hA2 := (hBf.cell (p := ⟨A, 0, none⟩) (World.block_lt_of_cell? w _ hA)).trans hA)))
    go_wp2_with (first | (go_at_call 60; refine (failG_any w2.heap.size g cap r id w1.heap.size A _ hO2 (safe_valid HR.out) hpos (by simp) (by omega) (by first | (simp; done) | (simp; omega)) (by omega) (by simp) ⟨_, _, heap_alloc_new _ _⟩ hA2).mono ?_; rw [HO.out]; rintro e w3 ⟨rfl, hb3, -⟩; have hb13 := hBf.trans (hb3.mono hb1.size)))
    go_wp2_with (first | (go_at_call 74; refine (copyRing_any _ r _ (by exact HV.out.below hb13 (Nat.le_refl _)) (by omega) HL.out).mono ?_; rintro e w4 ⟨u4, rfl, hO4, hb4⟩))
    go_ret2
    exact ⟨_, rfl, hO4.mono hb13.size, hb13.trans (hb4.mono hb13.size)⟩
  · have HO := Lib.hid hok
    clear hok
    go_enter Try.func41, Try.ntmps41
    go_wp2_with (first | (go_at_call 35; refine (iRingSafe_any _ r _ HV.out).mono ?_; rw [HR.out]; rintro e w1 ⟨rfl, hb1⟩) | (go_at_call 48; refine (positions_any _ [id] _ (by exact HX.out.below hb1 (Nat.le_refl _))).mono ?_; rw [HP.out]; rintro e w' ⟨rfl, rfl⟩) | (go_at_call 74; refine (copyRing_any _ r _ (by exact HV.out.below hb1 (Nat.le_refl _)) (by omega) HL.out).mono ?_; rintro e w2 ⟨u, rfl, hO, hb2⟩; obtain ⟨g, cap, rfl, hg1, hg2, hg3, hg4⟩ := hO.form hpos; have hb12 := hb1.trans (hb2.mono hb1.size); have hsz2 := hb12.size; have hbox := (Below.refl w2.heap.size w2).alloc (Nat.le_refl _) (.cells #[.slice (some ⟨g, 0, none⟩) r.length cap] 68); have hO2 := hO.below hbox (Nat.le_refl _); have hBf := hb12.trans (hbox.mono hb12.size); (have hA2 := (hBf.cell (p := ⟨A, 0, none⟩) (World.block_lt_of_cell? w _ hA)).trans hA)))
    go_wp2_with (first | (go_at_call 60; refine (failG_any w2.heap.size g cap r id w1.heap.size A _ hO2 (safe_valid HR.out) hpos (by simp) (by omega) (by first | (simp; done) | (simp; omega)) (by omega) (by simp) ⟨_, _, heap_alloc_new _ _⟩ hA2).mono ?_; rw [HO.out]; rintro e w3 ⟨rfl, hb3, hres⟩; have hb13 := hBf.trans (hb3.mono hb1.size); obtain ⟨u3, hc3, hO3⟩ := hres rfl))
    go_ret2
    exact ⟨_, rfl, hO3.mono hb1.size, hb13⟩

set_option maxHeartbeats 1000000 in
theorem iRingFail_any (v : Value) (r : List Nd) (id : Int) (w : World) (hv : RingAt w v r) :
    Calls Try.prog 31 #[v, .int .i64 id] w fun e w' => ∃ u, e = .returned (.tuple #[u, .bool (rFailOk r id)]) ∧ RingOwn w' w.heap.size u (rFail r id) ∧ Below w.heap.size w w' := by
  have hmf : ∀ (fn : Fn) (first cap : Array Value) (w : World), (Instr.makeFunc fn first cap).run Try.prog w = .ok (.func fn first cap) w := fun _ _ _ _ => rfl
  have HV := Lib.hid hv
  clear hv
  have hp : (ringSafe r && posAll [id]) = (ringSafe r && okP id) := by rw [posAll1]
  have H1 := Lib.hid (take_ok (r := r) (id := id) (g := fun k => safeB (r.eraseIdx k)) hp)
  have H2 := Lib.hid (take_ring (r := r) (id := id) (g := fun k => safeB (r.eraseIdx k)) (f := fun k => failK r k) hp (fun k hk => by unfold failK; rw [hk]; rfl))
  clear hp
  have hB0 := ((Below.refl w.heap.size w).alloc (Nat.le_refl _) (.cells #[.int .i64 id] 3)).alloc (by simp) (.cells #[.int .i64 id] 3)
  go_enter Try.func31, Try.ntmps31
  go_wp2_with (go_at_call 41; refine (takeFail_any _ _ r id w.heap.size _ (by exact HV.out.below hB0 (Nat.le_refl _)) (by exact intsAt_newN _ _ [id] _ _ (by simp) rfl (by simp)) (by simp)).mono ?_; rintro e w1 ⟨u, rfl, hO, hb1⟩)
  go_ret2
  refine ⟨u, ?_, ?_, hB0.trans (hb1.mono hB0.size)⟩
  · show Ending.returned (.tuple #[u, .bool (ringSafe r && posAll [id] && stepB true r id fun k => safeB (r.eraseIdx k))]) = _
    rw [H1.out]; rfl
  · have := hO.mono hB0.size
    rw [H2.out] at this
    exact this

end Go.Proofs.Ytadplndoopkdgaa
