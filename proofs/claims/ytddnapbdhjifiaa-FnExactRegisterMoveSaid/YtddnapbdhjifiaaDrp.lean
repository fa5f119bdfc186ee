/-
  Contracts: drawn registers.
-/
import Derived.Test.YtddnapbdhjifiaaDri
import Derived.Test.YtddnapbdhjifiaaSc
import Derived.Test.YtddnapbdhjifiaaSx
namespace Go.Proofs.Ytddnapbdhjifiaa
open Go.RowKit

/-- The numbers of drawn replicas are small. -/
def BdT (x : Tr) : Prop := (-1 ≤ x.a ∧ x.a ≤ 1000) ∧ (-1 ≤ x.b ∧ x.b ≤ 1000) ∧ -1 ≤ x.c ∧ x.c ≤ 1000
def Bd (xs : List Tr) : Prop := ∀ j, j < xs.length → BdT (xs.getD j default)
theorem Bd.put {rs : List Tr} {ks : List Int} {x : Tr} (h : Bd rs) (hx : BdT x) : Bd (rPutAll x rs ks) := fun j hj => by
  rw [rPutAll_length] at hj
  rw [rPutAll_get _ _ _ hj]
  have h1 := h j hj
  unfold rPut
  split
  · split
    · exact hx
    · exact h1
  · exact h1
theorem Bd.set {rs : List Tr} {k : Nat} {x : Tr} (h : Bd rs) (hx : BdT x) : Bd (rs.set k x) := fun j hj => by
  rw [List.length_set] at hj
  rw [List.getD_eq_getElem?_getD, List.getElem?_set]
  split
  · rename_i e; subst e; rw [if_pos hj]; exact hx
  · rw [← List.getD_eq_getElem?_getD]; exact h j hj
theorem Bd.zero (n : Nat) : Bd (List.replicate n default) := fun j hj => by
  rw [List.length_replicate] at hj
  have : (List.replicate n (default : Tr)).getD j default = default := by simp [hj]
  rw [this]
  exact ⟨⟨by decide, by decide⟩, ⟨by decide, by decide⟩, by decide, by decide⟩
theorem Bd.app {a b : List Tr} (h : Bd a) (h' : Bd b) : Bd (a ++ b) := fun j hj => by
  rw [List.length_append] at hj
  rcases Nat.lt_or_ge j a.length with hlt | hge
  · have := h j hlt
    rw [List.getD_eq_getElem?_getD] at this ⊢
    rw [List.getElem?_append_left hlt]
    exact this
  · have := h' (j - a.length) (by omega)
    rw [List.getD_eq_getElem?_getD] at this ⊢
    rw [List.getElem?_append_right hge]
    exact this
theorem mkReplicas (n : Nat) (hn : n ≤ 1048576) (w : World) : (Instr.makeSlice 25 (.int .i64 (n : Int)) (.int .i64 (n : Int))).run Try.prog w = .ok (.slice (some ⟨w.heap.size, 0, none⟩) n n) (w.alloc (.cells (mkT n) 39)) := by
  obtain ⟨n0, ni, nz0, nz1, nz2⟩ := info_parts Try.infoReplica
  have := run_make (P := Try.prog) w 25 39 n0 _ Try.underlying25 ni nz0 .i64 .i64 (n : Int) (n : Int) (by omega) (Int.le_refl _) (by rw [nz2]; omega) (by omega)
  rw [nz1] at this
  simpa [mkT] using this
def Lasts (S : Nat) (w : World) (v : Value) (xs : List Tr) : Prop := ∀ w', Keeps (S + 1) w w' → TrsAt w' v xs
theorem Lasts.at {S : Nat} {w : World} {v : Value} {xs : List Tr} (h : Lasts S w v xs) : TrsAt w v xs := h w (.refl _ _)
theorem Lasts.grow {S : Nat} {w w' : World} {v : Value} {xs : List Tr} (h : Lasts S w v xs) (hg : w.grownBy w' (some S)) : Lasts S w' v xs := fun w'' hg' => h w'' ((keeps_grow hg).trans hg')
theorem TrsOwn.grow {w w' : World} {S B : Nat} {T : TypeId} {v : Value} {xs : List Tr} (h : TrsOwn w B T v xs) (hg : w.grownBy w' (some S)) (hB : S < B) : TrsOwn w' B T v xs :=
  h.keeps ⟨hg.size, fun q hq hl => hg.block q hl (fun e => by cases e; omega)⟩
theorem lasts_own {S B : Nat} {w : World} {T : TypeId} {v : Value} {xs : List Tr} (h : TrsOwn w B T v xs) (hB : S < B) : Lasts S w v xs := fun _ hg => (h.keeps (hg.mono hB)).at
theorem TrsOwn.setA {w : World} {B g cap : Nat} {T : TypeId} {xs : List Tr} (h : TrsOwn w B T (.slice (some ⟨g, 0, none⟩) xs.length cap) xs) {k : Nat} (hk : k < xs.length) (x : Int) :
    TrsOwn (w.setCell ⟨g, k * 3, none⟩ (.int .i64 x)) B T (.slice (some ⟨g, 0, none⟩) xs.length cap) (xs.set k ⟨x, (xs.getD k default).b, (xs.getD k default).c⟩) := by
  obtain ⟨f1, f2, f3⟩ := flatT_get xs k hk
  unfold TrsOwn
  rw [List.length_set, flatT_set xs k _ hk]
  have e1 : ((flatT xs).set (k * 3) (Value.int .i64 x)).set (k * 3 + 1) (.int .i64 (xs.getD k default).b) = (flatT xs).set (k * 3) (Value.int .i64 x) :=
    List.set_eq_of_getElem? (by rw [List.getElem?_set_ne (by omega)]; exact f2)
  rw [e1]
  have e2 : ((flatT xs).set (k * 3) (Value.int .i64 x)).set (k * 3 + 2) (.int .i64 (xs.getD k default).c) = (flatT xs).set (k * 3) (Value.int .i64 x) :=
    List.set_eq_of_getElem? (by rw [List.getElem?_set_ne (by omega)]; exact f3)
  rw [e2]
  exact ownsRow_set h (k * 3) (.int .i64 x)
theorem TrsOwn.setB {w : World} {B g cap : Nat} {T : TypeId} {xs : List Tr} (h : TrsOwn w B T (.slice (some ⟨g, 0, none⟩) xs.length cap) xs) {k : Nat} (hk : k < xs.length) (x : Int) :
    TrsOwn (w.setCell ⟨g, k * 3 + 1, none⟩ (.int .i64 x)) B T (.slice (some ⟨g, 0, none⟩) xs.length cap) (xs.set k ⟨(xs.getD k default).a, x, (xs.getD k default).c⟩) := by
  obtain ⟨f1, f2, f3⟩ := flatT_get xs k hk
  unfold TrsOwn
  rw [List.length_set, flatT_set xs k _ hk]
  have e1 : (flatT xs).set (k * 3) (Value.int .i64 (xs.getD k default).a) = flatT xs := List.set_eq_of_getElem? f1
  have e2 : ((flatT xs).set (k * 3 + 1) (Value.int .i64 x)).set (k * 3 + 2) (.int .i64 (xs.getD k default).c) = (flatT xs).set (k * 3 + 1) (Value.int .i64 x) :=
    List.set_eq_of_getElem? (by rw [List.getElem?_set_ne (by omega)]; exact f3)
  rw [e1, e2]
  exact ownsRow_set h (k * 3 + 1) (.int .i64 x)
theorem TrsOwn.setC {w : World} {B g cap : Nat} {T : TypeId} {xs : List Tr} (h : TrsOwn w B T (.slice (some ⟨g, 0, none⟩) xs.length cap) xs) {k : Nat} (hk : k < xs.length) (x : Int) :
    TrsOwn (w.setCell ⟨g, k * 3 + 2, none⟩ (.int .i64 x)) B T (.slice (some ⟨g, 0, none⟩) xs.length cap) (xs.set k ⟨(xs.getD k default).a, (xs.getD k default).b, x⟩) := by
  obtain ⟨f1, f2, f3⟩ := flatT_get xs k hk
  unfold TrsOwn
  rw [List.length_set, flatT_set xs k _ hk]
  have e1 : (flatT xs).set (k * 3) (Value.int .i64 (xs.getD k default).a) = flatT xs := List.set_eq_of_getElem? f1
  have e2 : (flatT xs).set (k * 3 + 1) (Value.int .i64 (xs.getD k default).b) = flatT xs := List.set_eq_of_getElem? f2
  rw [e1, e2]
  exact ownsRow_set h (k * 3 + 2) (.int .i64 x)
/-- Behind a call within a region that draws, the condition on the world may be turned into a narrower one. -/
theorem wpAnyH_turn {P : Program} {ops : Array Oper} {Q : Exit → Act → World → Prop} {md : Region.Mode} {S S' : World → Prop} (hs : ∀ w, S' w → S w) : ∀ (fuel : Nat) (listed : Array Bool) (a : Act) (w : World), wpAnyH P md ops Q S' fuel listed a w → wpAnyH P md ops Q S fuel listed a w
  | 0, _, _, _, h => h
  | fuel + 1, _, _, _, h => ⟨h.1, fun i hi => wpOp_mono (fun a' w' h' => ⟨hs _ h'.1, wpAnyH_turn hs fuel _ a' w' h'.2⟩) (h.2 i hi)⟩
theorem cells5 (w : World) (a b c d e : Value) (t : TypeId) (N : Nat) (h : N = w.heap.size) : (w.alloc (.cells #[a, b, c, d, e] t)).cell? ⟨N, 0, none⟩ = some a ∧ (w.alloc (.cells #[a, b, c, d, e] t)).cell? ⟨N, 1, none⟩ = some b ∧ (w.alloc (.cells #[a, b, c, d, e] t)).cell? ⟨N, 2, none⟩ = some c ∧ (w.alloc (.cells #[a, b, c, d, e] t)).cell? ⟨N, 3, none⟩ = some d ∧ (w.alloc (.cells #[a, b, c, d, e] t)).cell? ⟨N, 4, none⟩ = some e := by
  subst h
  exact ⟨by simp, by simp, by simp, by simp, by simp⟩
theorem one_of5 {w w1 w2 : World} {o : Obj} {S c : Nat} (hg : (w1.alloc o).grownBy w2 (some S)) (hz : w.heap.size ≤ w1.heap.size) (hS : S < w.heap.size)
    (q0 : (w1.alloc o).cell? ⟨w1.heap.size, 0, none⟩ = some (.int .i64 (-1))) (q1 : (w1.alloc o).cell? ⟨w1.heap.size, 1, none⟩ = some (.int .i64 0))
    (q2 : (w1.alloc o).cell? ⟨w1.heap.size, 2, none⟩ = some (.int .i64 98)) (q3 : (w1.alloc o).cell? ⟨w1.heap.size, 3, none⟩ = some (.int .i64 99)) (q4 : (w1.alloc o).cell? ⟨w1.heap.size, 4, none⟩ = some (.int .i64 100)) (hc : (c : Int) < 5) :
    ∃ x : Int, w2.cell? ⟨w1.heap.size, c, none⟩ = some (.int .i64 x) ∧ -1 ≤ x ∧ x ≤ 1000 := by
  rcases (show c = 0 ∨ c = 1 ∨ c = 2 ∨ c = 3 ∨ c = 4 by omega) with rfl | rfl | rfl | rfl | rfl
  · exact ⟨-1, (grow_cell hg (by simp) (by omega)).trans q0, by omega, by omega⟩
  · exact ⟨0, (grow_cell hg (by simp) (by omega)).trans q1, by omega, by omega⟩
  · exact ⟨98, (grow_cell hg (by simp) (by omega)).trans q2, by omega, by omega⟩
  · exact ⟨99, (grow_cell hg (by simp) (by omega)).trans q3, by omega, by omega⟩
  · exact ⟨100, (grow_cell hg (by simp) (by omega)).trans q4, by omega, by omega⟩
def RsPost (S : Nat) (w : World) (e : Ending) (w' : World) : Prop := ∃ (u : Value) (xs : List Tr) (p' : Nat), e = .returned u ∧ Lasts S w' u xs ∧ 1 ≤ xs.length ∧ xs.length ≤ 10 ∧ Bd xs ∧ p' ≤ 1000 ∧ RdAt w' S p' ∧ w.grownBy w' (some S)

set_option maxRecDepth 100000 in
set_option maxHeartbeats 4000000 in
theorem l91Replicas_any (S : Nat) (w : World) (h : RdAt w S 0) :
    Calls Try.prog 41 #[.pointer (some ⟨S, 0, none⟩)] w (RsPost S w) := by
  have hS := h.lt
  obtain ⟨i0, hi, hz0, hz1, hz2⟩ := info_parts Try.infoReplica
  go_enter Try.func41, Try.ntmps41
  go_wp2_with fail
  refine (pick_any S 0 5 _ h (by omega) (by omega) (by omega)).mono ?_
  rintro e w1 ⟨c1, hc1, rfl, hr1, hg1⟩
  obtain ⟨n, hn⟩ : ∃ n, 1 + c1 = n := ⟨_, rfl⟩
  have hcast : (1 : Int) + (c1 : Int) = (n : Int) := by omega
  have hn1 : 1 ≤ n := by omega
  have hn5 : n ≤ 5 := by omega
  have hn0 : (0 : Int) ≤ (n : Int) := by omega
  have hnm : (n : Int) ≤ 9223372036854775807 := by omega
  have hmk := mkReplicas n (by omega)
  have hb2 := (Below.refl w1.heap.size w1).alloc (Nat.le_refl _) (.cells (mkT n) 39)
  have HO0 := Lib.hid (show TrsOwn (w1.alloc (.cells (mkT n) 39)) w.heap.size 39 (.slice (some ⟨w1.heap.size, 0, none⟩) (List.replicate n (default : Tr)).length n) (List.replicate n default) from by rw [List.length_replicate]; exact (trs_made w1 n _ (by unfold maxLen; omega)).mono hg1.size)
  have HG0 := Lib.hid (grow_trans hg1 (grow_below (S := S) hb2 (Nat.le_refl _)))
  have hr2 := hr1.below hb2 (Nat.le_refl _)
  have hrl : (List.replicate n (default : Tr)).length = n := List.length_replicate ..
  go_wp2
  clear hmk hb2 hcast
  go_loopg [3, 4, 5, 6, 7] 6 (fun m s3 s4 _ _ _ wr => ∃ (xs : List Tr) (cap i pp : Nat), i ≤ 6 ∧ m = 6 - i ∧ s4 = .int .i64 i ∧ Hid (TrsOwn wr w.heap.size 39 s3 xs) ∧ xs.length = n ∧ Hid (Bd xs) ∧ RdAt wr S pp ∧ pp ≤ 100 * i + 1 ∧ Hid (w.grownBy wr (some S)))
  case atStart => exact ⟨List.replicate n default, n, 0, 1, by omega, rfl, rfl, by have h0 := HO0.out; rw [hrl] at h0; exact Lib.hid h0, hrl, Lib.hid (Bd.zero n), hr2, by omega, HG0⟩
  case round =>
    obtain ⟨xs, cap0, i, pp, hi6, rfl, rfl, HO, hxl, HBd, hr, hpp, HG⟩ := hrel
    obtain ⟨g, cap, rfl, gc1, gc2, gS, gl⟩ := HO.out.form (by omega)
    go_wp2_with fail
    refine (pick_any S pp 6 _ hr (by omega) (by omega) (by omega)).mono ?_
    rintro e w3 ⟨c, hc, rfl, hr3, hg3⟩
    have HO3 := Lib.hid (HO.out.grow hg3 hS)
    have HG3 := Lib.hid (grow_trans HG.out hg3)
    have hs3 := hg3.size
    clear hg3
    by_cases hlt : i < c
    · have hlt' : (i : Int) < (c : Int) := by omega
      go_wp2_with fail
      refine (pick_any S (pp + 1) 3 _ hr3 (by omega) (by omega) (by omega)).mono ?_
      rintro e w4 ⟨c4, hc4, rfl, hr4, hg4⟩
      go_wp2_with fail
      refine (pick_any S (pp + 1 + 1) 3 _ hr4 (by omega) (by omega) (by omega)).mono ?_
      rintro e w5 ⟨c5, hc5, rfl, hr5, hg5⟩
      go_wp2_with fail
      refine (pick_any S (pp + 1 + 1 + 1) 100 _ hr5 (by omega) (by omega) (by omega)).mono ?_
      rintro e w6 ⟨c6, hc6, rfl, hr6, hg6⟩
      have hb7 := (Below.refl w6.heap.size w6).alloc (Nat.le_refl _) (.cells #[.int .i64 (1 + (c4 : Int)), .int .i64 c5, .int .i64 c6] 39)
      have hbox := heap_alloc_new w6 (.cells #[.int .i64 (1 + (c4 : Int)), .int .i64 c5, .int .i64 c6] 39)
      have hsz7 : (w6.alloc (.cells #[.int .i64 (1 + (c4 : Int)), .int .i64 c5, .int .i64 c6] 39)).heap.size = w6.heap.size + 1 := by simp
      have hg36 := grow_trans (grow_trans hg4 hg5) hg6
      have HO7 := Lib.hid (show TrsOwn _ w.heap.size 39 (.slice (some ⟨g, 0, none⟩) n cap) xs from by have := (HO3.out.grow hg36 hS).below hb7 (Nat.le_refl _); rw [hxl] at this; exact this)
      have hs6 := hg36.size
      have HG7 := Lib.hid (grow_trans (grow_trans HG3.out hg36) (grow_below (S := S) hb7 (Nat.le_refl _)))
      have hr7 := hr6.below hb7 (Nat.le_refl _)
      go_wp2_with fail
      obtain ⟨W, hW⟩ : ∃ W, w6.alloc (.cells #[.int .i64 (1 + (c4 : Int)), .int .i64 c5, .int .i64 c6] 39) = W := ⟨_, rfl⟩
      obtain ⟨N, hN⟩ : ∃ N, w6.heap.size = N := ⟨_, rfl⟩
      rw [hW, hN] at hbox hsz7
      rw [hW] at HO7 HG7 hr7 ⊢
      rw [hN] at hs6 ⊢
      have hNS : N ≠ S := by omega
      have hNl : N < W.heap.size := by omega
      obtain ⟨x0, x1, x2⟩ := cells3 hbox
      have hgl' : g < W.heap.size := by omega
      have HX := Lib.hid (show BdT ⟨1 + (c4 : Int), c5, c6⟩ from ⟨⟨by simp only; omega, by simp only; omega⟩, ⟨by simp only; omega, by simp only; omega⟩, by simp only; omega, by simp only; omega⟩)
      clear hbox hb7 hg36 hW hN hr3 hr4 hr5 hr6 hg4 hg5 hg6 hr
      refine wp_region_held_drew (S := fun w' => (W).grownBy w' (some S)) (by kernel_rfl) ⟨rfl, rfl, rfl, Nat.le_refl _, fun _ _ _ => rfl⟩ (fun hHeld => ?_)
      refine wpAnyH_take (i := 0) (v := ?_) rfl (by kernel_rfl) (by kernel_rfl) (by kernel_rfl) (fun _ _ _ h => h) (Or.inl ⟨by rfl, ?_⟩) (by assumption) ?_
      rotate_left
      · (intro wz hSw; clear hSw; go_simp; try (with_reducible rfl))
      simp only [Act.put, List.getElem_toArray, List.getElem_cons_zero, List.setIfInBounds_toArray, List.set_cons_zero, List.set_cons_succ]
      refine wpAnyH_take (i := 1) (v := ?_) rfl (by kernel_rfl) (by kernel_rfl) (by kernel_rfl) (fun _ _ _ h => h) (Or.inl ⟨by rfl, ?_⟩) (by assumption) ?_
      rotate_left
      · (intro wz hSw; clear hSw; go_simp; try (with_reducible rfl))
      simp only [Act.put, List.getElem_toArray, List.getElem_cons_zero, List.getElem_cons_succ, List.setIfInBounds_toArray, List.set_cons_zero, List.set_cons_succ]
      refine wpAnyH_take (i := 2) (v := ?_) rfl (by kernel_rfl) (by kernel_rfl) (by kernel_rfl) (fun _ _ _ h => h) (Or.inl ⟨by rfl, ?_⟩) (by assumption) ?_
      rotate_left
      · (intro wz hSw; clear hSw; go_simp; try (with_reducible rfl))
      simp only [Act.put, List.getElem_toArray, List.getElem_cons_zero, List.getElem_cons_succ, List.setIfInBounds_toArray, List.set_cons_zero, List.set_cons_succ]
      refine wpAnyH_take (i := 3) (v := ?_) rfl (by kernel_rfl) (by kernel_rfl) (by kernel_rfl) (fun _ _ _ h => h) (Or.inl ⟨by rfl, ?_⟩) (by assumption) ?_
      rotate_left
      · (intro wz hSw; clear hSw; go_simp; try (with_reducible rfl))
      simp only [Act.put, List.getElem_toArray, List.getElem_cons_zero, List.getElem_cons_succ, List.setIfInBounds_toArray, List.set_cons_zero, List.set_cons_succ]
      refine wpAnyH_take (i := 5) (v := ?_) rfl (by kernel_rfl) (by kernel_rfl) (by kernel_rfl) (fun _ _ _ h => h) (Or.inl ⟨by rfl, ?_⟩) (by assumption) ?_
      rotate_left
      · (intro wz hSw; have s4 := (grow_cell (o := 0) hSw hNl hNS).trans x0; have s5 := (grow_cell (o := 1) hSw hNl hNS).trans x1; have s6 := (grow_cell (o := 2) hSw hNl hNS).trans x2; go_simp; try (with_reducible rfl))
      simp only [Act.put, List.getElem_toArray, List.getElem_cons_zero, List.getElem_cons_succ, List.setIfInBounds_toArray, List.set_cons_zero, List.set_cons_succ]
      refine wpAnyH_ready (rs := [4]) (by kernel_rfl) (by simp) ?_
      refine AllReadyH.cons rfl (fun K hK => ?_) AllReadyH.nil
      rw [if_pos (by rfl)]
      go_wp2_with (go_at_call 42; refine (l91Some_any S (pp + 1 + 1 + 1 + 1) n _ (by exact hr7) (by omega) (by omega)).mono ?_; rintro e wt1 ⟨u1, ks, p1, rfl, HU1, hks, hp1, hr8, hbq⟩)
      refine hK.out _ _ (grow_trans hHeld hbq) (fun hHeld => ?_)
      clear hK K hbq
      have hT1 := hHeld
      refine wpAnyH_turn (S' := fun w' => wt1.grownBy w' (some S)) (fun w h => grow_trans hT1 h) _ _ _ _ ?_
      have hHeld : wt1.grownBy wt1 (some S) := grow_refl _ _
      refine wpAnyH_ready (rs := [6]) (by kernel_rfl) (by simp) ?_
      refine AllReadyH.cons rfl (fun K hK => ?_) AllReadyH.nil
      rw [if_pos (by rfl)]
      go_wp2_with (go_at_call 55; refine (sPart_any _ _ xs ks ⟨1 + (c4 : Int), c5, c6⟩ _ (by exact (HO7.out.grow hT1 hS).at) (by exact HU1.at) (by omega)).mono ?_; rintro e wq ⟨z, rfl, hO9, hb9⟩; have hbq := grow_below (S := S) hb9 (Nat.le_refl _))
      refine hK.out _ _ (grow_trans hHeld hbq) (fun hHeld => ?_)
      clear hK K hbq
      refine wpAnyH_take (i := 7) (v := ?_) rfl (by kernel_rfl) (by kernel_rfl) (by kernel_rfl) (fun _ _ _ h => h) (Or.inl ⟨by rfl, ?_⟩) (by assumption) ?_
      rotate_left
      · (intro wz hSw; clear hSw; go_simp; try (with_reducible rfl))
      simp only [Act.put, List.getElem_toArray, List.getElem_cons_zero, List.getElem_cons_succ, List.setIfInBounds_toArray, List.set_cons_zero, List.set_cons_succ]
      refine wpAnyH_take (i := 8) (v := ?_) rfl (by kernel_rfl) (by kernel_rfl) (by kernel_rfl) (fun _ _ _ h => h) (Or.inl ⟨by rfl, ?_⟩) (by assumption) ?_
      rotate_left
      · (intro wz hSw; clear hSw; go_simp; try (with_reducible rfl))
      simp only [Act.put, List.getElem_toArray, List.getElem_cons_zero, List.getElem_cons_succ, List.setIfInBounds_toArray, List.set_cons_zero, List.set_cons_succ]
      refine wpAnyH_take (i := 9) (v := ?_) rfl (by kernel_rfl) (by kernel_rfl) (by kernel_rfl) (fun _ _ _ h => h) (Or.inl ⟨by rfl, ?_⟩) (by assumption) ?_
      rotate_left
      · (intro wz hSw; clear hSw; go_simp; try (with_reducible rfl))
      simp only [Act.put, List.getElem_toArray, List.getElem_cons_zero, List.getElem_cons_succ, List.setIfInBounds_toArray, List.set_cons_zero, List.set_cons_succ]
      refine wpAnyH_take (i := 10) (v := ?_) rfl (by kernel_rfl) (by kernel_rfl) (by kernel_rfl) (fun _ _ _ h => h) (Or.inl ⟨by rfl, ?_⟩) (by assumption) ?_
      rotate_left
      · (intro wz hSw; clear hSw; go_simp; try (with_reducible rfl))
      simp only [Act.put, List.getElem_toArray, List.getElem_cons_zero, List.getElem_cons_succ, List.setIfInBounds_toArray, List.set_cons_zero, List.set_cons_succ]
      refine wpAnyH_take (i := 11) (v := ?_) rfl (by kernel_rfl) (by kernel_rfl) (by kernel_rfl) (fun _ _ _ h => h) (Or.inl ⟨by rfl, ?_⟩) (by assumption) ?_
      rotate_left
      · (intro wz hSw; clear hSw; go_simp; try (with_reducible rfl))
      simp only [Act.put, List.getElem_toArray, List.getElem_cons_zero, List.getElem_cons_succ, List.setIfInBounds_toArray, List.set_cons_zero, List.set_cons_succ]
      refine wpAnyH_done (by kernel_rfl) ?_ _
      have hr9 := hr8.below hb9 (Nat.le_refl _)
      have HG9 := Lib.hid (grow_trans HG7.out (grow_trans hT1 hHeld))
      have HO9 := Lib.hid (HO7.out.grow (grow_trans hT1 hHeld) hS)
      have hs1 := hT1.size
      rcases hpb : partB xs ks ⟨1 + (c4 : Int), c5, c6⟩ with _ | _
      · go_wp2
        go_roundg (6 - (i + 1))
        case rel => exact ⟨xs, cap, i + 1, p1, by omega, rfl, by go_num, HO9, hxl, HBd, hr9, by omega, HG9⟩
        case measure => omega
      · go_wp2
        go_roundg (6 - (i + 1))
        case rel => exact ⟨rPutAll ⟨1 + (c4 : Int), c5, c6⟩ xs ks, cap, i + 1, p1, by omega, rfl, by go_num, Lib.hid (by rw [partR_yes hpb] at hO9; exact hO9.mono (by have := HG7.out.size; omega)), by rw [rPutAll_length]; exact hxl, Lib.hid (Bd.put HBd.out HX.out), hr9, by omega, HG9⟩
        case measure => omega
    · go_wp2_with fail
      refine (pick_any S (pp + 1) (n : Int) _ hr3 (by omega) (by omega) (by omega)).mono ?_
      rintro e w8 ⟨k, hk, rfl, hr8, hg8⟩
      go_wp2_with fail
      refine (pick_any S (pp + 1 + 1) 20 _ hr8 (by omega) (by omega) (by omega)).mono ?_
      rintro e w9 ⟨c9, hc9, rfl, hr9, hg9⟩
      have HO9 := Lib.hid (show TrsOwn w9 w.heap.size 39 (.slice (some ⟨g, 0, none⟩) xs.length cap) xs from (HO3.out.grow hg8 hS).grow hg9 hS)
      have HG9 := Lib.hid (grow_trans (grow_trans HG3.out hg8) hg9)
      have hs8 := hg8.size
      have hs9 := hg9.size
      have gSS : S < g := by omega
      have hk0 : (0 : Int) ≤ (k : Int) := by omega
      have hkn : k < xs.length := by omega
      clear HO HO3 HG HG3 hg8 hg9 hr hr3 hr8
      have hkn' : (k : Int) < (n : Int) := by omega
      rcases (show c9 = 0 ∨ c9 = 1 ∨ c9 = 2 ∨ c9 = 3 ∨ 4 ≤ c9 by omega) with rfl | rfl | rfl | rfl | hc4
      · have hbx := (Below.refl w9.heap.size w9).alloc (Nat.le_refl _) (.cells #[.int .i64 (-1), .int .i64 0, .int .i64 98, .int .i64 99, .int .i64 100] 3)
        obtain ⟨q0, q1, q2, q3, q4⟩ := cells5 w9 (.int .i64 (-1)) (.int .i64 0) (.int .i64 98) (.int .i64 99) (.int .i64 100) 3 w9.heap.size rfl
        have hz9 := HG9.out.size
        go_wp2_with (go_at_call 43; refine (pick_any S (pp + 1 + 1 + 1) 5 _ (by exact hr9.below hbx (Nat.le_refl _)) (by omega) (by omega) (by omega)).mono ?_; rintro e w10 ⟨c2, hc2, rfl, hr10, hgx⟩; have hj0 : (0 : Int) ≤ (c2 : Int) := (by omega); obtain ⟨x, hx0, hx1, hx2⟩ := one_of5 hgx hz9 hS q0 q1 q2 q3 q4 hc2; have hg10 := grow_trans (grow_below (S := S) hbx (Nat.le_refl _)) hgx; have HO10 := Lib.hid (HO9.out.grow hg10 hS); obtain ⟨r0, r1, r2, r3, -, -⟩ := HO10.out.cells (k := k) hkn; have hs10 := hg10.size)
        go_ret
        refine ⟨_, xs.set k ⟨x, (xs.getD k default).b, (xs.getD k default).c⟩, _, rfl, ?_, by rw [List.length_set]; omega, by rw [List.length_set]; omega, HBd.out.set ?_, by omega, hr10.grown (g := g) (grow_set w10 g (k * 3) _) gSS, grow_then (grow_trans HG9.out hg10) (grow_set w10 g (k * 3) _) gS⟩
        · have := lasts_own (TrsOwn.setA HO10.out hkn x) hS
          rw [hxl] at this
          exact this
        · obtain ⟨b1, b2, b3⟩ := HBd.out k hkn
          exact ⟨⟨hx1, hx2⟩, b2, b3⟩
      · go_wp2_with (go_at_call 43; refine (pick_any S (pp + 1 + 1 + 1) 102 _ hr9 (by omega) (by omega) (by omega)).mono ?_; rintro e w10 ⟨c2, hc2, rfl, hr10, hg10⟩; have HO10 := Lib.hid (HO9.out.grow hg10 hS); obtain ⟨r0, r1, r2, r3, -, -⟩ := HO10.out.cells (k := k) hkn; have hs10 := hg10.size)
        go_ret
        refine ⟨_, xs.set k ⟨(xs.getD k default).a, (xs.getD k default).b, (c2 : Int) - 1⟩, _, rfl, ?_, by rw [List.length_set]; omega, by rw [List.length_set]; omega, HBd.out.set ?_, by omega, hr10.grown (g := g) (grow_set w10 g (k * 3 + 2) _) gSS, grow_then (grow_trans HG9.out hg10) (grow_set w10 g (k * 3 + 2) _) gS⟩
        · have := lasts_own (TrsOwn.setC HO10.out hkn ((c2 : Int) - 1)) hS
          rw [hxl] at this
          exact this
        · obtain ⟨b1, b2, b3⟩ := HBd.out k hkn
          exact ⟨b1, b2, by simp only; omega, by simp only; omega⟩
      · go_wp2_with (at_builtin; refine wpList_append_src rfl (.tmp 67) (.tmp 68) 25 rfl w.heap.size 39 i0 (.agg #[.int .i64 0, .int .i64 0, .int .i64 0]) 3 24 Try.underlying25 hi hz0 hz1 hz2 rfl (by decide) _ n _ rfl (by have := HO9.out; unfold TrsOwn at this; rw [hxl] at this; exact this) _ n _ rfl (by have := HO9.out.at.src; rw [hxl] at this; exact this) (by unfold maxLen at *; omega) (by omega) (by unfold maxLen at *; omega) ?_; intro v7 w7 hown7 hgrow7 hnil7)
        go_ret
        refine ⟨_, xs ++ xs, _, rfl, lasts_own (B := w.heap.size) (T := 39) ?_ hS, by simp; omega, by simp; omega, HBd.out.app HBd.out, by omega, hr9.grown (g := g) hgrow7 gSS, grow_then HG9.out hgrow7 gS⟩
        unfold TrsOwn
        rw [flatT_append, List.length_append, hxl]
        exact hown7
      · go_wp2_with (go_at_call 56; refine (l91Point_any S (pp + 1 + 1 + 1) _ hr9 (by omega)).mono ?_; rintro e w10 ⟨x, p', hx1, hx2, hp1, rfl, hr10, hg10⟩; have HO10 := Lib.hid (HO9.out.grow hg10 hS); obtain ⟨r0, r1, r2, r3, -, -⟩ := HO10.out.cells (k := k) hkn; have hs10 := hg10.size)
        go_ret
        refine ⟨_, xs.set k ⟨(xs.getD k default).a, x, (xs.getD k default).c⟩, _, rfl, ?_, by rw [List.length_set]; omega, by rw [List.length_set]; omega, HBd.out.set ?_, by omega, hr10.grown (g := g) (grow_set w10 g (k * 3 + 1) _) gSS, grow_then (grow_trans HG9.out hg10) (grow_set w10 g (k * 3 + 1) _) gS⟩
        · have := lasts_own (TrsOwn.setB HO10.out hkn x) hS
          rw [hxl] at this
          exact this
        · obtain ⟨b1, b2, b3⟩ := HBd.out k hkn
          exact ⟨b1, ⟨hx1, Int.le_trans hx2 (by decide)⟩, b3⟩
      · have e0 : ((c9 : Int) == 0) = false := beq_eq_false_iff_ne.2 (by omega)
        have e1 : ((c9 : Int) == 1) = false := beq_eq_false_iff_ne.2 (by omega)
        have e2 : ((c9 : Int) == 2) = false := beq_eq_false_iff_ne.2 (by omega)
        have e3 : ((c9 : Int) == 3) = false := beq_eq_false_iff_ne.2 (by omega)
        go_wp2
        go_ret
        refine ⟨_, xs, _, rfl, ?_, by omega, by omega, HBd.out, by omega, hr9, HG9.out⟩
        have := lasts_own HO9.out hS
        rw [hxl] at this
        exact this
end Go.Proofs.Ytddnapbdhjifiaa
