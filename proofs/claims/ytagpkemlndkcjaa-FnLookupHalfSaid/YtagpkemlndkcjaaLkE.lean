/-
  Contracts: the draw of a lookup.
-/
import Derived.Test.YtagpkemlndkcjaaLkD
namespace Go.Proofs.Ytagpkemlndkcjaa
open Go.RowKit

/-- What is read for as long as the reader alone goes on. -/
def LastsI (S : Nat) (w : World) (v : Value) (xs : List Int) : Prop := ∀ w', w.grownBy w' (some S) → IntsAt w' v xs
theorem LastsI.at {S : Nat} {w : World} {v : Value} {xs : List Int} (h : LastsI S w v xs) : IntsAt w v xs := h w (grow_refl w S)
theorem lastsI_own {S : Nat} {w : World} {v : Value} {xs : List Int} (h : w.ownsRow (S + 1) 3 1 v xs.length (xs.map (Value.int .i64))) : LastsI S w v xs :=
  fun _ hg => intsAt_own (ownsRow_keeps h (keeps_grow hg) (Nat.le_refl _))
theorem lastsI_get {S k c : Nat} {w w' : World} {p : Option Addr} {xs : List Int} (h : LastsI S w (.slice p xs.length c) xs) (hg : w.grownBy w' (some S)) (hk : k < xs.length) : ∃ b o x, p = some ⟨b, o, none⟩ ∧ w'.cell? ⟨b, o + k, none⟩ = some (.int .i64 x) := by
  obtain ⟨p', c', e', -, -, h4⟩ := h w' hg
  cases e'
  rcases h4 with ⟨rfl, -⟩ | ⟨b, o, rfl, -, h5⟩
  · simp at hk
  · exact ⟨b, o, _, rfl, h5 k hk⟩
/-- A block of one's own has turned: the reader stands. -/
theorem RdAt.turned {w w' : World} {S p g : Nat} (h : RdAt w S p) (hg : w.grownBy w' (some g)) (hS : S < g) : RdAt w' S p := by
  obtain ⟨pb, n, cap, h1, h2, h3, h4, h5, h6, h7, h8⟩ := h
  have hbl : ∀ k, k ≤ S → w'.heap[k]? = w.heap[k]? := fun k hk => hg.block k (by omega) (fun e => by cases e; omega)
  have hc : ∀ k j, k ≤ S → w'.cell? ⟨k, j, none⟩ = w.cell? ⟨k, j, none⟩ := fun k j hk => by simp [World.cell?, hbl k hk]
  refine ⟨pb, n, cap, (hc S 0 (Nat.le_refl _)).trans h1, (hc S 1 (Nat.le_refl _)).trans h2, fun j => ?_, h4, h5, h6, Nat.lt_of_lt_of_le h7 hg.size, ?_⟩
  · have := h3 j
    simp [World.frozen?, hbl S (Nat.le_refl _)] at this ⊢
    exact this
  · rcases h8 with h8 | ⟨b, o, rfl, hlt, hx⟩
    · exact .inl h8
    · refine .inr ⟨b, o, rfl, hlt, fun i hi => ?_⟩
      obtain ⟨x, hx1, hx2⟩ := hx i hi
      exact ⟨x, hx1, (hc b _ (by omega)).trans hx2⟩
def NodesPostL (S : Nat) (w : World) (e : Ending) (w' : World) : Prop := ∃ (u : Value) (xs : List Int) (p' : Nat), e = .returned u ∧ LastsI S w' u xs ∧ xs.length ≤ 20 ∧ p' ≤ 60000 ∧ RdAt w' S p' ∧ Below S w w'

set_option maxHeartbeats 2000000 in
theorem l91NodesL_any (S p : Nat) (w : World) (h : RdAt w S p) (hp : p ≤ 50000) :
    Calls Try.prog 38 #[.pointer (some ⟨S, 0, none⟩)] w (NodesPostL S w) := by
  have hSl := h.lt
  obtain ⟨i0, hi, hz0, hz1, hz2⟩ := info_parts Try.infoInt
  go_enter Try.func38, Try.ntmps38
  go_wp2_with fail
  refine (l91Good_any S p 1 _ h (by omega) (by omega) (by omega)).mono ?_
  rintro e w1 ⟨u1, xs, p1, rfl, hI1, hA, hl1, hl10, hp1, hr1, hg1⟩
  have hz1w := hg1.size
  go_wp2_with fail
  refine (pick_any S p1 20 _ hr1 (by omega) (by omega) (by omega)).mono ?_
  rintro e w2 ⟨c, hc, rfl, hr2, hg2⟩
  have hI2 := hI1.grow hg2
  obtain ⟨g, cap, rfl, gc1, gc2, gS, gl, gcell⟩ := hI2.form
  unfold maxLen at gc2
  have HI2 := Lib.hid hI2
  have hg12 := grow_trans hg1 hg2
  have hb2 : Below S w w2 := below_grow hg12 (Nat.le_refl _) (by omega)
  have hz2w := hg12.size
  clear hI1 hI2 hA
  rcases (show c = 0 ∨ c = 1 ∨ c = 2 ∨ 3 ≤ c by omega) with rfl | rfl | rfl | hc3
  · clear gcell
    go_wp2_with (first | (have _ := hr3; go_at_call 24; refine (l91Point_any S (p1 + 1 + 1) _ hr3 (by omega)).mono ?_; rintro e w4 ⟨x4, p4, hx41, hx42, hp4, rfl, hr4, hg4⟩; have hI4 := Lib.hid ((HI2.out.grow hg3).grow hg4); have hb4 := hb2.trans (below_grow (grow_trans hg3 hg4) (Nat.le_refl _) (by omega)); obtain ⟨g9, c9, e9, -, -, -, gl4, gc4⟩ := hI4.out.form; cases e9; have gk := gc4 k (by omega); have gfr : ∀ q, w4.frozen? ⟨g, q, none⟩ = false := (by rcases hI4.out.1.2 with ⟨h0, -⟩ | ⟨g', cap', cur, e1, -, hgg, -⟩; cases h0; cases e1; intro q; simp [World.frozen?, hgg])) | (go_at_call 39; refine (pick_any S (p1 + 1) (xs.length : Int) _ hr2 (by omega) (by omega) (by omega)).mono ?_; rintro e w3 ⟨k, hk, rfl, hr3, hg3⟩; have kk0 : (0 : Int) ≤ (k : Int) := (by omega)))
    go_ret
    exact ⟨_, xs.set k x4, _, rfl, lastsI_own (xs := xs.set k x4) (by rw [List.length_set, List.map_set]; exact ownsRow_set hI4.out.1 k (.int .i64 x4)), by rw [List.length_set]; omega, by omega, hr4.store (by omega), hb4.setCell (p := ⟨g, k, none⟩) (by show S ≤ g; omega) _⟩
  · clear gcell
    go_wp2_with (at_builtin; (refine wpList_append_src rfl _ _ 23 rfl (S + 1) 3 i0 (.int .i64 0) 1 8 Try.underlying23 hi hz0 hz1 hz2 rfl (by decide) _ _ _ rfl HI2.out.1 _ _ _ rfl HI2.out.at.src (by unfold maxLen; omega) (by omega) (by omega) ?_); intro v5 w5 hown5 hgrow5 _)
    go_ret
    refine ⟨_, xs ++ xs, _, rfl, lastsI_own (xs := xs ++ xs) (by rw [List.length_append, List.map_append]; exact hown5), by rw [List.length_append]; omega, by omega, hr2.turned (g := g) hgrow5 (by omega), hb2.grown hgrow5 (by omega) (fun q hq => by have := (HI2.out.1.lt q hq).1; omega)⟩
  · clear gcell
    go_wp2
    go_ret
    exact ⟨_, [], _, rfl, fun _ _ => ⟨some ⟨g, 0, none⟩, cap, rfl, Nat.zero_le _, by unfold maxLen; omega, .inl ⟨rfl, fun h => by cases h⟩⟩, by simp, by omega, hr2, hb2⟩
  · have hn0 : ((c : Int) == 0) = false := beq_eq_false_iff_ne.2 (by omega)
    have hn1 : ((c : Int) == 1) = false := beq_eq_false_iff_ne.2 (by omega)
    have hn2 : ((c : Int) == 2) = false := beq_eq_false_iff_ne.2 (by omega)
    clear gcell
    go_wp2
    go_ret
    exact ⟨_, xs, _, rfl, lastsI_own HI2.out.1, by omega, by omega, hr2, hb2⟩

def OnePost (S : Nat) (w : World) (e : Ending) (w' : World) : Prop := ∃ (u : Value) (xs : List Int) (x : Int) (p' : Nat), e = .returned (.tuple #[u, .int .i64 x]) ∧ LastsI S w' u xs ∧ p' ≤ 70000 ∧ RdAt w' S p' ∧ Below S w w'

set_option maxHeartbeats 2000000 in
theorem l91One_any (S : Nat) (w : World) (h : RdAt w S 0) : Calls Try.prog 23 #[.pointer (some ⟨S, 0, none⟩)] w (OnePost S w) := by
  go_enter Try.func23, Try.ntmps23
  go_wp2_with fail
  refine (l91NodesL_any S 0 _ h (by omega)).mono ?_
  rintro e w1 ⟨u, xs, p1, rfl, hu, hl, hp1, hr1, hb1⟩
  have HU := Lib.hid hu
  obtain ⟨pu, cu, rfl, hc1, hc2⟩ : ∃ p c, u = .slice p xs.length c ∧ xs.length ≤ c ∧ c ≤ maxLen := by obtain ⟨p, c, e, h1, h2, -⟩ := hu.at; exact ⟨p, c, e, h1, h2⟩
  unfold maxLen at hc2
  clear hu
  have hS1 := hr1.lt
  go_wp2_with fail
  refine (pick_any S p1 12 _ hr1 (by omega) (by omega) (by omega)).mono ?_
  rintro e w2 ⟨c, hc, rfl, hr2, hg2⟩
  have hS2 := hr2.lt
  by_cases hA : c = 0 ∨ xs = []
  · have hcnd : ((c : Int) == 0) = true ∨ (xs = [] ∧ ((c : Int) == 0) = false) := by
      by_cases hc0 : c = 0
      · exact .inl (by simp [hc0])
      · exact .inr ⟨hA.resolve_left hc0, beq_eq_false_iff_ne.2 (by omega)⟩
    clear hA
    rcases hcnd with hcnd | ⟨rfl, hcnd⟩
    all_goals
      go_wp2_with fail
      refine (l91Point_any S (p1 + 1) _ hr2 (by omega)).mono ?_
      rintro e w3 ⟨x, p3, -, -, hp3, rfl, hr3, hg3⟩
      have hg := grow_trans hg2 hg3
      go_wp2
      go_ret2
      exact ⟨_, _, x, p3, rfl, fun w' hw' => HU.out w' (grow_trans hg hw'), by omega, hr3, hb1.trans (below_grow hg (Nat.le_refl _) (by omega))⟩
  · have hcnd : ((c : Int) == 0) = false := beq_eq_false_iff_ne.2 (by omega)
    have hlp : 0 < xs.length := Nat.pos_of_ne_zero (fun e => hA (.inr (List.length_eq_zero_iff.1 e)))
    have hle : ((xs.length : Int) == 0) = false := beq_eq_false_iff_ne.2 (by omega)
    clear hA
    go_wp2_with fail
    go_region_with (first | (go_at_call 39; refine (pick_any S (p1 + 1) (xs.length : Int) _ (by exact hr2) (by omega) (by omega) (by omega)).mono ?_; rintro e w3 ⟨k, hk, rfl, hr3, hg3x⟩; have hg3 := grow_drew hg3x; obtain ⟨b, o, x, e8, hcell⟩ := lastsI_get HU.out (grow_trans hg2 hg3) (k := k) (by omega); cases e8; have k0 : (0 : Int) ≤ (k : Int) := (by omega)))
    have hg := grow_trans hg2 hg3
    go_wp2
    go_ret2
    exact ⟨_, xs, x, _, rfl, fun w' hw' => HU.out w' (grow_trans hg hw'), by omega, hr3, hb1.trans (below_grow hg (Nat.le_refl _) (by omega))⟩

def DLPost (w : World) (e : Ending) (w' : World) : Prop := ∃ (u : Value) (xs : List Int) (id key : Int), e = .returned (.tuple #[u, .int .i64 id, .int .i64 key]) ∧ IntsAt w' u xs ∧ Below w.heap.size w w'
theorem drawLookupNext_any (v : Value) (w : World) (h : CodeAt w v) : Calls Try.prog 10 #[v] w (DLPost w) := by
  go_enter Try.func10, Try.ntmps10
  go_wp2_with fail
  refine (l6Open_any _ _ h).mono ?_
  rintro e w1 ⟨rfl, hr1, hb1⟩
  go_wp2_with fail
  refine (l91One_any w.heap.size _ hr1).mono ?_
  rintro e w2 ⟨u, xs, x, p2, rfl, hu, hp2, hr2, hb2⟩
  have hS2 := hr2.lt
  go_wp2_with fail
  refine (l91Point_any w.heap.size p2 _ hr2 (by omega)).mono ?_
  rintro e w3 ⟨y, p3, -, -, -, rfl, -, hg3⟩
  go_wp2
  go_ret3
  exact ⟨_, xs, x, y, rfl, hu _ hg3, (hb1.trans hb2).trans (below_grow hg3 (Nat.le_refl _) (by omega))⟩
theorem drawLookupPath_any (v : Value) (w : World) (h : CodeAt w v) : Calls Try.prog 4 #[v] w (DLPost w) := by
  go_enter Try.func4, Try.ntmps4
  go_wp2_with fail
  refine (drawLookupNext_any _ _ h).mono ?_
  rintro e w1 ⟨u, xs, x, y, rfl, hu, hb1⟩
  go_wp2
  go_ret3
  exact ⟨_, xs, x, y, rfl, hu, hb1⟩

end Go.Proofs.Ytagpkemlndkcjaa
