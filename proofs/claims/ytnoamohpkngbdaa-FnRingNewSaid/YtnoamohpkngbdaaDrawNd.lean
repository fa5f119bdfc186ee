/-
  Contracts: drawn nodes, seldom invalid ones.
-/
import Derived.Test.YtnoamohpkngbdaaDraw5
import Derived.Test.YtnoamohpkngbdaaDraw8
namespace Go.Proofs.Ytnoamohpkngbdaa
open Go.RowKit

def NodesPost (S : Nat) (w : World) (e : Ending) (w' : World) : Prop := ∃ (u : Value) (xs : List Int), e = .returned u ∧ IntsAt w' u xs ∧ xs.length ≤ 20 ∧ Below S w w'

set_option maxHeartbeats 2000000 in
theorem l91Nodes_any (S p : Nat) (w : World) (h : RdAt w S p) (hp : p ≤ 50000) :
    Calls Try.prog 40 #[.pointer (some ⟨S, 0, none⟩)] w (NodesPost S w) := by
  have hSl := h.lt
  obtain ⟨i0, hi, hz0, hz1, hz2⟩ := info_parts Try.infoInt
  go_enter Try.func40, Try.ntmps40
  go_wp2_with fail
  refine (l91Good_any S p 1 _ h (by omega) (by omega) (by omega)).mono ?_
  rintro e w1 ⟨u1, xs, p1, rfl, hI1, hA, hl1, hl10, hp1, hr1, hg1⟩
  have hz1w := hg1.size
  go_wp2_with fail
  refine (pick_any S p1 20 _ hr1 (by omega) (by omega) (by omega)).mono ?_
  rintro e w2 ⟨c, hc, rfl, hr2, hg2⟩
  have hI2 := hI1.grow hg2
  obtain ⟨g, cap, rfl, gc1, gc2, gS, gl, gcell⟩ := hI2.form
  unfold maxLen at gc2
  have HI2 := Lib.hid hI2
  have hg12 := grow_trans hg1 hg2
  have hb2 : Below S w w2 := below_grow hg12 (Nat.le_refl _) (by omega)
  have hz2w := hg12.size
  clear hI1 hI2 hA
  rcases (show c = 0 ∨ c = 1 ∨ c = 2 ∨ 3 ≤ c by omega) with rfl | rfl | rfl | hc3
  · clear gcell
    go_wp2_with (first | (have _ := hr3; go_at_call 67; refine (l91Point_any S (p1 + 1 + 1) _ hr3 (by omega)).mono ?_; rintro e w4 ⟨x4, p4, hx41, hx42, hp4, rfl, hr4, hg4⟩; have hI4 := Lib.hid ((HI2.out.grow hg3).grow hg4); have hb4 := hb2.trans (below_grow (grow_trans hg3 hg4) (Nat.le_refl _) (by omega)); obtain ⟨g9, c9, e9, -, -, -, gl4, gc4⟩ := hI4.out.form; cases e9; have gk := gc4 k (by omega); have gfr : ∀ q, w4.frozen? ⟨g, q, none⟩ = false := (by rcases hI4.out.1.2 with ⟨h0, -⟩ | ⟨g', cap', cur, e1, -, hgg, -⟩; cases h0; cases e1; intro q; simp [World.frozen?, hgg])) | (go_at_call 62; refine (pick_any S (p1 + 1) (xs.length : Int) _ hr2 (by omega) (by omega) (by omega)).mono ?_; rintro e w3 ⟨k, hk, rfl, hr3, hg3⟩; have kk0 : (0 : Int) ≤ (k : Int) := (by omega)))
    go_ret
    have hfin := intsAt_own (xs := xs.set k x4) (by rw [List.length_set, List.map_set]; exact ownsRow_set hI4.out.1 k (.int .i64 x4))
    exact ⟨_, xs.set k x4, rfl, hfin, by rw [List.length_set]; omega, hb4.setCell (p := ⟨g, k, none⟩) (by show S ≤ g; omega) _⟩
  · clear gcell
    go_wp2_with (at_builtin; (refine wpList_append_src rfl _ _ 23 rfl (S + 1) 3 i0 (.int .i64 0) 1 8 Try.underlying23 hi hz0 hz1 hz2 rfl (by decide) _ _ _ rfl HI2.out.1 _ _ _ rfl HI2.out.at.src (by unfold maxLen; omega) (by omega) (by omega) ?_); intro v5 w5 hown5 hgrow5 _)
    go_ret
    refine ⟨_, xs ++ xs, rfl, intsAt_own (xs := xs ++ xs) (by rw [List.length_append, List.map_append]; exact hown5), by rw [List.length_append]; omega, hb2.grown hgrow5 (by omega) (fun q hq => by have := (HI2.out.1.lt q hq).1; omega)⟩
  · clear gcell
    go_wp2
    go_ret
    exact ⟨_, [], rfl, ⟨some ⟨g, 0, none⟩, cap, rfl, Nat.zero_le _, by unfold maxLen; omega, .inl ⟨rfl, fun h => by cases h⟩⟩, by simp, hb2⟩
  · have hn0 : ((c : Int) == 0) = false := beq_eq_false_iff_ne.2 (by omega)
    have hn1 : ((c : Int) == 1) = false := beq_eq_false_iff_ne.2 (by omega)
    have hn2 : ((c : Int) == 2) = false := beq_eq_false_iff_ne.2 (by omega)
    clear gcell
    go_wp2
    go_ret
    exact ⟨_, xs, rfl, HI2.out.at, by omega, hb2⟩

theorem drawRingNew_any (v : Value) (w : World) (h : CodeAt w v) : Calls Try.prog 15 #[v] w fun e w' => ∃ (u : Value) (xs : List Int), e = .returned u ∧ IntsAt w' u xs ∧ xs.length ≤ 20 ∧ Below w.heap.size w w' := by
  go_enter Try.func15, Try.ntmps15
  go_wp2_with (first | (go_at_call 41; refine (l6Open_any _ _ h).mono ?_; rintro e w1 ⟨rfl, hr1, hb1⟩) | (go_at_call 40; refine (l91Nodes_any w.heap.size 0 _ hr1 (by omega)).mono ?_; rintro e w2 ⟨u, xs, rfl, hI, hl, hb2⟩; have HB := Lib.hid (hb1.trans hb2)))
  go_ret
  exact ⟨_, xs, rfl, hI, hl, HB.out⟩

end Go.Proofs.Ytnoamohpkngbdaa
