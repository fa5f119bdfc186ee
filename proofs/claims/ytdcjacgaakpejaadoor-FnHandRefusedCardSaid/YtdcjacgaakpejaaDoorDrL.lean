/-
  Contracts: drawn leases.
-/
import Derived.Test.YtdcjacgaakpejaaDoorDrawA
import Derived.Test.YtdcjacgaakpejaaDoorLsP
import Derived.Maps.AppendAt
namespace Go.Proofs.YtdcjacgaakpejaaDoor
open Go.RowKit

/-- What a drawn number says. -/
def NumPost (S p d : Nat) (w : World) (e : Ending) (w' : World) : Prop := ∃ (x : Int) (p' : Nat), -1 ≤ x ∧ x ≤ 1000 ∧ p' ≤ p + d ∧ e = .returned (.int .i64 x) ∧ RdAt w' S p' ∧ w.grownBy w' (some S)

theorem cells4 (w : World) (a b c d : Value) (t : TypeId) (N : Nat) (h : N = w.heap.size) : (w.alloc (.cells #[a, b, c, d] t)).cell? ⟨N, 0, none⟩ = some a ∧ (w.alloc (.cells #[a, b, c, d] t)).cell? ⟨N, 1, none⟩ = some b ∧ (w.alloc (.cells #[a, b, c, d] t)).cell? ⟨N, 2, none⟩ = some c ∧ (w.alloc (.cells #[a, b, c, d] t)).cell? ⟨N, 3, none⟩ = some d := by
  subst h
  exact ⟨by simp, by simp, by simp, by simp⟩

theorem one_of4 {w w1 w2 : World} {o : Obj} {S c : Nat} (hg : (w1.alloc o).grownBy w2 (some S)) (hz : w.heap.size ≤ w1.heap.size) (hS : S < w.heap.size)
    (q0 : (w1.alloc o).cell? ⟨w1.heap.size, 0, none⟩ = some (.int .i64 (-1))) (q1 : (w1.alloc o).cell? ⟨w1.heap.size, 1, none⟩ = some (.int .i64 0))
    (q2 : (w1.alloc o).cell? ⟨w1.heap.size, 2, none⟩ = some (.int .i64 999)) (q3 : (w1.alloc o).cell? ⟨w1.heap.size, 3, none⟩ = some (.int .i64 1000)) (hc : (c : Int) < 4) :
    ∃ x : Int, w2.cell? ⟨w1.heap.size, c, none⟩ = some (.int .i64 x) ∧ -1 ≤ x ∧ x ≤ 1000 := by
  rcases (show c = 0 ∨ c = 1 ∨ c = 2 ∨ c = 3 by omega) with rfl | rfl | rfl | rfl
  · exact ⟨-1, (grow_cell hg (by simp) (by omega)).trans q0, by omega, by omega⟩
  · exact ⟨0, (grow_cell hg (by simp) (by omega)).trans q1, by omega, by omega⟩
  · exact ⟨999, (grow_cell hg (by simp) (by omega)).trans q2, by omega, by omega⟩
  · exact ⟨1000, (grow_cell hg (by simp) (by omega)).trans q3, by omega, by omega⟩

set_option maxHeartbeats 1000000 in
theorem l91Time_any (S p : Nat) (w : World) (h : RdAt w S p) (hp : p ≤ 100000) :
    Calls Tryd.prog 36 #[.pointer (some ⟨S, 0, none⟩)] w (NumPost S p 2 w) := by
  have hS := h.lt
  go_enter Tryd.func36, Tryd.ntmps36
  go_wp2_with fail
  refine (pick_any S p 16 _ h (by omega) (by omega) (by omega)).mono ?_
  rintro e w1 ⟨c1, hc1, rfl, hr1, hg1⟩
  have hz1 := hg1.size
  rcases Nat.eq_zero_or_pos c1 with rfl | hpos
  · have hbx := (Below.refl w1.heap.size w1).alloc (Nat.le_refl _) (.cells #[.int .i64 (-1), .int .i64 0, .int .i64 999, .int .i64 1000] 3)
    obtain ⟨q0, q1, q2, q3⟩ := cells4 w1 (.int .i64 (-1)) (.int .i64 0) (.int .i64 999) (.int .i64 1000) 3 w1.heap.size rfl
    go_wp2_with (go_at_call 35; refine (pick_any S (p + 1) 4 _ (by exact hr1.below hbx (Nat.le_refl _)) (by omega) (by omega) (by omega)).mono ?_; rintro e w2 ⟨c2, hc2, rfl, hr2, hg2⟩; have hk0 : (0 : Int) ≤ (c2 : Int) := (by omega); obtain ⟨x, hx0, hx1, hx2⟩ := one_of4 hg2 hz1 hS q0 q1 q2 q3 hc2)
    have hgf := grow_trans hg1 (grow_trans (grow_below hbx (Nat.le_refl _)) hg2)
    go_ret
    exact ⟨x, _, hx1, hx2, by omega, rfl, hr2, hgf⟩
  · have hne : ((c1 : Int) == 0) = false := by rw [beq_eq_false_iff_ne]; omega
    go_wp2_with (go_at_call 35; refine (pick_any S (p + 1) 60 _ hr1 (by omega) (by omega) (by omega)).mono ?_; rintro e w2 ⟨c2, hc2, rfl, hr2, hg2⟩)
    go_ret
    exact ⟨_, _, by omega, by omega, by omega, rfl, hr2, grow_trans hg1 hg2⟩

/-- A row of leases of the call's own, never nil. -/
def LsOwn (w : World) (B : Nat) (v : Value) (xs : List Tr) : Prop := TrsOwn w B 35 v xs ∧ v ≠ .slice none 0 0
theorem LsOwn.grow {w w' : World} {S B : Nat} {v : Value} {xs : List Tr} (h : LsOwn w B v xs) (hg : w.grownBy w' (some S)) (hB : S < B) : LsOwn w' B v xs :=
  ⟨h.1.keeps ⟨hg.size, fun q hq hl => hg.block q hl (fun e => by cases e; omega)⟩, h.2⟩
theorem grow_then {w a b : World} {S g : Nat} (h : w.grownBy a (some S)) (h' : a.grownBy b (some g)) (hg : w.heap.size ≤ g) : w.grownBy b (some S) :=
  ⟨h'.os.trans h.os, h'.tape.trans h.tape, h'.output.trans h.output, Nat.le_trans h.size h'.size, fun k hk hn => (h'.block k (Nat.lt_of_lt_of_le hk h.size) (fun e => by cases e; omega)).trans (h.block k hk hn)⟩
theorem RdAt.grown {w w' : World} {S p g : Nat} (h : RdAt w S p) (hg : w.grownBy w' (some g)) (hS : S < g) : RdAt w' S p := by
  obtain ⟨pb, n, cap, h1, h2, h3, h4, h5, h6, h7, h8⟩ := h
  have hbl : ∀ k, k ≤ S → w'.heap[k]? = w.heap[k]? := fun k hk => hg.block k (by omega) (fun e => by cases e; omega)
  have hc : ∀ k j, k ≤ S → w'.cell? ⟨k, j, none⟩ = w.cell? ⟨k, j, none⟩ := fun k j hk => by simp [World.cell?, hbl k hk]
  refine ⟨pb, n, cap, (hc S 0 (Nat.le_refl _)).trans h1, (hc S 1 (Nat.le_refl _)).trans h2, fun j => ?_, h4, h5, h6, Nat.lt_of_lt_of_le h7 hg.size, ?_⟩
  · have := h3 j
    simp [World.frozen?, hbl S (Nat.le_refl _)] at this ⊢
    exact this
  · rcases h8 with h8 | ⟨b, o, rfl, hlt, hx⟩
    · exact .inl h8
    · refine .inr ⟨b, o, rfl, hlt, fun i hi => ?_⟩
      obtain ⟨x, hx1, hx2⟩ := hx i hi
      exact ⟨x, hx1, (hc b _ (by omega)).trans hx2⟩
theorem src_tri (w : World) (x y z : Int) (t : TypeId) : SrcIs (w.alloc (.cells #[.int .i64 x, .int .i64 y, .int .i64 z] t)) 3 (.slice (some ⟨w.heap.size, 0, none⟩) 1 1) 1 (flatT [⟨x, y, z⟩]) := by
  obtain ⟨h1, h2, h3⟩ := tri_news (tri_new w (.int .i64 x) (.int .i64 y) (.int .i64 z) t)
  exact ⟨h1, h3, .inr ⟨⟨w.heap.size, 0, none⟩, 1, rfl, h2⟩⟩
theorem LsOwn.snoc {w : World} {B : Nat} {v v' : Value} {xs : List Tr} {x : Tr} (h : w.ownsRow B 35 3 v' (xs.length + 1) (flatT xs ++ flatT [x])) (hn : v' = .slice none 0 0 ↔ v = .slice none 0 0 ∧ 1 = 0) : LsOwn w B v' (xs ++ [x]) := by
  refine ⟨?_, fun e => by have := hn.1 e; omega⟩
  unfold TrsOwn
  rw [flatT_append, List.length_append]
  exact h
theorem LsOwn.below {w w' : World} {B C : Nat} {v : Value} {xs : List Tr} (h : LsOwn w B v xs) (hb : Below C w w') (hC : w.heap.size ≤ C) : LsOwn w' B v xs := ⟨h.1.below hb hC, h.2⟩
theorem LsOwn.form {w : World} {B : Nat} {v : Value} {xs : List Tr} (h : LsOwn w B v xs) : ∃ g cap, v = .slice (some ⟨g, 0, none⟩) xs.length cap ∧ xs.length ≤ cap ∧ cap ≤ maxLen ∧ B ≤ g ∧ g < w.heap.size := own_form h.1 h.2
theorem TrsOwn.setA {w : World} {B g cap : Nat} {T : TypeId} {xs : List Tr} (h : TrsOwn w B T (.slice (some ⟨g, 0, none⟩) xs.length cap) xs) {k : Nat} (hk : k < xs.length) (x : Int) :
    TrsOwn (w.setCell ⟨g, k * 3, none⟩ (.int .i64 x)) B T (.slice (some ⟨g, 0, none⟩) xs.length cap) (xs.set k ⟨x, (xs.getD k default).b, (xs.getD k default).c⟩) := by
  obtain ⟨f1, f2, f3⟩ := flatT_get xs k hk
  unfold TrsOwn
  rw [List.length_set, flatT_set xs k _ hk]
  have e1 : ((flatT xs).set (k * 3) (Value.int .i64 x)).set (k * 3 + 1) (.int .i64 (xs.getD k default).b) = (flatT xs).set (k * 3) (Value.int .i64 x) :=
    List.set_eq_of_getElem? (by rw [List.getElem?_set_ne (by omega)]; exact f2)
  rw [e1]
  have e2 : ((flatT xs).set (k * 3) (Value.int .i64 x)).set (k * 3 + 2) (.int .i64 (xs.getD k default).c) = (flatT xs).set (k * 3) (Value.int .i64 x) :=
    List.set_eq_of_getElem? (by rw [List.getElem?_set_ne (by omega)]; exact f3)
  rw [e2]
  exact ownsRow_set h (k * 3) (.int .i64 x)
theorem TrsOwn.setB {w : World} {B g cap : Nat} {T : TypeId} {xs : List Tr} (h : TrsOwn w B T (.slice (some ⟨g, 0, none⟩) xs.length cap) xs) {k : Nat} (hk : k < xs.length) (x : Int) :
    TrsOwn (w.setCell ⟨g, k * 3 + 1, none⟩ (.int .i64 x)) B T (.slice (some ⟨g, 0, none⟩) xs.length cap) (xs.set k ⟨(xs.getD k default).a, x, (xs.getD k default).c⟩) := by
  obtain ⟨f1, f2, f3⟩ := flatT_get xs k hk
  unfold TrsOwn
  rw [List.length_set, flatT_set xs k _ hk]
  have e1 : (flatT xs).set (k * 3) (Value.int .i64 (xs.getD k default).a) = flatT xs := List.set_eq_of_getElem? f1
  have e2 : ((flatT xs).set (k * 3 + 1) (Value.int .i64 x)).set (k * 3 + 2) (.int .i64 (xs.getD k default).c) = (flatT xs).set (k * 3 + 1) (Value.int .i64 x) :=
    List.set_eq_of_getElem? (by rw [List.getElem?_set_ne (by omega)]; exact f3)
  rw [e1, e2]
  exact ownsRow_set h (k * 3 + 1) (.int .i64 x)
theorem TrsOwn.setC {w : World} {B g cap : Nat} {T : TypeId} {xs : List Tr} (h : TrsOwn w B T (.slice (some ⟨g, 0, none⟩) xs.length cap) xs) {k : Nat} (hk : k < xs.length) (x : Int) :
    TrsOwn (w.setCell ⟨g, k * 3 + 2, none⟩ (.int .i64 x)) B T (.slice (some ⟨g, 0, none⟩) xs.length cap) (xs.set k ⟨(xs.getD k default).a, (xs.getD k default).b, x⟩) := by
  obtain ⟨f1, f2, f3⟩ := flatT_get xs k hk
  unfold TrsOwn
  rw [List.length_set, flatT_set xs k _ hk]
  have e1 : (flatT xs).set (k * 3) (Value.int .i64 (xs.getD k default).a) = flatT xs := List.set_eq_of_getElem? f1
  have e2 : (flatT xs).set (k * 3 + 1) (Value.int .i64 (xs.getD k default).b) = flatT xs := List.set_eq_of_getElem? f2
  rw [e1, e2]
  exact ownsRow_set h (k * 3 + 2) (.int .i64 x)
theorem TrsAt.front {w : World} {g cap j : Nat} {xs : List Tr} (h : TrsAt w (.slice (some ⟨g, 0, none⟩) xs.length cap) xs) (hj : j ≤ xs.length) : TrsAt w (.slice (some ⟨g, 0, none⟩) j cap) (xs.take j) := by
  obtain ⟨p, c, e, h1, h2, h3⟩ := h
  cases e
  have hl : (xs.take j).length = j := by simp; omega
  refine ⟨_, cap, by rw [hl], by omega, h2, ?_⟩
  rcases h3 with ⟨rfl, -⟩ | ⟨b, o, e, hlt, hc⟩
  · exact .inl ⟨by simp, fun h => by cases h⟩
  · refine .inr ⟨b, o, e, hlt, fun i hi => ?_⟩
    have h4 := hc i (by omega)
    have e2 : (xs.take j).getD i default = xs.getD i default := by simp [show i < j by omega]
    rw [e2]; exact h4
/-- What is read for as long as the reader alone goes on. -/
def Lasts (S : Nat) (w : World) (v : Value) (xs : List Tr) : Prop := ∀ w', w.grownBy w' (some S) → TrsAt w' v xs
theorem Lasts.at {S : Nat} {w : World} {v : Value} {xs : List Tr} (h : Lasts S w v xs) : TrsAt w v xs := h w (grow_refl w S)
theorem Lasts.grow {S : Nat} {w w' : World} {v : Value} {xs : List Tr} (h : Lasts S w v xs) (hg : w.grownBy w' (some S)) : Lasts S w' v xs := fun w'' hg' => h w'' (grow_trans hg hg')
theorem lasts_own {S B : Nat} {w : World} {T : TypeId} {v : Value} {xs : List Tr} (h : TrsOwn w B T v xs) (hB : S < B) : Lasts S w v xs :=
  fun _ hg => (h.keeps ⟨hg.size, fun q hq hl => hg.block q hl (fun e => by cases e; omega)⟩).at
theorem lasts_front {S B g cap j : Nat} {w : World} {T : TypeId} {xs : List Tr} (h : TrsOwn w B T (.slice (some ⟨g, 0, none⟩) xs.length cap) xs) (hB : S < B) (hj : j ≤ xs.length) : Lasts S w (.slice (some ⟨g, 0, none⟩) j cap) (xs.take j) :=
  fun w' hg => (lasts_own h hB w' hg).front hj
def LsPost (S : Nat) (w : World) (e : Ending) (w' : World) : Prop := ∃ (u : Value) (xs : List Tr) (p' : Nat), e = .returned u ∧ Lasts S w' u xs ∧ xs.length ≤ 12 ∧ p' ≤ 1000 ∧ RdAt w' S p' ∧ w.grownBy w' (some S)

set_option maxRecDepth 100000 in
set_option maxHeartbeats 4000000 in
theorem l91Leases_any (S : Nat) (w : World) (h : RdAt w S 0) :
    Calls Tryd.prog 33 #[.pointer (some ⟨S, 0, none⟩)] w (LsPost S w) := by
  have hS := h.lt
  obtain ⟨i0, hi, hz0, hz1, hz2⟩ := info_parts Tryd.infoLease
  have hb0 := (Below.refl w.heap.size w).alloc (Nat.le_refl _) (.cells #[] 35)
  have hO0 : LsOwn (w.alloc (.cells #[] 35)) w.heap.size (.slice (some ⟨w.heap.size, 0, none⟩) 0 0) [] := ⟨made_tr w w.heap.size _ (Nat.le_refl _), by simp⟩
  have HO0 := Lib.hid hO0
  clear hO0
  go_enter Tryd.func33, Tryd.ntmps33
  go_wp2_with fail
  refine (pick_any S 0 9 _ (by exact h.below hb0 (Nat.le_refl _)) (by omega) (by omega) (by omega)).mono ?_
  rintro e w1 ⟨c1, hc1, rfl, hr1, hg1⟩
  go_wp2_with fail
  refine (pick_any S 1 6 _ hr1 (by omega) (by omega) (by omega)).mono ?_
  rintro e w2 ⟨c2, hc2, rfl, hr2, hg2⟩
  have hgA := grow_trans (grow_trans (grow_below hb0 (Nat.le_refl _)) hg1) hg2
  have HO2 := Lib.hid ((HO0.out.grow hg1 hS).grow hg2 hS)
  clear HO0
  rcases Nat.eq_zero_or_pos c2 with rfl | hpos
  · go_wp2_with (go_at_call 35; refine (pick_any S 2 2 _ hr2 (by omega) (by omega) (by omega)).mono ?_; rintro e w3 ⟨c3, hc3, rfl, hr3, hg3⟩)
    obtain ⟨n, hn⟩ : ∃ n, 11 + c3 = n := ⟨_, rfl⟩
    have hcast : (11 : Int) + (c3 : Int) = (n : Int) := by omega
    have HO3 := Lib.hid (HO2.out.grow hg3 hS)
    have hgB := Lib.hid (grow_trans hgA hg3)
    rw [hcast]
    have hn1 : 1 ≤ n := by omega
    have hn12 : n ≤ 12 := by omega
    clear hcast hn hc3 HO2 hgA hg1 hg2 hg3 hr1 hr2 hc1
    have hdv : (64 : Int).tdiv (n : Int) = ((64 / n : Nat) : Int) := rfl
    have hd1 : 1 ≤ 64 / n := (Nat.le_div_iff_mul_le (by omega)).2 (by omega)
    have hd2 : 64 / n ≤ 64 := Nat.div_le_self _ _
    have hnz : ((n : Int) == 0) = false := by rw [beq_eq_false_iff_ne]; omega
    obtain ⟨d, hd⟩ : ∃ d, 64 / n = d := ⟨_, rfl⟩
    rw [hd] at hdv hd1 hd2
    clear hd
    go_loopg [3, 5, 6] n (fun m s3 s5 s6 wr => ∃ (xs : List Tr) (pp : Nat) (en : Int), m = n - xs.length ∧ xs.length ≤ n ∧ s6 = .int .i64 xs.length ∧ s5 = .int .i64 en ∧ -1 ≤ en ∧ en ≤ 64 * xs.length ∧ Hid (LsOwn wr w.heap.size s3 xs) ∧ RdAt wr S pp ∧ pp ≤ 3 + 3 * xs.length ∧ Hid (w.grownBy wr (some S)))
    case atStart => exact ⟨[], 3, -1, by simp, Nat.zero_le _, rfl, rfl, by omega, by simp, HO3, hr3, by simp, hgB⟩
    case round =>
      obtain ⟨xs, pp, en, rfl, hxn, rfl, rfl, he1, he2, HO, hr, hpp, HG⟩ := hrel
      obtain ⟨g, cap, rfl, gc1, gc2, gS, gl⟩ := HO.out.form
      unfold maxLen at gc2
      by_cases hlt : xs.length < n
      · have hlt' : (xs.length : Int) < (n : Int) := by omega
        have hwz := hr.lt
        have hzr := HG.out.size
        go_wp2_with (first | (at_builtin; have hs4 := hg4.size; have hs5 := hg5.size; have hs6 := hg6.size; refine wpList_append_src rfl (.tmp 30) (.tmp 40) 24 rfl w.heap.size 35 i0 (.agg #[.int .i64 0, .int .i64 0, .int .i64 0]) 3 24 Tryd.underlying24 hi hz0 hz1 hz2 rfl (by decide) _ _ _ rfl (((((HO.out.grow hg4 hS).grow hg5 hS).grow hg6 hS).below ((Below.refl w6.heap.size w6).alloc (Nat.le_refl _) _) (Nat.le_refl _)).1) _ _ _ rfl (src_tri w6 _ _ _ _) (by unfold maxLen; omega) (by omega) (by simp; omega) ?_; intro v7 w7 hown7 hgrow7 hnil7) | (go_at_call_of 35 (Value.int IntKind.i64 6); refine (pick_any S (pp + 1 + 1) 6 _ hr5 (by omega) (by omega) (by omega)).mono ?_; rintro e w6 ⟨q6, hq6, rfl, hr6, hg6⟩) | (go_at_call_of 35 (Value.int IntKind.i64 5); refine (pick_any S (pp + 1) 5 _ hr4 (by omega) (by omega) (by omega)).mono ?_; rintro e w5 ⟨q5, hq5, rfl, hr5, hg5⟩) | (go_at_call 35; refine (pick_any S pp (d : Int) _ hr (by omega) (by omega) (by omega)).mono ?_; rintro e w4 ⟨q4, hq4, rfl, hr4, hg4⟩))
        go_roundg (n - (xs.length + 1))
        case rel => exact ⟨xs ++ [⟨min (en + 1 + q4) 63, 10 * q5, 10 * q6⟩], pp + 1 + 1 + 1, en + 1 + q4, by simp, by simp; omega, by simp, rfl, by omega, by simp; omega, Lib.hid (LsOwn.snoc hown7 hnil7), (hr6.below ((Below.refl w6.heap.size w6).alloc (Nat.le_refl _) _) (Nat.le_refl _)).grown (g := g) hgrow7 (by omega), by simp; omega, Lib.hid (grow_then (grow_trans (grow_trans (grow_trans (grow_trans HG.out hg4) hg5) hg6) (grow_below ((Below.refl w6.heap.size w6).alloc (Nat.le_refl _) _) (Nat.le_refl _))) hgrow7 gS)⟩
        case measure => omega
      · obtain rfl : n = xs.length := by omega
        go_wp2_with fail
        refine (pick_any S pp (xs.length : Int) _ hr (by omega) (by omega) (by omega)).mono ?_
        rintro e w8 ⟨k, hk, rfl, hr8, hg8⟩
        go_wp2_with fail
        refine (pick_any S (pp + 1) 20 _ hr8 (by omega) (by omega) (by omega)).mono ?_
        rintro e w9 ⟨c, hc, rfl, hr9, hg9⟩
        have HO9 := Lib.hid ((HO.out.grow hg8 hS).grow hg9 hS)
        have HG9 := Lib.hid (grow_trans (grow_trans HG.out hg8) hg9)
        have hs8 := hg8.size
        have hs9 := hg9.size
        have gSS : S < g := by omega
        have hk0 : (0 : Int) ≤ (k : Int) := by omega
        have hkn : k < xs.length := by omega
        clear HO HG hg8 hg9 hr hr8
        rcases (show c = 0 ∨ c = 1 ∨ c = 2 ∨ c = 3 ∨ 4 ≤ c by omega) with rfl | rfl | rfl | rfl | hc4
        · go_wp2_with (go_at_call 34; refine (l91Point_any S (pp + 1 + 1) _ hr9 (by omega)).mono ?_; rintro e w10 ⟨x, p', hx1, hx2, hp1, rfl, hr10, hg10⟩; have HO10 := Lib.hid (HO9.out.grow hg10 hS); obtain ⟨r0, r1, r2, r3, -, -⟩ := HO10.out.1.cells (k := k) hkn; have hs10 := hg10.size)
          go_ret
          refine ⟨_, _, p', rfl, lasts_own (TrsOwn.setA HO10.out.1 hkn x) hS, by rw [List.length_set]; omega, by omega, hr10.grown (g := g) (grow_set w10 g (k * 3) _) gSS, grow_then (grow_trans HG9.out hg10) (grow_set w10 g (k * 3) _) gS⟩
        · go_wp2_with (go_at_call 34; refine (l91Point_any S (pp + 1 + 1) _ hr9 (by omega)).mono ?_; rintro e w10 ⟨x, p', hx1, hx2, hp1, rfl, hr10, hg10⟩; have HO10 := Lib.hid (HO9.out.grow hg10 hS); obtain ⟨r0, r1, r2, r3, -, -⟩ := HO10.out.1.cells (k := k) hkn; have hs10 := hg10.size)
          go_ret
          refine ⟨_, _, p', rfl, lasts_own (TrsOwn.setB HO10.out.1 hkn x) hS, by rw [List.length_set]; omega, by omega, hr10.grown (g := g) (grow_set w10 g (k * 3 + 1) _) gSS, grow_then (grow_trans HG9.out hg10) (grow_set w10 g (k * 3 + 1) _) gS⟩
        · go_wp2_with (go_at_call 36; refine (l91Time_any S (pp + 1 + 1) _ hr9 (by omega)).mono ?_; rintro e w10 ⟨x, p', hx1, hx2, hp1, rfl, hr10, hg10⟩; have HO10 := Lib.hid (HO9.out.grow hg10 hS); obtain ⟨r0, r1, r2, r3, -, -⟩ := HO10.out.1.cells (k := k) hkn; have hs10 := hg10.size)
          go_ret
          refine ⟨_, _, p', rfl, lasts_own (TrsOwn.setC HO10.out.1 hkn x) hS, by rw [List.length_set]; omega, by omega, hr10.grown (g := g) (grow_set w10 g (k * 3 + 2) _) gSS, grow_then (grow_trans HG9.out hg10) (grow_set w10 g (k * 3 + 2) _) gS⟩
        · go_wp2_with (go_at_call 35; refine (pick_any S (pp + 1 + 1) 2 _ hr9 (by omega) (by omega) (by omega)).mono ?_; rintro e w10 ⟨j, hj, rfl, hr10, hg10⟩; have hj0 : (0 : Int) ≤ (j : Int) := (by omega); have hjc : (j : Int) ≤ (cap : Int) := (by omega))
          go_ret
          exact ⟨_, _, _, rfl, lasts_front (j := j) (HO9.out.grow hg10 hS).1 hS (by omega), by simp; omega, by omega, hr10, grow_trans HG9.out hg10⟩
        · have e0 : ((c : Int) == 0) = false := beq_eq_false_iff_ne.2 (by omega)
          have e1 : ((c : Int) == 1) = false := beq_eq_false_iff_ne.2 (by omega)
          have e2 : ((c : Int) == 2) = false := beq_eq_false_iff_ne.2 (by omega)
          have e3 : ((c : Int) == 3) = false := beq_eq_false_iff_ne.2 (by omega)
          go_wp2
          go_ret
          exact ⟨_, _, _, rfl, lasts_own HO9.out.1 hS, by omega, by omega, hr9, HG9.out⟩
  · have hne : ((c2 : Int) == 0) = false := by rw [beq_eq_false_iff_ne]; omega
    go_wp2
    obtain ⟨n, hn⟩ : ∃ n, 1 + c1 = n := ⟨_, rfl⟩
    have hcast : (1 : Int) + (c1 : Int) = (n : Int) := by omega
    have hgB := Lib.hid hgA
    rw [hcast]
    have hn1 : 1 ≤ n := by omega
    have hn12 : n ≤ 12 := by omega
    clear hcast hn hgA hg1 hg2 hr1 hc1 hne hc2 hpos
    have hdv : (64 : Int).tdiv (n : Int) = ((64 / n : Nat) : Int) := rfl
    have hd1 : 1 ≤ 64 / n := (Nat.le_div_iff_mul_le (by omega)).2 (by omega)
    have hd2 : 64 / n ≤ 64 := Nat.div_le_self _ _
    have hnz : ((n : Int) == 0) = false := by rw [beq_eq_false_iff_ne]; omega
    obtain ⟨d, hd⟩ : ∃ d, 64 / n = d := ⟨_, rfl⟩
    rw [hd] at hdv hd1 hd2
    clear hd
    go_loopg [3, 5, 6] n (fun m s3 s5 s6 wr => ∃ (xs : List Tr) (pp : Nat) (en : Int), m = n - xs.length ∧ xs.length ≤ n ∧ s6 = .int .i64 xs.length ∧ s5 = .int .i64 en ∧ -1 ≤ en ∧ en ≤ 64 * xs.length ∧ Hid (LsOwn wr w.heap.size s3 xs) ∧ RdAt wr S pp ∧ pp ≤ 3 + 3 * xs.length ∧ Hid (w.grownBy wr (some S)))
    case atStart => exact ⟨[], 2, -1, by simp, Nat.zero_le _, rfl, rfl, by omega, by simp, HO2, hr2, by simp, hgB⟩
    case round =>
      obtain ⟨xs, pp, en, rfl, hxn, rfl, rfl, he1, he2, HO, hr, hpp, HG⟩ := hrel
      obtain ⟨g, cap, rfl, gc1, gc2, gS, gl⟩ := HO.out.form
      unfold maxLen at gc2
      by_cases hlt : xs.length < n
      · have hlt' : (xs.length : Int) < (n : Int) := by omega
        have hwz := hr.lt
        have hzr := HG.out.size
        go_wp2_with (first | (at_builtin; have hs4 := hg4.size; have hs5 := hg5.size; have hs6 := hg6.size; refine wpList_append_src rfl (.tmp 30) (.tmp 40) 24 rfl w.heap.size 35 i0 (.agg #[.int .i64 0, .int .i64 0, .int .i64 0]) 3 24 Tryd.underlying24 hi hz0 hz1 hz2 rfl (by decide) _ _ _ rfl (((((HO.out.grow hg4 hS).grow hg5 hS).grow hg6 hS).below ((Below.refl w6.heap.size w6).alloc (Nat.le_refl _) _) (Nat.le_refl _)).1) _ _ _ rfl (src_tri w6 _ _ _ _) (by unfold maxLen; omega) (by omega) (by simp; omega) ?_; intro v7 w7 hown7 hgrow7 hnil7) | (go_at_call_of 35 (Value.int IntKind.i64 6); refine (pick_any S (pp + 1 + 1) 6 _ hr5 (by omega) (by omega) (by omega)).mono ?_; rintro e w6 ⟨q6, hq6, rfl, hr6, hg6⟩) | (go_at_call_of 35 (Value.int IntKind.i64 5); refine (pick_any S (pp + 1) 5 _ hr4 (by omega) (by omega) (by omega)).mono ?_; rintro e w5 ⟨q5, hq5, rfl, hr5, hg5⟩) | (go_at_call 35; refine (pick_any S pp (d : Int) _ hr (by omega) (by omega) (by omega)).mono ?_; rintro e w4 ⟨q4, hq4, rfl, hr4, hg4⟩))
        go_roundg (n - (xs.length + 1))
        case rel => exact ⟨xs ++ [⟨min (en + 1 + q4) 63, 10 * q5, 10 * q6⟩], pp + 1 + 1 + 1, en + 1 + q4, by simp, by simp; omega, by simp, rfl, by omega, by simp; omega, Lib.hid (LsOwn.snoc hown7 hnil7), (hr6.below ((Below.refl w6.heap.size w6).alloc (Nat.le_refl _) _) (Nat.le_refl _)).grown (g := g) hgrow7 (by omega), by simp; omega, Lib.hid (grow_then (grow_trans (grow_trans (grow_trans (grow_trans HG.out hg4) hg5) hg6) (grow_below ((Below.refl w6.heap.size w6).alloc (Nat.le_refl _) _) (Nat.le_refl _))) hgrow7 gS)⟩
        case measure => omega
      · obtain rfl : n = xs.length := by omega
        go_wp2_with fail
        refine (pick_any S pp (xs.length : Int) _ hr (by omega) (by omega) (by omega)).mono ?_
        rintro e w8 ⟨k, hk, rfl, hr8, hg8⟩
        go_wp2_with fail
        refine (pick_any S (pp + 1) 20 _ hr8 (by omega) (by omega) (by omega)).mono ?_
        rintro e w9 ⟨c, hc, rfl, hr9, hg9⟩
        have HO9 := Lib.hid ((HO.out.grow hg8 hS).grow hg9 hS)
        have HG9 := Lib.hid (grow_trans (grow_trans HG.out hg8) hg9)
        have hs8 := hg8.size
        have hs9 := hg9.size
        have gSS : S < g := by omega
        have hk0 : (0 : Int) ≤ (k : Int) := by omega
        have hkn : k < xs.length := by omega
        clear HO HG hg8 hg9 hr hr8
        rcases (show c = 0 ∨ c = 1 ∨ c = 2 ∨ c = 3 ∨ 4 ≤ c by omega) with rfl | rfl | rfl | rfl | hc4
        · go_wp2_with (go_at_call 34; refine (l91Point_any S (pp + 1 + 1) _ hr9 (by omega)).mono ?_; rintro e w10 ⟨x, p', hx1, hx2, hp1, rfl, hr10, hg10⟩; have HO10 := Lib.hid (HO9.out.grow hg10 hS); obtain ⟨r0, r1, r2, r3, -, -⟩ := HO10.out.1.cells (k := k) hkn; have hs10 := hg10.size)
          go_ret
          refine ⟨_, _, p', rfl, lasts_own (TrsOwn.setA HO10.out.1 hkn x) hS, by rw [List.length_set]; omega, by omega, hr10.grown (g := g) (grow_set w10 g (k * 3) _) gSS, grow_then (grow_trans HG9.out hg10) (grow_set w10 g (k * 3) _) gS⟩
        · go_wp2_with (go_at_call 34; refine (l91Point_any S (pp + 1 + 1) _ hr9 (by omega)).mono ?_; rintro e w10 ⟨x, p', hx1, hx2, hp1, rfl, hr10, hg10⟩; have HO10 := Lib.hid (HO9.out.grow hg10 hS); obtain ⟨r0, r1, r2, r3, -, -⟩ := HO10.out.1.cells (k := k) hkn; have hs10 := hg10.size)
          go_ret
          refine ⟨_, _, p', rfl, lasts_own (TrsOwn.setB HO10.out.1 hkn x) hS, by rw [List.length_set]; omega, by omega, hr10.grown (g := g) (grow_set w10 g (k * 3 + 1) _) gSS, grow_then (grow_trans HG9.out hg10) (grow_set w10 g (k * 3 + 1) _) gS⟩
        · go_wp2_with (go_at_call 36; refine (l91Time_any S (pp + 1 + 1) _ hr9 (by omega)).mono ?_; rintro e w10 ⟨x, p', hx1, hx2, hp1, rfl, hr10, hg10⟩; have HO10 := Lib.hid (HO9.out.grow hg10 hS); obtain ⟨r0, r1, r2, r3, -, -⟩ := HO10.out.1.cells (k := k) hkn; have hs10 := hg10.size)
          go_ret
          refine ⟨_, _, p', rfl, lasts_own (TrsOwn.setC HO10.out.1 hkn x) hS, by rw [List.length_set]; omega, by omega, hr10.grown (g := g) (grow_set w10 g (k * 3 + 2) _) gSS, grow_then (grow_trans HG9.out hg10) (grow_set w10 g (k * 3 + 2) _) gS⟩
        · go_wp2_with (go_at_call 35; refine (pick_any S (pp + 1 + 1) 2 _ hr9 (by omega) (by omega) (by omega)).mono ?_; rintro e w10 ⟨j, hj, rfl, hr10, hg10⟩; have hj0 : (0 : Int) ≤ (j : Int) := (by omega); have hjc : (j : Int) ≤ (cap : Int) := (by omega))
          go_ret
          exact ⟨_, _, _, rfl, lasts_front (j := j) (HO9.out.grow hg10 hS).1 hS (by omega), by simp; omega, by omega, hr10, grow_trans HG9.out hg10⟩
        · have e0 : ((c : Int) == 0) = false := beq_eq_false_iff_ne.2 (by omega)
          have e1 : ((c : Int) == 1) = false := beq_eq_false_iff_ne.2 (by omega)
          have e2 : ((c : Int) == 2) = false := beq_eq_false_iff_ne.2 (by omega)
          have e3 : ((c : Int) == 3) = false := beq_eq_false_iff_ne.2 (by omega)
          go_wp2
          go_ret
          exact ⟨_, _, _, rfl, lasts_own HO9.out.1 hS, by omega, by omega, hr9, HG9.out⟩

end Go.Proofs.YtdcjacgaakpejaaDoor
