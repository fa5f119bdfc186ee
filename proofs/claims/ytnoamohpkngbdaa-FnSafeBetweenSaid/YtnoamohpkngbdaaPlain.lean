/-
  Plain definitions: positions, nodes, rings. No program in sight.
-/
import Derived.WalkKit
namespace Go.Proofs.Ytnoamohpkngbdaa
open Go.RowKit

/-- A position. -/
def okP (x : Int) : Bool := decide (0 ≤ x) && decide (x < 64)
/-- A number in a range. -/
def inR (n lo hi : Int) : Bool := decide (lo ≤ n) && decide (n ≤ hi)
/-- Strictly between, going upward; everything but a is between a and a. -/
def btw (a x b : Int) : Bool := if a < b then decide (a < x) && decide (x < b) else decide (a < x) || decide (x < b)
def cbtw (a x b : Int) : Bool := okP a && okP x && okP b && btw a x b
def dist (a b : Int) : Int := (b - a + 64) % 64

structure Nd where
  id : Int
  before : Int
  after : List Int

instance : Inhabited Nd := ⟨⟨0, 0, []⟩⟩
instance : DecidableEq Nd := fun a b => decidable_of_iff (a.id = b.id ∧ a.before = b.before ∧ a.after = b.after) (by cases a; cases b; simp)

/-- All numbers below n. -/
def allBelow (p : Nat → Bool) : Nat → Bool
  | 0 => true
  | n + 1 => allBelow p n && p n

theorem allBelow_of {p : Nat → Bool} : ∀ {n : Nat}, allBelow p n = true ↔ ∀ i, i < n → p i = true
  | 0 => by simp [allBelow]
  | n + 1 => by
    simp only [allBelow, Bool.and_eq_true, allBelow_of (n := n)]
    constructor
    · rintro ⟨h1, h2⟩ i hi
      by_cases h : i < n
      · exact h1 i h
      · have : i = n := by omega
        subst this
        exact h2
    · intro h
      exact ⟨fun i hi => h i (by omega), h n (by omega)⟩
theorem allBelow_false {p : Nat → Bool} {n k : Nat} (hk : k < n) (h : p k = false) : allBelow p n = false := by
  cases hh : allBelow p n with
  | false => rfl
  | true => rw [allBelow_of.1 hh k hk] at h; cases h
theorem allBelow_succ {p : Nat → Bool} {k : Nat} (h1 : allBelow p k = true) (h2 : p k = true) : allBelow p (k + 1) = true := by simp [allBelow, h1, h2]

def posAll (xs : List Int) : Bool := allBelow (fun i => okP (xs.getD i 0)) xs.length

/-- Node number k of a ring is in order. -/
def rvHead (r : List Nd) (k : Nat) : Bool :=
  okP (r.getD k default).id && (decide (k = 0) || decide ((r.getD (k - 1) default).id < (r.getD k default).id)) &&
  (decide ((r.getD k default).before = -1) || okP (r.getD k default).before) && decide ((r.getD k default).after.length = 2)
def rvAt (r : List Nd) (k : Nat) : Bool := rvHead r k && posAll (r.getD k default).after
def ringValid (r : List Nd) : Bool := decide (r.length ≤ 10) && allBelow (rvAt r) r.length

/-- The place of the first node with a position, from k on; -1 if there is none. -/
def fndFrom (id : Int) : List Nd → Nat → Int
  | [], _ => -1
  | n :: r, k => if n.id = id then (k : Int) else fndFrom id r (k + 1)
def fnd (r : List Nd) (id : Int) : Int := fndFrom id r 0
def live (r : List Nd) (id : Int) : Bool := r.any fun n => decide (n.id = id)

theorem fndFrom_hit (id : Int) : ∀ (r : List Nd) (s k : Nat), k < r.length → (r.getD k default).id = id → (∀ j, j < k → (r.getD j default).id ≠ id) → fndFrom id r s = ((s + k : Nat) : Int)
  | [], _, _, h, _, _ => absurd h (by simp)
  | n :: r, s, 0, _, h1, _ => by simp at h1; simp [fndFrom, h1]
  | n :: r, s, k + 1, h, h1, h2 => by
    have h0 : n.id ≠ id := by simpa using h2 0 (by omega)
    rw [fndFrom, if_neg h0, fndFrom_hit id r (s + 1) k (by simpa using h) (by simpa using h1) (fun j hj => by simpa using h2 (j + 1) (by omega))]
    congr 1
    omega
theorem fndFrom_miss (id : Int) : ∀ (r : List Nd) (s : Nat), (∀ j, j < r.length → (r.getD j default).id ≠ id) → fndFrom id r s = -1
  | [], _, _ => rfl
  | n :: r, s, h => by
    have h0 : n.id ≠ id := by simpa using h 0 (by simp)
    rw [fndFrom, if_neg h0, fndFrom_miss id r (s + 1) (fun j hj => by simpa using h (j + 1) (by simpa using hj))]
theorem fnd_hit {r : List Nd} {id : Int} {k : Nat} (hk : k < r.length) (h1 : (r.getD k default).id = id) (h2 : ∀ j, j < k → (r.getD j default).id ≠ id) : fnd r id = k := by
  unfold fnd; rw [fndFrom_hit id r 0 k hk h1 h2]; simp
theorem fnd_miss {r : List Nd} {id : Int} (h2 : ∀ j, j < r.length → (r.getD j default).id ≠ id) : fnd r id = -1 := fndFrom_miss id r 0 h2
theorem fnd_cases (r : List Nd) (id : Int) : (fnd r id = -1 ∧ ∀ j, j < r.length → (r.getD j default).id ≠ id) ∨ ∃ k, k < r.length ∧ fnd r id = (k : Int) ∧ (r.getD k default).id = id ∧ ∀ j, j < k → (r.getD j default).id ≠ id := by
  by_cases h : ∃ k, k < r.length ∧ (r.getD k default).id = id
  · right
    have hm : ∀ n, (∃ k, k < n ∧ k < r.length ∧ (r.getD k default).id = id) → ∃ k, k < r.length ∧ (r.getD k default).id = id ∧ ∀ j, j < k → (r.getD j default).id ≠ id := by
      intro n
      induction n with
      | zero => rintro ⟨k, h, _⟩; omega
      | succ n ih =>
        rintro ⟨k, h1, h2, h3⟩
        by_cases hn : ∃ k, k < n ∧ k < r.length ∧ (r.getD k default).id = id
        · exact ih hn
        · have hkn : k = n := by
            rcases Nat.lt_or_ge k n with hlt | hge
            · exact absurd ⟨k, hlt, h2, h3⟩ hn
            · omega
          subst hkn
          exact ⟨k, h2, h3, fun j hj e => hn ⟨j, hj, by omega, e⟩⟩
    obtain ⟨k, h1, h2⟩ := h
    obtain ⟨k, h3, h4, h5⟩ := hm (k + 1) ⟨k, by omega, h1, h2⟩
    exact ⟨k, h3, fnd_hit h3 h4 h5, h4, h5⟩
  · left
    have h2 : ∀ j, j < r.length → (r.getD j default).id ≠ id := fun j hj e => h ⟨j, hj, e⟩
    exact ⟨fnd_miss h2, h2⟩

/-- Whether a position lies between a node and its first successor, or between two neighbouring ones. -/
def skipFrom (x : Int) : Int → List Int → Bool
  | _, [] => false
  | a, t :: ts => btw a x t || skipFrom x t ts
def skip (n : Nd) (x : Int) : Bool := skipFrom x n.id n.after
/-- The like, asked by the checked function. -/
def cskipFrom (x : Int) : Int → List Int → Bool
  | _, [] => false
  | a, t :: ts => cbtw a x t || cskipFrom x t ts
def cskip (n : Nd) (x : Int) : Bool := cskipFrom x n.id n.after

def prin (r : List Nd) : List Int := (r.filter fun p => !(r.any fun n => skip n p.id)).map Nd.id
def safeB (r : List Nd) : Bool := (r.all fun n => n.after.any (live r)) && decide (3 ≤ (prin r).length)
def ringSafe (r : List Nd) : Bool := ringValid r && safeB r

theorem drop_cons {xs : List Int} {k : Nat} (h : k < xs.length) : xs.drop k = xs.getD k 0 :: xs.drop (k + 1) := by
  rw [List.drop_eq_getElem_cons h]; simp [h]
theorem skipFrom_drop {xs : List Int} {k : Nat} {x a : Int} (h : k < xs.length) : skipFrom x a (xs.drop k) = (btw a x (xs.getD k 0) || skipFrom x (xs.getD k 0) (xs.drop (k + 1))) := by
  rw [drop_cons h]; rfl
theorem skipFrom_end {xs : List Int} {x a : Int} : skipFrom x a (xs.drop xs.length) = false := by simp [skipFrom]
theorem cskipFrom_drop {xs : List Int} {k : Nat} {x a : Int} (h : k < xs.length) : cskipFrom x a (xs.drop k) = (cbtw a x (xs.getD k 0) || cskipFrom x (xs.getD k 0) (xs.drop (k + 1))) := by
  rw [drop_cons h]; rfl
theorem cskipFrom_end {xs : List Int} {x a : Int} : cskipFrom x a (xs.drop xs.length) = false := by simp [cskipFrom]

/-- Whether one of the first k nodes skips a position. -/
def anyTo (p : Nd → Bool) (r : List Nd) (k : Nat) : Bool := (r.take k).any p
theorem anyTo_zero (p : Nd → Bool) (r : List Nd) : anyTo p r 0 = false := by simp [anyTo]
theorem anyTo_succ {p : Nd → Bool} {r : List Nd} {k : Nat} (h : k < r.length) : anyTo p r (k + 1) = (anyTo p r k || p (r.getD k default)) := by
  unfold anyTo; rw [List.take_succ_eq_append_getElem h, List.any_append]; simp [h]
theorem anyTo_all {p : Nd → Bool} {r : List Nd} : anyTo p r r.length = r.any p := by simp [anyTo]
/-- The principals among the first k nodes. -/
def prinTo (r : List Nd) (k : Nat) : List Int := ((r.take k).filter fun p => !(r.any fun n => skip n p.id)).map Nd.id
theorem prinTo_zero (r : List Nd) : prinTo r 0 = [] := by simp [prinTo]
theorem prinTo_all (r : List Nd) : prinTo r r.length = prin r := by simp [prinTo, prin]
theorem prinTo_yes {r : List Nd} {k : Nat} (h : k < r.length) (hs : (r.any fun n => skip n (r.getD k default).id) = false) : prinTo r (k + 1) = prinTo r k ++ [(r.getD k default).id] := by
  unfold prinTo; rw [List.take_succ_eq_append_getElem h, List.filter_append, List.map_append]
  have e : r.getD k default = r[k] := by simp [h]
  rw [e] at hs ⊢
  simp [hs]
theorem prinTo_no {r : List Nd} {k : Nat} (h : k < r.length) (hs : (r.any fun n => skip n (r.getD k default).id) = true) : prinTo r (k + 1) = prinTo r k := by
  unfold prinTo; rw [List.take_succ_eq_append_getElem h, List.filter_append, List.map_append]
  have e : r.getD k default = r[k] := by simp [h]
  rw [e] at hs
  simp [hs]
theorem prinTo_length (r : List Nd) (k : Nat) : (prinTo r k).length ≤ k := by
  unfold prinTo; rw [List.length_map]; exact Nat.le_trans (List.length_filter_le _ _) (List.length_take_le _ _)

theorem fnd_live (r : List Nd) (x : Int) : decide (0 ≤ fnd r x) = live r x := by
  rcases fnd_cases r x with ⟨h, hall⟩ | ⟨k, hk, h, hid, -⟩
  · rw [h, eq_comm]
    unfold live
    rw [show decide ((0 : Int) ≤ -1) = false from by decide, List.any_eq_false]
    intro n hn
    obtain ⟨j, hj, rfl⟩ := List.getElem_of_mem hn
    have := hall j hj
    simpa [hj] using this
  · rw [h, eq_comm]
    unfold live
    rw [show decide ((0 : Int) ≤ (k : Int)) = true from by simp, List.any_eq_true]
    exact ⟨r[k], List.getElem_mem hk, by simpa [hk] using hid⟩

/-- Whether one of the first k successors is live. -/
def liveTo (r : List Nd) (xs : List Int) (k : Nat) : Bool := (xs.take k).any (live r)
theorem liveTo_zero (r : List Nd) (xs : List Int) : liveTo r xs 0 = false := by simp [liveTo]
theorem liveTo_succ {r : List Nd} {xs : List Int} {k : Nat} (h : k < xs.length) : liveTo r xs (k + 1) = (liveTo r xs k || live r (xs.getD k 0)) := by
  unfold liveTo; rw [List.take_succ_eq_append_getElem h, List.any_append]; simp [h]
theorem liveTo_all {r : List Nd} {xs : List Int} {k : Nat} (h : xs.length ≤ k) : liveTo r xs k = xs.any (live r) := by unfold liveTo; rw [List.take_of_length_le h]
theorem all_false {p : Nd → Bool} {r : List Nd} {k : Nat} (hk : k < r.length) (h : p (r.getD k default) = false) : r.all p = false := by
  rw [List.all_eq_false]
  exact ⟨r[k], List.getElem_mem hk, by simpa [hk] using h⟩
theorem all_true {p : Nd → Bool} {r : List Nd} (h : ∀ j, j < r.length → p (r.getD j default) = true) : r.all p = true := by
  rw [List.all_eq_true]
  intro n hn
  obtain ⟨j, hj, rfl⟩ := List.getElem_of_mem hn
  have := h j hj
  simpa [hj] using this
theorem safeB_false {r : List Nd} {k : Nat} (hk : k < r.length) (h : (r.getD k default).after.any (live r) = false) : safeB r = false := by
  unfold safeB; rw [all_false (p := fun n => n.after.any (live r)) hk h]; rfl
theorem safeB_end {r : List Nd} (h : ∀ j, j < r.length → (r.getD j default).after.any (live r) = true) : safeB r = decide (3 ≤ (prin r).length) := by
  unfold safeB; rw [all_true (p := fun n => n.after.any (live r)) h]; rfl
theorem ringValid_after {r : List Nd} (h : ringValid r = true) : ∀ j, j < r.length → (r.getD j default).after.length = 2 := by
  intro j hj
  unfold ringValid at h
  simp only [Bool.and_eq_true] at h
  have := allBelow_of.1 h.2 j hj
  unfold rvAt rvHead at this
  simp only [Bool.and_eq_true, decide_eq_true_eq] at this
  exact this.1.2
theorem ringValid_len {r : List Nd} (h : ringValid r = true) : r.length ≤ 10 := by
  unfold ringValid at h
  simp only [Bool.and_eq_true, decide_eq_true_eq] at h
  exact h.1

/-- What the steps of the reference lean on: few nodes, two successors each, all of them positions. -/
def Shape (r : List Nd) : Prop := r.length ≤ 10 ∧ ∀ j, j < r.length → (r.getD j default).after.length = 2 ∧ posAll (r.getD j default).after = true ∧ okP (r.getD j default).id = true
theorem shape_valid {r : List Nd} (h : ringValid r = true) : Shape r := by
  refine ⟨ringValid_len h, fun j hj => ?_⟩
  unfold ringValid at h
  simp only [Bool.and_eq_true] at h
  have := allBelow_of.1 h.2 j hj
  unfold rvAt rvHead at this
  simp only [Bool.and_eq_true, decide_eq_true_eq] at this
  exact ⟨this.1.2, this.2, this.1.1.1.1⟩
def a0 (n : Nd) : Int := n.after.getD 0 0
def a1 (n : Nd) : Int := n.after.getD 1 0
theorem after2 {n : Nd} (h : n.after.length = 2) : n.after = [a0 n, a1 n] := by
  unfold a0 a1
  match n.after, h with
  | [x, y], _ => rfl

def setAfter (r : List Nd) (k : Nat) (A : List Int) : List Nd := r.set k { r.getD k default with after := A }
def setBefore (r : List Nd) (k : Nat) (b : Int) : List Nd := r.set k { r.getD k default with before := b }
/-- Node k follows node s. -/
def followK (r : List Nd) (k s : Nat) : List Nd := setAfter r k [(r.getD s default).id, a0 (r.getD s default)]
def dropOk (r : List Nd) (k : Nat) : Bool := decide (fnd r (a0 (r.getD k default)) < 0)
def dropK (r : List Nd) (k : Nat) : List Nd := if dropOk r k then setAfter r k [a1 (r.getD k default), (a1 (r.getD k default) + 1) % 64] else r
def adoptOk (r : List Nd) (k : Nat) : Bool := decide (0 ≤ fnd r (a0 (r.getD k default)))
def adoptK (r : List Nd) (k : Nat) : List Nd := if adoptOk r k then followK r k (fnd r (a0 (r.getD k default))).toNat else r
def closerOk (r : List Nd) (k : Nat) (other : Int) : Bool := decide (0 ≤ fnd r other) && btw (r.getD k default).id other (a0 (r.getD k default))
def closerK (r : List Nd) (k : Nat) (other : Int) : List Nd := if closerOk r k other then followK r k (fnd r other).toNat else r
def notifyOk (r : List Nd) (k : Nat) (other : Int) : Bool :=
  decide (0 ≤ fnd r other) && !(other == (r.getD k default).id) && !(decide (0 ≤ (r.getD k default).before) && decide (0 ≤ fnd r (r.getD k default).before) && !btw (r.getD k default).before other (r.getD k default).id)
def notifyK (r : List Nd) (k : Nat) (other : Int) : List Nd := if notifyOk r k other then setBefore r k other else r

def stepR (c : Bool) (r : List Nd) (id : Int) (f : Nat → List Nd) : List Nd := if c then (if 0 ≤ fnd r id then f (fnd r id).toNat else r) else []
def stepB (c : Bool) (r : List Nd) (id : Int) (g : Nat → Bool) : Bool := c && decide (0 ≤ fnd r id) && g (fnd r id).toNat
def rDrop (r : List Nd) (id : Int) : List Nd := stepR (ringSafe r && okP id) r id fun k => dropK r k
def rDropOk (r : List Nd) (id : Int) : Bool := stepB (ringSafe r && okP id) r id fun k => dropOk r k
def rAdopt (r : List Nd) (id : Int) : List Nd := stepR (ringSafe r && okP id) r id fun k => adoptK r k
def rAdoptOk (r : List Nd) (id : Int) : Bool := stepB (ringSafe r && okP id) r id fun k => adoptOk r k
def rCloser (r : List Nd) (id other : Int) : List Nd := stepR (ringSafe r && okP id && okP other) r id fun k => closerK r k other
def rCloserOk (r : List Nd) (id other : Int) : Bool := stepB (ringSafe r && okP id && okP other) r id fun k => closerOk r k other
def rNotify (r : List Nd) (id other : Int) : List Nd := stepR (ringSafe r && okP id && okP other) r id fun k => notifyK r k other
def rNotifyOk (r : List Nd) (id other : Int) : Bool := stepB (ringSafe r && okP id && okP other) r id fun k => notifyOk r k other

theorem stepR_hit {c : Bool} {r : List Nd} {id : Int} {j : Nat} (hc : c = true) (hf : fnd r id = (j : Int)) (f : Nat → List Nd) : stepR c r id f = f j := by
  unfold stepR; rw [hc, hf]; simp
theorem stepB_hit {c : Bool} {r : List Nd} {id : Int} {j : Nat} (hc : c = true) (hf : fnd r id = (j : Int)) (g : Nat → Bool) : stepB c r id g = g j := by
  unfold stepB; rw [hc, hf]; simp
theorem stepR_miss {c : Bool} {r : List Nd} {id : Int} (hc : c = true) (hf : fnd r id = -1) (f : Nat → List Nd) : stepR c r id f = r := by
  unfold stepR; rw [hc, hf]; simp
theorem stepB_miss {c : Bool} {r : List Nd} {id : Int} (hf : fnd r id = -1) (g : Nat → Bool) : stepB c r id g = false := by
  unfold stepB; rw [hf]; simp
theorem stepR_no {c : Bool} {r : List Nd} {id : Int} (hc : c = false) (f : Nat → List Nd) : stepR c r id f = [] := by
  unfold stepR; rw [hc]; rfl
theorem stepB_no {c : Bool} {r : List Nd} {id : Int} (hc : c = false) (g : Nat → Bool) : stepB c r id g = false := by
  unfold stepB; rw [hc]; rfl

/-- The place of the first element with a property, from k on; -1 if there is none. -/
def idxFrom {α : Type} (p : α → Bool) : List α → Nat → Int
  | [], _ => -1
  | n :: r, k => if p n then (k : Int) else idxFrom p r (k + 1)
def idx {α : Type} (p : α → Bool) (r : List α) : Int := idxFrom p r 0
theorem idxFrom_hit {α : Type} [Inhabited α] (p : α → Bool) (d : α) : ∀ (r : List α) (s k : Nat), k < r.length → p (r.getD k d) = true → (∀ j, j < k → p (r.getD j d) = false) → idxFrom p r s = ((s + k : Nat) : Int)
  | [], _, _, h, _, _ => absurd h (by simp)
  | n :: r, s, 0, _, h1, _ => by simp at h1; simp [idxFrom, h1]
  | n :: r, s, k + 1, h, h1, h2 => by
    have h0 : p n = false := by simpa using h2 0 (by omega)
    rw [idxFrom, h0, if_neg (by simp), idxFrom_hit p d r (s + 1) k (by simpa using h) (by simpa using h1) (fun j hj => by simpa using h2 (j + 1) (by omega))]
    congr 1
    omega
theorem idxFrom_miss {α : Type} [Inhabited α] (p : α → Bool) (d : α) : ∀ (r : List α) (s : Nat), (∀ j, j < r.length → p (r.getD j d) = false) → idxFrom p r s = -1
  | [], _, _ => rfl
  | n :: r, s, h => by
    have h0 : p n = false := by simpa using h 0 (by simp)
    rw [idxFrom, h0, if_neg (by simp), idxFrom_miss p d r (s + 1) (fun j hj => by simpa using h (j + 1) (by simpa using hj))]
theorem idx_hit {α : Type} [Inhabited α] {p : α → Bool} {d : α} {r : List α} {k : Nat} (hk : k < r.length) (h1 : p (r.getD k d) = true) (h2 : ∀ j, j < k → p (r.getD j d) = false) : idx p r = k := by
  unfold idx; rw [idxFrom_hit p d r 0 k hk h1 h2]; simp
theorem idx_miss {α : Type} [Inhabited α] {p : α → Bool} {d : α} {r : List α} (h2 : ∀ j, j < r.length → p (r.getD j d) = false) : idx p r = -1 := idxFrom_miss p d r 0 h2
theorem idxFrom_any {α : Type} (p : α → Bool) : ∀ (r : List α) (s : Nat), decide (0 ≤ idxFrom p r s) = r.any p
  | [], _ => by simp [idxFrom]
  | n :: r, s => by
    rw [idxFrom, List.any_cons]
    cases h : p n
    · rw [if_neg (by simp), Bool.false_or]; exact idxFrom_any p r (s + 1)
    · simp
theorem idx_any {α : Type} (p : α → Bool) (r : List α) : decide (0 ≤ idx p r) = r.any p := idxFrom_any p r 0
theorem fndFrom_idx (id : Int) : ∀ (r : List Nd) (s : Nat), idxFrom (fun n => n.id == id) r s = fndFrom id r s
  | [], _ => rfl
  | n :: r, s => by
    rw [idxFrom, fndFrom, fndFrom_idx id r (s + 1)]
    simp
theorem fnd_idx (id : Int) (r : List Nd) : idx (fun n => n.id == id) r = fnd r id := fndFrom_idx id r 0

theorem cskipFrom_eq {x : Int} (hx : okP x = true) : ∀ (xs : List Int) (a : Int), okP a = true → (∀ y, y ∈ xs → okP y = true) → cskipFrom x a xs = skipFrom x a xs
  | [], _, _, _ => rfl
  | t :: ts, a, ha, h => by
    have ht := h t (by simp)
    unfold cskipFrom skipFrom cbtw
    rw [ha, hx, ht, cskipFrom_eq hx ts t ht (fun y hy => h y (by simp [hy]))]
    rfl
theorem cskip_eq {n : Nd} {x : Int} (hx : okP x = true) (hi : okP n.id = true) (ha : posAll n.after = true) : cskip n x = skip n x :=
  cskipFrom_eq hx _ _ hi (fun y hy => by
    obtain ⟨j, hj, rfl⟩ := List.getElem_of_mem hy
    have := allBelow_of.1 ha j hj
    simpa [hj] using this)
theorem any_cskip {r : List Nd} (h : Shape r) {x : Int} (hx : okP x = true) : (r.any fun n => cskip n x) = r.any fun n => skip n x := by
  rw [Bool.eq_iff_iff, List.any_eq_true, List.any_eq_true]
  constructor
  · rintro ⟨n, hn, hs⟩
    obtain ⟨j, hj, rfl⟩ := List.getElem_of_mem hn
    obtain ⟨-, h2, h3⟩ := h.2 j hj
    have e : r.getD j default = r[j] := by simp [hj]
    rw [e] at h2 h3
    exact ⟨_, hn, (cskip_eq hx h3 h2).symm.trans hs⟩
  · rintro ⟨n, hn, hs⟩
    obtain ⟨j, hj, rfl⟩ := List.getElem_of_mem hn
    obtain ⟨-, h2, h3⟩ := h.2 j hj
    have e : r.getD j default = r[j] := by simp [hj]
    rw [e] at h2 h3
    exact ⟨_, hn, (cskip_eq hx h3 h2).trans hs⟩

theorem ringSafe_pos {r : List Nd} (h : ringSafe r = true) : 0 < r.length := by
  rcases Nat.eq_zero_or_pos r.length with h0 | h0
  · have : r = [] := List.length_eq_zero_iff.1 h0
    subst this
    revert h
    decide
  · exact h0

end Go.Proofs.Ytnoamohpkngbdaa
