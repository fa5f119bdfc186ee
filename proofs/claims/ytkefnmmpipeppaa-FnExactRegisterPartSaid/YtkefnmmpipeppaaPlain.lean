/-
  Plain theory of rings: order, steps, stabilizing, convergence, ideal rings; no program in sight.
-/
import Derived.WalkKit
namespace Go.Proofs.Ytkefnmmpipeppaa
open Go.RowKit

/-- A position. -/
def okP (x : Int) : Bool := decide (0 ≤ x) && decide (x < 64)
/-- A number in a range. -/
def inR (n lo hi : Int) : Bool := decide (lo ≤ n) && decide (n ≤ hi)
/-- Strictly between, going upward; everything but a is between a and a. -/
def btw (a x b : Int) : Bool := if a < b then decide (a < x) && decide (x < b) else decide (a < x) || decide (x < b)
def cbtw (a x b : Int) : Bool := okP a && okP x && okP b && btw a x b
def dist (a b : Int) : Int := (b - a + 64) % 64

structure Nd where
  id : Int
  before : Int
  after : List Int

instance : Inhabited Nd := ⟨⟨0, 0, []⟩⟩
instance : DecidableEq Nd := fun a b => decidable_of_iff (a.id = b.id ∧ a.before = b.before ∧ a.after = b.after) (by cases a; cases b; simp)

/-- All numbers below n. -/
def allBelow (p : Nat → Bool) : Nat → Bool
  | 0 => true
  | n + 1 => allBelow p n && p n

theorem allBelow_of {p : Nat → Bool} : ∀ {n : Nat}, allBelow p n = true ↔ ∀ i, i < n → p i = true
  | 0 => by simp [allBelow]
  | n + 1 => by
    simp only [allBelow, Bool.and_eq_true, allBelow_of (n := n)]
    constructor
    · rintro ⟨h1, h2⟩ i hi
      by_cases h : i < n
      · exact h1 i h
      · have : i = n := by omega
        subst this
        exact h2
    · intro h
      exact ⟨fun i hi => h i (by omega), h n (by omega)⟩
theorem allBelow_false {p : Nat → Bool} {n k : Nat} (hk : k < n) (h : p k = false) : allBelow p n = false := by
  cases hh : allBelow p n with
  | false => rfl
  | true => rw [allBelow_of.1 hh k hk] at h; cases h
theorem allBelow_succ {p : Nat → Bool} {k : Nat} (h1 : allBelow p k = true) (h2 : p k = true) : allBelow p (k + 1) = true := by simp [allBelow, h1, h2]

def posAll (xs : List Int) : Bool := allBelow (fun i => okP (xs.getD i 0)) xs.length

/-- Node number k of a ring is in order. -/
def rvHead (r : List Nd) (k : Nat) : Bool :=
  okP (r.getD k default).id && (decide (k = 0) || decide ((r.getD (k - 1) default).id < (r.getD k default).id)) &&
  (decide ((r.getD k default).before = -1) || okP (r.getD k default).before) && decide ((r.getD k default).after.length = 2)
def rvAt (r : List Nd) (k : Nat) : Bool := rvHead r k && posAll (r.getD k default).after
def ringValid (r : List Nd) : Bool := decide (r.length ≤ 10) && allBelow (rvAt r) r.length

/-- The place of the first node with a position, from k on; -1 if there is none. -/
def fndFrom (id : Int) : List Nd → Nat → Int
  | [], _ => -1
  | n :: r, k => if n.id = id then (k : Int) else fndFrom id r (k + 1)
def fnd (r : List Nd) (id : Int) : Int := fndFrom id r 0
def live (r : List Nd) (id : Int) : Bool := r.any fun n => decide (n.id = id)

theorem fndFrom_hit (id : Int) : ∀ (r : List Nd) (s k : Nat), k < r.length → (r.getD k default).id = id → (∀ j, j < k → (r.getD j default).id ≠ id) → fndFrom id r s = ((s + k : Nat) : Int)
  | [], _, _, h, _, _ => absurd h (by simp)
  | n :: r, s, 0, _, h1, _ => by simp at h1; simp [fndFrom, h1]
  | n :: r, s, k + 1, h, h1, h2 => by
    have h0 : n.id ≠ id := by simpa using h2 0 (by omega)
    rw [fndFrom, if_neg h0, fndFrom_hit id r (s + 1) k (by simpa using h) (by simpa using h1) (fun j hj => by simpa using h2 (j + 1) (by omega))]
    congr 1
    omega
theorem fndFrom_miss (id : Int) : ∀ (r : List Nd) (s : Nat), (∀ j, j < r.length → (r.getD j default).id ≠ id) → fndFrom id r s = -1
  | [], _, _ => rfl
  | n :: r, s, h => by
    have h0 : n.id ≠ id := by simpa using h 0 (by simp)
    rw [fndFrom, if_neg h0, fndFrom_miss id r (s + 1) (fun j hj => by simpa using h (j + 1) (by simpa using hj))]
theorem fnd_hit {r : List Nd} {id : Int} {k : Nat} (hk : k < r.length) (h1 : (r.getD k default).id = id) (h2 : ∀ j, j < k → (r.getD j default).id ≠ id) : fnd r id = k := by
  unfold fnd; rw [fndFrom_hit id r 0 k hk h1 h2]; simp
theorem fnd_miss {r : List Nd} {id : Int} (h2 : ∀ j, j < r.length → (r.getD j default).id ≠ id) : fnd r id = -1 := fndFrom_miss id r 0 h2
theorem fnd_cases (r : List Nd) (id : Int) : (fnd r id = -1 ∧ ∀ j, j < r.length → (r.getD j default).id ≠ id) ∨ ∃ k, k < r.length ∧ fnd r id = (k : Int) ∧ (r.getD k default).id = id ∧ ∀ j, j < k → (r.getD j default).id ≠ id := by
  by_cases h : ∃ k, k < r.length ∧ (r.getD k default).id = id
  · right
    have hm : ∀ n, (∃ k, k < n ∧ k < r.length ∧ (r.getD k default).id = id) → ∃ k, k < r.length ∧ (r.getD k default).id = id ∧ ∀ j, j < k → (r.getD j default).id ≠ id := by
      intro n
      induction n with
      | zero => rintro ⟨k, h, _⟩; omega
      | succ n ih =>
        rintro ⟨k, h1, h2, h3⟩
        by_cases hn : ∃ k, k < n ∧ k < r.length ∧ (r.getD k default).id = id
        · exact ih hn
        · have hkn : k = n := by
            rcases Nat.lt_or_ge k n with hlt | hge
            · exact absurd ⟨k, hlt, h2, h3⟩ hn
            · omega
          subst hkn
          exact ⟨k, h2, h3, fun j hj e => hn ⟨j, hj, by omega, e⟩⟩
    obtain ⟨k, h1, h2⟩ := h
    obtain ⟨k, h3, h4, h5⟩ := hm (k + 1) ⟨k, by omega, h1, h2⟩
    exact ⟨k, h3, fnd_hit h3 h4 h5, h4, h5⟩
  · left
    have h2 : ∀ j, j < r.length → (r.getD j default).id ≠ id := fun j hj e => h ⟨j, hj, e⟩
    exact ⟨fnd_miss h2, h2⟩

/-- Whether a position lies between a node and its first successor, or between two neighbouring ones. -/
def skipFrom (x : Int) : Int → List Int → Bool
  | _, [] => false
  | a, t :: ts => btw a x t || skipFrom x t ts
def skip (n : Nd) (x : Int) : Bool := skipFrom x n.id n.after
/-- The like, asked by the checked function. -/
def cskipFrom (x : Int) : Int → List Int → Bool
  | _, [] => false
  | a, t :: ts => cbtw a x t || cskipFrom x t ts
def cskip (n : Nd) (x : Int) : Bool := cskipFrom x n.id n.after

def prin (r : List Nd) : List Int := (r.filter fun p => !(r.any fun n => skip n p.id)).map Nd.id
def safeB (r : List Nd) : Bool := (r.all fun n => n.after.any (live r)) && decide (3 ≤ (prin r).length)
def ringSafe (r : List Nd) : Bool := ringValid r && safeB r

theorem drop_cons {xs : List Int} {k : Nat} (h : k < xs.length) : xs.drop k = xs.getD k 0 :: xs.drop (k + 1) := by
  rw [List.drop_eq_getElem_cons h]; simp [h]
theorem skipFrom_drop {xs : List Int} {k : Nat} {x a : Int} (h : k < xs.length) : skipFrom x a (xs.drop k) = (btw a x (xs.getD k 0) || skipFrom x (xs.getD k 0) (xs.drop (k + 1))) := by
  rw [drop_cons h]; rfl
theorem skipFrom_end {xs : List Int} {x a : Int} : skipFrom x a (xs.drop xs.length) = false := by simp [skipFrom]
theorem cskipFrom_drop {xs : List Int} {k : Nat} {x a : Int} (h : k < xs.length) : cskipFrom x a (xs.drop k) = (cbtw a x (xs.getD k 0) || cskipFrom x (xs.getD k 0) (xs.drop (k + 1))) := by
  rw [drop_cons h]; rfl
theorem cskipFrom_end {xs : List Int} {x a : Int} : cskipFrom x a (xs.drop xs.length) = false := by simp [cskipFrom]

/-- Whether one of the first k nodes skips a position. -/
def anyTo (p : Nd → Bool) (r : List Nd) (k : Nat) : Bool := (r.take k).any p
theorem anyTo_zero (p : Nd → Bool) (r : List Nd) : anyTo p r 0 = false := by simp [anyTo]
theorem anyTo_succ {p : Nd → Bool} {r : List Nd} {k : Nat} (h : k < r.length) : anyTo p r (k + 1) = (anyTo p r k || p (r.getD k default)) := by
  unfold anyTo; rw [List.take_succ_eq_append_getElem h, List.any_append]; simp [h]
theorem anyTo_all {p : Nd → Bool} {r : List Nd} : anyTo p r r.length = r.any p := by simp [anyTo]
/-- The principals among the first k nodes. -/
def prinTo (r : List Nd) (k : Nat) : List Int := ((r.take k).filter fun p => !(r.any fun n => skip n p.id)).map Nd.id
theorem prinTo_zero (r : List Nd) : prinTo r 0 = [] := by simp [prinTo]
theorem prinTo_all (r : List Nd) : prinTo r r.length = prin r := by simp [prinTo, prin]
theorem prinTo_yes {r : List Nd} {k : Nat} (h : k < r.length) (hs : (r.any fun n => skip n (r.getD k default).id) = false) : prinTo r (k + 1) = prinTo r k ++ [(r.getD k default).id] := by
  unfold prinTo; rw [List.take_succ_eq_append_getElem h, List.filter_append, List.map_append]
  have e : r.getD k default = r[k] := by simp [h]
  rw [e] at hs ⊢
  simp [hs]
theorem prinTo_no {r : List Nd} {k : Nat} (h : k < r.length) (hs : (r.any fun n => skip n (r.getD k default).id) = true) : prinTo r (k + 1) = prinTo r k := by
  unfold prinTo; rw [List.take_succ_eq_append_getElem h, List.filter_append, List.map_append]
  have e : r.getD k default = r[k] := by simp [h]
  rw [e] at hs
  simp [hs]
theorem prinTo_length (r : List Nd) (k : Nat) : (prinTo r k).length ≤ k := by
  unfold prinTo; rw [List.length_map]; exact Nat.le_trans (List.length_filter_le _ _) (List.length_take_le _ _)

theorem fnd_live (r : List Nd) (x : Int) : decide (0 ≤ fnd r x) = live r x := by
  rcases fnd_cases r x with ⟨h, hall⟩ | ⟨k, hk, h, hid, -⟩
  · rw [h, eq_comm]
    unfold live
    rw [show decide ((0 : Int) ≤ -1) = false from by decide, List.any_eq_false]
    intro n hn
    obtain ⟨j, hj, rfl⟩ := List.getElem_of_mem hn
    have := hall j hj
    simpa [hj] using this
  · rw [h, eq_comm]
    unfold live
    rw [show decide ((0 : Int) ≤ (k : Int)) = true from by simp, List.any_eq_true]
    exact ⟨r[k], List.getElem_mem hk, by simpa [hk] using hid⟩

/-- Whether one of the first k successors is live. -/
def liveTo (r : List Nd) (xs : List Int) (k : Nat) : Bool := (xs.take k).any (live r)
theorem liveTo_zero (r : List Nd) (xs : List Int) : liveTo r xs 0 = false := by simp [liveTo]
theorem liveTo_succ {r : List Nd} {xs : List Int} {k : Nat} (h : k < xs.length) : liveTo r xs (k + 1) = (liveTo r xs k || live r (xs.getD k 0)) := by
  unfold liveTo; rw [List.take_succ_eq_append_getElem h, List.any_append]; simp [h]
theorem liveTo_all {r : List Nd} {xs : List Int} {k : Nat} (h : xs.length ≤ k) : liveTo r xs k = xs.any (live r) := by unfold liveTo; rw [List.take_of_length_le h]
theorem all_false {p : Nd → Bool} {r : List Nd} {k : Nat} (hk : k < r.length) (h : p (r.getD k default) = false) : r.all p = false := by
  rw [List.all_eq_false]
  exact ⟨r[k], List.getElem_mem hk, by simpa [hk] using h⟩
theorem all_true {p : Nd → Bool} {r : List Nd} (h : ∀ j, j < r.length → p (r.getD j default) = true) : r.all p = true := by
  rw [List.all_eq_true]
  intro n hn
  obtain ⟨j, hj, rfl⟩ := List.getElem_of_mem hn
  have := h j hj
  simpa [hj] using this
theorem safeB_false {r : List Nd} {k : Nat} (hk : k < r.length) (h : (r.getD k default).after.any (live r) = false) : safeB r = false := by
  unfold safeB; rw [all_false (p := fun n => n.after.any (live r)) hk h]; rfl
theorem safeB_end {r : List Nd} (h : ∀ j, j < r.length → (r.getD j default).after.any (live r) = true) : safeB r = decide (3 ≤ (prin r).length) := by
  unfold safeB; rw [all_true (p := fun n => n.after.any (live r)) h]; rfl
theorem ringValid_after {r : List Nd} (h : ringValid r = true) : ∀ j, j < r.length → (r.getD j default).after.length = 2 := by
  intro j hj
  unfold ringValid at h
  simp only [Bool.and_eq_true] at h
  have := allBelow_of.1 h.2 j hj
  unfold rvAt rvHead at this
  simp only [Bool.and_eq_true, decide_eq_true_eq] at this
  exact this.1.2
theorem ringValid_len {r : List Nd} (h : ringValid r = true) : r.length ≤ 10 := by
  unfold ringValid at h
  simp only [Bool.and_eq_true, decide_eq_true_eq] at h
  exact h.1

/-- What the steps of the reference lean on: few nodes, two successors each, all of them positions. -/
def Shape (r : List Nd) : Prop := r.length ≤ 10 ∧ ∀ j, j < r.length → (r.getD j default).after.length = 2 ∧ posAll (r.getD j default).after = true ∧ okP (r.getD j default).id = true
theorem shape_valid {r : List Nd} (h : ringValid r = true) : Shape r := by
  refine ⟨ringValid_len h, fun j hj => ?_⟩
  unfold ringValid at h
  simp only [Bool.and_eq_true] at h
  have := allBelow_of.1 h.2 j hj
  unfold rvAt rvHead at this
  simp only [Bool.and_eq_true, decide_eq_true_eq] at this
  exact ⟨this.1.2, this.2, this.1.1.1.1⟩
def a0 (n : Nd) : Int := n.after.getD 0 0
def a1 (n : Nd) : Int := n.after.getD 1 0
theorem after2 {n : Nd} (h : n.after.length = 2) : n.after = [a0 n, a1 n] := by
  unfold a0 a1
  match n.after, h with
  | [x, y], _ => rfl

def setAfter (r : List Nd) (k : Nat) (A : List Int) : List Nd := r.set k { r.getD k default with after := A }
def setBefore (r : List Nd) (k : Nat) (b : Int) : List Nd := r.set k { r.getD k default with before := b }
/-- Node k follows node s. -/
def followK (r : List Nd) (k s : Nat) : List Nd := setAfter r k [(r.getD s default).id, a0 (r.getD s default)]
def dropOk (r : List Nd) (k : Nat) : Bool := decide (fnd r (a0 (r.getD k default)) < 0)
def dropK (r : List Nd) (k : Nat) : List Nd := if dropOk r k then setAfter r k [a1 (r.getD k default), (a1 (r.getD k default) + 1) % 64] else r
def adoptOk (r : List Nd) (k : Nat) : Bool := decide (0 ≤ fnd r (a0 (r.getD k default)))
def adoptK (r : List Nd) (k : Nat) : List Nd := if adoptOk r k then followK r k (fnd r (a0 (r.getD k default))).toNat else r
def closerOk (r : List Nd) (k : Nat) (other : Int) : Bool := decide (0 ≤ fnd r other) && btw (r.getD k default).id other (a0 (r.getD k default))
def closerK (r : List Nd) (k : Nat) (other : Int) : List Nd := if closerOk r k other then followK r k (fnd r other).toNat else r
def notifyOk (r : List Nd) (k : Nat) (other : Int) : Bool :=
  decide (0 ≤ fnd r other) && !(other == (r.getD k default).id) && !(decide (0 ≤ (r.getD k default).before) && decide (0 ≤ fnd r (r.getD k default).before) && !btw (r.getD k default).before other (r.getD k default).id)
def notifyK (r : List Nd) (k : Nat) (other : Int) : List Nd := if notifyOk r k other then setBefore r k other else r

def stepR (c : Bool) (r : List Nd) (id : Int) (f : Nat → List Nd) : List Nd := if c then (if 0 ≤ fnd r id then f (fnd r id).toNat else r) else []
def stepB (c : Bool) (r : List Nd) (id : Int) (g : Nat → Bool) : Bool := c && decide (0 ≤ fnd r id) && g (fnd r id).toNat
def rDrop (r : List Nd) (id : Int) : List Nd := stepR (ringSafe r && okP id) r id fun k => dropK r k
def rDropOk (r : List Nd) (id : Int) : Bool := stepB (ringSafe r && okP id) r id fun k => dropOk r k
def rAdopt (r : List Nd) (id : Int) : List Nd := stepR (ringSafe r && okP id) r id fun k => adoptK r k
def rAdoptOk (r : List Nd) (id : Int) : Bool := stepB (ringSafe r && okP id) r id fun k => adoptOk r k
def rCloser (r : List Nd) (id other : Int) : List Nd := stepR (ringSafe r && okP id && okP other) r id fun k => closerK r k other
def rCloserOk (r : List Nd) (id other : Int) : Bool := stepB (ringSafe r && okP id && okP other) r id fun k => closerOk r k other
def rNotify (r : List Nd) (id other : Int) : List Nd := stepR (ringSafe r && okP id && okP other) r id fun k => notifyK r k other
def rNotifyOk (r : List Nd) (id other : Int) : Bool := stepB (ringSafe r && okP id && okP other) r id fun k => notifyOk r k other

theorem stepR_hit {c : Bool} {r : List Nd} {id : Int} {j : Nat} (hc : c = true) (hf : fnd r id = (j : Int)) (f : Nat → List Nd) : stepR c r id f = f j := by
  unfold stepR; rw [hc, hf]; simp
theorem stepB_hit {c : Bool} {r : List Nd} {id : Int} {j : Nat} (hc : c = true) (hf : fnd r id = (j : Int)) (g : Nat → Bool) : stepB c r id g = g j := by
  unfold stepB; rw [hc, hf]; simp
theorem stepR_miss {c : Bool} {r : List Nd} {id : Int} (hc : c = true) (hf : fnd r id = -1) (f : Nat → List Nd) : stepR c r id f = r := by
  unfold stepR; rw [hc, hf]; simp
theorem stepB_miss {c : Bool} {r : List Nd} {id : Int} (hf : fnd r id = -1) (g : Nat → Bool) : stepB c r id g = false := by
  unfold stepB; rw [hf]; simp
theorem stepR_no {c : Bool} {r : List Nd} {id : Int} (hc : c = false) (f : Nat → List Nd) : stepR c r id f = [] := by
  unfold stepR; rw [hc]; rfl
theorem stepB_no {c : Bool} {r : List Nd} {id : Int} (hc : c = false) (g : Nat → Bool) : stepB c r id g = false := by
  unfold stepB; rw [hc]; rfl

/-- The place of the first element with a property, from k on; -1 if there is none. -/
def idxFrom {α : Type} (p : α → Bool) : List α → Nat → Int
  | [], _ => -1
  | n :: r, k => if p n then (k : Int) else idxFrom p r (k + 1)
def idx {α : Type} (p : α → Bool) (r : List α) : Int := idxFrom p r 0
theorem idxFrom_hit {α : Type} [Inhabited α] (p : α → Bool) (d : α) : ∀ (r : List α) (s k : Nat), k < r.length → p (r.getD k d) = true → (∀ j, j < k → p (r.getD j d) = false) → idxFrom p r s = ((s + k : Nat) : Int)
  | [], _, _, h, _, _ => absurd h (by simp)
  | n :: r, s, 0, _, h1, _ => by simp at h1; simp [idxFrom, h1]
  | n :: r, s, k + 1, h, h1, h2 => by
    have h0 : p n = false := by simpa using h2 0 (by omega)
    rw [idxFrom, h0, if_neg (by simp), idxFrom_hit p d r (s + 1) k (by simpa using h) (by simpa using h1) (fun j hj => by simpa using h2 (j + 1) (by omega))]
    congr 1
    omega
theorem idxFrom_miss {α : Type} [Inhabited α] (p : α → Bool) (d : α) : ∀ (r : List α) (s : Nat), (∀ j, j < r.length → p (r.getD j d) = false) → idxFrom p r s = -1
  | [], _, _ => rfl
  | n :: r, s, h => by
    have h0 : p n = false := by simpa using h 0 (by simp)
    rw [idxFrom, h0, if_neg (by simp), idxFrom_miss p d r (s + 1) (fun j hj => by simpa using h (j + 1) (by simpa using hj))]
theorem idx_hit {α : Type} [Inhabited α] {p : α → Bool} {d : α} {r : List α} {k : Nat} (hk : k < r.length) (h1 : p (r.getD k d) = true) (h2 : ∀ j, j < k → p (r.getD j d) = false) : idx p r = k := by
  unfold idx; rw [idxFrom_hit p d r 0 k hk h1 h2]; simp
theorem idx_miss {α : Type} [Inhabited α] {p : α → Bool} {d : α} {r : List α} (h2 : ∀ j, j < r.length → p (r.getD j d) = false) : idx p r = -1 := idxFrom_miss p d r 0 h2
theorem idxFrom_any {α : Type} (p : α → Bool) : ∀ (r : List α) (s : Nat), decide (0 ≤ idxFrom p r s) = r.any p
  | [], _ => by simp [idxFrom]
  | n :: r, s => by
    rw [idxFrom, List.any_cons]
    cases h : p n
    · rw [if_neg (by simp), Bool.false_or]; exact idxFrom_any p r (s + 1)
    · simp
theorem idx_any {α : Type} (p : α → Bool) (r : List α) : decide (0 ≤ idx p r) = r.any p := idxFrom_any p r 0
theorem fndFrom_idx (id : Int) : ∀ (r : List Nd) (s : Nat), idxFrom (fun n => n.id == id) r s = fndFrom id r s
  | [], _ => rfl
  | n :: r, s => by
    rw [idxFrom, fndFrom, fndFrom_idx id r (s + 1)]
    simp
theorem fnd_idx (id : Int) (r : List Nd) : idx (fun n => n.id == id) r = fnd r id := fndFrom_idx id r 0

theorem cskipFrom_eq {x : Int} (hx : okP x = true) : ∀ (xs : List Int) (a : Int), okP a = true → (∀ y, y ∈ xs → okP y = true) → cskipFrom x a xs = skipFrom x a xs
  | [], _, _, _ => rfl
  | t :: ts, a, ha, h => by
    have ht := h t (by simp)
    unfold cskipFrom skipFrom cbtw
    rw [ha, hx, ht, cskipFrom_eq hx ts t ht (fun y hy => h y (by simp [hy]))]
    rfl
theorem cskip_eq {n : Nd} {x : Int} (hx : okP x = true) (hi : okP n.id = true) (ha : posAll n.after = true) : cskip n x = skip n x :=
  cskipFrom_eq hx _ _ hi (fun y hy => by
    obtain ⟨j, hj, rfl⟩ := List.getElem_of_mem hy
    have := allBelow_of.1 ha j hj
    simpa [hj] using this)
theorem any_cskip {r : List Nd} (h : Shape r) {x : Int} (hx : okP x = true) : (r.any fun n => cskip n x) = r.any fun n => skip n x := by
  rw [Bool.eq_iff_iff, List.any_eq_true, List.any_eq_true]
  constructor
  · rintro ⟨n, hn, hs⟩
    obtain ⟨j, hj, rfl⟩ := List.getElem_of_mem hn
    obtain ⟨-, h2, h3⟩ := h.2 j hj
    have e : r.getD j default = r[j] := by simp [hj]
    rw [e] at h2 h3
    exact ⟨_, hn, (cskip_eq hx h3 h2).symm.trans hs⟩
  · rintro ⟨n, hn, hs⟩
    obtain ⟨j, hj, rfl⟩ := List.getElem_of_mem hn
    obtain ⟨-, h2, h3⟩ := h.2 j hj
    have e : r.getD j default = r[j] := by simp [hj]
    rw [e] at h2 h3
    exact ⟨_, hn, (cskip_eq hx h3 h2).trans hs⟩

theorem ringSafe_pos {r : List Nd} (h : ringSafe r = true) : 0 < r.length := by
  rcases Nat.eq_zero_or_pos r.length with h0 | h0
  · have : r = [] := List.length_eq_zero_iff.1 h0
    subst this
    revert h
    decide
  · exact h0

theorem btw_iff {a x b : Int} : btw a x b = true ↔ (a < b ∧ a < x ∧ x < b) ∨ (b ≤ a ∧ (a < x ∨ x < b)) := by
  unfold btw
  by_cases h : a < b
  · simp [h]; omega
  · simp [h]; omega
theorem btw_no {a x b : Int} : btw a x b = false ↔ (a < b → x ≤ a ∨ b ≤ x) ∧ (b ≤ a → x ≤ a ∧ b ≤ x) := by
  unfold btw
  by_cases h : a < b
  · simp [h]; omega
  · simp [h]; omega
theorem okP_def {a : Int} : okP a = true ↔ 0 ≤ a ∧ a < 64 := by simp [okP]

/-- A valid node. -/
def NdOk (n : Nd) : Prop := okP n.id = true ∧ (n.before = -1 ∨ okP n.before = true) ∧ n.after.length = 2 ∧ posAll n.after = true

theorem rvAt_iff {r : List Nd} {k : Nat} : rvAt r k = true ↔ NdOk (r.getD k default) ∧ (k = 0 ∨ (r.getD (k - 1) default).id < (r.getD k default).id) := by
  unfold rvAt rvHead NdOk
  simp only [Bool.and_eq_true, Bool.or_eq_true, decide_eq_true_eq]
  constructor
  · rintro ⟨⟨⟨⟨h1, h2⟩, h3⟩, h4⟩, h5⟩
    exact ⟨⟨h1, h3, h4, h5⟩, h2⟩
  · rintro ⟨⟨h1, h3, h4, h5⟩, h2⟩
    exact ⟨⟨⟨⟨h1, h2⟩, h3⟩, h4⟩, h5⟩

theorem ringValid_iff {r : List Nd} : ringValid r = true ↔
    r.length ≤ 10 ∧ (∀ j, j < r.length → NdOk (r.getD j default)) ∧ ∀ i j, i < j → j < r.length → (r.getD i default).id < (r.getD j default).id := by
  unfold ringValid
  simp only [Bool.and_eq_true, decide_eq_true_eq, allBelow_of, rvAt_iff]
  constructor
  · rintro ⟨h1, h2⟩
    refine ⟨h1, fun j hj => (h2 j hj).1, ?_⟩
    intro i j
    induction j with
    | zero => intro h; omega
    | succ j ih =>
      intro hij hj
      have h3 : (r.getD j default).id < (r.getD (j + 1) default).id := by
        rcases (h2 (j + 1) hj).2 with h | h
        · omega
        · simpa using h
      by_cases e : i = j
      · subst e; exact h3
      · have := ih (by omega) (by omega)
        omega
  · rintro ⟨h1, h2, h3⟩
    refine ⟨h1, fun j hj => ⟨h2 j hj, ?_⟩⟩
    by_cases e : j = 0
    · exact .inl e
    · exact .inr (h3 (j - 1) j (by omega) hj)

theorem getD_mem {r : List Nd} {j : Nat} (h : j < r.length) : r.getD j default ∈ r := by
  have : r.getD j default = r[j] := by simp [h]
  rw [this]; exact List.getElem_mem h
theorem mem_getD {r : List Nd} {n : Nd} (h : n ∈ r) : ∃ j, j < r.length ∧ r.getD j default = n := by
  obtain ⟨j, hj, rfl⟩ := List.getElem_of_mem h
  exact ⟨j, hj, by simp [hj]⟩

theorem NdOk.a0ok {n : Nd} (h : NdOk n) : okP (a0 n) = true := by
  have := allBelow_of.1 h.2.2.2 0 (by rw [h.2.2.1]; omega)
  exact this
theorem NdOk.a1ok {n : Nd} (h : NdOk n) : okP (a1 n) = true := by
  have := allBelow_of.1 h.2.2.2 1 (by rw [h.2.2.1]; omega)
  exact this
theorem NdOk.mk2 {i b x y : Int} (h1 : okP i = true) (h2 : b = -1 ∨ okP b = true) (hx : okP x = true) (hy : okP y = true) : NdOk ⟨i, b, [x, y]⟩ :=
  ⟨h1, h2, rfl, by simp [posAll, allBelow, hx, hy]⟩

theorem valid_node {r : List Nd} (h : ringValid r = true) {n : Nd} (hn : n ∈ r) : NdOk n := by
  obtain ⟨j, hj, rfl⟩ := mem_getD hn
  exact (ringValid_iff.1 h).2.1 j hj
/-- Nodes of a valid ring with equal positions are equal. -/
theorem valid_inj {r : List Nd} (h : ringValid r = true) {i j : Nat} (hi : i < r.length) (hj : j < r.length) (e : (r.getD i default).id = (r.getD j default).id) : i = j := by
  have h3 := (ringValid_iff.1 h).2.2
  rcases Nat.lt_trichotomy i j with h | h | h
  · have := h3 i j h hj; omega
  · exact h
  · have := h3 j i h hi; omega
theorem valid_eq {r : List Nd} (h : ringValid r = true) {m n : Nd} (hm : m ∈ r) (hn : n ∈ r) (e : m.id = n.id) : m = n := by
  obtain ⟨i, hi, rfl⟩ := mem_getD hm
  obtain ⟨j, hj, rfl⟩ := mem_getD hn
  rw [valid_inj h hi hj e]

theorem live_iff {r : List Nd} {x : Int} : live r x = true ↔ ∃ n ∈ r, n.id = x := by
  unfold live; rw [List.any_eq_true]; simp
theorem fnd_lt {r : List Nd} {x : Int} : fnd r x < r.length := by
  rcases fnd_cases r x with ⟨h, -⟩ | ⟨k, hk, h, -, -⟩ <;> rw [h] <;> omega
theorem fnd_live_iff {r : List Nd} {x : Int} : 0 ≤ fnd r x ↔ live r x = true := by
  have := fnd_live r x
  rw [← this]; simp
theorem fnd_dead_iff {r : List Nd} {x : Int} : fnd r x < 0 ↔ live r x = false := by
  rw [← Bool.not_eq_true, ← fnd_live_iff]; omega
theorem fnd_at {r : List Nd} {x : Int} (h : live r x = true) : ∃ k, k < r.length ∧ fnd r x = (k : Int) ∧ (fnd r x).toNat = k ∧ (r.getD k default).id = x := by
  rcases fnd_cases r x with ⟨h0, -⟩ | ⟨k, hk, h1, h2, -⟩
  · have := fnd_live_iff.2 h; omega
  · exact ⟨k, hk, h1, by rw [h1]; rfl, h2⟩
theorem fnd_self {r : List Nd} (h : ringValid r = true) {k : Nat} (hk : k < r.length) : fnd r (r.getD k default).id = (k : Int) := by
  refine fnd_hit hk rfl fun j hj e => ?_
  have := valid_inj h (by omega) hk e
  omega
theorem live_ids (r : List Nd) (x : Int) : live r x = decide (x ∈ r.map Nd.id) := by
  rw [Bool.eq_iff_iff, live_iff]; simp
theorem fndFrom_ids (x : Int) : ∀ (r r' : List Nd) (k : Nat), r.map Nd.id = r'.map Nd.id → fndFrom x r k = fndFrom x r' k
  | [], [], _, _ => rfl
  | [], _ :: _, _, h => by simp at h
  | _ :: _, [], _, h => by simp at h
  | m :: r, n :: r', k, h => by
    simp at h
    rw [fndFrom, fndFrom, h.1, fndFrom_ids x r r' (k + 1) h.2]
theorem fnd_ids {r r' : List Nd} (h : r.map Nd.id = r'.map Nd.id) (x : Int) : fnd r x = fnd r' x := fndFrom_ids x r r' 0 h

theorem skip_iff {n : Nd} (h : n.after.length = 2) {x : Int} : skip n x = (btw n.id x (a0 n) || btw (a0 n) x (a1 n)) := by
  unfold skip
  rw [after2 h]
  simp [skipFrom]
theorem mem_prin {r : List Nd} {x : Int} : x ∈ prin r ↔ live r x = true ∧ ∀ n ∈ r, skip n x = false := by
  unfold prin
  rw [live_iff]
  simp only [List.mem_map, List.mem_filter, Bool.not_eq_true', List.any_eq_false]
  constructor
  · rintro ⟨n, ⟨h1, h2⟩, rfl⟩
    exact ⟨⟨n, h1, rfl⟩, fun m hm => by simpa using h2 m hm⟩
  · rintro ⟨⟨n, h1, rfl⟩, h2⟩
    exact ⟨n, ⟨h1, fun m hm => by simpa using h2 m hm⟩, rfl⟩
theorem valid_pairwise {r : List Nd} (h : ringValid r = true) : r.Pairwise fun a b => a.id < b.id := by
  rw [List.pairwise_iff_getElem]
  intro i j hi hj hij
  have := (ringValid_iff.1 h).2.2 i j hij hj
  simpa [hi, hj] using this
theorem prin_pairwise {r : List Nd} (h : ringValid r = true) : (prin r).Pairwise (· < ·) := by
  unfold prin
  rw [List.pairwise_map]
  exact (valid_pairwise h).filter _
theorem prin3 {r : List Nd} (h : ringSafe r = true) : ∃ p q s, p < q ∧ q < s ∧ p ∈ prin r ∧ q ∈ prin r ∧ s ∈ prin r := by
  unfold ringSafe safeB at h
  simp only [Bool.and_eq_true, decide_eq_true_eq] at h
  obtain ⟨h1, -, h3⟩ := h
  have hp := prin_pairwise h1
  revert h3 hp
  match prin r with
  | [] => intro h; simp at h
  | [_] => intro h; simp at h
  | [_, _] => intro h; simp at h
  | p :: q :: s :: l =>
    intro _ hp
    refine ⟨p, q, s, ?_, ?_, by simp, by simp, by simp⟩
    · exact (List.pairwise_cons.1 hp).1 q (by simp)
    · exact (List.pairwise_cons.1 (List.pairwise_cons.1 hp).2).1 s (by simp)
theorem three {l : List Int} {p q s : Int} (h1 : p < q) (h2 : q < s) (hp : p ∈ l) (hq : q ∈ l) (hs : s ∈ l) : 3 ≤ l.length := by
  match l with
  | [] => simp at hp
  | [a] => simp at hp hq; omega
  | [a, b] => simp at hp hq hs; omega
  | _ :: _ :: _ :: _ => simp

theorem ringSafe_iff {r : List Nd} : ringSafe r = true ↔ ringValid r = true ∧ (∀ n ∈ r, live r (a0 n) = true ∨ live r (a1 n) = true) ∧ ∃ p q s, p < q ∧ q < s ∧ p ∈ prin r ∧ q ∈ prin r ∧ s ∈ prin r := by
  constructor
  · intro h
    have h3 := prin3 h
    unfold ringSafe safeB at h
    simp only [Bool.and_eq_true, decide_eq_true_eq] at h
    obtain ⟨h1, h2, -⟩ := h
    refine ⟨h1, fun n hn => ?_, h3⟩
    have := List.all_eq_true.1 h2 n hn
    rw [after2 (valid_node h1 hn).2.2.1] at this
    simpa using this
  · rintro ⟨h1, h2, p, q, s, a, b, c, d, e⟩
    unfold ringSafe safeB
    rw [h1, Bool.true_and, decide_eq_true (three a b c d e), Bool.and_true, List.all_eq_true]
    intro n hn
    rw [after2 (valid_node h1 hn).2.2.1]
    simpa using h2 n hn
theorem safe_valid {r : List Nd} (h : ringSafe r = true) : ringValid r = true := (ringSafe_iff.1 h).1

theorem order_core {i a b p q s : Int} (h1 : p < q) (h2 : q < s) (u1 : btw i p a = false) (u2 : btw i q a = false) (u3 : btw i s a = false) (v1 : btw a p b = false) (v2 : btw a q b = false) (v3 : btw a s b = false) :
    btw i a b = true ∧ i ≠ a ∧ a ≠ b ∧ i ≠ b := by
  rw [btw_no] at u1 u2 u3 v1 v2 v3
  rw [btw_iff]
  obtain ⟨u11, u12⟩ := u1
  obtain ⟨u21, u22⟩ := u2
  obtain ⟨u31, u32⟩ := u3
  obtain ⟨v11, v12⟩ := v1
  obtain ⟨v21, v22⟩ := v2
  obtain ⟨v31, v32⟩ := v3
  by_cases c1 : i < a <;> by_cases c2 : a < b <;> by_cases c3 : i < b <;> omega

/-- In a safe ring the successors are in order. -/
theorem safe_order {r : List Nd} (h : ringSafe r = true) {n : Nd} (hn : n ∈ r) : btw n.id (a0 n) (a1 n) = true ∧ n.id ≠ a0 n ∧ a0 n ≠ a1 n ∧ n.id ≠ a1 n := by
  obtain ⟨h1, -, p, q, s, a, b, hp, hq, hs⟩ := ringSafe_iff.1 h
  have h2 := (valid_node h1 hn).2.2.1
  have k : ∀ x, x ∈ prin r → btw n.id x (a0 n) = false ∧ btw (a0 n) x (a1 n) = false := fun x hx => by
    have := (mem_prin.1 hx).2 n hn
    rw [skip_iff h2, Bool.or_eq_false_iff] at this
    exact this
  exact order_core a b (k p hp).1 (k q hq).1 (k s hs).1 (k p hp).2 (k q hq).2 (k s hs).2
theorem safe_len {r : List Nd} (h : ringSafe r = true) : 3 ≤ r.length := by
  unfold ringSafe safeB at h
  simp only [Bool.and_eq_true, decide_eq_true_eq] at h
  have h3 := h.2.2
  have := prinTo_length r r.length
  rw [prinTo_all] at this
  omega

/-- One node is replaced by another one at the same place. -/
theorem set_ids {r : List Nd} {k : Nat} {n : Nd} (hn : n.id = (r.getD k default).id) : (r.set k n).map Nd.id = r.map Nd.id := by
  rw [List.map_set, hn]
  by_cases hk : k < r.length
  · have : (r.getD k default).id = (r.map Nd.id)[k]'(by simpa using hk) := by simp [hk]
    rw [this, List.set_getElem_self]
  · rw [List.set_eq_of_length_le (by simpa using Nat.le_of_not_lt hk)]
theorem getD_set {r : List Nd} {k j : Nat} {n : Nd} (hk : k < r.length) : (r.set k n).getD j default = if k = j then n else r.getD j default := by
  by_cases e : k = j
  · subst e; simp [hk]
  · simp [e]
theorem set_valid {r : List Nd} {k : Nat} {n : Nd} (h : ringValid r = true) (hk : k < r.length) (hn : n.id = (r.getD k default).id) (ho : NdOk n) : ringValid (r.set k n) = true := by
  obtain ⟨h1, h2, h3⟩ := ringValid_iff.1 h
  have e : ∀ j, ((r.set k n).getD j default).id = (r.getD j default).id := fun j => by
    rw [getD_set hk]
    by_cases e : k = j
    · subst e; simp [hn]
    · simp [e]
  refine ringValid_iff.2 ⟨by simpa using h1, fun j hj => ?_, fun i j hij hj => ?_⟩
  · rw [getD_set hk]
    by_cases e : k = j
    · rw [if_pos e]; exact ho
    · rw [if_neg e]; exact h2 j (by simpa using hj)
  · rw [e, e]; exact h3 i j hij (by simpa using hj)

/-- All principals of one ring that are live in the other are principals of it. -/
def Keep (r r' : List Nd) : Prop := ∀ p, p ∈ prin r → live r' p = true → p ∈ prin r'
theorem Keep.refl (r : List Nd) : Keep r r := fun _ h _ => h

/-- The step of one node keeps a ring safe, if the new node skips no principal and has a live successor. -/
theorem safe_set {r : List Nd} {k : Nat} {n : Nd} (h : ringSafe r = true) (hk : k < r.length) (hn : n.id = (r.getD k default).id) (ho : NdOk n)
    (hl : live r (a0 n) = true ∨ live r (a1 n) = true) (hp : ∀ p, p ∈ prin r → skip n p = false) : ringSafe (r.set k n) = true ∧ ∀ p, p ∈ prin r → p ∈ prin (r.set k n) := by
  obtain ⟨h1, h2, p, q, s, a, b, c, d, e⟩ := ringSafe_iff.1 h
  have hi : ∀ x, live (r.set k n) x = live r x := fun x => by rw [live_ids, live_ids, set_ids hn]
  have hkeep : ∀ p, p ∈ prin r → p ∈ prin (r.set k n) := fun p hpp => by
    refine mem_prin.2 ⟨by rw [hi]; exact (mem_prin.1 hpp).1, fun m hm => ?_⟩
    rcases List.mem_or_eq_of_mem_set hm with hm | rfl
    · exact (mem_prin.1 hpp).2 m hm
    · exact hp p hpp
  refine ⟨ringSafe_iff.2 ⟨set_valid h1 hk hn ho, fun m hm => ?_, p, q, s, a, b, hkeep p c, hkeep q d, hkeep s e⟩, hkeep⟩
  rw [hi, hi]
  rcases List.mem_or_eq_of_mem_set hm with hm | rfl
  · exact h2 m hm
  · exact hl

theorem setAfter_at {r : List Nd} {k : Nat} (A : List Int) (hk : k < r.length) : (setAfter r k A).getD k default = { r.getD k default with after := A } := by
  unfold setAfter; rw [getD_set hk, if_pos rfl]
theorem setBefore_at {r : List Nd} {k : Nat} (b : Int) (hk : k < r.length) : (setBefore r k b).getD k default = { r.getD k default with before := b } := by
  unfold setBefore; rw [getD_set hk, if_pos rfl]
theorem setAfter_other {r : List Nd} {k j : Nat} (A : List Int) (hk : k < r.length) (h : j ≠ k) : (setAfter r k A).getD j default = r.getD j default := by
  unfold setAfter; rw [getD_set hk, if_neg (Ne.symm h)]
theorem setBefore_other {r : List Nd} {k j : Nat} (b : Int) (hk : k < r.length) (h : j ≠ k) : (setBefore r k b).getD j default = r.getD j default := by
  unfold setBefore; rw [getD_set hk, if_neg (Ne.symm h)]
theorem setAfter_ids (r : List Nd) (k : Nat) (A : List Int) : (setAfter r k A).map Nd.id = r.map Nd.id := set_ids rfl
theorem setBefore_ids (r : List Nd) (k : Nat) (b : Int) : (setBefore r k b).map Nd.id = r.map Nd.id := set_ids rfl
theorem followK_ids (r : List Nd) (k s : Nat) : (followK r k s).map Nd.id = r.map Nd.id := setAfter_ids _ _ _
theorem dropK_ids (r : List Nd) (k : Nat) : (dropK r k).map Nd.id = r.map Nd.id := by
  unfold dropK; split
  · exact setAfter_ids _ _ _
  · rfl
theorem adoptK_ids (r : List Nd) (k : Nat) : (adoptK r k).map Nd.id = r.map Nd.id := by
  unfold adoptK; split
  · exact followK_ids _ _ _
  · rfl
theorem closerK_ids (r : List Nd) (k : Nat) (o : Int) : (closerK r k o).map Nd.id = r.map Nd.id := by
  unfold closerK; split
  · exact followK_ids _ _ _
  · rfl
theorem notifyK_ids (r : List Nd) (k : Nat) (o : Int) : (notifyK r k o).map Nd.id = r.map Nd.id := by
  unfold notifyK; split
  · exact setBefore_ids _ _ _
  · rfl
theorem ids_len {r r' : List Nd} (h : r'.map Nd.id = r.map Nd.id) : r'.length = r.length := by simpa using congrArg List.length h
theorem ids_live {r r' : List Nd} (h : r'.map Nd.id = r.map Nd.id) (x : Int) : live r' x = live r x := by rw [live_ids, live_ids, h]
theorem ids_at {r r' : List Nd} (h : r'.map Nd.id = r.map Nd.id) (j : Nat) : (r'.getD j default).id = (r.getD j default).id := by
  have hl := ids_len h
  have h1 : (r'.map Nd.id).getD j (default : Nd).id = (r.map Nd.id).getD j (default : Nd).id := by rw [h]
  simp only [List.getD_eq_getElem?_getD, List.getElem?_map] at h1
  by_cases hj : j < r.length
  · have hj' : j < r'.length := by omega
    simpa [hj, hj'] using h1
  · have hj' : ¬ j < r'.length := by omega
    simp [List.getElem?_eq_none (Nat.le_of_not_lt hj), List.getElem?_eq_none (Nat.le_of_not_lt hj')]

/-- A safe step: safe, the same nodes, the principals kept. -/
def Fine (r r' : List Nd) : Prop := ringSafe r' = true ∧ r'.map Nd.id = r.map Nd.id ∧ ∀ p, p ∈ prin r → p ∈ prin r'
theorem Fine.refl {r : List Nd} (h : ringSafe r = true) : Fine r r := ⟨h, rfl, fun _ h => h⟩
theorem Fine.trans {a b c : List Nd} (h : Fine a b) (h' : Fine b c) : Fine a c := ⟨h'.1, h'.2.1.trans h.2.1, fun p hp => h'.2.2 p (h.2.2 p hp)⟩
theorem Fine.len {a b : List Nd} (h : Fine a b) : b.length = a.length := ids_len h.2.1
theorem Fine.live_eq {a b : List Nd} (h : Fine a b) (x : Int) : live b x = live a x := ids_live h.2.1 x
theorem Fine.fnd_eq {a b : List Nd} (h : Fine a b) (x : Int) : fnd b x = fnd a x := fnd_ids h.2.1 x
theorem Fine.id_eq {a b : List Nd} (h : Fine a b) (j : Nat) : (b.getD j default).id = (a.getD j default).id := ids_at h.2.1 j

theorem prin_skips {r : List Nd} (h : ringSafe r = true) {p : Int} (hp : p ∈ prin r) {k : Nat} (hk : k < r.length) : btw (r.getD k default).id p (a0 (r.getD k default)) = false ∧ btw (a0 (r.getD k default)) p (a1 (r.getD k default)) = false := by
  have hm := getD_mem hk
  have := (mem_prin.1 hp).2 _ hm
  rw [skip_iff (valid_node (safe_valid h) hm).2.2.1, Bool.or_eq_false_iff] at this
  exact this
theorem skip_mk {i b x y z : Int} : skip ⟨i, b, [x, y]⟩ z = (btw i z x || btw x z y) := by simp [skip, skipFrom]

theorem next_ok {y : Int} : okP ((y + 1) % 64) = true := by rw [okP_def]; omega
theorem btw_next {y z : Int} (hy : okP y = true) (hz : okP z = true) : btw y z ((y + 1) % 64) = false := by
  rw [okP_def] at *; rw [btw_no]; omega

theorem live_ok {r : List Nd} (h : ringValid r = true) {x : Int} (hx : live r x = true) : okP x = true := by
  obtain ⟨n, hn, rfl⟩ := live_iff.1 hx
  exact (valid_node h hn).1

theorem dropOk_t {r : List Nd} {k : Nat} : dropOk r k = true ↔ live r (a0 (r.getD k default)) = false := by
  unfold dropOk; rw [decide_eq_true_eq]; exact fnd_dead_iff
theorem dropOk_f {r : List Nd} {k : Nat} : dropOk r k = false ↔ live r (a0 (r.getD k default)) = true := by
  unfold dropOk; rw [decide_eq_false_iff_not, ← fnd_live_iff]; omega
theorem adoptOk_t {r : List Nd} {k : Nat} : adoptOk r k = true ↔ live r (a0 (r.getD k default)) = true := by
  unfold adoptOk; rw [decide_eq_true_eq]; exact fnd_live_iff
theorem dropK_fine {r : List Nd} (h : ringSafe r = true) {k : Nat} (hk : k < r.length) : Fine r (dropK r k) := by
  unfold dropK
  split
  · rename_i hd
    have hdead := dropOk_t.1 hd
    have hm := getD_mem hk
    have ho := valid_node (safe_valid h) hm
    have h1 : live r (a1 (r.getD k default)) = true := by
      rcases (ringSafe_iff.1 h).2.1 _ hm with h' | h'
      · rw [hdead] at h'; cases h'
      · exact h'
    have hor := safe_order h hm
    have := safe_set (n := { r.getD k default with after := [a1 (r.getD k default), (a1 (r.getD k default) + 1) % 64] }) h hk rfl (NdOk.mk2 ho.1 ho.2.1 ho.a1ok next_ok) (.inl h1) (fun p hp => by
      obtain ⟨s1, s2⟩ := prin_skips h hp hk
      have hpl := (mem_prin.1 hp).1
      have hpk := live_ok (safe_valid h) hpl
      have hne : p ≠ a0 (r.getD k default) := fun e => by rw [e, hdead] at hpl; cases hpl
      rw [skip_mk, btw_next ho.a1ok hpk, Bool.or_false]
      have := hor.1
      rw [btw_iff] at this
      rw [btw_no] at s1 s2 ⊢
      omega)
    exact ⟨this.1, setAfter_ids _ _ _, this.2⟩
  · exact Fine.refl h
theorem follow_fine {r : List Nd} (h : ringSafe r = true) {k s : Nat} (hk : k < r.length) (hs : s < r.length)
    (hb : (r.getD s default).id = a0 (r.getD k default) ∨ btw (r.getD k default).id (r.getD s default).id (a0 (r.getD k default)) = true) : Fine r (followK r k s) := by
  have hm := getD_mem hk
  have hms := getD_mem hs
  have ho := valid_node (safe_valid h) hm
  have hos := valid_node (safe_valid h) hms
  have := safe_set (n := { r.getD k default with after := [(r.getD s default).id, a0 (r.getD s default)] }) h hk rfl (NdOk.mk2 ho.1 ho.2.1 hos.1 hos.a0ok) (.inl (live_iff.2 ⟨_, hms, rfl⟩)) (fun p hp => by
    obtain ⟨s1, -⟩ := prin_skips h hp hk
    obtain ⟨s2, -⟩ := prin_skips h hp hs
    rw [skip_mk, s2, Bool.or_false]
    rcases hb with e | e
    · rw [e]; exact s1
    · rw [btw_iff] at e
      rw [btw_no] at s1 ⊢
      omega)
  exact ⟨this.1, setAfter_ids _ _ _, this.2⟩
theorem adoptK_fine {r : List Nd} (h : ringSafe r = true) {k : Nat} (hk : k < r.length) : Fine r (adoptK r k) := by
  unfold adoptK
  split
  · rename_i hd
    have hl := adoptOk_t.1 hd
    obtain ⟨s, hs, -, e, he⟩ := fnd_at hl
    rw [e]
    exact follow_fine h hk hs (.inl he)
  · exact Fine.refl h
theorem closerK_fine {r : List Nd} (h : ringSafe r = true) {k : Nat} (hk : k < r.length) (o : Int) : Fine r (closerK r k o) := by
  unfold closerK
  split
  · rename_i hd
    unfold closerOk at hd
    simp only [Bool.and_eq_true, decide_eq_true_eq] at hd
    obtain ⟨s, hs, -, e, he⟩ := fnd_at (fnd_live_iff.1 hd.1)
    rw [e]
    exact follow_fine h hk hs (.inr (by rw [he]; exact hd.2))
  · exact Fine.refl h
theorem notifyK_fine {r : List Nd} (h : ringSafe r = true) {k : Nat} (hk : k < r.length) (o : Int) : Fine r (notifyK r k o) := by
  unfold notifyK
  split
  · rename_i hd
    unfold notifyOk at hd
    simp only [Bool.and_eq_true, decide_eq_true_eq] at hd
    have hm := getD_mem hk
    have ho := valid_node (safe_valid h) hm
    have hlo := fnd_live_iff.1 hd.1.1
    have := safe_set (n := { r.getD k default with before := o }) h hk rfl ⟨ho.1, .inr (live_ok (safe_valid h) hlo), ho.2.2.1, ho.2.2.2⟩ (by have := (ringSafe_iff.1 h).2.1 _ hm; exact this) (fun p hp => by
      have := (mem_prin.1 hp).2 _ hm
      exact this)
    exact ⟨this.1, setBefore_ids _ _ _, this.2⟩
  · exact Fine.refl h

/-- Node k stabilizes. -/
def stab2 (r : List Nd) (k : Nat) : List Nd := adoptK (dropK r k) k
def stabS (r : List Nd) (k : Nat) : Nat := (fnd r (a0 (r.getD k default))).toNat
def stabB (r : List Nd) (k : Nat) : Int := (r.getD (stabS r k) default).before
def stab3 (r : List Nd) (k : Nat) : List Nd := if 0 ≤ stabB r k then closerK r k (stabB r k) else r
def stab4 (r : List Nd) (k : Nat) : List Nd := notifyK r (stabS r k) (r.getD k default).id
def stabK (r : List Nd) (k : Nat) : List Nd := stab4 (stab3 (stab2 r k) k) k
def roundTo (r : List Nd) : Nat → List Nd
  | 0 => r
  | k + 1 => stabK (roundTo r k) k
def roundK (r : List Nd) : List Nd := roundTo r r.length
def rStab (r : List Nd) (id : Int) : List Nd := stepR (ringSafe r && okP id) r id fun k => stabK r k
def rStabOk (r : List Nd) (id : Int) : Bool := stepB (ringSafe r && okP id) r id fun _ => true
def rRound (r : List Nd) : List Nd := if ringSafe r then roundK r else []

/-- Behind a drop the first successor is live. -/
theorem dropK_live {r : List Nd} (h : ringSafe r = true) {k : Nat} (hk : k < r.length) : live (dropK r k) (a0 ((dropK r k).getD k default)) = true := by
  rw [(dropK_fine h hk).live_eq]
  unfold dropK
  cases hd : dropOk r k
  · rw [if_neg (by simp)]
    exact dropOk_f.1 hd
  · rw [if_pos rfl, setAfter_at _ hk]
    have hdead := dropOk_t.1 hd
    rcases (ringSafe_iff.1 h).2.1 _ (getD_mem hk) with h' | h'
    · rw [hdead] at h'; cases h'
    · exact h'
theorem dropOk_again {r : List Nd} (h : ringSafe r = true) {k : Nat} (hk : k < r.length) : dropOk (dropK r k) k = false := dropOk_f.2 (dropK_live h hk)
theorem adoptK_a0 {r : List Nd} {k : Nat} (hk : k < r.length) : a0 ((adoptK r k).getD k default) = a0 (r.getD k default) := by
  unfold adoptK
  split
  · rename_i hd
    obtain ⟨s, hs, -, e, he⟩ := fnd_at (adoptOk_t.1 hd)
    unfold followK
    rw [e, setAfter_at _ hk]
    exact he
  · rfl
theorem stab2_fine {r : List Nd} (h : ringSafe r = true) {k : Nat} (hk : k < r.length) : Fine r (stab2 r k) := by
  have h1 := dropK_fine h hk
  exact h1.trans (adoptK_fine h1.1 (by rw [h1.len]; exact hk))
theorem stab2_live {r : List Nd} (h : ringSafe r = true) {k : Nat} (hk : k < r.length) : live r (a0 ((stab2 r k).getD k default)) = true := by
  have h1 := dropK_fine h hk
  unfold stab2
  rw [adoptK_a0 (by rw [h1.len]; exact hk), ← h1.live_eq]
  exact dropK_live h hk
theorem stab3_fine {r : List Nd} (h : ringSafe r = true) {k : Nat} (hk : k < r.length) : Fine r (stab3 r k) := by
  unfold stab3
  split
  · exact closerK_fine h hk _
  · exact Fine.refl h
theorem closerK_a0 {r : List Nd} {k : Nat} (hk : k < r.length) (o : Int) (hl : live r (a0 (r.getD k default)) = true) : live r (a0 ((closerK r k o).getD k default)) = true := by
  unfold closerK
  split
  · rename_i hd
    unfold closerOk at hd
    simp only [Bool.and_eq_true, decide_eq_true_eq] at hd
    obtain ⟨s, hs, -, e, he⟩ := fnd_at (fnd_live_iff.1 hd.1)
    unfold followK
    rw [e, setAfter_at _ hk]
    exact live_iff.2 ⟨_, getD_mem hs, rfl⟩
  · exact hl
theorem stab3_live {r : List Nd} {k : Nat} (hk : k < r.length) (hl : live r (a0 (r.getD k default)) = true) : live r (a0 ((stab3 r k).getD k default)) = true := by
  unfold stab3
  split
  · exact closerK_a0 hk _ hl
  · exact hl
theorem stabS_lt {r : List Nd} {k : Nat} (hl : live r (a0 (r.getD k default)) = true) : stabS r k < r.length ∧ (r.getD (stabS r k) default).id = a0 (r.getD k default) ∧ fnd r (a0 (r.getD k default)) = (stabS r k : Int) := by
  obtain ⟨s, hs, e1, e, he⟩ := fnd_at hl
  unfold stabS
  rw [e]
  exact ⟨hs, he, e1⟩
/-- What the stages of stabilizing are. -/
theorem stab_stages {r : List Nd} (h : ringSafe r = true) {k : Nat} (hk : k < r.length) :
    Fine r (stab2 r k) ∧ Fine r (stab3 (stab2 r k) k) ∧ Fine r (stabK r k) ∧ live (stab2 r k) (a0 ((stab2 r k).getD k default)) = true ∧ live (stab3 (stab2 r k) k) (a0 ((stab3 (stab2 r k) k).getD k default)) = true := by
  have h2 := stab2_fine h hk
  have hk2 : k < (stab2 r k).length := by rw [h2.len]; exact hk
  have l2 : live (stab2 r k) (a0 ((stab2 r k).getD k default)) = true := by rw [h2.live_eq]; exact stab2_live h hk
  have h3 := stab3_fine h2.1 hk2
  have l3 := stab3_live hk2 l2
  rw [← h3.live_eq] at l3
  have h23 := h2.trans h3
  exact ⟨h2, h23, h23.trans (notifyK_fine h3.1 (stabS_lt l3).1 _), l2, l3⟩
theorem stabK_fine {r : List Nd} (h : ringSafe r = true) {k : Nat} (hk : k < r.length) : Fine r (stabK r k) := (stab_stages h hk).2.2.1
theorem roundTo_fine {r : List Nd} (h : ringSafe r = true) : ∀ k, k ≤ r.length → Fine r (roundTo r k)
  | 0, _ => Fine.refl h
  | k + 1, hk => by
    have ih := roundTo_fine h k (by omega)
    exact ih.trans (stabK_fine ih.1 (by rw [ih.len]; omega))
theorem roundK_fine {r : List Nd} (h : ringSafe r = true) : Fine r (roundK r) := roundTo_fine h _ (Nat.le_refl _)

def sumTo (f : Nat → Int) : Nat → Int
  | 0 => 0
  | n + 1 => sumTo f n + f n
theorem sumTo_le {f g : Nat → Int} : ∀ {n : Nat}, (∀ i, i < n → f i ≤ g i) → sumTo f n ≤ sumTo g n
  | 0, _ => Int.le_refl _
  | n + 1, h => by
    have := sumTo_le (n := n) (fun i hi => h i (by omega))
    have := h n (by omega)
    simp only [sumTo]; omega
theorem sumTo_lt {f g : Nat → Int} {k : Nat} : ∀ {n : Nat}, k < n → (∀ i, i < n → f i ≤ g i) → f k < g k → sumTo f n < sumTo g n
  | 0, hk, _, _ => by omega
  | n + 1, hk, h, hl => by
    have h2 := h n (by omega)
    simp only [sumTo]
    by_cases e : k = n
    · subst e
      have := sumTo_le (n := k) (fun i hi => h i (by omega))
      omega
    · have := sumTo_lt (n := n) (k := k) (by omega) (fun i hi => h i (by omega)) hl
      omega
theorem sumTo_nonneg {f : Nat → Int} : ∀ {n : Nat}, (∀ i, i < n → 0 ≤ f i) → 0 ≤ sumTo f n
  | 0, _ => Int.le_refl _
  | n + 1, h => by
    have := sumTo_nonneg (n := n) (fun i hi => h i (by omega))
    have := h n (by omega)
    simp only [sumTo]; omega

theorem dist_bounds {a b : Int} : 0 ≤ dist a b ∧ dist a b < 64 := by unfold dist; omega
theorem dist_btw {a x b : Int} (ha : okP a = true) (hx : okP x = true) (hb : okP b = true) (h : btw a x b = true) (hab : a ≠ b) : dist a x < dist a b ∧ dist x b < dist a b ∧ x ≠ a ∧ x ≠ b := by
  rw [okP_def] at *; rw [btw_iff] at h; unfold dist; omega

/-- The first live successor. -/
def fl (r : List Nd) (k : Nat) : Int := if live r (a0 (r.getD k default)) then a0 (r.getD k default) else a1 (r.getD k default)
def dK (r : List Nd) (k : Nat) : Int := dist (r.getD k default).id (fl r k)
def bK (r : List Nd) (k : Nat) : Int :=
  if live r (r.getD k default).before then (if (r.getD k default).before = (r.getD k default).id then 64 else dist (r.getD k default).before (r.getD k default).id) else 65
def pot (r : List Nd) : Int := sumTo (fun j => dK r j + bK r j) r.length
theorem dK_nonneg (r : List Nd) (k : Nat) : 0 ≤ dK r k := dist_bounds.1
theorem bK_nonneg (r : List Nd) (k : Nat) : 0 ≤ bK r k := by
  unfold bK; have := (@dist_bounds (r.getD k default).before (r.getD k default).id).1
  split
  · split <;> omega
  · omega
theorem pot_nonneg (r : List Nd) : 0 ≤ pot r := sumTo_nonneg fun i _ => by have := dK_nonneg r i; have := bK_nonneg r i; omega

theorem fl_live {r : List Nd} (h : ringSafe r = true) {k : Nat} (hk : k < r.length) : live r (fl r k) = true := by
  unfold fl
  split
  · assumption
  · rename_i hn
    rcases (ringSafe_iff.1 h).2.1 _ (getD_mem hk) with h' | h'
    · exact absurd h' hn
    · exact h'
theorem fl_ne {r : List Nd} (h : ringSafe r = true) {k : Nat} (hk : k < r.length) : fl r k ≠ (r.getD k default).id := by
  have := safe_order h (getD_mem hk)
  unfold fl
  split
  · exact fun e => this.2.1 e.symm
  · exact fun e => this.2.2.2 e.symm
def flS (r : List Nd) (k : Nat) : Nat := (fnd r (fl r k)).toNat
theorem flS_lt {r : List Nd} (h : ringSafe r = true) {k : Nat} (hk : k < r.length) : flS r k < r.length ∧ (r.getD (flS r k) default).id = fl r k ∧ fnd r (fl r k) = (flS r k : Int) ∧ flS r k ≠ k := by
  obtain ⟨s, hs, e1, e2, e3⟩ := fnd_at (fl_live h hk)
  unfold flS
  rw [e2]
  refine ⟨hs, e3, e1, fun e => ?_⟩
  subst e
  exact fl_ne h hk e3.symm

theorem setAfter_twice (r : List Nd) (k : Nat) (A B : List Int) : setAfter (setAfter r k A) k B = setAfter r k B := by
  by_cases hk : k < r.length
  · have h1 : (setAfter r k A).getD k default = { r.getD k default with after := A } := setAfter_at A hk
    show (setAfter r k A).set k { (setAfter r k A).getD k default with after := B } = _
    rw [h1]
    unfold setAfter
    rw [List.set_set]
  · have h1 : setAfter r k A = r := by unfold setAfter; exact List.set_eq_of_length_le (Nat.le_of_not_lt hk)
    rw [h1]

theorem stab2_eq {r : List Nd} (h : ringSafe r = true) {k : Nat} (hk : k < r.length) : stab2 r k = setAfter r k [fl r k, a0 (r.getD (flS r k) default)] := by
  obtain ⟨s1, s2, s3, s4⟩ := flS_lt h hk
  unfold stab2 dropK
  cases hd : dropOk r k
  · have hl : live r (a0 (r.getD k default)) = true := dropOk_f.1 hd
    have hf : fl r k = a0 (r.getD k default) := by unfold fl; rw [if_pos hl]
    rw [if_neg (by simp)]
    unfold adoptK
    have ha : adoptOk r k = true := adoptOk_t.2 hl
    rw [if_pos ha]
    unfold followK
    have e : (fnd r (a0 (r.getD k default))).toNat = flS r k := by unfold flS; rw [hf]
    rw [e, s2]
  · have hl : live r (a0 (r.getD k default)) = false := dropOk_t.1 hd
    have hf : fl r k = a1 (r.getD k default) := by unfold fl; rw [if_neg (by rw [hl]; simp)]
    rw [if_pos rfl]
    have hi : (setAfter r k [a1 (r.getD k default), (a1 (r.getD k default) + 1) % 64]).map Nd.id = r.map Nd.id := setAfter_ids _ _ _
    have ha0 : a0 ((setAfter r k [a1 (r.getD k default), (a1 (r.getD k default) + 1) % 64]).getD k default) = fl r k := by rw [setAfter_at _ hk, hf]; rfl
    unfold adoptK
    have ha : adoptOk (setAfter r k [a1 (r.getD k default), (a1 (r.getD k default) + 1) % 64]) k = true := by
      rw [adoptOk_t, ha0, ids_live hi]; exact fl_live h hk
    rw [if_pos ha]
    unfold followK
    rw [ha0, fnd_ids hi]
    have e : (fnd r (fl r k)).toNat = flS r k := rfl
    rw [e, setAfter_other _ hk s4, setAfter_twice, s2]

theorem live_set {r : List Nd} {k : Nat} {n : Nd} (hn : n.id = (r.getD k default).id) (x : Int) : live (r.set k n) x = live r x := by rw [live_ids, live_ids, set_ids hn]
theorem dK_set {r : List Nd} {k : Nat} {n : Nd} (hk : k < r.length) (hn : n.id = (r.getD k default).id) : dK (r.set k n) k = dist n.id (if live r (a0 n) then a0 n else a1 n) := by
  unfold dK fl; rw [getD_set hk, if_pos rfl, live_set hn]
theorem bK_set {r : List Nd} {k : Nat} {n : Nd} (hk : k < r.length) (hn : n.id = (r.getD k default).id) : bK (r.set k n) k = if live r n.before then (if n.before = n.id then 64 else dist n.before n.id) else 65 := by
  unfold bK; rw [getD_set hk, if_pos rfl, live_set hn]
/-- The potential after a node was replaced. -/
theorem pot_set_le {r : List Nd} {k : Nat} {n : Nd} (hk : k < r.length) (hn : n.id = (r.getD k default).id) (hd : dK (r.set k n) k + bK (r.set k n) k ≤ dK r k + bK r k) : pot (r.set k n) ≤ pot r := by
  unfold pot
  rw [List.length_set]
  refine sumTo_le fun i _ => ?_
  by_cases e : k = i
  · subst e; exact hd
  · have e1 : dK (r.set k n) i = dK r i := by unfold dK fl; rw [getD_set hk, if_neg e, live_set hn]
    have e2 : bK (r.set k n) i = bK r i := by unfold bK; rw [getD_set hk, if_neg e, live_set hn]
    rw [e1, e2]; exact Int.le_refl _
theorem pot_set_lt {r : List Nd} {k : Nat} {n : Nd} (hk : k < r.length) (hn : n.id = (r.getD k default).id) (hd : dK (r.set k n) k + bK (r.set k n) k < dK r k + bK r k) : pot (r.set k n) < pot r := by
  unfold pot
  rw [List.length_set]
  refine sumTo_lt hk (fun i _ => ?_) hd
  by_cases e : k = i
  · subst e; exact Int.le_of_lt hd
  · have e1 : dK (r.set k n) i = dK r i := by unfold dK fl; rw [getD_set hk, if_neg e, live_set hn]
    have e2 : bK (r.set k n) i = bK r i := by unfold bK; rw [getD_set hk, if_neg e, live_set hn]
    rw [e1, e2]; exact Int.le_refl _

theorem stab2_pot {r : List Nd} (h : ringSafe r = true) {k : Nat} (hk : k < r.length) : pot (stab2 r k) ≤ pot r := by
  rw [stab2_eq h hk]
  unfold setAfter
  refine pot_set_le hk rfl (Int.le_of_eq ?_)
  have hl := fl_live h hk
  have e1 : dK (r.set k { r.getD k default with after := [fl r k, a0 (r.getD (flS r k) default)] }) k = dK r k := by
    refine (dK_set hk (by rfl)).trans ?_
    show dist (r.getD k default).id (if live r (fl r k) = true then fl r k else _) = _
    rw [if_pos hl]; rfl
  have e2 : bK (r.set k { r.getD k default with after := [fl r k, a0 (r.getD (flS r k) default)] }) k = bK r k := by
    exact bK_set hk (by rfl)
  rw [e1, e2]

def fire3 (r : List Nd) (k : Nat) : Bool := decide (0 ≤ stabB r k) && closerOk r k (stabB r k)
def fire4 (r : List Nd) (k : Nat) : Bool := notifyOk r (stabS r k) (r.getD k default).id
theorem stab3_quiet {r : List Nd} {k : Nat} (h : fire3 r k = false) : stab3 r k = r := by
  unfold stab3
  split
  · rename_i h0
    unfold fire3 at h
    unfold closerK
    have : closerOk r k (stabB r k) = false := by simpa [h0] using h
    rw [this]; rfl
  · rfl
theorem stab4_quiet {r : List Nd} {k : Nat} (h : fire4 r k = false) : stab4 r k = r := by
  unfold fire4 at h
  unfold stab4 notifyK
  rw [h]; rfl
theorem stab3_pot {r : List Nd} (h : ringSafe r = true) {k : Nat} (hk : k < r.length) (hl : live r (a0 (r.getD k default)) = true) (hf : fire3 r k = true) : pot (stab3 r k) < pot r := by
  unfold fire3 at hf
  simp only [Bool.and_eq_true, decide_eq_true_eq] at hf
  unfold stab3
  rw [if_pos hf.1]
  unfold closerK
  rw [if_pos hf.2]
  have hc := hf.2
  unfold closerOk at hc
  simp only [Bool.and_eq_true, decide_eq_true_eq] at hc
  obtain ⟨s, hs, -, e, he⟩ := fnd_at (fnd_live_iff.1 hc.1)
  rw [e]
  unfold followK setAfter
  refine pot_set_lt hk rfl ?_
  have hv := safe_valid h
  have ho := safe_order h (getD_mem hk)
  have e1 : dK (r.set k { r.getD k default with after := [(r.getD s default).id, a0 (r.getD s default)] }) k = dist (r.getD k default).id (r.getD s default).id := by
    refine (dK_set hk (by rfl)).trans ?_
    show dist (r.getD k default).id (if live r (r.getD s default).id = true then (r.getD s default).id else _) = _
    rw [if_pos (live_iff.2 ⟨_, getD_mem hs, rfl⟩)]
  have e2 : bK (r.set k { r.getD k default with after := [(r.getD s default).id, a0 (r.getD s default)] }) k = bK r k := by
    exact bK_set hk (by rfl)
  rw [e1, e2]
  have e3 : dK r k = dist (r.getD k default).id (a0 (r.getD k default)) := by unfold dK fl; rw [if_pos hl]
  rw [e3]
  have := dist_btw (valid_node hv (getD_mem hk)).1 (valid_node hv (getD_mem hs)).1 (live_ok hv hl) (by rw [he]; exact hc.2) ho.2.1
  omega
theorem stab4_pot {r : List Nd} (h : ringSafe r = true) {k : Nat} (hk : k < r.length) (hl : live r (a0 (r.getD k default)) = true) (hf : fire4 r k = true) : pot (stab4 r k) < pot r := by
  obtain ⟨hs, he, -⟩ := stabS_lt hl
  have hv := safe_valid h
  unfold stab4 notifyK
  have hf' := hf
  unfold fire4 at hf
  rw [if_pos hf]
  unfold setBefore
  refine pot_set_lt hs rfl ?_
  obtain ⟨s, hse⟩ : ∃ s, stabS r k = s := ⟨_, rfl⟩
  rw [hse] at hs he hf ⊢
  unfold notifyOk at hf
  simp only [Bool.and_eq_true, decide_eq_true_eq, Bool.not_eq_true', beq_eq_false_iff_ne] at hf
  obtain ⟨⟨h1, h2⟩, h3⟩ := hf
  have hlo := fnd_live_iff.1 h1
  have e1 : dK (r.set s { r.getD s default with before := (r.getD k default).id }) s = dK r s := by
    exact dK_set hs (by rfl)
  have e2 : bK (r.set s { r.getD s default with before := (r.getD k default).id }) s = dist (r.getD k default).id (r.getD s default).id := by
    refine (bK_set hs (by rfl)).trans ?_
    show (if live r (r.getD k default).id = true then (if (r.getD k default).id = (r.getD s default).id then 64 else dist (r.getD k default).id (r.getD s default).id) else 65) = _
    rw [if_pos hlo, if_neg h2]
  rw [e1, e2]
  have hd := @dist_bounds (r.getD k default).id (r.getD s default).id
  unfold bK
  cases hlb : live r (r.getD s default).before
  · rw [if_neg (by simp)]; omega
  · rw [if_pos rfl]
    by_cases hself : (r.getD s default).before = (r.getD s default).id
    · rw [if_pos hself]; omega
    · rw [if_neg hself]
      have hb0 : 0 ≤ (r.getD s default).before := (okP_def.1 (live_ok hv hlb)).1
      have hb1 := fnd_live_iff.2 hlb
      have hbt : btw (r.getD s default).before (r.getD k default).id (r.getD s default).id = true := by
        rw [decide_eq_true hb0, decide_eq_true hb1] at h3; simpa using h3
      have := dist_btw (live_ok hv hlb) (valid_node hv (getD_mem hk)).1 (valid_node hv (getD_mem hs)).1 hbt hself
      omega

/-- A node stabilizes: the potential falls, or the node has only dropped and adopted. -/
theorem stab_pot {r : List Nd} (h : ringSafe r = true) {k : Nat} (hk : k < r.length) :
    pot (stabK r k) < pot r ∨ (stabK r k = stab2 r k ∧ pot (stabK r k) ≤ pot r ∧ fire3 (stab2 r k) k = false ∧ fire4 (stab2 r k) k = false) := by
  obtain ⟨h2, h3, -, l2, l3⟩ := stab_stages h hk
  have hk2 : k < (stab2 r k).length := by rw [h2.len]; exact hk
  have hk3 : k < (stab3 (stab2 r k) k).length := by rw [h3.len]; exact hk
  have p2 := stab2_pot h hk
  unfold stabK
  cases f3 : fire3 (stab2 r k) k
  · have e3 := stab3_quiet f3
    rw [e3] at l3 hk3 ⊢
    cases f4 : fire4 (stab2 r k) k
    · have e4 := stab4_quiet f4
      rw [e4]
      exact .inr ⟨rfl, p2, rfl, rfl⟩
    · have := stab4_pot h2.1 hk2 l2 f4
      exact .inl (by omega)
  · have p3 := stab3_pot h2.1 hk2 l2 f3
    cases f4 : fire4 (stab3 (stab2 r k) k) k
    · rw [stab4_quiet f4]
      exact .inl (by omega)
    · have := stab4_pot h3.1 hk3 l3 f4
      exact .inl (by omega)
theorem round_pot {r : List Nd} (h : ringSafe r = true) : ∀ k, k ≤ r.length → pot (roundTo r k) ≤ pot r
  | 0, _ => Int.le_refl _
  | k + 1, hk => by
    have ih := round_pot h k (by omega)
    have hf := roundTo_fine h k (by omega)
    have hkl : k < (roundTo r k).length := by rw [hf.len]; omega
    show pot (stabK (roundTo r k) k) ≤ _
    rcases stab_pot hf.1 hkl with h' | ⟨-, h', -⟩ <;> omega
/-- If the potential stays, no node did more than drop and adopt. -/
theorem round_quiet {r : List Nd} (h : ringSafe r = true) : ∀ n, n ≤ r.length → pot (roundTo r n) = pot r → ∀ k, k < n →
    stabK (roundTo r k) k = stab2 (roundTo r k) k ∧ fire3 (stab2 (roundTo r k) k) k = false ∧ fire4 (stab2 (roundTo r k) k) k = false
  | 0, _, _, k, hk => by omega
  | n + 1, hn, hp, k, hk => by
    have hf := roundTo_fine h n (by omega)
    have hkl : n < (roundTo r n).length := by rw [hf.len]; omega
    have ih := round_pot h n (by omega)
    have hp' : pot (stabK (roundTo r n) n) = pot r := hp
    rcases stab_pot hf.1 hkl with h' | ⟨h1, h2, h3, h4⟩
    · omega
    · by_cases e : k = n
      · subst e; exact ⟨h1, h3, h4⟩
      · exact round_quiet h n (by omega) (by omega) k (by omega)

/-- A quiet round, node by node. -/
theorem quiet_nodes {r : List Nd} (h : ringSafe r = true) (hp : pot (roundK r) = pot r) : ∀ k, k ≤ r.length →
    (∀ j, k ≤ j → (roundTo r k).getD j default = r.getD j default) ∧
    (∀ j, j < k → (roundTo r k).getD j default = { r.getD j default with after := [fl r j, if flS r j < j then fl r (flS r j) else a0 (r.getD (flS r j) default)] })
  | 0, _ => ⟨fun _ _ => rfl, fun j hj => by omega⟩
  | k + 1, hk => by
    obtain ⟨i1, i2⟩ := quiet_nodes h hp k (by omega)
    have hf := roundTo_fine h k (by omega)
    have hkl : k < (roundTo r k).length := by rw [hf.len]; omega
    have hq := (round_quiet h r.length (Nat.le_refl _) hp k (by omega)).1
    have e : roundTo r (k + 1) = setAfter (roundTo r k) k [fl (roundTo r k) k, a0 ((roundTo r k).getD (flS (roundTo r k) k) default)] := by
      show stabK (roundTo r k) k = _
      rw [hq, stab2_eq hf.1 hkl]
    have hkn := i1 k (Nat.le_refl _)
    have hfl : fl (roundTo r k) k = fl r k := by unfold fl; rw [hkn, hf.live_eq]
    have hfs : flS (roundTo r k) k = flS r k := by unfold flS; rw [hfl, hf.fnd_eq]
    rw [hfl, hfs] at e
    obtain ⟨s1, -, -, s4⟩ := flS_lt h (show k < r.length by omega)
    have ha : a0 ((roundTo r k).getD (flS r k) default) = if flS r k < k then fl r (flS r k) else a0 (r.getD (flS r k) default) := by
      by_cases hs : flS r k < k
      · rw [if_pos hs, i2 _ hs]; rfl
      · rw [if_neg hs, i1 _ (by omega)]
    rw [ha] at e
    constructor
    · intro j hj
      rw [e, setAfter_other _ hkl (by omega)]
      exact i1 j (by omega)
    · intro j hj
      by_cases ej : j = k
      · subst ej
        rw [e, setAfter_at _ hkl, hkn]
      · rw [e, setAfter_other _ hkl ej]
        exact i2 j (by omega)

/-- All first successors are live. -/
def allLive (r : List Nd) : Prop := ∀ j, j < r.length → live r (a0 (r.getD j default)) = true
/-- All second successors are the first ones' first. -/
def allSecond (r : List Nd) : Prop := ∀ j, j < r.length → a1 (r.getD j default) = a0 (r.getD (flS r j) default)
open Classical in
noncomputable def flag (r : List Nd) : Nat := if allLive r then (if allSecond r then 0 else 1) else 2
noncomputable def meas (r : List Nd) : Nat := 3 * (pot r).toNat + flag r
theorem flag_le (r : List Nd) : flag r ≤ 2 := by unfold flag; split; split <;> omega; omega

theorem ext_nd {r r' : List Nd} (hl : r.length = r'.length) (h : ∀ j, j < r.length → r.getD j default = r'.getD j default) : r = r' := by
  refine List.ext_getElem hl fun i h1 h2 => ?_
  have := h i h1
  simpa [h1, h2] using this

theorem round_meas {r : List Nd} (h : ringSafe r = true) (hne : roundK r ≠ r) : meas (roundK r) < meas r := by
  have hF := roundK_fine h
  have hle : pot (roundK r) ≤ pot r := round_pot h _ (Nat.le_refl _)
  have n1 := pot_nonneg r
  have n2 := pot_nonneg (roundK r)
  have f2 := flag_le (roundK r)
  unfold meas
  by_cases hp : pot (roundK r) = pot r
  · have hq := (quiet_nodes h hp r.length (Nat.le_refl _)).2
    have hlen := hF.len
    have hA : allLive (roundK r) := fun j hj => by
      rw [hF.live_eq]
      have : (roundK r).getD j default = _ := hq j (by omega)
      rw [this]
      exact fl_live h (by omega)
    have f3 : flag (roundK r) ≤ 1 := by unfold flag; rw [if_pos hA]; split <;> omega
    rw [hp]
    by_cases hal : allLive r
    · have hfl : ∀ j, j < r.length → fl r j = a0 (r.getD j default) := fun j hj => by unfold fl; rw [if_pos (hal j hj)]
      have hq' : ∀ j, j < r.length → (roundK r).getD j default = { r.getD j default with after := [a0 (r.getD j default), a0 (r.getD (flS r j) default)] } := fun j hj => by
        have : (roundK r).getD j default = _ := hq j hj
        rw [this, hfl j hj]
        have hs := (flS_lt h hj).1
        split
        · rw [hfl _ hs]
        · rfl
      have hfs : ∀ j, j < r.length → flS (roundK r) j = flS r j := fun j hj => by
        unfold flS
        rw [hF.fnd_eq]
        have : fl (roundK r) j = fl r j := by
          unfold fl
          rw [if_pos (hA j (by omega)), if_pos (hal j hj), hq' j hj]
          rfl
        rw [this]
      have hS : allSecond (roundK r) := fun j hj => by
        have hj' : j < r.length := by omega
        have hs := (flS_lt h hj').1
        rw [hfs j hj', hq' j hj', hq' _ hs]
        rfl
      have f4 : flag (roundK r) = 0 := by unfold flag; rw [if_pos hA, if_pos hS]
      by_cases has : allSecond r
      · refine absurd (ext_nd hlen fun j hj => ?_) hne
        have hj' : j < r.length := by omega
        rw [hq' j hj', ← has j hj']
        have := after2 (valid_node (safe_valid h) (getD_mem hj')).2.2.1
        rw [← this]
      · have f5 : flag r = 1 := by unfold flag; rw [if_pos hal, if_neg has]
        omega
    · have f5 : flag r = 2 := by unfold flag; rw [if_neg hal]
      omega
  · omega

def idealN (L : List Int) (i : Nat) : Nd := ⟨L.getD i 0, L.getD ((i + L.length - 1) % L.length) 0, [L.getD ((i + 1) % L.length) 0, L.getD ((i + 2) % L.length) 0]⟩
/-- The ring of nodes that know their neighbours. -/
def idealR (L : List Int) : List Nd := (List.range L.length).map (idealN L)
theorem idealR_len (L : List Int) : (idealR L).length = L.length := by simp [idealR]
theorem idealR_at {L : List Int} {i : Nat} (h : i < L.length) : (idealR L).getD i default = idealN L i := by
  simp [idealR, h]
theorem idealR_ids (L : List Int) : (idealR L).map Nd.id = L := by
  refine List.ext_getElem (by simp [idealR]) fun i h1 h2 => ?_
  simp [idealR, idealN, h2]

/-- Nodes are ascending positions. -/
def nodesOk (L : List Int) : Prop := L.length ≤ 10 ∧ (∀ i, i < L.length → okP (L.getD i 0) = true) ∧ ∀ i j, i < j → j < L.length → L.getD i 0 < L.getD j 0
theorem ids_at_getD {r : List Nd} {j : Nat} (h : j < r.length) : (r.map Nd.id).getD j 0 = (r.getD j default).id := by simp [h]
theorem nodesOk_ids {r : List Nd} (h : ringValid r = true) : nodesOk (r.map Nd.id) := by
  obtain ⟨h1, h2, h3⟩ := ringValid_iff.1 h
  refine ⟨by simpa using h1, fun i hi => ?_, fun i j hij hj => ?_⟩
  · rw [ids_at_getD (by simpa using hi)]; exact (h2 i (by simpa using hi)).1
  · have hj' : j < r.length := by simpa using hj
    rw [ids_at_getD hj', ids_at_getD (by omega)]; exact h3 i j hij hj'
theorem idealR_valid {L : List Int} (h : nodesOk L) : ringValid (idealR L) = true := by
  obtain ⟨h1, h2, h3⟩ := h
  refine ringValid_iff.2 ⟨by rw [idealR_len]; exact h1, fun j hj => ?_, fun i j hij hj => ?_⟩
  · rw [idealR_len] at hj
    rw [idealR_at hj]
    have hp : 0 < L.length := by omega
    exact NdOk.mk2 (h2 _ hj) (.inr (h2 _ (Nat.mod_lt _ hp))) (h2 _ (Nat.mod_lt _ hp)) (h2 _ (Nat.mod_lt _ hp))
  · rw [idealR_len] at hj
    rw [idealR_at hj, idealR_at (by omega)]
    exact h3 i j hij hj
/-- No node lies between two neighbours. -/
theorem btw_neighbours {L : List Int} (h : nodesOk L) {i j : Nat} (hi : i < L.length) (hj : j < L.length) : btw (L.getD i 0) (L.getD j 0) (L.getD ((i + 1) % L.length) 0) = false := by
  obtain ⟨-, h2, h3⟩ := h
  have hp : 0 < L.length := by omega
  rw [btw_no]
  by_cases e : i + 1 < L.length
  · rw [Nat.mod_eq_of_lt e]
    have m1 := h3 i (i + 1) (by omega) e
    rcases Nat.lt_trichotomy i j with h' | h' | h'
    · by_cases e2 : i + 1 = j
      · subst e2; omega
      · have := h3 (i + 1) j (by omega) hj; omega
    · subst h'; omega
    · have := h3 j i h' hi; omega
  · have e' : i + 1 = L.length := by omega
    rw [e', Nat.mod_self]
    by_cases e3 : i = 0
    · have : j = 0 := by omega
      subst this; subst e3; omega
    · have m1 := h3 0 i (by omega) hi
      have m2 : L.getD j 0 ≤ L.getD i 0 := by
        by_cases e4 : j = i
        · subst e4; omega
        · have := h3 j i (by omega) hi; omega
      have m3 : L.getD 0 0 ≤ L.getD j 0 := by
        by_cases e4 : j = 0
        · subst e4; omega
        · have := h3 0 j (by omega) hj; omega
      omega
theorem mod_succ (i n : Nat) : ((i + 1) % n + 1) % n = (i + 2) % n := by
  rw [Nat.mod_add_mod]
theorem mod_back {i n : Nat} (hi : i < n) : ((i + 1) % n + n - 1) % n = i := by
  by_cases e : i + 1 < n
  · rw [Nat.mod_eq_of_lt e, show i + 1 + n - 1 = i + n by omega, Nat.add_mod_right, Nat.mod_eq_of_lt hi]
  · have : i + 1 = n := by omega
    rw [this, Nat.mod_self, Nat.zero_add, ← this, Nat.add_sub_cancel, Nat.mod_eq_of_lt (by omega)]

theorem ideal_skips {L : List Int} (h : nodesOk L) {n : Nd} (hn : n ∈ idealR L) {j : Nat} (hj : j < L.length) : skip n (L.getD j 0) = false := by
  obtain ⟨i, hi, rfl⟩ := mem_getD hn
  rw [idealR_len] at hi
  rw [idealR_at hi, idealN, skip_mk, btw_neighbours h hi hj, Bool.false_or, ← mod_succ i _]
  exact btw_neighbours h (Nat.mod_lt _ (by omega)) hj
theorem ideal_live {L : List Int} {x : Int} : live (idealR L) x = true ↔ ∃ j, j < L.length ∧ L.getD j 0 = x := by
  rw [live_ids, idealR_ids, decide_eq_true_eq]
  constructor
  · intro h
    obtain ⟨j, hj, rfl⟩ := List.getElem_of_mem h
    exact ⟨j, hj, by simp [hj]⟩
  · rintro ⟨j, hj, rfl⟩
    have : L.getD j 0 = L[j] := by simp [hj]
    rw [this]; exact List.getElem_mem hj
theorem ideal_prin {L : List Int} (h : nodesOk L) : prin (idealR L) = L := by
  have : (idealR L).filter (fun p => !((idealR L).any fun n => skip n p.id)) = idealR L := by
    rw [List.filter_eq_self]
    intro n hn
    rw [Bool.not_eq_true', List.any_eq_false]
    intro m hm
    have hl : live (idealR L) n.id = true := live_iff.2 ⟨n, hn, rfl⟩
    obtain ⟨j, hj, e⟩ := ideal_live.1 hl
    rw [← e, ideal_skips h hm hj]
    simp
  unfold prin
  rw [this, idealR_ids]
/-- An ideal ring is safe. -/
theorem ideal_safe {L : List Int} (h : nodesOk L) (h3 : 3 ≤ L.length) : ringSafe (idealR L) = true := by
  unfold ringSafe safeB
  rw [idealR_valid h, ideal_prin h, decide_eq_true h3, Bool.and_true, Bool.true_and, List.all_eq_true]
  intro n hn
  obtain ⟨i, hi, rfl⟩ := mem_getD hn
  rw [idealR_len] at hi
  rw [idealR_at hi, List.any_eq_true]
  exact ⟨L.getD ((i + 1) % L.length) 0, by simp [idealN], ideal_live.2 ⟨_, Nat.mod_lt _ (by omega), rfl⟩⟩

theorem set_self {r : List Nd} {k : Nat} (hk : k < r.length) : r.set k (r.getD k default) = r := by
  have : r.getD k default = r[k] := by simp [hk]
  rw [this, List.set_getElem_self]
theorem ideal_fnd {L : List Int} (h : nodesOk L) {j : Nat} (hj : j < L.length) : fnd (idealR L) (L.getD j 0) = (j : Int) := by
  have := fnd_self (idealR_valid h) (k := j) (by rw [idealR_len]; exact hj)
  rw [idealR_at hj] at this
  exact this
theorem btw_first (a b : Int) : btw a a b = false := by rw [btw_no]; omega
/-- In an ideal ring nothing is done when a node stabilizes. -/
theorem ideal_stab {L : List Int} (h : nodesOk L) (h3 : 3 ≤ L.length) {k : Nat} (hk : k < L.length) :
    dropOk (idealR L) k = false ∧ adoptK (idealR L) k = idealR L ∧ stab2 (idealR L) k = idealR L ∧ fire3 (idealR L) k = false ∧ fire4 (idealR L) k = false ∧ stabK (idealR L) k = idealR L := by
  have hs := ideal_safe h h3
  have hk' : k < (idealR L).length := by rw [idealR_len]; exact hk
  have hm : (k + 1) % L.length < L.length := Nat.mod_lt _ (by omega)
  have ha0 : a0 ((idealR L).getD k default) = L.getD ((k + 1) % L.length) 0 := by rw [idealR_at hk]; rfl
  have hl : live (idealR L) (a0 ((idealR L).getD k default)) = true := by rw [ha0]; exact ideal_live.2 ⟨_, hm, rfl⟩
  have hd : dropOk (idealR L) k = false := dropOk_f.2 hl
  have ha : adoptK (idealR L) k = idealR L := by
    unfold adoptK
    rw [if_pos (adoptOk_t.2 hl), ha0, ideal_fnd h hm]
    unfold followK setAfter
    have : ({ (idealR L).getD k default with after := [((idealR L).getD (((k + 1) % L.length : Nat) : Int).toNat default).id, a0 ((idealR L).getD (((k + 1) % L.length : Nat) : Int).toNat default)] } : Nd) = (idealR L).getD k default := by
      rw [Int.toNat_natCast, idealR_at hk, idealR_at hm]
      unfold idealN
      show Nd.mk _ _ [L.getD ((k + 1) % L.length) 0, L.getD (((k + 1) % L.length + 1) % L.length) 0] = _
      rw [mod_succ k _]
    rw [this, set_self hk']
  have h2 : stab2 (idealR L) k = idealR L := by
    have : dropK (idealR L) k = idealR L := by unfold dropK; rw [hd]; rfl
    unfold stab2; rw [this, ha]
  have hS : stabS (idealR L) k = (k + 1) % L.length := by unfold stabS; rw [ha0, ideal_fnd h hm]; rfl
  have hB : ((idealR L).getD ((k + 1) % L.length) default).before = L.getD k 0 := by
    rw [idealR_at hm]
    show L.getD (((k + 1) % L.length + L.length - 1) % L.length) 0 = _
    rw [mod_back hk]
  have hidk : ((idealR L).getD k default).id = L.getD k 0 := by rw [idealR_at hk]; rfl
  have f3 : fire3 (idealR L) k = false := by
    unfold fire3 stabB
    rw [hS, hB]
    unfold closerOk
    rw [hidk, btw_first]; simp
  have f4 : fire4 (idealR L) k = false := by
    unfold fire4 notifyOk
    rw [hS, hB, hidk, btw_first, decide_eq_true (okP_def.1 (h.2.1 k hk)).1, ideal_fnd h hk]
    simp
  refine ⟨hd, ha, h2, f3, f4, ?_⟩
  unfold stabK
  rw [h2, stab3_quiet f3, stab4_quiet f4]
theorem ideal_round {L : List Int} (h : nodesOk L) (h3 : 3 ≤ L.length) : roundK (idealR L) = idealR L := by
  have : ∀ k, k ≤ L.length → roundTo (idealR L) k = idealR L := by
    intro k
    induction k with
    | zero => intro _; rfl
    | succ k ih =>
      intro hk
      show stabK (roundTo (idealR L) k) k = _
      rw [ih (by omega)]
      exact (ideal_stab h h3 (by omega)).2.2.2.2.2
  unfold roundK
  rw [idealR_len]
  exact this _ (Nat.le_refl _)

/-- At rest: what holds of each node. -/
theorem rest_node {r : List Nd} (h : ringSafe r = true) (hr : roundK r = r) {k : Nat} (hk : k < r.length) :
    live r (a0 (r.getD k default)) = true ∧ a1 (r.getD k default) = a0 (r.getD (stabS r k) default) ∧ fire3 r k = false ∧ fire4 r k = false := by
  have hp : pot (roundK r) = pot r := by rw [hr]
  have hn := quiet_nodes h hp r.length (Nat.le_refl _)
  have hend : ∀ j, j < r.length → r.getD j default = { r.getD j default with after := [fl r j, if flS r j < j then fl r (flS r j) else a0 (r.getD (flS r j) default)] } := fun j hj => by
    have := hn.2 j hj
    have e : roundTo r r.length = r := hr
    rw [e] at this
    exact this
  have hA0 : ∀ j, j < r.length → a0 (r.getD j default) = fl r j := fun j hj => by
    have := congrArg a0 (hend j hj)
    exact this
  have hR : ∀ j, j ≤ r.length → roundTo r j = r := fun j hj => by
    have hf := roundTo_fine h j hj
    have hq := quiet_nodes h hp j hj
    refine ext_nd hf.len fun i hi => ?_
    by_cases e : i < j
    · rw [hq.2 i e, ← hend i (by omega)]
    · exact hq.1 i (by omega)
  obtain ⟨q1, q2, q3⟩ := round_quiet h r.length (Nat.le_refl _) hp k hk
  rw [hR k (by omega)] at q1 q2 q3
  have e2 : stab2 r k = r := by
    have := hR (k + 1) (by omega)
    have e : stabK (roundTo r k) k = r := this
    rw [hR k (by omega), q1] at e
    exact e
  rw [e2] at q2 q3
  have hl : live r (a0 (r.getD k default)) = true := by rw [hA0 k hk]; exact fl_live h hk
  refine ⟨hl, ?_, q2, q3⟩
  have hS : stabS r k = flS r k := by unfold stabS flS; rw [hA0 k hk]
  have hs := (flS_lt h hk).1
  have := congrArg a1 (hend k hk)
  rw [hS]
  refine this.trans ?_
  show (if flS r k < k then fl r (flS r k) else a0 (r.getD (flS r k) default)) = _
  split
  · exact (hA0 _ hs).symm
  · rfl

/-- At rest the first successor's predecessor is the node. -/
theorem rest_before {r : List Nd} (h : ringSafe r = true) (hr : roundK r = r) {k : Nat} (hk : k < r.length) : (r.getD (stabS r k) default).before = (r.getD k default).id := by
  obtain ⟨hl, -, f3, f4⟩ := rest_node h hr hk
  obtain ⟨hs, he, -⟩ := stabS_lt hl
  have hv := safe_valid h
  have ho := safe_order h (getD_mem hk)
  obtain ⟨b, hb⟩ : ∃ b, (r.getD (stabS r k) default).before = b := ⟨_, rfl⟩
  unfold fire3 stabB closerOk at f3
  unfold fire4 notifyOk at f4
  rw [hb] at f3 f4 ⊢
  have hlk : live r (r.getD k default).id = true := live_iff.2 ⟨_, getD_mem hk, rfl⟩
  have g1 := fnd_live_iff.2 hlk
  have hne : (r.getD k default).id ≠ (r.getD (stabS r k) default).id := by rw [he]; exact ho.2.1
  rw [decide_eq_true g1] at f4
  have hne' : ((r.getD k default).id == (r.getD (stabS r k) default).id) = false := by simpa using hne
  rw [hne'] at f4
  simp only [Bool.not_false, Bool.and_true, Bool.true_and, Bool.not_eq_false', Bool.and_eq_true, decide_eq_true_eq, Bool.not_eq_true'] at f4
  obtain ⟨⟨u1, u2⟩, u3⟩ := f4
  rw [decide_eq_true u1, decide_eq_true u2, Bool.true_and, Bool.true_and] at f3
  have p1 := okP_def.1 (valid_node hv (getD_mem hk)).1
  have p2 := okP_def.1 (live_ok hv (fnd_live_iff.1 u2))
  have p3 := okP_def.1 (live_ok hv hl)
  rw [he] at u3 hne
  rw [btw_no] at u3 f3
  omega

/-- From node to first successor, as long as p is not reached. -/
inductive Goes (r : List Nd) (p : Int) : Nat → Nat → Prop
  | here (y : Nat) : Goes r p y y
  | step {y z : Nat} : Goes r p y z → (r.getD z default).id ≠ p → Goes r p y (stabS r z)

theorem rest_between {r : List Nd} (h : ringSafe r = true) (hr : roundK r = r) {k x : Nat} (hk : k < r.length) (hx : x < r.length) : btw (r.getD k default).id (r.getD x default).id (a0 (r.getD k default)) = false := by
  obtain ⟨p, -, -, -, -, hp, -⟩ := prin3 h
  have hv := safe_valid h
  have hpl := (mem_prin.1 hp).1
  have hpo := live_ok hv hpl
  have S : ∀ j, j < r.length → stabS r j < r.length ∧ (r.getD (stabS r j) default).id = a0 (r.getD j default) := fun j hj => by
    obtain ⟨a, b, -⟩ := stabS_lt (rest_node h hr hj).1
    exact ⟨a, b⟩
  have I : ∀ i j, i < r.length → j < r.length → stabS r i = stabS r j → i = j := fun i j hi hj e => by
    have a := rest_before h hr hi
    have b := rest_before h hr hj
    rw [e] at a
    exact valid_inj hv hi hj (a.symm.trans b)
  have O : ∀ j, j < r.length → okP (r.getD j default).id = true := fun j hj => (valid_node hv (getD_mem hj)).1
  -- the distance to p falls until p is reached
  have D : ∀ j, j < r.length → (r.getD j default).id ≠ p → dist (r.getD (stabS r j) default).id p < dist (r.getD j default).id p := fun j hj hne => by
    have h1 := (prin_skips h hp hj).1
    have h2 := (safe_order h (getD_mem hj)).2.1
    obtain ⟨s1, s2⟩ := S j hj
    have o1 := O j hj
    have o2 := O _ s1
    rw [s2] at o2 ⊢
    rw [okP_def] at o1 o2 hpo
    rw [btw_no] at h1
    unfold dist
    omega
  cases hb : btw (r.getD k default).id (r.getD x default).id (a0 (r.getD k default))
  · rfl
  exfalso
  obtain ⟨s1, s2⟩ := S k hk
  have hkp := (prin_skips h hp hk).1
  have hks := (safe_order h (getD_mem hk)).2.1
  have ok1 := O k hk
  have ok2 := O x hx
  have ok3 := O _ s1
  have hds : dist (r.getD (stabS r k) default).id p < dist (r.getD x default).id p := by
    rw [s2] at ok3 ⊢
    rw [okP_def] at ok1 ok2 ok3 hpo
    rw [btw_no] at hkp
    rw [btw_iff] at hb
    unfold dist
    omega
  have hdk : (r.getD k default).id ≠ p → dist (r.getD x default).id p < dist (r.getD k default).id p := fun hne => by
    rw [s2] at ok3
    rw [okP_def] at ok1 ok2 ok3 hpo
    rw [btw_no] at hkp
    rw [btw_iff] at hb
    unfold dist
    omega
  have G : ∀ z, Goes r p x z → z < r.length ∧ dist (r.getD z default).id p ≤ dist (r.getD x default).id p := fun z hz => by
    induction hz with
    | here => exact ⟨hx, Int.le_refl _⟩
    | step hyz hne ih =>
      have := D _ ih.1 hne
      exact ⟨(S _ ih.1).1, by omega⟩
  have B : ∀ z, Goes r p x z → z ≠ x → ∃ y, Goes r p x y ∧ (r.getD y default).id ≠ p ∧ stabS r y = z := fun z hz hne => by
    cases hz with
    | here => exact absurd rfl hne
    | step hyz hn => exact ⟨_, hyz, hn, rfl⟩
  -- p is reached
  have P : ∃ z, Goes r p x z ∧ (r.getD z default).id = p := by
    have : ∀ n : Nat, ∀ z, Goes r p x z → (dist (r.getD z default).id p).toNat ≤ n → ∃ z, Goes r p x z ∧ (r.getD z default).id = p := by
      intro n
      induction n with
      | zero =>
        intro z hz hd
        by_cases e : (r.getD z default).id = p
        · exact ⟨z, hz, e⟩
        · have := D z (G z hz).1 e
          have := (@dist_bounds (r.getD (stabS r z) default).id p).1
          omega
      | succ n ih =>
        intro z hz hd
        by_cases e : (r.getD z default).id = p
        · exact ⟨z, hz, e⟩
        · have := D z (G z hz).1 e
          have := (@dist_bounds (r.getD (stabS r z) default).id p).1
          exact ih _ (.step hz e) (by omega)
    exact this _ x (.here x) (Nat.le_refl _)
  -- all nodes nearer to p are reached
  have R : ∀ n : Nat, ∀ z, z < r.length → (dist (r.getD z default).id p).toNat ≤ n → dist (r.getD z default).id p < dist (r.getD x default).id p → Goes r p x z := by
    intro n
    induction n with
    | zero =>
      intro z hz hd hlt
      obtain ⟨q, hq, eq⟩ := P
      have hzp : (r.getD z default).id = p := by
        have := (@dist_bounds (r.getD z default).id p).1
        have o1 := O z hz
        rw [okP_def] at o1 hpo
        unfold dist at this hd
        omega
      rw [valid_inj hv hz (G q hq).1 (hzp.trans eq.symm)]
      exact hq
    | succ n ih =>
      intro z hz hd hlt
      by_cases e : (r.getD z default).id = p
      · obtain ⟨q, hq, eq⟩ := P
        rw [valid_inj hv hz (G q hq).1 (e.trans eq.symm)]
        exact hq
      · have hdz := D z hz e
        have hb0 := (@dist_bounds (r.getD (stabS r z) default).id p).1
        have hg := ih (stabS r z) (S z hz).1 (by omega) (by omega)
        obtain ⟨y, hy, -, ey⟩ := B _ hg (fun e' => by rw [e'] at hdz; omega)
        rw [← I y z (G y hy).1 hz ey]
        exact hy
  have hg := R _ _ s1 (Nat.le_refl _) hds
  obtain ⟨y, hy, hyp, ey⟩ := B _ hg (fun e' => by rw [e'] at hds; omega)
  have hyk := I y k (G y hy).1 hk ey
  subst hyk
  have := hdk hyp
  have := (G y hy).2
  omega

/-- The next node in order is the only one without nodes between. -/
theorem next_only {L : List Int} (h : nodesOk L) {k s : Nat} (hk : k < L.length) (hs : s < L.length) (hne : s ≠ k) (hb : ∀ x, x < L.length → btw (L.getD k 0) (L.getD x 0) (L.getD s 0) = false) : s = (k + 1) % L.length := by
  obtain ⟨-, -, h3⟩ := h
  by_cases e : k + 1 < L.length
  · rw [Nat.mod_eq_of_lt e]
    have m := h3 k (k + 1) (by omega) e
    have b := hb (k + 1) e
    rw [btw_no] at b
    rcases Nat.lt_trichotomy s (k + 1) with h' | h' | h'
    · have := h3 s k (by omega) hk; omega
    · exact h'
    · have := h3 (k + 1) s h' hs
      omega
  · have e' : k + 1 = L.length := by omega
    rw [e', Nat.mod_self]
    by_cases e0 : s = 0
    · exact e0
    · have b := hb 0 (by omega)
      rw [btw_no] at b
      have m1 := h3 0 s (by omega) hs
      have m2 := h3 s k (by omega) hk
      omega

/-- A safe ring at rest is ideal. -/
theorem rest_ideal {r : List Nd} (h : ringSafe r = true) (hr : roundK r = r) : r = idealR (r.map Nd.id) := by
  have hv := safe_valid h
  have hL := nodesOk_ids hv
  have hlen : (r.map Nd.id).length = r.length := by simp
  have S : ∀ k, k < r.length → stabS r k = (k + 1) % r.length := fun k hk => by
    obtain ⟨s1, s2, -⟩ := stabS_lt (rest_node h hr hk).1
    have hne : stabS r k ≠ k := fun e => by
      rw [e] at s2
      exact (safe_order h (getD_mem hk)).2.1 s2
    have := next_only hL (k := k) (s := stabS r k) (by simpa using hk) (by simpa using s1) hne (fun x hx => by
      have hx' : x < r.length := by simpa using hx
      rw [ids_at_getD hk, ids_at_getD hx', ids_at_getD s1, s2]
      exact rest_between h hr hk hx')
    rw [hlen] at this
    exact this
  refine ext_nd (by rw [idealR_len, hlen]) fun j hj => ?_
  rw [idealR_at (by rw [hlen]; exact hj)]
  unfold idealN
  rw [hlen]
  have hp : 0 < r.length := by omega
  obtain ⟨l1, l2, -, -⟩ := rest_node h hr hj
  obtain ⟨s1, s2, -⟩ := stabS_lt l1
  have hsj := S j hj
  have e1 : a0 (r.getD j default) = (r.map Nd.id).getD ((j + 1) % r.length) 0 := by rw [← s2, hsj, ids_at_getD (Nat.mod_lt _ hp)]
  have e2 : a1 (r.getD j default) = (r.map Nd.id).getD ((j + 2) % r.length) 0 := by
    rw [l2, hsj]
    have hj' : (j + 1) % r.length < r.length := Nat.mod_lt _ hp
    obtain ⟨s3, s4, -⟩ := stabS_lt (rest_node h hr hj').1
    rw [← s4, S _ hj', mod_succ j _, ids_at_getD (Nat.mod_lt _ hp)]
  have e3 : (r.getD j default).before = (r.map Nd.id).getD ((j + r.length - 1) % r.length) 0 := by
    have hq : (j + r.length - 1) % r.length < r.length := Nat.mod_lt _ hp
    have hq1 : ((j + r.length - 1) % r.length + 1) % r.length = j := by
      rw [Nat.mod_add_mod, show j + r.length - 1 + 1 = j + r.length by omega, Nat.add_mod_right, Nat.mod_eq_of_lt hj]
    have := rest_before h hr hq
    rw [S _ hq, hq1] at this
    rw [this, ids_at_getD hq]
  have e4 := after2 (valid_node hv (getD_mem hj)).2.2.1
  rw [e1, e2] at e4
  rw [ids_at_getD hj, ← e3, ← e4]
/-- Rounds change every safe ring but the ideal one. -/
theorem round_rest {r : List Nd} (h : ringSafe r = true) : roundK r = r ↔ r = idealR (r.map Nd.id) := by
  constructor
  · exact rest_ideal h
  · intro e
    have := ideal_round (nodesOk_ids (safe_valid h)) (by simpa using safe_len h)
    rw [← e] at this
    exact this

def rCalm (r : List Nd) : List Nd := if ringSafe r then idealR (r.map Nd.id) else []
def rIdeal (r : List Nd) : Bool := ringValid r && decide (3 ≤ r.length) && decide (r = idealR (r.map Nd.id))

def failK (r : List Nd) (k : Nat) : List Nd := if safeB (r.eraseIdx k) then r.eraseIdx k else r
def rFail (r : List Nd) (id : Int) : List Nd := stepR (ringSafe r && okP id) r id fun k => failK r k
def rFailOk (r : List Nd) (id : Int) : Bool := stepB (ringSafe r && okP id) r id fun k => safeB (r.eraseIdx k)

/-- How many nodes stand before a position. -/
def ltN : List Nd → Int → Nat
  | [], _ => 0
  | n :: r, id => if n.id < id then ltN r id + 1 else 0
def joinK (r : List Nd) (id at' : Int) (k : Nat) : List Nd := r.take (ltN r id) ++ ⟨id, at', (r.getD k default).after⟩ :: r.drop (ltN r id)
def joinOk (r : List Nd) (id at' : Int) (k : Nat) : Bool := decide (fnd r id < 0) && decide (r.length < 10) && btw at' id (a0 (r.getD k default))
def rJoinOk (r : List Nd) (id at' : Int) : Bool := stepB (ringSafe r && okP id && okP at') r at' fun k => joinOk r id at' k
def rJoin (r : List Nd) (id at' : Int) : List Nd := stepR (ringSafe r && okP id && okP at') r at' fun k => if joinOk r id at' k then joinK r id at' k else r

theorem ltN_le (id : Int) : ∀ r : List Nd, ltN r id ≤ r.length
  | [] => Nat.le_refl _
  | n :: r => by
    have := ltN_le id r
    unfold ltN
    split
    · simp; exact this
    · exact Nat.zero_le _
theorem ltN_yes {id : Int} : ∀ {r : List Nd} {j : Nat}, j < ltN r id → (r.getD j default).id < id
  | [], j, h => by simp [ltN] at h
  | n :: r, j, h => by
    unfold ltN at h
    split at h
    · cases j with
      | zero => simpa
      | succ j => simpa using ltN_yes (r := r) (j := j) (by omega)
    · omega
theorem ltN_stop {id : Int} : ∀ {r : List Nd}, ltN r id < r.length → ¬ (r.getD (ltN r id) default).id < id
  | [], h => by simp at h
  | n :: r, h => by
    by_cases h0 : n.id < id
    · have e : ltN (n :: r) id = ltN r id + 1 := by rw [ltN, if_pos h0]
      rw [e] at h ⊢
      simpa using ltN_stop (r := r) (by simpa using h)
    · have e : ltN (n :: r) id = 0 := by rw [ltN, if_neg h0]
      rw [e]; simpa using h0
theorem ltN_is {r : List Nd} {id : Int} {k : Nat} (hk : k ≤ r.length) (h1 : ∀ j, j < k → (r.getD j default).id < id) (h2 : k < r.length → ¬ (r.getD k default).id < id) : ltN r id = k := by
  have hl := ltN_le id r
  rcases Nat.lt_trichotomy (ltN r id) k with h | h | h
  · exact absurd (h1 _ h) (ltN_stop (by omega))
  · exact h
  · exact absurd (ltN_yes h) (h2 (by omega))
theorem ltN_no {r : List Nd} {id : Int} (hv : ringValid r = true) {j : Nat} (hj : j < r.length) (h : ltN r id ≤ j) : ¬ (r.getD j default).id < id := by
  have hs := ltN_stop (r := r) (id := id) (by omega)
  by_cases e : ltN r id = j
  · rw [← e]; exact hs
  · have := (ringValid_iff.1 hv).2.2 (ltN r id) j (by omega) hj
    omega

theorem live_erase {r : List Nd} (hv : ringValid r = true) {k : Nat} (hk : k < r.length) {x : Int} : live (r.eraseIdx k) x = true ↔ live r x = true ∧ x ≠ (r.getD k default).id := by
  rw [live_iff, live_iff]
  constructor
  · rintro ⟨n, hn, rfl⟩
    have hm := List.mem_of_mem_eraseIdx hn
    refine ⟨⟨n, hm, rfl⟩, fun e => ?_⟩
    obtain ⟨j, hj, hne, hjn⟩ := (List.mem_eraseIdx_iff_getElem).1 hn
    have e2 : r.getD j default = n := by rw [← hjn]; simp [hj]
    exact hne (valid_inj hv hj hk (by rw [e2]; exact e))
  · rintro ⟨⟨n, hn, rfl⟩, hne⟩
    obtain ⟨j, hj, rfl⟩ := List.getElem_of_mem hn
    refine ⟨_, (List.mem_eraseIdx_iff_getElem).2 ⟨j, hj, fun e => hne ?_, rfl⟩, rfl⟩
    subst e; simp [hj]

theorem ringValid_pw {r : List Nd} : ringValid r = true ↔ r.length ≤ 10 ∧ (∀ n ∈ r, NdOk n) ∧ r.Pairwise fun a b => a.id < b.id := by
  constructor
  · intro h
    exact ⟨ringValid_len h, fun n hn => valid_node h hn, valid_pairwise h⟩
  · rintro ⟨h1, h2, h3⟩
    refine ringValid_iff.2 ⟨h1, fun j hj => h2 _ (getD_mem hj), fun i j hij hj => ?_⟩
    have := List.pairwise_iff_getElem.1 h3 i j (by omega) hj hij
    simpa [show i < r.length by omega, hj] using this

theorem erase_valid {r : List Nd} (h : ringValid r = true) (k : Nat) : ringValid (r.eraseIdx k) = true := by
  obtain ⟨h1, h2, h3⟩ := ringValid_pw.1 h
  have hs := List.eraseIdx_sublist r k
  exact ringValid_pw.2 ⟨Nat.le_trans hs.length_le h1, fun n hn => h2 n (hs.subset hn), h3.sublist hs⟩
theorem failK_safe {r : List Nd} (h : ringSafe r = true) (k : Nat) : ringSafe (failK r k) = true := by
  unfold failK
  split
  · rename_i hs
    unfold ringSafe
    rw [erase_valid (safe_valid h), hs]; rfl
  · exact h

theorem mem_joinK {r : List Nd} {id at' : Int} {k : Nat} {m : Nd} : m ∈ joinK r id at' k ↔ m ∈ r ∨ m = ⟨id, at', (r.getD k default).after⟩ := by
  unfold joinK
  rw [List.mem_append, List.mem_cons]
  have h : m ∈ r ↔ m ∈ r.take (ltN r id) ∨ m ∈ r.drop (ltN r id) := by
    conv => lhs; rw [← List.take_append_drop (ltN r id) r]
    exact List.mem_append
  rw [h]
  constructor
  · rintro (h | h | h)
    · exact .inl (.inl h)
    · exact .inr h
    · exact .inl (.inr h)
  · rintro ((h | h) | h)
    · exact .inl h
    · exact .inr (.inr h)
    · exact .inr (.inl h)
theorem joinK_valid {r : List Nd} (h : ringValid r = true) (hl : r.length < 10) {id at' : Int} (hid : okP id = true) (hat : okP at' = true) (hx : live r id = false) {k : Nat} (hk : k < r.length) : ringValid (joinK r id at' k) = true := by
  obtain ⟨-, h2, h3⟩ := ringValid_pw.1 h
  refine ringValid_pw.2 ⟨?_, fun m hm => ?_, ?_⟩
  · have := ltN_le id r
    unfold joinK
    simp; omega
  · rcases mem_joinK.1 hm with hm | rfl
    · exact h2 m hm
    · have := h2 _ (getD_mem hk)
      exact ⟨hid, .inr hat, this.2.2.1, this.2.2.2⟩
  · have hT : ∀ a, a ∈ r.take (ltN r id) → a.id < id := fun a ha => by
      obtain ⟨i, hi, e⟩ := List.getElem_of_mem ha
      rw [List.length_take] at hi
      have := ltN_yes (r := r) (id := id) (j := i) (by omega)
      rw [List.getElem_take] at e
      have e2 : r.getD i default = a := by rw [← e]; simp [show i < r.length by omega]
      rw [e2] at this
      exact this
    have hD : ∀ a, a ∈ r.drop (ltN r id) → id < a.id := fun a ha => by
      obtain ⟨i, hi, e⟩ := List.getElem_of_mem ha
      rw [List.length_drop] at hi
      rw [List.getElem_drop] at e
      have e2 : r.getD (ltN r id + i) default = a := by rw [← e]; simp [show ltN r id + i < r.length by omega]
      have := ltN_no (id := id) h (j := ltN r id + i) (by omega) (by omega)
      rw [e2] at this
      have hne : a.id ≠ id := fun e3 => by
        have : live r id = true := live_iff.2 ⟨a, List.mem_of_mem_drop ha, e3⟩
        rw [hx] at this; cases this
      omega
    unfold joinK
    refine List.pairwise_append.2 ⟨h3.sublist (List.take_sublist _ _), List.pairwise_cons.2 ⟨fun a ha => hD a ha, h3.sublist (List.drop_sublist _ _)⟩, fun a ha b hb => ?_⟩
    have h1 := hT a ha
    rcases List.mem_cons.1 hb with rfl | hb
    · exact h1
    · have := hD b hb; omega
theorem joinK_safe {r : List Nd} (h : ringSafe r = true) {id at' : Int} (hid : okP id = true) (hat : okP at' = true) {k : Nat} (hk : k < r.length) (hkat : (r.getD k default).id = at') (hok : joinOk r id at' k = true) :
    ringSafe (joinK r id at' k) = true ∧ ∀ p, p ∈ prin r → p ∈ prin (joinK r id at' k) := by
  unfold joinOk at hok
  simp only [Bool.and_eq_true, decide_eq_true_eq] at hok
  obtain ⟨⟨hf, hl⟩, hb⟩ := hok
  have hx := fnd_dead_iff.1 hf
  obtain ⟨h1, h2, p, q, s, a, b, c, d, e⟩ := ringSafe_iff.1 h
  have hlv : ∀ x, live r x = true → live (joinK r id at' k) x = true := fun x hx => by
    obtain ⟨n, hn, rfl⟩ := live_iff.1 hx
    exact live_iff.2 ⟨n, mem_joinK.2 (.inl hn), rfl⟩
  have hn2 := (valid_node h1 (getD_mem hk)).2.2.1
  have hkeep : ∀ p, p ∈ prin r → p ∈ prin (joinK r id at' k) := fun p hp => by
    refine mem_prin.2 ⟨hlv p (mem_prin.1 hp).1, fun m hm => ?_⟩
    rcases mem_joinK.1 hm with hm | rfl
    · exact (mem_prin.1 hp).2 m hm
    · obtain ⟨s1, s2⟩ := prin_skips h hp hk
      have e2 := after2 hn2
      rw [e2, skip_mk, s2, Bool.or_false]
      rw [hkat] at s1
      rw [btw_iff] at hb
      rw [btw_no] at s1 ⊢
      omega
  refine ⟨ringSafe_iff.2 ⟨joinK_valid h1 hl hid hat hx hk, fun m hm => ?_, p, q, s, a, b, hkeep p c, hkeep q d, hkeep s e⟩, hkeep⟩
  rcases mem_joinK.1 hm with hm | rfl
  · rcases h2 m hm with h' | h'
    · exact .inl (hlv _ h')
    · exact .inr (hlv _ h')
  · rcases h2 _ (getD_mem hk) with h' | h'
    · exact .inl (hlv _ h')
    · exact .inr (hlv _ h')

theorem stepR_safe {c : Bool} {r : List Nd} {id : Int} {f : Nat → List Nd} (h : ringSafe r = true) (hc : c = true) (hf : ∀ k, k < r.length → (r.getD k default).id = id → ringSafe (f k) = true) : ringSafe (stepR c r id f) = true := by
  rcases fnd_cases r id with ⟨h0, -⟩ | ⟨k, hk, h0, hi, -⟩
  · rw [stepR_miss hc h0]; exact h
  · rw [stepR_hit hc h0]; exact hf k hk hi
theorem rDrop_safe {r : List Nd} {id : Int} (h : ringSafe r = true) (ho : okP id = true) : ringSafe (rDrop r id) = true := stepR_safe h (by rw [h, ho]; rfl) fun _ hk _ => (dropK_fine h hk).1
theorem rAdopt_safe {r : List Nd} {id : Int} (h : ringSafe r = true) (ho : okP id = true) : ringSafe (rAdopt r id) = true := stepR_safe h (by rw [h, ho]; rfl) fun _ hk _ => (adoptK_fine h hk).1
theorem rCloser_safe {r : List Nd} {id o : Int} (h : ringSafe r = true) (ho : okP id = true) (hp : okP o = true) : ringSafe (rCloser r id o) = true := stepR_safe h (by rw [h, ho, hp]; rfl) fun _ hk _ => (closerK_fine h hk o).1
theorem rNotify_safe {r : List Nd} {id o : Int} (h : ringSafe r = true) (ho : okP id = true) (hp : okP o = true) : ringSafe (rNotify r id o) = true := stepR_safe h (by rw [h, ho, hp]; rfl) fun _ hk _ => (notifyK_fine h hk o).1
theorem rStab_safe {r : List Nd} {id : Int} (h : ringSafe r = true) (ho : okP id = true) : ringSafe (rStab r id) = true := stepR_safe h (by rw [h, ho]; rfl) fun _ hk _ => (stabK_fine h hk).1
theorem rFail_safe {r : List Nd} {id : Int} (h : ringSafe r = true) (ho : okP id = true) : ringSafe (rFail r id) = true := stepR_safe h (by rw [h, ho]; rfl) fun k _ _ => failK_safe h k
theorem rJoin_safe {r : List Nd} {id at' : Int} (h : ringSafe r = true) (ho : okP id = true) (hp : okP at' = true) : ringSafe (rJoin r id at') = true := stepR_safe h (by rw [h, ho, hp]; rfl) fun k hk hi => by
  split
  · rename_i hok; exact (joinK_safe h ho hp hk hi hok).1
  · exact h
theorem rCalm_safe {r : List Nd} (h : ringSafe r = true) : ringSafe (rCalm r) = true := by
  unfold rCalm
  rw [if_pos h]
  exact ideal_safe (nodesOk_ids (safe_valid h)) (by simpa using safe_len h)

theorem ring_ne' {r s : List Nd} {k : Nat} (h : r.getD k default ≠ s.getD k default) : r ≠ s := fun e => h (by rw [e])
theorem ring_eq' {r s : List Nd} (hl : r.length = s.length) (h : ∀ j, j < r.length → r.getD j default = s.getD j default) : r = s := by
  apply List.ext_getElem hl
  intro i h1 h2
  have := h i h1
  simpa [h1, h2] using this
theorem ints_eq' {r s : List Int} (hl : r.length = s.length) (h : ∀ j, j < r.length → r.getD j 0 = s.getD j 0) : r = s := by
  apply List.ext_getElem hl
  intro i h1 h2
  have := h i h1
  simpa [h1, h2] using this

/-- The node with a position, or one that is none. -/
def noNd : Nd := ⟨-1, 0, [-1, -1]⟩
def ndOf (r : List Nd) (x : Int) : Nd := if live r x then r.getD (fnd r x).toNat default else noNd
theorem ndOf_hit {r : List Nd} {x : Int} {k : Nat} (hf : fnd r x = (k : Int)) : ndOf r x = r.getD k default := by
  have hl : live r x = true := fnd_live_iff.1 (by omega)
  unfold ndOf; rw [hl, hf]; simp
theorem ndOf_no {r : List Nd} {x : Int} (h : live r x = false) : ndOf r x = noNd := by unfold ndOf; rw [h]; simp
theorem ndOf_live {r : List Nd} {x : Int} (h : live r x = true) : (ndOf r x).id = x ∧ ndOf r x ∈ r := by
  obtain ⟨k, hk, hf, -, hid⟩ := fnd_at h
  rw [ndOf_hit hf]
  exact ⟨hid, getD_mem hk⟩
theorem ndOf_self {r : List Nd} (h : ringValid r = true) {k : Nat} (hk : k < r.length) : ndOf r (r.getD k default).id = r.getD k default := ndOf_hit (fnd_self h hk)
theorem ndOf_neg {r : List Nd} (h : ringValid r = true) (x : Int) : decide ((ndOf r x).id < 0) = !live r x := by
  cases hl : live r x
  · rw [ndOf_no hl]; rfl
  · have h1 := ndOf_live hl
    have h2 := okP_def.1 (live_ok h hl)
    rw [h1.1]
    simp
    omega
theorem ndOf_two {r : List Nd} (h : ringValid r = true) (x : Int) : (ndOf r x).after.length = 2 := by
  cases hl : live r x
  · rw [ndOf_no hl]; rfl
  · exact (valid_node h (ndOf_live hl).2).2.2.1

theorem stepB_open {c : Bool} {r : List Nd} {id : Int} {g : Nat → Bool} (h : stepB c r id g = true) : c = true ∧ ∃ k, k < r.length ∧ fnd r id = (k : Int) ∧ (r.getD k default).id = id ∧ g k = true := by
  unfold stepB at h
  simp only [Bool.and_eq_true, decide_eq_true_eq] at h
  obtain ⟨⟨h1, h2⟩, h3⟩ := h
  obtain ⟨k, hk, hf, ht, hid⟩ := fnd_at (fnd_live_iff.1 h2)
  rw [ht] at h3
  exact ⟨h1, k, hk, hf, hid, h3⟩

theorem fine_ndOf {r r' : List Nd} (h : r'.map Nd.id = r.map Nd.id) {id : Int} {k : Nat} (hf : fnd r id = (k : Int)) : ndOf r' id = r'.getD k default := ndOf_hit ((fnd_ids h id).trans hf)

theorem law_closer {r : List Nd} {id o : Int} (h : rCloserOk r id o = true) :
    ringSafe r = true ∧ okP id = true ∧ okP o = true ∧ okP (a0 (ndOf r id)) = true ∧ (ndOf (rCloser r id o) id).after = [o, a0 (ndOf r o)] ∧ dist id o < dist id (a0 (ndOf r id)) ∧ Fine r (rCloser r id o) := by
  obtain ⟨hc, k, hk, hf, hid, hg⟩ := stepB_open h
  simp only [Bool.and_eq_true] at hc
  obtain ⟨⟨hs, hi⟩, ho⟩ := hc
  have hfine := closerK_fine hs hk o
  have er : rCloser r id o = closerK r k o := stepR_hit (by rw [hs, hi, ho]; rfl) hf _
  have en := ndOf_hit hf
  have hn := getD_mem hk
  have hnv := valid_node (safe_valid hs) hn
  rw [er]
  refine ⟨hs, hi, ho, by rw [en]; exact hnv.a0ok, ?_, ?_, hfine⟩
  · rw [fine_ndOf hfine.2.1 hf]
    unfold closerK
    rw [hg, if_pos rfl]
    unfold closerOk at hg
    simp only [Bool.and_eq_true, decide_eq_true_eq] at hg
    obtain ⟨s, hs', hfs, hts, hids⟩ := fnd_at (fnd_live_iff.1 hg.1)
    unfold followK
    rw [setAfter_at _ hk, hts, hids, ndOf_hit hfs]
  · unfold closerOk at hg
    simp only [Bool.and_eq_true, decide_eq_true_eq] at hg
    rw [en, ← hid]
    exact (dist_btw hnv.1 ho hnv.a0ok hg.2 (safe_order hs hn).2.1).1

theorem law_adopt {r : List Nd} {id : Int} (h : rAdoptOk r id = true) :
    ringSafe r = true ∧ okP id = true ∧ (ndOf (rAdopt r id) id).after = [a0 (ndOf r id), a0 (ndOf r (a0 (ndOf r id)))] ∧ (ndOf (rAdopt r id) id).before = (ndOf r id).before ∧ Fine r (rAdopt r id) := by
  obtain ⟨hc, k, hk, hf, hid, hg⟩ := stepB_open h
  simp only [Bool.and_eq_true] at hc
  obtain ⟨hs, hi⟩ := hc
  have hfine := adoptK_fine hs hk
  have er : rAdopt r id = adoptK r k := stepR_hit (by rw [hs, hi]; rfl) hf _
  have en := ndOf_hit hf
  have e : adoptK r k = followK r k (fnd r (a0 (r.getD k default))).toNat := by unfold adoptK; rw [hg, if_pos rfl]
  obtain ⟨s, hs', hfs, hts, hids⟩ := fnd_at (adoptOk_t.1 hg)
  rw [er]
  refine ⟨hs, hi, ?_, ?_, hfine⟩
  · rw [fine_ndOf hfine.2.1 hf, en, ndOf_hit hfs, e]
    unfold followK
    rw [setAfter_at _ hk, hts, hids]
  · rw [fine_ndOf hfine.2.1 hf, en, e]
    unfold followK
    rw [setAfter_at _ hk]

theorem law_drop {r : List Nd} {id : Int} (h : rDropOk r id = true) :
    ringSafe r = true ∧ okP id = true ∧ live r (a0 (ndOf r id)) = false ∧ live r (a1 (ndOf r id)) = true ∧ (ndOf (rDrop r id) id).after = [a1 (ndOf r id), (a1 (ndOf r id) + 1) % 64] ∧ Fine r (rDrop r id) := by
  obtain ⟨hc, k, hk, hf, hid, hg⟩ := stepB_open h
  simp only [Bool.and_eq_true] at hc
  obtain ⟨hs, hi⟩ := hc
  have hfine := dropK_fine hs hk
  have er : rDrop r id = dropK r k := stepR_hit (by rw [hs, hi]; rfl) hf _
  have en := ndOf_hit hf
  have hd := dropOk_t.1 hg
  rw [er]
  refine ⟨hs, hi, by rw [en]; exact hd, ?_, ?_, hfine⟩
  · rw [en]
    rcases (ringSafe_iff.1 hs).2.1 _ (getD_mem hk) with h1 | h1
    · rw [hd] at h1; cases h1
    · exact h1
  · rw [fine_ndOf hfine.2.1 hf, en]
    unfold dropK
    rw [hg, if_pos rfl, setAfter_at _ hk]

theorem law_notify {r : List Nd} {id o : Int} (h : rNotifyOk r id o = true) :
    ringSafe r = true ∧ okP id = true ∧ okP o = true ∧ (ndOf (rNotify r id o) id).before = o ∧ (ndOf (rNotify r id o) id).after = (ndOf r id).after ∧
      ((ndOf r id).before < 0 ∨ live r (ndOf r id).before = false ∨ (ndOf r id).before = id ∨ (okP (ndOf r id).before = true ∧ dist o id < dist (ndOf r id).before id)) ∧ Fine r (rNotify r id o) := by
  obtain ⟨hc, k, hk, hf, hid, hg⟩ := stepB_open h
  simp only [Bool.and_eq_true] at hc
  obtain ⟨⟨hs, hi⟩, ho⟩ := hc
  have hfine := notifyK_fine hs hk o
  have er : rNotify r id o = notifyK r k o := stepR_hit (by rw [hs, hi, ho]; rfl) hf _
  have en := ndOf_hit hf
  have hnv := valid_node (safe_valid hs) (getD_mem hk)
  have e : notifyK r k o = setBefore r k o := by unfold notifyK; rw [hg, if_pos rfl]
  rw [er]
  refine ⟨hs, hi, ho, ?_, ?_, ?_, hfine⟩
  · rw [fine_ndOf hfine.2.1 hf, e, setBefore_at _ hk]
  · rw [fine_ndOf hfine.2.1 hf, en, e, setBefore_at _ hk]
  · rw [en]
    unfold notifyOk at hg
    simp only [Bool.and_eq_true, Bool.not_eq_true', Bool.and_eq_false_iff, decide_eq_false_iff_not, Bool.not_eq_false'] at hg
    obtain ⟨⟨-, h2⟩, h3⟩ := hg
    rw [hid] at h2 h3
    rcases h3 with (h3 | h3) | h3
    · left; omega
    · right; left
      cases hl : live r (r.getD k default).before
      · rfl
      · exact absurd (fnd_live_iff.2 hl) h3
    · by_cases hb : (r.getD k default).before < 0
      · left; exact hb
      right; right
      by_cases hbi : (r.getD k default).before = id
      · left; exact hbi
      right
      have hbo : okP (r.getD k default).before = true := by
        rcases hnv.2.1 with h4 | h4
        · omega
        · exact h4
      exact ⟨hbo, (dist_btw hbo ho hi h3 hbi).2.1⟩

theorem between_prin {r : List Nd} (h : ringSafe r = true) {k : Nat} (hk : k < r.length) {p : Int} (hp : p ∈ prin r) (hb : btw (r.getD k default).id p (a1 (r.getD k default)) = true) : p = a0 (r.getD k default) := by
  obtain ⟨u, v⟩ := prin_skips h hp hk
  obtain ⟨g1, g2, g3, g4⟩ := safe_order h (getD_mem hk)
  rw [btw_iff] at g1 hb
  rw [btw_no] at u v
  omega

/-- A step that touches one node's successors alone. -/
def OneAfter (r r' : List Nd) (k : Nat) : Prop := r'.length = r.length ∧ (∀ j, j ≠ k → r'.getD j default = r.getD j default) ∧ (r'.getD k default).before = (r.getD k default).before ∧ (r'.getD k default).id = (r.getD k default).id
theorem OneAfter.refl (r : List Nd) (k : Nat) : OneAfter r r k := ⟨rfl, fun _ _ => rfl, rfl, rfl⟩
theorem OneAfter.trans {a b c : List Nd} {k : Nat} (h : OneAfter a b k) (h' : OneAfter b c k) : OneAfter a c k :=
  ⟨h'.1.trans h.1, fun j hj => (h'.2.1 j hj).trans (h.2.1 j hj), h'.2.2.1.trans h.2.2.1, h'.2.2.2.trans h.2.2.2⟩
theorem oneAfter_set {r : List Nd} {k : Nat} (hk : k < r.length) (A : List Int) : OneAfter r (setAfter r k A) k :=
  ⟨by simp [setAfter], fun j hj => setAfter_other A hk hj, by rw [setAfter_at A hk], by rw [setAfter_at A hk]⟩
theorem dropK_one {r : List Nd} {k : Nat} (hk : k < r.length) : OneAfter r (dropK r k) k := by
  unfold dropK; split
  · exact oneAfter_set hk _
  · exact OneAfter.refl r k
theorem adoptK_one {r : List Nd} {k : Nat} (hk : k < r.length) : OneAfter r (adoptK r k) k := by
  unfold adoptK; split
  · exact oneAfter_set hk _
  · exact OneAfter.refl r k
theorem closerK_one {r : List Nd} {k : Nat} (hk : k < r.length) (o : Int) : OneAfter r (closerK r k o) k := by
  unfold closerK; split
  · exact oneAfter_set hk _
  · exact OneAfter.refl r k
/-- What a step of one node answers at each node. -/
def OneStep (r r' : List Nd) (id : Int) : Prop := r'.length = r.length ∧ ∀ j, j < r.length → (r'.getD j default).before = (r.getD j default).before ∧ ((r.getD j default).id ≠ id → r'.getD j default = r.getD j default)
theorem oneStep_of {r r' : List Nd} {k : Nat} {id : Int} (h : OneAfter r r' k) (hid : (r.getD k default).id = id) : OneStep r r' id :=
  ⟨h.1, fun j _ => by
    by_cases e : j = k
    · subst e; exact ⟨h.2.2.1, fun hn => absurd hid hn⟩
    · rw [h.2.1 j e]; exact ⟨rfl, fun _ => rfl⟩⟩
theorem oneStep_refl (r : List Nd) (id : Int) : OneStep r r id := ⟨rfl, fun _ _ => ⟨rfl, fun _ => rfl⟩⟩
theorem stepR_one {c : Bool} {r : List Nd} {id : Int} {f : Nat → List Nd} (hc : c = true) (hf : ∀ k, k < r.length → OneAfter r (f k) k) : OneStep r (stepR c r id f) id := by
  cases hl : live r id
  · unfold stepR
    rw [hc, if_pos rfl, if_neg (by have := fnd_dead_iff.2 hl; omega)]
    exact oneStep_refl r id
  · obtain ⟨k, hk, hfk, -, hid⟩ := fnd_at hl
    rw [stepR_hit hc hfk]
    exact oneStep_of (hf k hk) hid
theorem rDrop_one {r : List Nd} {id : Int} (h : ringSafe r = true) (hi : okP id = true) : OneStep r (rDrop r id) id := stepR_one (by rw [h, hi]; rfl) fun _ hk => dropK_one hk
theorem rAdopt_one {r : List Nd} {id : Int} (h : ringSafe r = true) (hi : okP id = true) : OneStep r (rAdopt r id) id := stepR_one (by rw [h, hi]; rfl) fun _ hk => adoptK_one hk
theorem rCloser_one {r : List Nd} {id o : Int} (h : ringSafe r = true) (hi : okP id = true) (ho : okP o = true) : OneStep r (rCloser r id o) id := stepR_one (by rw [h, hi, ho]; rfl) fun _ hk => closerK_one hk o

theorem stab23_one {r : List Nd} {k : Nat} (hk : k < r.length) : OneAfter r (stab3 (stab2 r k) k) k := by
  have h1 := dropK_one hk
  have hk1 : k < (dropK r k).length := by rw [h1.1]; exact hk
  have h2 : OneAfter r (stab2 r k) k := h1.trans (adoptK_one hk1)
  have hk2 : k < (stab2 r k).length := by rw [h2.1]; exact hk
  refine h2.trans ?_
  unfold stab3; split
  · exact closerK_one hk2 _
  · exact OneAfter.refl _ k

/-- How many of the first n nodes know another predecessor. -/
def chgTo (r r' : List Nd) : Nat → Nat
  | 0 => 0
  | n + 1 => chgTo r r' n + if (r'.getD n default).before ≠ (r.getD n default).before then 1 else 0
theorem chg_le {r r' : List Nd} {s : Nat} (h : ∀ j, j ≠ s → (r'.getD j default).before = (r.getD j default).before) : ∀ n, chgTo r r' n ≤ (if s < n then 1 else 0)
  | 0 => by simp [chgTo]
  | n + 1 => by
    have ih := chg_le h n
    unfold chgTo
    by_cases e : n = s
    · subst e
      rw [if_neg (Nat.lt_irrefl _)] at ih
      rw [if_pos (Nat.lt_succ_self _)]
      split <;> omega
    · rw [if_neg (fun hc => hc (h n e))]
      by_cases e2 : s < n
      · rw [if_pos e2] at ih; rw [if_pos (by omega)]; omega
      · rw [if_neg e2] at ih; rw [if_neg (by omega)]; omega
theorem chgTo_small (r r' : List Nd) : ∀ n, chgTo r r' n ≤ n
  | 0 => Nat.le_refl _
  | n + 1 => by have := chgTo_small r r' n; unfold chgTo; split <;> omega

theorem notifyK_others {r : List Nd} {s : Nat} (hs : s < r.length) (o : Int) : (notifyK r s o).length = r.length ∧ (∀ j, j ≠ s → (notifyK r s o).getD j default = r.getD j default) ∧ ((notifyK r s o).getD s default).after = (r.getD s default).after := by
  unfold notifyK; split
  · exact ⟨by simp [setBefore], fun j hj => setBefore_other o hs hj, by rw [setBefore_at o hs]⟩
  · exact ⟨rfl, fun _ _ => rfl, rfl⟩

theorem stab_open {r : List Nd} {id : Int} (h : rStabOk r id = true) : ringSafe r = true ∧ okP id = true ∧ ∃ k, k < r.length ∧ fnd r id = (k : Int) ∧ (r.getD k default).id = id ∧ rStab r id = stabK r k := by
  obtain ⟨hc, k, hk, hf, hid, -⟩ := stepB_open h
  have hc' := hc
  simp only [Bool.and_eq_true] at hc
  exact ⟨hc.1, hc.2, k, hk, hf, hid, stepR_hit hc' hf _⟩

theorem stabK_parts {r : List Nd} (h : ringSafe r = true) {k : Nat} (hk : k < r.length) :
    (stabK r k).length = r.length ∧ (∀ j, j ≠ k → ((stabK r k).getD j default).after = (r.getD j default).after) ∧ ∃ s, s ≠ k ∧ s < r.length ∧ (∀ j, j ≠ s → ((stabK r k).getD j default).before = (r.getD j default).before) ∧
      ((stabK r k).getD k default).after = ((stab3 (stab2 r k) k).getD k default).after ∧ fnd r (a0 ((stabK r k).getD k default)) = (s : Int) ∧ live r ((stabK r k).getD s default).before = true := by
  obtain ⟨f2, f3, f4, l2, l3⟩ := stab_stages h hk
  obtain ⟨o1, o2, o3, o4⟩ := stab23_one hk
  obtain ⟨s1, s2, s3⟩ := stabS_lt l3
  have hk3 : k < (stab3 (stab2 r k) k).length := by rw [o1]; exact hk
  obtain ⟨n1, n2, n3⟩ := notifyK_others (o := ((stab3 (stab2 r k) k).getD k default).id) s1
  have ho := safe_order f3.1 (getD_mem hk3)
  have hne : stabS (stab3 (stab2 r k) k) k ≠ k := fun e => by rw [e] at s2; exact ho.2.1 s2
  have ek : (stabK r k).getD k default = (stab3 (stab2 r k) k).getD k default := n2 k (Ne.symm hne)
  have hlk : live r (r.getD k default).id = true := live_iff.2 ⟨_, getD_mem hk, rfl⟩
  refine ⟨n1.trans o1, fun j hj => ?_, stabS (stab3 (stab2 r k) k) k, hne, by rw [← o1]; exact s1, fun j hj => ?_, by rw [ek], by rw [ek, ← f3.fnd_eq]; exact s3, ?_⟩
  · by_cases e : j = stabS (stab3 (stab2 r k) k) k
    · subst e
      exact n3.trans (by rw [o2 _ hj])
    · exact (congrArg Nd.after (n2 j e)).trans (by rw [o2 j hj])
  · refine (congrArg Nd.before (n2 j hj)).trans ?_
    by_cases e : j = k
    · subst e; exact o3
    · rw [o2 j e]
  · show live r ((notifyK (stab3 (stab2 r k) k) (stabS (stab3 (stab2 r k) k) k) ((stab3 (stab2 r k) k).getD k default).id).getD (stabS (stab3 (stab2 r k) k) k) default).before = true
    cases hn : notifyOk (stab3 (stab2 r k) k) (stabS (stab3 (stab2 r k) k) k) ((stab3 (stab2 r k) k).getD k default).id
    · unfold notifyK
      rw [hn, if_neg (by simp)]
      unfold notifyOk at hn
      rw [f3.fnd_eq, o4, s2] at hn
      have e1 : decide (0 ≤ fnd r (r.getD k default).id) = true := by simp; exact fnd_live_iff.2 hlk
      have e2 : ((r.getD k default).id == a0 ((stab3 (stab2 r k) k).getD k default)) = false := by
        have := ho.2.1
        rw [o4] at this
        simpa using this
      rw [e1, e2] at hn
      simp only [Bool.true_and, Bool.not_false, Bool.not_eq_false', Bool.and_eq_true, decide_eq_true_eq] at hn
      rw [← f3.live_eq]
      exact fnd_live_iff.1 hn.1.2
    · unfold notifyK
      rw [hn, if_pos rfl, setBefore_at _ s1]
      show live r ((stab3 (stab2 r k) k).getD k default).id = true
      rw [o4]; exact hlk

theorem law_stab_others {r : List Nd} {id : Int} (h : rStabOk r id = true) :
    Fine r (rStab r id) ∧ (rStab r id).length = r.length ∧ (∀ j, j < r.length → (r.getD j default).id ≠ id → ((rStab r id).getD j default).after = (r.getD j default).after) ∧ chgTo r (rStab r id) r.length ≤ 1 := by
  obtain ⟨hs, hi, k, hk, hf, hid, e⟩ := stab_open h
  obtain ⟨p1, p2, s, -, -, p3, -⟩ := stabK_parts hs hk
  rw [e]
  refine ⟨stabK_fine hs hk, p1, fun j _ hj => p2 j (fun e => hj (by rw [e]; exact hid)), ?_⟩
  have := chg_le p3 r.length
  split at this <;> omega

theorem law_stab_live {r : List Nd} {id : Int} (h : rStabOk r id = true) :
    live (rStab r id) (a0 (ndOf (rStab r id) id)) = true ∧ live (rStab r id) (ndOf (rStab r id) (a0 (ndOf (rStab r id) id))).before = true := by
  obtain ⟨hs, hi, k, hk, hf, hid, e⟩ := stab_open h
  obtain ⟨p1, p2, s, -, hsl, -, -, p4, p5⟩ := stabK_parts hs hk
  have hfn := stabK_fine hs hk
  rw [e, hfn.live_eq, hfn.live_eq, fine_ndOf hfn.2.1 hf, fine_ndOf hfn.2.1 p4]
  exact ⟨fnd_live_iff.1 (by omega), p5⟩

theorem law_stab_near {r : List Nd} {id : Int} (h : rStabOk r id = true) :
    okP id = true ∧ okP (a0 (ndOf r id)) = true ∧ okP (a0 (ndOf (rStab r id) id)) = true ∧ (live r (a0 (ndOf r id)) = true → dist id (a0 (ndOf (rStab r id) id)) ≤ dist id (a0 (ndOf r id))) := by
  obtain ⟨hs, hi, k, hk, hf, hid, e⟩ := stab_open h
  obtain ⟨p1, p2, s, -, hsl, -, p3, p4, p5⟩ := stabK_parts hs hk
  have hfn := stabK_fine hs hk
  have hk' : k < (stabK r k).length := by rw [p1]; exact hk
  have hnv := valid_node (safe_valid hs) (getD_mem hk)
  rw [e, fine_ndOf hfn.2.1 hf, ndOf_hit hf]
  refine ⟨hi, hnv.a0ok, (valid_node (safe_valid hfn.1) (getD_mem hk')).a0ok, fun hl => ?_⟩
  obtain ⟨f2, f3, -, l2, l3⟩ := stab_stages hs hk
  have hk2 : k < (stab2 r k).length := by rw [f2.len]; exact hk
  have e0 : a0 ((stabK r k).getD k default) = a0 ((stab3 (stab2 r k) k).getD k default) := by unfold a0; rw [p3]
  have e2 : a0 ((stab2 r k).getD k default) = a0 (r.getD k default) := by
    rw [stab2_eq hs hk, setAfter_at _ hk]
    show fl r k = _
    unfold fl
    rw [if_pos hl]
  rw [e0]
  unfold stab3
  split
  · unfold closerK
    split
    · next hc =>
      unfold closerOk at hc
      simp only [Bool.and_eq_true, decide_eq_true_eq] at hc
      obtain ⟨s', -, hfs, hts, hids⟩ := fnd_at (fnd_live_iff.1 hc.1)
      unfold followK
      rw [setAfter_at _ hk2, hts]
      show dist id ((stab2 r k).getD s' default).id ≤ _
      rw [hids]
      have h2 := hc.2
      have hv2 := valid_node (safe_valid f2.1) (getD_mem hk2)
      have ho2 := safe_order f2.1 (getD_mem hk2)
      have := (dist_btw hv2.1 (live_ok (safe_valid f2.1) (fnd_live_iff.1 hc.1)) hv2.a0ok h2 ho2.2.1).1
      rw [f2.id_eq, hid, e2] at this
      omega
    · rw [e2]; omega
  · rw [e2]; omega

/-- Rounds. -/
theorem rStab_node {r x : List Nd} (hx : Fine r x) {k : Nat} (hk : k < r.length) : rStabOk x (r.getD k default).id = true ∧ rStab x (r.getD k default).id = stabK x k := by
  have hv := safe_valid hx.1
  have hk' : k < x.length := by rw [hx.len]; exact hk
  have hf : fnd x (r.getD k default).id = (k : Int) := by rw [← hx.id_eq]; exact fnd_self hv hk'
  have hc : (ringSafe x && okP (r.getD k default).id) = true := by rw [hx.1, ← hx.id_eq, (valid_node hv (getD_mem hk')).1]; rfl
  exact ⟨stepB_hit hc hf _, stepR_hit hc hf _⟩

/-- A step keeps what a calm ring depends on. -/
theorem calm_ids {r r' : List Nd} (h : Fine r r') (hs : ringSafe r = true) : rCalm r' = rCalm r := by
  unfold rCalm; rw [h.1, hs, h.2.1]
theorem stepR_fine {c : Bool} {r : List Nd} {id : Int} {f : Nat → List Nd} (h : ringSafe r = true) (hc : c = true) (hf : ∀ k, k < r.length → Fine r (f k)) : Fine r (stepR c r id f) := by
  cases hl : live r id
  · unfold stepR
    rw [hc, if_pos rfl, if_neg (by have := fnd_dead_iff.2 hl; omega)]
    exact Fine.refl h
  · obtain ⟨k, hk, hfk, -, hid⟩ := fnd_at hl
    rw [stepR_hit hc hfk]
    exact hf k hk
theorem rStab_fine {r : List Nd} {id : Int} (h : ringSafe r = true) (hi : okP id = true) : Fine r (rStab r id) := stepR_fine h (by rw [h, hi]; rfl) fun _ hk => stabK_fine h hk
theorem rCloser_fine {r : List Nd} {id o : Int} (h : ringSafe r = true) (hi : okP id = true) (ho : okP o = true) : Fine r (rCloser r id o) := stepR_fine h (by rw [h, hi, ho]; rfl) fun _ hk => closerK_fine h hk o
theorem rNotify_fine {r : List Nd} {id o : Int} (h : ringSafe r = true) (hi : okP id = true) (ho : okP o = true) : Fine r (rNotify r id o) := stepR_fine h (by rw [h, hi, ho]; rfl) fun _ hk => notifyK_fine h hk o
theorem rAdopt_fine {r : List Nd} {id : Int} (h : ringSafe r = true) (hi : okP id = true) : Fine r (rAdopt r id) := stepR_fine h (by rw [h, hi]; rfl) fun _ hk => adoptK_fine h hk

theorem law_calm_steps {r : List Nd} (h : ringSafe r = true) {id o : Int} (hi : okP id = true) (ho : okP o = true) : rCalm (rAdopt (rNotify (rCloser (rStab r id) o id) id o) o) = rCalm r := by
  have f1 := rStab_fine h hi
  have f2 := f1.trans (rCloser_fine f1.1 ho hi)
  have f3 := f2.trans (rNotify_fine f2.1 hi ho)
  have f4 := f3.trans (rAdopt_fine f3.1 ho)
  exact calm_ids f4 h

theorem law_ideal_steps {L : List Int} (h : nodesOk L) (h3 : 3 ≤ L.length) {k : Nat} (hk : k < L.length) :
    let r := idealR L
    let n := r.getD k default
    rDropOk r n.id = false ∧ rCloserOk r n.id (a0 n) = false ∧ rNotifyOk r (a0 n) n.id = false ∧ rAdopt r n.id = r ∧ rStab r n.id = r := by
  intro r n
  obtain ⟨i1, i2, i3, i4, i5, i6⟩ := ideal_stab h h3 hk
  have hs := ideal_safe h h3
  have hk' : k < r.length := by show k < (idealR L).length; rw [idealR_len]; exact hk
  have hv := safe_valid hs
  have hf : fnd r n.id = (k : Int) := fnd_self hv hk'
  have hnv := valid_node hv (getD_mem hk')
  have ho : okP n.id = true := hnv.1
  have hm : (k + 1) % L.length < L.length := Nat.mod_lt _ (by omega)
  have ea : a0 n = L.getD ((k + 1) % L.length) 0 := by show a0 ((idealR L).getD k default) = _; rw [idealR_at hk]; rfl
  have hfa : fnd r (a0 n) = ((k + 1) % L.length : Nat) := by rw [ea]; exact ideal_fnd h hm
  have hoa : okP (a0 n) = true := hnv.a0ok
  have hbb : ∀ a b, btw a b b = false := fun a b => by rw [btw_no]; omega
  refine ⟨?_, ?_, ?_, ?_, ?_⟩
  · unfold rDropOk; rw [stepB_hit (by show (ringSafe (idealR L) && okP n.id) = true; rw [hs, ho]; rfl) hf]; exact i1
  · unfold rCloserOk
    rw [stepB_hit (by show (ringSafe (idealR L) && okP n.id && okP (a0 n)) = true; rw [hs, ho, hoa]; rfl) hf]
    unfold closerOk
    show (_ && btw n.id (a0 n) (a0 n)) = false
    rw [hbb, Bool.and_false]
  · unfold rNotifyOk
    rw [stepB_hit (by show (ringSafe (idealR L) && okP (a0 n) && okP n.id) = true; rw [hs, ho, hoa]; rfl) hfa]
    have : fire4 (idealR L) k = notifyOk (idealR L) ((k + 1) % L.length) n.id := by
      unfold fire4 stabS
      show notifyOk (idealR L) (fnd r (a0 n)).toNat n.id = _
      rw [hfa]; rfl
    rw [← this]; exact i5
  · unfold rAdopt; rw [stepR_hit (by show (ringSafe (idealR L) && okP n.id) = true; rw [hs, ho]; rfl) hf]; exact i2
  · unfold rStab; rw [stepR_hit (by show (ringSafe (idealR L) && okP n.id) = true; rw [hs, ho]; rfl) hf]; exact i6

end Go.Proofs.Ytkefnmmpipeppaa
