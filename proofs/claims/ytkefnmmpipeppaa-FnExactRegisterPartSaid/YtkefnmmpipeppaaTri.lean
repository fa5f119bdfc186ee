/-
  Plain predicates on memory: slices of structs of three integers.
-/
import Derived.Test.YtkefnmmpipeppaaMemI
namespace Go.Proofs.Ytkefnmmpipeppaa
open Go.RowKit

structure Tr where
  a : Int
  b : Int
  c : Int
instance : Inhabited Tr := ⟨⟨0, 0, 0⟩⟩
instance : DecidableEq Tr := fun x y => decidable_of_iff (x.a = y.a ∧ x.b = y.b ∧ x.c = y.c) (by cases x; cases y; simp)

def TriAt (w : World) (b o : Nat) (x : Tr) : Prop :=
  w.cell? ⟨b, o, none⟩ = some (.int .i64 x.a) ∧ w.cell? ⟨b, o + 1, none⟩ = some (.int .i64 x.b) ∧ w.cell? ⟨b, o + 2, none⟩ = some (.int .i64 x.c)
def TrsAt (w : World) (v : Value) (xs : List Tr) : Prop :=
  ∃ p cap, v = .slice p xs.length cap ∧ xs.length ≤ cap ∧ cap ≤ maxLen ∧
    ((xs = [] ∧ (p = none → cap = 0)) ∨ ∃ b o, p = some ⟨b, o, none⟩ ∧ b < w.heap.size ∧ ∀ i, i < xs.length → TriAt w b (o + i * 3) (xs.getD i default))
theorem TriAt.below {B : Nat} {w w' : World} {b o : Nat} {x : Tr} (h : TriAt w b o x) (hlt : b < w.heap.size) (hb : Below B w w') (hB : w.heap.size ≤ B) : TriAt w' b o x := by
  obtain ⟨h1, h2, h3⟩ := h
  have hl := Nat.lt_of_lt_of_le hlt hB
  exact ⟨(hb.cell (p := ⟨b, o, none⟩) hl).trans h1, (hb.cell (p := ⟨b, o + 1, none⟩) hl).trans h2, (hb.cell (p := ⟨b, o + 2, none⟩) hl).trans h3⟩
theorem TrsAt.below {B : Nat} {w w' : World} {v : Value} {xs : List Tr} (h : TrsAt w v xs) (hb : Below B w w') (hB : w.heap.size ≤ B) : TrsAt w' v xs := by
  obtain ⟨p, cap, h1, h2, h3, h4⟩ := h
  refine ⟨p, cap, h1, h2, h3, ?_⟩
  rcases h4 with h4 | ⟨b, o, rfl, hlt, hc⟩
  · exact .inl h4
  · exact .inr ⟨b, o, rfl, Nat.lt_of_lt_of_le hlt hb.size, fun i hi => (hc i hi).below hlt hb hB⟩
theorem TrsAt.form {w : World} {v : Value} {xs : List Tr} (h : TrsAt w v xs) : ∃ p cap, v = .slice p xs.length cap ∧ xs.length ≤ cap ∧ cap ≤ 9223372036854775807 := by
  obtain ⟨p, cap, h1, h2, h3, -⟩ := h
  unfold maxLen at h3
  exact ⟨p, cap, h1, h2, by omega⟩
/-- One struct of a slice. -/
theorem TrsAt.tr {w : World} {p : Option Addr} {n cap : Nat} {xs : List Tr} (h : TrsAt w (.slice p n cap) xs) {k : Nat} (hk : k < xs.length) :
    ∃ b o, p = some ⟨b, o, none⟩ ∧ b < w.heap.size ∧ w.cell? ⟨b, o + k * 3, none⟩ = some (.int .i64 (xs.getD k default).a) ∧ w.cell? ⟨b, o + k * 3 + 1, none⟩ = some (.int .i64 (xs.getD k default).b) ∧ w.cell? ⟨b, o + k * 3 + 2, none⟩ = some (.int .i64 (xs.getD k default).c) := by
  obtain ⟨p', cap', e, -, -, h4⟩ := h
  cases e
  rcases h4 with ⟨rfl, -⟩ | ⟨b, o, rfl, hb, hc⟩
  · simp at hk
  · obtain ⟨h1, h2, h3⟩ := hc k hk
    exact ⟨b, o, rfl, hb, h1, h2, h3⟩

def flatT : List Tr → List Value
  | [] => []
  | x :: r => .int .i64 x.a :: .int .i64 x.b :: .int .i64 x.c :: flatT r
theorem flatT_length : ∀ r : List Tr, (flatT r).length = r.length * 3
  | [] => rfl
  | x :: r => by have := flatT_length r; simp [flatT, this]; omega
theorem flatT_append : ∀ r s : List Tr, flatT (r ++ s) = flatT r ++ flatT s
  | [], _ => rfl
  | x :: r, s => by simp [flatT, flatT_append r s]
theorem flatT_get : ∀ (r : List Tr) (i : Nat), i < r.length →
    (flatT r)[i * 3]? = some (.int .i64 (r.getD i default).a) ∧ (flatT r)[i * 3 + 1]? = some (.int .i64 (r.getD i default).b) ∧ (flatT r)[i * 3 + 2]? = some (.int .i64 (r.getD i default).c)
  | [], i, h => by simp at h
  | x :: r, 0, _ => by simp [flatT]
  | x :: r, i + 1, hi => by
    have := flatT_get r i (by simpa using hi)
    simpa [flatT, Nat.add_mul, Nat.add_right_comm] using this
theorem flatT_one : ∀ (r : List Tr), ∀ u ∈ flatT r, u.oneCell' = true
  | [], u, h => by simp [flatT] at h
  | x :: r, u, hu => by
    simp [flatT] at hu
    rcases hu with rfl | rfl | rfl | hu
    · rfl
    · rfl
    · rfl
    · exact flatT_one r u hu
theorem flatT_take : ∀ (r : List Tr) (k : Nat), flatT (r.take k) = (flatT r).take (k * 3)
  | [], _ => by simp [flatT]
  | x :: r, 0 => by simp [flatT]
  | x :: r, k + 1 => by
    have := flatT_take r k
    simp [flatT, this, Nat.add_mul]
theorem flatT_drop : ∀ (r : List Tr) (k : Nat), flatT (r.drop k) = (flatT r).drop (k * 3)
  | [], _ => by simp [flatT]
  | x :: r, 0 => by simp [flatT]
  | x :: r, k + 1 => by
    have := flatT_drop r k
    simp [flatT, this, Nat.add_mul]
theorem flatT_set : ∀ (r : List Tr) (k : Nat) (x : Tr), k < r.length →
    flatT (r.set k x) = (((flatT r).set (k * 3) (.int .i64 x.a)).set (k * 3 + 1) (.int .i64 x.b)).set (k * 3 + 2) (.int .i64 x.c)
  | [], _, _, h => by simp at h
  | y :: r, 0, x, _ => by simp [flatT]
  | y :: r, k + 1, x, h => by
    have := flatT_set r k x (by simpa using h)
    simp [flatT, this, Nat.add_mul, Nat.add_right_comm]
theorem flatT_inj : ∀ r s : List Tr, flatT r = flatT s → r = s
  | [], [], _ => rfl
  | [], _ :: _, h => by simp [flatT] at h
  | _ :: _, [], h => by simp [flatT] at h
  | x :: r, y :: s, h => by
    simp [flatT] at h
    obtain ⟨h1, h2, h3, h4⟩ := h
    rw [flatT_inj r s h4]
    cases x; cases y
    simp_all

/-- Structs in memory of the call's own. -/
def TrsOwn (w : World) (B : Nat) (T : TypeId) (v : Value) (xs : List Tr) : Prop := w.ownsRow B T 3 v xs.length (flatT xs)
theorem TrsOwn.at {w : World} {B : Nat} {T : TypeId} {v : Value} {xs : List Tr} (h : TrsOwn w B T v xs) : TrsAt w v xs := by
  have ho : w.ownsRow B T 3 v xs.length (flatT xs) := h
  rcases ho.2 with ⟨rfl, hn⟩ | ⟨g, cap, cur, rfl, hb, hg, hc, hm, hs, ht⟩
  · have : xs = [] := List.length_eq_zero_iff.1 hn
    subst this
    exact ⟨none, 0, rfl, Nat.le_refl _, by unfold maxLen; omega, .inl ⟨rfl, fun _ => rfl⟩⟩
  · refine ⟨_, cap, rfl, hc, hm, .inr ⟨g, 0, rfl, (Array.getElem?_eq_some_iff.1 hg).1, fun i hi => ?_⟩⟩
    obtain ⟨h1, h2, h3⟩ := flatT_get xs i hi
    obtain ⟨g1, c1, e1, -, -, -, -, k1, -⟩ := ownsRow_cell ho h1
    obtain ⟨g2, c2, e2, -, -, -, -, k2, -⟩ := ownsRow_cell ho h2
    obtain ⟨g3, c3, e3, -, -, -, -, k3, -⟩ := ownsRow_cell ho h3
    cases e1; cases e2; cases e3
    rw [Nat.zero_add]
    exact ⟨k1, k2, k3⟩
theorem TrsOwn.below {w w' : World} {B B' : Nat} {T : TypeId} {v : Value} {xs : List Tr} (h : TrsOwn w B T v xs) (hb : Below B' w w') (hB : w.heap.size ≤ B') : TrsOwn w' B T v xs := ownsRow_below h hb hB
theorem TrsOwn.mono {w : World} {B B' : Nat} {T : TypeId} {v : Value} {xs : List Tr} (h : TrsOwn w B T v xs) (hB : B' ≤ B) : TrsOwn w B' T v xs := ownsRow_mono h hB
theorem TrsOwn.nil (w : World) (B : Nat) (T : TypeId) : TrsOwn w B T (.slice none 0 0) [] := World.ownsRow_nil _ _ _ _
theorem TrsOwn.keeps {w w' : World} {B : Nat} {T : TypeId} {v : Value} {xs : List Tr} (h : TrsOwn w B T v xs) (hb : Keeps B w w') : TrsOwn w' B T v xs := ownsRow_keeps h hb (Nat.le_refl _)
theorem TrsOwn.form {w : World} {B : Nat} {T : TypeId} {v : Value} {xs : List Tr} (h : TrsOwn w B T v xs) (h0 : 0 < xs.length) :
    ∃ g cap, v = .slice (some ⟨g, 0, none⟩) xs.length cap ∧ xs.length ≤ cap ∧ cap ≤ maxLen ∧ B ≤ g ∧ g < w.heap.size := by
  refine own_form h fun e => ?_
  rcases h.2 with ⟨-, hn⟩ | ⟨g, cap, cur, rfl, -⟩
  · omega
  · cases e
/-- The three cells of a struct of one's own. -/
theorem TrsOwn.cells {w : World} {B g n cap : Nat} {T : TypeId} {xs : List Tr} (h : TrsOwn w B T (.slice (some ⟨g, 0, none⟩) n cap) xs) {k : Nat} (hk : k < xs.length) :
    w.cell? ⟨g, k * 3, none⟩ = some (.int .i64 (xs.getD k default).a) ∧ w.cell? ⟨g, k * 3 + 1, none⟩ = some (.int .i64 (xs.getD k default).b) ∧ w.cell? ⟨g, k * 3 + 2, none⟩ = some (.int .i64 (xs.getD k default).c) ∧
      (∀ j, w.frozen? ⟨g, j, none⟩ = false) ∧ g < w.heap.size ∧ B ≤ g := by
  have ho : w.ownsRow B T 3 (.slice (some ⟨g, 0, none⟩) n cap) xs.length (flatT xs) := h
  obtain ⟨h1, h2, h3⟩ := flatT_get xs k hk
  obtain ⟨g1, c1, e1, -, -, hB, hlt, k1, -⟩ := ownsRow_cell ho h1
  obtain ⟨g2, c2, e2, -, -, -, -, k2, -⟩ := ownsRow_cell ho h2
  obtain ⟨g3, c3, e3, -, -, -, -, k3, -⟩ := ownsRow_cell ho h3
  cases e1; cases e2; cases e3
  refine ⟨k1, k2, k3, fun j => ?_, hlt, hB⟩
  rcases ho.2 with ⟨h0, -⟩ | ⟨g', cap', cur, e1, -, hg, -⟩
  · cases h0
  · cases e1
    simp [World.frozen?, hg]
/-- A struct is stored. -/
theorem TrsOwn.set {w : World} {B g cap : Nat} {T : TypeId} {xs : List Tr} (h : TrsOwn w B T (.slice (some ⟨g, 0, none⟩) xs.length cap) xs) {k : Nat} (hk : k < xs.length) (x : Tr) :
    TrsOwn (((w.setCell ⟨g, k * 3, none⟩ (.int .i64 x.a)).setCell ⟨g, k * 3 + 1, none⟩ (.int .i64 x.b)).setCell ⟨g, k * 3 + 2, none⟩ (.int .i64 x.c)) B T (.slice (some ⟨g, 0, none⟩) xs.length cap) (xs.set k x) := by
  unfold TrsOwn
  rw [List.length_set, flatT_set xs k x hk]
  exact ownsRow_set (ownsRow_set (ownsRow_set h (k * 3) (.int .i64 x.a)) (k * 3 + 1) (.int .i64 x.b)) (k * 3 + 2) (.int .i64 x.c)
/-- What a slice of structs holds, as an append reads it. -/
theorem TrsAt.src {w : World} {v : Value} {xs : List Tr} (h : TrsAt w v xs) : SrcIs w 3 v xs.length (flatT xs) := by
  obtain ⟨p, cap, rfl, hc, hm, h4⟩ := h
  refine ⟨flatT_length xs, flatT_one xs, ?_⟩
  rcases h4 with ⟨rfl, h5⟩ | ⟨b, o, rfl, hlt, hcell⟩
  · cases p with
    | none => rw [h5 rfl]; exact .inl ⟨rfl, rfl⟩
    | some ad => exact .inr ⟨ad, cap, rfl, fun j u hj => by simp [flatT] at hj⟩
  · refine .inr ⟨_, cap, rfl, fun j u hj => ?_⟩
    have hj' : j < xs.length * 3 := by
      rcases Nat.lt_or_ge j (xs.length * 3) with h | h
      · exact h
      · rw [List.getElem?_eq_none (by rw [flatT_length]; exact h)] at hj; cases hj
    rw [Addr.add_lit]
    obtain ⟨f1, f2, f3⟩ := flatT_get xs (j / 3) (by omega)
    obtain ⟨c1, c2, c3⟩ := hcell (j / 3) (by omega)
    have e : j = j / 3 * 3 ∨ j = j / 3 * 3 + 1 ∨ j = j / 3 * 3 + 2 := by omega
    rcases e with e | e | e
    · rw [e, f1] at hj
      rw [e, c1]; exact hj
    · rw [e, f2] at hj
      rw [e, ← Nat.add_assoc, c2]; exact hj
    · rw [e, f3] at hj
      rw [e, ← Nat.add_assoc, c3]; exact hj
theorem getD_tr {xs : List Tr} {k : Nat} (hk : k < xs.length) : xs.getD k default ∈ xs := by
  have : xs.getD k default = xs[k] := by simp [hk]
  rw [this]; exact List.getElem_mem hk

end Go.Proofs.Ytkefnmmpipeppaa
