/-
  Contracts: the builtin copy at elements of several cells; rows of three cells an element, with one element put in.
-/
import Derived.Test.YtdcjacgaakpejaaDoorBase
import Derived.Test.YtdcjacgaakpejaaDoorRead
import Derived.Laws.IdiomCopy
import Derived.Lib.Overlaps
import Derived.Lib.AppendZerosOnto
import Derived.Lib.AppendZeros
import Derived.Laws.Externs
import Derived.Lib.SliceRun
import Derived.Shelf.Spec.SlicesInsert
namespace Go.Proofs.YtdcjacgaakpejaaDoor
open Go.RowKit

/-- copy at elements of 'size' cells: all is read before anything is written. -/
theorem run_copy_cellsN {P : Program} (w : World) (dT sT ty elem : TypeId) (b o dLen dCap : Nat) (a : Addr) (sLen sCap size : Nat) (cs : List Value)
    (hu : P.underlying dT = some (.slice elem)) (hs : (P.info? elem).map (·.size) = some size) (hn : cs.length = Nat.min sLen dLen * size)
    (hsrc : ∀ j v, cs[j]? = some v → w.cell? (a.add j) = some v) (hc : ∀ j, j < cs.length → (w.cell? ⟨b, o + j, none⟩).isSome = true) (hf : ∀ j, j < cs.length → w.frozen? ⟨b, o + j, none⟩ = false) (h1 : ∀ v ∈ cs, v.oneCell' = true) :
    (Builtin.copy_ #[dT, sT] ty #[.slice (some ⟨b, o, none⟩) dLen dCap, .slice (some a) sLen sCap]).run P w = .ok (goInt (Nat.min sLen dLen)) (w.setCells b o cs) := by
  have hl := run_loadCells_list (P := P) w a cs hsrc
  have hst := run_storeCells_cells (P := P) b o cs 0 w (by simpa using hc) (by simpa using hf) h1
  cases hq : P.info? elem with
  | none => simp [hq] at hs
  | some i =>
    have hi : i.size = size := by simpa [hq] using hs
    simp [Builtin.copy_, run_underlying hu, Builtin.lenOf, Builtin.firstCells, sizeOf, typeInfo, hq, hi, ← hn, hl, hst]

/-- A row with other cells from place o on. -/
def overL (xs : List Value) : Nat → List Value → List Value
  | _, [] => xs
  | o, u :: us => overL (xs.set o u) (o + 1) us
theorem ownsRow_setCells {B size n g cap : Nat} {e : TypeId} : ∀ (us : List Value) (xs : List Value) (o : Nat) (w : World), w.ownsRow B e size (.slice (some ⟨g, 0, none⟩) n cap) n xs →
    (w.setCells g o us).ownsRow B e size (.slice (some ⟨g, 0, none⟩) n cap) n (overL xs o us)
  | [], _, _, _, h => h
  | u :: us, xs, o, _, h => ownsRow_setCells us (xs.set o u) (o + 1) _ (ownsRow_set h o u)
theorem overL_len : ∀ (us xs : List Value) (o : Nat), (overL xs o us).length = xs.length
  | [], _, _ => rfl
  | u :: us, xs, o => by rw [overL, overL_len us]; simp
theorem overL_eq : ∀ (us xs : List Value) (o : Nat), o + us.length ≤ xs.length → overL xs o us = xs.take o ++ us ++ xs.drop (o + us.length)
  | [], xs, o, _ => by simp [overL]
  | u :: us, xs, o, h => by
    simp only [List.length_cons] at h
    rw [overL, overL_eq us _ _ (by rw [List.length_set]; omega)]
    have h1 : (xs.set o u).take (o + 1) = xs.take o ++ [u] := by
      rw [List.take_set, List.take_succ_eq_append_getElem (by omega), List.set_append_right _ _ (by simp; omega)]
      simp [Nat.min_eq_left (show o ≤ xs.length by omega)]
    rw [h1, List.drop_set_of_lt (by omega)]
    simp [List.append_assoc, Nat.add_comm, Nat.add_left_comm]
theorem grow_setCells (g : Nat) : ∀ (us : List Value) (o : Nat) (w : World), w.grownBy (w.setCells g o us) (some g)
  | [], _, _ => ⟨rfl, rfl, rfl, Nat.le_refl _, fun _ _ _ => rfl⟩
  | u :: us, o, w => grow_trans (grow_set w g o u) (grow_setCells g us (o + 1) _)

theorem below_setCells {B g : Nat} (hg : B ≤ g) {w0 : World} : ∀ (us : List Value) (o : Nat) (w : World), Below B w0 w → Below B w0 (w.setCells g o us)
  | [], _, _, h => h
  | u :: us, o, _, h => below_setCells hg us (o + 1) _ (h.setCell (p := ⟨g, o, none⟩) hg u)
theorem ins_list {L xs news : List Value} {n J : Nat} (hL : L.length = (n + 1) * 3) (hx : xs.length = n * 3) (hn : news.length = 3) (hJ : J ≤ n) (hp : L.take (J * 3) = xs.take (J * 3)) :
    overL (overL L (J * 3) news) ((J + 1) * 3) (xs.drop (J * 3)) = xs.take (J * 3) ++ news ++ xs.drop (J * 3) := by
  have hd : (xs.drop (J * 3)).length = (n - J) * 3 := by rw [List.length_drop, hx]; omega
  rw [overL_eq _ _ _ (by rw [overL_len, hL, hd]; omega), overL_eq _ _ _ (by rw [hL, hn]; omega), hp, hn]
  have ht : (xs.take (J * 3)).length = J * 3 := by rw [List.length_take, hx]; omega
  rw [List.take_append_of_le_length (by simp [ht, hn]; omega), List.take_of_length_le (by simp [ht, hn]; omega), List.drop_of_length_le (l := xs.take (J * 3) ++ news ++ List.drop (J * 3 + 3) L) (by simp only [List.length_append, List.length_drop, ht, hn, hL, hx]; omega), List.append_nil]
theorem ins_list2 {L xs news : List Value} {n J : Nat} (hL : L.length = (n + 1) * 3) (hx : xs.length = n * 3) (hn : news.length = 3) (hJ : J ≤ n) (hp : L.take (J * 3) = xs.take (J * 3)) :
    overL (overL L ((J + 1) * 3) (xs.drop (J * 3))) (J * 3) news = xs.take (J * 3) ++ news ++ xs.drop (J * 3) := by
  have hd : (xs.drop (J * 3)).length = (n - J) * 3 := by rw [List.length_drop, hx]; omega
  rw [overL_eq _ _ _ (by rw [overL_len, hL, hn]; omega), overL_eq (xs.drop (J * 3)) _ _ (by rw [hL, hd]; omega), hn, hd]
  have e1 : (List.take ((J + 1) * 3) L).length = (J + 1) * 3 := by rw [List.length_take, hL]; omega
  have e2 : List.drop ((J + 1) * 3 + (n - J) * 3) L = [] := List.drop_of_length_le (by rw [hL]; omega)
  rw [e2, List.append_nil, List.take_append_of_le_length (by rw [e1]; omega), List.take_take, Nat.min_eq_left (by omega), hp, List.drop_append_of_le_length (by rw [e1]; omega), List.drop_of_length_le (l := List.take ((J + 1) * 3) L) (by rw [e1]; omega), List.nil_append]

/-- A row with room: one element more, whatever its cells hold. -/
theorem ownsRow_room {w : World} {B g n cap : Nat} {e : TypeId} {xs : List Value} (h : w.ownsRow B e 3 (.slice (some ⟨g, 0, none⟩) n cap) n xs) (hc : n < cap) :
    ∃ L, L.length = (n + 1) * 3 ∧ L.take (n * 3) = xs ∧ w.ownsRow B e 3 (.slice (some ⟨g, 0, none⟩) (n + 1) cap) (n + 1) L := by
  rcases h.2 with ⟨h0, -⟩ | ⟨g', cap', cur, e1, hb, hg, hc', hm, hs, ht⟩
  · cases h0
  · cases e1
    have hl : (cur.toList.take ((n + 1) * 3)).length = (n + 1) * 3 := by
      rw [List.length_take, Array.length_toList, hs]
      have : (n + 1) * 3 ≤ cap * 3 := Nat.mul_le_mul_right 3 hc
      omega
    refine ⟨_, hl, ?_, hl, .inr ⟨g, cap, cur, rfl, hb, hg, hc, hm, hs, rfl⟩⟩
    rw [List.take_take, Nat.min_eq_left (by omega)]
    exact ht

/-- What an owned row of three cells a piece says of its block. -/
theorem ownsRow_facts {w : World} {B g n cap : Nat} {e : TypeId} {xs : List Value} (h : w.ownsRow B e 3 (.slice (some ⟨g, 0, none⟩) n cap) n xs) :
    (∀ j v, xs[j]? = some v → w.cell? ⟨g, j, none⟩ = some v) ∧ (∀ j, j < cap * 3 → (w.cell? ⟨g, j, none⟩).isSome = true) ∧ (∀ j, w.frozen? ⟨g, j, none⟩ = false) ∧ w.shape? g = some (e, cap * 3) ∧ cap ≤ maxLen ∧ g < w.heap.size := by
  rcases h.2 with ⟨h0, -⟩ | ⟨g', cap', cur, e1, hb, hg, hc', hm, hs, ht⟩
  · cases h0
  · cases e1
    refine ⟨fun j v hj => ?_, fun j hj => ?_, fun j => by simp [World.frozen?, hg], by simp [World.shape?, hg, hs], hm, (Array.getElem?_eq_some_iff.1 hg).1⟩
    · obtain ⟨g1, c1, e2, -, -, -, -, h1, -⟩ := ownsRow_cell h hj
      cases e2
      exact h1
    · simp only [World.cell?, hg]
      simp [hs, hj]

def InsPostT (T : TypeId) (B g n J : Nat) (xs news : List Value) (w : World) (e : Ending) (w' : World) : Prop :=
  ∃ v', e = .returned v' ∧ w'.ownsRow B T 3 v' (n + 1) (xs.take (J * 3) ++ news ++ xs.drop (J * 3)) ∧ w.grownBy w' (some g)

end Go.Proofs.YtdcjacgaakpejaaDoor
