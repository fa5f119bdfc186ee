/-
  Plain predicates on memory: cells and stores of owned rings.
-/
import Derived.Test.YtojpfbbgpcafnaaMem
import Derived.Test.YtojpfbbgpcafnaaShal
namespace Go.Proofs.Ytojpfbbgpcafnaa
open Go.RowKit

/-- A node of an owned ring: its cells, its successors' two cells. -/
theorem RingOwn.node {w : World} {B g cap : Nat} {r : List Nd} (h : RingOwn w B (.slice (some ⟨g, 0, none⟩) r.length cap) r) {k : Nat} (hk : k < r.length) (h2 : (r.getD k default).after.length = 2) :
    ∃ bk ck, 2 ≤ ck ∧ ck ≤ 9223372036854775807 ∧ B ≤ g ∧ g < w.heap.size ∧ bk < w.heap.size ∧
      w.cell? ⟨g, k * 3, none⟩ = some (.int .i64 (r.getD k default).id) ∧ w.cell? ⟨g, k * 3 + 1, none⟩ = some (.int .i64 (r.getD k default).before) ∧ w.cell? ⟨g, k * 3 + 2, none⟩ = some (.slice (some ⟨bk, 0, none⟩) 2 ck) ∧
      w.cell? ⟨bk, 0, none⟩ = some (.int .i64 (a0 (r.getD k default))) ∧ w.cell? ⟨bk, 1, none⟩ = some (.int .i64 (a1 (r.getD k default))) ∧ (∀ j, w.frozen? ⟨g, j, none⟩ = false) := by
  obtain ⟨va, c1, c2, c3, cf, hg, hB⟩ := h.cells hk
  obtain ⟨vs, hl, ho, ha, hd⟩ := h
  obtain ⟨f1, f2, f3⟩ := flatN_get r vs hl k hk
  obtain ⟨g3, cap3, e3, -, -, -, -, k3, -⟩ := ownsRow_cell ho f3
  cases e3
  have hak := ha k hk
  have e0 : ((r.getD k default).after.map (Value.int .i64))[0]? = some (.int .i64 (a0 (r.getD k default))) := by rw [after2 h2]; rfl
  have e1 : ((r.getD k default).after.map (Value.int .i64))[1]? = some (.int .i64 (a1 (r.getD k default))) := by rw [after2 h2]; rfl
  obtain ⟨bk, ck, hv, hc1, hc2, -, hbk, d0, -⟩ := ownsRow_cell hak e0
  obtain ⟨bk', ck', hv', -, -, -, -, d1, -⟩ := ownsRow_cell hak e1
  rw [hv] at hv' k3
  cases hv'
  rw [h2] at hc1 k3
  unfold maxLen at hc2
  exact ⟨bk, ck, hc1, hc2, hB, hg, hbk, c1, c2, k3, d0, d1, cf⟩

theorem set_getD {α : Type} (d : α) (l : List α) (k : Nat) : l.set k (l.getD k d) = l := by
  by_cases h : k < l.length
  · have : l.getD k d = l[k] := by simp [h]
    rw [this, List.set_getElem_self]
  · exact List.set_eq_of_length_le (Nat.le_of_not_lt h)
theorem RingOwn.core2 {w' : World} {B g cap : Nat} {va : Value} {r : List Nd} {vs : List Value} {k : Nat} {n : Nd} (hl : vs.length = r.length) (hk : k < r.length)
    (hd : ∀ i j, i < j → j < r.length → ∀ q, (vs.getD i undef).ownBlock = some q → (vs.getD j undef).ownBlock ≠ some q)
    (ho : w'.ownsRow B 31 3 (.slice (some ⟨g, 0, none⟩) r.length cap) r.length (flatN (r.set k n) (vs.set k va)))
    (ha : ∀ i, i < r.length → i ≠ k → w'.ownsRow B 3 1 (vs.getD i undef) (r.getD i default).after.length ((r.getD i default).after.map (Value.int .i64)))
    (hva : w'.ownsRow B 3 1 va n.after.length (n.after.map (Value.int .i64))) (hb : va.ownBlock = (vs.getD k undef).ownBlock) :
    RingOwn w' B (.slice (some ⟨g, 0, none⟩) (r.set k n).length cap) (r.set k n) := by
  have hbl : ∀ i, ((vs.set k va).getD i undef).ownBlock = (vs.getD i undef).ownBlock := fun i => by
    by_cases e : k = i
    · subst e
      have : (vs.set k va).getD k undef = va := by simp [hl, hk]
      rw [this]; exact hb
    · have : (vs.set k va).getD i undef = vs.getD i undef := by simp [e]
      rw [this]
  refine ⟨vs.set k va, by simp [hl], by rw [List.length_set]; exact ho, fun i hi => ?_, fun i j hij hj q hq => ?_⟩
  · rw [List.length_set] at hi
    by_cases e : i = k
    · subst e
      have e1 : (vs.set i va).getD i undef = va := by simp [hl, hi]
      have e2 : (r.set i n).getD i default = n := by simp [hi]
      rw [e1, e2]; exact hva
    · have e1 : (vs.set k va).getD i undef = vs.getD i undef := by simp [Ne.symm e]
      have e2 : (r.set k n).getD i default = r.getD i default := by simp [Ne.symm e]
      rw [e1, e2]; exact ha i hi e
  · rw [List.length_set] at hj
    rw [hbl] at hq ⊢
    exact hd i j hij hj q hq

/-- A node's position is stored. -/
theorem RingOwn.setId {w : World} {B g cap : Nat} {r : List Nd} {k : Nat} {x : Int} (h : RingOwn w B (.slice (some ⟨g, 0, none⟩) r.length cap) r) (hk : k < r.length) :
    RingOwn (w.setCell ⟨g, k * 3, none⟩ (.int .i64 x)) B (.slice (some ⟨g, 0, none⟩) (r.set k { r.getD k default with id := x }).length cap) (r.set k { r.getD k default with id := x }) := by
  obtain ⟨vs, hl, ho, ha, hd⟩ := h
  have hf : ∀ i, i < r.length → (w.setCell ⟨g, k * 3, none⟩ (.int .i64 x)).ownsRow B 3 1 (vs.getD i undef) (r.getD i default).after.length ((r.getD i default).after.map (Value.int .i64)) := fun i hi => ownsRow_setCell_other (ha i hi) (own_far ho (ha i hi)) _
  refine RingOwn.core2 (va := vs.getD k undef) hl hk hd ?_ (fun i hi _ => hf i hi) (hf k hk) rfl
  rw [flatN_set r vs k _ _ hl hk]
  obtain ⟨h1, h2, h3⟩ := flatN_get r vs hl k hk
  have e2 : ((flatN r vs).set (k * 3) (.int .i64 x)).set (k * 3 + 1) (.int .i64 (r.getD k default).before) = (flatN r vs).set (k * 3) (.int .i64 x) := List.set_eq_of_getElem? (by rw [List.getElem?_set_ne (by omega)]; exact h2)
  have e3 : ((flatN r vs).set (k * 3) (.int .i64 x)).set (k * 3 + 2) (vs.getD k undef) = (flatN r vs).set (k * 3) (.int .i64 x) := List.set_eq_of_getElem? (by rw [List.getElem?_set_ne (by omega)]; exact h3)
  show (w.setCell ⟨g, k * 3, none⟩ _).ownsRow B _ 3 _ _ ((((flatN r vs).set (k * 3) (.int .i64 x)).set (k * 3 + 1) (.int .i64 (r.getD k default).before)).set (k * 3 + 2) (vs.getD k undef))
  rw [e2, e3]
  exact ownsRow_set ho (k * 3) _

/-- One successor of a node is stored. -/
theorem RingOwn.setSucc {w : World} {B g cap bk ck i : Nat} {r : List Nd} {k : Nat} {x : Int} (h : RingOwn w B (.slice (some ⟨g, 0, none⟩) r.length cap) r) (hk : k < r.length) (h2 : (r.getD k default).after.length = 2)
    (hv : w.cell? ⟨g, k * 3 + 2, none⟩ = some (.slice (some ⟨bk, 0, none⟩) 2 ck)) :
    RingOwn (w.setCell ⟨bk, i, none⟩ (.int .i64 x)) B (.slice (some ⟨g, 0, none⟩) (r.set k { r.getD k default with after := (r.getD k default).after.set i x }).length cap) (r.set k { r.getD k default with after := (r.getD k default).after.set i x }) := by
  obtain ⟨vs, hl, ho, ha, hd⟩ := h
  obtain ⟨f1, f2, f3⟩ := flatN_get r vs hl k hk
  obtain ⟨g3, c3, e3, -, -, -, -, k3, -⟩ := ownsRow_cell ho f3
  cases e3
  have hvk : vs.getD k undef = .slice (some ⟨bk, 0, none⟩) 2 ck := by rw [k3] at hv; exact Option.some.inj hv
  have hak := ha k hk
  rw [hvk, h2] at hak
  have hob : (vs.getD k undef).ownBlock = some bk := by rw [hvk]; rfl
  refine RingOwn.core2 (va := vs.getD k undef) hl hk hd ?_ (fun j hj hne => ?_) ?_ rfl
  · rw [flatN_set r vs k _ _ hl hk]
    have e1 : (flatN r vs).set (k * 3) (.int .i64 (r.getD k default).id) = flatN r vs := List.set_eq_of_getElem? f1
    have e2 : (flatN r vs).set (k * 3 + 1) (.int .i64 (r.getD k default).before) = flatN r vs := List.set_eq_of_getElem? f2
    have e3 : (flatN r vs).set (k * 3 + 2) (vs.getD k undef) = flatN r vs := List.set_eq_of_getElem? f3
    show (w.setCell ⟨bk, i, none⟩ _).ownsRow B _ 3 _ _ ((((flatN r vs).set (k * 3) (.int .i64 (r.getD k default).id)).set (k * 3 + 1) (.int .i64 (r.getD k default).before)).set (k * 3 + 2) (vs.getD k undef))
    rw [e1, e2, e3]
    refine ownsRow_setCell_other ho (fun e => ?_) _
    have := own_far ho (ha k hk)
    rw [hob] at this
    exact this e.symm
  · refine ownsRow_setCell_other (ha j hj) (fun e => ?_) _
    rcases Nat.lt_or_ge j k with h' | h'
    · exact hd j k h' hk bk e hob
    · exact hd k j (by omega) hj bk hob e
  · rw [hvk]
    have := ownsRow_set hak i (.int .i64 x)
    show (w.setCell ⟨bk, i, none⟩ (.int .i64 x)).ownsRow B _ 1 _ ((r.getD k default).after.set i x).length (((r.getD k default).after.set i x).map (Value.int .i64))
    rw [List.length_set, h2, List.map_set]
    exact this

/-- A node's successors are cut. -/
theorem RingOwn.cutSucc {w : World} {B g cap bk ck c : Nat} {r : List Nd} {k : Nat} (h : RingOwn w B (.slice (some ⟨g, 0, none⟩) r.length cap) r) (hk : k < r.length) (h2 : (r.getD k default).after.length = 2) (hc : c ≤ 2)
    (hv : w.cell? ⟨g, k * 3 + 2, none⟩ = some (.slice (some ⟨bk, 0, none⟩) 2 ck)) :
    RingOwn (w.setCell ⟨g, k * 3 + 2, none⟩ (.slice (some ⟨bk, 0, none⟩) c ck)) B (.slice (some ⟨g, 0, none⟩) (r.set k { r.getD k default with after := (r.getD k default).after.take c }).length cap) (r.set k { r.getD k default with after := (r.getD k default).after.take c }) := by
  obtain ⟨vs, hl, ho, ha, hd⟩ := h
  obtain ⟨f1, f2, f3⟩ := flatN_get r vs hl k hk
  obtain ⟨g3, c3, e3, -, -, -, -, k3, -⟩ := ownsRow_cell ho f3
  cases e3
  have hvk : vs.getD k undef = .slice (some ⟨bk, 0, none⟩) 2 ck := by rw [k3] at hv; exact Option.some.inj hv
  have hf : ∀ i, i < r.length → (w.setCell ⟨g, k * 3 + 2, none⟩ (.slice (some ⟨bk, 0, none⟩) c ck)).ownsRow B 3 1 (vs.getD i undef) (r.getD i default).after.length ((r.getD i default).after.map (Value.int .i64)) := fun i hi => ownsRow_setCell_other (ha i hi) (own_far ho (ha i hi)) _
  have hak := hf k hk
  rw [hvk, h2] at hak
  refine RingOwn.core2 (va := .slice (some ⟨bk, 0, none⟩) c ck) hl hk hd ?_ (fun i hi _ => hf i hi) ?_ (by rw [hvk]; rfl)
  · rw [flatN_set r vs k _ _ hl hk]
    have e1 : (flatN r vs).set (k * 3) (.int .i64 (r.getD k default).id) = flatN r vs := List.set_eq_of_getElem? f1
    have e2 : (flatN r vs).set (k * 3 + 1) (.int .i64 (r.getD k default).before) = flatN r vs := List.set_eq_of_getElem? f2
    show (w.setCell ⟨g, k * 3 + 2, none⟩ _).ownsRow B _ 3 _ _ ((((flatN r vs).set (k * 3) (.int .i64 (r.getD k default).id)).set (k * 3 + 1) (.int .i64 (r.getD k default).before)).set (k * 3 + 2) _)
    rw [e1, e2]
    exact ownsRow_set ho (k * 3 + 2) _
  · have hlc : ((r.getD k default).after.take c).length = c := by rw [List.length_take, h2]; omega
    show World.ownsRow _ B _ 1 _ ((r.getD k default).after.take c).length (((r.getD k default).after.take c).map (Value.int .i64))
    rw [hlc]
    rcases hak.2 with ⟨e, -⟩ | ⟨g', cap', cur, e, hb, hg, hc', hm, hs, ht⟩
    · cases e
    · cases e
      refine ⟨by rw [List.length_map, hlc, Nat.mul_one], .inr ⟨bk, ck, cur, rfl, hb, hg, by omega, hm, hs, ?_⟩⟩
      have : cur.toList.take (c * 1) = (cur.toList.take (2 * 1)).take c := by rw [List.take_take]; congr 1; omega
      rw [this, ht, List.map_take]

/-- A row of nodes without one of them. -/
theorem RingOwn.erased {w w' : World} {B C : Nat} {v v' : Value} {r : List Nd} {k : Nat} (h : RingOwn w B v r) (hk : k < r.length) (hb : Below C w w') (hC : w.heap.size ≤ C) (hBC : B ≤ C)
    (ho : ∀ vs : List Value, vs.length = r.length → w.ownsRow B 31 3 v r.length (flatN r vs) → w'.ownsRow C 31 3 v' (r.eraseIdx k).length (flatN (r.eraseIdx k) (vs.eraseIdx k))) : RingOwn w' B v' (r.eraseIdx k) := by
  obtain ⟨vs, hl, ho0, ha, hd⟩ := h
  have G : ∀ i, (vs.eraseIdx k).getD i undef = vs.getD (if i < k then i else i + 1) undef := fun i => by
    simp only [List.getD_eq_getElem?_getD, List.getElem?_eraseIdx]
    split <;> rfl
  have G2 : ∀ i, (r.eraseIdx k).getD i default = r.getD (if i < k then i else i + 1) default := fun i => by
    simp only [List.getD_eq_getElem?_getD, List.getElem?_eraseIdx]
    split <;> rfl
  have hlen : (r.eraseIdx k).length = r.length - 1 := List.length_eraseIdx_of_lt hk
  refine ⟨vs.eraseIdx k, by rw [List.length_eraseIdx_of_lt (by omega), hlen, hl], ownsRow_mono (ho vs hl ho0) hBC, fun i hi => ?_, fun i j hij hj q hq => ?_⟩
  · rw [G, G2]
    exact ownsRow_below (ha _ (by split <;> omega)) hb hC
  · rw [G] at hq ⊢
    exact hd _ _ (by split <;> split <;> omega) (by split <;> omega) q hq

end Go.Proofs.Ytojpfbbgpcafnaa
