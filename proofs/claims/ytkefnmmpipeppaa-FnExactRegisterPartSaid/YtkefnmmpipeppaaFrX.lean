/-
  What an argument of an exact law of registers is.
-/
import Derived.Test.YtkefnmmpipeppaaFrR
import Derived.Test.YtkefnmmpipeppaaGe
import Derived.Test.YtkefnmmpipeppaaXg
import Derived.LaidMore
import Derived.Lay
set_option linter.unusedSectionVars false
namespace Go.Proofs.Ytkefnmmpipeppaa
open Go.ChangeShapes Go.WideShapes Go.ChangeAt Go.RowKit Go.Deep

section
variable {H : Type} {enc : TypeId × Value → H} {P : Program} {w : World} {base : Nat} {spare : Nat → Bool} {held : Bool}
theorem open_row_fieldsL {t e : TypeId} {fs : Array Field} {fuel : Nat} {cs : List Value} {x : DataW H × List MemPlace} (ht : P.underlying t = some (.slice e)) (he : P.underlying e = some (.struct fs))
    (hone : oneCellFields P fs = true) (hC : P.cellsOf e = fs.size) (h : DataW.trod enc P w base spare held fuel t cs = some x) :
    cs = [.slice none 0 0] ∨
    ∃ (a : Addr) (len cap : Nat), cs = [.slice (some a) len cap] ∧ len ≤ cap ∧ cap ≤ maxLen ∧
      ∀ i, i < len → ∀ (j : Nat) (f : Field), fs[j]? = some f → ∃ (v : Value) (y : DataW H × List MemPlace) (n : Nat), w.cell? (a.add (i * fs.size + j)) = some v ∧ DataW.trod enc P w base spare held n f.type [v] = some y := by
  rcases open_slice ht h with h0 | ⟨a, len, cap, m, n, D, Pl, hcs, hb, hl, hm, hmm, hx, hi⟩
  · exact .inl h0.1
  · refine .inr ⟨a, len, cap, hcs, hl, hm, fun i him => ?_⟩
    have him' : i < m := by rw [hmm]; split <;> omega
    obtain ⟨cs', hc, ht'⟩ := hi i him'
    rw [hC] at hc
    obtain ⟨ys, n', hn', hy, hlen, hyl, hf⟩ := DataW.trod_struct he ht'
    obtain ⟨_, hcl, hat⟩ := World.cells?_some hc
    intro j f hj
    obtain ⟨ho, hk⟩ := hone_of hone j f hj
    have hjl : j < fs.size := (Array.getElem?_eq_some_iff.1 hj).1
    have hcell := hat j hjl
    have hv : cs'[j]? = some (cs'[j]'(by omega)) := List.getElem?_eq_getElem (by omega)
    have h1 := hf j f hj
    rw [ho, hk] at h1
    have hone' : (cs'.drop j).take 1 = [cs'[j]'(by omega)] := by
      rw [List.drop_eq_getElem_cons (by omega)]
      rfl
    rw [hone'] at h1
    have hys : ys[j]? = some (ys[j]'(by omega)) := List.getElem?_eq_getElem (by omega)
    refine ⟨_, _, _, ?_, h1.trans hys⟩
    rw [← Go.Deep.add_add, hcell, hv]
end

section
variable {H : Type} {enc : TypeId × Value → H} {W : World}
theorem int_ofX {n : Nat} {v : Value} {y : DataW H × List MemPlace} (h : DataW.trod enc Try.prog W 0 (fun _ => true) true n 3 [v] = some y) : ∃ m : Int, v = .int .i64 m := by
  obtain ⟨m, hcs, _, _⟩ := DataW.trod_int Try.underlying3 h
  simp only [List.cons.injEq, and_true] at hcs
  exact ⟨m, hcs⟩
theorem trs_of {v : Value} {d : DataW H} {p : List MemPlace} (h : DataW.Trod enc Try.prog W 0 (fun _ => true) true 36 v d p) (hs : ∃ a l c, v = .slice a l c) : ∃ r, TrsAt W v r := by
  obtain ⟨fuel, hf⟩ := h
  obtain ⟨pa, pl, pc, rfl⟩ := hs
  rcases open_row_fieldsL Try.underlying36 Try.underlying37 (by kernel_rfl) (by kernel_rfl) hf with hcs | ⟨a, l, c, hcs, hl, hm, hi⟩
  · simp [Value.cells] at hcs
    obtain ⟨rfl, rfl, rfl⟩ := hcs
    exact ⟨[], none, 0, rfl, Nat.le_refl _, by unfold maxLen; omega, .inl ⟨rfl, fun _ => rfl⟩⟩
  · simp [Value.cells] at hcs
    obtain ⟨rfl, rfl, rfl⟩ := hcs
    by_cases h0 : pl = 0
    · subst h0
      exact ⟨[], some a, pc, rfl, hl, hm, .inl ⟨rfl, fun h => by cases h⟩⟩
    · have hN : ∀ i, ∃ nd : Tr, i < pl → W.cell? (a.add (i * 3)) = some (.int .i64 nd.a) ∧ W.cell? (a.add (i * 3 + 1)) = some (.int .i64 nd.b) ∧ W.cell? (a.add (i * 3 + 2)) = some (.int .i64 nd.c) := by
        intro i
        by_cases hil : i < pl
        · obtain ⟨v0, y0, n0, c0, t0⟩ := hi i hil 0 _ rfl
          obtain ⟨v1, y1, n1, c1, t1⟩ := hi i hil 1 _ rfl
          obtain ⟨v2, y2, n2, c2, t2⟩ := hi i hil 2 _ rfl
          obtain ⟨m0, rfl⟩ := int_ofX t0
          obtain ⟨m1, rfl⟩ := int_ofX t1
          obtain ⟨m2, rfl⟩ := int_ofX t2
          exact ⟨⟨m0, m1, m2⟩, fun _ => ⟨c0, c1, c2⟩⟩
        · exact ⟨default, fun h => absurd h hil⟩
      obtain ⟨f, hf'⟩ := Classical.axiomOfChoice hN
      obtain ⟨b, o, spot⟩ := a
      obtain ⟨c0, -⟩ := hf' 0 (by omega)
      have hspot : spot = none := by simpa [Addr.add] using World.cell?_spot c0
      subst hspot
      refine ⟨(List.range pl).map f, some ⟨b, o, none⟩, pc, by simp, by simpa using hl, hm, .inr ⟨b, o, rfl, cell_ltB c0, fun i hi => ?_⟩⟩
      have hi' : i < pl := by simpa using hi
      obtain ⟨e0, e1, e2⟩ := hf' i hi'
      have eg : ((List.range pl).map f).getD i default = f i := by simp [hi']
      rw [eg]
      rw [plain_addB] at e0 e1 e2
      exact ⟨e0, e1, e2⟩
theorem ints_of {v : Value} {d : DataW H} {p : List MemPlace} (h : DataW.Trod enc Try.prog W 0 (fun _ => true) true 24 v d p) (hs : ∃ a l c, v = .slice a l c) : ∃ xs, IntsAt W v xs := by
  obtain ⟨fuel, hf⟩ := h
  obtain ⟨pa, pl, pc, rfl⟩ := hs
  rcases open_ints Try.underlying24 Try.underlying3 (by kernel_rfl) hf with ⟨hcs, _⟩ | ⟨a, l, c, zs, hcs, _, hl, hm, hz, _, hcell, hwz⟩
  · simp [Value.cells] at hcs
    obtain ⟨rfl, rfl, rfl⟩ := hcs
    exact ⟨[], none, 0, rfl, Nat.le_refl _, by unfold maxLen; omega, .inl ⟨rfl, fun _ => rfl⟩⟩
  · simp [Value.cells] at hcs
    obtain ⟨rfl, rfl, rfl⟩ := hcs
    simp only [if_true] at hz
    by_cases h0 : pl = 0
    · subst h0
      exact ⟨[], some a, pc, rfl, hl, hm, .inl ⟨rfl, fun h => by cases h⟩⟩
    · obtain ⟨b, o, spot⟩ := a
      have c0 := hcell 0 (by omega)
      have hspot : spot = none := by simpa [Addr.add] using World.cell?_spot c0
      subst hspot
      have hlen : (zs.take pl).length = pl := by rw [List.length_take]; omega
      refine ⟨zs.take pl, some ⟨b, o, none⟩, pc, by rw [hlen], by rw [hlen]; exact hl, hm, .inr ⟨b, o, rfl, cell_ltB c0, fun i hi => ?_⟩⟩
      rw [hlen] at hi
      have hc := hcell i (by omega)
      rw [plain_addB] at hc
      rw [hc]
      simp [List.getD_eq_getElem?_getD, hi]
end
theorem trsAt_hide (k : Nat) {W : World} {v : Value} {xs : List Tr} (h : TrsAt W v xs) : TrsAt (hideW k W) v xs := by
  obtain ⟨p, cap, h1, h2, h3, h4⟩ := h
  refine ⟨p, cap, h1, h2, h3, h4.imp id fun ⟨b, o, e, hl, hx⟩ => ⟨b, o, e, by rw [hide_size]; exact hl, fun i hi => ?_⟩⟩
  obtain ⟨x0, x1, x2⟩ := hx i hi
  exact ⟨(hide_cell k W _).trans x0, (hide_cell k W _).trans x1, (hide_cell k W _).trans x2⟩
theorem intsAt_hide (k : Nat) {W : World} {v : Value} {xs : List Int} (h : IntsAt W v xs) : IntsAt (hideW k W) v xs := by
  obtain ⟨p, cap, h1, h2, h3, h4⟩ := h
  exact ⟨p, cap, h1, h2, h3, h4.imp id fun ⟨b, o, e, hl, hx⟩ => ⟨b, o, e, by rw [hide_size]; exact hl, fun i hi => (hide_cell k W _).trans (hx i hi)⟩⟩
end Go.Proofs.Ytkefnmmpipeppaa
