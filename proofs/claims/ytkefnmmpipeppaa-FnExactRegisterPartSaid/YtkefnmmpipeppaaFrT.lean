/-
  What an argument that is a replica is.
-/
import Derived.Test.YtkefnmmpipeppaaFrX
namespace Go.Proofs.Ytkefnmmpipeppaa
open Go.ChangeShapes Go.WideShapes Go.ChangeAt Go.RowKit Go.Deep

section
variable {H : Type} {enc : TypeId × Value → H} {P : Program} {w : World} {base : Nat} {spare : Nat → Bool} {held : Bool}
theorem open_fieldsX {e : TypeId} {fs : Array Field} {n : Nat} {cs : List Value} {x : DataW H × List MemPlace} (he : P.underlying e = some (.struct fs)) (hone : oneCellFields P fs = true) (hl : cs.length = fs.size)
    (h : DataW.trod enc P w base spare held n e cs = some x) :
    ∀ (j : Nat) (f : Field), fs[j]? = some f → ∃ (v : Value) (y : DataW H × List MemPlace) (n : Nat), cs[j]? = some v ∧ DataW.trod enc P w base spare held n f.type [v] = some y := by
  obtain ⟨ys, n', hn', hy, hlen, hyl, hf⟩ := DataW.trod_struct he h
  intro j f hj
  obtain ⟨ho, hk⟩ := hone_of hone j f hj
  have hjl : j < fs.size := (Array.getElem?_eq_some_iff.1 hj).1
  have hv : cs[j]? = some (cs[j]'(by omega)) := List.getElem?_eq_getElem (by omega)
  have h1 := hf j f hj
  rw [ho, hk] at h1
  have hone' : (cs.drop j).take 1 = [cs[j]'(by omega)] := by
    rw [List.drop_eq_getElem_cons (by omega)]
    rfl
  rw [hone'] at h1
  have hys : ys[j]? = some (ys[j]'(by omega)) := List.getElem?_eq_getElem (by omega)
  exact ⟨_, _, _, hv, h1.trans hys⟩
end
section
variable {H : Type} {enc : TypeId × Value → H} {W : World}
theorem tri_of {v : Value} {d : DataW H} {p : List MemPlace} (h : DataW.Trod enc Try.prog W 0 (fun _ => true) true 37 v d p) (hs : ∃ cs, v = .agg cs ∧ cs.size = Try.prog.cellsOf 37) :
    ∃ x : Tr, v = .agg #[.int .i64 x.a, .int .i64 x.b, .int .i64 x.c] := by
  obtain ⟨fuel, hf⟩ := h
  obtain ⟨cs, rfl, hc⟩ := hs
  have hc3 : cs.size = 3 := hc.trans (by kernel_rfl)
  have hf' : DataW.trod enc Try.prog W 0 (fun _ => true) true fuel 37 cs.toList = some (d, p) := hf
  have key := open_fieldsX Try.underlying37 (by kernel_rfl) (by rw [Array.length_toList, hc3]; rfl) hf'
  obtain ⟨v0, y0, n0, c0, t0⟩ := key 0 _ rfl
  obtain ⟨v1, y1, n1, c1, t1⟩ := key 1 _ rfl
  obtain ⟨v2, y2, n2, c2, t2⟩ := key 2 _ rfl
  obtain ⟨m0, rfl⟩ := int_ofX t0
  obtain ⟨m1, rfl⟩ := int_ofX t1
  obtain ⟨m2, rfl⟩ := int_ofX t2
  refine ⟨⟨m0, m1, m2⟩, ?_⟩
  have e : cs.toList = [.int .i64 m0, .int .i64 m1, .int .i64 m2] := by
    apply List.ext_getElem?
    intro i
    have hl : cs.toList.length = 3 := by rw [Array.length_toList]; exact hc3
    rcases (show i = 0 ∨ i = 1 ∨ i = 2 ∨ 3 ≤ i by omega) with rfl | rfl | rfl | h3
    · exact c0
    · exact c1
    · exact c2
    · rw [List.getElem?_eq_none (by omega), List.getElem?_eq_none (by simpa using h3)]
  have e2 : cs = #[.int .i64 m0, .int .i64 m1, .int .i64 m2] := by
    rw [← Array.toArray_toList (xs := cs), e]
  rw [e2]
end
end Go.Proofs.Ytkefnmmpipeppaa
