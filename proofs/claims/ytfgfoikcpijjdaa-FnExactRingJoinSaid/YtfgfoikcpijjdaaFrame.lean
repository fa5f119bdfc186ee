/-
  What an argument of a law is: a ring's row as the walks know it; a law whose call returns true and leaves the old memory alone is proved.
-/
import Derived.Test.YtfgfoikcpijjdaaRows
import Derived.Test.YtfgfoikcpijjdaaMem
import Derived.WalkKit
import Derived.ProofKit
import Derived.OpenShut
import Derived.ShutString
import Derived.ChangeOld
import Derived.Below
import Derived.Carry
import Derived.Deep.Slices
import Derived.Deep.Fields
import Derived.ChangeSame
namespace Go.Proofs.Ytfgfoikcpijjdaa
open Go.ChangeShapes Go.WideShapes Go.ChangeAt Go.RowKit Go.Deep

section
variable {H : Type} {enc : TypeId × Value → H} {P : Program} {w : World} {base : Nat} {spare : Nat → Bool} {held : Bool}
theorem open_row_fields {t e : TypeId} {fs : Array Field} {fuel : Nat} {cs : List Value} {x : DataW H × List MemPlace} (ht : P.underlying t = some (.slice e)) (he : P.underlying e = some (.struct fs))
    (hone : oneCellFields P fs = true) (hC : P.cellsOf e = fs.size) (h : DataW.trod enc P w base spare held fuel t cs = some x) :
    cs = [.slice none 0 0] ∨
    ∃ (a : Addr) (len cap : Nat), cs = [.slice (some a) len cap] ∧ len ≤ cap ∧ cap ≤ maxLen ∧
      ∀ i, i < len → ∀ (j : Nat) (f : Field), fs[j]? = some f → ∃ (v : Value) (y : DataW H × List MemPlace) (n : Nat), w.cell? (a.add (i * fs.size + j)) = some v ∧ DataW.trod enc P w base spare held n f.type [v] = some y := by
  rcases open_slice ht h with h0 | ⟨a, len, cap, m, n, D, Pl, hcs, hb, hl, hm, hmm, hx, hi⟩
  · exact .inl h0.1
  · refine .inr ⟨a, len, cap, hcs, hl, hm, fun i him => ?_⟩
    have him' : i < m := by rw [hmm]; split <;> omega
    obtain ⟨cs', hc, ht'⟩ := hi i him'
    rw [hC] at hc
    obtain ⟨ys, n', hn', hy, hlen, hyl, hf⟩ := DataW.trod_struct he ht'
    obtain ⟨_, hcl, hat⟩ := World.cells?_some hc
    intro j f hj
    obtain ⟨ho, hk⟩ := hone_of hone j f hj
    have hjl : j < fs.size := (Array.getElem?_eq_some_iff.1 hj).1
    have hcell := hat j hjl
    have hv : cs'[j]? = some (cs'[j]'(by omega)) := List.getElem?_eq_getElem (by omega)
    have h1 := hf j f hj
    rw [ho, hk] at h1
    have hone' : (cs'.drop j).take 1 = [cs'[j]'(by omega)] := by
      rw [List.drop_eq_getElem_cons (by omega)]
      rfl
    rw [hone'] at h1
    have hys : ys[j]? = some (ys[j]'(by omega)) := List.getElem?_eq_getElem (by omega)
    refine ⟨_, _, _, ?_, h1.trans hys⟩
    rw [← Go.Deep.add_add, hcell, hv]
end

theorem cell_lt {w : World} {a : Addr} {v : Value} (h : w.cell? a = some v) : a.block < w.heap.size := by
  unfold World.cell? at h
  split at h
  · next hb => exact (Array.getElem?_eq_some_iff.1 hb).1
  all_goals simp_all

theorem plain_add (b o j : Nat) : (⟨b, o, none⟩ : Addr).add j = ⟨b, o + j, none⟩ := by
  unfold Addr.add
  split
  · simp_all
  · rfl

theorem row_own : ownKnob Try.prog.godebug = none := by kernel_rfl
theorem row_laid : laidOutB Try.prog = true := by kernel_rfl

section
variable {H : Type} {enc : TypeId × Value → H} {W : World}
theorem ints_of {n : Nat} {va : Value} {y : DataW H × List MemPlace} (h : DataW.trod enc Try.prog W 0 (fun _ => true) true n 36 [va] = some y) : ∃ xs, IntsAt W va xs := by
  rcases open_ints Try.underlying36 Try.underlying3 (by kernel_rfl) h with ⟨hcs, _⟩ | ⟨a, l, c, zs, hcs, _, hl, hm, hz, _, hcell, _⟩
  · simp only [List.cons.injEq, and_true] at hcs
    subst hcs
    exact ⟨[], none, 0, rfl, Nat.le_refl _, by unfold maxLen; omega, .inl ⟨rfl, fun _ => rfl⟩⟩
  · simp only [List.cons.injEq, and_true] at hcs
    subst hcs
    simp only [if_true] at hz
    have hlen : (zs.take l).length = l := by rw [List.length_take]; omega
    refine ⟨zs.take l, some a, c, by rw [hlen], by rw [hlen]; exact hl, hm, ?_⟩
    by_cases h0 : l = 0
    · subst h0
      exact .inl ⟨by simp, fun h => by cases h⟩
    · obtain ⟨b, o, spot⟩ := a
      have c0 := hcell 0 (by omega)
      have hspot : spot = none := by simpa [Addr.add] using World.cell?_spot c0
      subst hspot
      refine .inr ⟨b, o, rfl, ?_, fun i hi => ?_⟩
      · exact cell_lt c0
      · rw [hlen] at hi
        have := hcell i (by omega)
        rw [show (zs.take l).getD i 0 = zs.getD i 0 by simp [hi]]
        rwa [plain_add] at this

theorem int_of {n : Nat} {v : Value} {y : DataW H × List MemPlace} (h : DataW.trod enc Try.prog W 0 (fun _ => true) true n 3 [v] = some y) : ∃ m : Int, v = .int .i64 m := by
  obtain ⟨m, hcs, _, _⟩ := DataW.trod_int Try.underlying3 h
  simp only [List.cons.injEq, and_true] at hcs
  exact ⟨m, hcs⟩

theorem ring_of {v : Value} {d : DataW H} {p : List MemPlace} (h : DataW.Trod enc Try.prog W 0 (fun _ => true) true 22 v d p) (hs : ∃ a l c, v = .slice a l c) : ∃ r, RingAt W v r := by
  obtain ⟨fuel, hf⟩ := h
  obtain ⟨pa, pl, pc, rfl⟩ := hs
  rcases open_row_fields Try.underlying22 Try.underlying38 (by kernel_rfl) (by kernel_rfl) hf with hcs | ⟨a, l, c, hcs, hl, hm, hi⟩
  · simp [Value.cells] at hcs
    obtain ⟨rfl, rfl, rfl⟩ := hcs
    exact ⟨[], none, 0, rfl, Nat.le_refl _, by unfold maxLen; omega, .inl ⟨rfl, fun _ => rfl⟩⟩
  · simp [Value.cells] at hcs
    obtain ⟨rfl, rfl, rfl⟩ := hcs
    by_cases h0 : pl = 0
    · subst h0
      exact ⟨[], some a, pc, rfl, hl, hm, .inl ⟨rfl, fun h => by cases h⟩⟩
    · have hN : ∀ i, ∃ nd : Nd, i < pl → ∃ va, W.cell? (a.add (i * 3)) = some (.int .i64 nd.id) ∧ W.cell? (a.add (i * 3 + 1)) = some (.int .i64 nd.before) ∧ W.cell? (a.add (i * 3 + 2)) = some va ∧ IntsAt W va nd.after := by
        intro i
        by_cases hil : i < pl
        · obtain ⟨v0, y0, n0, c0, t0⟩ := hi i hil 0 _ rfl
          obtain ⟨v1, y1, n1, c1, t1⟩ := hi i hil 1 _ rfl
          obtain ⟨v2, y2, n2, c2, t2⟩ := hi i hil 2 _ rfl
          have s3 : W = W := rfl
          first
          | (obtain ⟨m0, rfl⟩ := int_of t0
             obtain ⟨m1, rfl⟩ := int_of t1
             obtain ⟨xs, hx⟩ := ints_of t2
             exact ⟨⟨m0, m1, xs⟩, fun _ => ⟨v2, c0, c1, c2, hx⟩⟩)
          | (obtain ⟨m0, rfl⟩ := int_of t0
             obtain ⟨m1, rfl⟩ := int_of t2
             obtain ⟨xs, hx⟩ := ints_of t1
             exact ⟨⟨m0, m1, xs⟩, fun _ => ⟨v1, c0, c2, c1, hx⟩⟩)
        · exact ⟨default, fun h => absurd h hil⟩
      obtain ⟨f, hf'⟩ := Classical.axiomOfChoice hN
      obtain ⟨b, o, spot⟩ := a
      obtain ⟨va0, c0, -⟩ := hf' 0 (by omega)
      have hspot : spot = none := by simpa [Addr.add] using World.cell?_spot c0
      subst hspot
      refine ⟨(List.range pl).map f, some ⟨b, o, none⟩, pc, by simp, by simpa using hl, hm, .inr ⟨b, o, rfl, cell_lt c0, fun i hi => ?_⟩⟩
      have hi' : i < pl := by simpa using hi
      obtain ⟨va, e0, e1, e2, e3⟩ := hf' i hi'
      have eg : ((List.range pl).map f).getD i default = f i := by simp [hi']
      rw [eg]
      rw [plain_add] at e0 e1 e2
      exact ⟨e0, e1, va, e2, e3⟩
end
end Go.Proofs.Ytfgfoikcpijjdaa
