/-
  Plain: a block that holds a ringStep; what an owned ring keeps when it is written.
-/
import Derived.Test.YtojpfbbgpcafnaaMem
import Derived.Test.YtojpfbbgpcafnaaOwn2
namespace Go.Proofs.Ytojpfbbgpcafnaa
open Go.RowKit

def boxT (w : World) (S : Nat) : Prop := ∃ cur fl, w.heap[S]? = some (.cells cur 80 fl)
theorem boxT.grown {w w' : World} {S g : Nat} (h : boxT w S) (hg : w.grownBy w' (some g)) (hne : S ≠ g) : boxT w' S := by
  obtain ⟨cur, fl, h⟩ := h
  exact ⟨cur, fl, (hg.block S (Array.getElem?_eq_some_iff.1 h).1 (fun e => by cases e; exact hne rfl)).trans h⟩
theorem ownsRow_notT {w : World} {B size n S : Nat} {e : TypeId} {v : Value} {xs : List Value} (h : w.ownsRow B e size v n xs) (hS : boxT w S) (hne : e ≠ 80) : v.ownBlock ≠ some S := by
  obtain ⟨cur', fl, hS⟩ := hS
  rcases h.2 with ⟨rfl, -⟩ | ⟨g, cap, cur, rfl, -, hg, -⟩
  · intro e; cases e
  · intro e
    have e' : g = S := by simpa [Value.ownBlock] using e
    subst e'
    rw [hg] at hS
    simp at hS
    exact hne hS.2.1
theorem RingOwn.storeS {w : World} {B S : Nat} {v u : Value} {r : List Nd} (h : RingOwn w B v r) (hS : boxT w S) : RingOwn (w.setCell ⟨S, 0, none⟩ u) B v r := by
  obtain ⟨vs, hl, ho, ha, hd⟩ := h
  exact ⟨vs, hl, ownsRow_setCell_other ho (ownsRow_notT ho hS (by decide)) _, fun i hi => ownsRow_setCell_other (ha i hi) (ownsRow_notT (ha i hi) hS (by decide)) _, hd⟩

end Go.Proofs.Ytojpfbbgpcafnaa
