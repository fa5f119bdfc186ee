/-
  Sets of replicas in memory: all from one on; the first.
-/
import Derived.Test.YtkefnmmpipeppaaDri
import Derived.Test.YtkefnmmpipeppaaPb
import Derived.Test.YtkefnmmpipeppaaWrG
set_option linter.unusedSimpArgs false
set_option linter.unusedVariables false
set_option linter.unusedSectionVars false
namespace Go.Proofs.Ytkefnmmpipeppaa
open Go.RowKit

theorem fromK_at {w : World} {B n k cap : Nat} {g : Nat} (h : IntsOwn w B (.slice (some ⟨g, 0, none⟩) n cap) ((List.range n).map Int.ofNat)) (hk : k < n) : IntsAt w (.slice (some ⟨g, k, none⟩) (n - k) (cap - k)) (fromK n k) := by
  obtain ⟨p, c, e, h1, h2, h3⟩ := h.at
  have hl : ((List.range n).map Int.ofNat).length = n := by simp
  rw [hl] at e h1 h3
  cases e
  refine ⟨_, cap - k, by rw [fromK_length], by rw [fromK_length]; omega, by omega, ?_⟩
  rcases h3 with ⟨h0, -⟩ | ⟨b, o, e, hlt, hc⟩
  · have := congrArg List.length h0
    simp at this
    omega
  · cases e
    refine .inr ⟨g, k, rfl, hlt, fun i hi => ?_⟩
    rw [fromK_length] at hi
    rw [fromK_get hi]
    have := hc (k + i) (by omega)
    rw [Nat.zero_add] at this
    rw [this]
    have e2 : ((List.range n).map Int.ofNat).getD (k + i) 0 = ((k + i : Nat) : Int) := by
      rw [List.getD_eq_getElem?_getD, List.getElem?_map, List.getElem?_range (by omega)]
      rfl
    rw [e2]
theorem firstK_at {w : World} {B n h cap : Nat} {g : Nat} (hw : IntsOwn w B (.slice (some ⟨g, 0, none⟩) n cap) ((List.range n).map Int.ofNat)) (hh : h ≤ n) (h0 : 0 < h) : IntsAt w (.slice (some ⟨g, 0, none⟩) h cap) (fromK h 0) := by
  obtain ⟨p, c, e, h1, h2, h3⟩ := hw.at
  have hl : ((List.range n).map Int.ofNat).length = n := by simp
  rw [hl] at e h1 h3
  cases e
  refine ⟨_, cap, by rw [fromK_length]; rfl, by rw [fromK_length]; omega, h2, ?_⟩
  rcases h3 with ⟨h0, -⟩ | ⟨b, o, e, hlt, hc⟩
  · have := congrArg List.length h0
    simp at this
    omega
  · cases e
    refine .inr ⟨g, 0, rfl, hlt, fun i hi => ?_⟩
    rw [fromK_length] at hi
    rw [fromK_get hi]
    have := hc i (by omega)
    rw [this]
    have e2 : ((List.range n).map Int.ofNat).getD i 0 = ((0 + i : Nat) : Int) := by
      rw [List.getD_eq_getElem?_getD, List.getElem?_map, List.getElem?_range (by omega), Nat.zero_add]
      rfl
    rw [e2]
theorem fromK_zero (n : Nat) : fromK n 0 = (List.range n).map Int.ofNat := rfl
theorem firstK_at0 {w : World} {B n : Nat} {a : Value} (hw : IntsOwn w B a ((List.range n).map Int.ofNat)) (_ : 0 < n) : IntsAt w a (fromK n 0) := hw.at
theorem IntsOwn.keep {v u : World} {B : Nat} {z : Value} {xs : List Int} (h : IntsOwn v B z xs) (k : KeepG v u) : IntsOwn u B z xs := ⟨ownsRow_keeps h.1 (B' := B) ⟨k.size, fun q _ hl => k.block q hl⟩ (Nat.le_refl _), h.2⟩
end Go.Proofs.Ytkefnmmpipeppaa
