/-
  Plain predicates on memory: the cells of a node of an owned ring.
-/
import Derived.Test.YtnoamohpkngbdaaMem
namespace Go.Proofs.Ytnoamohpkngbdaa
open Go.RowKit

/-- A node of an owned ring: its cells, its successors' two cells. -/
theorem RingOwn.node {w : World} {B g cap : Nat} {r : List Nd} (h : RingOwn w B (.slice (some ⟨g, 0, none⟩) r.length cap) r) {k : Nat} (hk : k < r.length) (h2 : (r.getD k default).after.length = 2) :
    ∃ bk ck, 2 ≤ ck ∧ ck ≤ 9223372036854775807 ∧ B ≤ g ∧ g < w.heap.size ∧ bk < w.heap.size ∧
      w.cell? ⟨g, k * 3, none⟩ = some (.int .i64 (r.getD k default).id) ∧ w.cell? ⟨g, k * 3 + 1, none⟩ = some (.int .i64 (r.getD k default).before) ∧ w.cell? ⟨g, k * 3 + 2, none⟩ = some (.slice (some ⟨bk, 0, none⟩) 2 ck) ∧
      w.cell? ⟨bk, 0, none⟩ = some (.int .i64 (a0 (r.getD k default))) ∧ w.cell? ⟨bk, 1, none⟩ = some (.int .i64 (a1 (r.getD k default))) ∧ (∀ j, w.frozen? ⟨g, j, none⟩ = false) := by
  obtain ⟨va, c1, c2, c3, cf, hg, hB⟩ := h.cells hk
  obtain ⟨vs, hl, ho, ha, hd⟩ := h
  obtain ⟨f1, f2, f3⟩ := flatN_get r vs hl k hk
  obtain ⟨g3, cap3, e3, -, -, -, -, k3, -⟩ := ownsRow_cell ho f3
  cases e3
  have hak := ha k hk
  have e0 : ((r.getD k default).after.map (Value.int .i64))[0]? = some (.int .i64 (a0 (r.getD k default))) := by rw [after2 h2]; rfl
  have e1 : ((r.getD k default).after.map (Value.int .i64))[1]? = some (.int .i64 (a1 (r.getD k default))) := by rw [after2 h2]; rfl
  obtain ⟨bk, ck, hv, hc1, hc2, -, hbk, d0, -⟩ := ownsRow_cell hak e0
  obtain ⟨bk', ck', hv', -, -, -, -, d1, -⟩ := ownsRow_cell hak e1
  rw [hv] at hv' k3
  cases hv'
  rw [h2] at hc1 k3
  unfold maxLen at hc2
  exact ⟨bk, ck, hc1, hc2, hB, hg, hbk, c1, c2, k3, d0, d1, cf⟩

end Go.Proofs.Ytnoamohpkngbdaa
