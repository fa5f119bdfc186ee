/-
  What an argument of a law is: bytes as the walks know them.
-/
import Derived.Test.YtkefnmmpipeppaaRows
import Derived.Test.YtkefnmmpipeppaaDra
import Derived.WalkKit
import Derived.ProofKit
import Derived.OpenShut
import Derived.ShutString
import Derived.ChangeOld
import Derived.Below
import Derived.Carry
import Derived.Deep.Slices
import Derived.Deep.Fields
import Derived.ChangeSame
namespace Go.Proofs.Ytkefnmmpipeppaa
open Go.ChangeShapes Go.WideShapes Go.ChangeAt Go.RowKit Go.Deep

theorem cell_ltB {w : World} {a : Addr} {v : Value} (h : w.cell? a = some v) : a.block < w.heap.size := by
  unfold World.cell? at h
  split at h
  · next hb => exact (Array.getElem?_eq_some_iff.1 hb).1
  all_goals simp_all
theorem plain_addB (b o j : Nat) : (⟨b, o, none⟩ : Addr).add j = ⟨b, o + j, none⟩ := by
  unfold Addr.add
  split
  · simp_all
  · rfl
theorem row_own : ownKnob Try.prog.godebug = none := by kernel_rfl
theorem row_laid : laidOutB Try.prog = true := by kernel_rfl

theorem byte_wf {n : Int} (h : (Lit.int .u8 n).wf = true) : 0 ≤ n ∧ n ≤ 255 := by
  simp [Lit.wf, IntKind.min, IntKind.max, IntKind.signed, IntKind.bits] at h
  omega

section
variable {H : Type} {enc : TypeId × Value → H} {W : World}
theorem bytes_of {v : Value} {d : DataW H} {p : List MemPlace} (h : DataW.Trod enc Try.prog W 0 (fun _ => true) true 22 v d p) (hs : ∃ a l c, v = .slice a l c) : CodeAt W v := by
  obtain ⟨fuel, hf⟩ := h
  obtain ⟨pa, pl, pc, rfl⟩ := hs
  rcases open_ints Try.underlying22 Try.underlying5 (by kernel_rfl) hf with ⟨hcs, _⟩ | ⟨a, l, c, zs, hcs, _, hl, hm, hz, _, hcell, hwz⟩
  · simp [Value.cells] at hcs
    obtain ⟨rfl, rfl, rfl⟩ := hcs
    exact ⟨none, 0, 0, rfl, Nat.le_refl _, by unfold maxLen; omega, .inl rfl⟩
  · simp [Value.cells] at hcs
    obtain ⟨rfl, rfl, rfl⟩ := hcs
    simp only [if_true] at hz
    by_cases h0 : pl = 0
    · exact ⟨_, pl, pc, rfl, hl, hm, .inl h0⟩
    · obtain ⟨b, o, spot⟩ := a
      have c0 := hcell 0 (by omega)
      have hspot : spot = none := by simpa [Addr.add] using World.cell?_spot c0
      subst hspot
      refine ⟨_, pl, pc, rfl, hl, hm, .inr ⟨b, o, rfl, cell_ltB c0, fun i hi => ?_⟩⟩
      have hc := hcell i (by omega)
      rw [plain_addB] at hc
      have hmem : zs.getD i 0 ∈ zs := by
        have : zs.getD i 0 = zs[i]'(by omega) := by simp [show i < zs.length by omega]
        rw [this]; exact List.getElem_mem _
      have hw := hwz _ hmem
      have hb := byte_wf hw
      refine ⟨(zs.getD i 0).toNat, by omega, ?_⟩
      rw [hc]
      have e : (((zs.getD i 0).toNat : Nat) : Int) = zs.getD i 0 := by omega
      rw [e]
end
end Go.Proofs.Ytkefnmmpipeppaa
