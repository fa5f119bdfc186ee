/-
  A code in a world that is the same but for the tape.
-/
import Derived.Test.YtkefnmmpipeppaaGw
import Derived.Test.YtkefnmmpipeppaaDra
set_option linter.unusedSimpArgs false
set_option linter.unusedVariables false
set_option linter.unusedSectionVars false
namespace Go.Proofs.Ytkefnmmpipeppaa
open Go.Conc Go.ConcN Go.RowKit Go.Conc.Lib Go.ConcR.Gen Go.ConcN.Gen Go.Proofs.Ytkefnmmpipeppaa.Rg
open Go.ConcR (KK wgBlock WgAt stA smA rd wr mk Payload Aside2 DC0 Bk)
variable [Kept]

theorem CodeAt.same {v u : World} {z : Value} (h : CodeAt v z) (s : Same v u) : CodeAt u z := by
  obtain ⟨pb, n, cap, h1, h2, h3, h4⟩ := h
  refine ⟨pb, n, cap, h1, h2, h3, h4.imp id fun ⟨b, o, e, hl, hx⟩ => ⟨b, o, e, by rw [s.heap]; exact hl, fun i hi => ?_⟩⟩
  obtain ⟨x, hx1, hx2⟩ := hx i hi
  exact ⟨x, hx1, (same_cell s _).trans hx2⟩
end Go.Proofs.Ytkefnmmpipeppaa
