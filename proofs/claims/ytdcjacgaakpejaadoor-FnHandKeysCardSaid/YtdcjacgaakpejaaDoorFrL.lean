/-
  What an argument of a law of leases is, and what the two listed variables say.
-/
import Derived.Test.YtdcjacgaakpejaaDoorLsZ
import Derived.Test.YtdcjacgaakpejaaDoorRows
import Derived.WalkKit
import Derived.ProofKit
import Derived.OpenShut
import Derived.ShutString
import Derived.ChangeOld
import Derived.Below
import Derived.Carry
import Derived.Deep.Slices
import Derived.Deep.Fields
import Derived.ChangeSame
import Derived.LaidMore
import Derived.Lay
import Derived.Stop.LaidErr
import Derived.Stop.LaidTwo
import Derived.WalkSmall
namespace Go.Proofs.YtdcjacgaakpejaaDoor
open Go.ChangeShapes Go.WideShapes Go.ChangeAt Go.RowKit Go.Deep

section
variable {H : Type} {enc : TypeId × Value → H} {P : Program} {w : World} {base : Nat} {spare : Nat → Bool} {held : Bool}
theorem open_row_fieldsL {t e : TypeId} {fs : Array Field} {fuel : Nat} {cs : List Value} {x : DataW H × List MemPlace} (ht : P.underlying t = some (.slice e)) (he : P.underlying e = some (.struct fs))
    (hone : oneCellFields P fs = true) (hC : P.cellsOf e = fs.size) (h : DataW.trod enc P w base spare held fuel t cs = some x) :
    cs = [.slice none 0 0] ∨
    ∃ (a : Addr) (len cap : Nat), cs = [.slice (some a) len cap] ∧ len ≤ cap ∧ cap ≤ maxLen ∧
      ∀ i, i < len → ∀ (j : Nat) (f : Field), fs[j]? = some f → ∃ (v : Value) (y : DataW H × List MemPlace) (n : Nat), w.cell? (a.add (i * fs.size + j)) = some v ∧ DataW.trod enc P w base spare held n f.type [v] = some y := by
  rcases open_slice ht h with h0 | ⟨a, len, cap, m, n, D, Pl, hcs, hb, hl, hm, hmm, hx, hi⟩
  · exact .inl h0.1
  · refine .inr ⟨a, len, cap, hcs, hl, hm, fun i him => ?_⟩
    have him' : i < m := by rw [hmm]; split <;> omega
    obtain ⟨cs', hc, ht'⟩ := hi i him'
    rw [hC] at hc
    obtain ⟨ys, n', hn', hy, hlen, hyl, hf⟩ := DataW.trod_struct he ht'
    obtain ⟨_, hcl, hat⟩ := World.cells?_some hc
    intro j f hj
    obtain ⟨ho, hk⟩ := hone_of hone j f hj
    have hjl : j < fs.size := (Array.getElem?_eq_some_iff.1 hj).1
    have hcell := hat j hjl
    have hv : cs'[j]? = some (cs'[j]'(by omega)) := List.getElem?_eq_getElem (by omega)
    have h1 := hf j f hj
    rw [ho, hk] at h1
    have hone' : (cs'.drop j).take 1 = [cs'[j]'(by omega)] := by
      rw [List.drop_eq_getElem_cons (by omega)]
      rfl
    rw [hone'] at h1
    have hys : ys[j]? = some (ys[j]'(by omega)) := List.getElem?_eq_getElem (by omega)
    refine ⟨_, _, _, ?_, h1.trans hys⟩
    rw [← Go.Deep.add_add, hcell, hv]
end

theorem cell_ltL {w : World} {a : Addr} {v : Value} (h : w.cell? a = some v) : a.block < w.heap.size := by
  unfold World.cell? at h
  split at h
  · next hb => exact (Array.getElem?_eq_some_iff.1 hb).1
  all_goals simp_all
theorem plain_addL (b o j : Nat) : (⟨b, o, none⟩ : Addr).add j = ⟨b, o + j, none⟩ := by
  unfold Addr.add
  split
  · simp_all
  · rfl
theorem rowL_own : ownKnob Tryd.prog.godebug = none := by kernel_rfl
theorem rowL_laid : laidOutB Tryd.prog = true := by kernel_rfl

section
variable {H : Type} {enc : TypeId × Value → H} {W : World}
theorem int_ofL {n : Nat} {v : Value} {y : DataW H × List MemPlace} (h : DataW.trod enc Tryd.prog W 0 (fun _ => true) true n 3 [v] = some y) : ∃ m : Int, v = .int .i64 m := by
  obtain ⟨m, hcs, _, _⟩ := DataW.trod_int Tryd.underlying3 h
  simp only [List.cons.injEq, and_true] at hcs
  exact ⟨m, hcs⟩
theorem trs_of {v : Value} {d : DataW H} {p : List MemPlace} (h : DataW.Trod enc Tryd.prog W 0 (fun _ => true) true 22 v d p) (hs : ∃ a l c, v = .slice a l c) : ∃ r, TrsAt W v r := by
  obtain ⟨fuel, hf⟩ := h
  obtain ⟨pa, pl, pc, rfl⟩ := hs
  rcases open_row_fieldsL Tryd.underlying22 Tryd.underlying45 (by kernel_rfl) (by kernel_rfl) hf with hcs | ⟨a, l, c, hcs, hl, hm, hi⟩
  · simp [Value.cells] at hcs
    obtain ⟨rfl, rfl, rfl⟩ := hcs
    exact ⟨[], none, 0, rfl, Nat.le_refl _, by unfold maxLen; omega, .inl ⟨rfl, fun _ => rfl⟩⟩
  · simp [Value.cells] at hcs
    obtain ⟨rfl, rfl, rfl⟩ := hcs
    by_cases h0 : pl = 0
    · subst h0
      exact ⟨[], some a, pc, rfl, hl, hm, .inl ⟨rfl, fun h => by cases h⟩⟩
    · have hN : ∀ i, ∃ nd : Tr, i < pl → W.cell? (a.add (i * 3)) = some (.int .i64 nd.a) ∧ W.cell? (a.add (i * 3 + 1)) = some (.int .i64 nd.b) ∧ W.cell? (a.add (i * 3 + 2)) = some (.int .i64 nd.c) := by
        intro i
        by_cases hil : i < pl
        · obtain ⟨v0, y0, n0, c0, t0⟩ := hi i hil 0 _ rfl
          obtain ⟨v1, y1, n1, c1, t1⟩ := hi i hil 1 _ rfl
          obtain ⟨v2, y2, n2, c2, t2⟩ := hi i hil 2 _ rfl
          obtain ⟨m0, rfl⟩ := int_ofL t0
          obtain ⟨m1, rfl⟩ := int_ofL t1
          obtain ⟨m2, rfl⟩ := int_ofL t2
          exact ⟨⟨m0, m1, m2⟩, fun _ => ⟨c0, c1, c2⟩⟩
        · exact ⟨default, fun h => absurd h hil⟩
      obtain ⟨f, hf'⟩ := Classical.axiomOfChoice hN
      obtain ⟨b, o, spot⟩ := a
      obtain ⟨c0, -⟩ := hf' 0 (by omega)
      have hspot : spot = none := by simpa [Addr.add] using World.cell?_spot c0
      subst hspot
      refine ⟨(List.range pl).map f, some ⟨b, o, none⟩, pc, by simp, by simpa using hl, hm, .inr ⟨b, o, rfl, cell_ltL c0, fun i hi => ?_⟩⟩
      have hi' : i < pl := by simpa using hi
      obtain ⟨e0, e1, e2⟩ := hf' i hi'
      have eg : ((List.range pl).map f).getD i default = f i := by simp [hi']
      rw [eg]
      rw [plain_addL] at e0 e1 e2
      exact ⟨e0, e1, e2⟩
end

/-- What the rows list on 'laid'. -/
def laidTwo {H : Type} : List (String × DataW H) := [("loop.example/ringoverlay/impl.errArgs", Rows.laid_loop_example_ringoverlay_impl_errArgs), ("loop.example/ringoverlay/impl.errRefused", Rows.laid_loop_example_ringoverlay_impl_errRefused)]
theorem Tryd.gA : Tryd.prog.globalNamed "loop.example/ringoverlay/impl.errArgs" = some 0 := by kernel_rfl
theorem Tryd.gR : Tryd.prog.globalNamed "loop.example/ringoverlay/impl.errRefused" = some 1 := by kernel_rfl
theorem Tryd.gAType : (Tryd.prog.globals[0]?).map (·.type) = some 47 := by kernel_rfl
theorem Tryd.gRType : (Tryd.prog.globals[1]?).map (·.type) = some 47 := by kernel_rfl
theorem Tryd.cellsE : Tryd.prog.cellsOf 118 = 1 := by kernel_rfl
theorem Tryd.cellsS : Tryd.prog.cellsOf 9 = 1 := by kernel_rfl
theorem Tryd.starE : "*" ++ "errors.errorString" = "*errors.errorString" := by decide
theorem Tryd.rowE (u : TypeId) (h : Tryd.prog.typeName? 3 u = some "*errors.errorString") : u = 92 :=
  typeName_ptr_named (nm := "errors.errorString") (by rw [Tryd.starE]; kernel_rfl) (by kernel_rfl) (by decide) u (by rw [Tryd.starE]; exact h)

theorem laid_of {W : World} (h : laidMetH Tryd.prog laidTwo W) : ∃ a0 a1 : Addr,
    W.var? Tryd.prog "loop.example/ringoverlay/impl.errArgs" = some #[.iface 92 (.pointer (some a0))] ∧
    W.var? Tryd.prog "loop.example/ringoverlay/impl.errRefused" = some #[.iface 92 (.pointer (some a1))] ∧ Laid W a0 a1 := by
  rw [MakeChecks.laidMetH_plain _ _ _ (by kernel_rfl)] at h
  obtain ⟨a0, a1, s0, s1, c0, c1, t0, t1, hv0, hv1, hc0, hs0, hz0, hc1, hs1, hz1, hne, hb0, hb1⟩ := laid_sentinels2 h Tryd.gA Tryd.gAType Tryd.gR Tryd.gRType Tryd.underlying47 Tryd.rowE Tryd.underlying92 Tryd.underlying118 rfl rfl Tryd.underlying9 Tryd.cellsE Tryd.cellsS
  exact ⟨a0, a1, hv0, hv1, ⟨by simpa using World.var?_cell Tryd.gA hv0 0, by simpa using World.var?_cell Tryd.gR hv1 0, hne, ⟨_, _, hb0⟩, ⟨_, _, hb1⟩⟩⟩

theorem vars_two {H : Type} (enc : TypeId × Value → H) {X : World} {a0 a1 : Addr} (x0 : X.var? Tryd.prog "loop.example/ringoverlay/impl.errArgs" = some #[.iface 92 (.pointer (some a0))])
    (x1 : X.var? Tryd.prog "loop.example/ringoverlay/impl.errRefused" = some #[.iface 92 (.pointer (some a1))]) (sp : Nat → Bool) :
    DataW.TrodVars enc Tryd.prog X sp ["loop.example/ringoverlay/impl.errArgs", "loop.example/ringoverlay/impl.errRefused"] [tok enc (.iface 92 (.pointer (some a0))), tok enc (.iface 92 (.pointer (some a1)))] [.cell 0 0, .cell 1 0] :=
  vars_read2 enc Tryd.gA Tryd.gAType Tryd.underlying47 x0 trivial Tryd.gR Tryd.gRType Tryd.underlying47 x1 trivial sp
theorem vars_kept {X Y : World} {a0 a1 : Addr} (hb : Below X.heap.size X Y) (hL : Laid X a0 a1) (x0 : X.var? Tryd.prog "loop.example/ringoverlay/impl.errArgs" = some #[.iface 92 (.pointer (some a0))])
    (x1 : X.var? Tryd.prog "loop.example/ringoverlay/impl.errRefused" = some #[.iface 92 (.pointer (some a1))]) :
    Y.var? Tryd.prog "loop.example/ringoverlay/impl.errArgs" = some #[.iface 92 (.pointer (some a0))] ∧ Y.var? Tryd.prog "loop.example/ringoverlay/impl.errRefused" = some #[.iface 92 (.pointer (some a1))] :=
  ⟨var?_below hb Tryd.gA (World.block_lt_of_cell? _ _ hL.g0) x0, var?_below hb Tryd.gR (World.block_lt_of_cell? _ _ hL.g1) x1⟩
theorem witness_laid (os : Os) (args : Array Value) : laidMetH Tryd.prog laidTwo ((World.laidAll Tryd.prog os laidTwo).forCall (fun _ _ => 0) ⟨#[], args, []⟩).memory := by
  rw [MakeChecks.laidMetH_plain _ _ _ (by kernel_rfl)]
  exact laidMet_laidAll _ (by kernel_rfl) (by kernel_rfl)

end Go.Proofs.YtdcjacgaakpejaaDoor
