/-
  From a contract beside leavers to the run from every start: what was hidden at the start is as it was.
-/
import Derived.Test.YtkefnmmpipeppaaGw
import Derived.Test.YtkefnmmpipeppaaDra
import Derived.Conc.LeavingOf
set_option linter.unusedSimpArgs false
set_option linter.unusedVariables false
set_option linter.unusedSectionVars false
namespace Go.Proofs.Ytkefnmmpipeppaa
open Go.Conc Go.ConcN Go.RowKit Go.Proofs.Ytkefnmmpipeppaa.Rg

/-- The world with what waits for its package's start hidden. -/
def hideW (k : Nat) (W : World) : World := { W with heap := W.heap.map fun | .pending _ _ => .stringIter default k | o => o }
abbrev keptOf (W : World) : Kept := ⟨W.heap.size, fun b => W.heap[b]?⟩
theorem hide_size (k : Nat) (W : World) : (hideW k W).heap.size = W.heap.size := by simp [hideW]
theorem hide_get (k : Nat) (W : World) (b : Nat) : (∃ c t, W.heap[b]? = some (.pending c t) ∧ (hideW k W).heap[b]? = some (.stringIter default k)) ∨ ((∀ c t, W.heap[b]? ≠ some (.pending c t)) ∧ (hideW k W).heap[b]? = W.heap[b]?) := by
  unfold hideW
  simp only [Array.getElem?_map]
  cases h : W.heap[b]? with
  | none => exact .inr ⟨fun c t e => (by cases e), rfl⟩
  | some o =>
    cases o <;> first
      | exact .inl ⟨_, _, rfl, rfl⟩
      | exact .inr ⟨fun c t e => (by cases e), rfl⟩
theorem hide_cell (k : Nat) (W : World) (a : Addr) : (hideW k W).cell? a = W.cell? a := by
  unfold World.cell?
  rcases hide_get k W a.block with ⟨c, t, h1, h2⟩ | ⟨-, h⟩
  · rw [h1, h2]
  · rw [h]
theorem codeAt_hide (k : Nat) {W : World} {v : Value} (h : CodeAt W v) : CodeAt (hideW k W) v := by
  obtain ⟨pb, n, cap, h1, h2, h3, h4⟩ := h
  refine ⟨pb, n, cap, h1, h2, h3, h4.imp id fun ⟨b, o, e, hl, hx⟩ => ⟨b, o, e, by rw [hide_size]; exact hl, fun i hi => ?_⟩⟩
  obtain ⟨x, hx1, hx2⟩ := hx i hi
  exact ⟨x, hx1, (hide_cell k W _).trans hx2⟩
theorem rel_hide (k : Nat) (W : World) : @Rel (keptOf W) (hideW k W) W := by
  letI : Kept := keptOf W
  refine ⟨(hide_size k W).symm, rfl, rfl, fun b => ?_, fun b c t e => ?_, by rw [hide_size]; exact Nat.le_refl _⟩
  · rcases hide_get k W b with ⟨c, t, h1, h2⟩ | ⟨-, h⟩
    · exact .inr ⟨⟨_, _, h2⟩, .inr ⟨rfl, c, t, h1⟩⟩
    · exact .inl h.symm
  · rcases hide_get k W b with ⟨c', t', h1, h2⟩ | ⟨h0, h⟩
    · rw [h2] at e; cases e
    · rw [h] at e; exact h0 _ _ e
theorem past_start (S : Loc → Prop) (B : Nat) : Past S B #[] :=
  ⟨fun said => by rintro ⟨i, j, _, ⟨a, b, ha, _⟩, _⟩; simp [Trace.act?] at ha, fun i a ha => by simp [touchAt, Trace.act?] at ha, fun i g hg => by simp [Trace.g?] at hg, rfl, by simp⟩

theorem keptBut_tape {W w' : World} (h : Below W.heap.size W { w' with tape := W.tape }) (may : MemPlace → Prop) : W.keptBut w' may := by
  refine ⟨h.os, h.output, fun i hi => ?_⟩
  have hb : w'.heap[i]? = W.heap[i]? := h.block i hi
  rw [hb]
  split <;> simp_all
theorem trod_tape {H : Type} {enc : TypeId × Value → H} {P : Program} {w' : World} {τ : Nat → Question → Nat} {base : Nat} {spare : Nat → Bool} {held : Bool} {ts : List TypeId} {vs : List Value} {ds : List (DataW H)} {ps : List MemPlace} (h : DataW.TrodAll enc P { w' with tape := τ } base spare held ts vs ds ps) : DataW.TrodAll enc P w' base spare held ts vs ds ps :=
  DataW.TrodAll.of_heap (w := { w' with tape := τ }) (w' := w') rfl h
section
variable {P : Program}
theorem runNT_ended_add {n : Nat} {m : Machine} {t t' : Trace} {o : Outcome} {w : World} (h : runNT P n m t = (.ended o w, t')) (k : Nat) : runNT P (n + k) m t = (.ended o w, t') := by
  rw [runNT_add, h]
theorem runNT_ended_eq {n n' : Nat} {m : Machine} {t t₁ t₂ : Trace} {o o' : Outcome} {w w' : World} (h : runNT P n m t = (.ended o w, t₁)) (h' : runNT P n' m t = (.ended o' w', t₂)) : o = o' ∧ w = w' ∧ t₁ = t₂ := by
  rcases Nat.le_total n n' with hl | hl
  · obtain ⟨d, rfl⟩ := Nat.exists_eq_add_of_le hl
    rw [runNT_ended_add h d] at h'
    simp only [Prod.mk.injEq, Stepped.ended.injEq] at h'
    exact ⟨h'.1.1, h'.1.2, h'.2⟩
  · obtain ⟨d, rfl⟩ := Nat.exists_eq_add_of_le hl
    rw [runNT_ended_add h' d] at h
    simp only [Prod.mk.injEq, Stepped.ended.injEq] at h
    exact ⟨h.1.1.symm, h.1.2.symm, h.2.symm⟩
/-- A frame on its way out, with none below: the run ends. -/
theorem leaves_end [Kept] {fr : Frame} {v : World} {z : Value} (h : Rg.Leaves P fr v z) (hi : P.inits.idxOf? fr.fn = none) {w : World} (r : Rel v w) : ∃ es, stepG P true (G fr []) w = .ended (.done z) w es ∧ ∀ e ∈ es, GoodEv v e := by
  obtain ⟨fn, hfn, hz⟩ := h.res
  obtain ⟨w', e, r', ev⟩ := hz w r
  obtain ⟨rfl, -⟩ := Reads.results fn fr.tmps w z w' e
  refine ⟨seen P fr.fn ((results fn fr.tmps).events P w' #[]), ?_, fun x hx => ev x (Go.Conc.mem_seen hx)⟩
  simp [G, stepG, unwind, doReturn, h.mode, h.defers, h.kind, hfn, e, hi, GStep.after]
theorem ends_one [Kept] {f : FuncId} {args : Array Value} {v W : World} {R : Value → World → Prop} (hi : P.inits.idxOf? f = none) (hr : Rel v W) (h : CallsM P f args v R) :
    ∃ M last o w' t', runNT P (M + 1) (solo (G (Frame.enter P f args .normal) []) W) #[] = (.ended o w', t') ∧ runN P M (solo (G (Frame.enter P f args .normal) []) W) = .next last ∧ step P last = .ended o w' ∧
      Conc.Good P (fun z w' => ∃ v', R z v' ∧ Rel v' w') last o w' t' := by
  obtain ⟨N, gs', fr', cs', v', w', sl', t', e1, hA, rfl, hf', z, hL, hR⟩ := h [] #[G (Frame.enter P f args .normal) []] W none #[] ⟨rfl, hr, ⟨_, leavers_one P _⟩, past_start _ _⟩
  obtain ⟨q, hq⟩ := hA.leave
  have hG : Conc.Goes P true AtRel (fun _ _ es => es = #[]) (AtEnd P (ShunV v') w'.heap.size (fun z w' => ∃ v', R z v' ∧ Rel v' w')) 0 (G fr' []) w' := by
    rintro w₁ ⟨d, rfl⟩
    have hr' : Rel v' (w'.at d) := ⟨hA.rel.size, hA.rel.os, hA.rel.output, hA.rel.block, hA.rel.nopend⟩
    obtain ⟨es, e2, e3⟩ := leaves_end hL (by rw [hf']; exact hi) hr'
    exact ⟨rfl, z, es, e2, fun e he => evL_good (e3 e he) (by rw [hA.rel.size]; exact Nat.le_refl _), v', hR, hr'⟩
  obtain ⟨M, last, o, w'', t'', k1, k2, k3, k4⟩ := beside_ends (sl := sl') (fun w w' es h e he => by rw [h] at he; simp at he) hA.main hq hA.past hG
  have e1' : runNT P N (solo (G (Frame.enter P f args .normal) []) W) #[] = (.next (crowd gs' w' sl'), t') := e1
  refine ⟨N + M, last, o, w'', t'', ?_, ?_, k3, k4⟩
  · rw [Nat.add_assoc]; exact runNT_comp e1' k1
  · have e4 : runN P N (solo (G (Frame.enter P f args .normal) []) W) = .next (crowd gs' w' sl') := by rw [← runNT_fst _ _ _ #[], e1']
    rw [runN_add, e4]
    exact k2
/-- ████ FROM EVERY START ONE GOOD RUN: it returns z, and nothing that was there has turned. ████ -/
theorem ends_good {f : FuncId} {args : Array Value} {W : World} {z : Value} (hi : P.inits.idxOf? f = none) (h : ∀ k, @CallsM (keptOf W) P f args (hideW k W) fun y u => y = z ∧ KeepG (hideW k W) u) :
    ∃ M last o w' t', runNT P (M + 1) (solo (G (Frame.enter P f args .normal) []) W) #[] = (.ended o w', t') ∧ runN P M (solo (G (Frame.enter P f args .normal) []) W) = .next last ∧ step P last = .ended o w' ∧
      Conc.Good P (fun y w' => y = z ∧ Below W.heap.size W { w' with tape := W.tape }) last o w' t' := by
  letI : Kept := keptOf W
  obtain ⟨M, last, o, w', t', a1, a2, a3, a4⟩ := ends_one hi (rel_hide 0 W) (h 0)
  obtain ⟨M', last', o', w'', t'', b1, b2, b3, b4⟩ := ends_one hi (rel_hide 1 W) (h 1)
  obtain ⟨rfl, rfl, rfl⟩ := runNT_ended_eq a1 b1
  refine ⟨M, last, o, w', t', a1, a2, a3, a4.mono ?_⟩
  rintro y ⟨v0, ⟨rfl, k0⟩, r0⟩
  obtain ⟨y', -, ⟨v1, ⟨-, k1⟩, r1⟩, -⟩ := b4
  refine ⟨rfl, r0.os.trans k0.os, rfl, r0.output.trans k0.output, ?_, fun b hb => ?_⟩
  · have := k0.size
    have := r0.size
    rw [hide_size] at *
    show W.heap.size ≤ w'.heap.size
    omega
  · show w'.heap[b]? = W.heap[b]?
    have hid : ∀ v : World, Ghost v b ∧ Hidable w' b → w'.heap[b]? = W.heap[b]? := by
      rintro v ⟨-, ⟨hle, -⟩ | ⟨e, -⟩⟩
      · exact absurd (show W.heap.size ≤ b from hle) (by omega)
      · exact e
    rcases r0.block b with e0 | g0
    · rcases hide_get 0 W b with ⟨c, t, h1, h2⟩ | ⟨-, h⟩
      · rcases r1.block b with e1 | g1
        · exfalso
          rw [k0.block b (by rw [hide_size]; exact hb), h2] at e0
          rcases hide_get 1 W b with ⟨c', t', h1', h2'⟩ | ⟨h0, -⟩
          · rw [k1.block b (by rw [hide_size]; exact hb), h2', e0] at e1
            simp at e1
          · exact h0 _ _ h1
        · exact hid _ g1
      · rw [e0, k0.block b (by rw [hide_size]; exact hb), h]
    · exact hid _ g0
end
end Go.Proofs.Ytkefnmmpipeppaa
