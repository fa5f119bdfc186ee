/-
  Theory of walks beside goroutines that only leave (part 4).
-/
import Derived.Test.YtddnapbdhjifiaaRg3
set_option linter.unusedSimpArgs false
set_option linter.unusedVariables false
set_option linter.unusedSectionVars false
namespace Go.Proofs.Ytddnapbdhjifiaa.Rg
open Go.Conc
open Go.ConcN (sumTo upd sumTo_upd upd_ne upd_same)
variable [Kept]

/-- The cells that are hidden. -/
def ShunV (v : World) : Loc → Prop := fun l => ∃ a, l = .cell a ∧ Ghost v a.block
theorem evL_good {v : World} {e : Event} (h : GoodEv v e) {B : Nat} (hB : v.heap.size ≤ B) : EvL (ShunV v) B e := by
  rcases h with ⟨a, wr, sy, rfl, h1, h2⟩ | ⟨r, sy, rfl, h1⟩ | rfl
  · refine ⟨fun x hx hs => ?_, by simp, by simp, by rw [ofEvent_cell0]; exact Nat.lt_of_lt_of_le h1 hB⟩
    simp only [ofEvent_cell0, MemAct.touch?, Option.some.injEq] at hx
    subst hx
    obtain ⟨a', e, hg⟩ := hs
    cases e
    exact absurd hg h2
  · refine ⟨fun x hx hs => ?_, by simp, by simp, ?_⟩
    · cases sy <;> simp only [MemAct.ofEvent, MemAct.touch?, Option.some.injEq] at hx <;>
        (subst hx; obtain ⟨a', e, _⟩ := hs; cases e)
    · cases sy <;> exact Nat.lt_of_lt_of_le h1 hB
  · exact ⟨fun x hx => by simp [MemAct.ofEvent, MemAct.touch?] at hx, by simp, by simp, by simp [MemAct.ofEvent, MemAct.low]⟩
theorem past_shun {S S' : Loc → Prop} {B : Nat} {t : Trace} (h : Past S B t) (hs : ∀ l, S l → S' l) : Past S' B t :=
  ⟨h.clean, fun i a ha hm => (h.known i a ha hm).imp id fun x => ⟨hs _ x.1, x.2⟩, h.over, h.hears, h.seen⟩
theorem shun_grow {v v' : World} (g : Grow v v') (l : Loc) (h : ShunV v l) : ShunV v' l := by
  obtain ⟨a, rfl, hg⟩ := h
  have hlt : a.block < v.heap.size := by obtain ⟨s, p, e⟩ := hg; exact (Array.getElem?_eq_some_iff.1 e).1
  exact ⟨a, rfl, (g.ghost _ hlt).2 hg⟩

/-- Goroutine 0 stands at (fr, cs) in the shown world v; the others only leave. -/
structure At (P : Program) (v : World) (fr : Frame) (cs : List Frame) (gs : Array Goroutine) (w : World) (t : Trace) : Prop where
  main : gs[0]? = some (G fr cs)
  rel : Rel v w
  leave : ∃ q, Leavers P t gs q
  past : Past (ShunV v) w.heap.size t

/-- ON WHATEVER TAPE, BESIDE WHATEVER LEAVERS, IT COMES TO X. -/
def GT (P : Program) (fr : Frame) (cs : List Frame) (v : World) (X : Frame → List Frame → World → Prop) : Prop :=
  ∀ gs w sl t, At P v fr cs gs w t → ∃ N gs' fr' cs' v' w' sl' t', runNT P N (crowd gs w sl) t = (.next (crowd gs' w' sl'), t') ∧ At P v' fr' cs' gs' w' t' ∧ X fr' cs' v'

theorem runNT_comp {P : Program} {a b : Nat} {m m₁ : Machine} {t t₁ : Trace} {r : Stepped × Trace} (h : runNT P a m t = (.next m₁, t₁)) (h' : runNT P b m₁ t₁ = r) : runNT P (a + b) m t = r := by
  rw [runNT_add, h]; exact h'

section
variable {P : Program}
theorem GT.stop {fr : Frame} {cs : List Frame} {v : World} {X : Frame → List Frame → World → Prop} (h : X fr cs v) : GT P fr cs v X :=
  fun gs w sl t ha => ⟨0, gs, fr, cs, v, w, sl, t, rfl, ha, h⟩
theorem GT.then {fr : Frame} {cs : List Frame} {v : World} {X Y : Frame → List Frame → World → Prop} (h : GT P fr cs v X) (hx : ∀ fr' cs' v', X fr' cs' v' → GT P fr' cs' v' Y) : GT P fr cs v Y := by
  intro gs w sl t ha
  obtain ⟨N, gs', fr', cs', v', w', sl', t', e, ha', hX⟩ := h gs w sl t ha
  obtain ⟨N', gs'', fr'', cs'', v'', w'', sl'', t'', e', ha'', hY⟩ := hx _ _ _ hX gs' w' sl' t' ha'
  exact ⟨N + N', gs'', fr'', cs'', v'', w'', sl'', t'', runNT_comp e e', ha'', hY⟩
theorem GT.mono {fr : Frame} {cs : List Frame} {v : World} {X Y : Frame → List Frame → World → Prop} (h : GT P fr cs v X) (hx : ∀ fr' cs' v', X fr' cs' v' → Y fr' cs' v') : GT P fr cs v Y :=
  h.then fun _ _ _ x => .stop (hx _ _ _ x)
theorem rel_bare {v w : World} (h : Rel v w) : Rel (bare v) w := ⟨h.size, h.os, h.output, h.block, h.nopend⟩

/-- One machine step, goroutine 0's or a leaver's. -/
theorem at_step {v : World} {fr : Frame} {cs : List Frame} {gs : Array Goroutine} {w : World} {t : Trace} {q : Nat → Nat} {sl : Option (Nat × Nat)} (hm : gs[0]? = some (G fr cs)) (hr : Rel v w) (hL : Leavers P t gs q) (hP : Past (ShunV v) w.heap.size t) :
    (∃ d sl', stepT P (crowd gs w sl) = runT P (crowd gs (w.at d) sl') 0) ∨
    (∃ d gs' sl' t' q', stepT P (crowd gs w sl) = (.next (crowd gs' (w.at d) sl'), t') ∧ gs'.size = gs.size ∧ sumTo gs.size q' < sumTo gs.size q ∧ gs'[0]? = some (G fr cs) ∧ Leavers P (t ++ t') gs' q' ∧ Past (ShunV v) w.heap.size (t ++ t')) := by
  have haw : ∀ g ∈ gs, awake g := by
    intro g hg
    obtain ⟨i, hi, rfl⟩ := Array.mem_iff_getElem.1 hg
    rcases Nat.eq_zero_or_pos i with rfl | hpos
    · have : gs[0] = G fr cs := by simpa [Array.getElem?_eq_getElem hi] using hm
      rw [this]; exact awake_of (.inl rfl)
    · exact awake_of ((hL.old i _ hpos (Array.getElem?_eq_getElem hi)).status.elim .inl fun x => .inr (.inr x))
  obtain ⟨i, g, d, sl', hi, hg, hst⟩ := crowd_pick (P := P) (w := w) (sl := sl) haw ⟨0, _, hm, rfl⟩
  rcases Nat.eq_zero_or_pos i with rfl | hpos
  · exact .inl ⟨d, sl', hst⟩
  · right
    have hq := hL.old i g hpos hi
    have hi0 : (i == 0) = false := by simp; omega
    have hlt : i < gs.size := (Array.getElem?_eq_some_iff.1 hi).1
    cases hqi : q i with
    | zero => rw [hqi] at hq; rw [hq.1] at hg; cases hg
    | succ k =>
      rw [hqi] at hq
      rcases hq with ⟨hf, _⟩ | ⟨_, g', es, hmu, hstp, hq'⟩
      · rw [hf] at hg; cases hg
      have hrunT := runT_crowd_go (P := P) (sl := sl') (i := i) hi (by rw [hi0]; exact hstp (w.at d))
      have hsum : sumTo gs.size (upd q i k) + (k + 1) = sumTo gs.size q + k := by
        have := sumTo_upd q k id hlt
        simpa [hqi] using this
      refine ⟨d, (gs.map (woken P g g' (w.at d))).setIfInBounds i g', sl', MemOp.ofEvents i g.frame.fn g.frame.place es, upd q i k, by rw [hst, hrunT], by simp, by omega, ?_, ⟨fun j x hj hx => ?_, fun j hj => ?_⟩, hP.mute (by omega) hmu⟩
      · have hne : i ≠ 0 := by omega
        rw [Array.getElem?_setIfInBounds_ne hne, Array.getElem?_map, hm]
        simp [woken_run (show (G fr cs).status = .running from rfl)]
      · by_cases hji : i = j
        · subst hji
          rw [Array.getElem?_setIfInBounds_self_of_lt (by simpa using hlt)] at hx
          obtain rfl := Option.some.inj hx
          rw [upd_same, Deaf_own]
          exact hq'
        · rw [Array.getElem?_setIfInBounds_ne hji, Array.getElem?_map] at hx
          obtain ⟨y, hy, rfl⟩ := Option.map_eq_some_iff.1 hx
          have hqj := hL.old j y hj hy
          rw [woken_quitsD hqj, upd_ne q k (Ne.symm hji), Deaf_other t hji _ (fun op hop => by obtain ⟨e, _, rfl⟩ := Go.Conc.mem_ofEvents hop; rfl)]
          exact hqj
      · rw [Deaf_other t (g' := i) (by simp at hj; omega) _ (fun op hop => by obtain ⟨e, _, rfl⟩ := Go.Conc.mem_ofEvents hop; rfl)]
        exact hL.above j (by simpa using hj)

/-- Goroutine 0's own step. -/
theorem at_own {v v' : World} {fr fr' : Frame} {cs cs' : List Frame} {gs : Array Goroutine} {w w' : World} {t : Trace} {q : Nat → Nat} {sl : Option (Nat × Nat)} {es : Array Event} {d : Nat} (hm : gs[0]? = some (G fr cs)) (hL : Leavers P t gs q) (hP : Past (ShunV v) w.heap.size t)
    (hg : Grow v v') (hr' : Rel v' w') (hr : Rel v w) (hs : stepG P true (G fr cs) (w.at d) = .go (G fr' cs') w' es) (he : ∀ e ∈ es, GoodEv v' e) :
    ∃ gs', runT P (crowd gs (w.at d) sl) 0 = (.next (crowd gs' w' sl), MemOp.ofEvents 0 fr.fn fr.place es) ∧ gs'.size = gs.size ∧ gs'[0]? = some (G fr' cs') ∧ Leavers P (t ++ MemOp.ofEvents 0 fr.fn fr.place es) gs' q ∧
      Past (ShunV v') w'.heap.size (t ++ MemOp.ofEvents 0 fr.fn fr.place es) := by
  have hrunT := runT_crowd_go (P := P) (sl := sl) (i := 0) hm (show stepG P (0 == 0) (G fr cs) (w.at d) = _ from hs)
  have hlt : 0 < gs.size := (Array.getElem?_eq_some_iff.1 hm).1
  refine ⟨(gs.map (woken P (G fr cs) (G fr' cs') w')).setIfInBounds 0 (G fr' cs'), hrunT, by simp, by simp [hlt], ⟨fun j x hj hx => ?_, fun j hj => ?_⟩, ?_⟩
  · have hne : 0 ≠ j := by omega
    rw [Array.getElem?_setIfInBounds_ne hne, Array.getElem?_map] at hx
    obtain ⟨y, hy, rfl⟩ := Option.map_eq_some_iff.1 hx
    have hq := hL.old j y hj hy
    rw [woken_quitsD hq, Deaf_other t (by omega) _ (fun op hop => by obtain ⟨e, _, rfl⟩ := Go.Conc.mem_ofEvents hop; rfl)]
    exact hq
  · rw [Deaf_other t (g' := 0) (by simp at hj; omega) _ (fun op hop => by obtain ⟨e, _, rfl⟩ := Go.Conc.mem_ofEvents hop; rfl)]
    exact hL.above j (by simpa using hj)
  · have h1 : Past (ShunV v') w'.heap.size t := (past_shun hP (shun_grow hg)).mono (by rw [hr.size, hr'.size]; exact hg.size)
    exact h1.own fun e hee => evL_good (he e hee) (by rw [hr'.size]; exact Nat.le_refl _)

/-- ████ THE TREE IS WALKED BY THE MACHINE OF MANY. ████ -/
theorem gt_of_term {seg : Bool} {Q : Frame → World → Prop} {fr : Frame} {l : List Frame} {u : World} (h : Term P seg Q fr l u) (k : List Item) (hk : seg = false → k = []) (cs : List Frame) :
    GT P (exF k fr l) (exL k l ++ cs) u (fun fr' cs' v' => cs' = cs ∧ ∃ f, fr' = app f k ∧ Q f v') := by
  induction h with
  | done hQ => exact .stop ⟨rfl, _, rfl, hQ⟩
  | @step fr l u nf nl nv h _ ih =>
    intro gs w sl t ha
    obtain ⟨hm, hr, ⟨q, hL⟩, hP⟩ := ha
    have own : ∀ (gs : Array Goroutine) (w : World) (sl sl' : Option (Nat × Nat)) (t : Trace) (q : Nat → Nat) (d : Nat), gs[0]? = some (G (exF k fr l) (exL k l ++ cs)) → Rel u w → Leavers P t gs q → Past (ShunV u) w.heap.size t → stepT P (crowd gs w sl) = runT P (crowd gs (w.at d) sl') 0 →
        ∃ N gs' fr' cs' v' w' sl' t', runNT P N (crowd gs w sl) t = (.next (crowd gs' w' sl'), t') ∧ At P v' fr' cs' gs' w' t' ∧ cs' = cs ∧ ∃ f, fr' = app f k ∧ Q f v' := by
      intro gs w sl sl' t q d hm hr hL hP hst
      obtain ⟨⟨g1, g2, g3, g4⟩, g5⟩ := h fun i q => w.tape (d + i) q
      obtain ⟨w', es, e1, e2, e3, e4, e5, e6⟩ := g5 k hk cs (w.at d) ⟨hr.size, hr.os, hr.output, hr.block, hr.nopend⟩ fun i q _ => by
        show w.tape (d + i) q = w.tape (d + (0 + i)) q
        rw [Nat.zero_add]
      obtain ⟨gs', k1, k2, k3, k4, k5⟩ := at_own (sl := sl') (v := u) hm hL hP ⟨g3.size, g3.ghost⟩ e2 hr e1 e5
      obtain ⟨N, gs'', fr'', cs'', v'', w'', sl'', t'', r1, r2, r3⟩ := ih (fun i q => w.tape (d + i) q) gs' w' sl' _ ⟨k3, rel_bare e2, ⟨q, k4⟩, k5⟩
      exact ⟨N + 1, gs'', fr'', cs'', v'', w'', sl'', t'', by simp only [runNT, hst, k1]; exact r1, r2, r3⟩
    -- the leavers' steps come first in the measure
    have key : ∀ (M : Nat) (gs : Array Goroutine) (w : World) (sl : Option (Nat × Nat)) (t : Trace) (q : Nat → Nat), sumTo gs.size q ≤ M → gs[0]? = some (G (exF k fr l) (exL k l ++ cs)) → Rel u w → Leavers P t gs q → Past (ShunV u) w.heap.size t →
        ∃ N gs' fr' cs' v' w' sl' t', runNT P N (crowd gs w sl) t = (.next (crowd gs' w' sl'), t') ∧ At P v' fr' cs' gs' w' t' ∧ cs' = cs ∧ ∃ f, fr' = app f k ∧ Q f v' := by
      intro M
      induction M with
      | zero =>
        intro gs w sl t q hM hm hr hL hP
        rcases at_step (sl := sl) hm hr hL hP with ⟨d, sl', hst⟩ | ⟨d, gs', sl', t', q', _, _, hlt, _⟩
        · exact own gs w sl sl' t q d hm hr hL hP hst
        · omega
      | succ M ihM =>
        intro gs w sl t q hM hm hr hL hP
        rcases at_step (sl := sl) hm hr hL hP with ⟨d, sl', hst⟩ | ⟨d, gs', sl', t', q', hst, hsz, hlt, k1, k2, k3⟩
        · exact own gs w sl sl' t q d hm hr hL hP hst
        · obtain ⟨N, gs'', fr'', cs'', v'', w'', sl'', t'', r1, r2, r3⟩ := ihM gs' (w.at d) sl' (t ++ t') q' (by rw [hsz]; omega) k1 ⟨hr.size, hr.os, hr.output, hr.block, hr.nopend⟩ k2 k3
          exact ⟨N + 1, gs'', fr'', cs'', v'', w'', sl'', t'', by simp only [runNT, hst]; exact r1, r2, r3⟩
    exact key _ gs w sl t q (Nat.le_refl _) hm hr hL hP
end
end Go.Proofs.Ytddnapbdhjifiaa.Rg

namespace Go.Proofs.Ytddnapbdhjifiaa.Rg
open Go.Conc
variable [Kept]

/-- The same but for the tape. -/
structure Same (v w : World) : Prop where
  heap : w.heap = v.heap
  os : w.os = v.os
  output : w.output = v.output
theorem Same.refl (v : World) : Same v v := ⟨rfl, rfl, rfl⟩
theorem Same.symm {v w : World} (h : Same v w) : Same w v := ⟨h.heap.symm, h.os.symm, h.output.symm⟩
theorem Same.trans {u v w : World} (h : Same u v) (h' : Same v w) : Same u w := ⟨h'.heap.trans h.heap, h'.os.trans h.os, h'.output.trans h.output⟩
theorem same_on (v : World) (τ : Tape') : Same v (on v τ) := ⟨rfl, rfl, rfl⟩
theorem same_bare (v : World) : Same v (bare v) := ⟨rfl, rfl, rfl⟩
theorem Same.rel {u v w : World} (h : Same u v) (r : Rel u w) : Rel v w :=
  ⟨by rw [h.heap]; exact r.size, r.os.trans h.os.symm, r.output.trans h.output.symm, fun b => by unfold Ghost; rw [h.heap]; exact r.block b, by unfold NoPend; rw [h.heap]; exact r.nopend⟩
theorem Same.shun {u v : World} (h : Same u v) : ShunV u = ShunV v := by unfold ShunV Ghost; rw [h.heap]
theorem Same.at {P : Program} {u v : World} (h : Same u v) {fr : Frame} {cs : List Frame} {gs : Array Goroutine} {w : World} {t : Trace} (a : At P u fr cs gs w t) : At P v fr cs gs w t :=
  ⟨a.main, h.rel a.rel, a.leave, h.shun ▸ a.past⟩

section
variable {P : Program} {L : List FuncId} {fr fr' : Frame} {cs cs' : List Frame} {v v' : World} {X : Frame → List Frame → World → Prop}
theorem GT.same {u : World} (h : Same u v) (g : GT P fr cs u X) : GT P fr cs v X := fun gs w sl t a => g gs w sl t (h.symm.at a)

/-- ONE OWN STEP. -/
theorem gt_step (h : ∀ w, Rel v w → ∃ fr' cs' v' w' es, stepG P true (G fr cs) w = .go (G fr' cs') w' es ∧ Grow v v' ∧ Rel v' w' ∧ (∀ e ∈ es, GoodEv v' e) ∧ GT P fr' cs' v' X) : GT P fr cs v X := by
  intro gs w sl t ha
  obtain ⟨hm, hr, ⟨q, hL⟩, hP⟩ := ha
  have key : ∀ (M : Nat) (gs : Array Goroutine) (w : World) (sl : Option (Nat × Nat)) (t : Trace) (q : Nat → Nat), Go.ConcN.sumTo gs.size q ≤ M → gs[0]? = some (G fr cs) → Rel v w → Leavers P t gs q → Past (ShunV v) w.heap.size t →
      ∃ N gs' fr' cs' v' w' sl' t', runNT P N (crowd gs w sl) t = (.next (crowd gs' w' sl'), t') ∧ At P v' fr' cs' gs' w' t' ∧ X fr' cs' v' := by
    intro M
    induction M with
    | zero =>
      intro gs w sl t q hM hm hr hL hP
      rcases at_step (sl := sl) hm hr hL hP with ⟨d, sl', hst⟩ | ⟨d, gs', sl', t', q', _, _, hlt, _⟩
      · obtain ⟨fr', cs', v', w', es, e1, e2, e3, e4, e5⟩ := h (w.at d) ⟨hr.size, hr.os, hr.output, hr.block, hr.nopend⟩
        obtain ⟨gs', k1, k2, k3, k4, k5⟩ := at_own (sl := sl') hm hL hP e2 e3 hr e1 e4
        obtain ⟨N, gs'', fr'', cs'', v'', w'', sl'', t'', r1, r2, r3⟩ := e5 gs' w' sl' _ ⟨k3, e3, ⟨q, k4⟩, k5⟩
        exact ⟨N + 1, gs'', fr'', cs'', v'', w'', sl'', t'', by simp only [runNT, hst, k1]; exact r1, r2, r3⟩
      · omega
    | succ M ihM =>
      intro gs w sl t q hM hm hr hL hP
      rcases at_step (sl := sl) hm hr hL hP with ⟨d, sl', hst⟩ | ⟨d, gs', sl', t', q', hst, hsz, hlt, k1, k2, k3⟩
      · obtain ⟨fr', cs', v', w', es, e1, e2, e3, e4, e5⟩ := h (w.at d) ⟨hr.size, hr.os, hr.output, hr.block, hr.nopend⟩
        obtain ⟨gs', k1, k2, k3, k4, k5⟩ := at_own (sl := sl') hm hL hP e2 e3 hr e1 e4
        obtain ⟨N, gs'', fr'', cs'', v'', w'', sl'', t'', r1, r2, r3⟩ := e5 gs' w' sl' _ ⟨k3, e3, ⟨q, k4⟩, k5⟩
        exact ⟨N + 1, gs'', fr'', cs'', v'', w'', sl'', t'', by simp only [runNT, hst, k1]; exact r1, r2, r3⟩
      · obtain ⟨N, gs'', fr'', cs'', v'', w'', sl'', t'', r1, r2, r3⟩ := ihM gs' (w.at d) sl' (t ++ t') q' (by rw [hsz]; omega) k1 ⟨hr.size, hr.os, hr.output, hr.block, hr.nopend⟩ k2 k3
        exact ⟨N + 1, gs'', fr'', cs'', v'', w'', sl'', t'', by simp only [runNT, hst]; exact r1, r2, r3⟩
  exact key _ gs w sl t q (Nat.le_refl _) hm hr hL hP
theorem gt_silent (h : ∀ w, stepG P true (G fr cs) w = .go (G fr' cs') w) (g : GT P fr' cs' v X) : GT P fr cs v X :=
  gt_step fun w r => ⟨fr', cs', v, w, #[], h w, .refl v, r, by simp, g⟩

/-- It reads, and no more: the tape is not asked. -/
def Reads (P : Program) {α : Type} (m : Sem α) : Prop := ∀ u a u1, m.run P u = .ok a u1 → u1 = u ∧ ∀ u', Same u u' → m.run P u' = .ok a u'
theorem Reads.pure {α : Type} (a : α) : Reads P (Pure.pure a : Sem α) := fun u b u1 e => by
  cases e
  exact ⟨rfl, fun _ _ => rfl⟩
theorem Reads.halt {α : Type} (h : Halt) : Reads P (Sem.halt h : Sem α) := fun u b u1 e => by cases e
theorem Reads.bind {α β : Type} {m : Sem α} {f : α → Sem β} (h : Reads P m) (hf : ∀ a, Reads P (f a)) : Reads P (m >>= f) := fun u b u1 e => by
  rw [Sem.run_bind] at e
  cases hr : m.run P u with
  | halt x y => rw [hr] at e; cases e
  | ok a v =>
    rw [hr] at e
    obtain ⟨rfl, h2⟩ := h u a v hr
    obtain ⟨rfl, h4⟩ := hf a _ _ _ e
    exact ⟨rfl, fun u' hs => by rw [Sem.run_bind, h2 u' hs]; exact h4 u' hs⟩
theorem Reads.map {α β : Type} {m : Sem α} {f : α → β} (h : Reads P m) : Reads P (Functor.map f m) := h.bind fun a => Reads.pure (f a)
theorem Reads.program : Reads P Go.program := fun u b u1 e => by
  cases e
  exact ⟨rfl, fun _ _ => rfl⟩
theorem Reads.load (a : Addr) (m : Mode) : Reads P (Go.load a m) := fun u b u1 e => by
  have key : ∀ u', Same u u' → u' = { u with tape := u'.tape, drawn := u'.drawn } := by
    rintro ⟨h, t, d, o, p⟩ ⟨h1, h2, h3⟩
    simp only at h1 h2 h3
    subst h1 h2 h3
    rfl
  have hc : ∀ τ d, World.cell? { u with tape := τ, drawn := d } a = u.cell? a := fun _ _ => rfl
  have hf : ∀ τ d, World.farLoad P { u with tape := τ, drawn := d } a (m == .atomic) = u.farLoad P a (m == .atomic) := fun _ _ => rfl
  simp only [Go.load, Sem.run] at e
  cases hx : u.cell? a with
  | some y =>
    rw [hx] at e
    cases e
    refine ⟨rfl, fun u' hs => ?_⟩
    rw [key u' hs]
    simp only [Go.load, Sem.run, hc, hx]
  | none =>
    rw [hx] at e
    simp only at e
    cases hy : u.farLoad P a (m == .atomic) with
    | error h => rw [hy] at e; cases e
    | ok y =>
      rw [hy] at e
      cases e
      refine ⟨rfl, fun u' hs => ?_⟩
      rw [key u' hs]
      simp only [Go.load, Sem.run, hc, hx, hf, hy]
theorem Reads.underlying (t : TypeId) : Reads P (Go.underlying t) := by
  unfold Go.underlying
  refine Reads.program.bind fun p => ?_
  split <;> first | exact Reads.pure _ | exact Reads.halt _
theorem Reads.sizeOf (t : TypeId) : Reads P (Go.sizeOf t) := by
  unfold Go.sizeOf Go.typeInfo
  refine Reads.bind (Reads.program.bind fun p => ?_) fun i => Reads.pure _
  split <;> first | exact Reads.pure _ | exact Reads.halt _
theorem Reads.isAgg (t : TypeId) : Reads P (Go.isAgg t) := by
  unfold Go.isAgg
  refine (Reads.underlying t).bind fun d => ?_
  split <;> exact Reads.pure _
theorem Reads.loadCellsFrom (a : Addr) : ∀ (n i : Nat) (acc : Array Value), Reads P (Go.loadCellsFrom a i n acc)
  | 0, _, _ => Reads.pure _
  | n + 1, i, acc => (Reads.load _ _).bind fun v => Reads.loadCellsFrom a n (i + 1) (acc.push v)
theorem Reads.loadVar (t : TypeId) (a : Addr) : Reads P (Go.loadVar t a) := by
  unfold Go.loadVar
  refine (Reads.isAgg t).bind fun g => ?_
  split
  · exact (Reads.sizeOf t).bind fun n => (Reads.loadCellsFrom a n 0 #[]).bind fun _ => Reads.pure _
  · exact Reads.load _ _
theorem Reads.asAddr (v : Value) : Reads P (Go.asAddr v) := by
  unfold Go.asAddr
  split
  · exact Reads.pure _
  · unfold Go.runtimePanic
    exact Reads.program.bind fun p => Reads.halt _
  · exact Reads.halt _
theorem Reads.mapM {α β : Type} {f : α → Sem β} (hf : ∀ a, Reads P (f a)) : ∀ l : List α, Reads P (l.mapM f)
  | [] => by rw [List.mapM_nil]; exact Reads.pure _
  | a :: l => by
    rw [List.mapM_cons]
    exact (hf a).bind fun b => (Reads.mapM hf l).bind fun bs => Reads.pure _
theorem Reads.results (fn : Func) (tmps : Array Value) : Reads P (results fn tmps) := by
  unfold Go.results
  rw [Array.mapM_eq_mapM_toList]
  refine Reads.bind (Reads.map (Reads.mapM (fun r => ?_) _)) fun vs => Reads.pure _
  cases r with
  | tmp t => exact Reads.pure _
  | cell a t => exact (Reads.asAddr _).bind fun a => Reads.loadVar _ _

/-- A frame on its way out, its result z at hand, in the shown world v. -/
structure Leaves (P : Program) (fr : Frame) (v : World) (z : Value) : Prop extends Out P fr where
  res : ∃ fn, P.funcs[fr.fn]? = some fn ∧ ∀ w, Rel v w → ∃ w', (results fn fr.tmps).run P w = .ok z w' ∧ Rel v w' ∧ ∀ e ∈ (results fn fr.tmps).events P w #[], GoodEv v e
theorem gt_leave {z : Value} {c : Frame} (h : Leaves P fr v z) (g : GT P (c.finish z) cs v X) : GT P fr (c :: cs) v X := by
  obtain ⟨fn, hfn, hz⟩ := h.res
  refine gt_step fun w r => ?_
  obtain ⟨w', e, r', ev⟩ := hz w r
  have := step_out h.toOut hfn c cs w
  rw [e] at this
  obtain ⟨es, k1, k2⟩ := this
  exact ⟨_, cs, v, w', es, k1, .refl v, r', fun x hx => ev x (k2 x hx), g⟩
/-- What a frame on its way out in the shown world hands over. -/
theorem leaves_of {fn : Func} {z : Value} (ho : Out P fr) (hfn : P.funcs[fr.fn]? = some fn) {u : World} (hu : Same u v) {u' : World} (h : (results fn fr.tmps).run P u = .ok z u') : Leaves P fr v z := by
  refine ⟨ho, fn, hfn, fun w r => ?_⟩
  obtain ⟨rfl, hT⟩ := Reads.results fn fr.tmps u z u' h
  let u0 : World := { v with tape := w.tape, drawn := w.drawn }
  have hu0 : Same v u0 := ⟨rfl, rfl, rfl⟩
  obtain ⟨-, hle, htp, hg, hf⟩ := (Sims.results (P := P) fn fr.tmps u0 w (hu0.rel r)).2 z u0 (hT u0 (hu.trans hu0))
  obtain ⟨w', e1, e2, e3, e4, e5, e6⟩ := hf fun _ _ _ => rfl
  exact ⟨w', e1, hu0.symm.rel e2, e5⟩

/-- WHAT A CALL DOES, BESIDE WHATEVER LEAVERS, ON WHATEVER TAPE. -/
def CallsG (P : Program) (f : FuncId) (args : Array Value) (v : World) (R : Value → World → Prop) : Prop :=
  ∀ cs, GT P (Frame.enter P f args .normal) cs v fun fr' cs' v' => cs' = cs ∧ ∃ z, Leaves P fr' v' z ∧ R z v'
theorem CallsG.mono {f : FuncId} {args : Array Value} {R R' : Value → World → Prop} (h : CallsG P f args v R) (hr : ∀ z v', R z v' → R' z v') : CallsG P f args v R' :=
  fun cs => (h cs).mono fun _ _ _ ⟨a, z, b, c⟩ => ⟨a, z, b, hr _ _ c⟩
theorem CallsG.same {u : World} {f : FuncId} {args : Array Value} {R : Value → World → Prop} (h : Same u v) (g : CallsG P f args u R) : CallsG P f args v R := fun cs => (g cs).same h

/-- ████ A LONE CONTRACT HOLDS BESIDE LEAVERS. ████ -/
theorem callsG_of_calls (hC : Closed P L) {f : FuncId} (hf : f ∈ L) {args : Array Value} {R : Value → World → Prop} (hR : ∀ z u u', Same u u' → R z u → R z u')
    (h : ∀ w, Same v w → Calls P f args w fun e w' => ∃ z, e = .returned z ∧ R z w') : CallsG P f args v R := by
  intro cs gs w sl t ha
  have hv : NoPend v := ha.rel.nopend
  let Q : Frame → World → Prop := fun fr u => ∃ z fn, Out P fr ∧ P.funcs[fr.fn]? = some fn ∧ (results fn fr.tmps).run P u = .ok z u ∧ R z u
  have hQ : ∀ fr u u', NoPend u' → u'.heap = u.heap → u'.os = u.os → u'.output = u.output → Q fr u → Q fr u' := by
    rintro fr u u' - h1 h2 h3 ⟨z, fn, ho, hfn, e, hr⟩
    exact ⟨z, fn, ho, hfn, (Reads.results (P := P) fn fr.tmps u z u e).2 u' ⟨h1, h2, h3⟩, hR z u u' ⟨h1, h2, h3⟩ hr⟩
  have hT : Term P false Q (Frame.enter P f args .normal) [] (bare v) := by
    refine term_of_runs hC hQ ⟨(enter_fine hC hf args).toFine, .inl rfl, by simp, hv⟩ fun τ => ?_
    obtain ⟨e, w', fr, ⟨z, rfl, hr⟩, hcomes, hfn, hleave⟩ := h (on v τ) (same_on v τ) [stop0]
    obtain ⟨n, hn⟩ := hcomes
    refine ⟨n, fr, w', ?_, .inr hleave.1, fun g hg => ?_⟩
    · simpa [exF, exL, k0, app_nil] using hn
    · have : g = fr := by rw [hg]; simp [k0, app_nil]
      subst this
      obtain ⟨m1, m2, m3, fn, m4, m5⟩ := hleave
      exact ⟨z, fn, ⟨m1, m2, m3⟩, m4, m5, hr⟩
  have hG := (gt_of_term hT [] (fun _ => rfl) cs).same (same_bare v).symm
  rw [exF_nil, exL_nil, List.nil_append] at hG
  obtain ⟨N, gs', fr', cs', v', w', sl', t', r1, r2, rfl, g, hg, z, fn, ho, hfn, e, hr⟩ := hG gs w sl t ha
  rw [app_nil] at hg
  subst hg
  exact ⟨N, gs', _, _, v', w', sl', t', r1, r2, rfl, z, leaves_of ho hfn (.refl _) e, hr⟩
end
end Go.Proofs.Ytddnapbdhjifiaa.Rg

namespace Go.Proofs.Ytddnapbdhjifiaa.Rg
open Go.Conc
variable [Kept]

/-- The ends of a piece of code that runs off its end or returns. -/
def segPost (N R : Act → World → Prop) : Exit → Act → World → Prop
  | .normal, a, w => a.defers = [] ∧ N a w
  | .ret, a, w => a.defers = [] ∧ R a w
  | _, _, _ => False

section
variable {P : Program} {L : List FuncId} {fr fr' : Frame} {cs cs' : List Frame} {v v' : World} {X : Frame → List Frame → World → Prop}

/-- An ordinary frame. -/
structure Plain (P : Program) (b : Frame) : Prop where
  kind : b.kind = .normal
  fn : resOk P b.fn = true

/-- ████ A LONE WALK THROUGH A PIECE OF CODE HOLDS BESIDE LEAVERS. ████ -/
theorem gt_wp (hC : Closed P L) {b : Frame} (hb : Plain P b) {a : Act} (ha : a.defers = []) {x : Code} (hx : okCode P L x = true) {k : List Item} (N R : Act → World → Prop)
    (hN : ∀ a u u', Same u u' → N a u → N a u') (hR : ∀ a u u', Same u u' → R a u → R a u')
    (h : ∀ w, Same v w → x.wp P (segPost N R) a w)
    (gN : ∀ a' v', a'.defers = [] → N a' v' → GT P (b.at a' k) cs v' X)
    (gR : ∀ a' v' todo, a'.defers = [] → R a' v' → GT P { b.at a' todo with mode := .returning } cs v' X) : GT P (b.at a (.code x :: k)) cs v X := by
  intro gs w sl t hat
  have hv : NoPend v := hat.rel.nopend
  let Q : Frame → World → Prop := fun f u => (∃ a', f = b.at a' [] ∧ a'.defers = [] ∧ N a' u) ∨ (∃ a' todo, f = { b.at a' todo with mode := .returning } ∧ a'.defers = [] ∧ R a' u)
  have hQ : ∀ fr u u', NoPend u' → u'.heap = u.heap → u'.os = u.os → u'.output = u.output → Q fr u → Q fr u' := by
    rintro fr u u' - h1 h2 h3 (⟨a', e, d, n⟩ | ⟨a', todo, e, d, n⟩)
    · exact .inl ⟨a', e, d, hN _ _ _ ⟨h1, h2, h3⟩ n⟩
    · exact .inr ⟨a', todo, e, d, hR _ _ _ ⟨h1, h2, h3⟩ n⟩
  have hT : Term P true Q (b.at a [.code x]) [] (bare v) := by
    refine term_of_runs hC hQ ⟨⟨hb.kind, rfl, ha, by simpa [Frame.at, okItem] using hx, hb.fn⟩, .inl rfl, by simp, hv⟩ fun τ => ?_
    obtain ⟨e, a', w', hq, harr⟩ := h (on v τ) (same_on v τ) b (k0 true) [stop0]
    have e0 : exF (k0 true) (b.at a [.code x]) [] = b.at a (.code x :: k0 true) := rfl
    cases e with
    | normal =>
      obtain ⟨n, hn⟩ := harr
      refine ⟨n, b.at a' (k0 true), w', by rw [e0]; exact hn, .inl rfl, fun f hf => .inl ⟨a', ?_, hq.1, hq.2⟩⟩
      exact app_inj (hf.symm.trans (show b.at a' (k0 true) = app (b.at a' []) (k0 true) from rfl))
    | ret =>
      obtain ⟨todo, n, hn⟩ := harr
      refine ⟨n, { b.at a' todo with mode := .returning }, w', by rw [e0]; exact hn, .inr rfl, fun f hf => .inr ⟨a', f.todo, ?_, hq.1, hq.2⟩⟩
      obtain ⟨f1, f2, f3, f4, f5, f6, f7⟩ := f
      simp only [app, Frame.at, Frame.mk.injEq] at hf ⊢
      exact ⟨hf.1.symm, hf.2.1.symm, trivial, hf.2.2.2.1.symm, hf.2.2.2.2.1.symm, hf.2.2.2.2.2.1.symm, hf.2.2.2.2.2.2.symm⟩
    | exit _ => exact hq.elim
    | goto _ => exact hq.elim
    | panic _ => exact hq.elim
    | outgrown => exact hq.elim
  have hG := (gt_of_term hT k (by simp) cs).same (same_bare v).symm
  have hall : GT P (b.at a (.code x :: k)) cs v X := by
    refine GT.then hG ?_
    rintro fr' cs' v' ⟨rfl, f, rfl, ⟨a', rfl, d, n⟩ | ⟨a', todo, rfl, d, n⟩⟩
    · exact gN a' v' d n
    · exact gR a' v' (todo ++ k) d n
  exact hall gs w sl t hat

theorem gt_code {b : Frame} {a : Act} {k : List Item} {x y : Code} (g : GT P (b.at a (.code x :: .code y :: k)) cs v X) : GT P (b.at a (.code (.seq x y) :: k)) cs v X :=
  gt_silent (fun w => by simp [G, stepG, stepG.exec, Frame.at]) g
theorem gt_region {b : Frame} {a : Act} {k : List Item} {id : Nat} {ops : Array Oper} (g : GT P (b.at a (.inRegion ops (List.range ops.size) :: k)) cs v X) : GT P (b.at a (.code (.region id ops false) :: k)) cs v X :=
  gt_silent (fun w => by simp [G, stepG, stepG.exec, Frame.at]) g
theorem gt_region_end {b : Frame} {a : Act} {k : List Item} {ops : Array Oper} (g : GT P (b.at a k) cs v X) : GT P (b.at a (.inRegion ops [] :: k)) cs v X :=
  gt_silent (fun w => by simp [G, stepG, stepG.exec, Frame.at]) g
theorem gt_ret {b : Frame} {a : Act} {k : List Item} (g : GT P { b.at a (.code .ret :: k) with mode := .returning } cs v X) : GT P (b.at a (.code .ret :: k)) cs v X :=
  gt_silent (fun w => by simp [G, stepG, stepG.exec, Frame.at]) g
theorem gt_end {b : Frame} {a : Act} (g : GT P { b.at a [] with mode := .returning } cs v X) : GT P (b.at a []) cs v X :=
  gt_silent (fun w => by simp [G, stepG, stepG.exec, Frame.at]) g
theorem gt_region_draw {b : Frame} {a : Act} {k : List Item} {id : Nat} {ops : Array Oper} (g : ∀ t, GT P (b.at a (.inRegion ops (Region.schedule (P.follows .mixedOrders) ops t) :: k)) cs v X) : GT P (b.at a (.code (.region id ops true) :: k)) cs v X := by
  refine gt_step fun w r => ⟨_, cs, v, { w with drawn := w.drawn + 1 }, #[], ?_, .refl v, ⟨r.size, r.os, r.output, r.block, r.nopend⟩, by simp, g (w.tape w.drawn (.order b.fn id))⟩
  have hrun : (choose (.order b.fn id)).run P w = .ok (w.tape w.drawn (.order b.fn id)) { w with drawn := w.drawn + 1 } := by simp [choose, Sem.run, Question.forced, Question.cut]
  simp [G, stepG, stepG.exec, Frame.at, hrun]
/-- An operation that is not wanted. -/
theorem gt_skip {b : Frame} {a : Act} {k : List Item} {ops : Array Oper} {i : Nat} {rest : List Nat} {o : Oper} (ho : ops[i]? = some o) (hw : Region.wanted o (yielded ops a.tmps) = false)
    (g : GT P (b.at (a.put o.dst undef) (.inRegion ops rest :: k)) cs v X) : GT P (b.at a (.inRegion ops (i :: rest) :: k)) cs v X :=
  gt_silent (fun w => stepG_unwanted ho hw) g
/-- An operation that yields a value: reckoned in the shown world, whatever the tape. -/
theorem gt_op (hC : Closed P L) {b : Frame} (hb : b.kind = .normal) {a : Act} {k : List Item} {ops : Array Oper} {i : Nat} {rest : List Nat} {o : Oper} {z : Value} (ho : ops[i]? = some o) (hok : okOp P L o = true) (hw : Region.wanted o (yielded ops a.tmps) = true)
    (hrun : ∀ u, Same v u → ∃ u', (execOp a.eval o).run P u = .ok (.value z) u' ∧ Same v' u')
    (g : GT P (b.at (a.put o.dst z) (.inRegion ops rest :: k)) cs v' X) : GT P (b.at a (.inRegion ops (i :: rest) :: k)) cs v X := by
  refine gt_step fun w r => ?_
  let u : World := { v with tape := w.tape, drawn := w.drawn }
  have hu : Same v u := ⟨rfl, rfl, rfl⟩
  obtain ⟨u', e, hu'⟩ := hrun u hu
  have hS := Sims.execOp (P := P) (L := L) hC.body a.eval (fun _ => rfl) o hok
  obtain ⟨-, h1, h2, h3, h4⟩ := (hS u w (hu.rel r)).2 _ _ e
  obtain ⟨w', e1, e2, e3, e4, e5, -⟩ := h4 fun _ _ _ => rfl
  have hgh : ∀ b, Ghost u' b ↔ Ghost v' b := fun b => by unfold Ghost; rw [hu'.heap]
  refine ⟨_, cs, v', w', listed P b.fn a o w, stepG_value ho hw (by rw [hb]; simp) e1, ⟨by rw [← hu'.heap]; exact h3.size, fun b hlt => (hgh b).symm.trans (h3.ghost b hlt)⟩, hu'.symm.rel e2, fun ev he => ?_, g⟩
  have := e5 ev (mem_listed he)
  exact this.grow ⟨by rw [hu'.heap]; exact Nat.le_refl _, fun b _ => (hgh b).symm⟩
theorem gt_op0 (hC : Closed P L) {b : Frame} (hb : b.kind = .normal) {a : Act} {k : List Item} {ops : Array Oper} {i : Nat} {rest : List Nat} {o : Oper} (ho : ops[i]? = some o) (hok : okOp P L o = true) (hw : Region.wanted o (yielded ops a.tmps) = true)
    (hrun : ∀ u, Same v u → ∃ u', (execOp a.eval o).run P u = .ok .skip u' ∧ Same v' u')
    (g : GT P (b.at (a.put o.dst undef) (.inRegion ops rest :: k)) cs v' X) : GT P (b.at a (.inRegion ops (i :: rest) :: k)) cs v X := by
  refine gt_step fun w r => ?_
  let u : World := { v with tape := w.tape, drawn := w.drawn }
  have hu : Same v u := ⟨rfl, rfl, rfl⟩
  obtain ⟨u', e, hu'⟩ := hrun u hu
  have hS := Sims.execOp (P := P) (L := L) hC.body a.eval (fun _ => rfl) o hok
  obtain ⟨-, h1, h2, h3, h4⟩ := (hS u w (hu.rel r)).2 _ _ e
  obtain ⟨w', e1, e2, e3, e4, e5, -⟩ := h4 fun _ _ _ => rfl
  have hgh : ∀ b, Ghost u' b ↔ Ghost v' b := fun b => by unfold Ghost; rw [hu'.heap]
  refine ⟨_, cs, v', w', listed P b.fn a o w, stepG_none ho hw (by rw [hb]; simp) e1, ⟨by rw [← hu'.heap]; exact h3.size, fun b hlt => (hgh b).symm.trans (h3.ghost b hlt)⟩, hu'.symm.rel e2, fun ev he => ?_, g⟩
  have := e5 ev (mem_listed he)
  exact this.grow ⟨by rw [hu'.heap]; exact Nat.le_refl _, fun b _ => (hgh b).symm⟩
/-- A call of a function whose contract is known beside leavers. -/
theorem gt_call {b : Frame} (hb : b.kind = .normal) {a : Act} {k : List Item} {ops : Array Oper} {i : Nat} {rest : List Nat} {o : Oper} {f : FuncId} {args : Array Value} {R : Value → World → Prop} (ho : ops[i]? = some o) (hw : Region.wanted o (yielded ops a.tmps) = true)
    (hrun : ∀ u, (execOp a.eval o).run P u = .ok (.enter f args) u ∧ (execOp a.eval o).events P u #[] = #[])
    (h : CallsG P f args v R) (g : ∀ z v', R z v' → GT P (b.at (a.put o.dst z) (.inRegion ops rest :: k)) cs v' X) : GT P (b.at a (.inRegion ops (i :: rest) :: k)) cs v X := by
  refine gt_silent (fr' := Frame.enter P f args .normal) (cs' := b.at a (.inRegion ops (i :: rest) :: k) :: cs) (fun w => ?_) ?_
  · rw [stepG_enter ho hw (by rw [hb]; simp) (hrun w).1]
    unfold listed
    rw [(hrun w).2, seen_none]
  · refine GT.then (h _) ?_
    rintro fr' cs' v' ⟨rfl, z, hz, hR⟩
    have e : (b.at a (.inRegion ops (i :: rest) :: k)).finish z = b.at (a.put o.dst z) (.inRegion ops rest :: k) := by rw [Frame.finish_at, ho]; rfl
    exact gt_leave hz (by rw [e]; exact g z v' hR)
/-- From a function's body. -/
theorem callsG_of_gt {f : FuncId} {fn : Func} {c : Code} {args : Array Value} {R : Value → World → Prop} (hf : P.funcs[f]? = some fn) (hb : fn.body = some c)
    (h : ∀ cs, GT P ((base f).at { tmps := args ++ Array.replicate (fn.ntmps - args.size) undef, defers := [] } [.code c]) cs v fun fr' cs' v' => cs' = cs ∧ ∃ z, Leaves P fr' v' z ∧ R z v') : CallsG P f args v R := by
  intro cs
  rw [enter_at args hf hb]
  exact h cs
end
end Go.Proofs.Ytddnapbdhjifiaa.Rg
