/-
  Theory of walks beside goroutines that only leave (part 1).
-/
import Derived.Conc.Beside
set_option linter.unusedSimpArgs false
set_option linter.unusedVariables false
set_option linter.unusedSectionVars false
namespace Go.Proofs.Ytddnapbdhjifiaa.Rg
open Go.Conc

/-- A halt that ends a lone run, or unwinds it. -/
def fineHalt : Halt → Prop
  | .panic _ => True
  | .stuck _ => True
  | .unsupported (.initOrder _) => False
  | .unsupported _ => True
  | _ => False

/-- What stands hidden from the start: below 'base', as 'row' says. -/
class Kept where
  base : Nat
  row : Nat → Option Obj
variable [Kept]

/-- A block that the shown world hides. -/
def Ghost (v : World) (b : Nat) : Prop := ∃ s p, v.heap[b]? = some (.stringIter s p)
/-- What may be hidden. -/
def Hidable (w : World) (b : Nat) : Prop := (Kept.base ≤ b ∧ ∃ c t, w.heap[b]? = some (.cells c t (0, 0)) ∧ c.size ≠ 0) ∨ (w.heap[b]? = Kept.row b ∧ ∃ c t, w.heap[b]? = some (.pending c t))
/-- No block waits for its package's start. -/
def NoPend (v : World) : Prop := (∀ (b : Nat) c t, v.heap[b]? ≠ some (Obj.pending c t)) ∧ Kept.base ≤ v.heap.size

/-- The shown world v and the true world w. -/
structure Rel (v w : World) : Prop where
  size : w.heap.size = v.heap.size
  os : w.os = v.os
  output : w.output = v.output
  block : ∀ b, w.heap[b]? = v.heap[b]? ∨ (Ghost v b ∧ Hidable w b)
  nopend : NoPend v

structure Grow (v v' : World) : Prop where
  size : v.heap.size ≤ v'.heap.size
  ghost : ∀ b, b < v.heap.size → (Ghost v' b ↔ Ghost v b)

theorem Grow.refl (v : World) : Grow v v := ⟨Nat.le_refl _, fun _ _ => Iff.rfl⟩
theorem Grow.trans {u v w : World} (h : Grow u v) (h' : Grow v w) : Grow u w :=
  ⟨Nat.le_trans h.size h'.size, fun b hb => (h'.ghost b (Nat.lt_of_lt_of_le hb h.size)).trans (h.ghost b hb)⟩

def GoodEv (v : World) (e : Event) : Prop :=
  (∃ a wr sy, e = ⟨.cell a, wr, sy⟩ ∧ a.block < v.heap.size ∧ ¬ Ghost v a.block) ∨ (∃ r sy, e = ⟨.obj r, false, sy⟩ ∧ r < v.heap.size) ∨ e = ⟨.mark .noRoom, false, true⟩

theorem GoodEv.grow {v v' : World} {e : Event} (h : GoodEv v e) (g : Grow v v') : GoodEv v' e := by
  rcases h with ⟨a, wr, sy, rfl, h1, h2⟩ | ⟨r, sy, rfl, h1⟩ | rfl
  · exact .inl ⟨a, wr, sy, rfl, Nat.lt_of_lt_of_le h1 g.size, fun x => h2 ((g.ghost _ h1).1 x)⟩
  · exact .inr (.inl ⟨r, sy, rfl, Nat.lt_of_lt_of_le h1 g.size⟩)
  · exact .inr (.inr rfl)

/-- The tapes answer alike for the next n questions. -/
def Alike (v w : World) (n : Nat) : Prop := ∀ i q, i < n → w.tape (w.drawn + i) q = v.tape (v.drawn + i) q

/-- What a run in the true world does when the shown one comes to v'. -/
def Follows (P : Program) {α : Type} (s : Sem α) (v w : World) (a : α) (v' : World) : Prop :=
  v.drawn ≤ v'.drawn ∧ v'.tape = v.tape ∧ Grow v v' ∧
    (Alike v w (v'.drawn - v.drawn) → ∃ w', s.run P w = .ok a w' ∧ Rel v' w' ∧ w'.tape = w.tape ∧ w'.drawn = w.drawn + (v'.drawn - v.drawn) ∧ (∀ e ∈ s.events P w #[], GoodEv v' e) ∧ (w.heap = v.heap → w'.heap = v'.heap))

def Sims (P : Program) {α : Type} (ok : α → Prop) (s : Sem α) : Prop :=
  ∀ v w, Rel v w → (∀ h v', s.run P v = .halt h v' → fineHalt h) ∧ ∀ a v', s.run P v = .ok a v' → ok a ∧ Follows P s v w a v'

section
variable {P : Program} {α β : Type} {ok : α → Prop} {ok' : β → Prop}

theorem Sims.mono {ok₂ : α → Prop} {s : Sem α} (h : Sims P ok s) (hi : ∀ a, ok a → ok₂ a) : Sims P ok₂ s :=
  fun v w r => ⟨(h v w r).1, fun a v' e => let ⟨x, y⟩ := (h v w r).2 a v' e; ⟨hi a x, y⟩⟩

theorem Sims.pure {a : α} (h : ok a) : Sims P ok (Pure.pure a : Sem α) := by
  intro v w r
  refine ⟨fun h v' e => (by cases e), fun b v' e => ?_⟩
  cases e
  exact ⟨h, Nat.le_refl _, rfl, .refl _, fun _ => ⟨w, rfl, r, rfl, by simp, by simp, id⟩⟩

theorem Sims.pure' {a : α} (h : ok a) : Sims P ok (Sem.pure a) := Sims.pure h

theorem Sims.bind' {s : Sem α} {f : α → Sem β} (h : Sims P ok s) (hf : ∀ a, ok a → Sims P ok' (f a)) : Sims P ok' (s.bind f) := by
  intro v w r
  have hs := h v w r
  have erun : ∀ u, (s.bind f).run P u = match s.run P u with | .ok a u' => (f a).run P u' | .halt h u' => .halt h u' := fun u => Sem.run_bind' P s f u
  refine ⟨fun hh v' e => ?_, fun b v' e => ?_⟩
  · rw [erun] at e
    cases hr : s.run P v with
    | halt h' v₁ => rw [hr] at e; cases e; exact hs.1 _ _ hr
    | ok a v₁ =>
      rw [hr] at e
      obtain ⟨ha, hle, htp, hg, hrun⟩ := hs.2 a v₁ hr
      -- a world that answers as v does
      obtain ⟨w₁, _, r₁, _⟩ := (h v v ⟨rfl, rfl, rfl, fun _ => .inl rfl, r.nopend⟩).2 a v₁ hr |>.2.2.2.2 (fun _ _ _ => rfl)
      exact (hf a ha v₁ w₁ r₁).1 _ _ e
  · rw [erun] at e
    cases hr : s.run P v with
    | halt h' v₁ => rw [hr] at e; cases e
    | ok a v₁ =>
      rw [hr] at e
      obtain ⟨ha, hle, htp, hg, hrun⟩ := hs.2 a v₁ hr
      obtain ⟨w₀, _, r₀, _⟩ := (h v v ⟨rfl, rfl, rfl, fun _ => .inl rfl, r.nopend⟩).2 a v₁ hr |>.2.2.2.2 (fun _ _ _ => rfl)
      obtain ⟨hb, hle', htp', hg', _⟩ := (hf a ha v₁ w₀ r₀).2 b v' e
      refine ⟨hb, Nat.le_trans hle hle', htp'.trans htp, hg.trans hg', fun hal => ?_⟩
      obtain ⟨w₁, e₁, r₁, t₁, d₁, ev₁, q₁⟩ := hrun fun i q hi => hal i q (by omega)
      obtain ⟨_, _, _, _, hrun'⟩ := (hf a ha v₁ w₁ r₁).2 b v' e
      obtain ⟨w₂, e₂, r₂, t₂, d₂, ev₂, q₂⟩ := hrun' fun i q hi => by
        rw [t₁, d₁, htp, Nat.add_assoc, hal _ _ (by omega)]
        congr 1
        omega
      refine ⟨w₂, by rw [erun, e₁]; exact e₂, r₂, t₂.trans t₁, by omega, fun x hx => ?_, fun e => q₂ (q₁ e)⟩
      rw [Sem.events_bind', e₁, Result.evThen_ok, Sem.events_acc] at hx
      rcases Array.mem_append.1 hx with hx | hx
      · exact (ev₁ x hx).grow hg'
      · exact ev₂ x hx

theorem Sims.bind {s : Sem α} {f : α → Sem β} (h : Sims P ok s) (hf : ∀ a, ok a → Sims P ok' (f a)) : Sims P ok' (s >>= f) := h.bind' hf
theorem Sims.then {s : Sem α} {f : α → Sem β} (h : Sims P ok s) (hf : ∀ a, Sims P ok' (f a)) : Sims P ok' (s >>= f) := h.bind fun a _ => hf a
theorem Sims.map {s : Sem α} {f : α → β} (h : Sims P ok s) (hf : ∀ a, ok a → ok' (f a)) : Sims P ok' (Functor.map f s) := h.bind' fun a ha => Sims.pure (hf a ha)

theorem Sims.halt {h : Halt} (hh : fineHalt h) : Sims P ok (Sem.halt h : Sem α) := by
  intro v w r
  exact ⟨fun h' v' e => (by cases e; exact hh), fun a v' e => (by cases e)⟩
theorem Sims.stuck (why : String) : Sims P ok (stuck why : Sem α) := Sims.halt trivial
theorem Sims.goPanic (x : Value) : Sims P ok (goPanic x : Sem α) := Sims.halt trivial
theorem Sims.unsupported (u : Unsupported) (hu : ∀ g, u ≠ .initOrder g) : Sims P ok (unsupported u : Sem α) := Sims.halt (by cases u <;> first | trivial | exact absurd rfl (hu _))
theorem Sims.program : Sims P (fun p => p = P) Go.program := by
  intro v w r
  refine ⟨fun h v' e => (by cases e), fun b v' e => ?_⟩
  cases e
  exact ⟨rfl, Nat.le_refl _, rfl, .refl _, fun _ => ⟨w, rfl, r, rfl, by simp, by simp, id⟩⟩

/-! ### the primitives -/
theorem Rel.same {v w : World} (r : Rel v w) {b : Nat} (h : ¬ Ghost v b) : w.heap[b]? = v.heap[b]? := (r.block b).resolve_right fun x => h x.1
theorem Ghost.not_cells {v : World} {b : Nat} {c : Array Value} {t : TypeId} {fr : Nat × Nat} (h : v.heap[b]? = some (.cells c t fr)) : ¬ Ghost v b := by
  rintro ⟨s, p, e⟩; rw [h] at e; cases e
theorem Rel.cell {v w : World} (r : Rel v w) {a : Addr} {x : Value} (h : v.cell? a = some x) : w.cell? a = some x ∧ ¬ Ghost v a.block ∧ a.block < v.heap.size := by
  unfold World.cell? at h ⊢
  cases hb : v.heap[a.block]? with
  | none => rw [hb] at h; cases h
  | some o =>
    rw [hb] at h
    cases o <;> first | (cases h; done) | skip
    have ng := Ghost.not_cells hb
    rw [r.same ng, hb]
    exact ⟨h, ng, (Array.getElem?_eq_some_iff.1 hb).1⟩
theorem seen_ok {v : World} {P : Program} {at_ : Addr} {u : TypeId} {k : Addr} {m : Bool} {x : Array Value × TypeId × (Nat × Nat) × Nat × Value × List (Nat × Nat × List UInt8)}
    (h : v.seen P at_ u k m = .ok x) : ∃ c t fr, v.heap[at_.block]? = some (Obj.cells c t fr) ∧ x.1 = c ∧ x.2.1 = t ∧ x.2.2.1 = fr := by
  cases hb : v.heap[at_.block]? with
  | none =>
    simp only [World.seen, hb, bind, Except.bind, throw, throwThe, MonadExceptOf.throw, pure, Except.pure] at h
    (repeat' split at h) <;> first | (cases h; done) | simp_all
  | some o =>
    cases o with
    | cells c t fr =>
      simp only [World.seen, hb, bind, Except.bind, throw, throwThe, MonadExceptOf.throw, pure, Except.pure] at h
      (repeat' split at h) <;> first | (cases h; done) | (cases h; exact ⟨c, t, fr, rfl, rfl, rfl, rfl⟩) | skip
    | _ =>
      simp only [World.seen, hb, bind, Except.bind, throw, throwThe, MonadExceptOf.throw, pure, Except.pure] at h
      (repeat' split at h) <;> first | (cases h; done) | simp_all
theorem seen_congr {v w : World} {P : Program} {at_ : Addr} {u : TypeId} {k : Addr} {m : Bool} (h : w.heap[at_.block]? = v.heap[at_.block]?) : w.seen P at_ u k m = v.seen P at_ u k m := by
  simp only [World.seen, h]
theorem viewLoad_ok {v w : World} (r : Rel v w) {at_ : Addr} {u : TypeId} {k : Addr} {m : Bool} {x : Value × List Addr} (h : v.viewLoad P at_ u k m = .ok x) :
    w.viewLoad P at_ u k m = .ok x ∧ ¬ Ghost v at_.block ∧ at_.block < v.heap.size ∧ ∀ a ∈ x.2, a.block = at_.block := by
  unfold World.viewLoad at h ⊢
  cases hs : v.seen P at_ u k m with
  | error e => rw [hs] at h; cases h
  | ok y =>
    obtain ⟨c, t, fr, hb, -, -, -⟩ := seen_ok hs
    have ng := Ghost.not_cells hb
    rw [seen_congr (r.same ng)]
    refine ⟨h, ng, (Array.getElem?_eq_some_iff.1 hb).1, ?_⟩
    rw [hs] at h
    obtain ⟨y1, y2, y3, y4, y5, y6⟩ := y
    simp only [bind, Except.bind, pure, Except.pure] at h
    split at h
    · cases h
      intro a ha
      obtain ⟨z, -, rfl⟩ := List.mem_map.1 ha
      rfl
    · cases h
theorem viewStore_ok {v w : World} (r : Rel v w) {at_ : Addr} {u : TypeId} {k : Addr} {z : Value} {m : Bool} {v' : World} {tl : List Addr} (h : v.viewStore P at_ u k z m = .ok (v', tl)) :
    ∃ (c c' : Array Value) (t : TypeId) (fr : Nat × Nat), v.heap[at_.block]? = some (Obj.cells c t fr) ∧ v' = { v with heap := v.heap.setIfInBounds at_.block (.cells c' t fr) } ∧
      w.viewStore P at_ u k z m = .ok ({ w with heap := w.heap.setIfInBounds at_.block (.cells c' t fr) }, tl) ∧ ∀ a ∈ tl, a.block = at_.block := by
  unfold World.viewStore at h ⊢
  simp only [bind, Except.bind, pure, Except.pure, throw, throwThe, MonadExceptOf.throw] at h ⊢
  split at h
  · cases h
  · rename_i ht
    rw [if_neg ht]
    cases hs : v.seen P at_ u k m with
    | error e => rw [hs] at h; cases h
    | ok y =>
      obtain ⟨c, t, fr, hb, e1, e2, e3⟩ := seen_ok hs
      have ng := Ghost.not_cells hb
      rw [seen_congr (r.same ng), hs]
      rw [hs] at h
      obtain ⟨y1, y2, y3, y4, y5, y6⟩ := y
      simp only at h e1 e2 e3 ⊢
      subst e1 e2 e3
      cases hz : z.bytes? with
      | none => rw [hz] at h; cases h
      | some bs =>
        rw [hz] at h
        simp only at h ⊢
        split at h
        · cases h
        · rename_i hn
          rw [if_neg hn]
          split at h
          · cases h
          · rename_i c' hc
            cases h
            refine ⟨y1, c', y2, y3, hb, rfl, rfl, ?_⟩
            intro a ha
            obtain ⟨q, -, rfl⟩ := List.mem_map.1 ha
            rfl
theorem noCell_fine {v w : World} (r : Rel v w) (a : Addr) (what : String) : fineHalt (v.noCell a what) := by
  unfold World.noCell
  split
  · rename_i h; exact absurd h (r.nopend.1 _ _ _)
  · trivial
  · trivial
theorem farLoad_fine {v w : World} (r : Rel v w) {a : Addr} {m : Bool} {h : Halt} (e : v.farLoad P a m = .error h) : fineHalt h := by
  unfold World.farLoad at e
  split at e
  · split at e
    · cases e
    · cases e; trivial
  · cases e; exact noCell_fine r _ _
theorem farStore_fine {v w : World} (r : Rel v w) {a : Addr} {x : Value} {m : Bool} {h : Halt} (e : v.farStore P a x m = .error h) : fineHalt h := by
  unfold World.farStore at e
  split at e
  · split at e
    · cases e
    · cases e; trivial
  · cases e; exact noCell_fine r _ _

theorem Sims.load (a : Addr) (m : Mode) : Sims P (fun _ => True) (Go.load a m) := by
  intro v w r
  refine ⟨fun h v' e => ?_, fun x v' e => ⟨trivial, ?_⟩⟩
  · simp only [Go.load, Sem.run] at e
    split at e
    · cases e
    · split at e
      · cases e
      · cases e; rename_i h₁; exact farLoad_fine r h₁
  · simp only [Go.load, Sem.run] at e
    split at e
    · rename_i y hy
      cases e
      obtain ⟨h1, h2, h3⟩ := r.cell hy
      refine ⟨Nat.le_refl _, rfl, .refl _, fun _ => ⟨w, by simp only [Go.load, Sem.run, h1], r, rfl, by simp, fun ev hev => ?_, id⟩⟩
      rw [events_load] at hev
      simp only [h1] at hev
      simp at hev
      subst hev
      exact .inl ⟨_, _, _, rfl, h3, h2⟩
    · rename_i hno
      split at e
      · rename_i y tl hfar
        cases e
        unfold World.farLoad at hfar
        split at hfar
        · rename_i at_ u hv
          split at hfar
          · rename_i z hz
            cases hfar
            have ng : ¬ Ghost v a.block := by rintro ⟨s, p, e⟩; rw [hv] at e; cases e
            obtain ⟨h1, h2, h3, h4⟩ := viewLoad_ok r hz
            have hwv : w.heap[a.block]? = some (.view at_ u) := (r.same ng).trans hv
            have hno' : w.cell? a = none := by unfold World.cell?; rw [hwv]
            have hf : w.farLoad P a (m == .atomic) = .ok (x, tl) := by unfold World.farLoad; rw [hwv]; simp only [h1]
            refine ⟨Nat.le_refl _, rfl, .refl _, fun _ => ⟨w, by simp only [Go.load, Sem.run, hno', hf], r, rfl, by simp, fun ev hev => ?_, id⟩⟩
            rw [events_load] at hev
            simp only [hno', hf] at hev
            simp only [Array.mem_append, Array.mem_map, List.mem_toArray] at hev
            rcases hev with hev | ⟨b, hb, rfl⟩
            · simp at hev
            · exact .inl ⟨_, _, _, rfl, by rw [h4 b hb]; exact h3, by rw [h4 b hb]; exact h2⟩
          · cases hfar
        · cases hfar
      · cases e

theorem Rel.update {v w : World} (r : Rel v w) {b : Nat} {c c' : Array Value} {t t' : TypeId} {fr fr' : Nat × Nat} (hb : v.heap[b]? = some (.cells c t fr)) :
    Rel { v with heap := v.heap.setIfInBounds b (.cells c' t' fr') } { w with heap := w.heap.setIfInBounds b (.cells c' t' fr') } ∧ Grow v { v with heap := v.heap.setIfInBounds b (.cells c' t' fr') } := by
  have hlt : b < v.heap.size := (Array.getElem?_eq_some_iff.1 hb).1
  have hg : ∀ k, Ghost { v with heap := v.heap.setIfInBounds b (.cells c' t' fr') } k ↔ Ghost v k := by
    intro k
    unfold Ghost
    by_cases hk : b = k
    · subst hk
      simp only [Array.getElem?_setIfInBounds_self_of_lt hlt, hb]
      constructor <;> (rintro ⟨s, p, e⟩; cases e)
    · simp only [Array.getElem?_setIfInBounds_ne hk]
  refine ⟨⟨by simpa using r.size, r.os, r.output, fun k => ?_, fun k c t e => ?_, by simpa using r.nopend.2⟩, by simp, fun k _ => hg k⟩
  · by_cases hk : b = k
    · subst hk
      left
      have hlt' : b < w.heap.size := by rw [r.size]; exact hlt
      simp only [Array.getElem?_setIfInBounds_self_of_lt hlt, Array.getElem?_setIfInBounds_self_of_lt hlt']
    · rw [hg]
      unfold Hidable
      simp only [Array.getElem?_setIfInBounds_ne hk]
      exact r.block k
  · by_cases hk : b = k
    · subst hk
      simp only [Array.getElem?_setIfInBounds_self_of_lt hlt] at e
      cases e
    · simp only [Array.getElem?_setIfInBounds_ne hk] at e
      exact r.nopend.1 _ _ _ e
theorem setCell_eq' {v : World} {a : Addr} {x : Value} {c : Array Value} {t : TypeId} {fr : Nat × Nat} (hb : v.heap[a.block]? = some (.cells c t fr)) :
    v.setCell a x = { v with heap := v.heap.setIfInBounds a.block (.cells (if a.spot.isSome then c else c.setIfInBounds a.off x) t fr) } := by
  unfold World.setCell
  congr 1
  apply Array.ext_getElem?
  intro k
  rw [Array.getElem?_modify]
  by_cases hk : a.block = k
  · subst hk
    rw [if_pos rfl, Array.getElem?_setIfInBounds_self_of_lt (Array.getElem?_eq_some_iff.1 hb).1, hb]
    rfl
  · rw [if_neg hk, Array.getElem?_setIfInBounds_ne hk]
theorem cell_block {v : World} {a : Addr} {x : Value} (h : v.cell? a = some x) : ∃ c t fr, v.heap[a.block]? = some (.cells c t fr) := by
  unfold World.cell? at h
  split at h
  · exact ⟨_, _, _, by assumption⟩
  · cases h
theorem frozen_congr {v w : World} {a : Addr} (h : w.heap[a.block]? = v.heap[a.block]?) : w.frozen? a = v.frozen? a := by simp only [World.frozen?, h]

theorem Sims.store (a : Addr) (x : Value) (m : Mode) : Sims P (fun _ => True) (Go.store a x m) := by
  intro v w r
  by_cases hx : x.oneCell' = true
  case neg =>
    obtain ⟨hh, this⟩ : ∃ hh : String, ∀ u, (Go.store a x m).run P u = .halt (.stuck hh) u := by
      cases x <;> first | exact ⟨_, fun u => rfl⟩ | (simp [Value.oneCell'] at hx)
    exact ⟨fun h v' e => by rw [this] at e; cases e; trivial, fun _ v' e => by rw [this] at e; cases e⟩
  have hrun : ∀ u : World, (Go.store a x m).run P u = match u.cell? a with
    | some _ => if u.frozen? a then .halt (.unsupported (.unsafePointer "a write to bytes that a string shares")) u else .ok () (u.setCell a x)
    | none => match u.farStore P a x (m == .atomic) with
      | .ok (u, _) => .ok () u
      | .error h => .halt h u := by
    intro u
    cases x <;> first | rfl | (simp [Value.oneCell'] at hx)
  refine ⟨fun h v' e => ?_, fun y v' e => ⟨trivial, ?_⟩⟩
  · rw [hrun] at e
    split at e
    · split at e
      · cases e; trivial
      · cases e
    · split at e
      · cases e
      · cases e; rename_i h₁; exact farStore_fine r h₁
  · rw [hrun] at e
    split at e
    · rename_i z hz
      split at e
      · cases e
      · rename_i hfr
        cases e
        obtain ⟨h1, h2, h3⟩ := r.cell hz
        obtain ⟨c, t, fr, hb⟩ := cell_block hz
        have hbw : w.heap[a.block]? = some (.cells c t fr) := (r.same h2).trans hb
        rw [setCell_eq' hb]
        obtain ⟨r', g'⟩ := r.update (c' := if a.spot.isSome then c else c.setIfInBounds a.off x) (t' := t) (fr' := fr) hb
        have hfr' : w.frozen? a = v.frozen? a := frozen_congr (r.same h2)
        refine ⟨Nat.le_refl _, rfl, g', fun _ => ⟨_, ?_, r', rfl, by simp, fun ev hev => ?_, fun e => by simp only [e]⟩⟩
        · rw [hrun, h1]; simp only [hfr', hfr, if_false, Bool.false_eq_true]; rw [setCell_eq' hbw]
        · rw [events_store P w _ a x m hx] at hev
          simp only [h1, hfr', hfr, if_false, Bool.false_eq_true] at hev
          simp at hev
          subst hev
          exact .inl ⟨_, _, _, rfl, by simpa using h3, fun g => h2 ((g'.ghost _ h3).1 g)⟩
    · rename_i hno
      split at e
      · rename_i u tl hfar
        cases e
        unfold World.farStore at hfar
        split at hfar
        · rename_i at_ ty hv
          split at hfar
          · rename_i z hz
            cases hfar
            have ng : ¬ Ghost v a.block := by rintro ⟨s, p, e⟩; rw [hv] at e; cases e
            obtain ⟨c, c', t, fr, hb, rfl, hws, htl⟩ := viewStore_ok r hz
            have hwv : w.heap[a.block]? = some (.view at_ ty) := (r.same ng).trans hv
            have hno' : w.cell? a = none := by unfold World.cell?; rw [hwv]
            have hf : w.farStore P a x (m == .atomic) = .ok ({ w with heap := w.heap.setIfInBounds at_.block (.cells c' t fr) }, tl) := by unfold World.farStore; rw [hwv]; simp only [hws]
            obtain ⟨r', g'⟩ := r.update (c' := c') (t' := t) (fr' := fr) hb
            have h3 := (Array.getElem?_eq_some_iff.1 hb).1
            refine ⟨Nat.le_refl _, rfl, g', fun _ => ⟨_, by rw [hrun, hno']; simp only [hf], r', rfl, by simp, fun ev hev => ?_, fun e => by simp only [e]⟩⟩
            rw [events_store P w _ a x m hx] at hev
            simp only [hno', hf] at hev
            simp only [Array.mem_append, Array.mem_map, List.mem_toArray] at hev
            rcases hev with hev | ⟨b, hb', rfl⟩
            · simp at hev
            · exact .inl ⟨_, _, _, rfl, by rw [htl b hb']; simpa using h3, by rw [htl b hb']; exact fun g => Ghost.not_cells hb ((g'.ghost _ h3).1 g)⟩
          · cases hfar
        · cases hfar
      · cases e

theorem Sims.newObj (o : Obj) (ho : ∀ c t, o ≠ .pending c t) (ho' : ∀ s p, o ≠ .stringIter s p) : Sims P (fun _ => True) (Go.newObj o) := by
  intro v w r
  refine ⟨fun h v' e => (by cases e), fun x v' e => ?_⟩
  simp only [Go.newObj, Sem.run] at e
  cases e
  have hg : ∀ k, k < v.heap.size → (Ghost { v with heap := v.heap.push o } k ↔ Ghost v k) := by
    intro k hk
    unfold Ghost
    simp only [Array.getElem?_push, Nat.ne_of_lt hk, if_false]
  refine ⟨trivial, Nat.le_refl _, rfl, ⟨by simp, hg⟩, fun _ => ⟨{ w with heap := w.heap.push o }, by simp only [Go.newObj, Sem.run, r.size], ⟨by simp [r.size], r.os, r.output, fun k => ?_, fun k c t e => ?_, by have := r.nopend.2; simp; omega⟩, rfl, by simp, by simp, fun e => by simp only [e]⟩⟩
  · simp only [Array.getElem?_push, r.size]
    by_cases hk : k = v.heap.size
    · simp [hk]
    · simp only [hk, if_false]
      rcases r.block k with h | ⟨h1, h2⟩
      · exact .inl h
      · have hlt : k < v.heap.size := by obtain ⟨s, p, e⟩ := h1; exact (Array.getElem?_eq_some_iff.1 e).1
        refine .inr ⟨(hg k hlt).2 h1, ?_⟩
        unfold Hidable at h2 ⊢
        simpa only [Array.getElem?_push, r.size, hk, if_false] using h2
  · simp only [Array.getElem?_push] at e
    split at e
    · cases e; exact ho _ _ rfl
    · exact r.nopend.1 _ _ _ e

theorem Sims.choose (q : Question) : Sims P (fun _ => True) (Go.choose q) := by
  intro v w r
  refine ⟨fun h v' e => ?_, fun x v' e => ⟨trivial, ?_⟩⟩
  · simp only [Go.choose, Sem.run] at e; split at e <;> cases e
  · simp only [Go.choose, Sem.run] at e
    split at e
    · rename_i hf
      cases e
      exact ⟨Nat.le_refl _, rfl, .refl _, fun _ => ⟨w, by simp only [Go.choose, Sem.run, hf, if_true], r, rfl, by simp, by simp, id⟩⟩
    · rename_i hf
      cases e
      refine ⟨by simp, rfl, ⟨Nat.le_refl _, fun _ _ => Iff.rfl⟩, fun hal => ⟨{ w with drawn := w.drawn + 1 }, ?_, ⟨r.size, r.os, r.output, r.block, r.nopend⟩, rfl, by simp, by simp, id⟩⟩
      simp only [Go.choose, Sem.run, hf, if_false, Bool.false_eq_true]
      have := hal 0 q (by simp)
      simp only [Nat.add_zero] at this
      rw [this]
theorem Sims.noRoom : Sims P (fun _ => True) (mark .noRoom) := by
  intro v w r
  refine ⟨fun h v' e => (by cases e), fun x v' e => ?_⟩
  cases e
  exact ⟨trivial, Nat.le_refl _, rfl, .refl _, fun _ => ⟨w, rfl, r, rfl, by simp, (fun e he => by simp at he; subst he; exact .inr (.inr rfl)), id⟩⟩
/-- A look at a block's shape behind which nothing comes of it where there is none. -/
theorem Sims.shape {f : Option (TypeId × Nat) → Sem β} (b : Nat) (hn : ∀ u x u', (f none).run P u ≠ .ok x u') (hf : ∀ u h u', (f none).run P u = .halt h u' → fineHalt h) (hs : ∀ x, Sims P ok' (f (some x))) :
    Sims P ok' (Go.shape b >>= f) := by
  intro v w r
  have e1 : ∀ u, (Go.shape b >>= f).run P u = (f (u.shape? b)).run P u := fun u => rfl
  have e2 : ∀ u es, (Go.shape b >>= f).events P u es = (f (u.shape? b)).events P u es := fun u es => by rw [Sem.events_bind]; rfl
  cases hv : v.shape? b with
  | none => exact ⟨fun h v' e => by rw [e1, hv] at e; exact hf _ _ _ e, fun x v' e => by rw [e1, hv] at e; exact absurd e (hn _ _ _)⟩
  | some x =>
    have hw : w.shape? b = some x := by
      unfold World.shape? at hv ⊢
      split at hv
      · rename_i c t fr hb
        rw [(r.same (Ghost.not_cells hb)).trans hb]
        exact hv
      · cases hv
    have := hs x v w r
    refine ⟨fun h v' e => this.1 h v' (by rw [e1, hv] at e; exact e), fun y v' e => ?_⟩
    obtain ⟨ha, h1, h2, h3, h4⟩ := this.2 y v' (by rw [e1, hv] at e; exact e)
    refine ⟨ha, h1, h2, h3, fun hal => ?_⟩
    obtain ⟨w', g1, g2, g3, g4, g5, g6⟩ := h4 hal
    exact ⟨w', by rw [e1, hw]; exact g1, g2, g3, g4, by rw [e2, hw]; exact g5, g6⟩

theorem sem_pure {α : Type} (x : α) : (Pure.pure x : Sem α) = Sem.pure x := rfl

/-- What a block is that is no row of cells: asked the same of both worlds. -/
theorem Sims.asked {α : Type} (b : Nat) (pick : Obj → Option α) (hp : ∀ c t, pick (.pending c t) = none) (hi : ∀ s p, pick (.stringIter s p) = none) :
    Sims P (fun _ => True) (do if (← Go.shape b).isSome then return none else return pick (← getObj b)) := by
  obtain ⟨hh, hrun⟩ : ∃ hh : String, ∀ u : World, (do if (← Go.shape b).isSome then return none else return pick (← getObj b) : Sem (Option α)).run P u = match u.heap[b]? with
      | some (.cells ..) => .ok none u
      | some o => .ok (pick o) u
      | none => .halt (.stuck hh) u := by
    refine ⟨?s, fun u => ?_⟩
    rotate_left
    show (if (u.shape? b).isSome then (Pure.pure none : Sem (Option α)) else (getObj b).bind fun o => Pure.pure (pick o)).run P u = _
    unfold World.shape?
    cases hb : u.heap[b]? with
    | none => (simp [getObj, Sem.bind, Sem.run, hb]) <;> exact rfl
    | some o => cases o <;> simp [getObj, Sem.bind, Sem.run, hb] <;> rfl
  have hev : ∀ u : World, ∀ e ∈ (do if (← Go.shape b).isSome then return none else return pick (← getObj b) : Sem (Option α)).events P u #[], ∃ sy, e = ⟨.obj b, false, sy⟩ ∧ b < u.heap.size := by
    intro u e he
    rw [Sem.events_bind] at he
    simp only [run_shape, Result.evThen_ok, events_shape] at he
    split at he
    · simp at he
    · rw [Sem.events_bind] at he
      cases hb : u.heap[b]? with
      | none => simp [getObj, Sem.events, Sem.run, Sem.runT, hb, -Sem.runT_eq] at he
      | some o =>
        have hlt := (Array.getElem?_eq_some_iff.1 hb).1
        cases o <;> simp [getObj, Sem.events, Sem.run, Sem.runT, hb, sem_pure, -Sem.runT_eq] at he <;> (subst he; exact ⟨_, rfl, hlt⟩)
  intro v w r
  have hsame : ∀ x v', (match v.heap[b]? with
      | some (.cells ..) => (.ok none v : Result (Option α))
      | some o => .ok (pick o) v
      | none => .halt (.stuck hh) v) = .ok x v' → v' = v ∧ (match w.heap[b]? with
      | some (.cells ..) => (.ok none w : Result (Option α))
      | some o => .ok (pick o) w
      | none => .halt (.stuck hh) w) = .ok x w := by
    intro x v' e
    rcases r.block b with h | ⟨⟨s, p, h1⟩, h2⟩
    · rw [h]
      cases hb : v.heap[b]? with
      | none => rw [hb] at e; cases e
      | some o => rw [hb] at e; cases o <;> (cases e; exact ⟨rfl, rfl⟩)
    · rw [h1] at e
      simp only [hi] at e
      cases e
      rcases h2 with ⟨_, c, t, h2, _⟩ | ⟨_, c, t, h2⟩
      · simp [h2]
      · simp [h2, hp]
  refine ⟨fun h v' e => ?_, fun x v' e => ⟨trivial, ?_⟩⟩
  · rw [hrun] at e
    split at e
    · cases e
    · cases e
    · cases e; trivial
  · rw [hrun] at e
    obtain ⟨rfl, ew⟩ := hsame x v' e
    refine ⟨Nat.le_refl _, rfl, .refl _, fun _ => ⟨w, by rw [hrun]; exact ew, r, rfl, by simp, fun ev he => ?_, id⟩⟩
    obtain ⟨sy, rfl, hlt⟩ := hev w ev he
    exact .inr (.inl ⟨_, _, rfl, by rw [← r.size]; exact hlt⟩)

/-! ### the words of the instructions -/
theorem Sims.numberAt (b : Nat) : Sims P (fun _ => True) (Go.numberAt b) := by
  have h := Sims.asked (P := P) b (fun | .number a lost => some (a, lost) | _ => none) (fun _ _ => rfl) (fun _ _ => rfl)
  have e : Go.numberAt b = (do if (← Go.shape b).isSome then return none else return (fun | Obj.number a lost => some (a, lost) | _ => none) (← getObj b)) := by
    unfold Go.numberAt
    congr 1
    funext x
    split
    · rfl
    · congr 1
      funext o
      cases o <;> rfl
  rw [e]; exact h
theorem Sims.viewAt (b : Nat) : Sims P (fun _ => True) (Go.viewAt b) := by
  have h := Sims.asked (P := P) b (fun | .view a lost => some (a, lost) | _ => none) (fun _ _ => rfl) (fun _ _ => rfl)
  have e : Go.viewAt b = (do if (← Go.shape b).isSome then return none else return (fun | Obj.view a lost => some (a, lost) | _ => none) (← getObj b)) := by
    unfold Go.viewAt
    congr 1
    funext x
    split
    · rfl
    · congr 1
      funext o
      cases o <;> rfl
  rw [e]; exact h
theorem Sims.ite {c : Prop} [Decidable c] {s t : Sem α} (hs : c → Sims P ok s) (ht : ¬ c → Sims P ok t) : Sims P ok (if c then s else t) := by
  split
  · exact hs ‹_›
  · exact ht ‹_›
theorem Sims.typeInfo (t : TypeId) : Sims P (fun i => P.info? t = some i) (Go.typeInfo t) := by
  unfold Go.typeInfo
  refine Sims.program.bind fun p hp => ?_
  subst hp
  split
  · exact Sims.pure (by assumption)
  · exact Sims.stuck _
theorem Sims.underlying (t : TypeId) : Sims P (fun d => P.underlying t = some d) (Go.underlying t) := by
  unfold Go.underlying
  refine Sims.program.bind fun p hp => ?_
  subst hp
  split
  · exact Sims.pure (by assumption)
  · exact Sims.stuck _
theorem Sims.zeroValue (t : TypeId) : Sims P (fun _ => True) (Go.zeroValue t) := by
  unfold Go.zeroValue
  refine (Sims.typeInfo t).bind fun i _ => ?_
  split
  · exact Sims.pure trivial
  · exact Sims.unsupported _ (by simp)
theorem Sims.sizeOf (t : TypeId) : Sims P (fun n => ∃ i, P.info? t = some i ∧ n = i.size) (Go.sizeOf t) := by
  unfold Go.sizeOf
  exact (Sims.typeInfo t).bind fun i hi => Sims.pure ⟨i, hi, rfl⟩
theorem Sims.isAgg (t : TypeId) : Sims P (fun _ => True) (Go.isAgg t) := by
  unfold Go.isAgg
  refine (Sims.underlying t).bind fun d _ => ?_
  split <;> exact Sims.pure trivial
theorem Sims.loadCellsFrom (a : Addr) : ∀ (n i : Nat) (acc : Array Value), Sims P (fun _ => True) (Go.loadCellsFrom a i n acc)
  | 0, _, _ => Sims.pure trivial
  | n + 1, i, acc => (Sims.load _ _).then fun v => Sims.loadCellsFrom a n (i + 1) (acc.push v)
theorem Sims.loadCells (a : Addr) (n : Nat) : Sims P (fun _ => True) (Go.loadCells a n) := Sims.loadCellsFrom a n 0 #[]
theorem Sims.storeCells (a : Addr) : ∀ (vs : List Value) (i : Nat), Sims P (fun _ => True) (Go.storeCells a vs i)
  | [], _ => Sims.pure trivial
  | v :: rest, i => by
    unfold Go.storeCells
    exact (Sims.store _ _ _).then fun _ => Sims.storeCells a rest (i + 1)
theorem Sims.loadVar (t : TypeId) (a : Addr) : Sims P (fun _ => True) (Go.loadVar t a) := by
  unfold Go.loadVar
  refine (Sims.isAgg t).then fun g => Sims.ite (fun _ => ?_) (fun _ => Sims.load _ _)
  exact (Sims.sizeOf t).bind fun n _ => (Sims.loadCells a n).then fun _ => Sims.pure trivial
theorem Sims.storeVar (t : TypeId) (a : Addr) (v : Value) : Sims P (fun _ => True) (Go.storeVar t a v) := by
  unfold Go.storeVar
  refine (Sims.sizeOf t).bind fun n _ => ?_
  exact Sims.ite (fun _ => (Sims.stuck (ok := fun _ => True) _).then fun _ => Sims.storeCells _ _ _) (fun _ => Sims.storeCells _ _ _)
theorem Sims.newRow (t : TypeId) (cs : Array Value) : Sims P (fun _ => True) (Go.newRow t cs) := by
  unfold Go.newRow
  exact (Sims.newObj _ (by simp) (by simp)).then fun _ => Sims.pure trivial
theorem Sims.newVar (t : TypeId) (v : Value) : Sims P (fun _ => True) (Go.newVar t v) := Sims.newRow t _
theorem Sims.elemOf (t : TypeId) : Sims P (fun _ => True) (Go.elemOf t) := by
  unfold Go.elemOf
  refine (Sims.underlying t).bind fun d _ => ?_
  split
  · exact Sims.pure trivial
  · exact Sims.stuck _
theorem Sims.part (t : TypeId) (cs : Array Value) (off : Nat) : Sims P (fun _ => True) (Go.part t cs off) := by
  unfold Go.part
  refine (Sims.isAgg t).then fun g => Sims.ite (fun _ => (Sims.sizeOf t).bind fun n _ => Sims.pure trivial) (fun _ => ?_)
  split
  · exact Sims.pure trivial
  · exact Sims.stuck _
theorem Sims.runtimePanic (e : RuntimeError) : Sims P ok (Go.runtimePanic e : Sem α) := by
  unfold Go.runtimePanic
  refine Sims.program.bind fun p _ => ?_
  cases e <;> first
    | exact Sims.goPanic _
    | exact (Sims.elemOf _).then fun _ => (Sims.newVar _ _).then fun _ => Sims.goPanic _
theorem Sims.boundsPanic (k : IntKind) (x y : Int) (c : BoundsCode) : Sims P ok (Go.boundsPanic k x y c : Sem α) := by
  unfold Go.boundsPanic
  dsimp only
  split
  · exact ((Sims.choose _).map (ok' := fun _ => True) fun _ _ => trivial).then fun _ => Sims.runtimePanic _
  · exact (Sims.pure (ok := fun _ => True) trivial).then fun _ => Sims.runtimePanic _
theorem Sims.asIntOf (v : Value) : Sims P (fun r => v = .int r.1 r.2) (Go.asIntOf v) := by
  unfold Go.asIntOf
  split
  · exact Sims.pure rfl
  · exact Sims.unsupported _ (by simp)
  · exact Sims.stuck _
theorem Sims.asInt (v : Value) : Sims P (fun _ => True) (Go.asInt v) := by
  unfold Go.asInt
  exact (Sims.asIntOf v).bind fun _ _ => Sims.pure trivial
theorem Sims.asBool (v : Value) : Sims P (fun b => v = .bool b) (Go.asBool v) := by
  unfold Go.asBool
  split
  · exact Sims.pure rfl
  · exact Sims.stuck _
theorem Sims.asAddr (v : Value) : Sims P (fun _ => True) (Go.asAddr v) := by
  unfold Go.asAddr
  split
  · exact Sims.pure trivial
  · exact Sims.runtimePanic _
  · exact Sims.stuck _
theorem Sims.sureAddr (v : Value) : Sims P (fun _ => True) (Instr.sureAddr v) := by
  unfold Instr.sureAddr
  split
  · exact Sims.pure trivial
  · exact Sims.stuck _
theorem Sims.askRoom (n : Nat) : Sims P (fun _ => True) (Go.askRoom n) := by
  unfold Go.askRoom
  exact Sims.ite (fun _ => Sims.noRoom) (fun _ => Sims.pure trivial)
end
end Go.Proofs.Ytddnapbdhjifiaa.Rg
