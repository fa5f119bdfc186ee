/-
  Theory of walks beside goroutines that only leave (part 7).
-/
import Derived.Test.YtddnapbdhjifiaaRg6
import Derived.Test.YtddnapbdhjifiaaRg4
set_option linter.unusedSimpArgs false
set_option linter.unusedVariables false
set_option linter.unusedSectionVars false
namespace Go.Proofs.Ytddnapbdhjifiaa.Rg
open Go.Conc Go.ConcN Go.RowKit
open Go.ConcR (KK wgBlock WgAt stA smA rd wr mk Payload Aside2 DC0 Bk)
variable [Kept]

section
variable {P : Program} {fr fr' : Frame} {cs : List Frame} {v : World} {X : Frame → List Frame → World → Prop}
/-- Whatever the first own step is. -/
theorem gt_first (h : ∀ (gs : Array Goroutine) (w : World) (sl : Option (Nat × Nat)) (t : Trace) (q : Nat → Nat), gs[0]? = some (G fr cs) → Rel v w → Leavers P t gs q → Past (ShunV v) w.heap.size t →
    ∃ m₁ ops, runT P (crowd gs w sl) 0 = (.next m₁, ops) ∧ ∃ N gs' fr' cs' v' w' sl' t', runNT P N m₁ (t ++ ops) = (.next (crowd gs' w' sl'), t') ∧ At P v' fr' cs' gs' w' t' ∧ X fr' cs' v') : GT P fr cs v X := by
  intro gs w sl t ha
  obtain ⟨hm, hr, ⟨q, hL⟩, hP⟩ := ha
  have key : ∀ (M : Nat) (gs : Array Goroutine) (w : World) (sl : Option (Nat × Nat)) (t : Trace) (q : Nat → Nat), sumTo gs.size q ≤ M → gs[0]? = some (G fr cs) → Rel v w → Leavers P t gs q → Past (ShunV v) w.heap.size t →
      ∃ N gs' fr' cs' v' w' sl' t', runNT P N (crowd gs w sl) t = (.next (crowd gs' w' sl'), t') ∧ At P v' fr' cs' gs' w' t' ∧ X fr' cs' v' := by
    have own : ∀ (gs : Array Goroutine) (w : World) (sl sl' : Option (Nat × Nat)) (t : Trace) (q : Nat → Nat) (d : Nat), gs[0]? = some (G fr cs) → Rel v w → Leavers P t gs q → Past (ShunV v) w.heap.size t → stepT P (crowd gs w sl) = runT P (crowd gs (w.at d) sl') 0 →
        ∃ N gs' fr' cs' v' w' sl' t', runNT P N (crowd gs w sl) t = (.next (crowd gs' w' sl'), t') ∧ At P v' fr' cs' gs' w' t' ∧ X fr' cs' v' := by
      intro gs w sl sl' t q d hm hr hL hP hst
      obtain ⟨m₁, ops, h1, N, gs', fr', cs', v', w', sl'', t', r1, r2, r3⟩ := h gs (w.at d) sl' t q hm ⟨hr.size, hr.os, hr.output, hr.block, hr.nopend⟩ hL hP
      exact ⟨N + 1, gs', fr', cs', v', w', sl'', t', by simp only [runNT, hst, h1]; exact r1, r2, r3⟩
    intro M
    induction M with
    | zero =>
      intro gs w sl t q hM hm hr hL hP
      rcases at_step (sl := sl) hm hr hL hP with ⟨d, sl', hst⟩ | ⟨d, gs', sl', t', q', _, _, hlt, _⟩
      · exact own gs w sl sl' t q d hm hr hL hP hst
      · omega
    | succ M ihM =>
      intro gs w sl t q hM hm hr hL hP
      rcases at_step (sl := sl) hm hr hL hP with ⟨d, sl', hst⟩ | ⟨d, gs', sl', t', q', hst, hsz, hlt, k1, k2, k3⟩
      · exact own gs w sl sl' t q d hm hr hL hP hst
      · obtain ⟨N, gs'', fr'', cs'', v'', w'', sl'', t'', r1, r2, r3⟩ := ihM gs' (w.at d) sl' (t ++ t') q' (by rw [hsz]; omega) k1 ⟨hr.size, hr.os, hr.output, hr.block, hr.nopend⟩ k2 k3
        exact ⟨N + 1, gs'', fr'', cs'', v'', w'', sl'', t'', by simp only [runNT, hst]; exact r1, r2, r3⟩
  exact key _ gs w sl t q (Nat.le_refl _) hm hr hL hP

/-- The shown world behind the join: the workers' blocks and the group's are hidden. -/
def shown (v w' : World) (C : Nat) : World :=
  { v with heap := Array.ofFn (n := w'.heap.size) fun i => if i.1 = C then w'.heap[i.1] else (v.heap[i.1]?).getD (.stringIter default 0) }
theorem shown_heap (v w' : World) (C b : Nat) (hb : b < w'.heap.size) : (shown v w' C).heap[b]? = if b = C then w'.heap[b]? else some ((v.heap[b]?).getD (.stringIter default 0)) := by
  unfold shown
  simp only [Array.getElem?_ofFn, hb, dite_true]
  by_cases h : b = C
  · subst h; simp [hb]
  · simp [h]
theorem shown_none (v w' : World) (C b : Nat) (hb : w'.heap.size ≤ b) : (shown v w' C).heap[b]? = none := by
  unfold shown
  simp only [Array.getElem?_ofFn]
  rw [dif_neg (by omega)]

section
variable (v) (ty : TypeId) (C nC n : Nat) (ety : TypeId) (rg : Nat → Nat) (fin : Nat → Nat → Value) (Cq nq : Nat) (vq : Nat → Value)
def layOf (K : Nat) (w : World) : Lay :=
  { K, Low := w.heap.size + 1, C, Wg := w.heap.size, nC, n, ety, ty, rg, Sn := Ghost v, W0 := w.alloc (wgBlock ty 0 0), fin, Cq, nq, vq }
end

/-- WHAT THE JOIN HAS MADE of the shown world. -/
structure Joined (v v' : World) (C nC n : Nat) (ety : TypeId) (rg : Nat → Nat) (fin : Nat → Nat → Value) (cells : Array Value) : Prop where
  size : v.heap.size ≤ v'.heap.size
  os : v'.os = v.os
  output : v'.output = v.output
  block : ∀ b, b < v.heap.size → b ≠ C → v'.heap[b]? = v.heap[b]?
  out : ∃ cs', v'.heap[C]? = some (.cells cs' ety) ∧ cs'.size = nC ∧ (∀ m i, m < n → i < 3 → cs'[rg m + i]? = some (fin m i)) ∧ ∀ o, (∀ m, m < n → ¬ (rg m ≤ o ∧ o < rg m + 3)) → cs'[o]? = cells[o]?

/-- ████ THE GROUP IS MADE, THE WORKERS ARE STARTED AND JOINED. ████ -/
theorem gt_crew [Payload] {ty : TypeId} {C nC n : Nat} {ety : TypeId} {rg : Nat → Nat} {fin : Nat → Nat → Value} {Cq nq : Nat} {vq : Nat → Value} {cells : Array Value} {AnchW : Nat → World → Goroutine → World → Prop} {Fin : Goroutine → World → Prop}
    (hstep : ∀ w, Rel v w → stepG P true (G fr cs) w = .go (G fr' cs) (w.alloc (wgBlock ty 0 0)) #[])
    (hpay : v.heap[C]? = some (.cells cells ety)) (hnC : cells.size = nC) (hCq : Cq < v.heap.size) (hne : Cq ≠ C) (hn : n < 2147483648)
    (apart : ∀ m m', m < n → m' < n → m ≠ m' → rg m + 3 ≤ rg m' ∨ rg m' + 3 ≤ rg m) (room : ∀ m, m < n → rg m + 3 ≤ nC)
    (hAr : ∀ K w g u, AnchW K w g u → g.status = .running)
    (hAn : ∀ K w, Rel v w → ∀ g u, AnchW K w g u → ∃ q, G0 P (layOf v ty C nC n ety rg fin Cq nq vq K w) [] (SW1 P (layOf v ty C nC n ety rg fin Cq nq vq K w) (AnchW K w) Fin) q g u)
    (hsp : ∀ K w, 0 < K → Rel v w → SSp P (layOf v ty C nC n ety rg fin Cq nq vq K w) (SLast P (layOf v ty C nC n ety rg fin Cq nq vq K w) (AnchW K w)) n (G fr' cs) (w.alloc (wgBlock ty 0 0)))
    (hFin : ∀ g u, Fin g u → ∃ fr'' cs'', g = G fr'' cs'' ∧ ∀ v', Joined v v' C nC n ety rg fin cells → GT P fr'' cs'' v' X) : GT P fr cs v X := by
  refine gt_first fun gs w sl t q hm hr hL hP => ?_
  have hrunT := runT_crowd_go (P := P) (sl := sl) (i := 0) hm (show stepG P (0 == 0) (G fr cs) w = _ from hstep w hr)
  rw [ofEvents_nil] at hrunT
  refine ⟨_, _, hrunT, ?_⟩
  rw [Array.append_empty]
  have hlt : 0 < gs.size := (Array.getElem?_eq_some_iff.1 hm).1
  have hCv : C < v.heap.size := (Array.getElem?_eq_some_iff.1 hpay).1
  have hgC : ¬ Ghost v C := by rintro ⟨s, p, e⟩; rw [hpay] at e; cases e
  have hwC : w.heap[C]? = some (.cells cells ety) := by
    rcases hr.block C with e | ⟨e, _⟩
    · rw [e]; exact hpay
    · exact absurd e hgC
  let Y : Lay := layOf v ty C nC n ety rg fin Cq nq vq gs.size w
  have hsz := hr.size
  have A : Y.Ok := by
    refine ⟨?_, Nat.lt_succ_self _, ?_, apart, room, hgC, fun b hb => ?_, hn, hlt, ⟨?_, hne, ?_⟩⟩
    · show C < w.heap.size + 1; omega
    · show C ≠ w.heap.size; omega
    · obtain ⟨s, p, e⟩ := hb
      have := (Array.getElem?_eq_some_iff.1 e).1
      show b < w.heap.size; omega
    · show Cq < w.heap.size + 1; omega
    · show Cq ≠ w.heap.size; omega
  have key : ∀ b, b < w.heap.size → (w.alloc (wgBlock ty 0 0)).heap[b]? = w.heap[b]? := fun b hb => Below.heap_alloc _ _ _ hb
  have hwin : WIn Y (w.alloc (wgBlock ty 0 0)) := by
    refine ⟨by show w.heap.size + 1 ≤ _; simp, rfl, rfl, fun _ _ _ _ => rfl, fun b hb hlt => ?_, ⟨cells, by rw [show Y.C = C from rfl, key C (by omega)]; exact hwC, hnC⟩, fun _ _ => rfl⟩
    have hb' : w.heap.size + 1 ≤ b := hb
    simp at hlt
    omega
  obtain ⟨N, m', t', e1, gs', w', sl', Q, a, rfl, k1, k2, k3, k4, k5, ⟨st, sm, k6⟩, k7⟩ := crew_joins (P := P) (Y := Y) (sl := sl) (t := t) (Q := q) (a := G fr' cs) (gs := (gs.map (woken P (G fr cs) (G fr' cs) (w.alloc (wgBlock ty 0 0)))).setIfInBounds 0 (G fr' cs)) A (hAr gs.size w) (hAn gs.size w hr) (by simp; rfl)
    (by simp [hlt]) ⟨fun j x hj hx => by
      have hne : 0 ≠ j := by omega
      rw [Array.getElem?_setIfInBounds_ne hne, Array.getElem?_map] at hx
      obtain ⟨y, hy, rfl⟩ := Option.map_eq_some_iff.1 hx
      have hq := hL.old j y hj hy
      rw [woken_quitsD hq]
      exact hq, fun j hj => hL.above j (by simpa using hj)⟩ hP hwin (fun _ => rfl) (heap_alloc_new w _) (hsp gs.size w hlt hr)
  obtain ⟨fr'', cs'', rfl, hX⟩ := hFin _ _ k2
  have hsz' : w.heap.size + 1 ≤ w'.heap.size := k5.size
  obtain ⟨cs', p1, p2⟩ := k5.pay
  have cellC : ∀ o, w'.cell? ⟨C, o, none⟩ = cs'[o]? := fun o => by
    have p1' : w'.heap[C]? = some (.cells cs' ety) := p1
    simp [World.cell?, p1']
  have hJ : Joined v (shown v w' C) C nC n ety rg fin cells := by
    refine ⟨by unfold shown; simp; omega, rfl, rfl, fun b hb hbC => ?_, cs', ?_, p2, fun m i hm hi => ?_, fun o ho => ?_⟩
    · rw [shown_heap v w' C b (by omega), if_neg hbC, Array.getElem?_eq_getElem hb]; rfl
    · rw [shown_heap v w' C C (by omega), if_pos rfl]; exact p1
    · rw [← cellC]; exact k7 m hm i hi
    · rw [← cellC]
      refine (k5.rest o fun m hm => ?_).trans ?_
      · rintro ⟨_, e, _, h1, h2⟩
        cases e
        exact ho m hm ⟨h1, h2⟩
      · show (w.alloc (wgBlock ty 0 0)).cell? ⟨C, o, none⟩ = _
        rw [cell_of_block' (key C (by omega)) o]
        simp [World.cell?, hwC]
  have hat : At P (shown v w' C) fr'' cs'' gs' w' t' := by
    have hgh : ∀ b, b < w'.heap.size → b ≠ C → v.heap.size ≤ b → Ghost (shown v w' C) b := fun b hb hbC hge => ⟨default, 0, by rw [shown_heap v w' C b hb, if_neg hbC, Array.getElem?_eq_none hge]; rfl⟩
    refine ⟨k1, ⟨by unfold shown; simp, k5.os.trans hr.os, k5.output.trans hr.output, fun b => ?_, fun b c t hb => ?_, ?_⟩, ⟨Q, k3⟩, past_shun k4 fun l hl => ?_⟩
    · rcases Nat.lt_or_ge b w'.heap.size with hb | hb
      · by_cases hbC : b = C
        · subst hbC
          left; rw [shown_heap v w' _ _ hb, if_pos rfl]
        · rcases Nat.lt_or_ge b v.heap.size with hbv | hbv
          · have e1 : w'.heap[b]? = w.heap[b]? := (k5.low b (by show b < w.heap.size + 1; omega) hbC (by show b ≠ w.heap.size; omega)).trans (key b (by omega))
            have e2 : (shown v w' C).heap[b]? = v.heap[b]? := hJ.block b hbv hbC
            rcases hr.block b with e | ⟨e, hh⟩
            · left; rw [e1, e2, e]
            · right
              refine ⟨by obtain ⟨s, p, e⟩ := e; exact ⟨s, p, e2.trans e⟩, ?_⟩
              rcases hh with ⟨h0, c, t, h1, h2⟩ | ⟨h0, c, t, h1⟩
              · exact .inl ⟨h0, c, t, e1.trans h1, h2⟩
              · exact .inr ⟨e1.trans h0, c, t, e1.trans h1⟩
          · right
            refine ⟨hgh b hb hbC hbv, .inl ⟨Nat.le_trans hr.nopend.2 hbv, ?_⟩⟩
            rcases Nat.eq_or_lt_of_le hbv with hbe | hbg
            · refine ⟨#[.int .u64 st, .int .u32 sm], ty, ?_, by simp⟩
              have : b = w.heap.size := by omega
              subst this
              exact k6
            · obtain ⟨c, t, h1, h2⟩ := k5.fresh b (by show w.heap.size + 1 ≤ b; omega) hb
              exact ⟨c, t, h1, h2⟩
      · left; rw [shown_none v w' C b hb, Array.getElem?_eq_none hb]
    · rcases Nat.lt_or_ge b w'.heap.size with hlt' | hge
      · rw [shown_heap v w' C b hlt'] at hb
        split at hb
        · rename_i e
          subst e
          have p1' : w'.heap[b]? = some (.cells cs' ety) := p1
          rw [p1'] at hb; cases hb
        · cases hvb : v.heap[b]? with
          | none => rw [hvb] at hb; cases hb
          | some o => rw [hvb] at hb; exact hr.nopend.1 b c t (by rw [hvb]; exact hb)
      · rw [shown_none v w' C b hge] at hb; cases hb
    · have h1 := hr.nopend.2
      have h2 : v.heap.size ≤ (shown v w' C).heap.size := hJ.size
      omega
    · rcases hl with ⟨ad, e, hs⟩ | ⟨ad, e, hs⟩
      · refine ⟨ad, e, ?_⟩
        obtain ⟨s, p, hs⟩ := hs
        have hbv := (Array.getElem?_eq_some_iff.1 hs).1
        by_cases hbC : ad.block = C
        · rw [hbC, hpay] at hs; cases hs
        · exact ⟨s, p, (hJ.block _ hbv hbC).trans hs⟩
      · have hs' : ad.block = w.heap.size := hs
        exact ⟨ad, e, hgh _ (by omega) (by omega) (by omega)⟩
  obtain ⟨N', gs'', fr3, cs3, v'', w'', sl'', t'', r1, r2, r3⟩ := hX _ hJ gs' w' sl' t' hat
  exact ⟨N + N', gs'', fr3, cs3, v'', w'', sl'', t'', runNT_comp e1 r1, r2, r3⟩
end
end Go.Proofs.Ytddnapbdhjifiaa.Rg
