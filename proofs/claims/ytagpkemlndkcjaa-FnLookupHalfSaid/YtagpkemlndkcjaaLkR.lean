/-
  A range over a function whose iterator turns one cell block of its own that lay before: the loop's law, for bodies that run off their end.
-/
import Derived.RangeFuncOwn
import Derived.RangeFuncLeaves
import Derived.Shelf.Abstract
import Derived.WalkKit
import Derived.OwnWalkIn
import Derived.TacticsInMore
import Derived.LoopNIn
import Derived.LoopIn
import Derived.Test.YtagpkemlndkcjaaLkI
namespace Go.Proofs.Ytagpkemlndkcjaa
open Go.RowKit

/-- An invariant that abides the turn of block Bd, and of blocks that are no cells and lie at or behind base. -/
def AbidesB (Bd base : Nat) (I : List Int → World → Prop) : Prop :=
  ∀ s W W' row, I s W → W.grownBy W' row → (∀ r, row = some r → r = Bd ∨ (base ≤ r ∧ ∃ o : Obj, W.heap[r]? = some o ∧ o.isCells = false)) → I s W'
/-- What the iterator promises: it turns block Bd alone; each round leaves what lay in w0 as it lay. -/
def SeqB (F : Fence) (n : Nat) (P : Program) (gf : Nat) (lb : Array Value) (N Bd : Nat) (S : List Int → Prop) (w0 : World) : Prop :=
  ∀ (l : Nat) (J : List Int → World → Prop) (W : World), Below w0.heap.size w0 W → (∀ s A B, J s A → A.grownBy B (some Bd) → J s B) →
    (∀ pre x W1, J pre W1 → pre.length < N → YieldAt F (n - 1) P l #[.int .i64 x] W1 fun e W' => e = .returned (.bool true) ∧ J (pre ++ [x]) W' ∧ Below w0.heap.size W1 W') →
    J [] W → CallsIn F n P gf (#[.func (.yield l) #[] #[]] ++ lb) W fun e W' => (∃ v, e = .returned v) ∧ ∃ xs, S xs ∧ J xs W'

theorem below_put {B : Nat} {w a : World} (h : Below B w a) (hB : B ≤ a.heap.size) (l : Nat) (o : Obj) (hl : B ≤ l) : Below B w (a.putObj l o) :=
  h.grown (grownBy_putObj' a l o) hB (fun q e => by cases e; exact hl)

theorem wpIn_range_b {F : Fence} {n : Nat} {P : Program} {g : Operand} {ps : Array Tmp} {assign body : Code} {Q : Exit → Act → World → Prop} {a : Act} {w : World}
    (hro : F.round = none) (h1 : 1 ≤ n) {gf : Nat} {lb : Array Value} (hg : a.eval g = .func (.func gf) #[] lb) (hFg : F.fn gf) (eg : ∀ args w, (callFunc gf args).run P w = .ok (.enter gf args) w)
    {N Bd : Nat} {S : List Int → Prop} {w0 : World} (hseq : SeqB F (n - 1) P gf lb N Bd S w0) (hBd : Bd < w0.heap.size) (hb0 : Below w0.heap.size w0 w) (hps : ps.size = 1)
    (I : List Int → World → Prop) (hI : AbidesB Bd w.heap.size I) (h0 : I [] w) (a₁ : Int → Act)
    (hassign : ∀ (l : Nat) (x : Int) (W : World) (K : Act → World → Prop), K (a₁ x) W →
      assign.wpIn (F.inRound l) (n - 1 - 1) P (Exit.then K (fun _ _ _ => False)) { tmps := (ps.zip #[.int .i64 x]).foldl (fun t (p, v) => t.setIfInBounds p v) a.tmps, defers := [] } W)
    (hbody : ∀ (l : Nat) (pre : List Int) (x : Int) (W : World), I pre W → pre.length < N →
      body.wpIn (F.inRound l) (n - 1 - 1) P (fun e _ W' => e = .normal ∧ KeepsOthers W W' ∧ Below w0.heap.size W W' ∧ I (pre ++ [x]) W') (a₁ x) W)
    (hdone : ∀ (D : Nat) (xs : List Int) (W : World), w.heap.size ≤ D → S xs → I xs W → W.heap[D]? = some (.deferred (some [])) → Q .normal { a with defers := { target := .collected D, args := #[] } :: a.defers } W) :
    (Code.rangeFunc g ps assign body).wpIn F n P Q a w := by
  refine wpIn_rangeFunc fun fn hfn => ?_
  rw [hro]
  have hz : w0.heap.size ≤ w.heap.size := hb0.size
  obtain ⟨rc, hrc⟩ : ∃ rc : LoopState → Loop, ∀ st, rc st = { state := st, pending := none, fn, tmps := a.tmps, params := ps, assign, body, defers := w.heap.size } := ⟨_, fun _ => rfl⟩
  have hst : ∀ st, (rc st).state = st := fun st => by rw [hrc]
  have hsw : ∀ st st', { rc st with state := st' } = rc st' := fun st st' => by rw [hrc, hrc]
  obtain ⟨W1, hW1⟩ : ∃ W1, (w.alloc (.deferred (some []))).alloc (.loop (rc .ready)) = W1 := ⟨_, rfl⟩
  have hent := run_enterLoop_outer (P := P) (w := w) fn a.tmps ps assign body
  rw [← hrc, hW1] at hent
  have hrec1 : W1.heap[w.heap.size + 1]? = some (.loop (rc .ready)) := by
    have := World.alloc_heap_new (w.alloc (.deferred (some []))) (.loop (rc .ready))
    rw [World.size_alloc] at this
    rw [← hW1]; exact this
  have hdef1 : W1.heap[w.heap.size]? = some (.deferred (some [])) := by
    rw [← hW1]; exact (Below.heap_alloc _ _ _ (by simp)).trans (World.alloc_heap_new w _)
  have hg1 : w.grownBy W1 none := by
    rw [← hW1]
    exact ⟨rfl, rfl, rfl, by simp; omega, fun k hk _ => (Below.heap_alloc _ _ k (by simp; omega)).trans (Below.heap_alloc _ _ k hk)⟩
  have hbel1 : Below w0.heap.size w0 W1 := hb0.grown hg1 hz (fun q e => by cases e)
  refine ⟨w.heap.size + 1, [{ target := .collected w.heap.size, args := #[] }], W1, { target := .fn (.func gf) lb, args := #[.func (.yield (w.heap.size + 1)) #[] #[]] }, W1, gf,
    #[.func (.yield (w.heap.size + 1)) #[] #[]] ++ lb, W1, hent, by simp only [resolve, hg]; simp [go_sem], fun f' hf' => by simp [Target.leads] at hf'; subst hf'; exact hFg, by simp [invoke, go_sem, eg], fun _ => h1, ?_⟩
  -- the invariant, and the loop's two blocks beside it
  refine (hseq (w.heap.size + 1) (fun pre W => I pre W ∧ W.heap[w.heap.size + 1]? = some (.loop (rc .ready)) ∧ W.heap[w.heap.size]? = some (.deferred (some []))) W1 hbel1
    (fun s A B ⟨k1, k2, k3⟩ hAB => ⟨hI s A B _ k1 hAB (fun r e => by cases e; exact .inl rfl),
      (hAB.block _ (Array.getElem?_eq_some_iff.1 k2).1 (fun e => by cases e; omega)).trans k2, (hAB.block _ (Array.getElem?_eq_some_iff.1 k3).1 (fun e => by cases e; omega)).trans k3⟩)
    ?_ ⟨hI _ _ _ _ h0 hg1 (fun r e => by cases e), hrec1, hdef1⟩).mono ?_
  · rintro pre x W ⟨k1, k2, k3⟩ hlen
    have hl : w.heap.size + 1 < W.heap.size := (Array.getElem?_eq_some_iff.1 k2).1
    have hy := run_yield (P := P) (args := #[.int .i64 x]) k2 (by rw [hrc]; simp [hps])
    have hbg := run_beginRound (P := P) k2 (hst _)
    rw [hsw] at hbg
    have hyr : (rc .ready).fn = fn ∧ (rc .ready).params = ps ∧ (rc .ready).tmps = a.tmps ∧ (rc .ready).assign = assign ∧ (rc .ready).body = body := by rw [hrc]; exact ⟨rfl, rfl, rfl, rfl, rfl⟩
    rw [hyr.1, hyr.2.1, hyr.2.2.1, hyr.2.2.2.1, hyr.2.2.2.2] at hy
    refine ⟨fn, _, assign, body, hy, roundIn_of_wpIn hfn (hassign _ x W _ ⟨_, hbg, ?_⟩)⟩
    obtain ⟨W2, hW2⟩ : ∃ W2, W.putObj (w.heap.size + 1) (.loop (rc .busy)) = W2 := ⟨_, rfl⟩
    rw [hW2]
    have m2 : W2.heap[w.heap.size + 1]? = some (.loop (rc .busy)) := by rw [← hW2]; exact World.putObj_heap_same hl
    have m3 : W2.heap[w.heap.size]? = some (.deferred (some [])) := by rw [← hW2]; exact (World.putObj_heap_other (by omega)).trans k3
    have m1 : I pre W2 := hI _ _ _ _ k1 (by rw [← hW2]; exact grownBy_putObj' W _ _) (fun r e => by cases e; exact .inr ⟨by omega, _, k2, rfl⟩)
    have mb : Below w0.heap.size W W2 := by rw [← hW2]; exact below_put (Below.refl _ _) (by omega) _ _ (by omega)
    refine wpIn_mono (hbody _ pre x W2 m1 hlen) ?_
    rintro e a3 W3 ⟨rfl, q1, q2, q3⟩
    have n2 := q1.same _ _ m2 rfl
    have n3 := q1.same _ _ m3 rfl
    have hen := run_endRound (P := P) none n2
    have hpe : ({ rc .busy with state := if (none : Option Code).isNone then .ready else .done, pending := none } : Loop) = rc .ready := by rw [hrc, hrc]; rfl
    rw [hpe] at hen
    refine ⟨_, _, hen, rfl, ⟨hI _ _ _ _ q3 (grownBy_putObj' W3 _ _) (fun r e => by cases e; exact .inr ⟨by omega, _, n2, rfl⟩), World.putObj_heap_same (Array.getElem?_eq_some_iff.1 n2).1, (World.putObj_heap_other (by omega)).trans n3⟩, ?_⟩
    exact below_put (mb.trans q2) (Nat.le_trans (by omega) (Nat.le_trans mb.size q2.size)) _ _ (by omega)
  · rintro e W2 ⟨⟨v, rfl⟩, xs, hS, k1, k2, k3⟩
    have hen := run_endLoop (P := P) k2 (by rw [hst]; simp)
    have hpn : (rc .ready).pending = none := by rw [hrc]
    rw [hsw, hpn] at hen
    exact ⟨none, _, hen, hdone _ xs _ (Nat.le_refl _) hS (hI _ _ _ _ k1 (grownBy_putObj' W2 _ _) (fun r e => by cases e; exact .inr ⟨by omega, _, k2, rfl⟩)) ((World.putObj_heap_other (by omega)).trans k3)⟩

end Go.Proofs.Ytagpkemlndkcjaa
