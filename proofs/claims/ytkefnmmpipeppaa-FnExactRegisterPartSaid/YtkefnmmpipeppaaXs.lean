/-
  The exact laws of the registers: what is known between the steps.
-/
import Derived.Test.YtkefnmmpipeppaaXg
set_option linter.unusedSimpArgs false
set_option linter.unusedVariables false
set_option linter.unusedSectionVars false
namespace Go.Proofs.Ytkefnmmpipeppaa
open Go.Conc Go.ConcN Go.RowKit Go.Conc.Lib Go.ConcR.Gen Go.ConcN.Gen Go.Proofs.Ytkefnmmpipeppaa.Rg
open Go.ConcR (KK wgBlock WgAt stA smA rd wr mk Payload Aside2 DC0 Bk)
variable [Kept]

abbrev IOwn (w : World) (B : Nat) (z : Value) (xs : List Int) : Prop := w.ownsRow B 3 1 z xs.length (xs.map (Value.int .i64))
theorem IOwn.keep {v u : World} {B : Nat} {z : Value} {xs : List Int} (h : IOwn v B z xs) (k : KeepG v u) : IOwn u B z xs := ints_own_keep h k
theorem ownsRow_other {w w' : World} {B size n : Nat} {row : Option Nat} {e : TypeId} {v : Value} {xs : List Value} (h : w.ownsRow B e size v n xs) (hg : w.grownBy w' row) (hn : ∀ q, v.ownBlock = some q → some q ≠ row) : w'.ownsRow B e size v n xs := by
  refine ⟨h.1, ?_⟩
  rcases h.2 with hz | ⟨g, cap, cur, rfl, hb, hh, rest⟩
  · exact .inl hz
  · have hl : g < w.heap.size := by
      rcases Nat.lt_or_ge g w.heap.size with h' | h'
      · exact h'
      · rw [Array.getElem?_eq_none h'] at hh; cases hh
    exact .inr ⟨g, cap, cur, rfl, hb, (hg.block g hl (hn g rfl)).trans hh, rest⟩
theorem KeepG.of_grown {w w' : World} {B : Nat} {row : Option Nat} {v : World} (k : KeepG v w) (g : w.grownBy w' row) (hr : ∀ q, row = some q → v.heap.size ≤ q) : KeepG v w' :=
  ⟨Nat.le_trans k.size g.size, g.os.trans k.os, g.output.trans k.output, fun b hb => (g.block b (Nat.lt_of_lt_of_le hb k.size) (fun e => by have := hr b e.symm; omega)).trans (k.block b hb)⟩
/-- What is known from the program's first answer on. -/
structure Ex (v w2 cur : World) (B3 Bg : Nat) (uw : Value) (R : List Tr) (ys : List (Value × List Int)) (ug : Value) (G : List Tr) : Prop where
  k2 : KeepG v w2
  kw : KeepG w2 cur
  h3 : w2.heap.size ≤ B3
  hg : B3 ≤ Bg
  w : TrsAt w2 uw R
  y : ∀ p ∈ ys, IOwn cur B3 p.1 p.2 ∧ ∀ q, p.1.ownBlock = some q → q < Bg
  yy : ys.Pairwise fun p p' => ∀ q, p.1.ownBlock = some q → p'.1.ownBlock ≠ some q
  g : TrsOwn cur Bg 26 ug G
section
variable {v w2 cur cur' : World} {B3 Bg : Nat} {uw ug : Value} {R G : List Tr} {ys : List (Value × List Int)}
theorem Ex.kv (h : Ex v w2 cur B3 Bg uw R ys ug G) : KeepG v cur := h.k2.trans h.kw
theorem Ex.wat (h : Ex v w2 cur B3 Bg uw R ys ug G) : TrsAt cur uw R := h.w.keep h.kw
theorem Ex.keep (h : Ex v w2 cur B3 Bg uw R ys ug G) (k : KeepG cur cur') : Ex v w2 cur' B3 Bg uw R ys ug G :=
  ⟨h.k2, h.kw.trans k, h.h3, h.hg, h.w, fun p hp => ⟨(h.y p hp).1.keep k, (h.y p hp).2⟩, h.yy, h.g.keep k⟩
theorem Ex.same (h : Ex v w2 cur B3 Bg uw R ys ug G) (s : Same cur cur') : Ex v w2 cur' B3 Bg uw R ys ug G := h.keep (KeepG.of_same s)
theorem Ex.below (h : Ex v w2 cur B3 Bg uw R ys ug G) (b : Below cur.heap.size cur cur') : Ex v w2 cur' B3 Bg uw R ys ug G := h.keep ((KeepG.refl _).below b)
theorem Ex.markX (h : Ex v w2 cur B3 Bg uw R ys ug G) (b : Below w2.heap.size cur cur') (k : Keeps B3 cur cur') : Ex v w2 cur' B3 Bg uw R ys ug G :=
  ⟨h.k2, h.kw.low b (Nat.le_refl _), h.h3, h.hg, h.w, fun p hp => ⟨ownsRow_keeps (h.y p hp).1 k (Nat.le_refl _), (h.y p hp).2⟩, h.yy, ownsRow_keeps h.g k h.hg⟩
theorem Ex.markY {u : Value} {xs : List Int} (h : Ex v w2 cur B3 Bg uw R ((u, xs) :: ys) ug G) (g : cur.grownBy cur' u.ownBlock) : Ex v w2 cur' B3 Bg uw R ys ug G := by
  have hu := h.y (u, xs) (List.mem_cons_self ..)
  have hl := World.ownsRow.lt hu.1
  have hp := List.pairwise_cons.1 h.yy
  refine ⟨h.k2, KeepG.of_grown (B := 0) h.kw g (fun q e => Nat.le_trans h.h3 (hl q e).1), h.h3, h.hg, h.w, fun p hm => ?_, hp.2, ?_⟩
  · have hy := h.y p (List.mem_cons_of_mem _ hm)
    exact ⟨ownsRow_other hy.1 g (fun q e e' => hp.1 p hm q e'.symm e), hy.2⟩
  · refine ownsRow_other h.g g (fun q e e' => ?_)
    have h1 := (World.ownsRow.lt h.g q e).1
    have h2 := hu.2 q e'.symm
    omega
theorem Ex.markG {G' : List Tr} (h : Ex v w2 cur B3 Bg uw R [] ug G) (b : Below Bg cur cur') (g : TrsOwn cur' Bg 26 ug G') : Ex v w2 cur' B3 Bg uw R [] ug G' :=
  ⟨h.k2, h.kw.low b (Nat.le_trans h.h3 h.hg), h.h3, h.hg, h.w, fun p hp => (by cases hp), List.Pairwise.nil, g⟩
theorem Ex.make1 {w3 w4 w6 : World} {u0 : Value} {x0 : List Int} (k2 : KeepG v w2) (hw : TrsAt w2 uw R) (k3 : KeepG w2 w3) (k4 : KeepG w3 w4) (k6 : KeepG w4 w6)
    (y0 : IOwn w4 w3.heap.size u0 x0) (hg : TrsOwn w6 w4.heap.size 26 ug G) : Ex v w2 w6 w3.heap.size w4.heap.size uw R [(u0, x0)] ug G :=
  ⟨k2, (k3.trans k4).trans k6, k3.size, k4.size, hw, (fun p hp => (by
    obtain rfl := List.mem_singleton.1 hp
    exact ⟨y0.keep k6, fun q e => (World.ownsRow.lt y0 q e).2⟩)), List.pairwise_singleton _ _, hg⟩
theorem Ex.make2 {w3 w4 w5 w6 : World} {u0 u1 : Value} {x0 x1 : List Int} (k2 : KeepG v w2) (hw : TrsAt w2 uw R) (k3 : KeepG w2 w3) (k4 : KeepG w3 w4) (k5 : KeepG w4 w5) (k6 : KeepG w5 w6)
    (y0 : IOwn w4 w3.heap.size u0 x0) (y1 : IOwn w5 w4.heap.size u1 x1) (hg : TrsOwn w6 w5.heap.size 26 ug G) : Ex v w2 w6 w3.heap.size w5.heap.size uw R [(u0, x0), (u1, x1)] ug G := by
  refine ⟨k2, ((k3.trans k4).trans k5).trans k6, k3.size, Nat.le_trans k4.size k5.size, hw, fun p hp => ?_, ?_, hg⟩
  · rcases List.mem_cons.1 hp with rfl | hp
    · exact ⟨y0.keep (k5.trans k6), fun q e => Nat.lt_of_lt_of_le (World.ownsRow.lt y0 q e).2 k5.size⟩
    · obtain rfl := List.mem_singleton.1 hp
      exact ⟨ownsRow_mono (y1.keep k6) k4.size, fun q e => (World.ownsRow.lt y1 q e).2⟩
  · refine List.pairwise_cons.2 ⟨fun p hp q e e' => ?_, List.pairwise_singleton _ _⟩
    obtain rfl := List.mem_singleton.1 hp
    have h1 := (World.ownsRow.lt y0 q e).2
    have h2 := (World.ownsRow.lt y1 q e').1
    omega
theorem Ex.y0 {u : Value} {xs : List Int} (h : Ex v w2 cur B3 Bg uw R ((u, xs) :: ys) ug G) : IOwn cur B3 u xs := (h.y (u, xs) (List.mem_cons_self ..)).1
theorem Ex.y1 {u u' : Value} {xs xs' : List Int} (h : Ex v w2 cur B3 Bg uw R ((u', xs') :: (u, xs) :: ys) ug G) : IOwn cur B3 u xs := (h.y (u, xs) (List.mem_cons_of_mem _ (List.mem_cons_self ..))).1
theorem Ex.gl (h : Ex v w2 cur B3 Bg uw R ys ug G) : ∀ q, ug.ownBlock = some q → q < cur.heap.size := fun q e => (World.ownsRow.lt h.g q e).2
end
end Go.Proofs.Ytkefnmmpipeppaa
