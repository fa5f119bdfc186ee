/-
  The exact laws' own copies, beside goroutines that only leave.
-/
import Derived.Test.YtkefnmmpipeppaaGo
import Derived.Test.YtkefnmmpipeppaaXi
set_option linter.unusedSimpArgs false
set_option linter.unusedVariables false
set_option linter.unusedSectionVars false
namespace Go.Proofs.Ytkefnmmpipeppaa
open Go.Conc Go.ConcN Go.RowKit Go.Conc.Lib Go.ConcR.Gen Go.ConcN.Gen Go.Proofs.Ytkefnmmpipeppaa.Rg
open Go.ConcR (KK wgBlock WgAt stA smA rd wr mk Payload Aside2 DC0 Bk)
variable [Kept]

theorem closedTo : Closed Try.prog [18, 20, 19] := by
  intro f hf
  simp only [List.mem_cons, List.not_mem_nil, or_false] at hf
  rcases hf with rfl | rfl | rfl <;> kernel_rfl
theorem toRsG (v : World) (z : Value) (r : List Tr) (h : TrsAt v z r) (hl : r.length ≤ 1048576) : CallsG Try.prog 18 #[z] v fun y u => TrsOwn u v.heap.size 26 y r ∧ KeepG v u :=
  callsG_of_calls closedTo (by simp) (fun y u u' s hy => ⟨hy.1.same s, hy.2.same s⟩) fun w s => (toReplicaS_any z r w (h.same s) hl).mono fun e w' ⟨y, e1, h1, h2⟩ => ⟨y, e1, by rw [show v.heap.size = w.heap.size by rw [s.heap]]; exact h1, .of_below s h2⟩
theorem toIsG (v : World) (z : Value) (xs : List Int) (h : IntsAt v z xs) (hl : xs.length ≤ 1048576) : CallsG Try.prog 19 #[z] v fun y u => IntsAt u y xs ∧ KeepG v u :=
  callsG_of_calls closedTo (by simp) (fun y u u' s hy => ⟨hy.1.same s, hy.2.same s⟩) fun w s => (toIntS_any z xs w (h.same s) hl).mono fun e w' ⟨y, e1, h1, h2⟩ => ⟨y, e1, intsAt_own h1, .of_below s h2⟩
theorem toRG (v : World) (x : Tr) : CallsG Try.prog 20 #[.agg #[.int .i64 x.a, .int .i64 x.b, .int .i64 x.c]] v fun y u => y = .agg #[.int .i64 x.a, .int .i64 x.b, .int .i64 x.c] ∧ KeepG v u :=
  callsG_of_calls closedTo (by simp) (fun y u u' s hy => ⟨hy.1, hy.2.same s⟩) fun w s => (toReplica_any x w).mono fun e w' h => ⟨_, h.1, rfl, .of_below s h.2⟩
theorem KeepG.low {v w w' : World} {B : Nat} (h : KeepG v w) (b : Below B w w') (hB : v.heap.size ≤ B) : KeepG v w' :=
  ⟨Nat.le_trans h.size b.size, b.os.trans h.os, b.output.trans h.output, fun k hk => (b.block k (Nat.lt_of_lt_of_le hk hB)).trans (h.block k hk)⟩
theorem ints_own_keep {v u : World} {B n : Nat} {e : TypeId} {z : Value} {xs : List Value} (h : v.ownsRow B e 1 z n xs) (k : KeepG v u) : u.ownsRow B e 1 z n xs := ownsRow_keeps h (B' := B) ⟨k.size, fun q _ hl => k.block q hl⟩ (Nat.le_refl _)
theorem grown_low {w w' : World} {B : Nat} {row : Option Nat} (h : w.grownBy w' row) (hr : ∀ q, row = some q → B ≤ q) (hB : B ≤ w.heap.size) : Below B w w' :=
  ⟨h.os, h.tape, h.output, h.size, fun k hk => h.block k (Nat.lt_of_lt_of_le hk hB) (fun e => by have := hr k e.symm; omega)⟩
theorem grown_keeps {w w' : World} {C : Nat} {row : Option Nat} (h : w.grownBy w' row) (hr : ∀ q, row = some q → q < C) : Keeps C w w' :=
  ⟨h.size, fun q hq hl => h.block q hl (fun e => by have := hr q e.symm; omega)⟩
end Go.Proofs.Ytkefnmmpipeppaa
