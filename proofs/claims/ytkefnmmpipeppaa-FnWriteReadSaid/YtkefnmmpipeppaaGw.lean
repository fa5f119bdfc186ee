/-
  Rules: a lone walk goes over into a walk beside leavers.
-/
import Derived.Test.YtkefnmmpipeppaaWrG
import Derived.Test.YtkefnmmpipeppaaSc
import Derived.Test.YtkefnmmpipeppaaQc
set_option linter.unusedSimpArgs false
set_option linter.unusedVariables false
set_option linter.unusedSectionVars false
namespace Go.Proofs.Ytkefnmmpipeppaa
open Go.Conc Go.ConcN Go.RowKit Go.Conc.Lib Go.ConcR.Gen Go.ConcN.Gen Go.Proofs.Ytkefnmmpipeppaa.Rg
open Go.ConcR (KK wgBlock WgAt stA smA rd wr mk Payload Aside2 DC0 Bk)
variable [Kept]

section
variable {P : Program} {L : List FuncId} {cs : List Frame} {v : World} {X : Frame → List Frame → World → Prop}
/-- A piece of code is walked alone; behind it the walk goes on beside leavers. -/
theorem gt_wpc (hC : Closed P L) {b : Frame} (hb : Rg.Plain P b) {a : Act} (ha : a.defers = []) {x : Code} (hx : okCode P L x = true) {k : List Item}
    (h : ∀ w, Same v w → x.wp P (segPost (fun a u => GT P (b.at a k) cs u X) (fun a u => ∀ todo, GT P { b.at a todo with mode := .returning } cs u X)) a w) : GT P (b.at a (.code x :: k)) cs v X :=
  gt_wp hC hb ha hx _ _ (fun a u u' s g => g.same s) (fun a u u' s g todo => (g todo).same s) h (fun a' v' _ g => g) (fun a' v' todo _ g => g todo)
theorem segPost_ret {N R : Act → World → Prop} {a : Act} {w : World} (hd : a.defers = []) (h : R a w) : segPost N R .ret a w := ⟨hd, h⟩
theorem segPost_nil {N R : Act → World → Prop} {a : Act} {w : World} (hd : a.defers = []) (h : N a w) : segPost N R .normal a w := ⟨hd, h⟩
/-- The function f is on its way out, with R. -/
def AtRet (P : Program) (f : FuncId) (cs : List Frame) (R : Value → World → Prop) : Frame → List Frame → World → Prop := fun fr' cs' v' => cs' = cs ∧ fr'.fn = f ∧ ∃ z, Rg.Leaves P fr' v' z ∧ R z v'
theorem gt_returned {b : Frame} {fn : Func} {a : Act} {z : Value} {R : Value → World → Prop} (hfn : P.funcs[b.fn]? = some fn) (hk : b.kind = .normal) (hd : a.defers = []) (hz : (results fn a.tmps).run P v = .ok z v) (hR : R z v) :
    ∀ todo, GT P { b.at a todo with mode := .returning } cs v (AtRet P b.fn cs R) :=
  fun todo => GT.stop ⟨rfl, rfl, z, leaves_of ⟨rfl, hd, hk⟩ hfn (.refl _) hz, hR⟩
/-- The same contract, of a function by which a run may begin. -/
def CallsM (P : Program) (f : FuncId) (args : Array Value) (v : World) (R : Value → World → Prop) : Prop := ∀ cs, GT P (Frame.enter P f args .normal) cs v (AtRet P f cs R)
theorem CallsM.to {f : FuncId} {args : Array Value} {R : Value → World → Prop} (h : CallsM P f args v R) : CallsG P f args v R := fun cs => (h cs).mono fun _ _ _ ⟨a, _, b⟩ => ⟨a, b⟩
theorem callsM_of_gt {f : FuncId} {fn : Func} {c : Code} {args : Array Value} {R : Value → World → Prop} (hf : P.funcs[f]? = some fn) (hb : fn.body = some c)
    (h : ∀ cs, GT P ((base f).at { tmps := args ++ Array.replicate (fn.ntmps - args.size) undef, defers := [] } [.code c]) cs v (AtRet P f cs R)) : CallsM P f args v R := by
  intro cs
  rw [enter_at args hf hb]
  exact h cs
theorem plain_of {f : FuncId} {fn : Func} (hf : P.funcs[f]? = some fn) : Rg.Plain P (base f) := ⟨rfl, by unfold resOk; show (P.funcs[f]?).isSome = true; rw [hf]; rfl⟩
end
theorem same_cell {v u : World} (h : Same v u) (p : Addr) : u.cell? p = v.cell? p := by unfold World.cell?; rw [h.heap]
theorem KeepG.of_same {v u : World} (h : Same v u) : KeepG v u := (KeepG.refl v).same h
theorem KeepG.below {v w w' : World} (h : KeepG v w) (b : Below w.heap.size w w') : KeepG v w' := h.trans ⟨b.size, b.os, b.output, fun k hk => b.block k hk⟩
theorem TrsOwn.keep {v u : World} {B : Nat} {T : TypeId} {z : Value} {xs : List Tr} (h : TrsOwn v B T z xs) (k : KeepG v u) : TrsOwn u B T z xs := h.keeps ⟨k.size, fun q _ hl => k.block q hl⟩
end Go.Proofs.Ytkefnmmpipeppaa
