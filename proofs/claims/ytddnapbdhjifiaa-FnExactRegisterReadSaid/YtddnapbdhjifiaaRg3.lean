/-
  Theory of walks beside goroutines that only leave (part 3).
-/
import Derived.Test.YtddnapbdhjifiaaRg2
set_option linter.unusedSimpArgs false
set_option linter.unusedVariables false
set_option linter.unusedSectionVars false
namespace Go.Proofs.Ytddnapbdhjifiaa.Rg
open Go.Conc
variable [Kept]


def okCode (P : Program) (L : List FuncId) : Code → Bool
  | .skip | .label _ | .exit _ | .ret => true
  | .seq a b | .cond _ a b => okCode P L a && okCode P L b
  | .block _ c | .loop c | .scope c => okCode P L c
  | .region _ ops _ => ops.all (okOp P L)
  | _ => false
def okItem (P : Program) (L : List FuncId) : Item → Bool
  | .code c | .inLoop c | .inScope c => okCode P L c
  | .inBlock _ => true
  | .inRegion ops _ => ops.all (okOp P L)
  | _ => false
def okFunc (P : Program) (L : List FuncId) (f : FuncId) : Bool :=
  match P.funcs[f]? with
  | some fn => fn.body.any (okCode P L) && !(fn.name == "runtime.NumGoroutine")
  | none => false
/-- A list of functions that is closed under calls. -/
def Closed (P : Program) (L : List FuncId) : Prop := ∀ f ∈ L, okFunc P L f = true

/-- The program has the function. -/
def resOk (P : Program) (f : FuncId) : Bool := (P.funcs[f]?).isSome

structure Fine (P : Program) (L : List FuncId) (fr : Frame) : Prop where
  kind : fr.kind = .normal
  round : fr.roundOf = none
  defers : fr.defers = []
  items : ∀ i ∈ fr.todo, okItem P L i = true
  fn : resOk P fr.fn = true
structure Calm (P : Program) (L : List FuncId) (fr : Frame) : Prop extends Fine P L fr where
  mode : fr.mode = .run
/-- It waits for a call of its own. -/
structure Waits (P : Program) (L : List FuncId) (fr : Frame) : Prop extends Calm P L fr where
  head : ∃ ops i rest k, fr.todo = .inRegion ops (i :: rest) :: k

/-- The frame with more to do behind. -/
def app (fr : Frame) (k : List Item) : Frame := { fr with todo := fr.todo ++ k }
theorem app_nil (fr : Frame) : app fr [] = fr := by simp [app]
/-- The lowest frame bears k behind. -/
def exF (k : List Item) (fr : Frame) (l : List Frame) : Frame := match l with | [] => app fr k | _ :: _ => fr
def exL (k : List Item) : List Frame → List Frame
  | [] => []
  | c :: l => exF k c l :: exL k l
theorem exF_nil (fr : Frame) (l : List Frame) : exF [] fr l = fr := by cases l <;> simp [exF, app_nil]
theorem exL_nil : ∀ l : List Frame, exL [] l = l
  | [] => rfl
  | c :: l => by rw [exL, exF_nil, exL_nil l]

section
variable {P : Program} {L : List FuncId}
theorem Closed.body (h : Closed P L) : ∀ f ∈ L, hasBody P f = true := by
  intro f hf
  have := h f hf
  unfold okFunc at this
  unfold hasBody
  cases hx : P.funcs[f]? with
  | none => rw [hx] at this; cases this
  | some fn =>
    rw [hx] at this
    simp only [Bool.and_eq_true] at this
    obtain ⟨h1, h3⟩ := this
    cases hb : fn.body with
    | none => rw [hb] at h1; simp at h1
    | some c => simp [hb] at h3 ⊢; exact h3
theorem Closed.res (h : Closed P L) {f : FuncId} (hf : f ∈ L) : resOk P f = true := by
  have := h f hf
  unfold okFunc at this
  unfold resOk
  cases hx : P.funcs[f]? with
  | none => rw [hx] at this; cases this
  | some fn => rfl

/-- What comes behind the shown world's step v to v', in whatever true world. -/
def Beside (P : Program) (v v' : World) (f : World → GStep) (g : Goroutine) : Prop :=
  ∀ w, Rel v w → Alike v w (v'.drawn - v.drawn) → ∃ w' es, f w = .go g w' es ∧ Rel v' w' ∧ w'.tape = w.tape ∧ w'.drawn = w.drawn + (v'.drawn - v.drawn) ∧ (∀ e ∈ es, GoodEv v' e) ∧ (w.heap = v.heap → w'.heap = v'.heap)
def Turns (v v' : World) : Prop := v.drawn ≤ v'.drawn ∧ v'.tape = v.tape ∧ Grow v v' ∧ NoPend v'
theorem Turns.refl {v : World} (h : NoPend v) : Turns v v := ⟨Nat.le_refl _, rfl, .refl _, h⟩
theorem Beside.silent {v : World} {f : World → GStep} {g : Goroutine} (h : ∀ w, f w = .go g w) : Beside P v v f g := fun w r _ => ⟨w, #[], h w, r, rfl, by simp, by simp, id⟩

/-- ONE FRAME's STEP: it goes on; it calls a function of the list; it unwinds; it ends. -/
def Go1 (P : Program) (L : List FuncId) (fr : Frame) (v : World) (any : Bool) : Prop :=
  ∃ fr' v', Fine P L fr' ∧ (fr'.mode = .run ∨ fr'.mode = .returning) ∧ Turns v v' ∧ ∀ k, (any = false → k = []) → ∀ cs, Beside P v v' (stepG P true (G (app fr k) cs)) (G (app fr' k) cs)
def Push1 (P : Program) (L : List FuncId) (fr : Frame) (v : World) : Prop :=
  ∃ f args v', f ∈ L ∧ Waits P L fr ∧ Turns v v' ∧ ∀ k cs, Beside P v v' (stepG P true (G (app fr k) cs)) (G (Frame.enter P f args .normal) (app fr k :: cs))
def Bad1 (P : Program) (fr : Frame) (v : World) : Prop :=
  ∃ fr', fr'.defers = [] ∧ (∃ ch, fr'.mode = .panicking ch) ∧ ∀ k cs, ∃ v' es, stepG P true (G (app fr k) cs) v = .go (G (app fr' k) cs) v' es
def isEnd : GStep → Prop
  | .ended .. => True
  | _ => False
/-- No exit leads there. -/
def NoBlock (k : List Item) : Prop := ∀ id, exitTo id k = none
def End1 (P : Program) (fr : Frame) (v : World) : Prop := ∀ k, NoBlock k → ∀ cs, isEnd (stepG P true (G (app fr k) cs) v)

theorem exitTo_app {id : Nat} {kk : List Item} : ∀ {k k' : List Item}, exitTo id k = some k' → exitTo id (k ++ kk) = some (k' ++ kk)
  | [], _, h => by cases h
  | x :: k, k', h => by
    cases x <;> simp only [exitTo, List.cons_append] at h ⊢ <;> first
      | exact exitTo_app h
      | (split at h
         · cases h; simp_all
         · rename_i hne; rw [if_neg hne]; exact exitTo_app h)
theorem exitTo_none {id : Nat} {kk : List Item} (hk : NoBlock kk) : ∀ {k : List Item}, exitTo id k = none → exitTo id (k ++ kk) = none
  | [], _ => hk id
  | x :: k, h => by
    cases x <;> simp only [exitTo, List.cons_append] at h ⊢ <;> first
      | exact exitTo_none hk h
      | (split at h
         · cases h
         · rename_i hne; rw [if_neg hne]; exact exitTo_none hk h)
theorem exitTo_sub {id : Nat} : ∀ {k k' : List Item}, exitTo id k = some k' → ∀ i ∈ k', i ∈ k
  | [], _, h => by cases h
  | x :: k, k', h => by
    intro i hi
    cases x <;> simp only [exitTo] at h <;> first
      | exact List.mem_cons_of_mem _ (exitTo_sub h i hi)
      | (split at h
         · cases h; exact List.mem_cons_of_mem _ hi
         · exact List.mem_cons_of_mem _ (exitTo_sub h i hi))

theorem finish_fine {fr : Frame} (h : Fine P L fr) {ops : Array Oper} {i : Nat} {rest : List Nat} {k : List Item} (ht : fr.todo = .inRegion ops (i :: rest) :: k) (v : Value) :
    Fine P L (fr.finish v) ∧ (fr.finish v).mode = fr.mode ∧ ∀ kk, (app fr kk).finish v = app (fr.finish v) kk := by
  have hi := h.items
  rw [ht] at hi
  unfold Frame.finish app
  simp only [ht, List.cons_append]
  refine ⟨⟨h.kind, h.round, h.defers, fun x hx => ?_, h.fn⟩, trivial, fun _ => trivial⟩
  simp only [List.mem_cons] at hx
  rcases hx with rfl | hx
  · exact hi (.inRegion ops (i :: rest)) (by simp)
  · exact hi x (by simp [hx])

theorem Go1.silent {fr : Frame} (h : Fine P L fr) {v : World} (hv : NoPend v) (any : Bool) (todo : List Item) (ht : ∀ i ∈ todo, okItem P L i = true) (hm : fr.mode = .run)
    (hs : ∀ k cs w, stepG P true (G (app fr k) cs) w = .go (G (app { fr with todo := todo } k) cs) w) : Go1 P L fr v any :=
  ⟨{ fr with todo := todo }, v, ⟨h.kind, h.round, h.defers, ht, h.fn⟩, .inl hm, .refl hv, fun k _ cs => .silent (hs k cs)⟩

theorem Go1.returns {fr : Frame} (h : Fine P L fr) {v : World} (hv : NoPend v) (any : Bool)
    (hs : ∀ k, (any = false → k = []) → ∀ cs w, stepG P true (G (app fr k) cs) w = .go (G (app { fr with mode := .returning } k) cs) w) : Go1 P L fr v any :=
  ⟨{ fr with mode := .returning }, v, ⟨h.kind, h.round, h.defers, h.items, h.fn⟩, .inr rfl, .refl hv, fun k hk cs => .silent (hs k hk cs)⟩

theorem eval_func (fr : Frame) (f : FuncId) : fr.eval (.func f) = .func (.func f) #[] #[] := rfl
theorem eval_app (fr : Frame) (k : List Item) : (app fr k).eval = fr.eval := by funext x; cases x <;> rfl

/-- An operation that is carried out. -/
theorem step_oper (hC : Closed P L) {fr : Frame} (h : Calm P L fr) {v : World} (hv : NoPend v) {ops : Array Oper} {i : Nat} {rest : List Nat} {k : List Item} (ht : fr.todo = .inRegion ops (i :: rest) :: k)
    {o : Oper} (ho : ops[i]? = some o) (hok : okOp P L o = true) (hw : Region.wanted o (yielded ops fr.tmps) = true) (any : Bool) : Go1 P L fr v any ∨ Push1 P L fr v ∨ Bad1 P fr v ∨ End1 P fr v := by
  have hstep : ∀ kk cs w, stepG P true (G (app fr kk) cs) w = stepG.apply P true (app fr kk) cs none (execOp fr.eval o) w := by
    intro kk cs w
    rw [← eval_app fr kk]
    simp [G, stepG, stepG.exec, stepG.oper, Frame.oper?, app, h.mode, ht, ho, hw, h.round]
  have hS := Sims.execOp (P := P) (L := L) hC.body fr.eval (eval_func fr) o hok
  have hself : Rel v v := ⟨rfl, rfl, rfl, fun _ => .inl rfl, hv⟩
  have hkind : ∀ kk, ((app fr kk).kind == CallKind.early) = false := fun kk => by show (fr.kind == _) = _; rw [h.kind]; rfl
  have hfn : ∀ kk, (app fr kk).fn = fr.fn := fun kk => rfl
  obtain ⟨hh, hval⟩ := hS v v hself
  cases hr : (execOp fr.eval o).run P v with
  | halt x v' =>
    have hx := hh x v' hr
    right; right
    cases x with
    | panic z =>
      refine .inl ⟨fr.raise [{ v := z, recovered := false }], ?_, ?_, fun kk cs => ⟨v', seen P fr.fn ((execOp fr.eval o).events P v #[]), ?_⟩⟩
      · unfold Frame.raise; rw [h.mode]; exact h.defers
      · unfold Frame.raise; rw [h.mode]; exact ⟨_, rfl⟩
      · have e : (app fr kk).raise [{ v := z, recovered := false }] = app (fr.raise [{ v := z, recovered := false }]) kk := by
          unfold Frame.raise app
          rw [h.mode]
        rw [hstep, ← e]
        simp [stepG.apply, hr, hkind, hfn, GStep.after, G]
    | stuck z =>
      refine .inr fun kk _ cs => ?_
      rw [hstep]
      simp [stepG.apply, hr, hkind, GStep.after, isEnd]
    | unsupported z =>
      refine .inr fun kk _ cs => ?_
      rw [hstep]
      cases z <;> first
        | exact hx.elim
        | simp [stepG.apply, hr, hkind, GStep.after, isEnd]
    | _ => exact hx.elim
  | ok x v' =>
    obtain ⟨hx, hle, htp, hg, hf0⟩ := hval x v' hr
    obtain ⟨_, _, hr', _⟩ := hf0 fun _ _ _ => rfl
    have hturn : Turns v v' := ⟨hle, htp, hg, hr'.nopend⟩
    have hfol : ∀ w, Rel v w → Alike v w (v'.drawn - v.drawn) → ∃ w', (execOp fr.eval o).run P w = .ok x w' ∧ Rel v' w' ∧ w'.tape = w.tape ∧ w'.drawn = w.drawn + (v'.drawn - v.drawn) ∧ (∀ e ∈ (execOp fr.eval o).events P w #[], GoodEv v' e) ∧ (w.heap = v.heap → w'.heap = v'.heap) :=
      fun w r hal => ((hS v w r).2 x v' hr).2.2.2.2 hal
    cases x with
    | value z =>
      left
      obtain ⟨hf1, hm1, ha1⟩ := finish_fine h.toFine ht z
      refine ⟨fr.finish z, v', hf1, .inl (hm1.trans h.mode), hturn, fun kk _ cs w r hal => ?_⟩
      obtain ⟨w', e1, e2, e3, e4, e5, e6⟩ := hfol w r hal
      refine ⟨w', seen P fr.fn ((execOp fr.eval o).events P w #[]), ?_, e2, e3, e4, fun e he => e5 e (Go.Conc.mem_seen he), e6⟩
      show stepG P true (G (app fr kk) cs) w = _
      rw [hstep, ← ha1]
      simp [stepG.apply, e1, hkind, hfn, GStep.after, G]
    | skip =>
      left
      obtain ⟨hf1, hm1, ha1⟩ := finish_fine h.toFine ht undef
      refine ⟨fr.finish undef, v', hf1, .inl (hm1.trans h.mode), hturn, fun kk _ cs w r hal => ?_⟩
      obtain ⟨w', e1, e2, e3, e4, e5, e6⟩ := hfol w r hal
      refine ⟨w', seen P fr.fn ((execOp fr.eval o).events P w #[]), ?_, e2, e3, e4, fun e he => e5 e (Go.Conc.mem_seen he), e6⟩
      show stepG P true (G (app fr kk) cs) w = _
      rw [hstep, ← ha1]
      simp [stepG.apply, e1, hkind, hfn, GStep.after, G]
    | enter f args =>
      refine .inr (.inl ⟨f, args, v', hx, ⟨h, _, _, _, _, ht⟩, hturn, fun kk cs w r hal => ?_⟩)
      obtain ⟨w', e1, e2, e3, e4, e5, e6⟩ := hfol w r hal
      refine ⟨w', seen P fr.fn ((execOp fr.eval o).events P w #[]), ?_, e2, e3, e4, fun e he => e5 e (Go.Conc.mem_seen he), e6⟩
      show stepG P true (G (app fr kk) cs) w = _
      rw [hstep]
      have ht' : (app fr kk).todo = .inRegion ops (i :: rest) :: (k ++ kk) := by simp [app, ht]
      simp [stepG.apply, e1, hkind, hfn, GStep.after, G, ht']
    | _ => exact hx.elim

theorem step_exec (hC : Closed P L) {fr : Frame} (hf : Calm P L fr) {v : World} (hv : NoPend v) (any : Bool) (hany : any = true → fr.todo ≠ []) : Go1 P L fr v any ∨ Push1 P L fr v ∨ Bad1 P fr v ∨ End1 P fr v := by
  have h := hf.toFine
  obtain ⟨fn, tmps, todo, defers, mode, kind, ro⟩ := fr
  obtain ⟨⟨hk, hr, hd, hi, hfn⟩, hm⟩ := hf
  simp only at hk hr hd hi hfn hm hany
  subst hk hr hd hm
  cases todo with
  | nil => exact .inl (.returns h hv any fun k hk cs w => by
      cases any with
      | true => exact absurd rfl (hany rfl)
      | false => rw [hk rfl]; simp [G, stepG, stepG.exec, app])
  | cons x k =>
    have hx := hi x (by simp)
    have hk : ∀ i ∈ k, okItem P L i = true := fun i hik => hi i (by simp [hik])
    have add : ∀ y, okItem P L y = true → ∀ i ∈ y :: k, okItem P L i = true := fun y hy i hik => by
      rcases List.mem_cons.1 hik with rfl | hik
      · exact hy
      · exact hk i hik
    have add2 : ∀ y z, okItem P L y = true → okItem P L z = true → ∀ i ∈ y :: z :: k, okItem P L i = true := fun y z hy hz i hik => by
      rcases List.mem_cons.1 hik with rfl | hik
      · exact hy
      · exact add z hz i hik
    cases x with
    | inBlock id => exact .inl (.silent h hv any k hk rfl fun kk cs w => by simp [G, stepG, stepG.exec, app])
    | inScope c => exact .inl (.silent h hv any k hk rfl fun kk cs w => by simp [G, stepG, stepG.exec, app])
    | inLoop c => exact .inl (.silent h hv any (.code c :: .inLoop c :: k) (add2 _ _ hx hx) rfl fun kk cs w => by simp [G, stepG, stepG.exec, app])
    | inRegion ops todo =>
      cases todo with
      | nil => exact .inl (.silent h hv any k hk rfl fun kk cs w => by simp [G, stepG, stepG.exec, app])
      | cons i rest =>
        cases hwt : ((ops[i]?).map (Region.wanted · (yielded ops tmps))).getD false with
        | false =>
          obtain ⟨hf1, hm1, ha1⟩ := finish_fine h rfl undef
          refine .inl ⟨_, v, hf1, .inl hm1, .refl hv, fun kk _ cs => .silent fun w => ?_⟩
          rw [← ha1]
          simp [G, stepG, stepG.exec, app, hwt]
        | true =>
          cases ho : ops[i]? with
          | none => rw [ho] at hwt; simp at hwt
          | some o =>
            rw [ho] at hwt
            have hok : okOp P L o = true := by
              simp only [okItem, Array.all_eq_true_iff_forall_mem] at hx
              exact hx o (Array.mem_of_getElem? ho)
            exact step_oper hC ⟨h, rfl⟩ hv rfl ho hok (by simpa using hwt) any
    | code c =>
      cases c with
      | skip => exact .inl (.silent h hv any k hk rfl fun kk cs w => by simp [G, stepG, stepG.exec, app])
      | label n => exact .inl (.silent h hv any k hk rfl fun kk cs w => by simp [G, stepG, stepG.exec, app])
      | seq a b =>
        simp only [okItem, okCode, Bool.and_eq_true] at hx
        exact .inl (.silent h hv any (.code a :: .code b :: k) (add2 _ _ hx.1 hx.2) rfl fun kk cs w => by simp [G, stepG, stepG.exec, app])
      | block id c => exact .inl (.silent h hv any (.code c :: .inBlock id :: k) (add2 _ _ hx rfl) rfl fun kk cs w => by simp [G, stepG, stepG.exec, app])
      | loop c => exact .inl (.silent h hv any (.code c :: .inLoop c :: k) (add2 _ _ hx hx) rfl fun kk cs w => by simp [G, stepG, stepG.exec, app])
      | scope c => exact .inl (.silent h hv any (.code c :: .inScope c :: k) (add2 _ _ hx hx) rfl fun kk cs w => by simp [G, stepG, stepG.exec, app])
      | ret => exact .inl (.returns h hv any fun kk _ cs w => by simp [G, stepG, stepG.exec, app])
      | cond c a b =>
        simp only [okItem, okCode, Bool.and_eq_true] at hx
        generalize hce : ({ fn, tmps, todo := Item.code (.cond c a b) :: k, defers := [], mode := .run, kind := .normal, roundOf := none } : Frame).eval c = ce
        have hce' : ∀ kk, ({ fn, tmps, todo := Item.code (.cond c a b) :: (k ++ kk), defers := [], mode := .run, kind := .normal, roundOf := none } : Frame).eval c = ce := fun kk => by rw [← hce]; cases c <;> rfl
        by_cases hb : ∃ t, ce = .bool t
        · obtain ⟨t, rfl⟩ := hb
          exact .inl (.silent h hv any (.code (if t then a else b) :: k) (add _ (by cases t <;> simp [okItem, hx])) rfl fun kk cs w => by simp [G, stepG, stepG.exec, app, hce'])
        · refine .inr (.inr (.inr fun kk _ cs => ?_))
          cases ce <;> first
            | exact absurd ⟨_, rfl⟩ hb
            | simp [G, stepG, stepG.exec, app, hce', isEnd]
      | exit id =>
        cases he : exitTo id k with
        | some k' => exact .inl (.silent h hv any k' (fun i hik => hk i (exitTo_sub he i hik)) rfl fun kk cs w => by simp [G, stepG, stepG.exec, app, exitTo_app he])
        | none => exact .inr (.inr (.inr fun kk hkk cs => by simp [G, stepG, stepG.exec, app, exitTo_none hkk he, isEnd]))
      | region id ops draw =>
        cases draw with
        | false => exact .inl (.silent h hv any (.inRegion ops (List.range ops.size) :: k) (add _ hx) rfl fun kk cs w => by simp [G, stepG, stepG.exec, app])
        | true =>
          have hrun : ∀ w : World, (choose (.order fn id)).run P w = .ok (w.tape w.drawn (.order fn id)) { w with drawn := w.drawn + 1 } := fun w => by simp [choose, Sem.run, Question.forced, Question.cut]
          refine .inl ⟨{ fn, tmps, todo := .inRegion ops (Region.schedule (P.follows .mixedOrders) ops (v.tape v.drawn (.order fn id))) :: k, defers := [], mode := .run, kind := .normal, roundOf := none }, { v with drawn := v.drawn + 1 }, ⟨rfl, rfl, rfl, add _ hx, hfn⟩, .inl rfl,
            ⟨by simp, rfl, ⟨Nat.le_refl _, fun _ _ => Iff.rfl⟩, hv⟩, fun kk _ cs w r hal => ⟨{ w with drawn := w.drawn + 1 }, #[], ?_, ⟨r.size, r.os, r.output, r.block, r.nopend⟩, rfl, by simp, by simp, fun e => e⟩⟩
          have := hal 0 (.order fn id) (by simp)
          simp only [Nat.add_zero] at this
          simp [G, stepG, stepG.exec, app, hrun, this]
      | goto n => cases hx
      | rangeFunc f ps a b => cases hx
      | refuse w => cases hx
    | inRangeFunc n => cases hx
    | endRangeFunc n => cases hx
    | beginRound => cases hx
    | call d b r s => cases hx
    | _ => cases hx
end
end Go.Proofs.Ytddnapbdhjifiaa.Rg

namespace Go.Proofs.Ytddnapbdhjifiaa.Rg
open Go.Conc
variable [Kept]
section
variable {P : Program} {L : List FuncId}

theorem Sims.mapML {α β : Type} {f : α → Sem β} (hf : ∀ a, Sims P (fun _ => True) (f a)) : ∀ l : List α, Sims P (fun _ => True) (l.mapM f)
  | [] => by rw [List.mapM_nil]; exact Sims.pure trivial
  | a :: l => by
    rw [List.mapM_cons]
    exact (hf a).then fun b => (Sims.mapML hf l).then fun bs => Sims.pure trivial
/-- A function's results are read. -/
theorem Sims.results (fn : Func) (tmps : Array Value) : Sims P (fun _ => True) (results fn tmps) := by
  unfold Go.results
  rw [Array.mapM_eq_mapM_toList]
  refine Sims.then (ok := fun _ => True) (Sims.map (Sims.mapML (fun r => ?_) _) fun _ _ => trivial) fun vs => Sims.pure trivial
  cases r with
  | tmp t => exact Sims.pure trivial
  | cell a t => exact (Sims.asAddr _).then fun a => Sims.loadVar _ _

theorem finish_waits {c : Frame} (h : Waits P L c) (z : Value) : Calm P L (c.finish z) ∧ ∀ kk, (app c kk).finish z = app (c.finish z) kk := by
  obtain ⟨ops, i, rest, k, ht⟩ := h.head
  obtain ⟨h1, h2, h3⟩ := finish_fine h.toFine ht z
  exact ⟨⟨h1, h2.trans h.mode⟩, h3⟩

/-- A frame on its way out. -/
structure Out (P : Program) (fr : Frame) : Prop where
  mode : fr.mode = .returning
  defers : fr.defers = []
  kind : fr.kind = .normal
theorem step_out {fr : Frame} (h : Out P fr) {fn : Func} (hfn : P.funcs[fr.fn]? = some fn) (c : Frame) (cs : List Frame) (w : World) :
    match (results fn fr.tmps).run P w with
    | .ok z w' => ∃ es, stepG P true (G fr (c :: cs)) w = .go (G (c.finish z) cs) w' es ∧ ∀ e ∈ es, e ∈ (results fn fr.tmps).events P w #[]
    | .halt _ _ => isEnd (stepG P true (G fr (c :: cs)) w) := by
  cases hr : (results fn fr.tmps).run P w with
  | ok z w' => exact ⟨seen P fr.fn ((results fn fr.tmps).events P w #[]), by simp [G, stepG, unwind, doReturn, h.mode, h.defers, h.kind, hfn, hr, GStep.after], fun e he => Go.Conc.mem_seen he⟩
  | halt x w' => cases x <;> simp [G, stepG, unwind, h.mode, h.defers, hfn, hr, GStep.after, isEnd]
theorem Fine.out {fr : Frame} (h : Fine P L fr) (hm : fr.mode = .returning) : Out P fr ∧ ∃ fn, P.funcs[fr.fn]? = some fn :=
  ⟨⟨hm, h.defers, h.kind⟩, Option.isSome_iff_exists.1 h.fn⟩
/-- A frame on its way out hands its results to the frame below. -/
theorem step_return {fr : Frame} (h : Fine P L fr) (hm : fr.mode = .returning) {v : World} (hv : NoPend v) :
    (∃ z v', Turns v v' ∧ ∀ (c : Frame) cs, Beside P v v' (stepG P true (G fr (c :: cs))) (G (c.finish z) cs)) ∨ ∀ (c : Frame) cs, isEnd (stepG P true (G fr (c :: cs)) v) := by
  obtain ⟨ho, fn, hfn⟩ := h.out hm
  have hS := Sims.results (P := P) fn fr.tmps
  have hself : Rel v v := ⟨rfl, rfl, rfl, fun _ => .inl rfl, hv⟩
  cases hr : (results fn fr.tmps).run P v with
  | halt x v' =>
    refine .inr fun c cs => ?_
    have := step_out ho hfn c cs v
    rw [hr] at this
    exact this
  | ok z v' =>
    obtain ⟨-, hle, htp, hg, hf0⟩ := (hS v v hself).2 z v' hr
    obtain ⟨_, _, hr', _⟩ := hf0 fun _ _ _ => rfl
    refine .inl ⟨z, v', ⟨hle, htp, hg, hr'.nopend⟩, fun c cs w r hal => ?_⟩
    obtain ⟨w', e1, e2, e3, e4, e5, e6⟩ := ((hS v w r).2 z v' hr).2.2.2.2 hal
    have := step_out ho hfn c cs w
    rw [e1] at this
    obtain ⟨es, k1, k2⟩ := this
    exact ⟨w', es, k1, e2, e3, e4, fun e he => e5 e (k2 e he), e6⟩
/-- The same, step by step, whatever it reads. -/
theorem step_return_any {fr : Frame} (h : Fine P L fr) (hm : fr.mode = .returning) (c : Frame) (cs : List Frame) (w : World) :
    (∃ z w' es, stepG P true (G fr (c :: cs)) w = .go (G (c.finish z) cs) w' es) ∨ isEnd (stepG P true (G fr (c :: cs)) w) := by
  obtain ⟨ho, fn, hfn⟩ := h.out hm
  have := step_out ho hfn c cs w
  cases hr : (results fn fr.tmps).run P w with
  | halt x v' => rw [hr] at this; exact .inr this
  | ok z v' => rw [hr] at this; obtain ⟨es, k, _⟩ := this; exact .inl ⟨z, v', es, k⟩

/-- THE SHOWN GOROUTINE's STEP, and whatever true one's beside it: with more to do behind its lowest frame ('seg'), and whatever frames below. -/
def StepsTo (P : Program) (seg : Bool) (fr : Frame) (l : List Frame) (v : World) (fr' : Frame) (l' : List Frame) (v' : World) : Prop :=
  Turns v v' ∧ ∀ k, (seg = false → k = []) → ∀ cs, Beside P v v' (stepG P true (G (exF k fr l) (exL k l ++ cs))) (G (exF k fr' l') (exL k l' ++ cs))
def BadS (P : Program) (fr : Frame) (l : List Frame) (v : World) : Prop :=
  ∃ fr', fr'.defers = [] ∧ (∃ ch, fr'.mode = .panicking ch) ∧ ∀ k cs, ∃ v' es, stepG P true (G (exF k fr l) (exL k l ++ cs)) v = .go (G (exF k fr' l) (exL k l ++ cs)) v' es
def EndS (P : Program) (fr : Frame) (l : List Frame) (v : World) : Prop := ∀ k, NoBlock k → ∀ cs, isEnd (stepG P true (G (exF k fr l) (exL k l ++ cs)) v)

structure Inv (P : Program) (L : List FuncId) (fr : Frame) (l : List Frame) (v : World) : Prop where
  fine : Fine P L fr
  mode : fr.mode = .run ∨ fr.mode = .returning
  waits : ∀ c ∈ l, Waits P L c
  nopend : NoPend v

theorem enter_fine (hC : Closed P L) {f : FuncId} (hf : f ∈ L) (args : Array Value) : Calm P L (Frame.enter P f args .normal) := by
  refine ⟨⟨rfl, rfl, rfl, fun y hy => ?_, hC.res hf⟩, rfl⟩
  have hof := hC f hf
  unfold okFunc at hof
  simp only [Frame.enter, List.mem_singleton] at hy
  subst hy
  cases hfn : P.funcs[f]? with
  | none => rw [hfn] at hof; cases hof
  | some fn =>
    rw [hfn] at hof
    simp only [Bool.and_eq_true] at hof
    cases hb : fn.body with
    | none => rw [hb] at hof; simp at hof
    | some c =>
      rw [hb] at hof
      simp only [Option.any_some] at hof
      simpa [okItem, hb] using hof.1

/-- The state from which a step can be taken. -/
def Moves (seg : Bool) (fr : Frame) (l : List Frame) : Prop := (fr.mode = .run ∧ (l = [] → seg = true → fr.todo ≠ [])) ∨ (fr.mode = .returning ∧ l ≠ [])

theorem inv_step (hC : Closed P L) {seg : Bool} {fr : Frame} {l : List Frame} {v : World} (h : Inv P L fr l v) (hl : Moves seg fr l) :
    (∃ fr' l' v', StepsTo P seg fr l v fr' l' v' ∧ Inv P L fr' l' v') ∨ BadS P fr l v ∨ EndS P fr l v := by
  rcases hl with ⟨hm, hl⟩ | ⟨hm, hl⟩
  · cases l with
    | nil =>
      have hone := step_exec hC ⟨h.fine, hm⟩ h.nopend seg (hl rfl)
      rcases hone with ⟨fr', v', h1, h2, h3, h4⟩ | ⟨f, args, v', h1, h2, h3, h4⟩ | ⟨fr', b1, b2, b3⟩ | he
      · exact .inl ⟨fr', [], v', ⟨h3, fun k hk cs => h4 k hk cs⟩, h1, h2, by simp, h3.2.2.2⟩
      · exact .inl ⟨_, [fr], v', ⟨h3, fun k hk cs => h4 k cs⟩, (enter_fine hC h1 args).toFine, .inl rfl, by simpa using h2, h3.2.2.2⟩
      · exact .inr (.inl ⟨fr', b1, b2, fun k cs => b3 k cs⟩)
      · exact .inr (.inr fun k hk cs => he k hk cs)
    | cons c l =>
      have hone := step_exec hC ⟨h.fine, hm⟩ h.nopend false (by simp)
      rcases hone with ⟨fr', v', h1, h2, h3, h4⟩ | ⟨f, args, v', h1, h2, h3, h4⟩ | ⟨fr', b1, b2, b3⟩ | he
      · refine .inl ⟨fr', c :: l, v', ⟨h3, fun k hk cs => ?_⟩, h1, h2, h.waits, h3.2.2.2⟩
        have := h4 [] (fun _ => rfl) (exL k (c :: l) ++ cs)
        rw [app_nil, app_nil] at this
        exact this
      · refine .inl ⟨_, fr :: c :: l, v', ⟨h3, fun k hk cs => ?_⟩, (enter_fine hC h1 args).toFine, .inl rfl, ?_, h3.2.2.2⟩
        · have := h4 [] (exL k (c :: l) ++ cs)
          rw [app_nil] at this
          exact this
        · intro x hx
          rcases List.mem_cons.1 hx with rfl | hx
          · exact h2
          · exact h.waits x hx
      · refine .inr (.inl ⟨fr', b1, b2, fun k cs => ?_⟩)
        have := b3 [] (exL k (c :: l) ++ cs)
        rw [app_nil, app_nil] at this
        exact this
      · refine .inr (.inr fun k hk cs => ?_)
        have := he [] (fun _ => rfl) (exL k (c :: l) ++ cs)
        rw [app_nil] at this
        exact this
  · cases l with
    | nil => exact absurd rfl hl
    | cons c l =>
      rcases step_return h.fine hm h.nopend with ⟨z, v', hT, hz⟩ | he
      · obtain ⟨h1, h2⟩ := finish_waits (h.waits c (by simp)) z
        refine .inl ⟨c.finish z, l, v', ⟨hT, fun k hk cs => ?_⟩, h1.toFine, .inl h1.mode, fun x hx => h.waits x (by simp [hx]), hT.2.2.2⟩
        have e : (exF k c l).finish z = exF k (c.finish z) l := by
          cases l with
          | nil => exact h2 k
          | cons _ _ => rfl
        have := hz (exF k c l) (exL k l ++ cs)
        rw [e] at this
        exact this
      · exact .inr (.inr fun k _ cs => he (exF k c l) (exL k l ++ cs))
end
end Go.Proofs.Ytddnapbdhjifiaa.Rg

namespace Go.Proofs.Ytddnapbdhjifiaa.Rg
open Go.Conc
variable [Kept]

abbrev Tape' := Nat → Question → Nat
def on (v : World) (τ : Tape') : World := { v with tape := τ, drawn := 0 }
def bare (v : World) : World := { v with tape := fun _ _ => 0, drawn := 0 }

/-- THE LONE RUN COMES TO Q WHATEVER THE TAPE ANSWERS, as a tree. -/
inductive Term (P : Program) (seg : Bool) (Q : Frame → World → Prop) : Frame → List Frame → World → Prop
  | done {fr : Frame} {v : World} : Q fr v → Term P seg Q fr [] v
  | step {fr : Frame} {l : List Frame} {v : World} (nf : Tape' → Frame) (nl : Tape' → List Frame) (nv : Tape' → World)
      (h : ∀ τ, StepsTo P seg fr l (on v τ) (nf τ) (nl τ) (nv τ)) (ih : ∀ τ, Term P seg Q (nf τ) (nl τ) (bare (nv τ))) : Term P seg Q fr l v

theorem Term.mk {P : Program} {seg : Bool} {Q : Frame → World → Prop} {fr : Frame} {l : List Frame} {v : World}
    (h : ∀ τ, ∃ fr' l' v', StepsTo P seg fr l (on v τ) fr' l' v' ∧ Term P seg Q fr' l' (bare v')) : Term P seg Q fr l v :=
  .step (fun τ => (h τ).choose) (fun τ => (h τ).choose_spec.choose) (fun τ => (h τ).choose_spec.choose_spec.choose) (fun τ => (h τ).choose_spec.choose_spec.choose_spec.1) (fun τ => (h τ).choose_spec.choose_spec.choose_spec.2)

/-! ### a tape put together out of pieces -/
section
variable {S : Type} (p : S → Tape' × Option (S × Nat))
def det : Nat → S → Nat → Prop
  | 0, _, _ => False
  | f + 1, s, i => match (p s).2 with
    | none => True
    | some (s', c) => i < c ∨ det f s' (i - c)
def look : Nat → S → Nat → Question → Nat
  | 0, _, _, _ => 0
  | f + 1, s, i, q => match (p s).2 with
    | none => (p s).1 i q
    | some (s', c) => if i < c then (p s).1 i q else look f s' (i - c) q
theorem look_det {q : Question} : ∀ {f f' : Nat} {s : S} {i : Nat}, det p f s i → det p f' s i → look p f s i q = look p f' s i q
  | 0, _, _, _, h, _ => h.elim
  | _ + 1, 0, _, _, _, h => h.elim
  | f + 1, f' + 1, s, i, h, h' => by
    simp only [det, look] at h h' ⊢
    cases hp : (p s).2 with
    | none => rfl
    | some x =>
      obtain ⟨s', c⟩ := x
      rw [hp] at h h'
      simp only at h h' ⊢
      by_cases hc : i < c
      · simp [hc]
      · simp only [hc, false_or, if_false] at h h' ⊢
        exact look_det h h'
open Classical in
noncomputable def joined (s : S) : Tape' := fun i q => if h : ∃ f, det p f s i then look p h.choose s i q else 0
variable {p}
theorem joined_none {s : S} (h : (p s).2 = none) (i : Nat) (q : Question) : joined p s i q = (p s).1 i q := by
  have hd : det p 1 s i := by simp only [det, h]
  unfold joined
  rw [dif_pos ⟨1, hd⟩, look_det p (Exists.choose_spec (⟨1, hd⟩ : ∃ f, det p f s i)) hd]
  simp only [look, h]
theorem joined_lt {s s' : S} {c : Nat} (h : (p s).2 = some (s', c)) {i : Nat} (hi : i < c) (q : Question) : joined p s i q = (p s).1 i q := by
  have hd : det p 1 s i := by simp only [det, h]; exact .inl hi
  unfold joined
  rw [dif_pos ⟨1, hd⟩, look_det p (Exists.choose_spec (⟨1, hd⟩ : ∃ f, det p f s i)) hd]
  simp only [look, h, hi, if_true]
theorem joined_ge {s s' : S} {c : Nat} (h : (p s).2 = some (s', c)) (i : Nat) (q : Question) : joined p s (c + i) q = joined p s' i q := by
  have step : ∀ f, det p (f + 1) s (c + i) ↔ det p f s' i := by
    intro f
    simp only [det, h]
    rw [show c + i - c = i by omega]
    constructor
    · rintro (x | x)
      · omega
      · exact x
    · exact .inr
  unfold joined
  by_cases hx : ∃ f, det p f s' i
  · obtain ⟨f, hf⟩ := hx
    have hd := (step f).2 hf
    rw [dif_pos ⟨f + 1, hd⟩, dif_pos ⟨f, hf⟩, look_det p (Exists.choose_spec (⟨f + 1, hd⟩ : ∃ f, det p f s (c + i))) hd, look_det p (Exists.choose_spec (⟨f, hf⟩ : ∃ f, det p f s' i)) hf]
    simp only [look, h, show ¬ c + i < c by omega, if_false, show c + i - c = i by omega]
  · rw [dif_neg hx, dif_neg]
    rintro ⟨f, hf⟩
    cases f with
    | zero => exact hf
    | succ f => exact hx ⟨f, (step f).1 hf⟩
end

/-! ### a frame below at which whatever comes to it ends -/
def stop0 : Frame := { fn := 0, tmps := #[], todo := [.code (.refuse "")], defers := [{ target := .nil, args := #[] }], mode := .run, kind := .normal }
def k0 (seg : Bool) : List Item := if seg then [.code (.refuse "")] else []
theorem noBlock_k0 (seg : Bool) : NoBlock (k0 seg) := by intro id; cases seg <;> rfl

section
variable {P : Program} {L : List FuncId} {seg : Bool} {Q : Frame → World → Prop}
def Hits (P : Program) (n : Nat) (fr : Frame) (cs : List Frame) (w : World) : Prop :=
  ∃ fr' w', runN P n (lone fr cs w) = .next (lone fr' [stop0] w') ∧ (fr'.mode = .run ∨ fr'.mode = .returning)
/-- The lone run comes to Q. -/
def Reach (P : Program) (seg : Bool) (Q : Frame → World → Prop) (n : Nat) (fr : Frame) (l : List Frame) (w : World) : Prop :=
  ∃ F w', runN P n (lone (exF (k0 seg) fr l) (exL (k0 seg) l ++ [stop0]) w) = .next (lone F [stop0] w') ∧ (F.mode = .run ∨ F.mode = .returning) ∧ ∀ f, F = app f (k0 seg) → Q f w'
theorem Reach.hits {n : Nat} {fr : Frame} {l : List Frame} {w : World} (h : Reach P seg Q n fr l w) : Hits P n (exF (k0 seg) fr l) (exL (k0 seg) l ++ [stop0]) w :=
  let ⟨fr', w', h1, h2, _⟩ := h; ⟨_, w', h1, h2⟩

theorem lone_inj {fr fr' : Frame} {cs cs' : List Frame} {w w' : World} (h : lone fr cs w = lone fr' cs' w') : fr = fr' ∧ cs = cs' ∧ w = w' := by
  simp only [lone, Machine.mk.injEq, Array.mk.injEq, List.cons.injEq, Goroutine.mk.injEq, and_true, true_and] at h
  exact ⟨h.2.1, h.2.2, h.1⟩
theorem app_inj {fr fr' : Frame} {k : List Item} (h : app fr k = app fr' k) : fr = fr' := by
  obtain ⟨a1, a2, a3, a4, a5, a6, a7⟩ := fr
  obtain ⟨b1, b2, b3, b4, b5, b6, b7⟩ := fr'
  simp only [app, Frame.mk.injEq] at h ⊢
  exact ⟨h.1, h.2.1, List.append_cancel_right h.2.2.1, h.2.2.2⟩
theorem step_lone_of_go {fr fr' : Frame} {cs cs' : List Frame} {w w' : World} {es : Array Event} (h : stepG P true (G fr cs) w = .go (G fr' cs') w' es) : step P (lone fr cs w) = .next (lone fr' cs' w') :=
  step_lone_go (by rw [show ({ frame := fr, callers := cs, status := .running, dying := none } : Goroutine) = G fr cs from rfl, h]; rfl)
theorem step_lone_of_end {fr : Frame} {cs : List Frame} {w : World} (h : isEnd (stepG P true (G fr cs) w)) : ∃ o w', step P (lone fr cs w) = .ended o w' := by
  cases hs : stepG P true (G fr cs) w with
  | ended o w' es => exact ⟨o, w', step_lone_ended (by rw [show ({ frame := fr, callers := cs, status := .running, dying := none } : Goroutine) = G fr cs from rfl, hs]; rfl)⟩
  | _ => rw [hs] at h; exact h.elim

theorem not_hits_end {fr : Frame} {cs : List Frame} {w : World} (h : isEnd (stepG P true (G fr cs) w)) (n : Nat) : ¬ Hits P (n + 1) fr cs w := by
  rintro ⟨fr', w', h1, _⟩
  obtain ⟨o, w₁, e⟩ := step_lone_of_end h
  simp only [runN, e] at h1
  cases h1

theorem doomed0 (n : Nat) {fr : Frame} {w : World} (hd : fr.defers = [{ target := .nil, args := #[] }]) (hm : ∃ ch, fr.mode = .panicking ch) : ¬ Hits P n fr [] w := by
  obtain ⟨ch, hm⟩ := hm
  cases n with
  | zero =>
    rintro ⟨fr', w', h1, _⟩
    simp only [runN, Stepped.next.injEq] at h1
    obtain ⟨_, h, _⟩ := lone_inj h1
    cases h
  | succ n =>
    refine not_hits_end ?_ n
    simp [G, stepG, hm, unwind, hd, callDeferred, isEnd]
theorem raise_mode (fr : Frame) (ch : List PanicEntry) : (∃ ch', (fr.raise ch).mode = .panicking ch') ∧ (fr.raise ch).defers = fr.defers := by
  unfold Frame.raise
  split
  · exact ⟨⟨_, rfl⟩, rfl⟩
  · exact ⟨⟨_, rfl⟩, rfl⟩
theorem doomed : ∀ (n : Nat) (l : List Frame) {fr : Frame} {w : World}, fr.defers = [] → (∃ ch, fr.mode = .panicking ch) → (∀ c ∈ l, c.defers = []) → ¬ Hits P n fr (l ++ [stop0]) w := by
  intro n
  induction n with
  | zero =>
    rintro l fr w _ ⟨ch, hm⟩ _ ⟨fr', w', h1, h2⟩
    simp only [runN, Stepped.next.injEq] at h1
    obtain ⟨rfl, _, _⟩ := lone_inj h1
    rw [hm] at h2
    rcases h2 with x | x <;> cases x
  | succ n ih =>
    rintro l fr w hd ⟨ch, hm⟩ hl
    by_cases hc : fr.catches P = true
    · refine not_hits_end ?_ _
      simp [G, stepG, hm, unwind, hd, hc, isEnd]
    · have hstep : ∀ (c : Frame) (cs : List Frame), stepG P true (G fr (c :: cs)) w = .go (G (c.raise ch) cs) w := by
        intro c cs
        simp [G, stepG, hm, unwind, hd, hc]
      rintro ⟨fr', w', h1, h2⟩
      cases l with
      | nil =>
        simp only [List.nil_append, runN, step_lone_of_go (hstep stop0 [])] at h1
        exact doomed0 n (by rw [(raise_mode _ _).2]; rfl) (raise_mode _ _).1 ⟨fr', w', h1, h2⟩
      | cons c l =>
        simp only [List.cons_append, runN, step_lone_of_go (hstep c (l ++ [stop0]))] at h1
        exact ih l (by rw [(raise_mode _ _).2]; exact hl c (by simp)) (raise_mode _ _).1 (fun x hx => hl x (by simp [hx])) ⟨fr', w', h1, h2⟩

theorem exL_defers {k : List Item} : ∀ {l : List Frame}, (∀ c ∈ l, c.defers = []) → ∀ c ∈ exL k l, c.defers = []
  | [], _, c, hc => by cases hc
  | x :: l, h, c, hc => by
    rcases List.mem_cons.1 hc with rfl | hc
    · have := h x (by simp)
      cases l <;> exact this
    · exact exL_defers (fun y hy => h y (by simp [hy])) c hc
theorem exL_stop {k : List Item} {l : List Frame} (h : exL k l ++ [stop0] = [stop0]) : l = [] := by
  cases l with
  | nil => rfl
  | cons c l => simp [exL] at h

/-! ### bar induction -/
theorem inv_bare {fr : Frame} {l : List Frame} {v : World} (h : Inv P L fr l v) : Inv P L fr l (bare v) := ⟨h.fine, h.mode, h.waits, h.nopend⟩
theorem inv_on {fr : Frame} {l : List Frame} {v : World} (h : Inv P L fr l v) (τ : Tape') : Inv P L fr l (on v τ) := ⟨h.fine, h.mode, h.waits, h.nopend⟩

structure Spot where
  fr : Frame
  l : List Frame
  v : World
def Lost (P : Program) (L : List FuncId) (seg : Bool) (Q : Frame → World → Prop) (s : Spot) : Prop := Inv P L s.fr s.l s.v ∧ ¬ Term P seg Q s.fr s.l s.v
def PickOk (P : Program) (L : List FuncId) (seg : Bool) (Q : Frame → World → Prop) (s : Spot) (x : Tape' × Option (Spot × Nat)) : Prop :=
  match x.2 with
  | some (s', c) => ∃ v', StepsTo P seg s.fr s.l (on s.v x.1) s'.fr s'.l v' ∧ s'.v = bare v' ∧ c = v'.drawn ∧ Lost P L seg Q s'
  | none => ¬ ∃ fr' l' v', StepsTo P seg s.fr s.l (on s.v x.1) fr' l' v' ∧ Inv P L fr' l' v'

theorem lost_pick {s : Spot} (h : Lost P L seg Q s) : ∃ x, PickOk P L seg Q s x := by
  obtain ⟨hi, ht⟩ := h
  refine Classical.byContradiction fun hno => ht (Term.mk fun τ => Classical.byContradiction fun hτ => ?_)
  by_cases hg : ∃ fr' l' v', StepsTo P seg s.fr s.l (on s.v τ) fr' l' v' ∧ Inv P L fr' l' v'
  · obtain ⟨fr', l', v', h1, h2⟩ := hg
    exact hno ⟨⟨τ, some (⟨fr', l', bare v'⟩, v'.drawn)⟩, v', h1, rfl, rfl, inv_bare h2, fun ht' => hτ ⟨fr', l', v', h1, ht'⟩⟩
  · exact hno ⟨⟨τ, none⟩, hg⟩

open Classical in
noncomputable def pick (P : Program) (L : List FuncId) (seg : Bool) (Q : Frame → World → Prop) (s : Spot) : Tape' × Option (Spot × Nat) := if h : ∃ x, PickOk P L seg Q s x then h.choose else ⟨fun _ _ => 0, none⟩
theorem pick_ok {s : Spot} (h : ∃ x, PickOk P L seg Q s x) : PickOk P L seg Q s (pick P L seg Q s) := by
  unfold pick
  rw [dif_pos h]
  exact h.choose_spec

/-- A world that bears the tape put together, from this spot on. -/
structure Bears (P : Program) (L : List FuncId) (seg : Bool) (Q : Frame → World → Prop) (s : Spot) (w : World) : Prop where
  heap : w.heap = s.v.heap
  os : w.os = s.v.os
  output : w.output = s.v.output
  tape : ∀ i q, w.tape (w.drawn + i) q = joined (pick P L seg Q) s i q

theorem rel_of_heap {v w : World} (h : w.heap = v.heap) (ho : w.os = v.os) (hp : w.output = v.output) (hn : NoPend v) : Rel v w := ⟨by rw [h], ho, hp, fun _ => .inl (by rw [h]), hn⟩

theorem lost_never (hC : Closed P L) (hQ : ∀ fr v v', NoPend v' → v'.heap = v.heap → v'.os = v.os → v'.output = v.output → Q fr v → Q fr v') :
    ∀ (n : Nat) (s : Spot) (w : World), Lost P L seg Q s → Bears P L seg Q s w → ¬ Reach P seg Q n s.fr s.l w := by
  intro n
  induction n with
  | zero =>
    rintro s w hs hw ⟨fr', w', h1, h2, h3⟩
    simp only [runN, Stepped.next.injEq] at h1
    obtain ⟨hfr, hcs, rfl⟩ := lone_inj h1
    have hl : s.l = [] := exL_stop hcs
    have ht := hs.2
    rw [hl] at ht hfr
    exact ht (.done (hQ _ _ _ hs.1.nopend hw.heap.symm hw.os.symm hw.output.symm (h3 _ hfr.symm)))
  | succ n ih =>
    intro s w hs hw hreach
    by_cases hl : Moves seg s.fr s.l
    · have hp := pick_ok (lost_pick hs)
      cases hx : (pick P L seg Q s).2 with
      | some x =>
        obtain ⟨s', c⟩ := x
        unfold PickOk at hp
        rw [hx] at hp
        obtain ⟨v', h1, h2, h3, h4⟩ := hp
        obtain ⟨g1, g5⟩ := h1
        have hd0 : (on s.v (pick P L seg Q s).1).drawn = 0 := rfl
        obtain ⟨w', es, e1, e2, e3, e4, e5, e6⟩ := g5 (k0 seg) (fun e => by rw [e]; rfl) [stop0] w (rel_of_heap hw.heap hw.os hw.output hs.1.nopend) fun i q hi => by
          rw [hw.tape, joined_lt hx (by rw [h3]; omega)]
          show _ = (pick P L seg Q s).1 (0 + i) q
          rw [Nat.zero_add]
        obtain ⟨fr', w'', r1, r2, r3⟩ := hreach
        simp only [runN, step_lone_of_go e1] at r1
        refine ih s' w' h4 ⟨by rw [h2]; exact e6 hw.heap, ?_, ?_, fun i q => ?_⟩ ⟨fr', w'', r1, r2, r3⟩
        · rw [h2]; exact e2.os
        · rw [h2]; exact e2.output
        · rw [e3, e4, hd0, Nat.sub_zero, ← h3, Nat.add_assoc, hw.tape, joined_ge hx]
      | none =>
        unfold PickOk at hp
        rw [hx] at hp
        simp only at hp
        have hiw : Inv P L s.fr s.l w := ⟨hs.1.fine, hs.1.mode, hs.1.waits, by unfold NoPend; rw [hw.heap]; exact hs.1.nopend⟩
        rcases inv_step hC hiw hl with ⟨fr', l', w', g1, g2⟩ | hb
        · -- then so it would be under the tape that was picked
          obtain ⟨fr₁, l₁, v₁, k1, k2⟩ | hb := inv_step hC (inv_on hs.1 (pick P L seg Q s).1) hl
          · exact hp ⟨_, _, _, k1, k2⟩
          · obtain ⟨f1, f5⟩ := g1
            have hr : Rel w (on s.v (pick P L seg Q s).1) := rel_of_heap hw.heap.symm hw.os.symm hw.output.symm hiw.nopend
            obtain ⟨v₁, es, e1, _⟩ := f5 (k0 seg) (fun e => by rw [e]; rfl) [stop0] _ hr fun i q _ => by
              rw [hw.tape, joined_none hx]
              show (pick P L seg Q s).1 (0 + i) q = _
              rw [Nat.zero_add]
            dsimp only at e1
            rcases hb with ⟨fr₂, b1, ⟨ch, b2⟩, b3⟩ | hb
            · obtain ⟨v₂, es₂, e₂⟩ := b3 (k0 seg) [stop0]
              rw [e1] at e₂
              simp only [GStep.go.injEq, G, Goroutine.mk.injEq] at e₂
              obtain ⟨⟨hfr, _⟩, _⟩ := e₂
              have m1 : (exF (k0 seg) fr' l').mode = fr'.mode := by cases l' <;> rfl
              have m2 : (exF (k0 seg) fr₂ s.l).mode = fr₂.mode := by cases s.l <;> rfl
              have := g2.mode
              rw [← m1, hfr, m2, b2] at this
              rcases this with x | x <;> cases x
            · have := hb (k0 seg) (noBlock_k0 seg) [stop0]
              rw [e1] at this
              exact this
        · rcases hb with ⟨fr', b1, ⟨ch, b2⟩, b3⟩ | hb
          · obtain ⟨v₂, es₂, e₂⟩ := b3 (k0 seg) [stop0]
            obtain ⟨fr₃, w₃, r1, r2⟩ := hreach.hits
            simp only [runN, step_lone_of_go e₂] at r1
            refine doomed n (exL (k0 seg) s.l) (fr := exF (k0 seg) fr' s.l) ?_ ⟨ch, ?_⟩ (exL_defers fun c hc => (hs.1.waits c hc).defers) ⟨fr₃, w₃, r1, r2⟩
            · cases s.l <;> exact b1
            · cases s.l <;> exact b2
          · exact not_hits_end (hb (k0 seg) (noBlock_k0 seg) [stop0]) _ hreach.hits
    · -- it has come to its end, and Q does not hold there
      rcases hs.1.mode with hm | hm
      · have hb : s.l = [] ∧ seg = true ∧ s.fr.todo = [] := by
          refine Classical.byContradiction fun h => hl (.inl ⟨hm, fun h1 h2 h3 => h ⟨h1, h2, h3⟩⟩)
        obtain ⟨h1, rfl, h3⟩ := hb
        refine not_hits_end ?_ n hreach.hits
        rw [h1]
        simp [G, stepG, stepG.exec, exF, exL, app, k0, hm, h3, isEnd]
      · have hl' : s.l = [] := Classical.byContradiction fun h => hl (.inr ⟨hm, h⟩)
        obtain ⟨fr', w', r1, r2⟩ := hreach.hits
        rw [hl'] at r1
        have hst : (∃ z w' es, stepG P true (G (app s.fr (k0 seg)) [stop0]) w = .go (G (stop0.finish z) []) w' es) ∨ isEnd (stepG P true (G (app s.fr (k0 seg)) [stop0]) w) := by
          obtain ⟨ho, fn, hfn⟩ := hs.1.fine.out hm
          have := step_out (fr := app s.fr (k0 seg)) ⟨ho.mode, ho.defers, ho.kind⟩ hfn stop0 [] w
          cases hr : (results fn (app s.fr (k0 seg)).tmps).run P w with
          | halt x v' => rw [hr] at this; exact .inr this
          | ok z v' => rw [hr] at this; obtain ⟨es, k, _⟩ := this; exact .inl ⟨z, v', es, k⟩
        rcases hst.symm with hend | ⟨z', w₁, es, e1⟩
        · have hh := hreach.hits
          rw [hl'] at hh
          exact not_hits_end hend n hh
        simp only [exF, exL, List.nil_append, runN, step_lone_of_go e1] at r1
        cases n with
        | zero =>
          simp only [runN, Stepped.next.injEq] at r1
          obtain ⟨_, h, _⟩ := lone_inj r1
          cases h
        | succ n =>
          have e2 : isEnd (stepG P true (G (stop0.finish z') []) w₁) := by simp [G, stepG, stepG.exec, stop0, Frame.finish, isEnd]
          obtain ⟨o, w₂, e2⟩ := step_lone_of_end e2
          simp only [runN, e2] at r1
          cases r1

/-- ████ OUT OF THE LONE RUNS, ONE FOR EACH TAPE: THE TREE. ████ -/
theorem term_of_runs (hC : Closed P L) (hQ : ∀ fr v v', NoPend v' → v'.heap = v.heap → v'.os = v.os → v'.output = v.output → Q fr v → Q fr v') {fr : Frame} {l : List Frame} {v : World} (hi : Inv P L fr l v)
    (runs : ∀ τ, ∃ n, Reach P seg Q n fr l (on v τ)) : Term P seg Q fr l (bare v) := by
  refine Classical.byContradiction fun ht => ?_
  obtain ⟨n, hn⟩ := runs (joined (pick P L seg Q) ⟨fr, l, bare v⟩)
  refine lost_never hC hQ n ⟨fr, l, bare v⟩ (on v (joined (pick P L seg Q) ⟨fr, l, bare v⟩)) ⟨inv_bare hi, ht⟩ ⟨rfl, rfl, rfl, fun i q => ?_⟩ hn
  show joined (pick P L seg Q) ⟨fr, l, bare v⟩ (0 + i) q = _
  rw [Nat.zero_add]
end
end Go.Proofs.Ytddnapbdhjifiaa.Rg
