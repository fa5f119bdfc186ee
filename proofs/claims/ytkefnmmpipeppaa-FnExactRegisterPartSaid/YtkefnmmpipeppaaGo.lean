/-
  Rules: a region that draws its order and holds calls of concurrent functions, beside goroutines that only leave.
-/
import Derived.Test.YtkefnmmpipeppaaGw
set_option linter.unusedSimpArgs false
set_option linter.unusedVariables false
set_option linter.unusedSectionVars false
namespace Go.Proofs.Ytkefnmmpipeppaa
open Go.Conc Go.ConcN Go.RowKit Go.Conc.Lib Go.ConcR.Gen Go.ConcN.Gen Go.Proofs.Ytkefnmmpipeppaa.Rg
open Go.ConcR (KK wgBlock WgAt stA smA rd wr mk Payload Aside2 DC0 Bk)
variable [Kept]

section
variable {P : Program} {L : List FuncId} {ops : Array Oper} {md : Region.Mode} {S : World → Prop}

/-- One operation, beside leavers. -/
def GOp (P : Program) (L : List FuncId) (ops : Array Oper) (i : Nat) (K : Act → World → Prop) (a : Act) (v : World) : Prop :=
  ∃ o, ops[i]? = some o ∧
    ((Region.wanted o (yielded ops a.tmps) = true ∧
      ((∃ z v', okOp P L o = true ∧ (∀ u, Same v u → ∃ u', (execOp a.eval o).run P u = .ok (.value z) u' ∧ Same v' u') ∧ K (a.put o.dst z) v') ∨
       (∃ v', okOp P L o = true ∧ (∀ u, Same v u → ∃ u', (execOp a.eval o).run P u = .ok .skip u' ∧ Same v' u') ∧ K (a.put o.dst undef) v') ∨
       (∃ f args R, (∀ u, (execOp a.eval o).run P u = .ok (.enter f args) u ∧ (execOp a.eval o).events P u #[] = #[]) ∧ CallsG P f args v R ∧ ∀ z v', R z v' → K (a.put o.dst z) v'))) ∨
     (Region.wanted o (yielded ops a.tmps) = false ∧ K (a.put o.dst undef) v))
theorem GOp.mono {i : Nat} {K K' : Act → World → Prop} {a : Act} {v : World} (h : GOp P L ops i K a v) (hk : ∀ a v, K a v → K' a v) : GOp P L ops i K' a v := by
  obtain ⟨o, ho, ⟨hw, ⟨z, v', h1, h2, h3⟩ | ⟨v', h1, h2, h3⟩ | ⟨f, args, R, h1, h2, h3⟩⟩ | ⟨hw, h⟩⟩ := h
  · exact ⟨o, ho, .inl ⟨hw, .inl ⟨z, v', h1, h2, hk _ _ h3⟩⟩⟩
  · exact ⟨o, ho, .inl ⟨hw, .inr (.inl ⟨v', h1, h2, hk _ _ h3⟩)⟩⟩
  · exact ⟨o, ho, .inl ⟨hw, .inr (.inr ⟨f, args, R, h1, h2, fun z v' hR => hk _ _ (h3 z v' hR)⟩)⟩⟩
  · exact ⟨o, ho, .inr ⟨hw, hk _ _ h⟩⟩
theorem GOp.gt (hC : Closed P L) {b : Frame} (hb : b.kind = .normal) {i : Nat} {K : Act → World → Prop} {a : Act} {v : World} {rest : List Nat} {k : List Item} {cs : List Frame} {X : Frame → List Frame → World → Prop} (h : GOp P L ops i K a v)
    (hk : ∀ a v, K a v → GT P (b.at a (.inRegion ops rest :: k)) cs v X) : GT P (b.at a (.inRegion ops (i :: rest) :: k)) cs v X := by
  obtain ⟨o, ho, ⟨hw, ⟨z, v', h1, h2, h3⟩ | ⟨v', h1, h2, h3⟩ | ⟨f, args, R, h1, h2, h3⟩⟩ | ⟨hw, h⟩⟩ := h
  · exact gt_op hC hb ho h1 hw h2 (hk _ _ h3)
  · exact gt_op0 hC hb ho h1 hw h2 (hk _ _ h3)
  · exact gt_call hb ho hw h1 h2 fun z v' hR => hk _ _ (h3 z v' hR)
  · exact gt_skip ho hw (hk _ _ h)
/-- In state a, in every shown world that meets S, the operation o yields z and does nothing else. -/
def YieldsG (P : Program) (L : List FuncId) (ops : Array Oper) (S : World → Prop) (o : Oper) (z : Value) (a : Act) : Prop :=
  (Region.wanted o (yielded ops a.tmps) = true ∧ okOp P L o = true ∧ ∀ w, S w → (execOp a.eval o).run P w = .ok (.value z) w) ∨
  (Region.wanted o (yielded ops a.tmps) = false ∧ z = undef)
theorem YieldsG.gop (hs : ∀ u u', Same u u' → S u → S u') {i : Nat} {o : Oper} {z : Value} {a : Act} (hi : ops[i]? = some o) (hy : YieldsG P L ops S o z a) {K : Act → World → Prop} {v : World} (hS : S v) (h : K (a.put o.dst z) v) : GOp P L ops i K a v := by
  rcases hy with ⟨hw, ho, hv⟩ | ⟨hw, rfl⟩
  · exact ⟨o, hi, .inl ⟨hw, .inl ⟨z, v, ho, fun u hu => ⟨u, hv u (hs _ _ hu hS), hu⟩, h⟩⟩⟩
  · exact ⟨o, hi, .inr ⟨hw, h⟩⟩
theorem YieldsG.of_same {o : Oper} {z : Value} {a a' : Act} (hy : YieldsG P L ops S o z a) (he : execOp a'.eval o = execOp a.eval o) (hw : Region.wanted o (yielded ops a'.tmps) = Region.wanted o (yielded ops a.tmps)) : YieldsG P L ops S o z a' := by
  unfold YieldsG at *
  rw [he, hw]
  exact hy
theorem GOp.put {j : Nat} {oi oj : Oper} {z : Value} (hj : ops[j]? = some oj) (hap : oi.apart ops oj = true) (hsi : ∀ cs b, oi.op ≠ .select cs b) (hsj : ∀ cs b, oj.op ≠ .select cs b)
    {K : Act → World → Prop} {a : Act} {w : World} (hy : YieldsG P L ops S oi z a) (h : GOp P L ops j K (a.put oi.dst z) w) :
    GOp P L ops j (fun a' w' => YieldsG P L ops S oi z a' ∧ K (a'.put oi.dst z) w') a w := by
  obtain ⟨h1, h2, h3⟩ := Oper.apart_spec hap
  have keep : ∀ (a : Act), YieldsG P L ops S oi z a → ∀ u, YieldsG P L ops S oi z (a.put oj.dst u) := fun a hy u => hy.of_same (execOp_put oi hsi a oj.dst u h3) (wanted_put oi a oj.dst u h3)
  obtain ⟨o, ho, h⟩ := h
  rw [hj] at ho
  obtain rfl := Option.some.inj ho
  rw [wanted_put oj a oi.dst z h1, execOp_put oj hsj a oi.dst z h1] at h
  refine ⟨oj, hj, ?_⟩
  rcases h with ⟨hw, ⟨y, v', g1, g2, g3⟩ | ⟨v', g1, g2, g3⟩ | ⟨f, args, R, g1, g2, g3⟩⟩ | ⟨hw, h⟩
  · exact .inl ⟨hw, .inl ⟨y, v', g1, g2, keep a hy y, by rw [← Act.put_comm a z y h2]; exact g3⟩⟩
  · exact .inl ⟨hw, .inr (.inl ⟨v', g1, g2, keep a hy _, by rw [← Act.put_comm a z undef h2]; exact g3⟩)⟩
  · exact .inl ⟨hw, .inr (.inr ⟨f, args, R, g1, g2, fun y v' hR => ⟨keep a hy y, by rw [← Act.put_comm a z y h2]; exact g3 y v' hR⟩⟩)⟩
  · exact .inr ⟨hw, keep a hy _, by rw [← Act.put_comm a z undef h2]; exact h⟩
/-- Whatever order is picked from here on, and S holds behind every operation. -/
def gtAny (P : Program) (L : List FuncId) (md : Region.Mode) (ops : Array Oper) (F : Act → World → Prop) (S : World → Prop) : Nat → Array Bool → Act → World → Prop
  | 0, listed, a, v => Region.ready md ops listed = [] ∧ F a v
  | fuel + 1, listed, a, v =>
    (Region.ready md ops listed = [] → F a v) ∧
    ∀ i ∈ Region.ready md ops listed, GOp P L ops i (fun a' v' => S v' ∧ gtAny P L md ops F S fuel (listed.setIfInBounds i true) a' v') a v
theorem gtAny.gt (hC : Closed P L) {F : Act → World → Prop} {b : Frame} (hb : b.kind = .normal) {k : List Item} {cs : List Frame} {X : Frame → List Frame → World → Prop} (hF : ∀ a v, F a v → GT P (b.at a (.inRegion ops [] :: k)) cs v X) :
    ∀ (fuel : Nat) (listed : Array Bool) (a : Act) (v : World), gtAny P L md ops F S fuel listed a v → ∀ l ∈ ordersOf md ops fuel listed, GT P (b.at a (.inRegion ops l :: k)) cs v X
  | 0, listed, a, v, h, l, hl => by
    simp only [ordersOf, List.mem_singleton] at hl
    subst hl
    exact hF _ _ h.2
  | fuel + 1, listed, a, v, h, l, hl => by
    unfold ordersOf at hl
    cases hr : Region.ready md ops listed with
    | nil =>
      rw [hr] at hl
      simp only [List.mem_singleton] at hl
      subst hl
      exact hF _ _ (h.1 hr)
    | cons r rs =>
      rw [hr] at hl
      obtain ⟨i, hi, hl⟩ := List.mem_flatMap.1 hl
      obtain ⟨l', hl', rfl⟩ := List.mem_map.1 hl
      exact (h.2 i (by rw [hr]; exact hi)).gt hC hb fun a' v' h' => gtAny.gt hC hb hF fuel _ a' v' h'.2 l' hl'
theorem gtAny_first (hs : ∀ u u', Same u u' → S u → S u') {F : Act → World → Prop} {i : Nat} {oi : Oper} {z : Value} (hi : ops[i]? = some oi) (hsel : ∀ (j : Nat) (o : Oper) cs b, ops[j]? = some o → o.op ≠ .select cs b) :
    ∀ (fuel : Nat) (listed : Array Bool) (a : Act) (w : World),
      (∀ j oj, ops[j]? = some oj → j ≠ i → listed.getD j true = false → (∀ e ∈ oj.after, Region.binds md e = true → e.on ≠ i) → oi.apart ops oj = true) →
      i ∈ Region.ready md ops listed → YieldsG P L ops S oi z a → S w →
      gtAny P L md ops F S fuel (listed.setIfInBounds i true) (a.put oi.dst z) w → gtAny P L md ops F S (fuel + 1) listed a w := by
  intro fuel
  induction fuel with
  | zero =>
    intro listed a w _ hr hy hS H
    refine ⟨fun h => (by rw [h] at hr; cases hr), fun j hj => ?_⟩
    by_cases hji : j = i
    · subst hji; exact hy.gop hs hi hS ⟨hS, H⟩
    · have := ready_mono hj hji
      rw [H.1] at this
      cases this
  | succ fuel ih =>
    intro listed a w hfree hr hy hS H
    refine ⟨fun h => (by rw [h] at hr; cases hr), fun j hj => ?_⟩
    by_cases hji : j = i
    · subst hji; exact hy.gop hs hi hS ⟨hS, H⟩
    · have h1 := H.2 j (ready_mono hj hji)
      obtain ⟨hjun, oj, hoj, hall⟩ := mem_ready.1 hj
      have hnot : ∀ e ∈ oj.after, Region.binds md e = true → e.on ≠ i := fun e he hb heq => by
        have h1 := hall e he hb
        have h0 := (mem_ready.1 hr).1
        rw [heq] at h1
        rcases Nat.lt_or_ge i listed.size with h' | h'
        · simp [h'] at h0 h1; rw [h0] at h1; cases h1
        · simp [Array.getElem?_eq_none h'] at h1
      have h2 := GOp.put hoj (hfree j oj hoj hji hjun hnot) (fun cs b => hsel i oi cs b hi) (fun cs b => hsel j oj cs b hoj) hy h1
      have hfree' : ∀ k ok, ops[k]? = some ok → k ≠ i → (listed.setIfInBounds j true).getD k true = false →
          (∀ e ∈ ok.after, Region.binds md e = true → e.on ≠ i) → oi.apart ops ok = true := fun k ok hk hki hun hno => by
        refine hfree k ok hk hki ?_ hno
        by_cases hjk : j = k
        · subst hjk; exact hjun
        · rw [getD_set_ne true hjk] at hun; exact hun
      refine h2.mono fun a' w' h3 => ⟨h3.2.1, ih (listed.setIfInBounds j true) a' w' hfree' (ready_mono hr (Ne.symm hji)) h3.1 h3.2.1 ?_⟩
      rw [Array.setIfInBounds_comm _ _ hji]
      exact h3.2.2
theorem gtAny_take (hs : ∀ u u', Same u u' → S u → S u') {F : Act → World → Prop} {i : Nat} {oi : Oper} {z : Value} {fuel : Nat} {listed : Array Bool} {a : Act} {w : World} (hi : ops[i]? = some oi)
    (hsel : Region.noSelect ops = true) (hf : Region.free md ops listed i = true) (hr : (Region.ready md ops listed).contains i = true) (hy : YieldsG P L ops S oi z a) (hS : S w)
    (h : gtAny P L md ops F S fuel (listed.setIfInBounds i true) (a.put oi.dst z) w) : gtAny P L md ops F S (fuel + 1) listed a w :=
  gtAny_first hs hi (Region.noSelect_spec hsel) fuel listed a w (Region.free_spec hi hf) (by simpa using hr) hy hS h
/-- The one that may come up is a call. -/
theorem gtAny_call {F : Act → World → Prop} {i : Nat} {o : Oper} {fuel : Nat} {listed : Array Bool} {a : Act} {w : World} {f : FuncId} {args : Array Value} {R : Value → World → Prop} (hr : Region.ready md ops listed = [i]) (hi : ops[i]? = some o)
    (hw : Region.wanted o (yielded ops a.tmps) = true) (hrun : ∀ u, (execOp a.eval o).run P u = .ok (.enter f args) u ∧ (execOp a.eval o).events P u #[] = #[]) (hc : CallsG P f args w R)
    (h : ∀ z v', R z v' → S v' ∧ gtAny P L md ops F S fuel (listed.setIfInBounds i true) (a.put o.dst z) v') : gtAny P L md ops F S (fuel + 1) listed a w :=
  ⟨fun h0 => (by rw [hr] at h0; cases h0), fun j hj => by
    rw [hr] at hj
    obtain rfl := List.mem_singleton.1 hj
    exact ⟨o, hi, .inl ⟨hw, .inr (.inr ⟨f, args, R, hrun, hc, h⟩)⟩⟩⟩
theorem gtAny_done {F : Act → World → Prop} {listed : Array Bool} {a : Act} {w : World} (hr : Region.ready md ops listed = []) (h : F a w) : ∀ fuel, gtAny P L md ops F S fuel listed a w
  | 0 => ⟨hr, h⟩
  | _ + 1 => ⟨fun _ => h, by rw [hr]; simp⟩
theorem gtAny_turn {F : Act → World → Prop} {S' : World → Prop} (hs : ∀ w, S' w → S w) : ∀ (fuel : Nat) (listed : Array Bool) (a : Act) (w : World), gtAny P L md ops F S' fuel listed a w → gtAny P L md ops F S fuel listed a w
  | 0, _, _, _, h => h
  | fuel + 1, _, _, _, h => ⟨h.1, fun i hi => (h.2 i hi).mono fun a' w' h' => ⟨hs _ h'.1, gtAny_turn hs fuel _ a' w' h'.2⟩⟩
/-- ████ A REGION THAT DRAWS ITS ORDER. ████ -/
theorem gt_region_held (hC : Closed P L) (hm : P.follows .mixedOrders = true) {b : Frame} (hb : b.kind = .normal) {a : Act} {id : Nat} {k : List Item} {cs : List Frame} {v : World} {X : Frame → List Frame → World → Prop}
    (h : gtAny P L .any ops (fun a v => GT P (b.at a (.inRegion ops [] :: k)) cs v X) S ops.size (Array.replicate ops.size false) a v) : GT P (b.at a (.code (.region id ops true) :: k)) cs v X :=
  gt_region_draw fun t => by
    rw [hm]
    exact gtAny.gt hC hb (fun _ _ h => h) _ _ a v h _ (schedule_mem rfl t)
end
theorem KeepG.sames {W : World} : ∀ u u', Same u u' → KeepG W u → KeepG W u' := fun _ _ s h => h.same s
end Go.Proofs.Ytkefnmmpipeppaa
