/-
  Walks: impl.write from the making of its group to the join.
-/
import Derived.Test.YtddnapbdhjifiaaWrW
set_option linter.unusedSimpArgs false
set_option linter.unusedVariables false
set_option linter.unusedSectionVars false
namespace Go.Proofs.Ytddnapbdhjifiaa
open Go.Conc Go.ConcN Go.RowKit Go.Conc.Lib Go.ConcR.Gen Go.ConcN.Gen Go.Proofs.Ytddnapbdhjifiaa.Rg
open Go.ConcR (KK wgBlock WgAt stA smA rd wr mk Payload Aside2 DC0 Bk)
variable [Kept]

noncomputable def bodyS : Code := Try.f37.body.getD .skip
noncomputable def LS : Code := match bodyS with | .seq _ (.seq _ (.seq _ (.seq (.seq _ (.block _ (.loop c))) _))) => c | _ => .skip
noncomputable def RS : Code := match bodyS with | .seq _ (.seq _ (.seq _ (.seq _ r))) => r | _ => .skip
noncomputable def opsS : Array Oper := match RS with | .seq (.region _ ops _) _ => ops | _ => #[]
noncomputable def tailS : Code := match RS with | .seq _ r => r | _ => .skip
noncomputable def opsG : Array Oper := match bodyS with | .seq _ (.seq _ (.seq (.region _ ops _) _)) => ops | _ => #[]
noncomputable def restG : Code := match bodyS with | .seq _ (.seq _ (.seq _ r)) => r | _ => .skip
theorem array24 (T : Array Value) (h : T.size = 24) : ∃ v0 v1 v2 v3 v4 v5 v6 v7 v8 v9 v10 v11 v12 v13 v14 v15 v16 v17 v18 v19 v20 v21 v22 v23 : Value, T = #[v0, v1, v2, v3, v4, v5, v6, v7, v8, v9, v10, v11, v12, v13, v14, v15, v16, v17, v18, v19, v20, v21, v22, v23] := by
  obtain ⟨l⟩ := T
  simp only [List.size_toArray] at h
  rcases l with _ | ⟨v0, l⟩
  · simp at h
  rcases l with _ | ⟨v1, l⟩
  · simp at h
  rcases l with _ | ⟨v2, l⟩
  · simp at h
  rcases l with _ | ⟨v3, l⟩
  · simp at h
  rcases l with _ | ⟨v4, l⟩
  · simp at h
  rcases l with _ | ⟨v5, l⟩
  · simp at h
  rcases l with _ | ⟨v6, l⟩
  · simp at h
  rcases l with _ | ⟨v7, l⟩
  · simp at h
  rcases l with _ | ⟨v8, l⟩
  · simp at h
  rcases l with _ | ⟨v9, l⟩
  · simp at h
  rcases l with _ | ⟨v10, l⟩
  · simp at h
  rcases l with _ | ⟨v11, l⟩
  · simp at h
  rcases l with _ | ⟨v12, l⟩
  · simp at h
  rcases l with _ | ⟨v13, l⟩
  · simp at h
  rcases l with _ | ⟨v14, l⟩
  · simp at h
  rcases l with _ | ⟨v15, l⟩
  · simp at h
  rcases l with _ | ⟨v16, l⟩
  · simp at h
  rcases l with _ | ⟨v17, l⟩
  · simp at h
  rcases l with _ | ⟨v18, l⟩
  · simp at h
  rcases l with _ | ⟨v19, l⟩
  · simp at h
  rcases l with _ | ⟨v20, l⟩
  · simp at h
  rcases l with _ | ⟨v21, l⟩
  · simp at h
  rcases l with _ | ⟨v22, l⟩
  · simp at h
  rcases l with _ | ⟨v23, l⟩
  · simp at h
  rcases l with _ | ⟨x, l⟩
  · exact ⟨v0, v1, v2, v3, v4, v5, v6, v7, v8, v9, v10, v11, v12, v13, v14, v15, v16, v17, v18, v19, v20, v21, v22, v23, rfl⟩
  · simp at h

/-- WHAT THE STARTER KNOWS. -/
structure FStart (Y : Lay) (H X C len cap tb tc : Nat) (x : Tr) (ks : Nat → Nat) (w : World) : Prop where
  ok : Y.Ok
  ty : Y.ty = wlink.tWg
  eC : Y.C = C
  roH : Ro Y H
  roX : Ro Y X
  roA : Ro Y tb
  eQ : Y.Cq = tb
  rg : ∀ m, Y.rg m = ks m * 3
  lt : ∀ m, m < Y.n → ks m < len
  hdr : w.cell? ⟨H, 0, none⟩ = some (.slice (some ⟨C, 0, none⟩) len cap)
  x0 : w.cell? ⟨X, 0, none⟩ = some (.int .i64 x.a)
  x1 : w.cell? ⟨X, 1, none⟩ = some (.int .i64 x.b)
  x2 : w.cell? ⟨X, 2, none⟩ = some (.int .i64 x.c)
  to : ∀ m, m < Y.n → w.cell? ⟨tb, tc + m, none⟩ = some (.int .i64 (ks m))
  cq : ∀ m, m < Y.n → Has Y.Cq m (Y.vq m) w
  size : Y.Low ≤ w.heap.size
section
variable {Y : Lay} {H X C len cap tb tc : Nat} {x : Tr} {ks : Nat → Nat} {w w₁ : World}
theorem FStart.low (h : FStart Y H X C len cap tb tc x ks w) (hr : ∀ b, Ro Y b → w₁.heap[b]? = w.heap[b]?) (hs : w.heap.size ≤ w₁.heap.size) : FStart Y H X C len cap tb tc x ks w₁ := by
  have cr : ∀ b, Ro Y b → ∀ o, w₁.cell? ⟨b, o, none⟩ = w.cell? ⟨b, o, none⟩ := fun b hb o => cell_of_block' (hr b hb) o
  exact ⟨h.ok, h.ty, h.eC, h.roH, h.roX, h.roA, h.eQ, h.rg, h.lt, (cr _ h.roH 0).trans h.hdr, (cr _ h.roX 0).trans h.x0, (cr _ h.roX 1).trans h.x1, (cr _ h.roX 2).trans h.x2, fun m hm => (cr _ h.roA _).trans (h.to m hm), fun m hm => (cr _ (h.eQ ▸ h.roA) m).trans (h.cq m hm), Nat.le_trans h.size hs⟩
theorem fs2 (h : FStart Y H X C len cap tb tc x ks w) (S : List Nat) : Y.ty = wlink.tWg ∧ ∀ w w', RX Y none S w w' → FStart Y H X C len cap tb tc x ks w → FStart Y H X C len cap tb tc x ks w' :=
  ⟨h.ty, fun w w' r h => h.low (fun b hb => r.low b hb.1 hb.2.1 hb.2.2.1) r.size⟩
/-- .. with the index's box. -/
def FB (Y : Lay) (H X C len cap tb tc : Nat) (x : Tr) (ks : Nat → Nat) (B : Nat) (u : Value) (w : World) : Prop := FStart Y H X C len cap tb tc x ks w ∧ w.heap[B]? = some (.cells #[u] 3) ∧ Y.Low ≤ B ∧ B < w.heap.size
theorem fb2 (h : FStart Y H X C len cap tb tc x ks w) {B : Nat} {u : Value} : Y.ty = wlink.tWg ∧ ∀ w w', RX Y none [B] w w' → FB Y H X C len cap tb tc x ks B u w → FB Y H X C len cap tb tc x ks B u w' :=
  ⟨h.ty, fun w w' r h => ⟨(fs2 h.1 [B]).2 _ _ r h.1, (r.own B (by simp)).trans h.2.1, h.2.2.1, Nat.lt_of_lt_of_le h.2.2.2 r.size⟩⟩
theorem FB.alloc (h : FStart Y H X C len cap tb tc x ks w) (u : Value) : FB Y H X C len cap tb tc x ks w.heap.size u (w.alloc (.cells #[u] 3)) :=
  ⟨h.low (fun b hb => Below.heap_alloc _ _ _ (Nat.lt_of_lt_of_le hb.1 h.size)) (by simp), heap_alloc_new w _, h.size, by simp⟩
theorem FB.cell {B : Nat} {u : Value} (h : FB Y H X C len cap tb tc x ks B u w) : w.cell? ⟨B, 0, none⟩ = some u := by unfold World.cell?; rw [h.2.1]; rfl
theorem FB.thaw {B : Nat} {u : Value} (h : FB Y H X C len cap tb tc x ks B u w) : w.frozen? ⟨B, 0, none⟩ = false := by unfold World.frozen?; rw [h.2.1]; rfl
theorem FB.set {B : Nat} {u : Value} (h : FB Y H X C len cap tb tc x ks B u w) (u' : Value) : FB Y H X C len cap tb tc x ks B u' (w.setCell ⟨B, 0, none⟩ u') := by
  have ha := aside_setCell w ⟨B, 0, none⟩ u'
  refine ⟨h.1.low (fun b hb => ha.block b (by have := hb.1; have := h.2.2.1; show b ≠ B; omega)) (by rw [ha.size]; exact Nat.le_refl _), ?_, h.2.2.1, by rw [ha.size]; exact h.2.2.2⟩
  rw [set1_heap h.2.1]
  rfl
theorem FB.dx {B : Nat} {u : Value} (h : FB Y H X C len cap tb tc x ks B u w) (u' : Value) {es : Array Event} (he : ∀ e ∈ es, EvX Y none [B] e) : DX Y none [B] w (w.setCell ⟨B, 0, none⟩ u') es := by
  have ha := aside_setCell w ⟨B, 0, none⟩ u'
  have hC : Y.C < Y.Low := h.1.ok.hC
  have hB := h.2.2.1
  have hne : Y.C ≠ B := by omega
  refine ⟨ha.size, ha.os, ha.output, fun b hb _ => ha.block b (by simpa using hb), fun o _ => cell_of_block' (ha.block Y.C hne) o, fun ⟨cs, h1, h2⟩ => ⟨cs, (ha.block Y.C hne).trans h1, h2⟩, fun b hb _ => ?_, he⟩
  obtain rfl : b = B := by simpa using hb
  exact ⟨_, _, set1_heap h.2.1 u', by simp⟩
theorem wlive_set {B : Nat} {u : Value} {ty : TypeId} (h : WgLive ty Y.Wg w) (hB : Y.Wg ≠ B) : WgLive ty Y.Wg (w.setCell ⟨B, 0, none⟩ u) := by
  obtain ⟨st, sm, hl⟩ := h
  exact ⟨st, sm, hl.of_block ((aside_setCell w ⟨B, 0, none⟩ u).block Y.Wg hB)⟩
theorem wlive_new {ty : TypeId} (h : WgLive ty Y.Wg w) (o : Obj) : WgLive ty Y.Wg (w.alloc o) := by
  obtain ⟨st, sm, hl⟩ := h
  exact ⟨st, sm, hl.of_block (Below.heap_alloc _ _ _ (Array.getElem?_eq_some_iff.1 hl).1)⟩
end

section
variable (Y : Lay) (H X C len cap tb tc cc : Nat) (x : Tr) (ks : Nat → Nat) (cs : List Frame) (p : Option Addr)
noncomputable def cW (T : Array Value) : Frame := (base 37).at ⟨T, []⟩ (.inRegion opsS (0 :: []) :: [.code tailS])
/-- THE ANCHOR AT THE HEAD OF Wait's LOOP. -/
def AnW (g : Goroutine) (w : World) : Prop := ∃ T : Array Value, T.size = 24 ∧ T[7]? = some (pt H) ∧ AnchX wlink (FStart Y H X C len cap tb tc x ks) Y.Wg (cW T) cs g w
/-- WHERE THE JOIN IS SEEN. -/
def FinW (g : Goroutine) (w : World) : Prop := ∃ T : Array Value, T.size = 24 ∧ T[7]? = some (pt H) ∧ ∃ fr, g = G fr (cW T :: cs) ∧ ∀ cs' v Q, GT Try.prog ((base 37).at ((⟨T, []⟩ : Act).put ((opsS[0]?).bind (·.dst)) (.tuple #[])) (.inRegion opsS [] :: [.code tailS])) cs' v Q → GT Try.prog fr (cW T :: cs') v Q
def StopS : Nat → Goroutine → World → Prop
  | 0 => SKd Try.prog Y (AnW Y H X C len cap tb tc x ks cs)
  | r + 1 => SAl Try.prog Y (Y.n - (r + 1)) (SSp Try.prog Y (SLast Try.prog Y (AnW Y H X C len cap tb tc x ks cs)) r)
theorem ssp_iff (r : Nat) (g : Goroutine) (w : World) : SSp Try.prog Y (SLast Try.prog Y (AnW Y H X C len cap tb tc x ks cs)) r g w ↔ ∃ q, G0 Try.prog Y [] (StopS Y H X C len cap tb tc x ks cs r) q g w := by cases r <;> exact Iff.rfl
/-- THE ANCHOR AT THE HEAD OF THE LOOP: j workers are started. -/
def AnchS (j : Nat) (g : Goroutine) : Prop :=
  ∃ T : Array Value, g = G ((base 37).at ⟨T, []⟩ [.code LS, .inLoop LS, .inBlock 0, .code RS]) cs ∧ T.size = 24 ∧ T[5]? = some (pt X) ∧ T[7]? = some (pt H) ∧ T[8]? = some (pt Y.Wg) ∧
    T[13]? = some (.slice p Y.n cc) ∧ T[14]? = some (.int .i64 Y.n) ∧ T[15]? = some (.int .i64 j)
end

section
variable {Y : Lay} {H X C len cap tb tc cc : Nat} {x : Tr} {ks : Nat → Nat} {cs : List Frame} {p : Option Addr}
/-- FROM THE HEAD OF Wait's LOOP. -/
theorem anW_round (g : Goroutine) (w : World) (h : AnW Y H X C len cap tb tc x ks cs g w) : ∃ q, G0 Try.prog Y [] (SW1 Try.prog Y (AnW Y H X C len cap tb tc x ks cs) (FinW H cs)) q g w := by
  obtain ⟨T, hT, t7, hA⟩ := h
  have hFS : FStart Y H X C len cap tb tc x ks w := by obtain ⟨_, _, _, _, h, _⟩ := hA; exact h
  obtain ⟨q, hq⟩ := waitRoundX (L := wlink) (P := Try.prog) (b₀ := base 37) (a₀ := ⟨T, []⟩) (ops₀ := opsS) (i₀ := 0) (rest₀ := []) (k₀ := [.code tailS]) (cs := cs) wgLib hFS.ok (fs2 hFS []) g w hA
  exact ⟨q, goes_mono (fun _ _ y => SW1.mono (fun _ _ z => ⟨T, hT, t7, z⟩) (fun _ _ ⟨fr, e, z⟩ => ⟨T, hT, t7, fr, e, z⟩) y) hq⟩

set_option maxRecDepth 100000 in
set_option maxHeartbeats 1000000 in
/-- THE LOOP THAT STARTS THE WORKERS: j started, r to start. -/
theorem spawnsFrom {ys : Nat → Tr} (hp : 0 < Y.n → p = some ⟨tb, tc, none⟩) (hn : Y.n < 1000000) (hlen : len < 1000000)
    (hy : ∀ m, m < Y.n → ∀ i, i < 3 → Y.W0.cell? ⟨C, ks m * 3 + i, none⟩ = some ((ys m).cell i)) (hfin : ∀ m, m < Y.n → ∀ i, i < 3 → Y.fin m i = (rPut x (ys m)).cell i) (hroom : ∀ m, m < Y.n → ks m * 3 + 3 ≤ Y.nC) : ∀ (r j : Nat), j + r = Y.n →
    ∃ f, ∀ (g : Goroutine) (w : World), AnchS Y H X cc cs p j g → FStart Y H X C len cap tb tc x ks w ∧ WgLive wlink.tWg Y.Wg w → G0 Try.prog Y [] (StopS Y H X C len cap tb tc x ks cs r) f g w := by
  intro r
  induction r with
  | zero =>
    intro j hj
    obtain rfl : j = Y.n := by omega
    refine ⟨12 + 3, ?_⟩
    rintro g w ⟨T, rfl, hT, t5, t7, t8, t13, t14, t15⟩ hF
    obtain ⟨v0, v1, v2, v3, v4, v5, v6, v7, v8, v9, v10, v11, v12, v13, v14, v15, v16, v17, v18, v19, v20, v21, v22, v23, rfl⟩ := array24 T hT
    simp only [List.getElem?_toArray, List.getElem?_cons_succ, List.getElem?_cons_zero, Option.some.injEq, pt] at t5 t7 t8 t13 t14 t15
    subst t5 t7 t8 t13 t14 t15
    have hF2 := fs2 hF.1
    have hA := fun (a₀ : Act) (ops₀ : Array Oper) (i₀ : Nat) (rest₀ : List Nat) (k₀ : List Item) => waitStartX (L := wlink) (P := Try.prog) (Y := Y) (F := FStart Y H X C len cap tb tc x ks) (b₀ := base 37) (a₀ := a₀) (ops₀ := ops₀) (i₀ := i₀) (rest₀ := rest₀) (k₀ := k₀) (cs := cs) wgLib (hF2 [])
    simp only [StopS, LS, RS, bodyS, body_wait, Try.f37, waitFn, Option.getD_some] at hA ⊢
    have hnl : ¬ ((Y.n : Int) < (Y.n : Int)) := by omega
    refine Conc.Goes.step rfl (fun _ h₁ => ?_)
    replace hF := fx_rely (hF2 _) hF h₁
    clear h₁
    rw [stepG_seq]
    simp only [goes_go]
    refine ⟨.refl (by simp) _, ?_⟩
    refine Conc.Goes.step rfl (fun _ h₁ => ?_)
    replace hF := fx_rely (hF2 _) hF h₁
    clear h₁
    rw [stepG_region]
    simp only [goes_go, List.size_toArray, List.length_cons, List.length_nil, Nat.reduceAdd, Nat.zero_add, List.range, List.range.loop]
    refine ⟨.refl (by simp) _, ?_⟩
    refine Conc.Goes.step rfl (fun _ h₁ => ?_)
    replace hF := fx_rely (hF2 _) hF h₁
    clear h₁
    refine goes_oper_k rfl rfl (by k_ne) (fun K hK => ?_)
    go_simp
    refine hK _ _ ⟨.refl (fun e he => ?_) _, ?_⟩
    · have hm := mem_listed he
      simp [go_sem, *] at hm
    clear hK K
    try w_num
    refine Conc.Goes.step rfl (fun _ h₁ => ?_)
    replace hF := fx_rely (hF2 _) hF h₁
    clear h₁
    rw [stepG_region_end]
    simp only [goes_go]
    refine ⟨.refl (by simp) _, ?_⟩
    refine Conc.Goes.step rfl (fun _ h₁ => ?_)
    replace hF := fx_rely (hF2 _) hF h₁
    clear h₁
    rw [stepG_seq]
    simp only [goes_go]
    refine ⟨.refl (by simp) _, ?_⟩
    refine Conc.Goes.step rfl (fun _ h₁ => ?_)
    replace hF := fx_rely (hF2 _) hF h₁
    clear h₁
    rw [stepG_cond (t := false) rfl]
    simp only [goes_go, if_true, if_false, Bool.false_eq_true, ↓reduceIte]
    refine ⟨.refl (by simp) _, ?_⟩
    refine Conc.Goes.step rfl (fun _ h₁ => ?_)
    replace hF := fx_rely (hF2 _) hF h₁
    clear h₁
    refine goes_exit rfl ?_
    refine ⟨.refl (by simp) _, ?_⟩
    refine Conc.Goes.step rfl (fun _ h₁ => ?_)
    replace hF := fx_rely (hF2 _) hF h₁
    clear h₁
    rw [stepG_seq]
    simp only [goes_go]
    refine ⟨.refl (by simp) _, ?_⟩
    refine Conc.Goes.step rfl (fun _ h₁ => ?_)
    replace hF := fx_rely (hF2 _) hF h₁
    clear h₁
    rw [stepG_region]
    simp only [goes_go, List.size_toArray, List.length_cons, List.length_nil, Nat.reduceAdd, Nat.zero_add, List.range, List.range.loop]
    refine ⟨.refl (by simp) _, ?_⟩
    refine Conc.Goes.step rfl (fun _ h₁ => ?_)
    replace hF := fx_rely (hF2 _) hF h₁
    clear h₁
    refine goes_call rfl rfl (by k_ne) rfl Try.func54 (nm_wait wlink) rfl ⟨.refl (by simp) _, ?_⟩
    walk_nrmf Try.f54
    refine Conc.Goes.mono (goes_mono (fun _ _ y => SKd.mono (fun _ _ z => ⟨_, ?_, ?_, z⟩) y) (goes_dmono dc0_dx (hA _ _ _ _ _ _ hF))) (by decide)
    · simp
    · simp [pt]
  | succ r ih =>
    intro j hj
    obtain ⟨f₁, h₁⟩ := ih (j + 1) (by omega)
    refine ⟨20, ?_⟩
    rintro g w ⟨T, rfl, hT, t5, t7, t8, t13, t14, t15⟩ hF
    obtain ⟨v0, v1, v2, v3, v4, v5, v6, v7, v8, v9, v10, v11, v12, v13, v14, v15, v16, v17, v18, v19, v20, v21, v22, v23, rfl⟩ := array24 T hT
    simp only [List.getElem?_toArray, List.getElem?_cons_succ, List.getElem?_cons_zero, Option.some.injEq, pt] at t5 t7 t8 t13 t14 t15
    subst t5 t7 t8 t13 t14 t15
    obtain rfl := hp (by omega)
    have ej : Y.n - (r + 1) = j := by omega
    have hjn : j < Y.n := by omega
    have hlt : (j : Int) < (Y.n : Int) := by omega
    have hj0 : (0 : Int) ≤ (j : Int) := by omega
    have hF2 := fs2 hF.1
    have hFB := fun B u => fb2 (B := B) (u := u) hF.1
    have hA := fun (B : Nat) (hB : Y.Low ≤ B) (b₀ : Frame) (a₀ : Act) (ops₀ : Array Oper) (i₀ : Nat) (rest₀ : List Nat) (k₀ : List Item) (mT : Nat) => addPosX (L := wlink) (P := Try.prog) (Y := Y) (F := FB Y H X C len cap tb tc x ks B (.int .i64 (ks j))) (Next := SSp Try.prog Y (SLast Try.prog Y (AnW Y H X C len cap tb tc x ks cs)) r) (j := j) (b := B) (b₀ := b₀) (a₀ := a₀) (ops₀ := ops₀) (i₀ := i₀) (rest₀ := rest₀) (k₀ := k₀) (cs := cs) (mT := mT) wgLib hF.1.ok hB (hFB B _)
    simp only [StopS, ej, LS, RS, bodyS, body_add, Try.f37, addFn, Option.getD_some] at hA ⊢
    refine Conc.Goes.step rfl (fun _ h₁ => ?_)
    replace hF := fx_rely (hF2 _) hF h₁
    clear h₁
    rw [stepG_seq]
    simp only [goes_go]
    refine ⟨.refl (by simp) _, ?_⟩
    refine Conc.Goes.step rfl (fun _ h₁ => ?_)
    replace hF := fx_rely (hF2 _) hF h₁
    clear h₁
    rw [stepG_region]
    simp only [goes_go, List.size_toArray, List.length_cons, List.length_nil, Nat.reduceAdd, Nat.zero_add, List.range, List.range.loop]
    refine ⟨.refl (by simp) _, ?_⟩
    refine Conc.Goes.step rfl (fun _ h₁ => ?_)
    replace hF := fx_rely (hF2 _) hF h₁
    clear h₁
    refine goes_oper_k rfl rfl (by k_ne) (fun K hK => ?_)
    go_simp
    refine hK _ _ ⟨.refl (fun e he => ?_) _, ?_⟩
    · have hm := mem_listed he
      simp [go_sem, *] at hm
    clear hK K
    try w_num
    refine Conc.Goes.step rfl (fun _ h₁ => ?_)
    replace hF := fx_rely (hF2 _) hF h₁
    clear h₁
    rw [stepG_region_end]
    simp only [goes_go]
    refine ⟨.refl (by simp) _, ?_⟩
    refine Conc.Goes.step rfl (fun _ h₁ => ?_)
    replace hF := fx_rely (hF2 _) hF h₁
    clear h₁
    rw [stepG_seq]
    simp only [goes_go]
    refine ⟨.refl (by simp) _, ?_⟩
    refine Conc.Goes.step rfl (fun _ h₁ => ?_)
    replace hF := fx_rely (hF2 _) hF h₁
    clear h₁
    rw [stepG_cond (t := true) rfl]
    simp only [goes_go, if_true, if_false, Bool.false_eq_true, ↓reduceIte]
    refine ⟨.refl (by simp) _, ?_⟩
    refine Conc.Goes.step rfl (fun _ h₁ => ?_)
    replace hF := fx_rely (hF2 _) hF h₁
    clear h₁
    rw [stepG_skip]
    simp only [goes_go]
    refine ⟨.refl (by simp) _, ?_⟩
    refine Conc.Goes.step rfl (fun _ h₁ => ?_)
    replace hF := fx_rely (hF2 _) hF h₁
    clear h₁
    rw [stepG_seq]
    simp only [goes_go]
    refine ⟨.refl (by simp) _, ?_⟩
    refine Conc.Goes.step rfl (fun _ h₁ => ?_)
    replace hF := fx_rely (hF2 _) hF h₁
    clear h₁
    rw [stepG_block]
    simp only [goes_go]
    refine ⟨.refl (by simp) _, ?_⟩
    refine Conc.Goes.step rfl (fun _ h₁ => ?_)
    replace hF := fx_rely (hF2 _) hF h₁
    clear h₁
    rw [stepG_seq]
    simp only [goes_go]
    refine ⟨.refl (by simp) _, ?_⟩
    refine Conc.Goes.step rfl (fun _ h₁ => ?_)
    replace hF := fx_rely (hF2 _) hF h₁
    clear h₁
    rw [stepG_region]
    simp only [goes_go, List.size_toArray, List.length_cons, List.length_nil, Nat.reduceAdd, Nat.zero_add, List.range, List.range.loop]
    refine ⟨.refl (by simp) _, ?_⟩
    refine Conc.Goes.step rfl (fun _ h₁ => ?_)
    replace hF := fx_rely (hF2 _) hF h₁
    clear h₁
    refine goes_oper_k rfl rfl (by k_ne) (fun K hK => ?_)
    go_simp
    refine hK _ _ ⟨.refl (fun e he => ?_) _, ?_⟩
    · have hm := mem_listed he
      simp [go_sem, *] at hm
    clear hK K
    try w_num
    refine Conc.Goes.step rfl (fun _ h₁ => ?_)
    replace hF := fx_rely (hF2 _) hF h₁
    clear h₁
    refine goes_oper_k rfl rfl (by k_ne) (fun K hK => ?_)
    have q0 := hF.1.to _ hjn
    go_simp
    refine hK _ _ ⟨.refl (fun e he => ?_) _, ?_⟩
    · have hm := mem_listed he
      simp [go_sem, *] at hm
      subst hm
      exact evx_ro hF.1.roA
    clear hK K q0
    -- the index's box is made
    refine Conc.Goes.stop (fun w₁ r₁ => ?_)
    replace hF := fx_rely (hF2 _) hF r₁
    clear r₁
    refine sal_of_goes rfl ?_
    refine goes_oper_k rfl rfl (by k_ne) (fun K hK => ?_)
    go_simp
    refine hK _ _ ⟨Array.eq_empty_iff_forall_not_mem.2 fun e he => ?_, _, _, ?_, rfl, 6 + 12, ?_⟩
    · have hm := mem_listed he
      simp [go_sem, *] at hm
    · simp
    clear hK K
    replace hF := And.intro (FB.alloc hF.1 (.int .i64 0)) (wlive_new hF.2 (.cells #[.int .i64 0] 3))
    obtain ⟨B, hB⟩ : ∃ N, w₁.heap.size = N := ⟨_, rfl⟩
    rw [hB] at hF ⊢
    -- .. and written
    refine Conc.Goes.step rfl (fun _ r₁ => ?_)
    replace hF := fx_rely (hFB _ _) hF r₁
    clear r₁
    have hWB : Y.Wg ≠ B := by have := hF.1.1.ok.hW; have := hF.1.2.2.1; omega
    refine goes_oper_k rfl rfl (by k_ne) (fun K hK => ?_)
    have q0 := hF.1.cell
    have q1 := hF.1.thaw
    go_simp
    refine hK _ _ ⟨hF.1.dx _ fun e he => ?_, ?_⟩
    · have hm := mem_listed he
      simp [go_sem, storedEv, *] at hm
      subst hm
      exact evx_own (by simp)
    clear hK K q0 q1
    replace hF := And.intro (hF.1.set (.int .i64 (ks j))) (wlive_set (B := B) (u := .int .i64 (ks j)) hF.2 hWB)
    refine Conc.Goes.step rfl (fun _ h₁ => ?_)
    replace hF := fx_rely (hFB _ _) hF h₁
    clear h₁
    rw [stepG_region_end]
    simp only [goes_go]
    refine ⟨.refl (by simp) _, ?_⟩
    refine Conc.Goes.step rfl (fun _ h₁ => ?_)
    replace hF := fx_rely (hFB _ _) hF h₁
    clear h₁
    rw [stepG_seq]
    simp only [goes_go]
    refine ⟨.refl (by simp) _, ?_⟩
    refine Conc.Goes.step rfl (fun _ h₁ => ?_)
    replace hF := fx_rely (hFB _ _) hF h₁
    clear h₁
    rw [stepG_region]
    simp only [goes_go, List.size_toArray, List.length_cons, List.length_nil, Nat.reduceAdd, Nat.zero_add, List.range, List.range.loop]
    refine ⟨.refl (by simp) _, ?_⟩
    -- wg.Add(1), in company
    refine Conc.Goes.step rfl (fun _ r₁ => ?_)
    replace hF := fx_rely (hFB _ _) hF r₁
    clear r₁
    refine goes_call rfl rfl (by k_ne) rfl Try.func51 (nm_add wlink) rfl ⟨.refl (by simp) _, ?_⟩
    walk_nrmf Try.f51
    refine Conc.Goes.mono (goes_dmono dc0_dx (hA _ hF.1.2.2.1 _ _ _ _ _ _ 3 ?_ _ hF)) (by decide)
    clear hA hF
    intro w' hF
    walk_nrm
    u_c stepG_region_end (fx_rely (hFB _ _)) hF
    u_reg (fx_rely (hFB _ _)) hF
    u_op (fx_rely (hFB _ _)) hF
    -- THE go STATEMENT
    refine Conc.Goes.stop (fun w₂ r₂ => ?_)
    replace hF := fx_rely (hFB _ _) hF r₂
    clear r₂
    refine ⟨rfl, ?_⟩
    rw [stepG_spawn (d := callW Y.Wg H B X) (w' := w₂) (f := .func 52) (c := #[pt Y.Wg, pt H, pt B, pt X]) rfl rfl (by k_ne) (by simp [go_sem, callW, Deferred.ofValue, pt]) rfl]
    generalize hL : listed _ _ _ _ _ = Lx
    have hLx : Lx = #[] := by
      rw [← hL]
      simp [listed, go_sem, seen, Deferred.ofValue]
      rfl
    subst hLx
    clear hL
    refine ⟨_, _, rfl, rfl, fun hun hpay => ?_, ?_⟩
    · have c3 : ∀ i, i < 3 → w₂.cell? ⟨C, ks j * 3 + i, none⟩ = some ((ys j).cell i) := fun i hi => by
        have := hun i hi
        rw [hF.1.1.eC, hF.1.1.rg] at this
        exact this.trans (hy j hjn i hi)
      have hf := hF.1.1
      exact worksW (len := len) (cap := cap) (C := C) (k := ks j) (x := x) (y := ys j) ⟨⟨hf.ok, hf.ty, hf.eC, hf.roH, hf.roX, hf.rg j, hf.lt j hjn⟩, by simp, hF.1.2.2.1, hf.hdr, hF.1.cell, hf.x0, hf.x1, hf.x2, c3 0 (by omega), c3 1 (by omega), c3 2 (by omega), hF.2, hpay, hf.cq j hjn, hf.size, fun b hb => by
        obtain rfl : b = B := by simpa using hb
        exact hF.1.2.2.2⟩ (hfin j hjn) (by omega) (hroom j hjn)
    -- ON TO THE LOOP's HEAD
    refine (ssp_iff Y H X C len cap tb tc x ks cs r _ _).2 ⟨f₁ + 7, ?_⟩
    replace hF := And.intro hF.1.1 hF.2
    have hwr : IntKind.i64.wrap ((j : Int) + 1) = ((j + 1 : Nat) : Int) := by rw [IntKind.wrap_i64]; omega
    walk_nrm
    refine Conc.Goes.step rfl (fun _ h₁ => ?_)
    replace hF := fx_rely (hF2 _) hF h₁
    clear h₁
    rw [stepG_region_end]
    simp only [goes_go]
    refine ⟨.refl (by simp) _, ?_⟩
    refine Conc.Goes.step rfl (fun _ h₁ => ?_)
    replace hF := fx_rely (hF2 _) hF h₁
    clear h₁
    rw [stepG_inBlock]
    simp only [goes_go]
    refine ⟨.refl (by simp) _, ?_⟩
    refine Conc.Goes.step rfl (fun _ h₁ => ?_)
    replace hF := fx_rely (hF2 _) hF h₁
    clear h₁
    rw [stepG_region]
    simp only [goes_go, List.size_toArray, List.length_cons, List.length_nil, Nat.reduceAdd, Nat.zero_add, List.range, List.range.loop]
    refine ⟨.refl (by simp) _, ?_⟩
    refine Conc.Goes.step rfl (fun _ h₁ => ?_)
    replace hF := fx_rely (hF2 _) hF h₁
    clear h₁
    refine goes_oper_k rfl rfl (by k_ne) (fun K hK => ?_)
    go_simp
    refine hK _ _ ⟨.refl (fun e he => ?_) _, ?_⟩
    · have hm := mem_listed he
      simp [go_sem, *] at hm
    clear hK K
    try w_num
    refine Conc.Goes.step rfl (fun _ h₁ => ?_)
    replace hF := fx_rely (hF2 _) hF h₁
    clear h₁
    refine goes_oper_k rfl rfl (by k_ne) (fun K hK => ?_)
    go_simp
    refine hK _ _ ⟨.refl (fun e he => ?_) _, ?_⟩
    · have hm := mem_listed he
      simp [go_sem, *] at hm
    clear hK K
    try w_num
    refine Conc.Goes.step rfl (fun _ h₁ => ?_)
    replace hF := fx_rely (hF2 _) hF h₁
    clear h₁
    rw [stepG_region_end]
    simp only [goes_go]
    refine ⟨.refl (by simp) _, ?_⟩
    refine Conc.Goes.step rfl (fun _ h₁ => ?_)
    replace hF := fx_rely (hF2 _) hF h₁
    clear h₁
    rw [stepG_inLoop]
    simp only [goes_go]
    refine ⟨.refl (by simp) _, ?_⟩
    exact h₁ _ _ ⟨_, rfl, by simp, by simp [pt], by simp [pt], by simp [pt], by simp, by simp, by simp⟩ hF
end
end Go.Proofs.Ytddnapbdhjifiaa
