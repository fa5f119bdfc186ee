/-
  Walks: a worker of impl.write, beside others that make blocks.
-/
import Derived.Test.YtkefnmmpipeppaaRg9
import Derived.Test.YtkefnmmpipeppaaWgl
import Derived.Test.YtkefnmmpipeppaaRp
set_option linter.unusedSimpArgs false
set_option linter.unusedVariables false
set_option linter.unusedSectionVars false
namespace Go.Proofs.Ytkefnmmpipeppaa
open Go.Conc Go.ConcN Go.RowKit Go.Conc.Lib Go.ConcR.Gen Go.ConcN.Gen Go.Proofs.Ytkefnmmpipeppaa.Rg
open Go.ConcR (KK wgBlock WgAt stA smA rd wr mk Payload Aside2 DC0 Bk)
variable [Kept]

instance : Payload := ⟨3⟩
def bW : Frame := baseD 57
noncomputable def botW : Frame := { (default : Frame) with fn := Try.prog.funcs.size, defers := [], mode := .panicking [goexitEntry] }
noncomputable def bodyW : Code := Try.f57.body.getD .skip
def pt (b : Nat) : Value := .pointer (some ⟨b, 0, none⟩)
/-- The call that a go statement of impl.write's holds: the group, the result's box, the index's box, the replica's box. -/
def callW (Wg H B X : Nat) : Deferred := { target := .fn (.func 57) #[pt Wg, pt H, pt B, pt X], args := #[] }

/-- Where worker m's places lie. -/
structure WSt (Y : Lay) (m H X C k len : Nat) : Prop where
  ok : Y.Ok
  ty : Y.ty = wlink.tWg
  eC : Y.C = C
  roH : Ro Y H
  roX : Ro Y X
  rg : Y.rg m = k * 3
  lt : k < len
theorem WSt.mine0 {Y : Lay} {m H X C k len : Nat} (h : WSt Y m H X C k len) : MineA Y (some m) ⟨C, k * 3, none⟩ := ⟨m, rfl, h.eC.symm, by rw [h.rg]; exact Nat.le_refl _, by rw [h.rg]; show k * 3 < k * 3 + 3; omega⟩
theorem WSt.mine1 {Y : Lay} {m H X C k len : Nat} (h : WSt Y m H X C k len) : MineA Y (some m) ⟨C, k * 3 + 1, none⟩ := ⟨m, rfl, h.eC.symm, by rw [h.rg]; show k * 3 ≤ k * 3 + 1; omega, by rw [h.rg]; show k * 3 + 1 < k * 3 + 3; omega⟩
theorem WSt.mine2 {Y : Lay} {m H X C k len : Nat} (h : WSt Y m H X C k len) : MineA Y (some m) ⟨C, k * 3 + 2, none⟩ := ⟨m, rfl, h.eC.symm, by rw [h.rg]; show k * 3 ≤ k * 3 + 2; omega, by rw [h.rg]; show k * 3 + 2 < k * 3 + 3; omega⟩
/-- WHAT WORKER m KNOWS: the result's header, its index, the replica x, its own place, which holds y. -/
structure WKn (Y : Lay) (S : List Nat) (m H B X C k len cap : Nat) (x y : Tr) (w : World) : Prop where
  st : WSt Y m H X C k len
  inB : B ∈ S
  lowB : Y.Low ≤ B
  hdr : w.cell? ⟨H, 0, none⟩ = some (.slice (some ⟨C, 0, none⟩) len cap)
  kb : w.cell? ⟨B, 0, none⟩ = some (.int .i64 k)
  x0 : w.cell? ⟨X, 0, none⟩ = some (.int .i64 x.a)
  x1 : w.cell? ⟨X, 1, none⟩ = some (.int .i64 x.b)
  x2 : w.cell? ⟨X, 2, none⟩ = some (.int .i64 x.c)
  y0 : w.cell? ⟨C, k * 3, none⟩ = some (.int .i64 y.a)
  y1 : w.cell? ⟨C, k * 3 + 1, none⟩ = some (.int .i64 y.b)
  y2 : w.cell? ⟨C, k * 3 + 2, none⟩ = some (.int .i64 y.c)
  live : WgLive wlink.tWg Y.Wg w
  pay : Pay Y w
  cq : Has Y.Cq m (Y.vq m) w
  size : Y.Low ≤ w.heap.size
  inS : ∀ b ∈ S, b < w.heap.size
theorem WKn.rely {Y : Lay} {S : List Nat} {m H B X C k len cap : Nat} {x y : Tr} {w w₁ : World} (h : WKn Y S m H B X C k len cap x y w) (r : RX Y (some m) S w w₁) : WKn Y S m H B X C k len cap x y w₁ := by
  have cb : ∀ o, w₁.cell? ⟨B, o, none⟩ = w.cell? ⟨B, o, none⟩ := fun o => cell_of_block' (r.own B h.inB) o
  have cr : ∀ b, Ro Y b → ∀ o, w₁.cell? ⟨b, o, none⟩ = w.cell? ⟨b, o, none⟩ := fun b hb o => cell_of_block' (r.low b hb.1 hb.2.1 hb.2.2.1) o
  have cm : ∀ o, MineA Y (some m) ⟨C, o, none⟩ → w₁.cell? ⟨C, o, none⟩ = w.cell? ⟨C, o, none⟩ := fun o ho => by
    have := r.cells o (by rw [h.st.eC]; exact ho)
    rwa [h.st.eC] at this
  exact ⟨h.st, h.inB, h.lowB, (cr _ h.st.roH 0).trans h.hdr, (cb 0).trans h.kb, (cr _ h.st.roX 0).trans h.x0, (cr _ h.st.roX 1).trans h.x1, (cr _ h.st.roX 2).trans h.x2, (cm _ h.st.mine0).trans h.y0, (cm _ h.st.mine1).trans h.y1, (cm _ h.st.mine2).trans h.y2,
    by have := r.live; rw [h.st.ty] at this; exact this h.live, r.pay h.pay, (cell_of_block' (r.low Y.Cq h.st.ok.hCq.1 h.st.ok.hCq.2.1 h.st.ok.hCq.2.2) m).trans h.cq, Nat.le_trans h.size r.size, fun b hb => Nat.lt_of_lt_of_le (h.inS b hb) r.size⟩
/-- Once more a block of its own. -/
theorem WKn.alloc {Y : Lay} {S : List Nat} {m H B X C k len cap : Nat} {x y : Tr} {w : World} (h : WKn Y S m H B X C k len cap x y w) (o : Obj) : WKn Y (w.heap.size :: S) m H B X C k len cap x y (w.alloc o) := by
  have := h.rely (RX.alloc (r := some m) (S := S) h.st.ok h.size h.inS o)
  exact ⟨this.st, List.mem_cons_of_mem _ this.inB, this.lowB, this.hdr, this.kb, this.x0, this.x1, this.x2, this.y0, this.y1, this.y2, this.live, this.pay, this.cq, this.size, fun b hb => by
    rcases List.mem_cons.1 hb with rfl | hb
    · simp
    · exact this.inS b hb⟩
/-- A box of its own that holds z. -/
structure Bx (S : List Nat) (b : Nat) (z : Tr) (w : World) : Prop where
  inS : b ∈ S
  c0 : w.cell? ⟨b, 0, none⟩ = some (.int .i64 z.a)
  c1 : w.cell? ⟨b, 1, none⟩ = some (.int .i64 z.b)
theorem Bx.rely {Y : Lay} {S : List Nat} {m b : Nat} {z : Tr} {w w₁ : World} (h : Bx S b z w) (r : RX Y (some m) S w w₁) : Bx S b z w₁ :=
  ⟨h.inS, (cell_of_block' (r.own b h.inS) 0).trans h.c0, (cell_of_block' (r.own b h.inS) 1).trans h.c1⟩
theorem Bx.new (S : List Nat) (z : Tr) (ty : TypeId) (w : World) : Bx (w.heap.size :: S) w.heap.size z (w.alloc (.cells #[.int .i64 z.a, .int .i64 z.b, .int .i64 z.c] ty)) := by
  have h := heap_alloc_new w (.cells #[.int .i64 z.a, .int .i64 z.b, .int .i64 z.c] ty)
  exact ⟨List.mem_cons_self, by unfold World.cell?; rw [h]; rfl, by unfold World.cell?; rw [h]; rfl⟩
theorem Bx.more {S : List Nat} {b : Nat} {z : Tr} {w : World} (h : Bx S b z w) (hb : b < w.heap.size) (o : Obj) : Bx (w.heap.size :: S) b z (w.alloc o) :=
  ⟨List.mem_cons_of_mem _ h.inS, (cell_of_block' (Below.heap_alloc _ _ _ hb) 0).trans h.c0, (cell_of_block' (Below.heap_alloc _ _ _ hb) 1).trans h.c1⟩
theorem wb1_rely {Y : Lay} {S : List Nat} {m H B X C k len cap b : Nat} {x y z : Tr} {w w₁ : World} (h : WKn Y S m H B X C k len cap x y w ∧ Bx S b z w) (r : RX Y (some m) S w w₁) : WKn Y S m H B X C k len cap x y w₁ ∧ Bx S b z w₁ := ⟨h.1.rely r, h.2.rely r⟩
theorem wb2_rely {Y : Lay} {S : List Nat} {m H B X C k len cap b b' : Nat} {x y z z' : Tr} {w w₁ : World} (h : WKn Y S m H B X C k len cap x y w ∧ Bx S b z w ∧ Bx S b' z' w) (r : RX Y (some m) S w w₁) : WKn Y S m H B X C k len cap x y w₁ ∧ Bx S b z w₁ ∧ Bx S b' z' w₁ := ⟨h.1.rely r, h.2.1.rely r, h.2.2.rely r⟩

theorem loudW : (Try.prog.funcs[bW.fn]?).any (·.norace) = false := by kernel_rfl
/-- The literal's own way out, once Done has left. -/
theorem quitsW (T : Array Value) : QuitsD Try.prog 2 0 (G { bW.at ⟨T, []⟩ [] with mode := .returning } [botW]) := by
  refine QuitsD.ctl (g' := G botW []) rfl (fun w => ?_) ?_
  · simp [G, stepG, unwind, doReturn, results, Frame.at, bW, baseD, botW, Try.func57, Try.f57, seen, GStep.after, goexitEntry]
  refine QuitsD.ctl (g' := { G botW [] with status := .finished }) rfl (fun w => ?_) ⟨rfl, rfl⟩
  simp [G, stepG, unwind, botW, goexitEntry, Frame.catches]
  rfl
theorem bornW (Wg H B X : Nat) (w : World) : stepG Try.prog false (born Try.prog (callW Wg H B X)) w =
    .go (G (bW.at ⟨#[pt Wg, pt H, pt B, pt X, undef, undef, undef, undef, undef, undef, undef, undef, undef, undef], []⟩ [.code bodyW]) [botW]) w #[] := by
  simp [born, callW, stepG, unwind, callDeferred, invoke, callFunc, Try.func57, Try.f57, seen, GStep.after, G, Frame.enter, Frame.at, bW, baseD, botW, bodyW]

noncomputable def opsW : Array Oper := match bodyW with | .seq _ (.seq (.region _ ops _) _) => ops | _ => #[]
noncomputable def restW : Code := match bodyW with | .seq _ (.seq _ r) => r | _ => .skip
/-- The three cells of the world behind a store. -/
def put3 (w : World) (C o : Nat) (x : Tr) : World := ((w.setCell ⟨C, o, none⟩ (.int .i64 x.a)).setCell ⟨C, o + 1, none⟩ (.int .i64 x.b)).setCell ⟨C, o + 2, none⟩ (.int .i64 x.c)
theorem set1_heap {w : World} {C o : Nat} {cs : Array Value} {t : TypeId} (h : w.heap[C]? = some (.cells cs t)) (v : Value) : (w.setCell ⟨C, o, none⟩ v).heap[C]? = some (.cells (cs.setIfInBounds o v) t) := by
  rw [setCell_eq_setRow w C o cs _ (0, 0) _ h, setRow_heap w C _ _ _ _ h]
theorem put3_heap {w : World} {C o : Nat} {cs : Array Value} {t : TypeId} (h : w.heap[C]? = some (.cells cs t)) (x : Tr) : (put3 w C o x).heap[C]? = some (.cells (((cs.setIfInBounds o (.int .i64 x.a)).setIfInBounds (o + 1) (.int .i64 x.b)).setIfInBounds (o + 2) (.int .i64 x.c)) t) :=
  set1_heap (set1_heap (set1_heap h _) _) _
theorem put3_aside (w : World) (C o : Nat) (x : Tr) : Aside C w (put3 w C o x) := ((aside_setCell w ⟨C, o, none⟩ _).trans (aside_setCell _ ⟨C, o + 1, none⟩ _)).trans (aside_setCell _ ⟨C, o + 2, none⟩ _)
theorem WKn.cs {Y : Lay} {S : List Nat} {m H B X C k len cap : Nat} {x y : Tr} {w : World} (h : WKn Y S m H B X C k len cap x y w) : ∃ cs, w.heap[C]? = some (.cells cs Y.ety) ∧ cs.size = Y.nC := by
  obtain ⟨cs, h1, h2⟩ := h.pay
  rw [h.st.eC] at h1
  exact ⟨cs, h1, h2⟩
theorem WKn.thaw {Y : Lay} {S : List Nat} {m H B X C k len cap : Nat} {x y : Tr} {w : World} (h : WKn Y S m H B X C k len cap x y w) (o : Nat) : w.frozen? ⟨C, o, none⟩ = false := by
  obtain ⟨cs, h1, -⟩ := h.cs
  unfold World.frozen?
  rw [h1]
  rfl
theorem cells_frozen {w : World} {C o o' : Nat} {v : Value} (h : w.frozen? ⟨C, o', none⟩ = false) (hc : ∃ cs t, w.heap[C]? = some (.cells cs t)) : (w.setCell ⟨C, o, none⟩ v).frozen? ⟨C, o', none⟩ = false := by
  obtain ⟨cs, t, hc⟩ := hc
  unfold World.frozen?
  rw [set1_heap hc]
  rfl
theorem WKn.dx {Y : Lay} {S : List Nat} {m H B X C k len cap : Nat} {x y : Tr} {w : World} (h : WKn Y S m H B X C k len cap x y w) {es : Array Event} (he : ∀ e ∈ es, EvX Y (some m) S e) : DX Y (some m) S w (put3 w C (k * 3) x) es := by
  have ha := put3_aside w C (k * 3) x
  obtain ⟨cs, h1, h2⟩ := h.cs
  refine ⟨ha.size, ha.os, ha.output, fun b _ hb => ha.block b (by rw [h.st.eC] at hb; exact hb), fun o ho => ?_, fun _ => ⟨_, by rw [h.st.eC]; exact put3_heap h1 x, by simpa using h2⟩, fun b hb hfc => ?_, he⟩
  · rw [h.st.eC] at ho ⊢
    have n0 : o ≠ k * 3 := fun e => ho (e ▸ h.st.mine0)
    have n1 : o ≠ k * 3 + 1 := fun e => ho (e ▸ h.st.mine1)
    have n2 : o ≠ k * 3 + 2 := fun e => ho (e ▸ h.st.mine2)
    unfold World.cell?
    rw [put3_heap h1 x, h1]
    simp only []
    rw [Array.getElem?_setIfInBounds_ne (Ne.symm n2), Array.getElem?_setIfInBounds_ne (Ne.symm n1), Array.getElem?_setIfInBounds_ne (Ne.symm n0)]
  · by_cases hbC : b = C
    · subst hbC
      exact ⟨_, _, put3_heap h1 x, by
        obtain ⟨c, t, e1, e2⟩ := hfc
        rw [h1] at e1
        cases e1
        simpa using e2⟩
    · obtain ⟨c, t, e1, e2⟩ := hfc
      exact ⟨c, t, (ha.block b hbC).trans e1, e2⟩
theorem WKn.put {Y : Lay} {S : List Nat} {m H B X C k len cap : Nat} {x y : Tr} {w : World} (h : WKn Y S m H B X C k len cap x y w) (hr : k * 3 + 3 ≤ Y.nC) : WKn Y S m H B X C k len cap x x (put3 w C (k * 3) x) := by
  have ha := put3_aside w C (k * 3) x
  have hC : C < Y.Low := h.st.eC ▸ h.st.ok.hC
  obtain ⟨cs, h1, h2⟩ := h.cs
  have cb : ∀ b, b ≠ C → ∀ o, (put3 w C (k * 3) x).cell? ⟨b, o, none⟩ = w.cell? ⟨b, o, none⟩ := fun b hb o => cell_of_block' (ha.block b hb) o
  have hB : B ≠ C := by have := h.lowB; omega
  have hH : H ≠ C := h.st.eC ▸ h.st.roH.2.1
  have hX : X ≠ C := h.st.eC ▸ h.st.roX.2.1
  have hW : Y.Wg ≠ C := h.st.eC ▸ Ne.symm h.st.ok.hCW
  have hQ : Y.Cq ≠ C := h.st.eC ▸ h.st.ok.hCq.2.1
  have cc : ∀ o v, (((cs.setIfInBounds (k * 3) (.int .i64 x.a)).setIfInBounds (k * 3 + 1) (.int .i64 x.b)).setIfInBounds (k * 3 + 2) (.int .i64 x.c))[o]? = some v → (put3 w C (k * 3) x).cell? ⟨C, o, none⟩ = some v := fun o v hv => by
    unfold World.cell?
    rw [put3_heap h1 x]
    exact hv
  refine ⟨h.st, h.inB, h.lowB, (cb _ hH 0).trans h.hdr, (cb _ hB 0).trans h.kb, (cb _ hX 0).trans h.x0, (cb _ hX 1).trans h.x1, (cb _ hX 2).trans h.x2, cc _ _ ?_, cc _ _ ?_, cc _ _ ?_, ?_, ⟨_, by rw [h.st.eC]; exact put3_heap h1 x, by simpa using h2⟩, (cb _ hQ m).trans h.cq, by rw [ha.size]; exact h.size, by rw [ha.size]; exact h.inS⟩
  · rw [Array.getElem?_setIfInBounds_ne (by omega), Array.getElem?_setIfInBounds_ne (by omega), Array.getElem?_setIfInBounds_self_of_lt (by omega)]
  · rw [Array.getElem?_setIfInBounds_ne (by omega), Array.getElem?_setIfInBounds_self_of_lt (by simp; omega)]
  · rw [Array.getElem?_setIfInBounds_self_of_lt (by simp; omega)]
  · obtain ⟨st, sm, hl⟩ := h.live
    exact ⟨st, sm, hl.of_block (ha.block Y.Wg hW)⟩
theorem WKn.hasF {Y : Lay} {S : List Nat} {m H B X C k len cap : Nat} {x y : Tr} {w : World} (h : WKn Y S m H B X C k len cap x y w) (hf : ∀ i, i < 3 → Y.fin m i = y.cell i) : HasF Y m w := by
  intro i hi
  rw [hf i hi, h.st.eC, h.st.rg]
  match i, hi with
  | 0, _ => exact h.y0
  | 1, _ => exact h.y1
  | 2, _ => exact h.y2
theorem WKn.done {Y : Lay} {S : List Nat} {m H B X C k len cap : Nat} {x y : Tr} {w : World} (h : WKn Y S m H B X C k len cap x y w) (hf : ∀ i, i < 3 → Y.fin m i = y.cell i) : Y.Ok ∧ Y.ty = wlink.tWg ∧ HasF Y m w ∧ WgLive wlink.tWg Y.Wg w ∧ Has Y.Cq m (Y.vq m) w := ⟨h.st.ok, h.st.ty, h.hasF hf, h.live, h.cq⟩
set_option maxRecDepth 100000 in
set_option maxHeartbeats 4000000 in
theorem endF {Y : Lay} {S : List Nat} {m H B X C k len cap : Nat} {x y : Tr} (hfin : ∀ i, i < 3 → Y.fin m i = y.cell i) (w : World) (hF : WKn Y S m H B X C k len cap x y w) :
    Conc.Goes Try.prog false (RX Y (some m) S) (DX Y (some m) S) (FStop Try.prog Y m 0 S) 35
      (G (bW.at ⟨#[pt Y.Wg, pt H, pt B, pt X, .slice (some ⟨C, 0, none⟩) len cap, .int .i64 k, .pointer (some ⟨C, k * 3, none⟩), .agg #[.int .i64 y.a, .int .i64 y.b, .int .i64 y.c], .agg #[.int .i64 x.a, .int .i64 x.b, .int .i64 x.c], .bool false, undef, undef, undef, undef], [dcall 58 #[pt Y.Wg]]⟩ (.inRegion opsW [] :: .code restW :: [])) [botW]) w := by
  have hA := fun w hF => @doneX _ _ wlink Try.prog Y m S _ _ _ wgLib rfl (quitsW #[pt Y.Wg, pt H, pt B, pt X, .slice (some ⟨C, 0, none⟩) len cap, .int .i64 k, .pointer (some ⟨C, k * 3, none⟩), .agg #[.int .i64 y.a, .int .i64 y.b, .int .i64 y.c], .agg #[.int .i64 x.a, .int .i64 x.b, .int .i64 x.c], .bool false, undef, undef, undef, undef]) w hF
  simp only [opsW, restW, bodyW, Try.f57, Option.getD_some, pt, body_done, doneFn] at hA ⊢
  refine Conc.Goes.step rfl (fun _ h₁ => ?_)
  replace hF := WKn.rely hF h₁
  clear h₁
  rw [stepG_region_end]
  simp only [goes_go]
  refine ⟨.refl (by simp) _, ?_⟩
  refine Conc.Goes.step rfl (fun _ h₁ => ?_)
  replace hF := WKn.rely hF h₁
  clear h₁
  rw [stepG_cond (t := false) rfl]
  simp only [goes_go, if_true, if_false, Bool.false_eq_true, ↓reduceIte]
  refine ⟨.refl (by simp) _, ?_⟩
  refine Conc.Goes.step rfl (fun _ h₁ => ?_)
  replace hF := WKn.rely hF h₁
  clear h₁
  rw [stepG_skip]
  simp only [goes_go]
  refine ⟨.refl (by simp) _, ?_⟩
  refine Conc.Goes.step rfl (fun _ h₁ => ?_)
  replace hF := WKn.rely hF h₁
  clear h₁
  rw [stepG_end]
  simp only [goes_go]
  refine ⟨.refl (by simp) _, ?_⟩
  refine Conc.Goes.step rfl (fun _ h₁ => ?_)
  replace hF := WKn.rely hF h₁
  clear h₁
  rw [stepG_unwind_enter rfl Try.func58 (nm_done wlink) rfl]
  simp only [goes_go]
  refine ⟨.refl (by simp) _, ?_⟩
  walk_nrmf Try.f58
  exact Conc.Goes.mono (goes_dmono dc0_dx (hA _ (hF.done hfin))) (by decide)
set_option maxRecDepth 100000 in
set_option maxHeartbeats 4000000 in
theorem endT {Y : Lay} {S : List Nat} {m H B X C k len cap : Nat} {x y : Tr} (hfin : ∀ i, i < 3 → Y.fin m i = x.cell i) (hlen : len < 9223372036854775808) (hroom : k * 3 + 3 ≤ Y.nC) (w : World) (hF : WKn Y S m H B X C k len cap x y w) :
    Conc.Goes Try.prog false (RX Y (some m) S) (DX Y (some m) S) (FStop Try.prog Y m 0 S) 40
      (G (bW.at ⟨#[pt Y.Wg, pt H, pt B, pt X, .slice (some ⟨C, 0, none⟩) len cap, .int .i64 k, .pointer (some ⟨C, k * 3, none⟩), .agg #[.int .i64 y.a, .int .i64 y.b, .int .i64 y.c], .agg #[.int .i64 x.a, .int .i64 x.b, .int .i64 x.c], .bool true, undef, undef, undef, undef], [dcall 58 #[pt Y.Wg]]⟩ (.inRegion opsW [] :: .code restW :: [])) [botW]) w := by
  have hA := fun w hF => @doneX _ _ wlink Try.prog Y m S _ _ _ wgLib rfl (quitsW #[pt Y.Wg, pt H, pt B, pt X, .slice (some ⟨C, 0, none⟩) len cap, .int .i64 k, .pointer (some ⟨C, k * 3, none⟩), .agg #[.int .i64 y.a, .int .i64 y.b, .int .i64 y.c], .agg #[.int .i64 x.a, .int .i64 x.b, .int .i64 x.c], .bool true, .slice (some ⟨C, 0, none⟩) len cap, .int .i64 k, .agg #[.int .i64 x.a, .int .i64 x.b, .int .i64 x.c], .pointer (some ⟨C, k * 3, none⟩)]) w hF
  have hk0 : (0 : Int) ≤ (k : Int) := by omega
  have hkl : (k : Int) < (len : Int) := by have := hF.st.lt; omega
  simp only [opsW, restW, bodyW, Try.f57, Option.getD_some, pt, body_done, doneFn] at hA ⊢
  refine Conc.Goes.step rfl (fun _ h₁ => ?_)
  replace hF := WKn.rely hF h₁
  clear h₁
  rw [stepG_region_end]
  simp only [goes_go]
  refine ⟨.refl (by simp) _, ?_⟩
  refine Conc.Goes.step rfl (fun _ h₁ => ?_)
  replace hF := WKn.rely hF h₁
  clear h₁
  rw [stepG_cond (t := true) rfl]
  simp only [goes_go, if_true, if_false, Bool.false_eq_true, ↓reduceIte]
  refine ⟨.refl (by simp) _, ?_⟩
  refine Conc.Goes.step rfl (fun _ h₁ => ?_)
  replace hF := WKn.rely hF h₁
  clear h₁
  rw [stepG_region]
  simp only [goes_go, List.size_toArray, List.length_cons, List.length_nil, Nat.reduceAdd, Nat.zero_add, List.range, List.range.loop]
  refine ⟨.refl (by simp) _, ?_⟩
  refine Conc.Goes.step rfl (fun _ h₁ => ?_)
  replace hF := WKn.rely hF h₁
  clear h₁
  refine goes_oper_k rfl rfl (by k_ne) (fun K hK => ?_)
  have q0 := hF.hdr
  go_simp
  refine hK _ _ ⟨.refl (fun e he => ?_) _, ?_⟩
  · have hm := mem_listed he
    simp [go_sem, *] at hm
    subst hm
    exact evx_ro hF.st.roH
  clear hK K q0
  refine Conc.Goes.step rfl (fun _ h₁ => ?_)
  replace hF := WKn.rely hF h₁
  clear h₁
  refine goes_oper_k rfl rfl (by k_ne) (fun K hK => ?_)
  have q0 := hF.kb
  go_simp
  refine hK _ _ ⟨.refl (fun e he => ?_) _, ?_⟩
  · have hm := mem_listed he
    simp [go_sem, *] at hm
    subst hm
    exact evx_own hF.inB
  clear hK K q0
  refine Conc.Goes.step rfl (fun _ h₁ => ?_)
  replace hF := WKn.rely hF h₁
  clear h₁
  refine goes_oper_k rfl rfl (by k_ne) (fun K hK => ?_)
  have q0 := hF.x0
  have q1 := hF.x1
  have q2 := hF.x2
  go_simp
  refine hK _ _ ⟨.refl (fun e he => ?_) _, ?_⟩
  · have hm := mem_listed he
    simp [go_sem, *] at hm
    rcases hm with rfl | rfl | rfl <;> exact evx_ro hF.st.roX
  clear hK K q0 q1 q2
  refine Conc.Goes.step rfl (fun _ h₁ => ?_)
  replace hF := WKn.rely hF h₁
  clear h₁
  refine goes_oper_k rfl rfl (by k_ne) (fun K hK => ?_)
  go_simp
  refine hK _ _ ⟨.refl (fun e he => ?_) _, ?_⟩
  · have hm := mem_listed he
    simp [go_sem, *] at hm
  clear hK K
  try w_num
  refine Conc.Goes.step rfl (fun _ h₁ => ?_)
  replace hF := hF.rely h₁
  clear h₁
  refine goes_oper_k rfl rfl (by k_ne) (fun K hK => ?_)
  have hcs : ∃ cs t, (_ : World).heap[C]? = some (.cells cs t) := let ⟨cs, h1, _⟩ := hF.cs; ⟨cs, _, h1⟩
  have q0 := hF.y0
  have q1 := hF.y1
  have q2 := hF.y2
  have z0 := hF.thaw (k * 3)
  have z1 := cells_frozen (o := k * 3) (v := .int .i64 x.a) (hF.thaw (k * 3 + 1)) hcs
  have hcs2 : ∃ cs t, (World.setCell _ ⟨C, k * 3, none⟩ (.int .i64 x.a)).heap[C]? = some (.cells cs t) := let ⟨cs, t, h1⟩ := hcs; ⟨_, _, set1_heap h1 _⟩
  have z2 := cells_frozen (o := k * 3 + 1) (v := .int .i64 x.b) (cells_frozen (o := k * 3) (v := .int .i64 x.a) (hF.thaw (k * 3 + 2)) hcs) hcs2
  go_simp
  refine hK _ _ ⟨hF.dx fun e he => ?_, ?_⟩
  · have hm := mem_listed he
    simp [go_sem, storedEv, *] at hm
    rcases hm with rfl | rfl | rfl
    · exact evx_mine hF.st.mine0
    · exact evx_mine hF.st.mine1
    · exact evx_mine hF.st.mine2
  clear hK K q0 q1 q2 z0 z1 z2 hcs hcs2
  replace hF := hF.put hroom
  refine Conc.Goes.step rfl (fun _ h₁ => ?_)
  replace hF := WKn.rely hF h₁
  clear h₁
  rw [stepG_region_end]
  simp only [goes_go]
  refine ⟨.refl (by simp) _, ?_⟩
  refine Conc.Goes.step rfl (fun _ h₁ => ?_)
  replace hF := WKn.rely hF h₁
  clear h₁
  rw [stepG_end]
  simp only [goes_go]
  refine ⟨.refl (by simp) _, ?_⟩
  refine Conc.Goes.step rfl (fun _ h₁ => ?_)
  replace hF := WKn.rely hF h₁
  clear h₁
  rw [stepG_unwind_enter rfl Try.func58 (nm_done wlink) rfl]
  simp only [goes_go]
  refine ⟨.refl (by simp) _, ?_⟩
  walk_nrmf Try.f58
  exact Conc.Goes.mono (goes_dmono dc0_dx (hA _ (hF.done hfin))) (by decide)
set_option maxRecDepth 100000 in
set_option maxHeartbeats 4000000 in
/-- From the call of older on. -/
theorem tailW {Y : Lay} {m H B X C k len cap : Nat} {x y : Tr} (hfin : ∀ i, i < 3 → Y.fin m i = (rPut x y).cell i) (hlen : len < 9223372036854775808) (hroom : k * 3 + 3 ≤ Y.nC) (w : World) (hF : WKn Y [B] m H B X C k len cap x y w) :
    Conc.Goes Try.prog false (RX Y (some m) [B]) (DX Y (some m) [B]) (FStop Try.prog Y m 2 [B]) 10
      (G (bW.at ⟨#[pt Y.Wg, pt H, pt B, pt X, .slice (some ⟨C, 0, none⟩) len cap, .int .i64 k, .pointer (some ⟨C, k * 3, none⟩), .agg #[.int .i64 y.a, .int .i64 y.b, .int .i64 y.c], .agg #[.int .i64 x.a, .int .i64 x.b, .int .i64 x.c], undef, undef, undef, undef, undef], [dcall 58 #[pt Y.Wg]]⟩ (.inRegion opsW [5] :: .code restW :: [])) [botW]) w := by
  have hk0 : (0 : Int) ≤ (k : Int) := by omega
  have hkl : (k : Int) < (len : Int) := by have := hF.st.lt; omega
  have eT := fun S h1 => @endT _ Y S m H B X C k len cap x y h1 hlen hroom
  have eF := fun S h1 => @endF _ Y S m H B X C k len cap x y h1
  simp only [opsW, restW, bodyW, Try.f57, Option.getD_some, pt] at eT eF ⊢
  refine Conc.Goes.step rfl (fun _ h₁ => ?_)
  replace hF := hF.rely h₁
  clear h₁
  refine goes_call rfl rfl (by k_ne) rfl Try.func44 (by kernel_rfl) rfl ⟨.refl (by simp) _, ?_⟩
  walk_nrmf Try.f44
  refine Conc.Goes.step rfl (fun _ h₁ => ?_)
  replace hF := WKn.rely hF h₁
  clear h₁
  rw [stepG_seq]
  simp only [goes_go]
  refine ⟨.refl (by simp) _, ?_⟩
  refine Conc.Goes.step rfl (fun _ h₁ => ?_)
  replace hF := WKn.rely hF h₁
  clear h₁
  rw [stepG_region]
  simp only [goes_go, List.size_toArray, List.length_cons, List.length_nil, Nat.reduceAdd, Nat.zero_add, List.range, List.range.loop]
  refine ⟨.refl (by simp) _, ?_⟩
  refine Conc.Goes.stop (fun w₁ h₁ => ?_)
  replace hF := hF.rely h₁
  clear h₁
  refine fstop_of_goes rfl ?_
  refine goes_oper_k rfl rfl (by k_ne) (fun K hK => ?_)
  go_simp
  refine hK _ _ ⟨Array.eq_empty_iff_forall_not_mem.2 fun e he => ?_, _, _, ?_, rfl, 12, ?_⟩
  · have hm := mem_listed he
    simp [go_sem, *] at hm
  · simp
  clear hK K
  replace hF := And.intro (hF.alloc (.cells #[.int .i64 y.a, .int .i64 y.b, .int .i64 y.c] 26)) (Bx.new [B] y 26 w₁)
  obtain ⟨N1, hN1⟩ : ∃ N, w₁.heap.size = N := ⟨_, rfl⟩
  rw [hN1] at hF ⊢
  refine Conc.Goes.stop (fun w₂ h₂ => ?_)
  replace hF := wb1_rely hF h₂
  clear h₂
  refine fstop_of_goes rfl ?_
  refine goes_oper_k rfl rfl (by k_ne) (fun K hK => ?_)
  go_simp
  refine hK _ _ ⟨Array.eq_empty_iff_forall_not_mem.2 fun e he => ?_, _, _, ?_, rfl, 80, ?_⟩
  · have hm := mem_listed he
    simp [go_sem, *] at hm
  · simp
  clear hK K
  replace hF := And.intro (hF.1.alloc (.cells #[.int .i64 x.a, .int .i64 x.b, .int .i64 x.c] 26)) (And.intro (hF.2.more (hF.1.inS _ hF.2.inS) (.cells #[.int .i64 x.a, .int .i64 x.b, .int .i64 x.c] 26)) (Bx.new [N1, B] x 26 w₂))
  obtain ⟨N2, hN2⟩ : ∃ N, w₂.heap.size = N := ⟨_, rfl⟩
  rw [hN2] at hF ⊢
  refine Conc.Goes.step rfl (fun _ h₁ => ?_)
  replace hF := wb2_rely hF h₁
  clear h₁
  refine goes_oper_k rfl rfl (by k_ne) (fun K hK => ?_)
  go_simp
  refine hK _ _ ⟨.refl (fun e he => ?_) _, ?_⟩
  · have hm := mem_listed he
    simp [go_sem, *] at hm
  clear hK K
  try w_num
  refine Conc.Goes.step rfl (fun _ h₁ => ?_)
  replace hF := wb2_rely hF h₁
  clear h₁
  rw [stepG_region_end]
  simp only [goes_go]
  refine ⟨.refl (by simp) _, ?_⟩
  refine Conc.Goes.step rfl (fun _ h₁ => ?_)
  replace hF := wb2_rely hF h₁
  clear h₁
  rw [stepG_seq]
  simp only [goes_go]
  refine ⟨.refl (by simp) _, ?_⟩
  refine Conc.Goes.step rfl (fun _ h₁ => ?_)
  replace hF := wb2_rely hF h₁
  clear h₁
  rw [stepG_region]
  simp only [goes_go, List.size_toArray, List.length_cons, List.length_nil, Nat.reduceAdd, Nat.zero_add, List.range, List.range.loop]
  refine ⟨.refl (by simp) _, ?_⟩
  refine Conc.Goes.step rfl (fun _ h₁ => ?_)
  replace hF := wb2_rely hF h₁
  clear h₁
  refine goes_oper_k rfl rfl (by k_ne) (fun K hK => ?_)
  go_simp
  refine hK _ _ ⟨.refl (fun e he => ?_) _, ?_⟩
  · have hm := mem_listed he
    simp [go_sem, *] at hm
  clear hK K
  try w_num
  refine Conc.Goes.step rfl (fun _ h₁ => ?_)
  replace hF := wb2_rely hF h₁
  clear h₁
  refine goes_oper_k rfl rfl (by k_ne) (fun K hK => ?_)
  have q0 := hF.2.1.c0
  go_simp
  refine hK _ _ ⟨.refl (fun e he => ?_) _, ?_⟩
  · have hm := mem_listed he
    simp [go_sem, *] at hm
    subst hm
    exact evx_own hF.2.1.inS
  clear hK K q0
  refine Conc.Goes.step rfl (fun _ h₁ => ?_)
  replace hF := wb2_rely hF h₁
  clear h₁
  refine goes_oper_k rfl rfl (by k_ne) (fun K hK => ?_)
  go_simp
  refine hK _ _ ⟨.refl (fun e he => ?_) _, ?_⟩
  · have hm := mem_listed he
    simp [go_sem, *] at hm
  clear hK K
  try w_num
  refine Conc.Goes.step rfl (fun _ h₁ => ?_)
  replace hF := wb2_rely hF h₁
  clear h₁
  refine goes_oper_k rfl rfl (by k_ne) (fun K hK => ?_)
  have q0 := hF.2.2.c0
  go_simp
  refine hK _ _ ⟨.refl (fun e he => ?_) _, ?_⟩
  · have hm := mem_listed he
    simp [go_sem, *] at hm
    subst hm
    exact evx_own hF.2.2.inS
  clear hK K q0
  rcases Int.lt_trichotomy y.a x.a with hlt | heq | hgt
  · have g1 : decide (y.a < x.a) = true := decide_eq_true hlt
    refine Conc.Goes.step rfl (fun _ h₁ => ?_)
    replace hF := wb2_rely hF h₁
    clear h₁
    refine goes_oper_k rfl rfl (by k_ne) (fun K hK => ?_)
    go_simp
    refine hK _ _ ⟨.refl (fun e he => ?_) _, ?_⟩
    · have hm := mem_listed he
      simp [go_sem, *] at hm
    clear hK K
    try w_num
    refine Conc.Goes.step rfl (fun _ h₁ => ?_)
    replace hF := wb2_rely hF h₁
    clear h₁
    refine goes_oper_k rfl rfl (by k_ne) (fun K hK => ?_)
    go_simp
    refine hK _ _ ⟨.refl (fun e he => ?_) _, ?_⟩
    · have hm := mem_listed he
      simp [go_sem, *] at hm
    clear hK K
    try w_num
    refine Conc.Goes.step rfl (fun _ h₁ => ?_)
    replace hF := wb2_rely hF h₁
    clear h₁
    rw [stepG_unwanted rfl rfl]
    simp only [goes_go]
    refine ⟨.refl (by simp) _, ?_⟩
    walk_nrm
    refine Conc.Goes.step rfl (fun _ h₁ => ?_)
    replace hF := wb2_rely hF h₁
    clear h₁
    rw [stepG_unwanted rfl rfl]
    simp only [goes_go]
    refine ⟨.refl (by simp) _, ?_⟩
    walk_nrm
    refine Conc.Goes.step rfl (fun _ h₁ => ?_)
    replace hF := wb2_rely hF h₁
    clear h₁
    rw [stepG_unwanted rfl rfl]
    simp only [goes_go]
    refine ⟨.refl (by simp) _, ?_⟩
    walk_nrm
    refine Conc.Goes.step rfl (fun _ h₁ => ?_)
    replace hF := wb2_rely hF h₁
    clear h₁
    rw [stepG_unwanted rfl rfl]
    simp only [goes_go]
    refine ⟨.refl (by simp) _, ?_⟩
    walk_nrm
    refine Conc.Goes.step rfl (fun _ h₁ => ?_)
    replace hF := wb2_rely hF h₁
    clear h₁
    rw [stepG_unwanted rfl rfl]
    simp only [goes_go]
    refine ⟨.refl (by simp) _, ?_⟩
    walk_nrm
    refine Conc.Goes.step rfl (fun _ h₁ => ?_)
    replace hF := wb2_rely hF h₁
    clear h₁
    rw [stepG_unwanted rfl rfl]
    simp only [goes_go]
    refine ⟨.refl (by simp) _, ?_⟩
    walk_nrm
    refine Conc.Goes.step rfl (fun _ h₁ => ?_)
    replace hF := wb2_rely hF h₁
    clear h₁
    rw [stepG_unwanted rfl rfl]
    simp only [goes_go]
    refine ⟨.refl (by simp) _, ?_⟩
    walk_nrm
    refine Conc.Goes.step rfl (fun _ h₁ => ?_)
    replace hF := wb2_rely hF h₁
    clear h₁
    rw [stepG_unwanted rfl rfl]
    simp only [goes_go]
    refine ⟨.refl (by simp) _, ?_⟩
    walk_nrm
    refine Conc.Goes.step rfl (fun _ h₁ => ?_)
    replace hF := wb2_rely hF h₁
    clear h₁
    rw [stepG_unwanted rfl rfl]
    simp only [goes_go]
    refine ⟨.refl (by simp) _, ?_⟩
    walk_nrm
    refine Conc.Goes.step rfl (fun _ h₁ => ?_)
    replace hF := wb2_rely hF h₁
    clear h₁
    rw [stepG_unwanted rfl rfl]
    simp only [goes_go]
    refine ⟨.refl (by simp) _, ?_⟩
    walk_nrm
    refine Conc.Goes.step rfl (fun _ h₁ => ?_)
    replace hF := wb2_rely hF h₁
    clear h₁
    rw [stepG_unwanted rfl rfl]
    simp only [goes_go]
    refine ⟨.refl (by simp) _, ?_⟩
    walk_nrm
    refine Conc.Goes.step rfl (fun _ h₁ => ?_)
    replace hF := wb2_rely hF h₁
    clear h₁
    rw [stepG_unwanted rfl rfl]
    simp only [goes_go]
    refine ⟨.refl (by simp) _, ?_⟩
    walk_nrm
    refine Conc.Goes.step rfl (fun _ h₁ => ?_)
    replace hF := wb2_rely hF h₁
    clear h₁
    refine goes_oper_k rfl rfl (by k_ne) (fun K hK => ?_)
    go_simp
    refine hK _ _ ⟨.refl (fun e he => ?_) _, ?_⟩
    · have hm := mem_listed he
      simp [go_sem, *] at hm
    clear hK K
    try w_num
    refine Conc.Goes.step rfl (fun _ h₁ => ?_)
    replace hF := wb2_rely hF h₁
    clear h₁
    refine goes_oper_k rfl rfl (by k_ne) (fun K hK => ?_)
    go_simp
    refine hK _ _ ⟨.refl (fun e he => ?_) _, ?_⟩
    · have hm := mem_listed he
      simp [go_sem, *] at hm
    clear hK K
    try w_num
    refine Conc.Goes.step rfl (fun _ h₁ => ?_)
    replace hF := wb2_rely hF h₁
    clear h₁
    rw [stepG_region_end]
    simp only [goes_go]
    refine ⟨.refl (by simp) _, ?_⟩
    refine Conc.Goes.step rfl (fun _ h₁ => ?_)
    replace hF := wb2_rely hF h₁
    clear h₁
    rw [stepG_ret']
    simp only [goes_go]
    refine ⟨.refl (by simp) _, ?_⟩
    refine Conc.Goes.step rfl (fun _ h₁ => ?_)
    replace hF := wb2_rely hF h₁
    clear h₁
    refine goes_leave1 rfl rfl Try.func44 rfl ⟨.refl (by simp) _, ?_⟩
    walk_nrm
    have ho : rPut x y = x := by simp [rPut, rOlder, hlt]
    exact Conc.Goes.mono (eT _ (fun i hi => (hfin i hi).trans (by rw [ho])) _ hF.1) (by decide)
  · have g1 : decide (y.a < x.a) = false := decide_eq_false (by omega)
    have g2 : decide (y.a = x.a) = true := decide_eq_true heq
    have g3 : (y.a == x.a) = true := by simp [heq]
    by_cases hw : y.b < x.b
    · have g4 : decide (y.b < x.b) = true := decide_eq_true hw
      refine Conc.Goes.step rfl (fun _ h₁ => ?_)
      replace hF := wb2_rely hF h₁
      clear h₁
      refine goes_oper_k rfl rfl (by k_ne) (fun K hK => ?_)
      go_simp
      refine hK _ _ ⟨.refl (fun e he => ?_) _, ?_⟩
      · have hm := mem_listed he
        simp [go_sem, *] at hm
      clear hK K
      try w_num
      refine Conc.Goes.step rfl (fun _ h₁ => ?_)
      replace hF := wb2_rely hF h₁
      clear h₁
      refine goes_oper_k rfl rfl (by k_ne) (fun K hK => ?_)
      go_simp
      refine hK _ _ ⟨.refl (fun e he => ?_) _, ?_⟩
      · have hm := mem_listed he
        simp [go_sem, *] at hm
      clear hK K
      try w_num
      refine Conc.Goes.step rfl (fun _ h₁ => ?_)
      replace hF := wb2_rely hF h₁
      clear h₁
      refine goes_oper_k rfl rfl (by k_ne) (fun K hK => ?_)
      go_simp
      refine hK _ _ ⟨.refl (fun e he => ?_) _, ?_⟩
      · have hm := mem_listed he
        simp [go_sem, *] at hm
      clear hK K
      try w_num
      refine Conc.Goes.step rfl (fun _ h₁ => ?_)
      replace hF := wb2_rely hF h₁
      clear h₁
      refine goes_oper_k rfl rfl (by k_ne) (fun K hK => ?_)
      have q0 := hF.2.1.c0
      go_simp
      refine hK _ _ ⟨.refl (fun e he => ?_) _, ?_⟩
      · have hm := mem_listed he
        simp [go_sem, *] at hm
        subst hm
        exact evx_own hF.2.1.inS
      clear hK K q0
      refine Conc.Goes.step rfl (fun _ h₁ => ?_)
      replace hF := wb2_rely hF h₁
      clear h₁
      refine goes_oper_k rfl rfl (by k_ne) (fun K hK => ?_)
      go_simp
      refine hK _ _ ⟨.refl (fun e he => ?_) _, ?_⟩
      · have hm := mem_listed he
        simp [go_sem, *] at hm
      clear hK K
      try w_num
      refine Conc.Goes.step rfl (fun _ h₁ => ?_)
      replace hF := wb2_rely hF h₁
      clear h₁
      refine goes_oper_k rfl rfl (by k_ne) (fun K hK => ?_)
      have q0 := hF.2.2.c0
      go_simp
      refine hK _ _ ⟨.refl (fun e he => ?_) _, ?_⟩
      · have hm := mem_listed he
        simp [go_sem, *] at hm
        subst hm
        exact evx_own hF.2.2.inS
      clear hK K q0
      refine Conc.Goes.step rfl (fun _ h₁ => ?_)
      replace hF := wb2_rely hF h₁
      clear h₁
      refine goes_oper_k rfl rfl (by k_ne) (fun K hK => ?_)
      go_simp
      refine hK _ _ ⟨.refl (fun e he => ?_) _, ?_⟩
      · have hm := mem_listed he
        simp [go_sem, *] at hm
      clear hK K
      try w_num
      refine Conc.Goes.step rfl (fun _ h₁ => ?_)
      replace hF := wb2_rely hF h₁
      clear h₁
      refine goes_oper_k rfl rfl (by k_ne) (fun K hK => ?_)
      go_simp
      refine hK _ _ ⟨.refl (fun e he => ?_) _, ?_⟩
      · have hm := mem_listed he
        simp [go_sem, *] at hm
      clear hK K
      try w_num
      refine Conc.Goes.step rfl (fun _ h₁ => ?_)
      replace hF := wb2_rely hF h₁
      clear h₁
      refine goes_oper_k rfl rfl (by k_ne) (fun K hK => ?_)
      go_simp
      refine hK _ _ ⟨.refl (fun e he => ?_) _, ?_⟩
      · have hm := mem_listed he
        simp [go_sem, *] at hm
      clear hK K
      try w_num
      refine Conc.Goes.step rfl (fun _ h₁ => ?_)
      replace hF := wb2_rely hF h₁
      clear h₁
      refine goes_oper_k rfl rfl (by k_ne) (fun K hK => ?_)
      have q0 := hF.2.1.c1
      go_simp
      refine hK _ _ ⟨.refl (fun e he => ?_) _, ?_⟩
      · have hm := mem_listed he
        simp [go_sem, *] at hm
        subst hm
        exact evx_own hF.2.1.inS
      clear hK K q0
      refine Conc.Goes.step rfl (fun _ h₁ => ?_)
      replace hF := wb2_rely hF h₁
      clear h₁
      refine goes_oper_k rfl rfl (by k_ne) (fun K hK => ?_)
      go_simp
      refine hK _ _ ⟨.refl (fun e he => ?_) _, ?_⟩
      · have hm := mem_listed he
        simp [go_sem, *] at hm
      clear hK K
      try w_num
      refine Conc.Goes.step rfl (fun _ h₁ => ?_)
      replace hF := wb2_rely hF h₁
      clear h₁
      refine goes_oper_k rfl rfl (by k_ne) (fun K hK => ?_)
      have q0 := hF.2.2.c1
      go_simp
      refine hK _ _ ⟨.refl (fun e he => ?_) _, ?_⟩
      · have hm := mem_listed he
        simp [go_sem, *] at hm
        subst hm
        exact evx_own hF.2.2.inS
      clear hK K q0
      refine Conc.Goes.step rfl (fun _ h₁ => ?_)
      replace hF := wb2_rely hF h₁
      clear h₁
      refine goes_oper_k rfl rfl (by k_ne) (fun K hK => ?_)
      go_simp
      refine hK _ _ ⟨.refl (fun e he => ?_) _, ?_⟩
      · have hm := mem_listed he
        simp [go_sem, *] at hm
      clear hK K
      try w_num
      refine Conc.Goes.step rfl (fun _ h₁ => ?_)
      replace hF := wb2_rely hF h₁
      clear h₁
      refine goes_oper_k rfl rfl (by k_ne) (fun K hK => ?_)
      go_simp
      refine hK _ _ ⟨.refl (fun e he => ?_) _, ?_⟩
      · have hm := mem_listed he
        simp [go_sem, *] at hm
      clear hK K
      try w_num
      refine Conc.Goes.step rfl (fun _ h₁ => ?_)
      replace hF := wb2_rely hF h₁
      clear h₁
      refine goes_oper_k rfl rfl (by k_ne) (fun K hK => ?_)
      go_simp
      refine hK _ _ ⟨.refl (fun e he => ?_) _, ?_⟩
      · have hm := mem_listed he
        simp [go_sem, *] at hm
      clear hK K
      try w_num
      refine Conc.Goes.step rfl (fun _ h₁ => ?_)
      replace hF := wb2_rely hF h₁
      clear h₁
      refine goes_oper_k rfl rfl (by k_ne) (fun K hK => ?_)
      go_simp
      refine hK _ _ ⟨.refl (fun e he => ?_) _, ?_⟩
      · have hm := mem_listed he
        simp [go_sem, *] at hm
      clear hK K
      try w_num
      refine Conc.Goes.step rfl (fun _ h₁ => ?_)
      replace hF := wb2_rely hF h₁
      clear h₁
      rw [stepG_region_end]
      simp only [goes_go]
      refine ⟨.refl (by simp) _, ?_⟩
      refine Conc.Goes.step rfl (fun _ h₁ => ?_)
      replace hF := wb2_rely hF h₁
      clear h₁
      rw [stepG_ret']
      simp only [goes_go]
      refine ⟨.refl (by simp) _, ?_⟩
      refine Conc.Goes.step rfl (fun _ h₁ => ?_)
      replace hF := wb2_rely hF h₁
      clear h₁
      refine goes_leave1 rfl rfl Try.func44 rfl ⟨.refl (by simp) _, ?_⟩
      walk_nrm
      have ho : rPut x y = x := by simp [rPut, rOlder, heq, hw]
      exact Conc.Goes.mono (eT _ (fun i hi => (hfin i hi).trans (by rw [ho])) _ hF.1) (by decide)
    · have g4 : decide (y.b < x.b) = false := decide_eq_false hw
      refine Conc.Goes.step rfl (fun _ h₁ => ?_)
      replace hF := wb2_rely hF h₁
      clear h₁
      refine goes_oper_k rfl rfl (by k_ne) (fun K hK => ?_)
      go_simp
      refine hK _ _ ⟨.refl (fun e he => ?_) _, ?_⟩
      · have hm := mem_listed he
        simp [go_sem, *] at hm
      clear hK K
      try w_num
      refine Conc.Goes.step rfl (fun _ h₁ => ?_)
      replace hF := wb2_rely hF h₁
      clear h₁
      refine goes_oper_k rfl rfl (by k_ne) (fun K hK => ?_)
      go_simp
      refine hK _ _ ⟨.refl (fun e he => ?_) _, ?_⟩
      · have hm := mem_listed he
        simp [go_sem, *] at hm
      clear hK K
      try w_num
      refine Conc.Goes.step rfl (fun _ h₁ => ?_)
      replace hF := wb2_rely hF h₁
      clear h₁
      refine goes_oper_k rfl rfl (by k_ne) (fun K hK => ?_)
      go_simp
      refine hK _ _ ⟨.refl (fun e he => ?_) _, ?_⟩
      · have hm := mem_listed he
        simp [go_sem, *] at hm
      clear hK K
      try w_num
      refine Conc.Goes.step rfl (fun _ h₁ => ?_)
      replace hF := wb2_rely hF h₁
      clear h₁
      refine goes_oper_k rfl rfl (by k_ne) (fun K hK => ?_)
      have q0 := hF.2.1.c0
      go_simp
      refine hK _ _ ⟨.refl (fun e he => ?_) _, ?_⟩
      · have hm := mem_listed he
        simp [go_sem, *] at hm
        subst hm
        exact evx_own hF.2.1.inS
      clear hK K q0
      refine Conc.Goes.step rfl (fun _ h₁ => ?_)
      replace hF := wb2_rely hF h₁
      clear h₁
      refine goes_oper_k rfl rfl (by k_ne) (fun K hK => ?_)
      go_simp
      refine hK _ _ ⟨.refl (fun e he => ?_) _, ?_⟩
      · have hm := mem_listed he
        simp [go_sem, *] at hm
      clear hK K
      try w_num
      refine Conc.Goes.step rfl (fun _ h₁ => ?_)
      replace hF := wb2_rely hF h₁
      clear h₁
      refine goes_oper_k rfl rfl (by k_ne) (fun K hK => ?_)
      have q0 := hF.2.2.c0
      go_simp
      refine hK _ _ ⟨.refl (fun e he => ?_) _, ?_⟩
      · have hm := mem_listed he
        simp [go_sem, *] at hm
        subst hm
        exact evx_own hF.2.2.inS
      clear hK K q0
      refine Conc.Goes.step rfl (fun _ h₁ => ?_)
      replace hF := wb2_rely hF h₁
      clear h₁
      refine goes_oper_k rfl rfl (by k_ne) (fun K hK => ?_)
      go_simp
      refine hK _ _ ⟨.refl (fun e he => ?_) _, ?_⟩
      · have hm := mem_listed he
        simp [go_sem, *] at hm
      clear hK K
      try w_num
      refine Conc.Goes.step rfl (fun _ h₁ => ?_)
      replace hF := wb2_rely hF h₁
      clear h₁
      refine goes_oper_k rfl rfl (by k_ne) (fun K hK => ?_)
      go_simp
      refine hK _ _ ⟨.refl (fun e he => ?_) _, ?_⟩
      · have hm := mem_listed he
        simp [go_sem, *] at hm
      clear hK K
      try w_num
      refine Conc.Goes.step rfl (fun _ h₁ => ?_)
      replace hF := wb2_rely hF h₁
      clear h₁
      refine goes_oper_k rfl rfl (by k_ne) (fun K hK => ?_)
      go_simp
      refine hK _ _ ⟨.refl (fun e he => ?_) _, ?_⟩
      · have hm := mem_listed he
        simp [go_sem, *] at hm
      clear hK K
      try w_num
      refine Conc.Goes.step rfl (fun _ h₁ => ?_)
      replace hF := wb2_rely hF h₁
      clear h₁
      refine goes_oper_k rfl rfl (by k_ne) (fun K hK => ?_)
      have q0 := hF.2.1.c1
      go_simp
      refine hK _ _ ⟨.refl (fun e he => ?_) _, ?_⟩
      · have hm := mem_listed he
        simp [go_sem, *] at hm
        subst hm
        exact evx_own hF.2.1.inS
      clear hK K q0
      refine Conc.Goes.step rfl (fun _ h₁ => ?_)
      replace hF := wb2_rely hF h₁
      clear h₁
      refine goes_oper_k rfl rfl (by k_ne) (fun K hK => ?_)
      go_simp
      refine hK _ _ ⟨.refl (fun e he => ?_) _, ?_⟩
      · have hm := mem_listed he
        simp [go_sem, *] at hm
      clear hK K
      try w_num
      refine Conc.Goes.step rfl (fun _ h₁ => ?_)
      replace hF := wb2_rely hF h₁
      clear h₁
      refine goes_oper_k rfl rfl (by k_ne) (fun K hK => ?_)
      have q0 := hF.2.2.c1
      go_simp
      refine hK _ _ ⟨.refl (fun e he => ?_) _, ?_⟩
      · have hm := mem_listed he
        simp [go_sem, *] at hm
        subst hm
        exact evx_own hF.2.2.inS
      clear hK K q0
      refine Conc.Goes.step rfl (fun _ h₁ => ?_)
      replace hF := wb2_rely hF h₁
      clear h₁
      refine goes_oper_k rfl rfl (by k_ne) (fun K hK => ?_)
      go_simp
      refine hK _ _ ⟨.refl (fun e he => ?_) _, ?_⟩
      · have hm := mem_listed he
        simp [go_sem, *] at hm
      clear hK K
      try w_num
      refine Conc.Goes.step rfl (fun _ h₁ => ?_)
      replace hF := wb2_rely hF h₁
      clear h₁
      refine goes_oper_k rfl rfl (by k_ne) (fun K hK => ?_)
      go_simp
      refine hK _ _ ⟨.refl (fun e he => ?_) _, ?_⟩
      · have hm := mem_listed he
        simp [go_sem, *] at hm
      clear hK K
      try w_num
      refine Conc.Goes.step rfl (fun _ h₁ => ?_)
      replace hF := wb2_rely hF h₁
      clear h₁
      refine goes_oper_k rfl rfl (by k_ne) (fun K hK => ?_)
      go_simp
      refine hK _ _ ⟨.refl (fun e he => ?_) _, ?_⟩
      · have hm := mem_listed he
        simp [go_sem, *] at hm
      clear hK K
      try w_num
      refine Conc.Goes.step rfl (fun _ h₁ => ?_)
      replace hF := wb2_rely hF h₁
      clear h₁
      refine goes_oper_k rfl rfl (by k_ne) (fun K hK => ?_)
      go_simp
      refine hK _ _ ⟨.refl (fun e he => ?_) _, ?_⟩
      · have hm := mem_listed he
        simp [go_sem, *] at hm
      clear hK K
      try w_num
      refine Conc.Goes.step rfl (fun _ h₁ => ?_)
      replace hF := wb2_rely hF h₁
      clear h₁
      rw [stepG_region_end]
      simp only [goes_go]
      refine ⟨.refl (by simp) _, ?_⟩
      refine Conc.Goes.step rfl (fun _ h₁ => ?_)
      replace hF := wb2_rely hF h₁
      clear h₁
      rw [stepG_ret']
      simp only [goes_go]
      refine ⟨.refl (by simp) _, ?_⟩
      refine Conc.Goes.step rfl (fun _ h₁ => ?_)
      replace hF := wb2_rely hF h₁
      clear h₁
      refine goes_leave1 rfl rfl Try.func44 rfl ⟨.refl (by simp) _, ?_⟩
      walk_nrm
      have ho : rPut x y = y := by simp [rPut, rOlder, heq, hw]
      exact Conc.Goes.mono (eF _ (fun i hi => (hfin i hi).trans (by rw [ho])) _ hF.1) (by decide)
  · have g1 : decide (y.a < x.a) = false := decide_eq_false (by omega)
    have g2 : decide (y.a = x.a) = false := decide_eq_false (by omega)
    have g3 : (y.a == x.a) = false := by simp; omega
    refine Conc.Goes.step rfl (fun _ h₁ => ?_)
    replace hF := wb2_rely hF h₁
    clear h₁
    refine goes_oper_k rfl rfl (by k_ne) (fun K hK => ?_)
    go_simp
    refine hK _ _ ⟨.refl (fun e he => ?_) _, ?_⟩
    · have hm := mem_listed he
      simp [go_sem, *] at hm
    clear hK K
    try w_num
    refine Conc.Goes.step rfl (fun _ h₁ => ?_)
    replace hF := wb2_rely hF h₁
    clear h₁
    refine goes_oper_k rfl rfl (by k_ne) (fun K hK => ?_)
    go_simp
    refine hK _ _ ⟨.refl (fun e he => ?_) _, ?_⟩
    · have hm := mem_listed he
      simp [go_sem, *] at hm
    clear hK K
    try w_num
    refine Conc.Goes.step rfl (fun _ h₁ => ?_)
    replace hF := wb2_rely hF h₁
    clear h₁
    refine goes_oper_k rfl rfl (by k_ne) (fun K hK => ?_)
    go_simp
    refine hK _ _ ⟨.refl (fun e he => ?_) _, ?_⟩
    · have hm := mem_listed he
      simp [go_sem, *] at hm
    clear hK K
    try w_num
    refine Conc.Goes.step rfl (fun _ h₁ => ?_)
    replace hF := wb2_rely hF h₁
    clear h₁
    refine goes_oper_k rfl rfl (by k_ne) (fun K hK => ?_)
    have q0 := hF.2.1.c0
    go_simp
    refine hK _ _ ⟨.refl (fun e he => ?_) _, ?_⟩
    · have hm := mem_listed he
      simp [go_sem, *] at hm
      subst hm
      exact evx_own hF.2.1.inS
    clear hK K q0
    refine Conc.Goes.step rfl (fun _ h₁ => ?_)
    replace hF := wb2_rely hF h₁
    clear h₁
    refine goes_oper_k rfl rfl (by k_ne) (fun K hK => ?_)
    go_simp
    refine hK _ _ ⟨.refl (fun e he => ?_) _, ?_⟩
    · have hm := mem_listed he
      simp [go_sem, *] at hm
    clear hK K
    try w_num
    refine Conc.Goes.step rfl (fun _ h₁ => ?_)
    replace hF := wb2_rely hF h₁
    clear h₁
    refine goes_oper_k rfl rfl (by k_ne) (fun K hK => ?_)
    have q0 := hF.2.2.c0
    go_simp
    refine hK _ _ ⟨.refl (fun e he => ?_) _, ?_⟩
    · have hm := mem_listed he
      simp [go_sem, *] at hm
      subst hm
      exact evx_own hF.2.2.inS
    clear hK K q0
    refine Conc.Goes.step rfl (fun _ h₁ => ?_)
    replace hF := wb2_rely hF h₁
    clear h₁
    refine goes_oper_k rfl rfl (by k_ne) (fun K hK => ?_)
    go_simp
    refine hK _ _ ⟨.refl (fun e he => ?_) _, ?_⟩
    · have hm := mem_listed he
      simp [go_sem, *] at hm
    clear hK K
    try w_num
    refine Conc.Goes.step rfl (fun _ h₁ => ?_)
    replace hF := wb2_rely hF h₁
    clear h₁
    refine goes_oper_k rfl rfl (by k_ne) (fun K hK => ?_)
    go_simp
    refine hK _ _ ⟨.refl (fun e he => ?_) _, ?_⟩
    · have hm := mem_listed he
      simp [go_sem, *] at hm
    clear hK K
    try w_num
    refine Conc.Goes.step rfl (fun _ h₁ => ?_)
    replace hF := wb2_rely hF h₁
    clear h₁
    rw [stepG_unwanted rfl rfl]
    simp only [goes_go]
    refine ⟨.refl (by simp) _, ?_⟩
    walk_nrm
    refine Conc.Goes.step rfl (fun _ h₁ => ?_)
    replace hF := wb2_rely hF h₁
    clear h₁
    rw [stepG_unwanted rfl rfl]
    simp only [goes_go]
    refine ⟨.refl (by simp) _, ?_⟩
    walk_nrm
    refine Conc.Goes.step rfl (fun _ h₁ => ?_)
    replace hF := wb2_rely hF h₁
    clear h₁
    rw [stepG_unwanted rfl rfl]
    simp only [goes_go]
    refine ⟨.refl (by simp) _, ?_⟩
    walk_nrm
    refine Conc.Goes.step rfl (fun _ h₁ => ?_)
    replace hF := wb2_rely hF h₁
    clear h₁
    rw [stepG_unwanted rfl rfl]
    simp only [goes_go]
    refine ⟨.refl (by simp) _, ?_⟩
    walk_nrm
    refine Conc.Goes.step rfl (fun _ h₁ => ?_)
    replace hF := wb2_rely hF h₁
    clear h₁
    rw [stepG_unwanted rfl rfl]
    simp only [goes_go]
    refine ⟨.refl (by simp) _, ?_⟩
    walk_nrm
    refine Conc.Goes.step rfl (fun _ h₁ => ?_)
    replace hF := wb2_rely hF h₁
    clear h₁
    refine goes_oper_k rfl rfl (by k_ne) (fun K hK => ?_)
    go_simp
    refine hK _ _ ⟨.refl (fun e he => ?_) _, ?_⟩
    · have hm := mem_listed he
      simp [go_sem, *] at hm
    clear hK K
    try w_num
    refine Conc.Goes.step rfl (fun _ h₁ => ?_)
    replace hF := wb2_rely hF h₁
    clear h₁
    refine goes_oper_k rfl rfl (by k_ne) (fun K hK => ?_)
    go_simp
    refine hK _ _ ⟨.refl (fun e he => ?_) _, ?_⟩
    · have hm := mem_listed he
      simp [go_sem, *] at hm
    clear hK K
    try w_num
    refine Conc.Goes.step rfl (fun _ h₁ => ?_)
    replace hF := wb2_rely hF h₁
    clear h₁
    refine goes_oper_k rfl rfl (by k_ne) (fun K hK => ?_)
    go_simp
    refine hK _ _ ⟨.refl (fun e he => ?_) _, ?_⟩
    · have hm := mem_listed he
      simp [go_sem, *] at hm
    clear hK K
    try w_num
    refine Conc.Goes.step rfl (fun _ h₁ => ?_)
    replace hF := wb2_rely hF h₁
    clear h₁
    rw [stepG_region_end]
    simp only [goes_go]
    refine ⟨.refl (by simp) _, ?_⟩
    refine Conc.Goes.step rfl (fun _ h₁ => ?_)
    replace hF := wb2_rely hF h₁
    clear h₁
    rw [stepG_ret']
    simp only [goes_go]
    refine ⟨.refl (by simp) _, ?_⟩
    refine Conc.Goes.step rfl (fun _ h₁ => ?_)
    replace hF := wb2_rely hF h₁
    clear h₁
    refine goes_leave1 rfl rfl Try.func44 rfl ⟨.refl (by simp) _, ?_⟩
    walk_nrm
    have ho : rPut x y = y := by
      have h1 : ¬ y.a < x.a := by omega
      have h2 : ¬ y.a = x.a := by omega
      simp [rPut, rOlder, h1, h2]
    exact Conc.Goes.mono (eF _ (fun i hi => (hfin i hi).trans (by rw [ho])) _ hF.1) (by decide)
set_option maxRecDepth 100000 in
set_option maxHeartbeats 4000000 in
theorem worksW {Y : Lay} {m H B X C k len cap : Nat} {x y : Tr} {w : World} (hF : WKn Y [B] m H B X C k len cap x y w) (hfin : ∀ i, i < 3 → Y.fin m i = (rPut x y).cell i) (hlen : len < 9223372036854775808) (hroom : k * 3 + 3 ≤ Y.nC) :
    ∃ q, Conc.Goes Try.prog false (RX Y (some m) [B]) (DX Y (some m) [B]) (FStop Try.prog Y m 2 [B]) q (born Try.prog (callW Y.Wg H B X)) w := by
  have fin := @tailW _ Y m H B X C k len cap x y hfin hlen hroom
  refine ⟨40, Conc.Goes.step rfl fun w₁ h₁ => ?_⟩
  replace hF := hF.rely h₁
  clear h₁
  rw [bornW]
  refine ⟨.refl (by simp) _, ?_⟩
  simp only [opsW, restW, bodyW, Try.f57, Option.getD_some, pt] at fin ⊢
  have hk0 : (0 : Int) ≤ (k : Int) := by omega
  have hkl : (k : Int) < (len : Int) := by have := hF.st.lt; omega
  refine Conc.Goes.step rfl (fun _ h₁ => ?_)
  replace hF := WKn.rely hF h₁
  clear h₁
  rw [stepG_seq]
  simp only [goes_go]
  refine ⟨.refl (by simp) _, ?_⟩
  refine Conc.Goes.step rfl (fun _ h₁ => ?_)
  replace hF := WKn.rely hF h₁
  clear h₁
  rw [stepG_region]
  simp only [goes_go, List.size_toArray, List.length_cons, List.length_nil, Nat.reduceAdd, Nat.zero_add, List.range, List.range.loop]
  refine ⟨.refl (by simp) _, ?_⟩
  refine Conc.Goes.step rfl (fun _ h₁ => ?_)
  replace hF := WKn.rely hF h₁
  clear h₁
  rw [stepG_defer rfl rfl (by k_ne) rfl]
  simp only [goes_go]
  refine ⟨.refl (by simp) _, ?_⟩
  walk_nrm
  refine Conc.Goes.step rfl (fun _ h₁ => ?_)
  replace hF := WKn.rely hF h₁
  clear h₁
  rw [stepG_region_end]
  simp only [goes_go]
  refine ⟨.refl (by simp) _, ?_⟩
  refine Conc.Goes.step rfl (fun _ h₁ => ?_)
  replace hF := WKn.rely hF h₁
  clear h₁
  rw [stepG_seq]
  simp only [goes_go]
  refine ⟨.refl (by simp) _, ?_⟩
  refine goes_draw (os := [[0, 1, 2, 3, 4, 5], [0, 1, 2, 4, 3, 5], [0, 1, 4, 2, 3, 5], [0, 4, 1, 2, 3, 5], [1, 0, 2, 3, 4, 5], [1, 0, 2, 4, 3, 5], [1, 0, 4, 2, 3, 5], [1, 4, 0, 2, 3, 5], [4, 0, 1, 2, 3, 5], [4, 1, 0, 2, 3, 5]]) (by kernel_rfl) (by kernel_rfl) (fun w => DX.drawn w) (fun w₁ h₁ o ho => ?_)
  replace hF := (hF.rely h₁).rely (RX.drawn w₁)
  clear h₁
  simp only [List.mem_cons, List.not_mem_nil, or_false] at ho
  rcases ho with rfl | rfl | rfl | rfl | rfl | rfl | rfl | rfl | rfl | rfl
  · refine Conc.Goes.step rfl (fun _ h₁ => ?_)
    replace hF := WKn.rely hF h₁
    clear h₁
    refine goes_oper_k rfl rfl (by k_ne) (fun K hK => ?_)
    have q0 := hF.hdr
    go_simp
    refine hK _ _ ⟨.refl (fun e he => ?_) _, ?_⟩
    · have hm := mem_listed he
      simp [go_sem, *] at hm
      subst hm
      exact evx_ro hF.st.roH
    clear hK K q0
    refine Conc.Goes.step rfl (fun _ h₁ => ?_)
    replace hF := WKn.rely hF h₁
    clear h₁
    refine goes_oper_k rfl rfl (by k_ne) (fun K hK => ?_)
    have q0 := hF.kb
    go_simp
    refine hK _ _ ⟨.refl (fun e he => ?_) _, ?_⟩
    · have hm := mem_listed he
      simp [go_sem, *] at hm
      subst hm
      exact evx_own hF.inB
    clear hK K q0
    refine Conc.Goes.step rfl (fun _ h₁ => ?_)
    replace hF := WKn.rely hF h₁
    clear h₁
    refine goes_oper_k rfl rfl (by k_ne) (fun K hK => ?_)
    go_simp
    refine hK _ _ ⟨.refl (fun e he => ?_) _, ?_⟩
    · have hm := mem_listed he
      simp [go_sem, *] at hm
    clear hK K
    try w_num
    refine Conc.Goes.step rfl (fun _ h₁ => ?_)
    replace hF := WKn.rely hF h₁
    clear h₁
    refine goes_oper_k rfl rfl (by k_ne) (fun K hK => ?_)
    have q0 := hF.y0
    have q1 := hF.y1
    have q2 := hF.y2
    go_simp
    refine hK _ _ ⟨.refl (fun e he => ?_) _, ?_⟩
    · have hm := mem_listed he
      simp [go_sem, *] at hm
      rcases hm with rfl | rfl | rfl
      · exact evx_mine hF.st.mine0
      · exact evx_mine hF.st.mine1
      · exact evx_mine hF.st.mine2
    clear hK K q0 q1 q2
    refine Conc.Goes.step rfl (fun _ h₁ => ?_)
    replace hF := WKn.rely hF h₁
    clear h₁
    refine goes_oper_k rfl rfl (by k_ne) (fun K hK => ?_)
    have q0 := hF.x0
    have q1 := hF.x1
    have q2 := hF.x2
    go_simp
    refine hK _ _ ⟨.refl (fun e he => ?_) _, ?_⟩
    · have hm := mem_listed he
      simp [go_sem, *] at hm
      rcases hm with rfl | rfl | rfl <;> exact evx_ro hF.st.roX
    clear hK K q0 q1 q2
    exact Conc.Goes.mono (fin _ hF) (by decide)
  · refine Conc.Goes.step rfl (fun _ h₁ => ?_)
    replace hF := WKn.rely hF h₁
    clear h₁
    refine goes_oper_k rfl rfl (by k_ne) (fun K hK => ?_)
    have q0 := hF.hdr
    go_simp
    refine hK _ _ ⟨.refl (fun e he => ?_) _, ?_⟩
    · have hm := mem_listed he
      simp [go_sem, *] at hm
      subst hm
      exact evx_ro hF.st.roH
    clear hK K q0
    refine Conc.Goes.step rfl (fun _ h₁ => ?_)
    replace hF := WKn.rely hF h₁
    clear h₁
    refine goes_oper_k rfl rfl (by k_ne) (fun K hK => ?_)
    have q0 := hF.kb
    go_simp
    refine hK _ _ ⟨.refl (fun e he => ?_) _, ?_⟩
    · have hm := mem_listed he
      simp [go_sem, *] at hm
      subst hm
      exact evx_own hF.inB
    clear hK K q0
    refine Conc.Goes.step rfl (fun _ h₁ => ?_)
    replace hF := WKn.rely hF h₁
    clear h₁
    refine goes_oper_k rfl rfl (by k_ne) (fun K hK => ?_)
    go_simp
    refine hK _ _ ⟨.refl (fun e he => ?_) _, ?_⟩
    · have hm := mem_listed he
      simp [go_sem, *] at hm
    clear hK K
    try w_num
    refine Conc.Goes.step rfl (fun _ h₁ => ?_)
    replace hF := WKn.rely hF h₁
    clear h₁
    refine goes_oper_k rfl rfl (by k_ne) (fun K hK => ?_)
    have q0 := hF.x0
    have q1 := hF.x1
    have q2 := hF.x2
    go_simp
    refine hK _ _ ⟨.refl (fun e he => ?_) _, ?_⟩
    · have hm := mem_listed he
      simp [go_sem, *] at hm
      rcases hm with rfl | rfl | rfl <;> exact evx_ro hF.st.roX
    clear hK K q0 q1 q2
    refine Conc.Goes.step rfl (fun _ h₁ => ?_)
    replace hF := WKn.rely hF h₁
    clear h₁
    refine goes_oper_k rfl rfl (by k_ne) (fun K hK => ?_)
    have q0 := hF.y0
    have q1 := hF.y1
    have q2 := hF.y2
    go_simp
    refine hK _ _ ⟨.refl (fun e he => ?_) _, ?_⟩
    · have hm := mem_listed he
      simp [go_sem, *] at hm
      rcases hm with rfl | rfl | rfl
      · exact evx_mine hF.st.mine0
      · exact evx_mine hF.st.mine1
      · exact evx_mine hF.st.mine2
    clear hK K q0 q1 q2
    exact Conc.Goes.mono (fin _ hF) (by decide)
  · refine Conc.Goes.step rfl (fun _ h₁ => ?_)
    replace hF := WKn.rely hF h₁
    clear h₁
    refine goes_oper_k rfl rfl (by k_ne) (fun K hK => ?_)
    have q0 := hF.hdr
    go_simp
    refine hK _ _ ⟨.refl (fun e he => ?_) _, ?_⟩
    · have hm := mem_listed he
      simp [go_sem, *] at hm
      subst hm
      exact evx_ro hF.st.roH
    clear hK K q0
    refine Conc.Goes.step rfl (fun _ h₁ => ?_)
    replace hF := WKn.rely hF h₁
    clear h₁
    refine goes_oper_k rfl rfl (by k_ne) (fun K hK => ?_)
    have q0 := hF.kb
    go_simp
    refine hK _ _ ⟨.refl (fun e he => ?_) _, ?_⟩
    · have hm := mem_listed he
      simp [go_sem, *] at hm
      subst hm
      exact evx_own hF.inB
    clear hK K q0
    refine Conc.Goes.step rfl (fun _ h₁ => ?_)
    replace hF := WKn.rely hF h₁
    clear h₁
    refine goes_oper_k rfl rfl (by k_ne) (fun K hK => ?_)
    have q0 := hF.x0
    have q1 := hF.x1
    have q2 := hF.x2
    go_simp
    refine hK _ _ ⟨.refl (fun e he => ?_) _, ?_⟩
    · have hm := mem_listed he
      simp [go_sem, *] at hm
      rcases hm with rfl | rfl | rfl <;> exact evx_ro hF.st.roX
    clear hK K q0 q1 q2
    refine Conc.Goes.step rfl (fun _ h₁ => ?_)
    replace hF := WKn.rely hF h₁
    clear h₁
    refine goes_oper_k rfl rfl (by k_ne) (fun K hK => ?_)
    go_simp
    refine hK _ _ ⟨.refl (fun e he => ?_) _, ?_⟩
    · have hm := mem_listed he
      simp [go_sem, *] at hm
    clear hK K
    try w_num
    refine Conc.Goes.step rfl (fun _ h₁ => ?_)
    replace hF := WKn.rely hF h₁
    clear h₁
    refine goes_oper_k rfl rfl (by k_ne) (fun K hK => ?_)
    have q0 := hF.y0
    have q1 := hF.y1
    have q2 := hF.y2
    go_simp
    refine hK _ _ ⟨.refl (fun e he => ?_) _, ?_⟩
    · have hm := mem_listed he
      simp [go_sem, *] at hm
      rcases hm with rfl | rfl | rfl
      · exact evx_mine hF.st.mine0
      · exact evx_mine hF.st.mine1
      · exact evx_mine hF.st.mine2
    clear hK K q0 q1 q2
    exact Conc.Goes.mono (fin _ hF) (by decide)
  · refine Conc.Goes.step rfl (fun _ h₁ => ?_)
    replace hF := WKn.rely hF h₁
    clear h₁
    refine goes_oper_k rfl rfl (by k_ne) (fun K hK => ?_)
    have q0 := hF.hdr
    go_simp
    refine hK _ _ ⟨.refl (fun e he => ?_) _, ?_⟩
    · have hm := mem_listed he
      simp [go_sem, *] at hm
      subst hm
      exact evx_ro hF.st.roH
    clear hK K q0
    refine Conc.Goes.step rfl (fun _ h₁ => ?_)
    replace hF := WKn.rely hF h₁
    clear h₁
    refine goes_oper_k rfl rfl (by k_ne) (fun K hK => ?_)
    have q0 := hF.x0
    have q1 := hF.x1
    have q2 := hF.x2
    go_simp
    refine hK _ _ ⟨.refl (fun e he => ?_) _, ?_⟩
    · have hm := mem_listed he
      simp [go_sem, *] at hm
      rcases hm with rfl | rfl | rfl <;> exact evx_ro hF.st.roX
    clear hK K q0 q1 q2
    refine Conc.Goes.step rfl (fun _ h₁ => ?_)
    replace hF := WKn.rely hF h₁
    clear h₁
    refine goes_oper_k rfl rfl (by k_ne) (fun K hK => ?_)
    have q0 := hF.kb
    go_simp
    refine hK _ _ ⟨.refl (fun e he => ?_) _, ?_⟩
    · have hm := mem_listed he
      simp [go_sem, *] at hm
      subst hm
      exact evx_own hF.inB
    clear hK K q0
    refine Conc.Goes.step rfl (fun _ h₁ => ?_)
    replace hF := WKn.rely hF h₁
    clear h₁
    refine goes_oper_k rfl rfl (by k_ne) (fun K hK => ?_)
    go_simp
    refine hK _ _ ⟨.refl (fun e he => ?_) _, ?_⟩
    · have hm := mem_listed he
      simp [go_sem, *] at hm
    clear hK K
    try w_num
    refine Conc.Goes.step rfl (fun _ h₁ => ?_)
    replace hF := WKn.rely hF h₁
    clear h₁
    refine goes_oper_k rfl rfl (by k_ne) (fun K hK => ?_)
    have q0 := hF.y0
    have q1 := hF.y1
    have q2 := hF.y2
    go_simp
    refine hK _ _ ⟨.refl (fun e he => ?_) _, ?_⟩
    · have hm := mem_listed he
      simp [go_sem, *] at hm
      rcases hm with rfl | rfl | rfl
      · exact evx_mine hF.st.mine0
      · exact evx_mine hF.st.mine1
      · exact evx_mine hF.st.mine2
    clear hK K q0 q1 q2
    exact Conc.Goes.mono (fin _ hF) (by decide)
  · refine Conc.Goes.step rfl (fun _ h₁ => ?_)
    replace hF := WKn.rely hF h₁
    clear h₁
    refine goes_oper_k rfl rfl (by k_ne) (fun K hK => ?_)
    have q0 := hF.kb
    go_simp
    refine hK _ _ ⟨.refl (fun e he => ?_) _, ?_⟩
    · have hm := mem_listed he
      simp [go_sem, *] at hm
      subst hm
      exact evx_own hF.inB
    clear hK K q0
    refine Conc.Goes.step rfl (fun _ h₁ => ?_)
    replace hF := WKn.rely hF h₁
    clear h₁
    refine goes_oper_k rfl rfl (by k_ne) (fun K hK => ?_)
    have q0 := hF.hdr
    go_simp
    refine hK _ _ ⟨.refl (fun e he => ?_) _, ?_⟩
    · have hm := mem_listed he
      simp [go_sem, *] at hm
      subst hm
      exact evx_ro hF.st.roH
    clear hK K q0
    refine Conc.Goes.step rfl (fun _ h₁ => ?_)
    replace hF := WKn.rely hF h₁
    clear h₁
    refine goes_oper_k rfl rfl (by k_ne) (fun K hK => ?_)
    go_simp
    refine hK _ _ ⟨.refl (fun e he => ?_) _, ?_⟩
    · have hm := mem_listed he
      simp [go_sem, *] at hm
    clear hK K
    try w_num
    refine Conc.Goes.step rfl (fun _ h₁ => ?_)
    replace hF := WKn.rely hF h₁
    clear h₁
    refine goes_oper_k rfl rfl (by k_ne) (fun K hK => ?_)
    have q0 := hF.y0
    have q1 := hF.y1
    have q2 := hF.y2
    go_simp
    refine hK _ _ ⟨.refl (fun e he => ?_) _, ?_⟩
    · have hm := mem_listed he
      simp [go_sem, *] at hm
      rcases hm with rfl | rfl | rfl
      · exact evx_mine hF.st.mine0
      · exact evx_mine hF.st.mine1
      · exact evx_mine hF.st.mine2
    clear hK K q0 q1 q2
    refine Conc.Goes.step rfl (fun _ h₁ => ?_)
    replace hF := WKn.rely hF h₁
    clear h₁
    refine goes_oper_k rfl rfl (by k_ne) (fun K hK => ?_)
    have q0 := hF.x0
    have q1 := hF.x1
    have q2 := hF.x2
    go_simp
    refine hK _ _ ⟨.refl (fun e he => ?_) _, ?_⟩
    · have hm := mem_listed he
      simp [go_sem, *] at hm
      rcases hm with rfl | rfl | rfl <;> exact evx_ro hF.st.roX
    clear hK K q0 q1 q2
    exact Conc.Goes.mono (fin _ hF) (by decide)
  · refine Conc.Goes.step rfl (fun _ h₁ => ?_)
    replace hF := WKn.rely hF h₁
    clear h₁
    refine goes_oper_k rfl rfl (by k_ne) (fun K hK => ?_)
    have q0 := hF.kb
    go_simp
    refine hK _ _ ⟨.refl (fun e he => ?_) _, ?_⟩
    · have hm := mem_listed he
      simp [go_sem, *] at hm
      subst hm
      exact evx_own hF.inB
    clear hK K q0
    refine Conc.Goes.step rfl (fun _ h₁ => ?_)
    replace hF := WKn.rely hF h₁
    clear h₁
    refine goes_oper_k rfl rfl (by k_ne) (fun K hK => ?_)
    have q0 := hF.hdr
    go_simp
    refine hK _ _ ⟨.refl (fun e he => ?_) _, ?_⟩
    · have hm := mem_listed he
      simp [go_sem, *] at hm
      subst hm
      exact evx_ro hF.st.roH
    clear hK K q0
    refine Conc.Goes.step rfl (fun _ h₁ => ?_)
    replace hF := WKn.rely hF h₁
    clear h₁
    refine goes_oper_k rfl rfl (by k_ne) (fun K hK => ?_)
    go_simp
    refine hK _ _ ⟨.refl (fun e he => ?_) _, ?_⟩
    · have hm := mem_listed he
      simp [go_sem, *] at hm
    clear hK K
    try w_num
    refine Conc.Goes.step rfl (fun _ h₁ => ?_)
    replace hF := WKn.rely hF h₁
    clear h₁
    refine goes_oper_k rfl rfl (by k_ne) (fun K hK => ?_)
    have q0 := hF.x0
    have q1 := hF.x1
    have q2 := hF.x2
    go_simp
    refine hK _ _ ⟨.refl (fun e he => ?_) _, ?_⟩
    · have hm := mem_listed he
      simp [go_sem, *] at hm
      rcases hm with rfl | rfl | rfl <;> exact evx_ro hF.st.roX
    clear hK K q0 q1 q2
    refine Conc.Goes.step rfl (fun _ h₁ => ?_)
    replace hF := WKn.rely hF h₁
    clear h₁
    refine goes_oper_k rfl rfl (by k_ne) (fun K hK => ?_)
    have q0 := hF.y0
    have q1 := hF.y1
    have q2 := hF.y2
    go_simp
    refine hK _ _ ⟨.refl (fun e he => ?_) _, ?_⟩
    · have hm := mem_listed he
      simp [go_sem, *] at hm
      rcases hm with rfl | rfl | rfl
      · exact evx_mine hF.st.mine0
      · exact evx_mine hF.st.mine1
      · exact evx_mine hF.st.mine2
    clear hK K q0 q1 q2
    exact Conc.Goes.mono (fin _ hF) (by decide)
  · refine Conc.Goes.step rfl (fun _ h₁ => ?_)
    replace hF := WKn.rely hF h₁
    clear h₁
    refine goes_oper_k rfl rfl (by k_ne) (fun K hK => ?_)
    have q0 := hF.kb
    go_simp
    refine hK _ _ ⟨.refl (fun e he => ?_) _, ?_⟩
    · have hm := mem_listed he
      simp [go_sem, *] at hm
      subst hm
      exact evx_own hF.inB
    clear hK K q0
    refine Conc.Goes.step rfl (fun _ h₁ => ?_)
    replace hF := WKn.rely hF h₁
    clear h₁
    refine goes_oper_k rfl rfl (by k_ne) (fun K hK => ?_)
    have q0 := hF.hdr
    go_simp
    refine hK _ _ ⟨.refl (fun e he => ?_) _, ?_⟩
    · have hm := mem_listed he
      simp [go_sem, *] at hm
      subst hm
      exact evx_ro hF.st.roH
    clear hK K q0
    refine Conc.Goes.step rfl (fun _ h₁ => ?_)
    replace hF := WKn.rely hF h₁
    clear h₁
    refine goes_oper_k rfl rfl (by k_ne) (fun K hK => ?_)
    have q0 := hF.x0
    have q1 := hF.x1
    have q2 := hF.x2
    go_simp
    refine hK _ _ ⟨.refl (fun e he => ?_) _, ?_⟩
    · have hm := mem_listed he
      simp [go_sem, *] at hm
      rcases hm with rfl | rfl | rfl <;> exact evx_ro hF.st.roX
    clear hK K q0 q1 q2
    refine Conc.Goes.step rfl (fun _ h₁ => ?_)
    replace hF := WKn.rely hF h₁
    clear h₁
    refine goes_oper_k rfl rfl (by k_ne) (fun K hK => ?_)
    go_simp
    refine hK _ _ ⟨.refl (fun e he => ?_) _, ?_⟩
    · have hm := mem_listed he
      simp [go_sem, *] at hm
    clear hK K
    try w_num
    refine Conc.Goes.step rfl (fun _ h₁ => ?_)
    replace hF := WKn.rely hF h₁
    clear h₁
    refine goes_oper_k rfl rfl (by k_ne) (fun K hK => ?_)
    have q0 := hF.y0
    have q1 := hF.y1
    have q2 := hF.y2
    go_simp
    refine hK _ _ ⟨.refl (fun e he => ?_) _, ?_⟩
    · have hm := mem_listed he
      simp [go_sem, *] at hm
      rcases hm with rfl | rfl | rfl
      · exact evx_mine hF.st.mine0
      · exact evx_mine hF.st.mine1
      · exact evx_mine hF.st.mine2
    clear hK K q0 q1 q2
    exact Conc.Goes.mono (fin _ hF) (by decide)
  · refine Conc.Goes.step rfl (fun _ h₁ => ?_)
    replace hF := WKn.rely hF h₁
    clear h₁
    refine goes_oper_k rfl rfl (by k_ne) (fun K hK => ?_)
    have q0 := hF.kb
    go_simp
    refine hK _ _ ⟨.refl (fun e he => ?_) _, ?_⟩
    · have hm := mem_listed he
      simp [go_sem, *] at hm
      subst hm
      exact evx_own hF.inB
    clear hK K q0
    refine Conc.Goes.step rfl (fun _ h₁ => ?_)
    replace hF := WKn.rely hF h₁
    clear h₁
    refine goes_oper_k rfl rfl (by k_ne) (fun K hK => ?_)
    have q0 := hF.x0
    have q1 := hF.x1
    have q2 := hF.x2
    go_simp
    refine hK _ _ ⟨.refl (fun e he => ?_) _, ?_⟩
    · have hm := mem_listed he
      simp [go_sem, *] at hm
      rcases hm with rfl | rfl | rfl <;> exact evx_ro hF.st.roX
    clear hK K q0 q1 q2
    refine Conc.Goes.step rfl (fun _ h₁ => ?_)
    replace hF := WKn.rely hF h₁
    clear h₁
    refine goes_oper_k rfl rfl (by k_ne) (fun K hK => ?_)
    have q0 := hF.hdr
    go_simp
    refine hK _ _ ⟨.refl (fun e he => ?_) _, ?_⟩
    · have hm := mem_listed he
      simp [go_sem, *] at hm
      subst hm
      exact evx_ro hF.st.roH
    clear hK K q0
    refine Conc.Goes.step rfl (fun _ h₁ => ?_)
    replace hF := WKn.rely hF h₁
    clear h₁
    refine goes_oper_k rfl rfl (by k_ne) (fun K hK => ?_)
    go_simp
    refine hK _ _ ⟨.refl (fun e he => ?_) _, ?_⟩
    · have hm := mem_listed he
      simp [go_sem, *] at hm
    clear hK K
    try w_num
    refine Conc.Goes.step rfl (fun _ h₁ => ?_)
    replace hF := WKn.rely hF h₁
    clear h₁
    refine goes_oper_k rfl rfl (by k_ne) (fun K hK => ?_)
    have q0 := hF.y0
    have q1 := hF.y1
    have q2 := hF.y2
    go_simp
    refine hK _ _ ⟨.refl (fun e he => ?_) _, ?_⟩
    · have hm := mem_listed he
      simp [go_sem, *] at hm
      rcases hm with rfl | rfl | rfl
      · exact evx_mine hF.st.mine0
      · exact evx_mine hF.st.mine1
      · exact evx_mine hF.st.mine2
    clear hK K q0 q1 q2
    exact Conc.Goes.mono (fin _ hF) (by decide)
  · refine Conc.Goes.step rfl (fun _ h₁ => ?_)
    replace hF := WKn.rely hF h₁
    clear h₁
    refine goes_oper_k rfl rfl (by k_ne) (fun K hK => ?_)
    have q0 := hF.x0
    have q1 := hF.x1
    have q2 := hF.x2
    go_simp
    refine hK _ _ ⟨.refl (fun e he => ?_) _, ?_⟩
    · have hm := mem_listed he
      simp [go_sem, *] at hm
      rcases hm with rfl | rfl | rfl <;> exact evx_ro hF.st.roX
    clear hK K q0 q1 q2
    refine Conc.Goes.step rfl (fun _ h₁ => ?_)
    replace hF := WKn.rely hF h₁
    clear h₁
    refine goes_oper_k rfl rfl (by k_ne) (fun K hK => ?_)
    have q0 := hF.hdr
    go_simp
    refine hK _ _ ⟨.refl (fun e he => ?_) _, ?_⟩
    · have hm := mem_listed he
      simp [go_sem, *] at hm
      subst hm
      exact evx_ro hF.st.roH
    clear hK K q0
    refine Conc.Goes.step rfl (fun _ h₁ => ?_)
    replace hF := WKn.rely hF h₁
    clear h₁
    refine goes_oper_k rfl rfl (by k_ne) (fun K hK => ?_)
    have q0 := hF.kb
    go_simp
    refine hK _ _ ⟨.refl (fun e he => ?_) _, ?_⟩
    · have hm := mem_listed he
      simp [go_sem, *] at hm
      subst hm
      exact evx_own hF.inB
    clear hK K q0
    refine Conc.Goes.step rfl (fun _ h₁ => ?_)
    replace hF := WKn.rely hF h₁
    clear h₁
    refine goes_oper_k rfl rfl (by k_ne) (fun K hK => ?_)
    go_simp
    refine hK _ _ ⟨.refl (fun e he => ?_) _, ?_⟩
    · have hm := mem_listed he
      simp [go_sem, *] at hm
    clear hK K
    try w_num
    refine Conc.Goes.step rfl (fun _ h₁ => ?_)
    replace hF := WKn.rely hF h₁
    clear h₁
    refine goes_oper_k rfl rfl (by k_ne) (fun K hK => ?_)
    have q0 := hF.y0
    have q1 := hF.y1
    have q2 := hF.y2
    go_simp
    refine hK _ _ ⟨.refl (fun e he => ?_) _, ?_⟩
    · have hm := mem_listed he
      simp [go_sem, *] at hm
      rcases hm with rfl | rfl | rfl
      · exact evx_mine hF.st.mine0
      · exact evx_mine hF.st.mine1
      · exact evx_mine hF.st.mine2
    clear hK K q0 q1 q2
    exact Conc.Goes.mono (fin _ hF) (by decide)
  · refine Conc.Goes.step rfl (fun _ h₁ => ?_)
    replace hF := WKn.rely hF h₁
    clear h₁
    refine goes_oper_k rfl rfl (by k_ne) (fun K hK => ?_)
    have q0 := hF.x0
    have q1 := hF.x1
    have q2 := hF.x2
    go_simp
    refine hK _ _ ⟨.refl (fun e he => ?_) _, ?_⟩
    · have hm := mem_listed he
      simp [go_sem, *] at hm
      rcases hm with rfl | rfl | rfl <;> exact evx_ro hF.st.roX
    clear hK K q0 q1 q2
    refine Conc.Goes.step rfl (fun _ h₁ => ?_)
    replace hF := WKn.rely hF h₁
    clear h₁
    refine goes_oper_k rfl rfl (by k_ne) (fun K hK => ?_)
    have q0 := hF.kb
    go_simp
    refine hK _ _ ⟨.refl (fun e he => ?_) _, ?_⟩
    · have hm := mem_listed he
      simp [go_sem, *] at hm
      subst hm
      exact evx_own hF.inB
    clear hK K q0
    refine Conc.Goes.step rfl (fun _ h₁ => ?_)
    replace hF := WKn.rely hF h₁
    clear h₁
    refine goes_oper_k rfl rfl (by k_ne) (fun K hK => ?_)
    have q0 := hF.hdr
    go_simp
    refine hK _ _ ⟨.refl (fun e he => ?_) _, ?_⟩
    · have hm := mem_listed he
      simp [go_sem, *] at hm
      subst hm
      exact evx_ro hF.st.roH
    clear hK K q0
    refine Conc.Goes.step rfl (fun _ h₁ => ?_)
    replace hF := WKn.rely hF h₁
    clear h₁
    refine goes_oper_k rfl rfl (by k_ne) (fun K hK => ?_)
    go_simp
    refine hK _ _ ⟨.refl (fun e he => ?_) _, ?_⟩
    · have hm := mem_listed he
      simp [go_sem, *] at hm
    clear hK K
    try w_num
    refine Conc.Goes.step rfl (fun _ h₁ => ?_)
    replace hF := WKn.rely hF h₁
    clear h₁
    refine goes_oper_k rfl rfl (by k_ne) (fun K hK => ?_)
    have q0 := hF.y0
    have q1 := hF.y1
    have q2 := hF.y2
    go_simp
    refine hK _ _ ⟨.refl (fun e he => ?_) _, ?_⟩
    · have hm := mem_listed he
      simp [go_sem, *] at hm
      rcases hm with rfl | rfl | rfl
      · exact evx_mine hF.st.mine0
      · exact evx_mine hF.st.mine1
      · exact evx_mine hF.st.mine2
    clear hK K q0 q1 q2
    exact Conc.Goes.mono (fin _ hF) (by decide)
end Go.Proofs.Ytkefnmmpipeppaa
