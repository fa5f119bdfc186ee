/-
  Theory of walks beside goroutines that only leave (part 6).
-/
import Derived.Test.YtkefnmmpipeppaaRg5
set_option linter.unusedSimpArgs false
set_option linter.unusedVariables false
set_option linter.unusedSectionVars false
namespace Go.Proofs.Ytkefnmmpipeppaa.Rg
open Go.Conc Go.ConcN Go.RowKit
open Go.ConcR (KK wgBlock WgAt stA smA rd wr mk Payload Aside2 DC0 Bk g_of_ofEvents bk_of_mute ofEvent_loc_mark deafBehind_cons deafBehind_one)
variable [Kept]

section
variable [Payload] (P : Program) (Y : Lay) (AnchW Fin : Goroutine → World → Prop)
def InvX (μ : Nat × Nat) (m : Machine) (t : Trace) : Prop :=
  ∃ (gs : Array Goroutine) (w : World) (sl : Option (Nat × Nat)) (j : Nat) (D : Nat → WD) (Rm : Nat → Nat) (Sw : Nat → List Nat) (S0 : List Nat) (Q : Nat → Nat) (tag : CTag) (f0 d0 : Nat) (a : Goroutine) (st sm : Int),
    m = crowd gs w sl ∧ gs[0]? = some a ∧ SSit P Y AnchW Fin tag j S0 f0 d0 a w ∧ Crew P Y j gs w t D Rm Sw S0 d0 Q ∧ WgAt Y.ty Y.Wg w st sm ∧ ConcN.Mode j D tag st sm ∧
    μ = (phi Y.n (Vc j D) tag + Ssum j D + sumTo j Rm, f0 + 2 * Fsum j D + 2 * sumTo Y.K Q)
/-- WHEN ALL ARE JOINED. -/
def GoodX (m : Machine) (t : Trace) : Prop :=
  ∃ (gs : Array Goroutine) (w : World) (sl : Option (Nat × Nat)) (Q : Nat → Nat) (a : Goroutine),
    m = crowd gs w sl ∧ gs[0]? = some a ∧ Fin a w ∧ Leavers P t gs Q ∧ Past (fun l => SnL Y l ∨ WgL Y l) w.heap.size t ∧ WIn Y w ∧ WgLive Y.ty Y.Wg w ∧ ∀ m, m < Y.n → HasF Y m w
end

section
variable [Payload] {P : Program} {Y : Lay} {AnchW Fin : Goroutine → World → Prop} {j : Nat} {gs : Array Goroutine} {w w' : World} {sl : Option (Nat × Nat)} {t : Trace} {D : Nat → WD} {Rm : Nat → Nat} {Sw : Nat → List Nat} {S0 : List Nat} {d0 f0 : Nat} {Q : Nat → Nat} {tag : CTag} {a : Goroutine} {st sm : Int}

/-- WHATEVER STEP OF WORKER m's. -/
theorem workerX (A : Y.Ok) (hAr : ∀ g w, AnchW g w → g.status = .running)
    (ha : gs[0]? = some a) (hcs : SSit P Y AnchW Fin tag j S0 f0 d0 a w) (hcom : Crew P Y j gs w t D Rm Sw S0 d0 Q)
    {m : Nat} (hm : m < j) {g g' : Goroutine} {es : Array Event} {s' q' dd' r' : Nat} {S' : List Nat} {st' sm' : Int} (hg : gs[Y.K + m]? = some g) (hgo : stepG P false g w = .go g' w' es)
    (hR0 : RX Y none S0 w w') (hrx : ∀ m', m' < j → m' ≠ m → RX Y (some m') (Sw m') w w') (hun : ∀ m', j ≤ m' → m' < Y.n → RX Y (some m') [] w w')
    (hs' : WS P Y m s' r' S' q' dd' g' w')
    (hpt : PT Y (upd Sw m S') j w'.heap.size (t ++ MemOp.ofEvents (Y.K + m) g.frame.fn g.frame.place es)) (hsets : Sets Y (upd Sw m S') j w'.heap.size)
    (hs0 : ∀ b ∈ S0, (Y.Low ≤ b ∧ b < w'.heap.size) ∧ ∀ m', m' < j → b ∉ upd Sw m S' m') (hwin : WIn Y w')
    (hdeaf : deafBehind (D m).deaf es = dd')
    (hrel : s' ≤ 6 → ∃ r, RelBy (stA Y.Wg) (t ++ MemOp.ofEvents (Y.K + m) g.frame.fn g.frame.place es) (Y.K + m) r)
    (hhas : s' ≤ 6 → HasF Y m w') (hwg : WgAt Y.ty Y.Wg w' st' sm')
    (hmode : ∀ tag', (tag' = tag ∨ (tag = .blk ∧ tag' = .w3)) → (mayWake P g = true → g'.status = .running → tag' ≠ .blk) → ConcN.Mode j (upd D m ⟨s', q', dd'⟩) tag' st' sm')
    (hlt : (s' < (D m).stage ∧ cnt ⟨s', q', dd'⟩ ≤ cnt (D m) ∧ r' ≤ Rm m) ∨ (s' = (D m).stage ∧ r' < Rm m) ∨ (s' = (D m).stage ∧ r' = Rm m ∧ q' + 1 = (D m).fuel)) :
    ∃ m₁ ops μ', runT P (crowd gs w sl) (Y.K + m) = (.next m₁, ops) ∧ Lt2 μ' (phi Y.n (Vc j D) tag + Ssum j D + sumTo j Rm, f0 + 2 * Fsum j D + 2 * sumTo Y.K Q) ∧ InvX P Y AnchW Fin μ' m₁ (t ++ ops) := by
  have hK := A.hK
  obtain ⟨tag', f', hcs', hf', htag, hwk⟩ := hcs.wokenBy hAr hR0 g g'
  have hne0 : (Y.K + m == 0) = false := by simp; omega
  have hrun := runT_crowd_go (P := P) (sl := sl) (i := Y.K + m) hg (by rw [hne0]; exact hgo)
  have e1 := sumTo_upd D (⟨s', q', dd'⟩ : WD) cnt hm
  have e2 := sumTo_upd D (⟨s', q', dd'⟩ : WD) WD.stage hm
  have e3 := sumTo_upd D (⟨s', q', dd'⟩ : WD) WD.fuel hm
  have e4 := sumTo_upd Rm r' id hm
  simp only [id] at e4
  refine ⟨_, _, (phi Y.n (Vc j (upd D m ⟨s', q', dd'⟩)) tag' + Ssum j (upd D m ⟨s', q', dd'⟩) + sumTo j (upd Rm m r'), f' + 2 * Fsum j (upd D m ⟨s', q', dd'⟩) + 2 * sumTo Y.K Q), hrun, ?_,
    _, w', sl, j, upd D m ⟨s', q', dd'⟩, upd Rm m r', upd Sw m S', S0, Q, tag', f', d0, woken P g g' w' a, st', sm', rfl, by rw [get_map_set _ _ _ _ (by omega), ha]; rfl, hcs', hcom.stepW A hm hrx hun hs' hpt hsets hs0 hwin hdeaf hrel hhas, hwg, hmode tag' htag hwk, rfl⟩
  rw [phi_retag Y.n _ htag]
  have e4' : sumTo j (upd Rm m r') + Rm m = sumTo j Rm + r' := e4
  have cs : s' = (D m).stage → cnt (⟨s', q', dd'⟩ : WD) = cnt (D m) := fun h => by simp only [cnt, h]
  have hle := phi_mono Y.n (v' := Vc j (upd D m ⟨s', q', dd'⟩)) (v := Vc j D)
  simp only [Vc, Ssum, Fsum] at *
  rcases hlt with ⟨h1, h2, h3⟩ | ⟨h1, h3⟩ | ⟨h1, h2, h3⟩
  · refine Prod.Lex.left _ _ ?_
    have := hle (by omega) tag
    omega
  · refine Prod.Lex.left _ _ ?_
    have := cs h1
    have := hle (by omega) tag
    omega
  · have ec := cs h1
    have ev : (sumTo j fun a => cnt (upd D m ⟨s', q', dd'⟩ a)) = sumTo j fun a => cnt (D a) := by omega
    have es' : (sumTo j fun a => (upd D m ⟨s', q', dd'⟩ a).stage) = sumTo j fun a => (D a).stage := by omega
    have er : sumTo j (upd Rm m r') = sumTo j Rm := by omega
    rw [ev, es', er]
    refine Prod.Lex.right _ ?_
    omega

/-- .. in which its own blocks stand, and as many are still to be made. -/
theorem workerS (A : Y.Ok) (hAr : ∀ g w, AnchW g w → g.status = .running)
    (ha : gs[0]? = some a) (hcs : SSit P Y AnchW Fin tag j S0 f0 d0 a w) (hcom : Crew P Y j gs w t D Rm Sw S0 d0 Q)
    {m : Nat} (hm : m < j) {g g' : Goroutine} {es : Array Event} {s' q' dd' : Nat} {st' sm' : Int} (hg : gs[Y.K + m]? = some g) (hgo : stepG P false g w = .go g' w' es)
    (hsz : w'.heap.size = w.heap.size) (hR0 : RX Y none S0 w w') (hrx : ∀ m', m' < j → m' ≠ m → RX Y (some m') (Sw m') w w') (hun : ∀ m', j ≤ m' → m' < Y.n → RX Y (some m') [] w w')
    (hs' : WS P Y m s' (Rm m) (Sw m) q' dd' g' w')
    (hok : ∀ op ∈ MemOp.ofEvents (Y.K + m) g.frame.fn g.frame.place es, OpOk Y (some m) (Sw m) w.heap.size op) (hwin : WIn Y w')
    (hdeaf : deafBehind (D m).deaf es = dd')
    (hrel : s' ≤ 6 → ∃ r, RelBy (stA Y.Wg) (t ++ MemOp.ofEvents (Y.K + m) g.frame.fn g.frame.place es) (Y.K + m) r)
    (hhas : s' ≤ 6 → HasF Y m w') (hwg : WgAt Y.ty Y.Wg w' st' sm')
    (hmode : ∀ tag', (tag' = tag ∨ (tag = .blk ∧ tag' = .w3)) → (mayWake P g = true → g'.status = .running → tag' ≠ .blk) → ConcN.Mode j (upd D m ⟨s', q', dd'⟩) tag' st' sm')
    (hlt : (s' < (D m).stage ∧ cnt ⟨s', q', dd'⟩ ≤ cnt (D m)) ∨ (s' = (D m).stage ∧ q' + 1 = (D m).fuel)) :
    ∃ m₁ ops μ', runT P (crowd gs w sl) (Y.K + m) = (.next m₁, ops) ∧ Lt2 μ' (phi Y.n (Vc j D) tag + Ssum j D + sumTo j Rm, f0 + 2 * Fsum j D + 2 * sumTo Y.K Q) ∧ InvX P Y AnchW Fin μ' m₁ (t ++ ops) := by
  refine workerX A hAr ha hcs hcom hm hg hgo hR0 hrx hun hs' ?_ ?_ ?_ hwin hdeaf hrel hhas hwg hmode (hlt.elim (fun x => .inl ⟨x.1, x.2, Nat.le_refl _⟩) fun x => .inr (.inr ⟨x.1, rfl, x.2⟩))
  · rw [upd_self, hsz]
    exact hcom.pt.appW A hcom.sets hcom.jn hm g_ofEvents hok
  · rw [upd_self, hsz]; exact hcom.sets
  · rw [upd_self, hsz]; exact hcom.s0

/-- WHATEVER STEP OF THE STARTER's THAT IS NEITHER A go STATEMENT NOR THE LAST. -/
theorem starterX (A : Y.Ok)
    (ha : gs[0]? = some a) (hcom : Crew P Y j gs w t D Rm Sw S0 d0 Q)
    {a' : Goroutine} {es : Array Event} {tag' : CTag} {f' : Nat} {S0' : List Nat} {st' sm' : Int} (hgo : stepG P true a w = .go a' w' es)
    (hrx : ∀ m', m' < j → RX Y (some m') (Sw m') w w') (hun : ∀ m', j ≤ m' → m' < Y.n → RX Y (some m') [] w w')
    (hpt : PT Y Sw j w'.heap.size (t ++ MemOp.ofEvents 0 a.frame.fn a.frame.place es)) (hsz : w.heap.size ≤ w'.heap.size)
    (hs0 : ∀ b ∈ S0', (Y.Low ≤ b ∧ b < w'.heap.size) ∧ ∀ m', m' < j → b ∉ Sw m') (hwin : WIn Y w')
    (hcs' : SSit P Y AnchW Fin tag' j S0' f' (deafBehind d0 es) a' w') (hwg : WgAt Y.ty Y.Wg w' st' sm') (hmode : ConcN.Mode j D tag' st' sm')
    (hlt : phi Y.n (Vc j D) tag' < phi Y.n (Vc j D) tag ∨ (phi Y.n (Vc j D) tag' = phi Y.n (Vc j D) tag ∧ f' < f0)) :
    ∃ m₁ ops μ', runT P (crowd gs w sl) 0 = (.next m₁, ops) ∧ Lt2 μ' (phi Y.n (Vc j D) tag + Ssum j D + sumTo j Rm, f0 + 2 * Fsum j D + 2 * sumTo Y.K Q) ∧ InvX P Y AnchW Fin μ' m₁ (t ++ ops) := by
  have hK := A.hK
  have hrun := runT_crowd_go (P := P) (sl := sl) (i := 0) ha (by simpa using hgo)
  refine ⟨_, _, (phi Y.n (Vc j D) tag' + Ssum j D + sumTo j Rm, f' + 2 * Fsum j D + 2 * sumTo Y.K Q), hrun, ?_,
    _, w', sl, j, D, Rm, Sw, S0', Q, tag', f', deafBehind d0 es, a', st', sm', rfl, get_map_set_same _ _ _ (by rw [hcom.size]; omega), hcs', hcom.step0 A hrx hun hpt hsz hs0 hwin, hwg, hmode, rfl⟩
  rcases hlt with h | ⟨h1, h2⟩
  · exact Prod.Lex.left _ _ (by omega)
  · rw [h1]; exact Prod.Lex.right _ (by omega)

/-- A STEP OF ONE THAT ONLY LEAVES. -/
theorem leaverX (A : Y.Ok) (hAr : ∀ g w, AnchW g w → g.status = .running)
    (ha : gs[0]? = some a) (hcs : SSit P Y AnchW Fin tag j S0 f0 d0 a w) (hcom : Crew P Y j gs w t D Rm Sw S0 d0 Q) (hwg : WgAt Y.ty Y.Wg w st sm) (hmode : ConcN.Mode j D tag st sm)
    {i : Nat} (h0 : 0 < i) (hi : i < Y.K) {g : Goroutine} (hg : gs[i]? = some g) (hrun : g.status = .running) :
    ∃ m₁ ops μ', runT P (crowd gs w sl) i = (.next m₁, ops) ∧ Lt2 μ' (phi Y.n (Vc j D) tag + Ssum j D + sumTo j Rm, f0 + 2 * Fsum j D + 2 * sumTo Y.K Q) ∧ InvX P Y AnchW Fin μ' m₁ (t ++ ops) := by
  obtain ⟨g₁, hg₁, hq⟩ := hcom.old i h0 hi
  obtain rfl : g = g₁ := by rw [hg] at hg₁; exact Option.some.inj hg₁
  cases hqi : Q i with
  | zero => rw [hqi] at hq; rw [hq.1] at hrun; cases hrun
  | succ k =>
    rw [hqi] at hq
    rcases hq with ⟨hf, _⟩ | ⟨_, g', es, hmu, hstp, hq'⟩
    · rw [hf] at hrun; cases hrun
    · obtain ⟨tag', f', hcs', hf', htag, hwk⟩ := hcs.wokenBy hAr (.refl w) g g'
      have hne0 : (i == 0) = false := by simp; omega
      have hr := runT_crowd_go (P := P) (sl := sl) (i := i) hg (by rw [hne0]; exact hstp w)
      have e4 : sumTo Y.K (upd Q i k) + Q i = sumTo Y.K Q + k := sumTo_upd Q k id hi
      refine ⟨_, _, (phi Y.n (Vc j D) tag' + Ssum j D + sumTo j Rm, f' + 2 * Fsum j D + 2 * sumTo Y.K (upd Q i k)), hr, ?_,
        _, w, sl, j, D, Rm, Sw, S0, upd Q i k, tag', f', d0, woken P g g' w a, st, sm, rfl, by rw [get_map_set _ _ _ _ (by omega), ha]; rfl, hcs', hcom.stepO A h0 hi hmu hq', hwg, hmode.retag htag, rfl⟩
      rw [phi_retag Y.n _ htag]
      refine Prod.Lex.right _ ?_
      omega
end
end Go.Proofs.Ytkefnmmpipeppaa.Rg

namespace Go.Proofs.Ytkefnmmpipeppaa.Rg
open Go.Conc Go.ConcN Go.RowKit
open Go.ConcR (KK wgBlock WgAt stA smA rd wr mk Payload Aside2 DC0 Bk g_of_ofEvents bk_of_mute ofEvent_loc_mark deafBehind_cons deafBehind_one)
variable [Kept]

section
variable [Payload] {P : Program} {Y : Lay} {AnchW Fin : Goroutine → World → Prop} {j : Nat} {gs : Array Goroutine} {w w' : World} {sl : Option (Nat × Nat)} {t : Trace} {D : Nat → WD} {Rm : Nat → Nat} {Sw : Nat → List Nat} {S0 : List Nat} {d0 f0 : Nat} {Q : Nat → Nat} {tag : CTag} {a : Goroutine} {st sm : Int}

theorem Crew.lowS (h : Crew P Y j gs w t D Rm Sw S0 d0 Q) {m : Nat} (hm : m < j) : ∀ b ∈ Sw m, Y.Low ≤ b := fun b hb => (h.sets.inB m hm b hb).1
theorem Crew.low0 (h : Crew P Y j gs w t D Rm Sw S0 d0 Q) : ∀ b ∈ S0, Y.Low ≤ b := fun b hb => (h.s0 b hb).1.1
theorem Crew.hasWg (A : Y.Ok) (h : Crew P Y j gs w t D Rm Sw S0 d0 Q) (has : Aside Y.Wg w w') (hl : WgLive Y.ty Y.Wg w') {m : Nat} (hm : m < j) (x : HasF Y m w) : HasF Y m w' :=
  x.of_rx (S := []) A (RX.of_wg A has hl (by simp))

/-- A STEP OF THE LIBRARY's BOOKKEEPING, by a worker. -/
theorem bookW (A : Y.Ok) (hAr : ∀ g w, AnchW g w → g.status = .running)
    (ha : gs[0]? = some a) (hcs : SSit P Y AnchW Fin tag j S0 f0 d0 a w) (hcom : Crew P Y j gs w t D Rm Sw S0 d0 Q)
    {m : Nat} (hm : m < j) {g g' : Goroutine} {es : Array Event} {s' q' dd' : Nat} {st' sm' : Int} (hg : gs[Y.K + m]? = some g) (hgo : stepG P false g w = .go g' w' es) (hAs : Aside Y.Wg w w') (hwg : WgAt Y.ty Y.Wg w' st' sm') (hbk : ∀ e ∈ es, Bk Y.Wg e)
    (hd : ∀ jx e, es[jx]? = some e → (MemAct.ofEvent e).touch? = none ∨ 0 < deafBehind (D m).deaf (es.extract 0 jx)) (hs' : WS P Y m s' (Rm m) (Sw m) q' dd' g' w') (hdd : deafBehind (D m).deaf es = dd') (h6 : (D m).stage ≤ 6)
    (hmode : ∀ tag', (tag' = tag ∨ (tag = .blk ∧ tag' = .w3)) → (mayWake P g = true → g'.status = .running → tag' ≠ .blk) → ConcN.Mode j (upd D m ⟨s', q', dd'⟩) tag' st' sm')
    (hlt : (s' < (D m).stage ∧ cnt ⟨s', q', dd'⟩ ≤ cnt (D m)) ∨ (s' = (D m).stage ∧ q' + 1 = (D m).fuel)) :
    ∃ m₁ ops μ', runT P (crowd gs w sl) (Y.K + m) = (.next m₁, ops) ∧ Lt2 μ' (phi Y.n (Vc j D) tag + Ssum j D + sumTo j Rm, f0 + 2 * Fsum j D + 2 * sumTo Y.K Q) ∧ InvX P Y AnchW Fin μ' m₁ (t ++ ops) := by
  have hl : WgLive Y.ty Y.Wg w' := ⟨_, _, hwg⟩
  refine workerS A hAr ha hcs hcom hm hg hgo hAs.size (RX.of_wg A hAs hl hcom.low0) (fun m' hm' _ => RX.of_wg A hAs hl (hcom.lowS hm')) (fun _ _ _ => RX.of_wg A hAs hl (by simp)) hs' (ops_bk A hcom.win.size hbk) (hcom.win.of_wg A hAs) hdd (fun _ => ?_) (fun _ => hcom.hasWg A hAs hl hm (hcom.has m hm h6)) hwg hmode hlt
  obtain ⟨r, hr⟩ := hcom.rel m hm h6
  exact ⟨r, hr.book (hcom.deafW m hm) _ _ hbk hd⟩

set_option maxHeartbeats 1600000 in
theorem stepWX (A : Y.Ok) (hAr : ∀ g w, AnchW g w → g.status = .running)
    (ha : gs[0]? = some a) (hcs : SSit P Y AnchW Fin tag j S0 f0 d0 a w) (hcom : Crew P Y j gs w t D Rm Sw S0 d0 Q) (hwg : WgAt Y.ty Y.Wg w st sm) (hmode : ConcN.Mode j D tag st sm)
    {m : Nat} (hm : m < j) {g : Goroutine} (hg : gs[Y.K + m]? = some g) (hrun : g.status = .running) :
    ∃ m₁ ops μ', runT P (crowd gs w sl) (Y.K + m) = (.next m₁, ops) ∧ Lt2 μ' (phi Y.n (Vc j D) tag + Ssum j D + sumTo j Rm, f0 + 2 * Fsum j D + 2 * sumTo Y.K Q) ∧ InvX P Y AnchW Fin μ' m₁ (t ++ ops) := by
  have hb := hcs.bound
  have hVj := Vc_le j D
  have hWlow := A.hW
  have hn := A.hn
  obtain ⟨g₁, hg₁, hs⟩ := hcom.wk m hm
  obtain rfl : g = g₁ := by rw [hg] at hg₁; exact Option.some.inj hg₁
  have hdk := hcom.deafW m hm
  generalize hst : (D m).stage = s at hs
  generalize hfu : (D m).fuel = q at hs
  generalize hde : (D m).deaf = dd at hs
  generalize hrm : Rm m = r at hs
  have sets := hcom.sets
  cases hs with
  | front h =>
    have dj : ∀ m', m' < j → m' ≠ m → ∀ b ∈ Sw m, Y.Low ≤ b ∧ b ∉ Sw m' := fun m' hm' hne b hb => ⟨(sets.inB m hm b hb).1, sets.apart m m' hm hm' (Ne.symm hne) b hb⟩
    have dj0 : ∀ b ∈ Sw m, Y.Low ≤ b ∧ b ∉ S0 := fun b hb => ⟨(sets.inB m hm b hb).1, fun h0 => (hcom.s0 b h0).2 m hm hb⟩
    rcases Goes.cases h with hstop | ⟨m', rfl, hstep⟩
    · have hs0 := hstop w (.refl w)
      cases r with
      | zero =>
        obtain ⟨hhas, _, _, g', hgo, m₂, hk⟩ := hs0
        refine workerS A hAr ha hcs hcom hm hg hgo rfl (.refl w) (fun _ _ _ => .refl w) (fun _ _ _ => .refl w) (dd' := 0) (by rw [hrm]; exact .lib (by omega) (.k1 hk)) (ops_mark A hcom.win.size (.inl rfl)) hcom.win (by rw [hde]; rfl) (fun _ => ⟨t.size, RelBy.new (by rw [hdk, hde]) _ _⟩) (fun _ => hhas) hwg
          (fun _ ht _ => (hmode.counted hm (by omega) (.inl rfl) _ _).retag ht) (.inl ⟨by omega, by simp [cnt, hst]⟩)
      | succ r =>
        obtain ⟨_, g', c, ety, hc, hgo, q', hk⟩ := hs0
        have hsz : (w.alloc (.cells c ety)).heap.size = w.heap.size + 1 := by simp
        have hwl := hcom.win.size
        refine workerX A hAr ha hcs hcom hm hg hgo (RX.alloc A hwl (fun b hb => (hcom.s0 b hb).1.2) _) (fun m' hm' _ => RX.alloc A hwl (fun b hb => (sets.inB m' hm' b hb).2) _) (fun _ _ _ => RX.alloc A hwl (by simp) _) (.front hk) ?_ ⟨fun m' hm' b hb => ?_, fun m₁ m₂ h1 h2 hne b hb => ?_⟩ (fun b hb => ⟨⟨(hcom.s0 b hb).1.1, by have := (hcom.s0 b hb).1.2; omega⟩, fun m' hm' => ?_⟩) (hcom.win.alloc A hc)
          (by rw [hde]; rfl) (fun h => by omega) (fun h => by omega) (hwg.of_block (Below.heap_alloc _ _ _ (by omega))) (fun _ ht _ => Mode.retag (by have := hmode.same (i := m) q' 0; rwa [hst] at this) ht) (.inr (.inl ⟨hst.symm, by omega⟩))
        · rw [ofEvents_nil, Array.append_empty]
          refine hcom.pt.grow (by omega) (fun m' hm' b hb => ?_) (fun m' hm' b hb => ?_)
          · by_cases e : m' = m
            · subst e
              rw [upd_same] at hb
              rcases List.mem_cons.1 hb with rfl | hb
              · exact .inr (Nat.le_refl _)
              · exact .inl hb
            · rw [upd_ne Sw _ e] at hb; exact .inl hb
          · by_cases e : m' = m
            · subst e; rw [upd_same]; exact List.mem_cons_of_mem _ hb
            · rw [upd_ne Sw _ e]; exact hb
        · by_cases e : m' = m
          · subst e
            rw [upd_same] at hb
            rcases List.mem_cons.1 hb with rfl | hb
            · exact ⟨hwl, by omega⟩
            · exact ⟨(sets.inB m' hm' b hb).1, by have := (sets.inB m' hm' b hb).2; omega⟩
          · rw [upd_ne Sw _ e] at hb
            exact ⟨(sets.inB m' hm' b hb).1, by have := (sets.inB m' hm' b hb).2; omega⟩
        · have nw : ∀ m', m' < j → w.heap.size ∉ Sw m' := fun m' hm' hx => by have := (sets.inB m' hm' _ hx).2; omega
          by_cases e1 : m₁ = m
          · subst e1
            rw [upd_same] at hb
            rw [upd_ne Sw _ (Ne.symm hne)]
            rcases List.mem_cons.1 hb with rfl | hb
            · exact nw m₂ h2
            · exact sets.apart m₁ m₂ h1 h2 hne b hb
          · rw [upd_ne Sw _ e1] at hb
            by_cases e2 : m₂ = m
            · subst e2
              rw [upd_same]
              intro hx
              rcases List.mem_cons.1 hx with rfl | hx
              · exact nw m₁ h1 hb
              · exact sets.apart m₁ m₂ h1 h2 hne b hb hx
            · rw [upd_ne Sw _ e2]; exact sets.apart m₁ m₂ h1 h2 hne b hb
        · by_cases e : m' = m
          · subst e
            rw [upd_same]
            intro hx
            rcases List.mem_cons.1 hx with rfl | hx
            · have := (hcom.s0 _ hb).1.2; omega
            · exact (hcom.s0 b hb).2 m' hm' hx
          · rw [upd_ne Sw _ e]; exact (hcom.s0 b hb).2 m' hm'
    · obtain ⟨g', w', es, hgo, hd, hg'⟩ := hstep w (.refl w)
      have hapart : ∀ m', m' < j → m' ≠ m → ∀ ad, MineA Y (some m') ad → ¬ MineA Y (some m) ad := fun m' hm' hne ad h1 h2 => hne (mine_apart A (by have := hcom.jn; omega) (by have := hcom.jn; omega) h1 h2)
      exact workerS A hAr ha hcs hcom hm hg hgo hd.size (RX.of_dx A hd dj0 (fun ad h1 => by obtain ⟨_, e, _⟩ := h1; cases e) hcom.low0) (fun m' hm' hne => RX.of_dx A hd (dj m' hm' hne) (hapart m' hm' hne) (hcom.lowS hm')) (fun m' h1 h2 => RX.of_dx A hd (fun b hb => ⟨(sets.inB m hm b hb).1, by simp⟩) (fun ad k1 k2 => by have := mine_apart A h2 (by have := hcom.jn; omega) k1 k2; omega) (by simp)) (by rw [hrm]; exact .front hg') (ops_evX A hcom.win.size (fun b hb => (sets.inB m hm b hb).2) hd.evs)
        (hcom.win.of_dx A hd (hcom.lowS hm) (fun m' e => by cases e; have := hcom.jn; omega)) (by rw [hde]; exact deafBehind_idle (evX_still hd.evs) 0) (fun h => by omega) (fun h => by omega) (hwg.of_block (hd.block Y.Wg (fun hx => by have := (sets.inB m hm _ hx).1; omega) (Ne.symm A.hCW)))
        (fun _ ht _ => Mode.retag (by have := hmode.same (i := m) m' 0; rwa [hst] at this) ht) (.inr ⟨hst.symm, by omega⟩)
  | lib h6 h =>
    have lib : ∀ {s' q' dd' : Nat} {g' : Goroutine} {w' : World}, s' ≤ 6 → WSit P Y.ty Y.Wg Y.Cq Y.nq (fun _ _ => False) (fun _ _ => False) 0 (m + 1) (Y.vq m) s' q' dd' g' w' → WS P Y m s' (Rm m) (Sw m) q' dd' g' w' := fun h1 h2 => by rw [hrm]; exact .lib h1 h2
    have book : ∀ {g' : Goroutine} {w' : World} {es : Array Event} {s' q' dd' : Nat} {st' sm' : Int}, stepG P false g w = .go g' w' es → Aside Y.Wg w w' → WgAt Y.ty Y.Wg w' st' sm' → (∀ e ∈ es, Bk Y.Wg e) →
        (∀ jx e, es[jx]? = some e → (MemAct.ofEvent e).touch? = none ∨ 0 < deafBehind dd (es.extract 0 jx)) → s' ≤ 6 → WSit P Y.ty Y.Wg Y.Cq Y.nq (fun _ _ => False) (fun _ _ => False) 0 (m + 1) (Y.vq m) s' q' dd' g' w' → deafBehind dd es = dd' →
        ConcN.Mode j (upd D m ⟨s', q', dd'⟩) tag st' sm' → ((s' < s ∧ cnt ⟨s', q', dd'⟩ ≤ cnt (D m)) ∨ (s' = s ∧ q' + 1 = q)) →
        ∃ m₁ ops μ', runT P (crowd gs w sl) (Y.K + m) = (.next m₁, ops) ∧ Lt2 μ' (phi Y.n (Vc j D) tag + Ssum j D + sumTo j Rm, f0 + 2 * Fsum j D + 2 * sumTo Y.K Q) ∧ InvX P Y AnchW Fin μ' m₁ (t ++ ops) :=
      fun hgo hAs hwg' hbk hd h6' hs' hdd hm' hlt => bookW A hAr ha hcs hcom hm hg hgo hAs hwg' hbk (by rw [hde]; exact hd) (lib h6' hs') (by rw [hde]; exact hdd) (by omega) (fun _ ht _ => hm'.retag ht) (by rw [hst, hfu]; exact hlt)
    have idle : ∀ {g' : Goroutine} {q' : Nat}, stepG P false g w = .go g' w #[] → WSit P Y.ty Y.Wg Y.Cq Y.nq (fun _ _ => False) (fun _ _ => False) 0 (m + 1) (Y.vq m) s q' dd g' w → q' + 1 = q →
        ∃ m₁ ops μ', runT P (crowd gs w sl) (Y.K + m) = (.next m₁, ops) ∧ Lt2 μ' (phi Y.n (Vc j D) tag + Ssum j D + sumTo j Rm, f0 + 2 * Fsum j D + 2 * sumTo Y.K Q) ∧ InvX P Y AnchW Fin μ' m₁ (t ++ ops) :=
      fun hgo hs' hq => book hgo (.refl Y.Wg w) hwg (by simp) (by simp) h6 hs' rfl (by have := hmode.same (i := m) ‹Nat› dd; rwa [hst] at this) (.inr ⟨rfl, hq⟩)
    cases h with
    | r0 h => omega
    | k1 h =>
      rcases Goes.cases h with hstop | ⟨m', rfl, hstep⟩
      · obtain ⟨_, g', hgo, m₂, hk⟩ := hstop w (RW.refl w)
        exact book hgo (.refl Y.Wg w) hwg (by intro e he; simp at he; subst he; exact .inl rfl) (by intro jx e he; exact .inl (by have := Array.mem_of_getElem? he; simp at this; subst this; rfl)) (by omega) (.d1 hk) rfl
          (hmode.counted hm (by omega) (.inr rfl) _ _) (.inl ⟨by omega, by simp [cnt, hst]⟩)
      · obtain ⟨g', w', es, hgo, ⟨rfl, rfl⟩, hg'⟩ := hstep w (RW.refl w)
        exact idle hgo (.k1 hg') rfl
    | d1 h =>
      rcases Goes.cases h with hstop | ⟨m', rfl, hstep⟩
      · obtain ⟨_, hall⟩ := hstop w (RW.refl w)
        have hc1 : cnt (D m) = 1 := by simp [cnt, hst]
        have hV1 : 1 ≤ Vc j D := by have := le_sumTo (f := fun x => cnt (D x)) hm; simp only [Vc]; omega
        have df2 : ∀ jx e, (#[rd (stA Y.Wg), wr (stA Y.Wg)] : Array Event)[jx]? = some e → (MemAct.ofEvent e).touch? = none ∨ 0 < deafBehind 1 ((#[rd (stA Y.Wg), wr (stA Y.Wg)] : Array Event).extract 0 jx) := by
          intro jx e he
          match jx, he with
          | 0, _ => exact .inr (by simp [deafBehind])
          | 1, _ => exact .inr (by simp [deafBehind, rd])
          | jx + 2, he => simp at he
        have hq0 : ∀ q, cnt (⟨1, q, 1⟩ : WD) = 0 := fun _ => rfl
        have opq : ∀ q, OpenSt j D → OpenSt j (upd D m ⟨1, q, 1⟩) := fun q h a ha => by
          by_cases e : a = m
          · subst e; rw [upd_same]; simp
          · rw [upd_ne D _ e]; exact h a ha
        cases hmode with
        | opn h1 h2 h3 =>
          obtain ⟨v, hv⟩ : ∃ v, Vc j D + pend tag = v + 1 := ⟨Vc j D + pend tag - 1, by omega⟩
          rw [hv] at hwg
          have hw1 : WgAt Y.ty Y.Wg w (((v : Nat) + 1) * KK + ((0 : Nat) : Int)) 0 := by simpa using hwg
          obtain ⟨g', hgo, _, hq⟩ := hall v 0 (by omega) (by omega) hw1
          obtain ⟨q, hq⟩ := hq (by omega)
          have hv' : Vc j (upd D m ⟨1, q, 1⟩) + pend tag = v := by have := Vc_upd D (⟨1, q, 1⟩ : WD) hm; have := hq0 q; omega
          refine book hgo (aside_setCell w (stA Y.Wg) _) (hwg.setSt _) bk_rw df2 (by omega) (.quit hq) rfl ?_ (.inl ⟨by omega, by simp [cnt]⟩)
          have e : ((v : Nat) : Int) * KK + ((0 : Nat) : Int) = ((Vc j (upd D m ⟨1, q, 1⟩) + pend tag : Nat) : Int) * KK := by rw [hv']; simp
          rw [e]
          exact .opn h1 (opq q h2) (fun vs ev => by have := h3 vs ev; omega)
        | reg h1 h2 h3 =>
          obtain ⟨v, hv⟩ : ∃ v, Vc j D = v + 1 := ⟨Vc j D - 1, by omega⟩
          rw [hv] at hwg
          have hw1 : WgAt Y.ty Y.Wg w (((v : Nat) + 1) * KK + ((1 : Nat) : Int)) 0 := by simpa using hwg
          obtain ⟨g', hgo, hl, hq⟩ := hall v 1 (by omega) (by omega) hw1
          by_cases hv0 : v = 0
          · subst hv0
            obtain ⟨m₂, hk⟩ := hl ⟨rfl, rfl⟩
            refine book hgo (aside_setCell w (stA Y.Wg) _) (hwg.setSt _) bk_rw df2 (by omega) (.d2 hk) rfl ?_ (.inl ⟨by omega, by simp [cnt]⟩)
            have hoth : ∀ a, a < j → a ≠ m → (D a).stage = 1 := fun a ha e => by
              have c0 := others_uncounted hm hv hc1 a ha e
              have := h2 a ha
              simp only [cnt] at c0
              split at c0 <;> omega
            have := ConcN.Mode.last (j := j) (D := upd D m ⟨4, m₂, 1⟩) (tag := tag) m h1 hm (by rw [upd_same]; simp) (fun a ha e => by rw [upd_ne D _ e]; exact hoth a ha e)
            rw [upd_same] at this
            simpa using this
          · obtain ⟨q, hq⟩ := hq (by omega)
            have hv' : Vc j (upd D m ⟨1, q, 1⟩) = v := by have := Vc_upd D (⟨1, q, 1⟩ : WD) hm; have := hq0 q; omega
            refine book hgo (aside_setCell w (stA Y.Wg) _) (hwg.setSt _) bk_rw df2 (by omega) (.quit hq) rfl ?_ (.inl ⟨by omega, by simp [cnt]⟩)
            have e : ((v : Nat) : Int) * KK + ((1 : Nat) : Int) = ((Vc j (upd D m ⟨1, q, 1⟩) : Nat) : Int) * KK + 1 := by rw [hv']; simp
            rw [e]
            exact .reg h1 (opq q h2) (by omega)
        | last L _ h2 h3 h4 =>
          by_cases e : m = L
          · subst e; omega
          · have := h4 m hm e; omega
        | sema h2 => have := h2 m hm; omega
        | fin _ h2 => have := h2 m hm; omega
      · obtain ⟨g', w', es, hgo, ⟨rfl, rfl⟩, hg'⟩ := hstep w (RW.refl w)
        exact idle hgo (.d1 hg') rfl
    | d2 h =>
      rcases Goes.cases h with hstop | ⟨m', rfl, hstep⟩
      · obtain ⟨_, hx⟩ := hstop w (RW.refl w)
        obtain ⟨hW3, hoth, rfl, rfl⟩ := hmode.isLast hm (by omega)
        simp only [hst] at hwg
        obtain ⟨g', hgo, m₂, hk⟩ := hx (by simpa using hwg)
        refine book hgo (.refl Y.Wg w) hwg bk_rd (by intro jx e he; match jx, he with | 0, _ => exact .inr (by simp [deafBehind]) | jx + 1, he => simp at he) (by omega) (.d3 hk) rfl ?_ (.inl ⟨by omega, by simp [cnt]⟩)
        have := ConcN.Mode.last (j := j) (D := upd D m ⟨3, m₂, 1⟩) (tag := tag) m hW3 hm (by rw [upd_same]; simp) (fun a ha e => by rw [upd_ne D _ e]; exact hoth a ha e)
        rw [upd_same] at this
        simpa using this
      · obtain ⟨g', w', es, hgo, ⟨rfl, rfl⟩, hg'⟩ := hstep w (RW.refl w)
        exact idle hgo (.d2 hg') rfl
    | d3 h =>
      rcases Goes.cases h with hstop | ⟨m', rfl, hstep⟩
      · obtain ⟨_, hx⟩ := hstop w (RW.refl w)
        obtain ⟨hW3, hoth, rfl, rfl⟩ := hmode.isLast hm (by omega)
        simp only [hst] at hwg
        obtain ⟨g', hgo, m₂, hk⟩ := hx (by simpa using hwg)
        refine book hgo (aside_setCell w (stA Y.Wg) _) (hwg.setSt 0) (by intro e he; simp at he; subst he; exact bk_cell _ _ rfl) (by intro jx e he; match jx, he with | 0, _ => exact .inr (by simp [deafBehind]) | jx + 1, he => simp at he) (by omega) (.d4 hk) rfl ?_ (.inl ⟨by omega, by simp [cnt]⟩)
        have := ConcN.Mode.last (j := j) (D := upd D m ⟨2, m₂, 1⟩) (tag := tag) m hW3 hm (by rw [upd_same]; simp) (fun a ha e => by rw [upd_ne D _ e]; exact hoth a ha e)
        rw [upd_same] at this
        simpa using this
      · obtain ⟨g', w', es, hgo, ⟨rfl, rfl⟩, hg'⟩ := hstep w (RW.refl w)
        exact idle hgo (.d3 hg') rfl
    | d4 h =>
      rcases Goes.cases h with hstop | ⟨m', rfl, hstep⟩
      · obtain ⟨_, hmw, hx⟩ := hstop w (RW.refl w)
        obtain ⟨hW3, hoth, rfl, rfl⟩ := hmode.isLast hm (by omega)
        simp only [hst] at hwg
        obtain ⟨g', hgo, q, hq⟩ := hx (by simpa using hwg)
        have hrun' : g'.status = .running := by
          cases q with
          | zero => exact absurd hq.2 (by decide)
          | succ q => exact hq.elim (fun x => absurd x.2 (by decide)) (fun x => x.1)
        refine bookW A hAr ha hcs hcom hm hg hgo (aside_setCell w (smA Y.Wg) _) (hwg.setSm 1) bk_sem ?_ (lib (by omega) (.quit hq)) (by rw [hde]; simp [deafBehind, semEvents]) (by omega) ?_ (by rw [hst, hfu]; exact .inl ⟨by omega, by simp [cnt]⟩)
        · intro jx e he
          rw [hde]
          match jx, he with
          | 0, he => simp [semEvents] at he; subst he; exact .inl rfl
          | 1, _ => exact .inr (by simp [deafBehind, semEvents])
          | 2, _ => exact .inr (by simp [deafBehind, semEvents])
          | 3, he => simp [semEvents] at he; subst he; exact .inl rfl
          | jx + 4, he => simp [semEvents] at he
        · intro tag' ht hw
          have hnb := hw hmw hrun'
          have e3 : tag' = .w3 := by
            rcases ht with rfl | ⟨_, rfl⟩
            · cases tag' <;> first | rfl | exact hW3.elim | exact absurd rfl hnb
            · rfl
          subst e3
          simp only [if_true]
          exact .sema fun a ha => by
            by_cases e : a = m
            · subst e; rw [upd_same]
            · rw [upd_ne D _ e]; exact hoth a ha e
      · obtain ⟨g', w', es, hgo, ⟨rfl, rfl⟩, hg'⟩ := hstep w (RW.refl w)
        exact idle hgo (.d4 hg') rfl
    | quit h =>
      cases q with
      | zero => rw [h.1] at hrun; cases hrun
      | succ q =>
        rcases h with ⟨hf, _⟩ | ⟨_, g', es, hmute, hstep, hq⟩
        · rw [hf] at hrun; cases hrun
        · have hbk : ∀ e ∈ es, Bk Y.Wg e := fun e he => bk_of_mute (hmute e he)
          have hno : ∀ jx e, es[jx]? = some e → (MemAct.ofEvent e).touch? = none ∨ 0 < deafBehind dd (es.extract 0 jx) := fun jx e he => .inl (by
            rcases bk_of_mute (Wg := Y.Wg) (hmute e (Array.mem_of_getElem? he)) with h1 | h1 | ⟨a, wr, rfl, _⟩
            · rw [ofEvent_loc_mark h1]; rfl
            · rw [ofEvent_loc_mark h1]; rfl
            · have := hmute _ (Array.mem_of_getElem? he); simp [Event.mute] at this)
          exact book (hstep w) (.refl Y.Wg w) hwg hbk hno h6 (.quit hq) rfl (by have := hmode.same (i := m) q (deafBehind dd es); rwa [hst] at this) (.inr ⟨rfl, rfl⟩)
end
end Go.Proofs.Ytkefnmmpipeppaa.Rg

namespace Go.Proofs.Ytkefnmmpipeppaa.Rg
open Go.Conc Go.ConcN Go.RowKit
open Go.ConcR (KK wgBlock WgAt stA smA rd wr mk Payload Aside2 DC0 Bk g_of_ofEvents bk_of_mute ofEvent_loc_mark ofEvent_mk)
variable [Kept]

section
variable [Payload] {P : Program} {Y : Lay} {AnchW Fin : Goroutine → World → Prop} {j : Nat} {gs : Array Goroutine} {w w' : World} {sl : Option (Nat × Nat)} {t : Trace} {D : Nat → WD} {Rm : Nat → Nat} {Sw : Nat → List Nat} {S0 : List Nat} {d0 f0 : Nat} {Q : Nat → Nat} {tag : CTag} {a : Goroutine} {st sm : Int}

theorem bookS (A : Y.Ok) (ha : gs[0]? = some a) (hcom : Crew P Y j gs w t D Rm Sw S0 d0 Q) {a' : Goroutine} {es : Array Event} {tag' : CTag} {f' : Nat} {st' sm' : Int}
    (hgo : stepG P true a w = .go a' w' es) (hAs : Aside Y.Wg w w') (hwg' : WgAt Y.ty Y.Wg w' st' sm') (hbk : ∀ e ∈ es, Bk Y.Wg e) (hcs' : SSit P Y AnchW Fin tag' j S0 f' (deafBehind d0 es) a' w')
    (hmode' : ConcN.Mode j D tag' st' sm') (hlt : phi Y.n (Vc j D) tag' < phi Y.n (Vc j D) tag ∨ (phi Y.n (Vc j D) tag' = phi Y.n (Vc j D) tag ∧ f' < f0)) :
    ∃ m₁ ops μ', runT P (crowd gs w sl) 0 = (.next m₁, ops) ∧ Lt2 μ' (phi Y.n (Vc j D) tag + Ssum j D + sumTo j Rm, f0 + 2 * Fsum j D + 2 * sumTo Y.K Q) ∧ InvX P Y AnchW Fin μ' m₁ (t ++ ops) := by
  have hl : WgLive Y.ty Y.Wg w' := ⟨_, _, hwg'⟩
  exact starterX A ha hcom hgo (fun m' hm' => RX.of_wg A hAs hl (hcom.lowS hm')) (fun _ _ _ => RX.of_wg A hAs hl (by simp)) (by rw [hAs.size]; exact hcom.pt.app0 A hcom.sets (fun b hb => ⟨(hcom.s0 b hb).1.1, (hcom.s0 b hb).2⟩) g_ofEvents (ops_bk A hcom.win.size hbk))
    (by rw [hAs.size]; exact Nat.le_refl _) (by rw [hAs.size]; exact hcom.s0) (hcom.win.of_wg A hAs) hcs' hwg' hmode' hlt
theorem idleS (A : Y.Ok) (ha : gs[0]? = some a) (hcom : Crew P Y j gs w t D Rm Sw S0 d0 Q) (hwg : WgAt Y.ty Y.Wg w st sm) (hmode : ConcN.Mode j D tag st sm) {a' : Goroutine} {es : Array Event} {f' : Nat}
    (hgo : stepG P true a w = .go a' w' es) (hD : DX Y none S0 w w' es) (hcs' : SSit P Y AnchW Fin tag j S0 f' d0 a' w') (hf : f' < f0) :
    ∃ m₁ ops μ', runT P (crowd gs w sl) 0 = (.next m₁, ops) ∧ Lt2 μ' (phi Y.n (Vc j D) tag + Ssum j D + sumTo j Rm, f0 + 2 * Fsum j D + 2 * sumTo Y.K Q) ∧ InvX P Y AnchW Fin μ' m₁ (t ++ ops) := by
  have hW := A.hW
  have hdf : deafBehind d0 es = d0 := deafBehind_idle (evX_still hD.evs) d0
  exact starterX A ha hcom hgo (fun m' hm' => RX.of_dx A hD (fun b hb => ⟨(hcom.s0 b hb).1.1, (hcom.s0 b hb).2 m' hm'⟩) (fun ad _ h1 => by obtain ⟨_, e, _⟩ := h1; cases e) (hcom.lowS hm')) (fun m' _ _ => RX.of_dx A hD (fun b hb => ⟨(hcom.s0 b hb).1.1, by simp⟩) (fun ad _ h1 => by obtain ⟨_, e, _⟩ := h1; cases e) (by simp))
    (by rw [hD.size]; exact hcom.pt.app0 A hcom.sets (fun b hb => ⟨(hcom.s0 b hb).1.1, (hcom.s0 b hb).2⟩) g_ofEvents (ops_evX A hcom.win.size (fun b hb => (hcom.s0 b hb).1.2) hD.evs))
    (by rw [hD.size]; exact Nat.le_refl _) (by rw [hD.size]; exact hcom.s0) (hcom.win.of_dx A hD hcom.low0 (fun m e => by cases e)) (by rw [hdf]; exact hcs') (hwg.of_block (hD.block Y.Wg (fun hx => by have := hcom.low0 _ hx; omega) (Ne.symm A.hCW))) hmode (.inr ⟨rfl, hf⟩)

theorem w1X (A : Y.Ok) (ha : gs[0]? = some a) (hcom : Crew P Y Y.n gs w t D Rm Sw [] 1 Q) (hwg : WgAt Y.ty Y.Wg w st sm) (hmode : ConcN.Mode Y.n D .w1 st sm)
    (h : G0 P Y [] (SW1 P Y AnchW Fin) f0 a w) :
    ∃ m₁ ops μ', runT P (crowd gs w sl) 0 = (.next m₁, ops) ∧ Lt2 μ' (phi Y.n (Vc Y.n D) .w1 + Ssum Y.n D + sumTo Y.n Rm, f0 + 2 * Fsum Y.n D + 2 * sumTo Y.K Q) ∧ InvX P Y AnchW Fin μ' m₁ (t ++ ops) := by
  have hn := A.hn
  rcases Goes.cases h with hstop | ⟨m', rfl, hstep⟩
  · obtain ⟨_, hall⟩ := hstop w (.refl w)
    obtain ⟨ho, rfl, rfl, _⟩ := hmode.open_inv trivial
    have hV := Vc_le Y.n D
    obtain ⟨a', hgo, h0, hne⟩ := hall (Vc Y.n D) (by omega) (by simpa [pend] using hwg)
    by_cases hv : Vc Y.n D = 0
    · obtain ⟨m₂, hk⟩ := h0 hv
      refine bookS A ha hcom hgo (.refl Y.Wg w) hwg bk_rd (tag' := .ke) (.ke hk) ?_ (.inl (by simp only [phi]; omega))
      have e : ((Vc Y.n D + pend .w1 : Nat) : Int) * KK = 0 := by rw [hv]; simp [pend]
      rw [e]
      exact .fin trivial (allQuit_of ho hv)
    · obtain ⟨m₂, hk⟩ := hne hv
      exact bookS A ha hcom hgo (.refl Y.Wg w) hwg bk_rd (tag' := .w2 (Vc Y.n D)) (.w2 hk) (hmode.reopen trivial trivial rfl (fun vs e => by cases e; omega)) (.inl (by simp only [phi]; omega))
  · obtain ⟨a', w', es, hgo, hD, hg'⟩ := hstep w (.refl w)
    exact idleS A ha hcom hwg hmode hgo hD (.w1 hg') (by omega)

set_option maxHeartbeats 1600000 in
theorem step0X (A : Y.Ok) (hAn : ∀ g w, AnchW g w → ∃ q, G0 P Y [] (SW1 P Y AnchW Fin) q g w)
    (ha : gs[0]? = some a) (hcs : SSit P Y AnchW Fin tag j S0 f0 d0 a w) (hcom : Crew P Y j gs w t D Rm Sw S0 d0 Q) (hwg : WgAt Y.ty Y.Wg w st sm) (hmode : ConcN.Mode j D tag st sm) (hrun : a.status = .running) :
    (∃ m₁ ops, runT P (crowd gs w sl) 0 = (.next m₁, ops) ∧ GoodX P Y Fin m₁ (t ++ ops)) ∨
    (∃ m₁ ops μ', runT P (crowd gs w sl) 0 = (.next m₁, ops) ∧ Lt2 μ' (phi Y.n (Vc j D) tag + Ssum j D + sumTo j Rm, f0 + 2 * Fsum j D + 2 * sumTo Y.K Q) ∧ InvX P Y AnchW Fin μ' m₁ (t ++ ops)) := by
  have hVj := Vc_le j D
  have hn := A.hn
  have hK := A.hK
  have hWlow := A.hW
  cases hcs with
  | sal hr h =>
    rcases Goes.cases h with hstop | ⟨m', rfl, hstep⟩
    · obtain ⟨_, a', c, ety, hc, hgo, m₂, hk⟩ := hstop w (.refl w)
      have hsz : (w.alloc (.cells c ety)).heap.size = w.heap.size + 1 := by simp
      have hwl := hcom.win.size
      refine .inr (starterX A ha hcom hgo (fun m' hm' => RX.alloc A hwl (fun b hb => (hcom.sets.inB m' hm' b hb).2) _) (fun _ _ _ => RX.alloc A hwl (by simp) _) ?_ (by omega) (fun b hb => ?_) (hcom.win.alloc A hc) (.skd hr hk) (hwg.of_block (Below.heap_alloc _ _ _ (by omega))) (hmode.reopen trivial trivial rfl (by simp)) (.inl (by simp only [phi]; omega)))
      · rw [ofEvents_nil, Array.append_empty]; exact hcom.pt.mono (by omega)
      · obtain rfl : b = w.heap.size := by simpa using hb
        exact ⟨⟨hwl, by omega⟩, fun m' hm' hx => by have := (hcom.sets.inB m' hm' _ hx).2; omega⟩
    · obtain ⟨a', w', es, hgo, hD, hg'⟩ := hstep w (.refl w)
      exact .inr (idleS A ha hcom hwg hmode hgo hD (.sal hr hg') (by omega))
  | skd hr h =>
    rcases Goes.cases h with hstop | ⟨m', rfl, hstep⟩
    · obtain ⟨_, a', hgo, m₂, hk⟩ := hstop w (.refl w)
      exact .inr (bookS A ha hcom hgo (.refl Y.Wg w) hwg bk_dis (.sa1 hr hk) (hmode.reopen trivial trivial rfl (by simp)) (.inl (by simp only [phi]; omega)))
    · obtain ⟨a', w', es, hgo, hD, hg'⟩ := hstep w (.refl w)
      exact .inr (idleS A ha hcom hwg hmode hgo hD (.skd hr hg') (by omega))
  | sa1 hr h =>
    rename_i r b
    rcases Goes.cases h with hstop | ⟨m', rfl, hstep⟩
    · obtain ⟨_, hall⟩ := hstop w (.refl w)
      obtain ⟨ho, rfl, rfl, _⟩ := hmode.open_inv trivial
      obtain ⟨a', hgo, m₂, hk⟩ := hall (Vc (Y.n - (r + 1)) D) (by omega) (by simpa [pend] using hwg)
      refine .inr (bookS A ha hcom hgo (aside_setCell w (stA Y.Wg) _) (hwg.setSt _) bk_rw (.ske hr hk) ?_ (.inl (by simp only [phi]; omega)))
      have e : (((Vc (Y.n - (r + 1)) D : Nat) : Int) + 1) * KK = ((Vc (Y.n - (r + 1)) D + pend (.sp r 3) : Nat) : Int) * KK := by simp [pend]
      rw [e]
      exact .opn trivial ho (by simp)
    · obtain ⟨a', w', es, hgo, hD, hg'⟩ := hstep w (.refl w)
      exact .inr (idleS A ha hcom hwg hmode hgo hD (.sa1 hr hg') (by omega))
  | ske hr h =>
    rcases Goes.cases h with hstop | ⟨m', rfl, hstep⟩
    · obtain ⟨_, a', hgo, m₂, hk⟩ := hstop w (.refl w)
      exact .inr (bookS A ha hcom hgo (.refl Y.Wg w) hwg bk_en (.sgo hr hk) (hmode.reopen trivial trivial rfl (by simp)) (.inl (by simp only [phi]; omega)))
    · obtain ⟨a', w', es, hgo, hD, hg'⟩ := hstep w (.refl w)
      exact .inr (idleS A ha hcom hwg hmode hgo hD (.ske hr hg') (by omega))
  | sgo hr h =>
    rename_i r b
    rcases Goes.cases h with hstop | ⟨m', rfl, hstep⟩
    · obtain ⟨_, a', child, hsp, _, hwk0, hnext⟩ := hstop w (.refl w)
      obtain ⟨m₂, hwk⟩ := hwk0 (fun i hi => hcom.unst _ (Nat.le_refl _) (by omega) i hi) hcom.win.pay
      obtain ⟨ho, rfl, rfl, _⟩ := hmode.open_inv trivial
      have hrun' := runT_crowd_spawn (P := P) (sl := sl) (i := 0) ha (by simpa using hsp)
      rw [hcom.size, ofEvents_nil] at hrun'
      have hcom' := hcom.spawn A (by omega) (a' := a') (x := { g := 0, fn := a.frame.fn, pos := a.frame.place, act := .go (Y.K + (Y.n - (r + 1))) }) (y := { g := Y.K + (Y.n - (r + 1)), fn := child.frame.fn, pos := a.frame.place, act := .start }) ⟨rfl, rfl⟩ ⟨rfl, rfl⟩ hwk
      have eV : Vc (Y.n - (r + 1) + 1) (upd D (Y.n - (r + 1)) ⟨7, m₂, 0⟩) = Vc (Y.n - (r + 1)) D + 1 := by
        simp only [Vc, sumTo, upd_same]
        rw [sumTo_upd_out D _ cnt (Nat.le_refl _)]; rfl
      have eS : Ssum (Y.n - (r + 1) + 1) (upd D (Y.n - (r + 1)) ⟨7, m₂, 0⟩) = Ssum (Y.n - (r + 1)) D + 7 := by
        simp only [Ssum, sumTo, upd_same]
        rw [sumTo_upd_out D _ WD.stage (Nat.le_refl _)]
      have eR : sumTo (Y.n - (r + 1) + 1) (upd Rm (Y.n - (r + 1)) 2) = sumTo (Y.n - (r + 1)) Rm + 2 := by
        simp only [sumTo, upd_same]
        rw [sumTo_congr (f := upd Rm (Y.n - (r + 1)) 2) (g := Rm) fun i hi => upd_ne Rm _ (by omega)]
      have ho' : OpenSt (Y.n - (r + 1) + 1) (upd D (Y.n - (r + 1)) ⟨7, m₂, 0⟩) := fun i hi => by
        by_cases e : i = Y.n - (r + 1)
        · subst e; rw [upd_same]; simp
        · rw [upd_ne D _ e]; exact ho i (by omega)
      have ha' : ((gs.setIfInBounds 0 a').push child)[0]? = some a' := by
        rw [Array.getElem?_push_lt (by simp [hcom.size]; omega), ← Array.getElem?_eq_getElem]
        exact Array.getElem?_setIfInBounds_self_of_lt (by rw [hcom.size]; omega)
      have ej : Y.n - (r + 1) + 1 = Y.n - r := by omega
      rw [ej] at hcom' eV eS eR ho'
      have est : ∀ tag', pend tag' = 0 → ((Vc (Y.n - (r + 1)) D + pend (.sp r 2) : Nat) : Int) * KK = ((Vc (Y.n - r) (upd D (Y.n - (r + 1)) ⟨7, m₂, 0⟩) + pend tag' : Nat) : Int) * KK := fun tag' hp => by rw [eV, hp]; simp [pend]
      cases r with
      | zero =>
        obtain ⟨m₃, hk⟩ := hnext
        simp only [Nat.sub_zero] at hcom' eV eS eR ho' est
        refine .inr ⟨_, _, (phi Y.n (Vc Y.n (upd D (Y.n - (0 + 1)) ⟨7, m₂, 0⟩)) .kd + Ssum Y.n (upd D (Y.n - (0 + 1)) ⟨7, m₂, 0⟩) + sumTo Y.n (upd Rm (Y.n - (0 + 1)) 2), m₃ + 2 * Fsum Y.n (upd D (Y.n - (0 + 1)) ⟨7, m₂, 0⟩) + 2 * sumTo Y.K Q), hrun', Prod.Lex.left _ _ (by simp only [phi]; omega),
          _, w, sl, Y.n, _, _, _, [], Q, .kd, m₃, 0, a', _, _, rfl, ha', .kd hk, hcom', hwg, ?_, rfl⟩
        rw [est .kd rfl]
        exact .opn trivial ho' (by simp)
      | succ r' =>
        obtain ⟨m₃, hk⟩ := hnext
        refine .inr ⟨_, _, (phi Y.n (Vc (Y.n - (r' + 1)) (upd D (Y.n - (r' + 1 + 1)) ⟨7, m₂, 0⟩)) (.sp r' 6) + Ssum (Y.n - (r' + 1)) (upd D (Y.n - (r' + 1 + 1)) ⟨7, m₂, 0⟩) + sumTo (Y.n - (r' + 1)) (upd Rm (Y.n - (r' + 1 + 1)) 2), m₃ + 2 * Fsum (Y.n - (r' + 1)) (upd D (Y.n - (r' + 1 + 1)) ⟨7, m₂, 0⟩) + 2 * sumTo Y.K Q), hrun', Prod.Lex.left _ _ (by simp only [phi]; omega),
          _, w, sl, Y.n - (r' + 1), _, _, _, [], Q, .sp r' 6, m₃, 0, a', _, _, rfl, ha', .sal (by omega) hk, hcom', hwg, ?_, rfl⟩
        rw [est (.sp r' 6) rfl]
        exact .opn trivial ho' (by simp)
    · obtain ⟨a', w', es, hgo, hD, hg'⟩ := hstep w (.refl w)
      exact .inr (idleS A ha hcom hwg hmode hgo hD (.sgo hr hg') (by omega))
  | kd h =>
    rcases Goes.cases h with hstop | ⟨m', rfl, hstep⟩
    · obtain ⟨_, a', hgo, m₂, hk⟩ := hstop w (.refl w)
      exact .inr (bookS A ha hcom hgo (.refl Y.Wg w) hwg bk_dis (.anch hk) (hmode.reopen trivial trivial rfl (by simp)) (.inl (by simp only [phi]; omega)))
    · obtain ⟨a', w', es, hgo, hD, hg'⟩ := hstep w (.refl w)
      exact .inr (idleS A ha hcom hwg hmode hgo hD (.kd hg') (by omega))
  | anch h =>
    rcases Goes.cases h with hstop | ⟨m', rfl, hstep⟩
    · obtain ⟨m₂, hk⟩ := hAn a w (hstop w (.refl w))
      obtain ⟨m₁, ops, μ', h1, h2, h3⟩ := w1X (sl := sl) A ha hcom hwg (hmode.reopen trivial trivial rfl (by simp)) hk
      exact .inr ⟨m₁, ops, μ', h1, lt2_trans h2 (Prod.Lex.left _ _ (by simp only [phi]; omega)), h3⟩
    · obtain ⟨a', w', es, hgo, hD, hg'⟩ := hstep w (.refl w)
      exact .inr (idleS A ha hcom hwg hmode hgo hD (.anch hg') (by omega))
  | w1 h => exact .inr (w1X A ha hcom hwg hmode h)
  | w2 h =>
    rename_i vs
    rcases Goes.cases h with hstop | ⟨m', rfl, hstep⟩
    · obtain ⟨_, hall⟩ := hstop w (.refl w)
      obtain ⟨ho, rfl, rfl, hw2⟩ := hmode.open_inv trivial
      obtain ⟨hle, h1⟩ := hw2 vs rfl
      obtain ⟨hhit, hmiss⟩ := hall (Vc Y.n D) (by omega) (by simpa [pend] using hwg)
      by_cases e : Vc Y.n D = vs
      · obtain ⟨a', hgo, m₂, hk⟩ := hhit e
        exact .inr (bookS A ha hcom hgo (aside_setCell w (stA Y.Wg) _) (hwg.setSt _) bk_rw (.w3 hk) (.reg trivial ho (by omega)) (.inl (by simp only [phi]; omega)))
      · obtain ⟨a', hgo, m₂, hk⟩ := hmiss e
        exact .inr (bookS A ha hcom hgo (.refl Y.Wg w) hwg bk_rd (.anch hk) (hmode.reopen trivial trivial rfl (by simp)) (.inl (by simp only [phi]; omega)))
    · obtain ⟨a', w', es, hgo, hD, hg'⟩ := hstep w (.refl w)
      exact .inr (idleS A ha hcom hwg hmode hgo hD (.w2 hg') (by omega))
  | w3 h =>
    rcases Goes.cases h with hstop | ⟨m', rfl, hstep⟩
    · obtain ⟨_, hoff, hblk, htake⟩ := hstop w (.refl w)
      cases hmode with
      | opn h1 _ _ => exact h1.elim
      | reg h1 h2 h3 => exact .inr (bookS A ha hcom (hblk ⟨_, hwg⟩) (.refl Y.Wg w) hwg (by simp) (.blk hstop) (.reg trivial h2 h3) (.inr ⟨rfl, by omega⟩))
      | last L h1 h2 h3 h4 => exact .inr (bookS A ha hcom (hblk ⟨_, hwg⟩) (.refl Y.Wg w) hwg (by simp) (.blk hstop) (.last L trivial h2 h3 h4) (.inr ⟨rfl, by omega⟩))
      | sema h2 =>
        obtain ⟨a', hgo, m₂, hk⟩ := htake hwg
        exact .inr (bookS A ha hcom hgo (aside_setCell w (smA Y.Wg) _) (hwg.setSm 0) bk_sem (.w4 hk) (.fin trivial h2) (.inl (by simp only [phi]; omega)))
      | fin h1 _ => exact h1.elim
    · obtain ⟨a', w', es, hgo, hD, hg'⟩ := hstep w (.refl w)
      exact .inr (idleS A ha hcom hwg hmode hgo hD (.w3 hg') (by omega))
  | blk h => simp at hrun
  | w4 h =>
    rcases Goes.cases h with hstop | ⟨m', rfl, hstep⟩
    · obtain ⟨_, hx⟩ := hstop w (.refl w)
      obtain ⟨hq, rfl, rfl⟩ := hmode.fin_inv trivial
      obtain ⟨a', hgo, m₂, hk⟩ := hx hwg
      exact .inr (bookS A ha hcom hgo (.refl Y.Wg w) hwg bk_rd (.ke hk) (.fin trivial hq) (.inl (by simp only [phi]; omega)))
    · obtain ⟨a', w', es, hgo, hD, hg'⟩ := hstep w (.refl w)
      exact .inr (idleS A ha hcom hwg hmode hgo hD (.w4 hg') (by omega))
  | ke h =>
    rcases Goes.cases h with hstop | ⟨m', rfl, hstep⟩
    · obtain ⟨_, a', hgo, m₂, hk⟩ := hstop w (.refl w)
      obtain ⟨hq, rfl, rfl⟩ := hmode.fin_inv trivial
      exact .inr (bookS A ha hcom hgo (.refl Y.Wg w) hwg bk_en (.acq hk) (.fin trivial hq) (.inl (by simp only [phi]; omega)))
    · obtain ⟨a', w', es, hgo, hD, hg'⟩ := hstep w (.refl w)
      exact .inr (idleS A ha hcom hwg hmode hgo hD (.ke hg') (by omega))
  | acq h =>
    rcases Goes.cases h with hstop | ⟨m', rfl, hstep⟩
    · obtain ⟨_, a', hgo, hfin⟩ := hstop w (.refl w)
      obtain ⟨hq, rfl, rfl⟩ := hmode.fin_inv trivial
      have hrunT := runT_crowd_go (P := P) (sl := sl) (i := 0) ha (by simpa using hgo)
      have e1 : MemOp.ofEvents 0 a.frame.fn a.frame.place #[mk (.acquire (stA Y.Wg))] = #[{ g := 0, fn := a.frame.fn, pos := a.frame.place, act := .mark (.acquire (stA Y.Wg)) }] := by rw [ofEvents_eq]; simp [ofEvent_mk]
      have hpt := hcom.pt.app0 A hcom.sets (S0 := []) (by simp) g_ofEvents (ops_mark (g := 0) (fn := a.frame.fn) (pos := a.frame.place) A hcom.win.size (.inr rfl))
      have hc' := hcom.step0 (a := a) (a' := a') (fn := a.frame.fn) (pos := a.frame.place) (es := #[mk (.acquire (stA Y.Wg))]) (S0' := []) A (fun _ _ => .refl w) (fun _ _ _ => .refl w) hpt (Nat.le_refl _) (by simp) hcom.win
      have hd0 : deafBehind 0 #[mk (.acquire (stA Y.Wg))] = 0 := rfl
      have hy : (t ++ #[({ g := 0, fn := a.frame.fn, pos := a.frame.place, act := .mark (.acquire (stA Y.Wg)) } : MemOp)])[t.size]? = some { g := 0, fn := a.frame.fn, pos := a.frame.place, act := .mark (.acquire (stA Y.Wg)) } := by simp
      have hpast : Past (fun l => SnL Y l ∨ WgL Y l) w.heap.size (t ++ MemOp.ofEvents 0 a.frame.fn a.frame.place #[mk (.acquire (stA Y.Wg))]) := by
        refine hc'.pt.past (q := t.size) (by rw [hc'.deaf0, hd0]) (by rw [e1, act?_of hy]) (by rw [e1]; simp [Trace.g?]) (by rw [e1]; exact ⟨0, by simp [Trace.g?], by rw [deaf_old (Nat.le_refl _)]; exact hcom.deaf0⟩) fun m hm => ?_
        obtain ⟨r, hr⟩ := hcom.rel m hm (by rw [hq m hm]; omega)
        exact ⟨r, hr.appOther g_ofEvents (by omega), lt_of_act? hr.act⟩
      refine .inl ⟨_, _, hrunT, _, w, sl, fun i => if i < Y.K then Q i else (D (i - Y.K)).fuel, a', rfl, get_map_set_same _ _ _ (by rw [hcom.size]; omega), hfin, ⟨fun i g h0 hi => ?_, hc'.above⟩, hpast, hcom.win, ⟨_, _, hwg⟩, fun m hm => hcom.has m hm (by rw [hq m hm]; omega)⟩
      rcases Nat.lt_or_ge i Y.K with hlt | hge
      · obtain ⟨g', hg', hqq⟩ := hc'.old i h0 hlt
        rw [hi] at hg'
        cases hg'
        simpa [hlt] using hqq
      · have hlt : i - Y.K < Y.n := by have := (Array.getElem?_eq_some_iff.1 hi).1; rw [hc'.size] at this; omega
        obtain ⟨g', hg', hs'⟩ := hc'.wk (i - Y.K) hlt
        rw [show Y.K + (i - Y.K) = i by omega, hi] at hg'
        cases hg'
        have := hs'.quits (hq _ hlt)
        have hd := hc'.deafW (i - Y.K) hlt
        rw [show Y.K + (i - Y.K) = i by omega] at hd
        rw [hd]
        simpa [Nat.not_lt.2 hge] using this
    · obtain ⟨a', w', es, hgo, hD, hg'⟩ := hstep w (.refl w)
      exact .inr (idleS A ha hcom hwg hmode hgo hD (.acq hg') (by omega))

theorem crew_step (A : Y.Ok) (hAr : ∀ g w, AnchW g w → g.status = .running) (hAn : ∀ g w, AnchW g w → ∃ q, G0 P Y [] (SW1 P Y AnchW Fin) q g w) : ∀ μ m t, InvX P Y AnchW Fin μ m t →
    (∃ m' ops, stepT P m = (.next m', ops) ∧ GoodX P Y Fin m' (t ++ ops)) ∨ (∃ m' ops μ', stepT P m = (.next m', ops) ∧ Lt2 μ' μ ∧ InvX P Y AnchW Fin μ' m' (t ++ ops)) := by
  rintro μ m t ⟨gs, w, sl, j, D, Rm, Sw, S0, Q, tag, f0, d0, a, st, sm, rfl, ha, hcs, hcom, hwg, hmode, rfl⟩
  have hK := A.hK
  have haw : ∀ g ∈ gs, awake g := by
    intro g hg tm
    obtain ⟨i, hi⟩ := Array.mem_iff_getElem?.1 hg
    have hlt := (Array.getElem?_eq_some_iff.1 hi).1
    rw [hcom.size] at hlt
    rcases Nat.eq_zero_or_pos i with rfl | hpos
    · rw [ha] at hi; cases hi
      rcases hcs.status hAr with ⟨hs, _⟩ | ⟨hs, _⟩ <;> rw [hs] <;> simp
    · rcases Nat.lt_or_ge i Y.K with hik | hge
      · obtain ⟨g', hg', hq⟩ := hcom.old i hpos hik
        rw [hi] at hg'; cases hg'
        rcases hq.status with h | h <;> rw [h] <;> simp
      · obtain ⟨g', hg', hs⟩ := hcom.wk (i - Y.K) (by omega)
        rw [show Y.K + (i - Y.K) = i by omega, hi] at hg'; cases hg'
        rcases hs.status with h | h <;> rw [h] <;> simp
  have hsome : ∃ (i : Nat) (g : Goroutine), gs[i]? = some g ∧ g.status = .running := by
    rcases hcs.status hAr with ⟨hs, _⟩ | ⟨_, rfl⟩
    · exact ⟨0, a, ha, hs⟩
    · cases hmode with
      | opn h1 _ _ => exact h1.elim
      | reg _ _ h3 =>
        obtain ⟨i, hi, h5⟩ := exists_counted h3
        obtain ⟨g, hg, hs⟩ := hcom.wk i hi
        exact ⟨_, g, hg, hs.running_of (by omega)⟩
      | last L _ h2 h3 _ =>
        obtain ⟨g, hg, hs⟩ := hcom.wk L h2
        exact ⟨_, g, hg, hs.running_of (by omega)⟩
      | fin h1 _ => exact h1.elim
  obtain ⟨i, g, d, sl', hg, hrun, hstep⟩ := crowd_pick (P := P) (w := w) (sl := sl) haw hsome
  rw [hstep]
  have hcs' := hcs.rely (RX.at w d)
  have hcom' := hcom.at A d
  have hwg' : WgAt Y.ty Y.Wg (w.at d) st sm := hwg
  rcases Nat.eq_zero_or_pos i with rfl | hpos
  · rw [ha] at hg; cases hg
    exact step0X A hAn ha hcs' hcom' hwg' hmode hrun
  · rcases Nat.lt_or_ge i Y.K with hik | hge
    · exact .inr (leaverX A hAr ha hcs' hcom' hwg' hmode hpos hik hg hrun)
    · have hlt : i - Y.K < j := by have := (Array.getElem?_eq_some_iff.1 hg).1; rw [hcom.size] at this; omega
      have e : Y.K + (i - Y.K) = i := by omega
      have := stepWX (sl := sl') A hAr ha hcs' hcom' hwg' hmode hlt (g := g) (by rw [e]; exact hg) hrun
      rw [e] at this
      exact .inr this

theorem crew_runs (A : Y.Ok) (hAr : ∀ g w, AnchW g w → g.status = .running) (hAn : ∀ g w, AnchW g w → ∃ q, G0 P Y [] (SW1 P Y AnchW Fin) q g w) :
    ∀ μ m t, InvX P Y AnchW Fin μ m t → ∃ N m' t', runNT P N m t = (.next m', t') ∧ GoodX P Y Fin m' t' := by
  intro μ
  induction μ using (Prod.lex Nat.lt_wfRel Nat.lt_wfRel).wf.induction with
  | _ μ ih =>
    intro m t hI
    rcases crew_step A hAr hAn μ m t hI with ⟨m', ops, hs, hq⟩ | ⟨m', ops, μ', hs, hr, hI'⟩
    · exact ⟨1, m', t ++ ops, by simp [runNT, hs], hq⟩
    · obtain ⟨N, m'', t', h1, h2⟩ := ih μ' hr m' _ hI'
      exact ⟨N + 1, m'', t', by simp only [runNT, hs]; exact h1, h2⟩

/-- ████ FROM THE GROUP's MAKING TO THE JOIN, BESIDE WHATEVER LEAVERS, ON WHATEVER TAPE. ████ -/
theorem crew_joins (A : Y.Ok) (hAr : ∀ g w, AnchW g w → g.status = .running) (hAn : ∀ g w, AnchW g w → ∃ q, G0 P Y [] (SW1 P Y AnchW Fin) q g w)
    (hsz : gs.size = Y.K) (ha : gs[0]? = some a) (hL : Leavers P t gs Q) (hP : Past (SnL Y) Y.Wg t) (hwin : WIn Y w) (hun0 : ∀ o, w.cell? ⟨Y.C, o, none⟩ = Y.W0.cell? ⟨Y.C, o, none⟩) (hwg : WgAt Y.ty Y.Wg w 0 0) (h : SSp P Y (SLast P Y AnchW) Y.n a w) :
    ∃ N m' t', runNT P N (crowd gs w sl) t = (.next m', t') ∧ GoodX P Y Fin m' t' := by
  have hWl := A.hW
  have lowB : ∀ op ∈ t, op.act.low Y.Wg := hP.seen
  have noWg : ∀ i x, touchAt t i = some x → ¬ WgL Y x.loc := by
    rintro i x hx ⟨ad, e, hb⟩
    obtain ⟨op, hop, hxo⟩ := touch_of hx
    have := lowB op (Array.mem_of_getElem? hop)
    obtain ⟨g, fn, pos, act⟩ := op
    cases act with
    | access ev =>
      simp only [MemAct.touch?, Option.some.injEq] at hxo
      subst hxo
      simp only at e this
      rw [show (MemAct.access ev).low Y.Wg = ev.loc.low Y.Wg from rfl, e] at this
      have : ad.block < Y.Wg := this
      omega
    | mark mm =>
      cases mm <;> simp only [MemAct.touch?] at hxo <;> first | (cases hxo; cases e; (have : ad.block < Y.Wg := this); omega) | cases hxo
    | _ => cases hxo
  have hcom : Crew P Y 0 gs w t (fun _ => ⟨0, 0, 0⟩) (fun _ => 0) (fun _ => []) [] 0 Q := by
    refine ⟨hsz, Nat.zero_le _, fun i h0 hi => ?_, fun m hm => by omega, ⟨hP.clean, fun i x hx hw => absurd hw (noWg i x hx), fun i x hx hm => (hP.known i x hx hm).imp id fun y => .inl ⟨.inl y.1, y.2⟩, fun m hm => by omega, fun m hm => by omega, fun op hop => MemAct.low_mono (by have := hwin.size; omega) (lowB op hop), fun i hi => ?_, fun i g hg hne _ hc => hP.over i g hg hne hc⟩,
      ⟨fun m hm => by omega, fun m _ hm => by omega⟩, by simp, hwin, hP.hears, fun m hm => by omega, hL.above, fun m hm => by omega, fun m hm => by omega, fun m _ _ i _ => hun0 _⟩
    · have hlt : i < gs.size := by omega
      exact ⟨gs[i], Array.getElem?_eq_getElem hlt, hL.old i _ h0 (Array.getElem?_eq_getElem hlt)⟩
    · obtain ⟨op, hop, hact⟩ := Option.map_eq_some_iff.1 hi
      have := lowB op (Array.mem_of_getElem? hop)
      rw [hact] at this
      have : Y.Wg < Y.Wg := this
      omega
  have hmode : ∀ tag, isOpen tag → pend tag = 0 → (∀ vs, tag ≠ .w2 vs) → ConcN.Mode 0 (fun _ => (⟨0, 0, 0⟩ : WD)) tag 0 0 := fun tag h1 h2 h3 => by
    have := ConcN.Mode.opn (j := 0) (D := fun _ => (⟨0, 0, 0⟩ : WD)) h1 (fun i hi => by omega) (fun vs e => absurd e (h3 vs))
    simpa [Vc, sumTo, h2] using this
  have hInv : ∃ μ, InvX P Y AnchW Fin μ (crowd gs w sl) t := by
    cases hn : Y.n with
    | zero =>
      rw [hn] at h
      obtain ⟨m, hk⟩ := h
      refine ⟨_, gs, w, sl, 0, _, _, _, [], Q, .kd, m, 0, a, 0, 0, rfl, ha, ?_, hcom, hwg, hmode .kd trivial rfl (by simp), rfl⟩
      have := SSit.kd (P := P) (Y := Y) (AnchW := AnchW) (Fin := Fin) hk
      rwa [hn] at this
    | succ r =>
      rw [hn] at h
      obtain ⟨m, hk⟩ := h
      have hc := SSit.sal (P := P) (Y := Y) (AnchW := AnchW) (Fin := Fin) (r := r) (by omega) hk
      rw [hn, Nat.sub_self] at hc
      exact ⟨_, gs, w, sl, 0, _, _, _, [], Q, .sp r 6, m, 0, a, 0, 0, rfl, ha, hc, hcom, hwg, hmode (.sp r 6) trivial rfl (by simp), rfl⟩
  obtain ⟨μ, hI⟩ := hInv
  exact crew_runs A hAr hAn μ _ _ hI
end
end Go.Proofs.Ytkefnmmpipeppaa.Rg
