/-
  Theory of walks beside goroutines that only leave (part 9).
-/
import Derived.Test.YtkefnmmpipeppaaRg8
import Derived.Conc.CompanyDraw
import Derived.Conc.CrowdMono
set_option linter.unusedSimpArgs false
set_option linter.unusedVariables false
set_option linter.unusedSectionVars false
namespace Go.Proofs.Ytkefnmmpipeppaa.Rg
open Go.Conc Go.ConcN Go.RowKit Go.Conc.Lib Go.ConcR.Gen Go.ConcN.Gen
open Go.ConcR (KK wgBlock WgAt stA smA rd wr mk Payload Aside2 DC0 Bk)
variable [Kept]

section
variable {P : Program} {R : World → World → Prop} {D : World → World → Array Event → Prop} {Stop : Goroutine → World → Prop}
theorem ex_goes {mn : Bool} {n : Nat} {g : Goroutine} {w : World} (h : Goes P mn R D Stop n g w) : ∃ q, Goes P mn R D Stop q g w := ⟨_, h⟩
/-- In one world: it has not come to its stop yet, so it goes on. -/
theorem goes_next (hR : ∀ w, R w w) {n : Nat} {g g' : Goroutine} {w w' : World} {es : Array Event} (h : Goes P false R D Stop n g w) (hs : ¬ Stop g w) (e : stepG P false g w = .go g' w' es) : D w w' es ∧ ∃ n, Goes P false R D Stop n g' w' := by
  cases n with
  | zero => exact absurd (h w (hR w)) hs
  | succ n =>
    rcases h with h | ⟨_, h⟩
    · exact absurd (h w (hR w)) hs
    · obtain ⟨g₁, w₁, es₁, e₁, hd, hg⟩ := goes_elim (h w (hR w))
      rw [e] at e₁
      cases e₁
      exact ⟨hd, n, hg⟩
end
section
variable [Payload] {P : Program} {ty : TypeId} {Wg C n Low k : Nat} {val : Value} {Own Rd : Nat → Loc → Prop}
theorem next_goes {T : Prop} {g : Goroutine} {w : World} (h : ∃ q, Goes P false (RW ty Wg C n Low (k - 1)) (DWs Wg Own Rd C n k) (AtR0 P ty Wg C n Low k val) q g w)
    (hs : (stepG P false g w).goes fun g' w' es => w' = w ∧ es = #[] ∧ ((∃ q, Goes P false (RW ty Wg C n Low (k - 1)) (DWs Wg Own Rd C n k) (AtR0 P ty Wg C n Low k val) q g' w) → T)) : T := by
  obtain ⟨q, h⟩ := h
  obtain ⟨g', w', es, e, rfl, rfl, hT⟩ := goes_elim hs
  refine hT (goes_next RW.refl h (fun hst => ?_) e).2
  obtain ⟨_, _, g'', e', _⟩ := hst
  rw [e] at e'
  simp at e'
/-- At the release: there the library's walk stops. -/
theorem stop_here {g g' : Goroutine} {w : World} (h : ∃ q, Goes P false (RW ty Wg C n Low (k - 1)) (DWs Wg Own Rd C n k) (AtR0 P ty Wg C n Low k val) q g w)
    (e : stepG P false g w = .go g' w #[mk (.releaseMerge (stA Wg))]) (hno : (∃ q, Goes P false (RW ty Wg C n Low (k - 1)) (DWs Wg Own Rd C n k) (AtR0 P ty Wg C n Low k val) q g' w) → False) : AtR0 P ty Wg C n Low k val g w := by
  obtain ⟨q, h⟩ := h
  exact Classical.byContradiction fun hs => hno (goes_next RW.refl h hs e).2
theorem no_disable {g g' : Goroutine} {w : World} (h : ∃ q, Goes P false (RW ty Wg C n Low (k - 1)) (DWs Wg Own Rd C n k) (AtR0 P ty Wg C n Low k val) q g w) (e : stepG P false g w = .go g' w #[mk .disable]) : False := by
  obtain ⟨q, h⟩ := h
  have := (goes_next RW.refl h (fun hst => by
    obtain ⟨_, _, g'', e', _⟩ := hst
    rw [e] at e'
    simp [mk] at e') e).1
  exact (this.2 (mk .disable) (by simp)).2.1 rfl
end

section
variable {Y : Lay} {m : Nat} {S : List Nat} {w w₁ : World} {ty : TypeId}
theorem wx_rely (h : Y.Ok ∧ Y.ty = ty ∧ HasF Y m w ∧ WgLive ty Y.Wg w ∧ Has Y.Cq m (Y.vq m) w) (r : RX Y (some m) S w w₁) : Y.Ok ∧ Y.ty = ty ∧ HasF Y m w₁ ∧ WgLive ty Y.Wg w₁ ∧ Has Y.Cq m (Y.vq m) w₁ :=
  ⟨h.1, h.2.1, h.2.2.1.of_rx h.1 r, by have := r.live; rw [h.2.1] at this; exact this h.2.2.2.1, (cell_of_block' (r.low Y.Cq h.1.hCq.1 h.1.hCq.2.1 h.1.hCq.2.2) m).trans h.2.2.2.2⟩
end

section
variable [Payload] {L : WgLink} {P : Program} {Y : Lay} {m : Nat} {S : List Nat} {c : Frame} {cs : List Frame} {qt : Nat}

set_option maxRecDepth 100000 in
set_option maxHeartbeats 4000000 in
theorem doneX (H : WgLib P L) (hcm : c.mode = .returning) (hT : QuitsD P qt 0 (G c cs)) (w : World) (hF : Y.Ok ∧ Y.ty = L.tWg ∧ HasF Y m w ∧ WgLive L.tWg Y.Wg w ∧ Has Y.Cq m (Y.vq m) w) :
    Goes P false (RX Y (some m) S) DC0 (FStop P Y m 0 S) 23 (G ((baseD L.done).at ⟨#[.pointer (some ⟨Y.Wg, 0, none⟩), undef, undef, undef], []⟩ [.code (body_done L)]) (c :: cs)) w := by
  lib_facts
  have hlib := fun (w₁ : World) hK => ex_goes (@doneN _ L P H (fun _ _ => False) (fun _ _ => False) Y.Wg Y.Cq Y.nq 0 (m + 1) (Y.vq m) c cs qt hcm hT w₁ hK)
  simp only [body_done, body_add, doneFn, addFn, Option.getD_some] at hlib ⊢
  u_reg wx_rely hF
  u_op wx_rely hF
  u_in wx_rely hF
  refine goes_call rfl rfl (by k_ne) rfl H.f_add (nm_add L) rfl ⟨by u_nil, ?_⟩
  walk_nrmf addFn
  u_c stepG_seq wx_rely hF
  u_cond true wx_rely hF
  u_c stepG_seq wx_rely hF
  u_c stepG_seq wx_rely hF
  u_reg wx_rely hF
  u_op wx_rely hF
  u_op wx_rely hF
  u_c stepG_region_end wx_rely hF
  u_cond true wx_rely hF
  u_reg wx_rely hF
  u_op wx_rely hF
  u_conv H.underlying_tWgP H.room_tWg (WgLive.cell0 hF.2.2.2.1).choose_spec wx_rely hF
  refine Goes.stop (fun w₁ h₁ => ?_)
  replace hF := wx_rely hF h₁
  clear h₁
  refine ⟨hF.2.2.1, ?_⟩
  have hty := hF.2.1
  rw [hty]
  have hc0 := (WgLive.cell0 hF.2.2.2.1).choose_spec
  have hL := hlib w₁ ⟨hF.2.2.2.1, by simpa using hF.2.2.2.2⟩
  clear hlib
  refine next_goes (k := m + 1) hL ?_
  clear hL
  rw [stepG_region]
  simp only [goes_go, List.size_toArray, List.length_cons, List.length_nil, Nat.reduceAdd, Nat.zero_add, List.range, List.range.loop]
  refine ⟨by trivial, by trivial, fun hL => ?_⟩
  refine next_goes (k := m + 1) hL ?_
  clear hL
  refine goes_oper_k rfl rfl (by k_ne) (fun K hK => ?_)
  go_simp
  refine hK _ _ ⟨rfl, Array.eq_empty_iff_forall_not_mem.2 fun e he => ?_, fun hL => ?_⟩
  · have hm := mem_listed he
    simp [go_sem, *] at hm
  clear hK K
  try w_num
  refine next_goes (k := m + 1) hL ?_
  clear hL
  refine goes_call rfl rfl (by k_ne) rfl H.f_add (nm_add L) rfl ⟨by trivial, by trivial, ?_⟩
  walk_nrmf addFn
  intro hL
  refine next_goes (k := m + 1) hL ?_
  clear hL
  rw [stepG_seq]
  simp only [goes_go]
  refine ⟨by trivial, by trivial, fun hL => ?_⟩
  refine next_goes (k := m + 1) hL ?_
  clear hL
  rw [stepG_cond (t := true) rfl]
  simp only [goes_go, if_true, if_false, Bool.false_eq_true, ↓reduceIte]
  refine ⟨by trivial, by trivial, fun hL => ?_⟩
  refine next_goes (k := m + 1) hL ?_
  clear hL
  rw [stepG_seq]
  simp only [goes_go]
  refine ⟨by trivial, by trivial, fun hL => ?_⟩
  refine next_goes (k := m + 1) hL ?_
  clear hL
  rw [stepG_seq]
  simp only [goes_go]
  refine ⟨by trivial, by trivial, fun hL => ?_⟩
  refine next_goes (k := m + 1) hL ?_
  clear hL
  rw [stepG_region]
  simp only [goes_go, List.size_toArray, List.length_cons, List.length_nil, Nat.reduceAdd, Nat.zero_add, List.range, List.range.loop]
  refine ⟨by trivial, by trivial, fun hL => ?_⟩
  refine next_goes (k := m + 1) hL ?_
  clear hL
  refine goes_oper_k rfl rfl (by k_ne) (fun K hK => ?_)
  go_simp
  refine hK _ _ ⟨rfl, Array.eq_empty_iff_forall_not_mem.2 fun e he => ?_, fun hL => ?_⟩
  · have hm := mem_listed he
    simp [go_sem, *] at hm
  clear hK K
  try w_num
  refine next_goes (k := m + 1) hL ?_
  clear hL
  refine goes_oper_k rfl rfl (by k_ne) (fun K hK => ?_)
  go_simp
  refine hK _ _ ⟨rfl, Array.eq_empty_iff_forall_not_mem.2 fun e he => ?_, fun hL => ?_⟩
  · have hm := mem_listed he
    simp [go_sem, *] at hm
  clear hK K
  try w_num
  refine next_goes (k := m + 1) hL ?_
  clear hL
  rw [stepG_region_end]
  simp only [goes_go]
  refine ⟨by trivial, by trivial, fun hL => ?_⟩
  refine next_goes (k := m + 1) hL ?_
  clear hL
  rw [stepG_cond (t := true) rfl]
  simp only [goes_go, if_true, if_false, Bool.false_eq_true, ↓reduceIte]
  refine ⟨by trivial, by trivial, fun hL => ?_⟩
  refine next_goes (k := m + 1) hL ?_
  clear hL
  rw [stepG_region]
  simp only [goes_go, List.size_toArray, List.length_cons, List.length_nil, Nat.reduceAdd, Nat.zero_add, List.range, List.range.loop]
  refine ⟨by trivial, by trivial, fun hL => ?_⟩
  refine next_goes (k := m + 1) hL ?_
  clear hL
  refine goes_oper_k rfl rfl (by k_ne) (fun K hK => ?_)
  go_simp
  refine hK _ _ ⟨rfl, Array.eq_empty_iff_forall_not_mem.2 fun e he => ?_, fun hL => ?_⟩
  · have hm := mem_listed he
    simp [go_sem, *] at hm
  clear hK K
  try w_num
  refine next_goes (k := m + 1) hL ?_
  clear hL
  refine goes_oper_k rfl rfl (by k_ne) (fun Kx hKx => ?_)
  have hcv := run_convert_to_unsafe (P := P) H.underlying_tWgP H.underlying_tUP H.room_tWg hc0
  have hce := fun es => events_convert_to_unsafe (P := P) H.underlying_tWgP H.underlying_tUP H.room_tWg hc0 es
  go_simp
  refine hKx _ _ ⟨rfl, Array.eq_empty_iff_forall_not_mem.2 fun e he => ?_, fun hL => ?_⟩
  · have hm := mem_listed he
    simp [go_sem, hce] at hm
  clear hKx Kx hcv hce
  refine stop_here (k := m + 1) hL (stepG_markAt .releaseMerge (by simp) rfl rfl (by k_ne) rfl H.f_relMerge (x_relMerge_n L) (x_relMerge_b L) (x_relMerge_x L) (x_relMerge_f L) (by simp [Act.eval, stA])) ?_
  walk_nrm
  intro hL
  refine next_goes (k := m + 1) hL ?_
  clear hL
  rw [stepG_region_end]
  simp only [goes_go]
  refine ⟨by trivial, by trivial, fun hL => ?_⟩
  refine next_goes (k := m + 1) hL ?_
  clear hL
  rw [stepG_seq]
  simp only [goes_go]
  refine ⟨by trivial, by trivial, fun hL => ?_⟩
  refine next_goes (k := m + 1) hL ?_
  clear hL
  rw [stepG_region]
  simp only [goes_go, List.size_toArray, List.length_cons, List.length_nil, Nat.reduceAdd, Nat.zero_add, List.range, List.range.loop]
  refine ⟨by trivial, by trivial, fun hL => ?_⟩
  exact no_disable (k := m + 1) hL (stepG_mark0 .disable (by simp) rfl rfl (by k_ne) rfl H.f_disable (x_disable_n L) (x_disable_b L) (x_disable_x L) (x_disable_f L))
end
end Go.Proofs.Ytkefnmmpipeppaa.Rg

namespace Go.Proofs.Ytkefnmmpipeppaa.Rg
open Go.Conc Go.ConcN Go.RowKit Go.Conc.Lib Go.ConcR.Gen Go.ConcN.Gen
open Go.ConcR (KK wgBlock WgAt stA smA rd wr mk Payload Aside2 DC0 Bk)
variable [Kept]

/-- All orders in which a region's operations may come up. -/
def ordersOf (md : Region.Mode) (ops : Array Oper) : Nat → Array Bool → List (List Nat)
  | 0, _ => [[]]
  | f + 1, l => match Region.ready md ops l with
    | [] => [[]]
    | r :: rs => (r :: rs).flatMap fun i => (ordersOf md ops f (l.setIfInBounds i true)).map (i :: ·)
theorem order_mem {md : Region.Mode} {ops : Array Oper} : ∀ (f t : Nat) (l : Array Bool), Region.linearise.go md ops f t l [] ∈ ordersOf md ops f l := by
  intro f
  induction f with
  | zero => intro t l; simp [Region.linearise.go, ordersOf]
  | succ f ih =>
    intro t l
    simp only [Region.linearise.go]
    change (match (Region.ready md ops l)[t % (Region.ready md ops l).length]? with
      | some i => Region.linearise.go md ops f (t / (Region.ready md ops l).length) (l.setIfInBounds i true) [i]
      | none => [].reverse) ∈ _
    unfold ordersOf
    cases hr : Region.ready md ops l with
    | nil => simp
    | cons x xs =>
      have hlt : t % (x :: xs).length < (x :: xs).length := Nat.mod_lt _ (by simp)
      rw [List.getElem?_eq_getElem hlt]
      simp only []
      rw [linearise_go_acc, List.reverse_singleton, List.singleton_append]
      exact List.mem_flatMap.2 ⟨_, List.getElem_mem hlt, List.mem_map.2 ⟨_, ih _ _, rfl⟩⟩
theorem schedule_mem {ops : Array Oper} {os : List (List Nat)} (h : ordersOf .any ops ops.size (Array.replicate ops.size false) = os) (t : Nat) : Region.schedule true ops t ∈ os := by
  rw [← h]
  simp only [Region.schedule, Bool.true_or, if_true]
  exact order_mem _ _ _

theorem goes_draw {P : Program} {mn : Bool} {R : World → World → Prop} {D : World → World → Array Event → Prop} {Stop : Goroutine → World → Prop} {b : Frame} {a : Act} {k : List Item} {cs : List Frame} {w : World} {id n : Nat} {ops : Array Oper} {os : List (List Nat)}
    (hm : P.follows .mixedOrders = true) (ho : ordersOf .any ops ops.size (Array.replicate ops.size false) = os) (hD : ∀ w : World, D w { w with drawn := w.drawn + 1 } #[])
    (h : ∀ w₁, R w w₁ → ∀ o ∈ os, Goes P mn R D Stop n (G (b.at a (.inRegion ops o :: k)) cs) { w₁ with drawn := w₁.drawn + 1 }) : Goes P mn R D Stop (n + 1) (G (b.at a (.code (.region id ops true) :: k)) cs) w := by
  refine Goes.step rfl fun w₁ h₁ => ?_
  rw [stepG_region_draw, hm]
  exact ⟨hD _, h w₁ h₁ _ (schedule_mem ho _)⟩

section
variable {Y : Lay} {r : Option Nat} {S : List Nat} {w : World}
theorem DX.drawn (w : World) : DX Y r S w { w with drawn := w.drawn + 1 } #[] := ⟨rfl, rfl, rfl, fun _ _ _ => rfl, fun _ _ => rfl, id, fun _ _ h => h, by simp⟩
theorem RX.drawn (w : World) : RX Y r S w { w with drawn := w.drawn + 1 } := RX.at w _
theorem evx_ro {ad : Addr} (h : Ro Y ad.block) : EvX Y r S ⟨.cell ad, false, false⟩ := .inl ⟨ad, false, rfl, ad, rfl, .inr (.inr ⟨rfl, h⟩)⟩
theorem evx_own {ad : Addr} {wr : Bool} (h : ad.block ∈ S) : EvX Y r S ⟨.cell ad, wr, false⟩ := .inl ⟨ad, wr, rfl, ad, rfl, .inl h⟩
theorem evx_mine {ad : Addr} {wr : Bool} (h : MineA Y r ad) : EvX Y r S ⟨.cell ad, wr, false⟩ := .inl ⟨ad, wr, rfl, ad, rfl, .inr (.inl h)⟩
end
section
variable [Payload] {P : Program} {Y : Lay} {m r : Nat} {S : List Nat} {g : Goroutine} {w : World}
theorem fstop_of_goes (hr : g.status = .running) (h : (stepG P false g w).goes fun g' w' es => es = #[] ∧ ∃ c ety, c.size ≠ 0 ∧ w' = w.alloc (.cells c ety) ∧ ∃ q, Goes P false (RX Y (some m) (w.heap.size :: S)) (DX Y (some m) (w.heap.size :: S)) (FStop P Y m r (w.heap.size :: S)) q g' w') : FStop P Y m (r + 1) S g w := by
  obtain ⟨g', w', es, e, rfl, c, ety, hc, rfl, hk⟩ := goes_elim h
  exact ⟨hr, g', c, ety, hc, e, hk⟩
theorem sal_of_goes {j : Nat} {Next : Goroutine → World → Prop} (hr : g.status = .running) (h : (stepG P true g w).goes fun g' w' es => es = #[] ∧ ∃ c ety, c.size ≠ 0 ∧ w' = w.alloc (.cells c ety) ∧ ∃ q, G0 P Y [w.heap.size] (SKd1 P Y j w.heap.size Next) q g' w') : SAl P Y j Next g w := by
  obtain ⟨g', w', es, e, rfl, c, ety, hc, rfl, hk⟩ := goes_elim h
  exact ⟨hr, g', c, ety, hc, e, hk⟩
end
section
variable [Payload] {P : Program} {Y : Lay} {A A' F F' : Goroutine → World → Prop} {g : Goroutine} {w : World} {vs : Nat}
omit [Payload] in
theorem SAcq.mono (hF : ∀ g w, F g w → F' g w) (h : SAcq P Y F g w) : SAcq P Y F' g w := let ⟨h0, g', h1, h2⟩ := h; ⟨h0, g', h1, hF _ _ h2⟩
omit [Payload] in
theorem SKe.mono (hF : ∀ g w, F g w → F' g w) (h : SKe P Y F g w) : SKe P Y F' g w := let ⟨h0, g', h1, q, h2⟩ := h; ⟨h0, g', h1, q, goes_mono (fun _ _ x => SAcq.mono hF x) h2⟩
omit [Payload] in
theorem SW4.mono (hF : ∀ g w, F g w → F' g w) (h : SW4 P Y F g w) : SW4 P Y F' g w := ⟨h.1, fun hw => let ⟨g', h1, q, h2⟩ := h.2 hw; ⟨g', h1, q, goes_mono (fun _ _ x => SKe.mono hF x) h2⟩⟩
omit [Payload] in
theorem SW3.mono (hF : ∀ g w, F g w → F' g w) (h : SW3 P Y F g w) : SW3 P Y F' g w := ⟨h.1, h.2.1, h.2.2.1, fun hw => let ⟨g', h1, q, h2⟩ := h.2.2.2 hw; ⟨g', h1, q, goes_mono (fun _ _ x => SW4.mono hF x) h2⟩⟩
omit [Payload] in
theorem SW2.mono (hA : ∀ g w, A g w → A' g w) (hF : ∀ g w, F g w → F' g w) (h : SW2 P Y A F vs g w) : SW2 P Y A' F' vs g w :=
  ⟨h.1, fun v hv hw => ⟨fun e => let ⟨g', h1, q, h2⟩ := (h.2 v hv hw).1 e; ⟨g', h1, q, goes_mono (fun _ _ x => SW3.mono hF x) h2⟩, fun e => let ⟨g', h1, q, h2⟩ := (h.2 v hv hw).2 e; ⟨g', h1, q, goes_mono hA h2⟩⟩⟩
omit [Payload] in
theorem SW1.mono (hA : ∀ g w, A g w → A' g w) (hF : ∀ g w, F g w → F' g w) (h : SW1 P Y A F g w) : SW1 P Y A' F' g w :=
  ⟨h.1, fun v hv hw => let ⟨g', h1, h2, h3⟩ := h.2 v hv hw; ⟨g', h1, fun e => let ⟨q, h4⟩ := h2 e; ⟨q, goes_mono (fun _ _ x => SKe.mono hF x) h4⟩, fun e => let ⟨q, h4⟩ := h3 e; ⟨q, goes_mono (fun _ _ x => SW2.mono hA hF x) h4⟩⟩⟩
omit [Payload] in
theorem SKd.mono (hA : ∀ g w, A g w → A' g w) (h : SKd P Y A g w) : SKd P Y A' g w := let ⟨h0, g', h1, q, h2⟩ := h; ⟨h0, g', h1, q, goes_mono hA h2⟩
end
theorem rel_real {v w : World} (r : Rel v w) {b : Nat} (hg : ¬ Ghost v b) : w.heap[b]? = v.heap[b]? := by
  rcases r.block b with e | ⟨e, _⟩
  · exact e
  · exact absurd e hg
theorem not_ghost {v : World} {b : Nat} {c : Array Value} {t : TypeId} {f : Nat × Nat} (h : v.heap[b]? = some (.cells c t f)) : ¬ Ghost v b := by rintro ⟨s, p, e⟩; rw [h] at e; cases e
theorem not_ghost_cell {v : World} {b o : Nat} {z : Value} (h : v.cell? ⟨b, o, none⟩ = some z) : ¬ Ghost v b := by rintro ⟨s, p, e⟩; unfold World.cell? at h; rw [e] at h; cases h
theorem layOf_ok {v w : World} {ty : TypeId} {C nC n : Nat} {ety : TypeId} {rg : Nat → Nat} {fin : Nat → Nat → Value} {Cq nq : Nat} {vq : Nat → Value} {cells : Array Value} {K : Nat} (hr : Rel v w) (hlt : 0 < K)
    (hpay : v.heap[C]? = some (.cells cells ety)) (hCq : Cq < v.heap.size) (hne : Cq ≠ C) (hn : n < 2147483648)
    (apart : ∀ m m', m < n → m' < n → m ≠ m' → rg m + 3 ≤ rg m' ∨ rg m' + 3 ≤ rg m) (room : ∀ m, m < n → rg m + 3 ≤ nC) : (layOf v ty C nC n ety rg fin Cq nq vq K w).Ok := by
  have hCv : C < v.heap.size := (Array.getElem?_eq_some_iff.1 hpay).1
  have hsz := hr.size
  refine ⟨?_, Nat.lt_succ_self _, ?_, apart, room, not_ghost hpay, fun b hb => ?_, hn, hlt, ⟨?_, hne, ?_⟩⟩
  · show C < w.heap.size + 1; omega
  · show C ≠ w.heap.size; omega
  · obtain ⟨s, p, e⟩ := hb
    have := (Array.getElem?_eq_some_iff.1 e).1
    show b < w.heap.size; omega
  · show Cq < w.heap.size + 1; omega
  · show Cq ≠ w.heap.size; omega
theorem layOf_ro {v w : World} {ty : TypeId} {C nC n : Nat} {ety : TypeId} {rg : Nat → Nat} {fin : Nat → Nat → Value} {Cq nq : Nat} {vq : Nat → Value} {K b : Nat} (hr : Rel v w) (hb : b < v.heap.size) (hC : b ≠ C) (hg : ¬ Ghost v b) : Ro (layOf v ty C nC n ety rg fin Cq nq vq K w) b := by
  have hsz := hr.size
  refine ⟨?_, hC, ?_, hg⟩
  · show b < w.heap.size + 1; omega
  · show b ≠ w.heap.size; omega
theorem rel_cell {v w : World} (r : Rel v w) {b o : Nat} {z : Value} (h : v.cell? ⟨b, o, none⟩ = some z) (x : Obj) : (w.alloc x).cell? ⟨b, o, none⟩ = some z := by
  have hb : b < w.heap.size := by
    rw [r.size]
    unfold World.cell? at h
    cases hv : v.heap[b]? with
    | none => rw [hv] at h; cases h
    | some y => exact (Array.getElem?_eq_some_iff.1 hv).1
  rw [cell_of_block' (Below.heap_alloc _ _ _ hb) o, cell_of_block' (rel_real r (not_ghost_cell h)) o]
  exact h
theorem cell_lower {w : World} {b o j : Nat} {v : Value} (h : w.cell? ⟨b, o, none⟩ = some v) (hj : j ≤ o) : ∃ v, w.cell? ⟨b, j, none⟩ = some v := by
  unfold World.cell? at h ⊢
  cases hb : w.heap[b]? with
  | none => rw [hb] at h; cases h
  | some x =>
    rw [hb] at h
    cases x <;> simp only [] at h ⊢ <;> first | cases h | skip
    rename_i c _ _
    have : o < c.size := by
      rcases Nat.lt_or_ge o c.size with hlt | hge
      · exact hlt
      · rw [Array.getElem?_eq_none hge] at h; cases h
    exact ⟨c[j]'(by omega), Array.getElem?_eq_getElem (by omega)⟩
end Go.Proofs.Ytkefnmmpipeppaa.Rg
