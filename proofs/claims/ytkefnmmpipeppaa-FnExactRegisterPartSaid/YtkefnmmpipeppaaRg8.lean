/-
  Theory of walks beside goroutines that only leave (part 8).
-/
import Derived.Test.YtkefnmmpipeppaaRg7
import Derived.Conc.WgWords
import Derived.Conc.WgGenN3
set_option linter.unusedSimpArgs false
set_option linter.unusedVariables false
set_option linter.unusedSectionVars false
namespace Go.Proofs.Ytkefnmmpipeppaa.Rg
open Go.Conc Go.ConcN Go.RowKit Go.Conc.Lib Go.ConcR.Gen Go.ConcN.Gen
open Go.ConcR (KK wgBlock WgAt stA smA rd wr mk Payload Aside2 DC0 Bk)
variable [Kept]

section
variable {P : Program} {mn : Bool} {R : World → World → Prop} {D D' : World → World → Array Event → Prop} {Stop : Goroutine → World → Prop}
theorem goes_cut (hD : ∀ w w' es, D w w' es → D' w w' es) (hR : ∀ w, R w w) {k : Nat} : ∀ {n : Nat} {g : Goroutine} {w : World}, Goes P mn R D (fun g w => Goes P mn R D' Stop k g w) n g w → Goes P mn R D' Stop (n + k) g w
  | 0, g, w, h => by rw [Nat.zero_add]; exact h w (hR w)
  | n + 1, g, w, h => by
    rcases h with hs | ⟨hr, hst⟩
    · exact Goes.mono (hs w (hR w)) (by omega)
    · rw [show n + 1 + k = (n + k) + 1 by omega]
      refine .inr ⟨hr, fun w₁ r => ?_⟩
      obtain ⟨g', w', es, e, hd, hn⟩ := goes_elim (hst w₁ r)
      rw [e]
      exact ⟨hD _ _ _ hd, goes_cut hD hR hn⟩
theorem goes_dmono (hD : ∀ w w' es, D w w' es → D' w w' es) : ∀ {n : Nat} {g : Goroutine} {w : World}, Goes P mn R D Stop n g w → Goes P mn R D' Stop n g w
  | 0, _, _, h => h
  | n + 1, g, w, h => by
    rcases h with hs | ⟨hr, hst⟩
    · exact .inl hs
    · refine .inr ⟨hr, fun w₁ r => ?_⟩
      obtain ⟨g', w', es, e, hd, hn⟩ := goes_elim (hst w₁ r)
      rw [e]
      exact ⟨hD _ _ _ hd, goes_dmono hD hn⟩
end
theorem dc0_dx {Y : Lay} {r : Option Nat} {S : List Nat} (w w' : World) (es : Array Event) (h : DC0 w w' es) : DX Y r S w w' es := by
  obtain ⟨rfl, rfl⟩ := h
  exact .refl (by simp) _
theorem fx_rely {Y : Lay} {r : Option Nat} {S : List Nat} {ty : TypeId} {F : World → Prop} (hF2 : Y.ty = ty ∧ ∀ w w', RX Y r S w w' → F w → F w') {w w₁ : World} (h : F w ∧ WgLive ty Y.Wg w) (q : RX Y r S w w₁) : F w₁ ∧ WgLive ty Y.Wg w₁ :=
  ⟨hF2.2 _ _ q h.1, by have := q.live; rw [hF2.1] at this; exact this h.2⟩
theorem fx_set {Y : Lay} {r : Option Nat} {S : List Nat} {ty : TypeId} {F : World → Prop} (A : Y.Ok) (hS : ∀ b ∈ S, Y.Low ≤ b) (hF2 : Y.ty = ty ∧ ∀ w w', RX Y r S w w' → F w → F w') {w : World} {a : Addr} {z : Value} (h : F w ∧ WgLive ty Y.Wg w) (ha : a.block = Y.Wg) (hl : WgLive ty Y.Wg (w.setCell a z)) : F (w.setCell a z) ∧ WgLive ty Y.Wg (w.setCell a z) :=
  ⟨hF2.2 _ _ (RX.of_wg A (ha ▸ aside_setCell w a z) (by rw [hF2.1]; exact hl) hS) h.1, hl⟩

theorem gt_goes {P : Program} {fr : Frame} {cs : List Frame} {v : World} {X : Frame → List Frame → World → Prop} (h : ∀ w, Rel v w → (stepG P true (G fr cs) w).goes fun g' w' es => w' = w ∧ es = #[] ∧ ∃ fr' cs', g' = G fr' cs' ∧ GT P fr' cs' v X) : GT P fr cs v X :=
  gt_step fun w r => by
    obtain ⟨g', w', es, e, rfl, rfl, fr', cs', rfl, g⟩ := goes_elim (h w r)
    exact ⟨fr', cs', v, w', #[], e, .refl v, r, by simp, g⟩

section
variable [Payload] {L : WgLink} {P : Program} {Y : Lay} {F : World → Prop} {Next : Goroutine → World → Prop} {j b : Nat}
  {b₀ : Frame} {a₀ : Act} {ops₀ : Array Oper} {i₀ : Nat} {rest₀ : List Nat} {k₀ : List Item} {cs : List Frame} {mT : Nat}

set_option maxRecDepth 100000 in
set_option maxHeartbeats 8000000 in
theorem addPosX (H : WgLib P L) (A : Y.Ok) (hb : Y.Low ≤ b) (hF2 : Y.ty = L.tWg ∧ ∀ w w', RX Y none [b] w w' → F w → F w')
    (hT : ∀ w, F w ∧ WgLive L.tWg Y.Wg w → Goes P true (RX Y none [b]) DC0 (SGo P Y j b Next) mT (G (b₀.at (a₀.put ((ops₀[i₀]?).bind (·.dst)) (.tuple #[])) (.inRegion ops₀ rest₀ :: k₀)) cs) w)
    (w : World) (hF : F w ∧ WgLive L.tWg Y.Wg w) :
    Goes P true (RX Y none [b]) DC0 (SKd1 P Y j b Next) 12
      (G ((base L.add).at ⟨#[.pointer (some ⟨Y.Wg, 0, none⟩), .int .i64 1, undef, undef, undef, undef, undef, undef, undef, undef, undef, undef, undef, undef, undef, undef, undef, undef, undef, undef, undef, undef, undef, undef, undef, undef, undef, undef, undef, undef, undef, undef, undef, undef, undef, undef, undef, undef, undef, undef, undef, undef, undef, undef, undef, undef, undef, undef, undef, undef, undef, undef, undef, undef, undef, undef, undef, undef, undef, undef, undef, undef, undef, undef, undef, undef, undef, undef, undef, undef, undef, undef, undef, undef, undef, undef, undef, undef, undef, undef, undef, undef, undef, undef, undef, undef, undef, undef, undef, undef, undef, undef, undef, undef, undef, undef, undef, undef, undef, undef, undef, undef, undef, undef, undef, undef, undef, undef, undef, undef, undef, undef, undef, undef, undef, undef, undef], []⟩ [.code (body_add L)]) (b₀.at a₀ (.inRegion ops₀ (i₀ :: rest₀) :: k₀) :: cs)) w := by
  lib_facts
  have hS : ∀ x ∈ [b], Y.Low ≤ x := fun x hx => (show x = b by simpa using hx) ▸ hb
  simp only [body_add, addFn, Option.getD_some]
  u_c stepG_seq (fx_rely hF2) hF
  u_cond true (fx_rely hF2) hF
  u_c stepG_seq (fx_rely hF2) hF
  u_c stepG_seq (fx_rely hF2) hF
  u_reg (fx_rely hF2) hF
  u_op (fx_rely hF2) hF
  u_op (fx_rely hF2) hF
  u_c stepG_region_end (fx_rely hF2) hF
  u_cond false (fx_rely hF2) hF
  u_c stepG_skip (fx_rely hF2) hF
  u_c stepG_seq (fx_rely hF2) hF
  u_reg (fx_rely hF2) hF
  refine Goes.stop (fun w₁ h₁ => ?_)
  replace hF := fx_rely hF2 hF h₁
  clear h₁
  refine ⟨rfl, _, stepG_mark0 .disable (by simp) rfl rfl (by k_ne) rfl H.f_disable (x_disable_n L) (x_disable_b L) (x_disable_x L) (x_disable_f L), 40, goes_dmono dc0_dx ?_⟩
  walk_nrm
  u_c stepG_region_end (fx_rely hF2) hF
  u_reg (fx_rely hF2) hF
  u_defer (fx_rely hF2) hF
  u_c stepG_region_end (fx_rely hF2) hF
  u_c stepG_seq (fx_rely hF2) hF
  u_reg (fx_rely hF2) hF
  u_op (fx_rely hF2) hF
  u_c stepG_region_end (fx_rely hF2) hF
  u_c stepG_seq (fx_rely hF2) hF
  u_c stepG_seq (fx_rely hF2) hF
  u_reg (fx_rely hF2) hF
  u_bub (fx_rely hF2) hF
  u_c stepG_region_end (fx_rely hF2) hF
  u_cond false (fx_rely hF2) hF
  u_c stepG_skip (fx_rely hF2) hF
  u_c stepG_seq (fx_rely hF2) hF
  u_reg (fx_rely hF2) hF
  u_op (fx_rely hF2) hF
  u_op (fx_rely hF2) hF
  u_op (fx_rely hF2) hF
  u_op (fx_rely hF2) hF
  u_op (fx_rely hF2) hF
  u_op (fx_rely hF2) hF
  u_call H.f_uAdd (nm_uAdd L) uAddFn (fx_rely hF2) hF
  u_c stepG_seq (fx_rely hF2) hF
  u_reg (fx_rely hF2) hF
  u_op (fx_rely hF2) hF
  u_c stepG_region_end (fx_rely hF2) hF
  u_c stepG_seq (fx_rely hF2) hF
  u_reg (fx_rely hF2) hF
  u_op (fx_rely hF2) hF
  u_op (fx_rely hF2) hF
  u_op (fx_rely hF2) hF
  u_op (fx_rely hF2) hF
  refine Goes.stop (fun w₂ h₂ => ?_)
  replace hF := fx_rely hF2 hF h₂
  clear h₂
  refine ⟨rfl, fun v hv hw => ?_⟩
  rw [hF2.1] at hw
  rcases Nat.eq_zero_or_pos v with rfl | hvp
  · replace hw : WgAt L.tWg Y.Wg w₂ 0 0 := by simpa using hw
    have z : (((0 : Nat) : Int) + 1) * KK = KK := by simp
    rw [z]
    have e0 : IntKind.u64.wrap (0 + 4294967296) = KK := by decide
    refine ⟨_, (stepG_add_atomic rfl rfl (by k_ne) rfl H.f_addU64 (x_addU64_n L) (x_addU64_b L) (x_addU64_x L) .u64 (x_addU64_f L) rfl rfl hw.cellSt (hw.thaw 0)).trans (by rw [e0]; rfl), 70 + 70, goes_cut dc0_dx (RX.refl) ?_⟩
    replace hF := fx_set (a := stA Y.Wg) (z := .int .u64 KK) A hS hF2 hF rfl ⟨_, _, hw.setSt _⟩
    clear hw
    simp only [KK] at hF ⊢
    walk_nrm
    u_op (fx_rely hF2) hF
    u_c stepG_region_end (fx_rely hF2) hF
    u_c stepG_ret' (fx_rely hF2) hF
    u_leave1 H.f_uAdd (fx_rely hF2) hF
    u_op (fx_rely hF2) hF
    u_c stepG_region_end (fx_rely hF2) hF
    u_c stepG_seq (fx_rely hF2) hF
    u_c stepG_seq (fx_rely hF2) hF
    u_reg (fx_rely hF2) hF
    u_op (fx_rely hF2) hF
    u_op (fx_rely hF2) hF
    u_op (fx_rely hF2) hF
    u_op (fx_rely hF2) hF
    u_skip (fx_rely hF2) hF
    u_skip (fx_rely hF2) hF
    u_op (fx_rely hF2) hF
    u_c stepG_region_end (fx_rely hF2) hF
    u_cond false (fx_rely hF2) hF
    u_c stepG_skip (fx_rely hF2) hF
    u_c stepG_seq (fx_rely hF2) hF
    u_reg (fx_rely hF2) hF
    u_op (fx_rely hF2) hF
    u_op (fx_rely hF2) hF
    u_op (fx_rely hF2) hF
    u_op (fx_rely hF2) hF
    u_c stepG_region_end (fx_rely hF2) hF
    u_c stepG_seq (fx_rely hF2) hF
    u_reg (fx_rely hF2) hF
    u_op (fx_rely hF2) hF
    u_op (fx_rely hF2) hF
    u_op (fx_rely hF2) hF
    u_op (fx_rely hF2) hF
    u_c stepG_region_end (fx_rely hF2) hF
    u_c stepG_seq (fx_rely hF2) hF
    u_c stepG_seq (fx_rely hF2) hF
    u_reg (fx_rely hF2) hF
    u_op (fx_rely hF2) hF
    u_op (fx_rely hF2) hF
    u_op (fx_rely hF2) hF
    u_op (fx_rely hF2) hF
    u_op (fx_rely hF2) hF
    u_op (fx_rely hF2) hF
    u_op (fx_rely hF2) hF
    u_op (fx_rely hF2) hF
    u_op (fx_rely hF2) hF
    u_op (fx_rely hF2) hF
    u_c stepG_region_end (fx_rely hF2) hF
    u_cond true (fx_rely hF2) hF
    u_reg (fx_rely hF2) hF
    u_op (fx_rely hF2) hF
    u_op (fx_rely hF2) hF
    u_op (fx_rely hF2) hF
    u_conv H.underlying_tPU32 H.room_tU32 (WgLive.cell1 hF.2).choose_spec (fx_rely hF2) hF
    refine Goes.stop (fun w₃ h₃ => ?_)
    replace hF := fx_rely hF2 hF h₃
    clear h₃
    rw [show (70 : Nat) = 69 + 1 from rfl]
    u_in (fx_rely hF2) hF
    rw [stepG_markAt .read (by simp) rfl rfl (by k_ne) rfl H.f_raceRead (x_raceRead_n L) (x_raceRead_b L) (x_raceRead_x L) (x_raceRead_f L) (ad := ⟨Y.Wg, 1, none⟩) (by simp [Act.eval])]
    simp only [goes_go]
    refine ⟨.refl (fun e he => ?_) _, goes_dmono dc0_dx ?_⟩
    · rw [Array.mem_singleton] at he
      subst he
      exact .inr ⟨rfl, _, rfl, .inl rfl⟩
    walk_nrm
    u_c stepG_region_end (fx_rely hF2) hF
    u_c stepG_seq (fx_rely hF2) hF
    u_c stepG_seq (fx_rely hF2) hF
    u_reg (fx_rely hF2) hF
    u_op (fx_rely hF2) hF
    u_op (fx_rely hF2) hF
    u_c stepG_region_end (fx_rely hF2) hF
    u_cond false (fx_rely hF2) hF
    u_c stepG_skip (fx_rely hF2) hF
    u_c stepG_seq (fx_rely hF2) hF
    u_c stepG_seq (fx_rely hF2) hF
    u_reg (fx_rely hF2) hF
    u_op (fx_rely hF2) hF
    u_op (fx_rely hF2) hF
    u_op (fx_rely hF2) hF
    u_skip (fx_rely hF2) hF
    u_skip (fx_rely hF2) hF
    u_op (fx_rely hF2) hF
    u_op (fx_rely hF2) hF
    u_skip (fx_rely hF2) hF
    u_skip (fx_rely hF2) hF
    u_skip (fx_rely hF2) hF
    u_skip (fx_rely hF2) hF
    u_op (fx_rely hF2) hF
    u_c stepG_region_end (fx_rely hF2) hF
    u_cond false (fx_rely hF2) hF
    u_c stepG_skip (fx_rely hF2) hF
    u_c stepG_seq (fx_rely hF2) hF
    u_c stepG_seq (fx_rely hF2) hF
    u_reg (fx_rely hF2) hF
    u_op (fx_rely hF2) hF
    u_op (fx_rely hF2) hF
    u_op (fx_rely hF2) hF
    u_skip (fx_rely hF2) hF
    u_skip (fx_rely hF2) hF
    u_op (fx_rely hF2) hF
    u_c stepG_region_end (fx_rely hF2) hF
    u_cond true (fx_rely hF2) hF
    u_c stepG_ret' (fx_rely hF2) hF
    refine Goes.stop (fun w₃ h₃ => ?_)
    replace hF := fx_rely hF2 hF h₃
    clear h₃
    refine ⟨rfl, _, stepG_unwind_entry (v := .tuple #[]) (evs := #[mk .enable]) rfl H.f_enable (x_enable_n L) (x_enable_b L) (x_enable_x L) (x_enable_f L) (by simp [Extern.Race.none_]) (by simp [mk]) (by simp [mk]), mT + 1, goes_dmono dc0_dx ?_⟩
    u_leave0 H.f_add (fx_rely hF2) hF
    exact hT _ hF
  · obtain ⟨V, hV⟩ : ∃ V : Int, V = (v : Int) + 1 := ⟨_, rfl⟩
    obtain ⟨S, hS'⟩ : ∃ S : Int, S = V * KK := ⟨_, rfl⟩
    have eS : IntKind.u64.wrap ((v : Int) * KK + 4294967296) = S := by rw [IntKind.wrap_u64, hS', hV]; simp only [KK]; omega
    rw [← hV, ← hS']
    have a1 : S / 4294967296 = V := by rw [hS']; simp only [KK]; omega
    have b1 : bits .and .u64 S 2147483648 = 0 := by rw [hS', hV]; have := st_flag (v + 1) 0 (by omega) (by omega); simpa [KK] using this
    have b2 : bits .and .u64 S 2147483647 = 0 := by rw [hS', hV]; have := st_waiters (v + 1) 0 (by omega) (by omega); simpa [KK] using this
    have c1 : IntKind.i32.wrap V = V := by rw [IntKind.wrap_i32]; omega
    have hV1 : 1 < V := by omega
    have hV2 : V < 2147483648 := by omega
    have q1 : (V == 1) = false := by simp; omega
    have q2 : decide (V = 1) = false := decide_eq_false (by omega)
    have q3 : decide (V < 0) = false := decide_eq_false (by omega)
    have q4 : decide (0 < V) = true := decide_eq_true (by omega)
    have q5 : (V == 0) = false := by simp; omega
    have q6 : decide (V = 0) = false := decide_eq_false (by omega)
    refine ⟨_, (stepG_add_atomic rfl rfl (by k_ne) rfl H.f_addU64 (x_addU64_n L) (x_addU64_b L) (x_addU64_x L) .u64 (x_addU64_f L) rfl rfl hw.cellSt (hw.thaw 0)).trans (by rw [eS]; rfl), 110, goes_dmono dc0_dx ?_⟩
    replace hF := fx_set (a := stA Y.Wg) (z := .int .u64 S) A hS hF2 hF rfl ⟨_, _, hw.setSt _⟩
    clear hw hS' hV eS
    walk_nrm
    u_op (fx_rely hF2) hF
    u_c stepG_region_end (fx_rely hF2) hF
    u_c stepG_ret' (fx_rely hF2) hF
    u_leave1 H.f_uAdd (fx_rely hF2) hF
    u_op (fx_rely hF2) hF
    u_c stepG_region_end (fx_rely hF2) hF
    u_c stepG_seq (fx_rely hF2) hF
    u_c stepG_seq (fx_rely hF2) hF
    u_reg (fx_rely hF2) hF
    u_op (fx_rely hF2) hF
    u_op (fx_rely hF2) hF
    u_op (fx_rely hF2) hF
    u_op (fx_rely hF2) hF
    u_skip (fx_rely hF2) hF
    u_skip (fx_rely hF2) hF
    u_op (fx_rely hF2) hF
    u_c stepG_region_end (fx_rely hF2) hF
    u_cnd false (fx_rely hF2) hF
    u_c stepG_skip (fx_rely hF2) hF
    u_c stepG_seq (fx_rely hF2) hF
    u_reg (fx_rely hF2) hF
    u_op (fx_rely hF2) hF
    u_op (fx_rely hF2) hF
    u_op (fx_rely hF2) hF
    u_op (fx_rely hF2) hF
    u_c stepG_region_end (fx_rely hF2) hF
    u_c stepG_seq (fx_rely hF2) hF
    u_reg (fx_rely hF2) hF
    u_op (fx_rely hF2) hF
    u_op (fx_rely hF2) hF
    u_op (fx_rely hF2) hF
    u_op (fx_rely hF2) hF
    u_c stepG_region_end (fx_rely hF2) hF
    u_c stepG_seq (fx_rely hF2) hF
    u_c stepG_seq (fx_rely hF2) hF
    u_reg (fx_rely hF2) hF
    u_op (fx_rely hF2) hF
    u_op (fx_rely hF2) hF
    u_op (fx_rely hF2) hF
    u_op (fx_rely hF2) hF
    u_op (fx_rely hF2) hF
    u_op (fx_rely hF2) hF
    u_op (fx_rely hF2) hF
    u_op (fx_rely hF2) hF
    u_op (fx_rely hF2) hF
    u_op (fx_rely hF2) hF
    u_c stepG_region_end (fx_rely hF2) hF
    u_cnd false (fx_rely hF2) hF
    u_c stepG_skip (fx_rely hF2) hF
    u_c stepG_seq (fx_rely hF2) hF
    u_c stepG_seq (fx_rely hF2) hF
    u_reg (fx_rely hF2) hF
    u_op (fx_rely hF2) hF
    u_op (fx_rely hF2) hF
    u_c stepG_region_end (fx_rely hF2) hF
    u_cnd false (fx_rely hF2) hF
    u_c stepG_skip (fx_rely hF2) hF
    u_c stepG_seq (fx_rely hF2) hF
    u_c stepG_seq (fx_rely hF2) hF
    u_reg (fx_rely hF2) hF
    u_op (fx_rely hF2) hF
    u_op (fx_rely hF2) hF
    u_op (fx_rely hF2) hF
    u_skip (fx_rely hF2) hF
    u_skip (fx_rely hF2) hF
    u_op (fx_rely hF2) hF
    u_op (fx_rely hF2) hF
    u_skip (fx_rely hF2) hF
    u_skip (fx_rely hF2) hF
    u_skip (fx_rely hF2) hF
    u_skip (fx_rely hF2) hF
    u_op (fx_rely hF2) hF
    u_c stepG_region_end (fx_rely hF2) hF
    u_cnd false (fx_rely hF2) hF
    u_c stepG_skip (fx_rely hF2) hF
    u_c stepG_seq (fx_rely hF2) hF
    u_c stepG_seq (fx_rely hF2) hF
    u_reg (fx_rely hF2) hF
    u_op (fx_rely hF2) hF
    u_op (fx_rely hF2) hF
    u_op (fx_rely hF2) hF
    u_skip (fx_rely hF2) hF
    u_skip (fx_rely hF2) hF
    u_op (fx_rely hF2) hF
    u_c stepG_region_end (fx_rely hF2) hF
    u_cnd true (fx_rely hF2) hF
    u_c stepG_ret' (fx_rely hF2) hF
    refine Goes.stop (fun w₃ h₃ => ?_)
    replace hF := fx_rely hF2 hF h₃
    clear h₃
    refine ⟨rfl, _, stepG_unwind_entry (v := .tuple #[]) (evs := #[mk .enable]) rfl H.f_enable (x_enable_n L) (x_enable_b L) (x_enable_x L) (x_enable_f L) (by simp [Extern.Race.none_]) (by simp [mk]) (by simp [mk]), mT + 1, goes_dmono dc0_dx ?_⟩
    u_leave0 H.f_add (fx_rely hF2) hF
    exact hT _ hF
end

/-- THE ANCHOR: at the head of Wait's loop. -/
def AnchX (L : WgLink) (F : World → Prop) (Wg : Nat) (c : Frame) (cs : List Frame) (g : Goroutine) (w : World) : Prop :=
  ∃ T : Array Value, g = G ((base L.wait).at ⟨T, []⟩ [.code (L7 L), .inLoop (L7 L), .inBlock 0]) (c :: cs) ∧ T.size = 84 ∧ T[0]? = some (.pointer (some ⟨Wg, 0, none⟩)) ∧ F w ∧ WgLive L.tWg Wg w
section
variable [Payload] {L : WgLink} {P : Program} {Y : Lay} {F : World → Prop}
  {b₀ : Frame} {a₀ : Act} {ops₀ : Array Oper} {i₀ : Nat} {rest₀ : List Nat} {k₀ : List Item} {cs : List Frame} {mT : Nat}

omit [Payload] in
set_option maxRecDepth 100000 in
set_option maxHeartbeats 8000000 in
theorem waitRoundX (H : WgLib P L) (A : Y.Ok) (hF2 : Y.ty = L.tWg ∧ ∀ w w', RX Y none [] w w' → F w → F w')
    (g : Goroutine) (w : World) (h : AnchX L F Y.Wg (b₀.at a₀ (.inRegion ops₀ (i₀ :: rest₀) :: k₀)) cs g w) :
    ∃ m, G0 P Y [] (SW1 P Y (AnchX L F Y.Wg (b₀.at a₀ (.inRegion ops₀ (i₀ :: rest₀) :: k₀)) cs) (fun g _ => ∃ fr, g = G fr (b₀.at a₀ (.inRegion ops₀ (i₀ :: rest₀) :: k₀) :: cs) ∧ ∀ cs' v X, GT P (b₀.at (a₀.put ((ops₀[i₀]?).bind (·.dst)) (.tuple #[])) (.inRegion ops₀ rest₀ :: k₀)) cs' v X → GT P fr (b₀.at a₀ (.inRegion ops₀ (i₀ :: rest₀) :: k₀) :: cs') v X)) m g w := by
  lib_facts
  obtain ⟨T, rfl, hT84, t0, hF⟩ := h
  obtain ⟨v0, v1, v2, v3, v4, v5, v6, v7, v8, v9, v10, v11, v12, v13, v14, v15, v16, v17, v18, v19, v20, v21, v22, v23, v24, v25, v26, v27, v28, v29, v30, v31, v32, v33, v34, v35, v36, v37, v38, v39, v40, v41, v42, v43, v44, v45, v46, v47, v48, v49, v50, v51, v52, v53, v54, v55, v56, v57, v58, v59, v60, v61, v62, v63, v64, v65, v66, v67, v68, v69, v70, v71, v72, v73, v74, v75, v76, v77, v78, v79, v80, v81, v82, v83, rfl⟩ := array84 T hT84
  simp only [List.getElem?_toArray, List.getElem?_cons_zero, Option.some.injEq] at t0
  subst t0
  refine ⟨30, goes_dmono dc0_dx ?_⟩
  simp only [L7, body_wait, waitFn, Option.getD_some]
  u_c stepG_block (fx_rely hF2) hF
  u_c stepG_seq (fx_rely hF2) hF
  u_reg (fx_rely hF2) hF
  u_op (fx_rely hF2) hF
  u_op (fx_rely hF2) hF
  u_op (fx_rely hF2) hF
  u_call H.f_uLoad (nm_uLoad L) uLoadFn (fx_rely hF2) hF
  u_c stepG_seq (fx_rely hF2) hF
  u_reg (fx_rely hF2) hF
  u_op (fx_rely hF2) hF
  u_c stepG_region_end (fx_rely hF2) hF
  u_c stepG_seq (fx_rely hF2) hF
  u_reg (fx_rely hF2) hF
  u_op (fx_rely hF2) hF
  u_op (fx_rely hF2) hF
  u_op (fx_rely hF2) hF
  refine Goes.stop (fun w₁ h₁ => ?_)
  replace hF := fx_rely hF2 hF h₁
  clear h₁
  refine ⟨rfl, fun v hv hw => ?_⟩
  rw [hF2.1] at hw
  rcases Nat.eq_zero_or_pos v with rfl | hvp
  · replace hw : WgAt L.tWg Y.Wg w₁ 0 0 := by simpa using hw
    refine ⟨_, stepG_load_atomic (v := 0) rfl rfl (by k_ne) rfl H.f_loadU64 (x_loadU64_n L) (x_loadU64_b L) (x_loadU64_x L) .u64 (x_loadU64_f L) rfl hw.cellSt, fun _ => ⟨50, goes_dmono dc0_dx ?_⟩, fun h => absurd rfl h⟩
    clear hw
    walk_nrm
    u_op (fx_rely hF2) hF
    u_c stepG_region_end (fx_rely hF2) hF
    u_c stepG_ret' (fx_rely hF2) hF
    u_leave1 H.f_uLoad (fx_rely hF2) hF
    u_op (fx_rely hF2) hF
    u_c stepG_region_end (fx_rely hF2) hF
    u_c stepG_seq (fx_rely hF2) hF
    u_reg (fx_rely hF2) hF
    u_op (fx_rely hF2) hF
    u_op (fx_rely hF2) hF
    u_op (fx_rely hF2) hF
    u_op (fx_rely hF2) hF
    u_c stepG_region_end (fx_rely hF2) hF
    u_c stepG_seq (fx_rely hF2) hF
    u_reg (fx_rely hF2) hF
    u_op (fx_rely hF2) hF
    u_op (fx_rely hF2) hF
    u_op (fx_rely hF2) hF
    u_op (fx_rely hF2) hF
    u_c stepG_region_end (fx_rely hF2) hF
    u_c stepG_seq (fx_rely hF2) hF
    u_c stepG_seq (fx_rely hF2) hF
    u_reg (fx_rely hF2) hF
    u_op (fx_rely hF2) hF
    u_op (fx_rely hF2) hF
    u_c stepG_region_end (fx_rely hF2) hF
    u_cond true (fx_rely hF2) hF
    u_c stepG_seq (fx_rely hF2) hF
    u_cond true (fx_rely hF2) hF
    u_c stepG_seq (fx_rely hF2) hF
    u_reg (fx_rely hF2) hF
    refine Goes.stop (fun w₅ h₅ => ?_)
    replace hF := fx_rely hF2 hF h₅
    clear h₅
    refine ⟨rfl, _, stepG_mark0 .enable (by simp) rfl rfl (by k_ne) rfl H.f_enable (x_enable_n L) (x_enable_b L) (x_enable_x L) (x_enable_f L), 12, goes_dmono dc0_dx ?_⟩
    walk_nrm
    u_c stepG_region_end (fx_rely hF2) hF
    u_reg (fx_rely hF2) hF
    u_op (fx_rely hF2) hF
    u_conv H.underlying_tWgP H.room_tWg (WgLive.cell0 hF.2).choose_spec (fx_rely hF2) hF
    refine Goes.stop (fun w₆ h₆ => ?_)
    replace hF := fx_rely hF2 hF h₆
    clear h₆
    refine ⟨rfl, _, stepG_markAt .acquire (by simp) rfl rfl (by k_ne) rfl H.f_acquire (x_acquire_n L) (x_acquire_b L) (x_acquire_x L) (x_acquire_f L) (by simp [Act.eval, stA]), _, rfl, fun cs' v X hX => ?_⟩
    walk_nrm
    refine gt_goes fun w _ => ?_
    rw [stepG_region_end]
    simp only [goes_go]
    refine ⟨by trivial, by trivial, _, _, rfl, ?_⟩
    refine gt_goes fun w _ => ?_
    rw [stepG_seq]
    simp only [goes_go]
    refine ⟨by trivial, by trivial, _, _, rfl, ?_⟩
    refine gt_goes fun w _ => ?_
    rw [stepG_seq]
    simp only [goes_go]
    refine ⟨by trivial, by trivial, _, _, rfl, ?_⟩
    refine gt_goes fun w _ => ?_
    rw [stepG_region]
    simp only [goes_go, List.size_toArray, List.length_cons, List.length_nil, Nat.reduceAdd, Nat.zero_add, List.range, List.range.loop]
    refine ⟨by trivial, by trivial, _, _, rfl, ?_⟩
    refine gt_goes fun w _ => ?_
    refine goes_oper_k rfl rfl (by k_ne) (fun K hK => ?_)
    go_simp
    refine hK _ _ ⟨rfl, Array.eq_empty_iff_forall_not_mem.2 fun e he => ?_, _, _, rfl, ?_⟩
    · have hm := mem_listed he
      simp [go_sem, *] at hm
    clear hK K
    try w_num
    refine gt_goes fun w _ => ?_
    refine goes_oper_k rfl rfl (by k_ne) (fun K hK => ?_)
    go_simp
    refine hK _ _ ⟨rfl, Array.eq_empty_iff_forall_not_mem.2 fun e he => ?_, _, _, rfl, ?_⟩
    · have hm := mem_listed he
      simp [go_sem, *] at hm
    clear hK K
    try w_num
    refine gt_goes fun w _ => ?_
    refine goes_oper_k rfl rfl (by k_ne) (fun K hK => ?_)
    go_simp
    refine hK _ _ ⟨rfl, Array.eq_empty_iff_forall_not_mem.2 fun e he => ?_, _, _, rfl, ?_⟩
    · have hm := mem_listed he
      simp [go_sem, *] at hm
    clear hK K
    try w_num
    refine gt_goes fun w _ => ?_
    refine goes_oper_k rfl rfl (by k_ne) (fun K hK => ?_)
    go_simp
    refine hK _ _ ⟨rfl, Array.eq_empty_iff_forall_not_mem.2 fun e he => ?_, _, _, rfl, ?_⟩
    · have hm := mem_listed he
      simp [go_sem, *] at hm
    clear hK K
    try w_num
    refine gt_goes fun w _ => ?_
    refine goes_oper_k rfl rfl (by k_ne) (fun K hK => ?_)
    go_simp
    refine hK _ _ ⟨rfl, Array.eq_empty_iff_forall_not_mem.2 fun e he => ?_, _, _, rfl, ?_⟩
    · have hm := mem_listed he
      simp [go_sem, *] at hm
    clear hK K
    try w_num
    refine gt_goes fun w _ => ?_
    refine goes_oper_k rfl rfl (by k_ne) (fun K hK => ?_)
    go_simp
    refine hK _ _ ⟨rfl, Array.eq_empty_iff_forall_not_mem.2 fun e he => ?_, _, _, rfl, ?_⟩
    · have hm := mem_listed he
      simp [go_sem, *] at hm
    clear hK K
    try w_num
    refine gt_goes fun w _ => ?_
    refine goes_oper_k rfl rfl (by k_ne) (fun K hK => ?_)
    go_simp
    refine hK _ _ ⟨rfl, Array.eq_empty_iff_forall_not_mem.2 fun e he => ?_, _, _, rfl, ?_⟩
    · have hm := mem_listed he
      simp [go_sem, *] at hm
    clear hK K
    try w_num
    refine gt_goes fun w _ => ?_
    refine goes_oper_k rfl rfl (by k_ne) (fun K hK => ?_)
    go_simp
    refine hK _ _ ⟨rfl, Array.eq_empty_iff_forall_not_mem.2 fun e he => ?_, _, _, rfl, ?_⟩
    · have hm := mem_listed he
      simp [go_sem, *] at hm
    clear hK K
    try w_num
    refine gt_goes fun w _ => ?_
    rw [stepG_unwanted rfl rfl]
    simp only [goes_go]
    refine ⟨by trivial, by trivial, _, _, rfl, ?_⟩
    walk_nrm
    refine gt_goes fun w _ => ?_
    rw [stepG_unwanted rfl rfl]
    simp only [goes_go]
    refine ⟨by trivial, by trivial, _, _, rfl, ?_⟩
    walk_nrm
    refine gt_goes fun w _ => ?_
    refine goes_oper_k rfl rfl (by k_ne) (fun K hK => ?_)
    go_simp
    refine hK _ _ ⟨rfl, Array.eq_empty_iff_forall_not_mem.2 fun e he => ?_, _, _, rfl, ?_⟩
    · have hm := mem_listed he
      simp [go_sem, *] at hm
    clear hK K
    try w_num
    refine gt_goes fun w _ => ?_
    rw [stepG_region_end]
    simp only [goes_go]
    refine ⟨by trivial, by trivial, _, _, rfl, ?_⟩
    refine gt_goes fun w _ => ?_
    rw [stepG_cond (t := false) rfl]
    simp only [goes_go, if_true, if_false, Bool.false_eq_true, ↓reduceIte]
    refine ⟨by trivial, by trivial, _, _, rfl, ?_⟩
    refine gt_goes fun w _ => ?_
    rw [stepG_skip]
    simp only [goes_go]
    refine ⟨by trivial, by trivial, _, _, rfl, ?_⟩
    refine gt_goes fun w _ => ?_
    rw [stepG_ret']
    simp only [goes_go]
    refine ⟨by trivial, by trivial, _, _, rfl, ?_⟩
    refine gt_goes fun w _ => ?_
    refine goes_leave0 rfl rfl H.f_wait rfl ⟨rfl, rfl, _, _, rfl, ?_⟩
    walk_nrm
    exact hX
  · obtain ⟨S, hS⟩ : ∃ S : Int, (v : Int) * KK = S := ⟨_, rfl⟩
    have a1 : S / 4294967296 = (v : Int) := by rw [← hS]; simp only [KK]; omega
    have b1 : bits .and .u64 S 2147483648 = 0 := by rw [← hS]; have := st_flag v 0 (by omega) (by omega); simpa [KK] using this
    have b2 : bits .and .u64 S 2147483647 = 0 := by rw [← hS]; have := st_waiters v 0 (by omega) (by omega); simpa [KK] using this
    have c1 : IntKind.i32.wrap (v : Int) = (v : Int) := by rw [IntKind.wrap_i32]; omega
    have w1 : IntKind.u64.wrap (S + 1) = S + 1 := by rw [IntKind.wrap_u64, ← hS]; simp only [KK]; omega
    have q3 : decide ((v : Int) < 0) = false := decide_eq_false (by omega)
    have q4 : decide (0 < (v : Int)) = true := decide_eq_true (by omega)
    have q5 : ((v : Int) == 0) = false := by simp; omega
    have q6 : decide ((v : Int) = 0) = false := decide_eq_false (by omega)
    rw [hS] at hw
    refine ⟨_, stepG_load_atomic (v := S) rfl rfl (by k_ne) rfl H.f_loadU64 (x_loadU64_n L) (x_loadU64_b L) (x_loadU64_x L) .u64 (x_loadU64_f L) rfl hw.cellSt, fun h0 => absurd h0 (by omega), fun _ => ⟨60, goes_dmono dc0_dx ?_⟩⟩
    clear hw
    walk_nrm
    u_op (fx_rely hF2) hF
    u_c stepG_region_end (fx_rely hF2) hF
    u_c stepG_ret' (fx_rely hF2) hF
    u_leave1 H.f_uLoad (fx_rely hF2) hF
    u_op (fx_rely hF2) hF
    u_c stepG_region_end (fx_rely hF2) hF
    u_c stepG_seq (fx_rely hF2) hF
    u_reg (fx_rely hF2) hF
    u_op (fx_rely hF2) hF
    u_op (fx_rely hF2) hF
    u_op (fx_rely hF2) hF
    u_op (fx_rely hF2) hF
    u_c stepG_region_end (fx_rely hF2) hF
    u_c stepG_seq (fx_rely hF2) hF
    u_reg (fx_rely hF2) hF
    u_op (fx_rely hF2) hF
    u_op (fx_rely hF2) hF
    u_op (fx_rely hF2) hF
    u_op (fx_rely hF2) hF
    u_c stepG_region_end (fx_rely hF2) hF
    u_c stepG_seq (fx_rely hF2) hF
    u_c stepG_seq (fx_rely hF2) hF
    u_reg (fx_rely hF2) hF
    u_op (fx_rely hF2) hF
    u_op (fx_rely hF2) hF
    u_c stepG_region_end (fx_rely hF2) hF
    u_cnd false (fx_rely hF2) hF
    u_c stepG_skip (fx_rely hF2) hF
    u_c stepG_seq (fx_rely hF2) hF
    u_reg (fx_rely hF2) hF
    u_op (fx_rely hF2) hF
    u_op (fx_rely hF2) hF
    u_op (fx_rely hF2) hF
    u_op (fx_rely hF2) hF
    u_op (fx_rely hF2) hF
    u_op (fx_rely hF2) hF
    u_call H.f_uCas (nm_uCas L) uCasFn (fx_rely hF2) hF
    u_c stepG_seq (fx_rely hF2) hF
    u_reg (fx_rely hF2) hF
    u_op (fx_rely hF2) hF
    u_c stepG_region_end (fx_rely hF2) hF
    u_c stepG_seq (fx_rely hF2) hF
    u_reg (fx_rely hF2) hF
    u_op (fx_rely hF2) hF
    u_op (fx_rely hF2) hF
    u_op (fx_rely hF2) hF
    u_op (fx_rely hF2) hF
    u_op (fx_rely hF2) hF
    refine Goes.stop (fun w₂ h₂ => ?_)
    replace hF := fx_rely hF2 hF h₂
    clear h₂
    refine ⟨rfl, fun v' hv' hw => ⟨fun e => ?_, fun e => ?_⟩⟩
    · subst e
      rw [hF2.1, hS] at hw
      rw [hS]
      refine ⟨_, (stepG_cas_hit (v := S) (n := S + 1) rfl rfl (by k_ne) rfl H.f_casU64 (x_casU64_n L) (x_casU64_b L) (x_casU64_x L) .u64 (x_casU64_f L) rfl rfl rfl hw.cellSt (hw.thaw 0)).trans (by rfl), 40 + 50, goes_cut dc0_dx (RX.refl) ?_⟩
      replace hF := fx_set (a := stA Y.Wg) (z := .int .u64 (S + 1)) A (by simp) hF2 hF rfl ⟨_, _, hw.setSt _⟩
      clear hw
      walk_nrm
      u_op (fx_rely hF2) hF
      u_c stepG_region_end (fx_rely hF2) hF
      u_c stepG_ret' (fx_rely hF2) hF
      u_leave1 H.f_uCas (fx_rely hF2) hF
      u_c stepG_region_end (fx_rely hF2) hF
      u_cond true (fx_rely hF2) hF
      u_c stepG_seq (fx_rely hF2) hF
      u_c stepG_seq (fx_rely hF2) hF
      u_reg (fx_rely hF2) hF
      u_op (fx_rely hF2) hF
      u_op (fx_rely hF2) hF
      u_op (fx_rely hF2) hF
      u_op (fx_rely hF2) hF
      u_c stepG_region_end (fx_rely hF2) hF
      u_cond true (fx_rely hF2) hF
      u_reg (fx_rely hF2) hF
      u_op (fx_rely hF2) hF
      u_op (fx_rely hF2) hF
      u_op (fx_rely hF2) hF
      u_conv H.underlying_tPU32 H.room_tU32 (WgLive.cell1 hF.2).choose_spec (fx_rely hF2) hF
      refine Goes.stop (fun w₃ h₃ => ?_)
      replace hF := fx_rely hF2 hF h₃
      clear h₃
      rw [show (50 : Nat) = 49 + 1 from rfl]
      u_in (fx_rely hF2) hF
      rw [stepG_markAt .write (by simp) rfl rfl (by k_ne) rfl H.f_raceWrite (x_raceWrite_n L) (x_raceWrite_b L) (x_raceWrite_x L) (x_raceWrite_f L) (ad := ⟨Y.Wg, 1, none⟩) (by simp [Act.eval])]
      simp only [goes_go]
      refine ⟨.refl (fun e he => ?_) _, goes_dmono dc0_dx ?_⟩
      · rw [Array.mem_singleton] at he
        subst he
        exact .inr ⟨rfl, _, rfl, .inr rfl⟩
      walk_nrm
      u_c stepG_region_end (fx_rely hF2) hF
      u_c stepG_seq (fx_rely hF2) hF
      u_reg (fx_rely hF2) hF
      u_op (fx_rely hF2) hF
      u_c stepG_region_end (fx_rely hF2) hF
      u_c stepG_seq (fx_rely hF2) hF
      u_c stepG_seq (fx_rely hF2) hF
      u_reg (fx_rely hF2) hF
      u_op (fx_rely hF2) hF
      u_op (fx_rely hF2) hF
      u_op (fx_rely hF2) hF
      u_op (fx_rely hF2) hF
      u_skip (fx_rely hF2) hF
      u_op (fx_rely hF2) hF
      u_c stepG_region_end (fx_rely hF2) hF
      u_cond false (fx_rely hF2) hF
      u_c stepG_skip (fx_rely hF2) hF
      u_c stepG_seq (fx_rely hF2) hF
      u_reg (fx_rely hF2) hF
      u_op (fx_rely hF2) hF
      u_op (fx_rely hF2) hF
      u_op (fx_rely hF2) hF
      u_op (fx_rely hF2) hF
      refine Goes.stop (fun w₃ h₃ => ?_)
      replace hF := fx_rely hF2 hF h₃
      clear h₃
      refine ⟨rfl, rfl, fun ⟨st, hw⟩ => stepG_semacquire_wait rfl rfl rfl H.f_semacquire (x_semacquire_n L) (x_semacquire_b L) (x_semacquire_x L) (x_semacquire_f L) (by simp [Act.eval, smA]) (hF2.1 ▸ hw).cellSm, fun hf => ?_⟩
      rw [hF2.1] at hf
      refine ⟨_, (stepG_semacquire (n := 1) rfl rfl (by k_ne) rfl H.f_semacquire (x_semacquire_n L) (x_semacquire_b L) (x_semacquire_x L) (x_semacquire_f L) (by simp [Act.eval, smA]) hf.cellSm (by k_ne) (hf.thaw 1)).trans (by rfl), 30, goes_dmono dc0_dx ?_⟩
      replace hF := fx_set (a := smA Y.Wg) (z := .int .u32 0) A (by simp) hF2 hF rfl ⟨_, _, hf.setSm 0⟩
      clear hf
      walk_nrm
      u_c stepG_region_end (fx_rely hF2) hF
      u_c stepG_seq (fx_rely hF2) hF
      u_reg (fx_rely hF2) hF
      u_op (fx_rely hF2) hF
      u_op (fx_rely hF2) hF
      u_op (fx_rely hF2) hF
      u_call H.f_uLoad (nm_uLoad L) uLoadFn (fx_rely hF2) hF
      u_c stepG_seq (fx_rely hF2) hF
      u_reg (fx_rely hF2) hF
      u_op (fx_rely hF2) hF
      u_c stepG_region_end (fx_rely hF2) hF
      u_c stepG_seq (fx_rely hF2) hF
      u_reg (fx_rely hF2) hF
      u_op (fx_rely hF2) hF
      u_op (fx_rely hF2) hF
      u_op (fx_rely hF2) hF
      refine Goes.stop (fun w₄ h₄ => ?_)
      replace hF := fx_rely hF2 hF h₄
      clear h₄
      refine ⟨rfl, fun hw => ⟨_, stepG_load_atomic (v := 0) rfl rfl (by k_ne) rfl H.f_loadU64 (x_loadU64_n L) (x_loadU64_b L) (x_loadU64_x L) .u64 (x_loadU64_f L) rfl hw.cellSt, 30, goes_dmono dc0_dx ?_⟩⟩
      clear hw
      walk_nrm
      u_op (fx_rely hF2) hF
      u_c stepG_region_end (fx_rely hF2) hF
      u_c stepG_ret' (fx_rely hF2) hF
      u_leave1 H.f_uLoad (fx_rely hF2) hF
      u_op (fx_rely hF2) hF
      u_op (fx_rely hF2) hF
      u_c stepG_region_end (fx_rely hF2) hF
      u_c stepG_seq (fx_rely hF2) hF
      u_cond true (fx_rely hF2) hF
      u_c stepG_seq (fx_rely hF2) hF
      u_reg (fx_rely hF2) hF
      refine Goes.stop (fun w₅ h₅ => ?_)
      replace hF := fx_rely hF2 hF h₅
      clear h₅
      refine ⟨rfl, _, stepG_mark0 .enable (by simp) rfl rfl (by k_ne) rfl H.f_enable (x_enable_n L) (x_enable_b L) (x_enable_x L) (x_enable_f L), 12, goes_dmono dc0_dx ?_⟩
      walk_nrm
      u_c stepG_region_end (fx_rely hF2) hF
      u_reg (fx_rely hF2) hF
      u_op (fx_rely hF2) hF
      u_conv H.underlying_tWgP H.room_tWg (WgLive.cell0 hF.2).choose_spec (fx_rely hF2) hF
      refine Goes.stop (fun w₆ h₆ => ?_)
      replace hF := fx_rely hF2 hF h₆
      clear h₆
      refine ⟨rfl, _, stepG_markAt .acquire (by simp) rfl rfl (by k_ne) rfl H.f_acquire (x_acquire_n L) (x_acquire_b L) (x_acquire_x L) (x_acquire_f L) (by simp [Act.eval, stA]), _, rfl, fun cs' v X hX => ?_⟩
      walk_nrm
      refine gt_goes fun w _ => ?_
      rw [stepG_region_end]
      simp only [goes_go]
      refine ⟨by trivial, by trivial, _, _, rfl, ?_⟩
      refine gt_goes fun w _ => ?_
      rw [stepG_seq]
      simp only [goes_go]
      refine ⟨by trivial, by trivial, _, _, rfl, ?_⟩
      refine gt_goes fun w _ => ?_
      rw [stepG_seq]
      simp only [goes_go]
      refine ⟨by trivial, by trivial, _, _, rfl, ?_⟩
      refine gt_goes fun w _ => ?_
      rw [stepG_region]
      simp only [goes_go, List.size_toArray, List.length_cons, List.length_nil, Nat.reduceAdd, Nat.zero_add, List.range, List.range.loop]
      refine ⟨by trivial, by trivial, _, _, rfl, ?_⟩
      refine gt_goes fun w _ => ?_
      refine goes_oper_k rfl rfl (by k_ne) (fun K hK => ?_)
      go_simp
      refine hK _ _ ⟨rfl, Array.eq_empty_iff_forall_not_mem.2 fun e he => ?_, _, _, rfl, ?_⟩
      · have hm := mem_listed he
        simp [go_sem, *] at hm
      clear hK K
      try w_num
      refine gt_goes fun w _ => ?_
      rw [stepG_region_end]
      simp only [goes_go]
      refine ⟨by trivial, by trivial, _, _, rfl, ?_⟩
      refine gt_goes fun w _ => ?_
      rw [stepG_cond (t := false) rfl]
      simp only [goes_go, if_true, if_false, Bool.false_eq_true, ↓reduceIte]
      refine ⟨by trivial, by trivial, _, _, rfl, ?_⟩
      refine gt_goes fun w _ => ?_
      rw [stepG_skip]
      simp only [goes_go]
      refine ⟨by trivial, by trivial, _, _, rfl, ?_⟩
      refine gt_goes fun w _ => ?_
      rw [stepG_ret']
      simp only [goes_go]
      refine ⟨by trivial, by trivial, _, _, rfl, ?_⟩
      refine gt_goes fun w _ => ?_
      refine goes_leave0 rfl rfl H.f_wait rfl ⟨rfl, rfl, _, _, rfl, ?_⟩
      walk_nrm
      exact hX
    · refine ⟨_, stepG_cas_miss (v := (v' : Int) * KK) (old := S) (n := S + 1) rfl rfl (by k_ne) rfl H.f_casU64 (x_casU64_n L) (x_casU64_b L) (x_casU64_x L) .u64 (x_casU64_f L) rfl rfl rfl (hF2.1 ▸ hw).cellSt ((hF2.1 ▸ hw).thaw 0) (by rw [← hS]; simp only [KK]; omega), 20, goes_dmono dc0_dx ?_⟩
      clear hw
      walk_nrm
      u_op (fx_rely hF2) hF
      u_c stepG_region_end (fx_rely hF2) hF
      u_c stepG_ret' (fx_rely hF2) hF
      u_leave1 H.f_uCas (fx_rely hF2) hF
      u_c stepG_region_end (fx_rely hF2) hF
      u_cond false (fx_rely hF2) hF
      u_c stepG_skip (fx_rely hF2) hF
      u_c stepG_inBlock (fx_rely hF2) hF
      u_c stepG_inLoop (fx_rely hF2) hF
      refine Goes.stop (fun w₃ h₃ => ?_)
      replace hF := fx_rely hF2 hF h₃
      exact ⟨_, rfl, by simp, by simp, hF⟩

omit [Payload] in
set_option maxRecDepth 100000 in
theorem waitStartX (H : WgLib P L) (hF2 : Y.ty = L.tWg ∧ ∀ w w', RX Y none [] w w' → F w → F w') (w : World) (hF : F w ∧ WgLive L.tWg Y.Wg w) :
    Goes P true (RX Y none []) DC0 (SKd P Y (AnchX L F Y.Wg (b₀.at a₀ (.inRegion ops₀ (i₀ :: rest₀) :: k₀)) cs)) 3
      (G ((base L.wait).at ⟨#[.pointer (some ⟨Y.Wg, 0, none⟩), undef, undef, undef, undef, undef, undef, undef, undef, undef, undef, undef, undef, undef, undef, undef, undef, undef, undef, undef, undef, undef, undef, undef, undef, undef, undef, undef, undef, undef, undef, undef, undef, undef, undef, undef, undef, undef, undef, undef, undef, undef, undef, undef, undef, undef, undef, undef, undef, undef, undef, undef, undef, undef, undef, undef, undef, undef, undef, undef, undef, undef, undef, undef, undef, undef, undef, undef, undef, undef, undef, undef, undef, undef, undef, undef, undef, undef, undef, undef, undef, undef, undef, undef], []⟩ [.code (body_wait L)]) (b₀.at a₀ (.inRegion ops₀ (i₀ :: rest₀) :: k₀) :: cs)) w := by
  lib_facts
  simp only [body_wait, waitFn, Option.getD_some]
  u_c stepG_seq (fx_rely hF2) hF
  u_cond true (fx_rely hF2) hF
  u_reg (fx_rely hF2) hF
  refine Goes.stop (fun w₁ h₁ => ?_)
  replace hF := fx_rely hF2 hF h₁
  clear h₁
  refine ⟨rfl, _, stepG_mark0 .disable (by simp) rfl rfl (by k_ne) rfl H.f_disable (x_disable_n L) (x_disable_b L) (x_disable_x L) (x_disable_f L), 3, goes_dmono dc0_dx ?_⟩
  walk_nrm
  u_c stepG_region_end (fx_rely hF2) hF
  u_c stepG_block (fx_rely hF2) hF
  u_c stepG_loop (fx_rely hF2) hF
  exact Goes.stop (fun w₂ h₂ => ⟨_, rfl, by simp, by simp, fx_rely hF2 hF h₂⟩)
end
end Go.Proofs.Ytkefnmmpipeppaa.Rg
