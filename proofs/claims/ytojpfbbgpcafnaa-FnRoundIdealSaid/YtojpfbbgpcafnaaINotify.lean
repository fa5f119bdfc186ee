/-
  Contracts: the step notify of the program.
-/
import Derived.Test.YtojpfbbgpcafnaaICloser
import Derived.BigGuard
import Derived.Deep.RegionHeldLaw
namespace Go.Proofs.Ytojpfbbgpcafnaa
open Go.RowKit

set_option maxHeartbeats 2000000 in
theorem iNotify_any (S g cap : Nat) (r : List Nd) (id other : Int) (B : Nat) (w : World) (hO : RingOwn w B (.slice (some ⟨g, 0, none⟩) r.length cap) r) (hs : Shape r)
    (hS : w.cell? ⟨S, 0, none⟩ = some (.slice (some ⟨g, 0, none⟩) r.length cap)) (hSg : S ≠ g) (hBw : B ≤ w.heap.size) :
    Calls Try.prog 59 #[.pointer (some ⟨S, 0, none⟩), .int .i64 id, .int .i64 other] w fun e w' => e = .returned (.bool (stepB true r id fun k => notifyOk r k other)) ∧ Below B w w' ∧
      (stepB true r id (fun k => notifyOk r k other) = true → ∃ u, w'.cell? ⟨S, 0, none⟩ = some u ∧ RingOwn w' B u (stepR true r id fun k => notifyK r k other)) := by
  have HO := Lib.hid hO
  have HS := Lib.hid hs
  have hSl : S < w.heap.size := World.block_lt_of_cell? w _ hS
  have _hgS : g ≠ S := Ne.symm hSg
  rcases fnd_cases r id with ⟨hf, -⟩ | ⟨k, hk, hf, hidk, -⟩
  · rw [stepB_miss hf]
    have HF := Lib.hid hf
    clear hf hO hs
    go_enter Try.func59, Try.ntmps59
    go_wp2_with (go_at_call 53; refine (nodeAt_no _ r id _ HO.out.at HF.out).mono ?_; rintro e w1 ⟨rfl, hb1⟩)
    go_wp2
    go_ret
    exact ⟨rfl, hb1.mono hBw, fun h => by cases h⟩
  · rw [stepB_hit rfl hf, stepR_hit rfl hf]
    obtain ⟨bk, ck, hck, hck', hBg, hgl, hbk, c0, c1, c2, d0, d1, cf⟩ := hO.node hk (hs.2 k hk).1
    obtain ⟨kb, hkb⟩ : ∃ x, (r.getD k default).before = x := ⟨_, rfl⟩
    have HD := Lib.hid (show notifyOk r k other = (decide (0 ≤ fnd r other) && !(other == id) && !(decide (0 ≤ kb) && decide (0 ≤ fnd r kb) && !btw kb other id)) by rw [← hidk, ← hkb]; rfl)
    have HK := Lib.hid (show notifyK r k other = if notifyOk r k other then setBefore r k other else r by rfl)
    have q1 : okP id = true := by rw [← hidk]; exact (hs.2 k hk).2.2
    rw [hkb] at c1
    have HF := Lib.hid hf
    clear hf hkb c0 c2 d0 d1 hidk
    obtain ho | ho : (other == id) = true ∨ (other == id) = false := by cases (other == id) <;> simp
    · have HY := Lib.hid (show notifyOk r k other = false by rw [HD.out, ho]; simp)
      clear hO hs q1 c1 cf
      go_enter Try.func59, Try.ntmps59
      go_wp2_with (go_at_call_of 53 (Value.int IntKind.i64 id); refine (nodeAt_own r id g cap k _ HO.out.at hk HF.out).mono ?_; rintro e w1 ⟨rfl, hb1⟩)
      go_wp2
      go_ret
      rw [HY.out]
      exact ⟨rfl, hb1.mono hBw, fun h => by cases h⟩
    rcases fnd_cases r other with ⟨hx, -⟩ | ⟨j, hj, hx, hidj, -⟩
    · have HX := Lib.hid hx
      have HY := Lib.hid (show notifyOk r k other = false by rw [HD.out, hx]; rfl)
      clear hO hs hx q1 c1 cf
      go_enter Try.func59, Try.ntmps59
      go_wp2_with (first
        | (go_at_call_of 53 (Value.int IntKind.i64 id); refine (nodeAt_own r id g cap k _ HO.out.at hk HF.out).mono ?_; rintro e w1 ⟨rfl, hb1⟩; have e1 := (hb1.cell (p := ⟨S, 0, none⟩) hSl).trans hS)
        | (go_at_call_of 53 (Value.int IntKind.i64 other); refine (nodeAt_no _ r other _ (by exact (HO.out.below hb1 (Nat.le_refl _)).at) HX.out).mono ?_; rintro e w2 ⟨rfl, hb2⟩))
      go_wp2
      go_ret
      rw [HY.out]
      exact ⟨rfl, (hb1.mono hBw).trans (hb2.mono (Nat.le_trans hBw hb1.size)), fun h => by cases h⟩
    have HX := Lib.hid hx
    have q2 : okP other = true := by rw [← hidj]; exact (hs.2 j hj).2.2
    have HD' := Lib.hid (show notifyOk r k other = !(decide (0 ≤ kb) && decide (0 ≤ fnd r kb) && !btw kb other id) by rw [HD.out, hx, ho]; simp)
    clear hx hidj
    obtain hq | hq : (kb != -1) = false ∨ (kb != -1) = true := by cases (kb != -1) <;> simp
    · have hkb : kb = -1 := by simpa using hq
      have HY := Lib.hid (show notifyOk r k other = true by rw [HD'.out, hkb]; rfl)
      clear hO hs q1 q2 hkb
      go_enter Try.func59, Try.ntmps59
      go_wp2_with (first
        | (go_at_call_of 53 (Value.int IntKind.i64 id); refine (nodeAt_own r id g cap k _ (by exact HO.out.at) hk HF.out).mono ?_; rintro e w1 ⟨rfl, hb1⟩; have e1 := (hb1.cell (p := ⟨S, 0, none⟩) hSl).trans hS)
        | (go_at_call_of 53 (Value.int IntKind.i64 other); refine (nodeAt_own r other g cap j _ (by exact (HO.out.below hb1 (Nat.le_refl _)).at) hj HX.out).mono ?_; rintro e w2 ⟨rfl, hb2⟩; have hbE : Below w.heap.size w w2 := hb1.trans (hb2.mono hb1.size); have e2 := (hbE.cell (p := ⟨S, 0, none⟩) hSl).trans hS; have e3 := (hbE.cell (p := ⟨g, k * 3 + 1, none⟩) hgl).trans c1; have e4 : ∀ j, w2.frozen? ⟨g, j, none⟩ = false := (fun j => (hbE.frozen (p := ⟨g, j, none⟩) hgl).trans (cf j)); have l1 := Nat.lt_of_lt_of_le hSl hbE.size; have l2 := Nat.lt_of_lt_of_le hgl hbE.size))
      go_quiet (fail)
      have hbF : Below w.heap.size w (w2.drewN nq) := below_drewN hbE nq
      go_wp2
      go_ret
      rw [HY.out, HK.out, HY.out, if_pos rfl]
      refine ⟨rfl, (hbF.mono hBw).setCell (p := ⟨g, k * 3 + 1, none⟩) hBg (.int .i64 other), fun _ => ⟨_, ?_, by exact RingOwn.setBefore (HO.out.below hbF (Nat.le_refl _)) hk⟩⟩
      rw [World.cell?_setCell_other _ _ _ _ (by simp), hbF.cell (p := ⟨S, 0, none⟩) hSl, hS]
      simp
    rcases fnd_cases r kb with ⟨hz, -⟩ | ⟨m, hm, hz, hidm, -⟩
    · have HZ := Lib.hid hz
      have HY := Lib.hid (show notifyOk r k other = true by rw [HD'.out, hz]; simp)
      clear hO hs q1 q2 hz
      go_enter Try.func59, Try.ntmps59
      go_wp2_with (first
        | (go_at_call_of 53 (Value.int IntKind.i64 id); refine (nodeAt_own r id g cap k _ (by exact HO.out.at) hk HF.out).mono ?_; rintro e w1 ⟨rfl, hb1⟩; have e1 := (hb1.cell (p := ⟨S, 0, none⟩) hSl).trans hS)
        | (go_at_call_of 53 (Value.int IntKind.i64 other); refine (nodeAt_own r other g cap j _ (by exact (HO.out.below hb1 (Nat.le_refl _)).at) hj HX.out).mono ?_; rintro e w2 ⟨rfl, hb2⟩; have hbE : Below w.heap.size w w2 := hb1.trans (hb2.mono hb1.size); have e2 := (hbE.cell (p := ⟨S, 0, none⟩) hSl).trans hS; have e3 := (hbE.cell (p := ⟨g, k * 3 + 1, none⟩) hgl).trans c1; have e4 : ∀ j, w2.frozen? ⟨g, j, none⟩ = false := (fun j => (hbE.frozen (p := ⟨g, j, none⟩) hgl).trans (cf j)); have l1 := Nat.lt_of_lt_of_le hSl hbE.size; have l2 := Nat.lt_of_lt_of_le hgl hbE.size))
      refine wp_region_held_drew (S := fun w' => w'.cell? ⟨S, 0, none⟩ = some (.slice (some ⟨g, 0, none⟩) r.length cap) ∧ w'.cell? ⟨g, k * 3 + 1, none⟩ = some (.int .i64 kb)) (by kernel_rfl) (by simp [*]) (fun hHeld => ?_)
      refine wpAnyH_take (i := 0) (v := ?v0) rfl (by kernel_rfl) (by kernel_rfl) (by kernel_rfl) (fun _ _ _ h => h) (Or.inl ⟨by rfl, ?y0⟩) (by assumption) ?r0
      case y0 => (intro w hSw; (try dsimp only at hSw); go_simp; try (with_reducible rfl))
      simp only [Act.put, List.getElem_toArray, List.getElem_cons_zero, List.setIfInBounds_toArray, List.set_cons_zero, List.set_cons_succ]
      refine wpAnyH_take (i := 1) (v := ?v1) rfl (by kernel_rfl) (by kernel_rfl) (by kernel_rfl) (fun _ _ _ h => h) (Or.inl ⟨by rfl, ?y1⟩) (by assumption) ?r1
      case y1 => (intro w hSw; (try dsimp only at hSw); go_simp; try (with_reducible rfl))
      simp only [Act.put, List.getElem_toArray, List.getElem_cons_zero, List.getElem_cons_succ, List.setIfInBounds_toArray, List.set_cons_zero, List.set_cons_succ]
      refine wpAnyH_take (i := 2) (v := ?v2) rfl (by kernel_rfl) (by kernel_rfl) (by kernel_rfl) (fun _ _ _ h => h) (Or.inl ⟨by rfl, ?y2⟩) (by assumption) ?r2
      case y2 => (intro w hSw; (try dsimp only at hSw); go_simp; try (with_reducible rfl))
      simp only [Act.put, List.getElem_toArray, List.getElem_cons_zero, List.getElem_cons_succ, List.setIfInBounds_toArray, List.set_cons_zero, List.set_cons_succ]
      refine wpAnyH_take (i := 3) (v := ?v3) rfl (by kernel_rfl) (by kernel_rfl) (by kernel_rfl) (fun _ _ _ h => h) (Or.inl ⟨by rfl, ?y3⟩) (by assumption) ?r3
      case y3 => (intro w hSw; (try dsimp only at hSw); go_simp; try (with_reducible rfl))
      simp only [Act.put, List.getElem_toArray, List.getElem_cons_zero, List.getElem_cons_succ, List.setIfInBounds_toArray, List.set_cons_zero, List.set_cons_succ]
      refine wpAnyH_take (i := 4) (v := ?v4) rfl (by kernel_rfl) (by kernel_rfl) (by kernel_rfl) (fun _ _ _ h => h) (Or.inl ⟨by rfl, ?y4⟩) (by assumption) ?r4
      case y4 => (intro w hSw; (try dsimp only at hSw); go_simp; try (with_reducible rfl))
      simp only [Act.put, List.getElem_toArray, List.getElem_cons_zero, List.getElem_cons_succ, List.setIfInBounds_toArray, List.set_cons_zero, List.set_cons_succ]
      refine wpAnyH_take (i := 5) (v := ?v5) rfl (by kernel_rfl) (by kernel_rfl) (by kernel_rfl) (fun _ _ _ h => h) (Or.inl ⟨by rfl, ?y5⟩) (by assumption) ?r5
      case y5 => (intro w hSw; (try dsimp only at hSw); go_simp; try (with_reducible rfl))
      simp only [Act.put, List.getElem_toArray, List.getElem_cons_zero, List.getElem_cons_succ, List.setIfInBounds_toArray, List.set_cons_zero, List.set_cons_succ]
      refine wpAnyH_take (i := 6) (v := ?v6) rfl (by kernel_rfl) (by kernel_rfl) (by kernel_rfl) (fun _ _ _ h => h) (Or.inl ⟨by rfl, ?y6⟩) (by assumption) ?r6
      case y6 => (intro w hSw; (try dsimp only at hSw); go_simp; try (with_reducible rfl))
      simp only [Act.put, List.getElem_toArray, List.getElem_cons_zero, List.getElem_cons_succ, List.setIfInBounds_toArray, List.set_cons_zero, List.set_cons_succ]
      refine wpAnyH_take (i := 7) (v := ?v7) rfl (by kernel_rfl) (by kernel_rfl) (by kernel_rfl) (fun _ _ _ h => h) (Or.inl ⟨by rfl, ?y7⟩) (by assumption) ?r7
      case y7 => (intro w hSw; (try dsimp only at hSw); go_simp; try (with_reducible rfl))
      simp only [Act.put, List.getElem_toArray, List.getElem_cons_zero, List.getElem_cons_succ, List.setIfInBounds_toArray, List.set_cons_zero, List.set_cons_succ]
      refine wpAnyH_take (i := 8) (v := ?v8) rfl (by kernel_rfl) (by kernel_rfl) (by kernel_rfl) (fun _ _ _ h => h) (Or.inl ⟨by rfl, ?y8⟩) (by assumption) ?r8
      case y8 => (intro w hSw; (try dsimp only at hSw); go_simp; try (with_reducible rfl))
      simp only [Act.put, List.getElem_toArray, List.getElem_cons_zero, List.getElem_cons_succ, List.setIfInBounds_toArray, List.set_cons_zero, List.set_cons_succ]
      refine wpAnyH_take (i := 9) (v := ?v9) rfl (by kernel_rfl) (by kernel_rfl) (by kernel_rfl) (fun _ _ _ h => h) (Or.inl ⟨by rfl, ?y9⟩) (by assumption) ?r9
      case y9 => (intro w hSw; (try dsimp only at hSw); go_simp; try (with_reducible rfl))
      simp only [Act.put, List.getElem_toArray, List.getElem_cons_zero, List.getElem_cons_succ, List.setIfInBounds_toArray, List.set_cons_zero, List.set_cons_succ]
      refine wpAnyH_take (i := 10) (v := ?v10) rfl (by kernel_rfl) (by kernel_rfl) (by kernel_rfl) (fun _ _ _ h => h) (Or.inl ⟨by rfl, ?y10⟩) (by assumption) ?r10
      case y10 => (intro w hSw; (try dsimp only at hSw); go_simp; try (with_reducible rfl))
      simp only [Act.put, List.getElem_toArray, List.getElem_cons_zero, List.getElem_cons_succ, List.setIfInBounds_toArray, List.set_cons_zero, List.set_cons_succ]
      refine wpAnyH_take (i := 11) (v := ?v11) rfl (by kernel_rfl) (by kernel_rfl) (by kernel_rfl) (fun _ _ _ h => h) (Or.inl ⟨by rfl, ?y11⟩) (by assumption) ?r11
      case y11 => (intro w hSw; (try dsimp only at hSw); go_simp; try (with_reducible rfl))
      simp only [Act.put, List.getElem_toArray, List.getElem_cons_zero, List.getElem_cons_succ, List.setIfInBounds_toArray, List.set_cons_zero, List.set_cons_succ]
      refine wpAnyH_take (i := 12) (v := ?v12) rfl (by kernel_rfl) (by kernel_rfl) (by kernel_rfl) (fun _ _ _ h => h) (Or.inl ⟨by rfl, ?y12⟩) (by assumption) ?r12
      case y12 => (intro w hSw; (try dsimp only at hSw); go_simp; try (with_reducible rfl))
      simp only [Act.put, List.getElem_toArray, List.getElem_cons_zero, List.getElem_cons_succ, List.setIfInBounds_toArray, List.set_cons_zero, List.set_cons_succ]
      refine wpAnyH_take (i := 13) (v := ?v13) rfl (by kernel_rfl) (by kernel_rfl) (by kernel_rfl) (fun _ _ _ h => h) (Or.inl ⟨by rfl, ?y13⟩) (by assumption) ?r13
      case y13 => (intro w hSw; (try dsimp only at hSw); go_simp; try (with_reducible rfl))
      simp only [Act.put, List.getElem_toArray, List.getElem_cons_zero, List.getElem_cons_succ, List.setIfInBounds_toArray, List.set_cons_zero, List.set_cons_succ]
      refine wpAnyH_ready (rs := [14]) (by kernel_rfl) (by simp) ?_
      refine AllReadyH.cons rfl (fun K hK => ?_) AllReadyH.nil
      rw [if_pos (by rfl)]
      go_wp2_with (first | (go_at_call_of 53 (Value.int IntKind.i64 kb); refine (nodeAt_no _ r kb _ (by exact (HO.out.below hbE (Nat.le_refl _)).at) HZ.out).mono ?_; rintro e w3 ⟨rfl, hb3⟩; have hb3' : Below w2.heap.size w2 w3 := (Below.refl _ w2).drew.trans hb3; have f1 := (hb3'.cell (p := ⟨S, 0, none⟩) l1).trans e2; have f3 := (hb3'.cell (p := ⟨g, k * 3 + 1, none⟩) l2).trans e3; have l5 := Nat.lt_of_lt_of_le l1 hb3'.size; have l6 := Nat.lt_of_lt_of_le l2 hb3'.size))
      refine hK.out _ _ ⟨f1, f3⟩ (fun hHeld => ?_)
      clear hK K
      refine wpAnyH_take (i := 15) (v := ?v15) rfl (by kernel_rfl) (by kernel_rfl) (by kernel_rfl) (fun _ _ _ h => h) (Or.inl ⟨by rfl, ?y15⟩) (by assumption) ?r15
      case y15 => (intro w hSw; (try dsimp only at hSw); go_simp; try (with_reducible rfl))
      simp only [Act.put, List.getElem_toArray, List.getElem_cons_zero, List.getElem_cons_succ, List.setIfInBounds_toArray, List.set_cons_zero, List.set_cons_succ]
      refine wpAnyH_take (i := 16) (v := ?v16) rfl (by kernel_rfl) (by kernel_rfl) (by kernel_rfl) (fun _ _ _ h => h) (Or.inl ⟨by rfl, ?y16⟩) (by assumption) ?r16
      case y16 => (intro w hSw; (try dsimp only at hSw); go_simp; try (with_reducible rfl))
      simp only [Act.put, List.getElem_toArray, List.getElem_cons_zero, List.getElem_cons_succ, List.setIfInBounds_toArray, List.set_cons_zero, List.set_cons_succ]
      refine wpAnyH_take (i := 17) (v := ?v17) rfl (by kernel_rfl) (by kernel_rfl) (by kernel_rfl) (fun _ _ _ h => h) (Or.inl ⟨by rfl, ?y17⟩) (by assumption) ?r17
      case y17 => (intro w hSw; (try dsimp only at hSw); go_simp; try (with_reducible rfl))
      simp only [Act.put, List.getElem_toArray, List.getElem_cons_zero, List.getElem_cons_succ, List.setIfInBounds_toArray, List.set_cons_zero, List.set_cons_succ]
      refine wpAnyH_take (i := 18) (v := undef) rfl (by kernel_rfl) (by kernel_rfl) (by kernel_rfl) (fun _ _ _ h => h) (Or.inr ⟨by rfl, rfl⟩) (by assumption) ?_
      simp only [Act.put, List.getElem_toArray, List.getElem_cons_zero, List.getElem_cons_succ, List.setIfInBounds_toArray, List.set_cons_zero, List.set_cons_succ]
      refine wpAnyH_take (i := 19) (v := undef) rfl (by kernel_rfl) (by kernel_rfl) (by kernel_rfl) (fun _ _ _ h => h) (Or.inr ⟨by rfl, rfl⟩) (by assumption) ?_
      simp only [Act.put, List.getElem_toArray, List.getElem_cons_zero, List.getElem_cons_succ, List.setIfInBounds_toArray, List.set_cons_zero, List.set_cons_succ]
      refine wpAnyH_take (i := 20) (v := undef) rfl (by kernel_rfl) (by kernel_rfl) (by kernel_rfl) (fun _ _ _ h => h) (Or.inr ⟨by rfl, rfl⟩) (by assumption) ?_
      simp only [Act.put, List.getElem_toArray, List.getElem_cons_zero, List.getElem_cons_succ, List.setIfInBounds_toArray, List.set_cons_zero, List.set_cons_succ]
      refine wpAnyH_take (i := 21) (v := undef) rfl (by kernel_rfl) (by kernel_rfl) (by kernel_rfl) (fun _ _ _ h => h) (Or.inr ⟨by rfl, rfl⟩) (by assumption) ?_
      simp only [Act.put, List.getElem_toArray, List.getElem_cons_zero, List.getElem_cons_succ, List.setIfInBounds_toArray, List.set_cons_zero, List.set_cons_succ]
      refine wpAnyH_take (i := 22) (v := undef) rfl (by kernel_rfl) (by kernel_rfl) (by kernel_rfl) (fun _ _ _ h => h) (Or.inr ⟨by rfl, rfl⟩) (by assumption) ?_
      simp only [Act.put, List.getElem_toArray, List.getElem_cons_zero, List.getElem_cons_succ, List.setIfInBounds_toArray, List.set_cons_zero, List.set_cons_succ]
      refine wpAnyH_take (i := 23) (v := undef) rfl (by kernel_rfl) (by kernel_rfl) (by kernel_rfl) (fun _ _ _ h => h) (Or.inr ⟨by rfl, rfl⟩) (by assumption) ?_
      simp only [Act.put, List.getElem_toArray, List.getElem_cons_zero, List.getElem_cons_succ, List.setIfInBounds_toArray, List.set_cons_zero, List.set_cons_succ]
      refine wpAnyH_take (i := 24) (v := undef) rfl (by kernel_rfl) (by kernel_rfl) (by kernel_rfl) (fun _ _ _ h => h) (Or.inr ⟨by rfl, rfl⟩) (by assumption) ?_
      simp only [Act.put, List.getElem_toArray, List.getElem_cons_zero, List.getElem_cons_succ, List.setIfInBounds_toArray, List.set_cons_zero, List.set_cons_succ]
      refine wpAnyH_take (i := 25) (v := undef) rfl (by kernel_rfl) (by kernel_rfl) (by kernel_rfl) (fun _ _ _ h => h) (Or.inr ⟨by rfl, rfl⟩) (by assumption) ?_
      simp only [Act.put, List.getElem_toArray, List.getElem_cons_zero, List.getElem_cons_succ, List.setIfInBounds_toArray, List.set_cons_zero, List.set_cons_succ]
      refine wpAnyH_take (i := 26) (v := ?v26) rfl (by kernel_rfl) (by kernel_rfl) (by kernel_rfl) (fun _ _ _ h => h) (Or.inl ⟨by rfl, ?y26⟩) (by assumption) ?r26
      case y26 => (intro w hSw; (try dsimp only at hSw); go_simp; try (with_reducible rfl))
      simp only [Act.put, List.getElem_toArray, List.getElem_cons_zero, List.getElem_cons_succ, List.setIfInBounds_toArray, List.set_cons_zero, List.set_cons_succ]
      refine wpAnyH_done (by kernel_rfl) ?_ _
      have hbF : Below w.heap.size w w3 := hbE.trans (hb3'.mono hbE.size)
      have z4 : ∀ j, w3.frozen? ⟨g, j, none⟩ = false := fun j => (hbF.frozen (p := ⟨g, j, none⟩) hgl).trans (cf j)
      have lz : g < w3.heap.size := Nat.lt_of_lt_of_le hgl hbF.size
      go_wp2
      go_ret
      rw [HY.out, HK.out, HY.out, if_pos rfl]
      refine ⟨rfl, (hbF.mono hBw).setCell (p := ⟨g, k * 3 + 1, none⟩) hBg (.int .i64 other), fun _ => ⟨_, ?_, by exact RingOwn.setBefore (HO.out.below hbF (Nat.le_refl _)) hk⟩⟩
      rw [World.cell?_setCell_other _ _ _ _ (by simp), f1]
      simp
    · have HZ := Lib.hid hz
      have q3 : okP kb = true := by rw [← hidm]; exact (hs.2 m hm).2.2
      have hkb : 0 ≤ kb := by simp [okP] at q3; exact q3.1
      have hcb : cbtw kb other id = btw kb other id := cbtw_ok q3 q2 q1
      cases hbt : btw kb other id
      · have HY := Lib.hid (show notifyOk r k other = false by rw [HD'.out, hz, hbt, decide_eq_true hkb]; simp)
        have HB := Lib.hid (hcb.trans hbt)
        clear hO hs q1 q2 q3 hz hbt hcb hkb hidm
        go_enter Try.func59, Try.ntmps59
        go_wp2_with (first
          | (go_at_call_of 53 (Value.int IntKind.i64 id); refine (nodeAt_own r id g cap k _ (by exact HO.out.at) hk HF.out).mono ?_; rintro e w1 ⟨rfl, hb1⟩; have e1 := (hb1.cell (p := ⟨S, 0, none⟩) hSl).trans hS)
          | (go_at_call_of 53 (Value.int IntKind.i64 other); refine (nodeAt_own r other g cap j _ (by exact (HO.out.below hb1 (Nat.le_refl _)).at) hj HX.out).mono ?_; rintro e w2 ⟨rfl, hb2⟩; have hbE : Below w.heap.size w w2 := hb1.trans (hb2.mono hb1.size); have e2 := (hbE.cell (p := ⟨S, 0, none⟩) hSl).trans hS; have e3 := (hbE.cell (p := ⟨g, k * 3 + 1, none⟩) hgl).trans c1; have e4 : ∀ j, w2.frozen? ⟨g, j, none⟩ = false := (fun j => (hbE.frozen (p := ⟨g, j, none⟩) hgl).trans (cf j)); have l1 := Nat.lt_of_lt_of_le hSl hbE.size; have l2 := Nat.lt_of_lt_of_le hgl hbE.size))
        go_region_held3 (fun w' => w'.cell? ⟨S, 0, none⟩ = some (.slice (some ⟨g, 0, none⟩) r.length cap) ∧ w'.cell? ⟨g, k * 3 + 1, none⟩ = some (.int .i64 kb)) (go_keep)
          (first
            | (have _ := f1; go_at_call 39; refine (iBetween_is _ _ _ _ HB.out _).mono ?_; rintro e w4 ⟨rfl, hb4⟩; have g1 := (hb4.cell (p := ⟨S, 0, none⟩) l5).trans f1; have g3 := (hb4.cell (p := ⟨g, k * 3 + 1, none⟩) l6).trans f3) | (go_at_call_of 53 (Value.int IntKind.i64 kb); refine (nodeAt_own r kb g cap m _ (by exact (HO.out.below hbE (Nat.le_refl _)).at) hm HZ.out).mono ?_; rintro e w3 ⟨rfl, hb3⟩; have hb3' : Below w2.heap.size w2 w3 := (Below.refl _ w2).drew.trans hb3; have f1 := (hb3'.cell (p := ⟨S, 0, none⟩) l1).trans e2; have f3 := (hb3'.cell (p := ⟨g, k * 3 + 1, none⟩) l2).trans e3; have l5 := Nat.lt_of_lt_of_le l1 hb3'.size; have l6 := Nat.lt_of_lt_of_le l2 hb3'.size))
        have hbF : Below w.heap.size w w3 := hbE.trans (hb3'.mono hbE.size)
        have hbG : Below w.heap.size w w4 := hbF.trans (hb4.mono hbF.size)
        go_wp2
        go_ret
        rw [HY.out]
        exact ⟨rfl, hbG.mono hBw, fun h => by cases h⟩
      · have HY := Lib.hid (show notifyOk r k other = true by rw [HD'.out, hbt]; simp)
        have HB := Lib.hid (hcb.trans hbt)
        clear hO hs q1 q2 q3 hz hbt hcb hkb hidm
        go_enter Try.func59, Try.ntmps59
        go_wp2_with (first
          | (go_at_call_of 53 (Value.int IntKind.i64 id); refine (nodeAt_own r id g cap k _ (by exact HO.out.at) hk HF.out).mono ?_; rintro e w1 ⟨rfl, hb1⟩; have e1 := (hb1.cell (p := ⟨S, 0, none⟩) hSl).trans hS)
          | (go_at_call_of 53 (Value.int IntKind.i64 other); refine (nodeAt_own r other g cap j _ (by exact (HO.out.below hb1 (Nat.le_refl _)).at) hj HX.out).mono ?_; rintro e w2 ⟨rfl, hb2⟩; have hbE : Below w.heap.size w w2 := hb1.trans (hb2.mono hb1.size); have e2 := (hbE.cell (p := ⟨S, 0, none⟩) hSl).trans hS; have e3 := (hbE.cell (p := ⟨g, k * 3 + 1, none⟩) hgl).trans c1; have e4 : ∀ j, w2.frozen? ⟨g, j, none⟩ = false := (fun j => (hbE.frozen (p := ⟨g, j, none⟩) hgl).trans (cf j)); have l1 := Nat.lt_of_lt_of_le hSl hbE.size; have l2 := Nat.lt_of_lt_of_le hgl hbE.size))
        go_region_held3 (fun w' => w'.cell? ⟨S, 0, none⟩ = some (.slice (some ⟨g, 0, none⟩) r.length cap) ∧ w'.cell? ⟨g, k * 3 + 1, none⟩ = some (.int .i64 kb)) (go_keep)
          (first
            | (have _ := f1; go_at_call 39; refine (iBetween_is _ _ _ _ HB.out _).mono ?_; rintro e w4 ⟨rfl, hb4⟩; have g1 := (hb4.cell (p := ⟨S, 0, none⟩) l5).trans f1; have g3 := (hb4.cell (p := ⟨g, k * 3 + 1, none⟩) l6).trans f3) | (go_at_call_of 53 (Value.int IntKind.i64 kb); refine (nodeAt_own r kb g cap m _ (by exact (HO.out.below hbE (Nat.le_refl _)).at) hm HZ.out).mono ?_; rintro e w3 ⟨rfl, hb3⟩; have hb3' : Below w2.heap.size w2 w3 := (Below.refl _ w2).drew.trans hb3; have f1 := (hb3'.cell (p := ⟨S, 0, none⟩) l1).trans e2; have f3 := (hb3'.cell (p := ⟨g, k * 3 + 1, none⟩) l2).trans e3; have l5 := Nat.lt_of_lt_of_le l1 hb3'.size; have l6 := Nat.lt_of_lt_of_le l2 hb3'.size))
        have hbF : Below w.heap.size w w3 := hbE.trans (hb3'.mono hbE.size)
        have hbG : Below w.heap.size w w4 := hbF.trans (hb4.mono hbF.size)
        have z4 : ∀ j, w4.frozen? ⟨g, j, none⟩ = false := fun j => (hbG.frozen (p := ⟨g, j, none⟩) hgl).trans (cf j)
        have lz : g < w4.heap.size := Nat.lt_of_lt_of_le hgl hbG.size
        go_wp2
        go_ret
        rw [HY.out, HK.out, HY.out, if_pos rfl]
        refine ⟨rfl, (hbG.mono hBw).setCell (p := ⟨g, k * 3 + 1, none⟩) hBg (.int .i64 other), fun _ => ⟨_, ?_, by exact RingOwn.setBefore (HO.out.below hbG (Nat.le_refl _)) hk⟩⟩
        rw [World.cell?_setCell_other _ _ _ _ (by simp), g1]
        simp

end Go.Proofs.Ytojpfbbgpcafnaa
