/-
  Contracts: the latest replica of a set, as the reference has it; RegisterLatest; spec.RegisterWrite.
-/
import Derived.Test.YtkefnmmpipeppaaSe
namespace Go.Proofs.Ytkefnmmpipeppaa
open Go.RowKit

set_option maxRecDepth 100000 in
set_option maxHeartbeats 2000000 in
theorem sLat_any (v u : Value) (rs : List Tr) (ks : List Int) (w : World) (hv : TrsAt w v rs) (hu : IntsAt w u ks) (h0 : 0 < ks.length) (hks : ∀ m, m < ks.length → 0 ≤ ks.getD m 0 ∧ ks.getD m 0 < rs.length) :
    Calls Try.prog 52 #[v, u] w fun e w' => e = .returned (.agg #[.int .i64 (rLat rs ks).a, .int .i64 (rLat rs ks).b, .int .i64 (rLat rs ks).c]) ∧ Below w.heap.size w w' := by
  have hb0 := (Below.refl w.heap.size w).alloc (Nat.le_refl _) (.cells #[.int .i64 0, .int .i64 0, .int .i64 0] 26)
  have hz0 := heap_alloc_new w (.cells #[.int .i64 0, .int .i64 0, .int .i64 0] 26)
  have hs0 : (w.alloc (.cells #[.int .i64 0, .int .i64 0, .int .i64 0] 26)).heap.size = w.heap.size + 1 := by simp
  obtain ⟨A, hA⟩ : ∃ A, w.heap.size = A := ⟨_, rfl⟩
  have HK := Lib.hid hks
  have HV := Lib.hid hv
  have HU := Lib.hid hu
  obtain ⟨p, cap, rfl, hc1, hc2⟩ := hv.form
  obtain ⟨q, capk, rfl, hq1, hq2, hq3⟩ := hu
  unfold maxLen at hq2
  rcases hq3 with ⟨rfl, -⟩ | ⟨bk, ok, rfl, hbk, hck⟩
  · simp at h0
  obtain ⟨K0, hK0, hKr0⟩ : ∃ K : Nat, ks.getD 0 0 = (K : Int) ∧ K < rs.length := ⟨(ks.getD 0 0).toNat, by have := hks 0 h0; omega, by have := hks 0 h0; omega⟩
  obtain ⟨b, o, rfl, hbb, r0, r1, r2⟩ := hv.tr hKr0
  have hf := (hb0.cell (p := ⟨bk, ok + 0, none⟩) hbk).trans (hck 0 h0)
  rw [hK0, Nat.add_zero] at hf
  have r0 := (hb0.cell (p := ⟨b, o + K0 * 3, none⟩) hbb).trans r0
  have r1 := (hb0.cell (p := ⟨b, o + K0 * 3 + 1, none⟩) hbb).trans r1
  have r2 := (hb0.cell (p := ⟨b, o + K0 * 3 + 2, none⟩) hbb).trans r2
  have HL0 := Lib.hid (show rs.getD K0 default = latN rs ks 0 by simp only [latN, hK0, Int.toNat_natCast])
  obtain ⟨x, hx⟩ : ∃ x, rs.getD K0 default = x := ⟨_, rfl⟩
  have HX0 := Lib.hid (HL0.out.symm.trans hx)
  rw [hx] at r0 r1 r2
  have j0 : (0 : Int) ≤ (K0 : Int) := by omega
  have j1 : (K0 : Int) < (rs.length : Int) := by omega
  have j2 : (0 : Int) < (ks.length : Int) := by omega
  have hb1 := hb0.alloc (by rw [hs0]; omega) (.cells #[.int .i64 x.a, .int .i64 x.b, .int .i64 x.c] 26)
  have hx1 := heap_alloc_new (w.alloc (.cells #[.int .i64 0, .int .i64 0, .int .i64 0] 26)) (.cells #[.int .i64 x.a, .int .i64 x.b, .int .i64 x.c] 26)
  have hb01 := (Below.refl (A + 1) (w.alloc (.cells #[.int .i64 0, .int .i64 0, .int .i64 0] 26))).alloc (by rw [hs0, hA]; exact Nat.le_refl _) (.cells #[.int .i64 x.a, .int .i64 x.b, .int .i64 x.c] 26)
  have hs1 : ((w.alloc (.cells #[.int .i64 0, .int .i64 0, .int .i64 0] 26)).alloc (.cells #[.int .i64 x.a, .int .i64 x.b, .int .i64 x.c] 26)).heap.size = A + 2 := by simp [hA]
  rw [hs0, hA] at hx1
  rw [hA] at hz0 hb0 hb1
  have HZ := Lib.hid (((hb01.block A (Nat.lt_succ_self A)).trans hz0))
  have HX1 := Lib.hid hx1
  have HB1 := Lib.hid hb1
  have HA := Lib.hid hA
  clear hks hv hx hz0 hx1 hb1 hb01
  go_enter Try.func52, Try.ntmps52
  go_wp2
  go_loopg [6] (ks.length - 1) (fun m i wr => ∃ k : Nat, k ≤ ks.length ∧ m = ks.length - k ∧ i = .int .i64 k ∧ Hid (Below A w wr) ∧ Hid (wr.heap[A]? = some (.cells #[.int .i64 0, .int .i64 0, .int .i64 0] 26)) ∧ Hid (wr.heap[A + 1]? = some (.cells #[.int .i64 (latN rs ks k).a, .int .i64 (latN rs ks k).b, .int .i64 (latN rs ks k).c] 26)) ∧ A + 2 ≤ wr.heap.size)
  case atStart => exact ⟨1, h0, rfl, rfl, HB1, HZ, by rw [latN_one, HX0.out]; exact HX1, by rw [hs1]; exact Nat.le_refl _⟩
  case round =>
    obtain ⟨k, hk, rfl, rfl, HB, HZR, HXR, hsz⟩ := hrel
    have hAw : w.heap.size = A := HA.out
    by_cases hlt : k < ks.length
    · obtain ⟨K, hK, hKr⟩ : ∃ K : Nat, ks.getD k 0 = (K : Int) ∧ K < rs.length := ⟨(ks.getD k 0).toNat, by have := HK.out k hlt; omega, by have := HK.out k hlt; omega⟩
      have hkc := (HB.out.cell (p := ⟨bk, ok + k, none⟩) (show bk < A by omega)).trans (hck k hlt)
      rw [hK] at hkc
      obtain ⟨b', o', e', hbw, y0, y1, y2⟩ := (HV.out.below HB.out (by omega)).tr hKr
      cases e'
      obtain ⟨z, hz⟩ : ∃ z, latN rs ks k = z := ⟨_, rfl⟩
      obtain ⟨y, hy⟩ : ∃ y, rs.getD K default = y := ⟨_, rfl⟩
      have HLN := Lib.hid (show latN rs ks (k + 1) = rMax z y by simp only [latN, hK, Int.toNat_natCast, hz, hy])
      rw [hy] at y0 y1 y2
      have HXZ := Lib.hid (show wr.heap[A + 1]? = some (.cells #[.int .i64 z.a, .int .i64 z.b, .int .i64 z.c] 26) by rw [← hz]; exact HXR.out)
      obtain ⟨x0, x1, x2⟩ := cells3 HXZ.out
      have hsz1 : A + 1 < wr.heap.size := by omega
      have hbkw : bk < wr.heap.size := by omega
      have hlt' : (k : Int) < (ks.length : Int) := by omega
      have hk0 : (0 : Int) ≤ (k : Int) := by omega
      obtain ⟨c, hc⟩ : ∃ c, rOlder z y = c := ⟨_, rfl⟩
      have HC := Lib.hid hc
      clear hK hz hy hc
      go_wp2_with fail
      refine wp_region_held_drew (S := fun w' => Below (wr).heap.size wr w') (by kernel_rfl) (Below.refl _ wr).drew (fun hHeld => ?_)
      refine wpAnyH_take (i := 0) (v := ?_) rfl (by kernel_rfl) (by kernel_rfl) (by kernel_rfl) (fun _ _ _ h => h) (Or.inl ⟨by rfl, ?_⟩) (by assumption) ?_
      rotate_left
      · (intro wz hSw; have s9 := (hSw.cell (p := ⟨bk, ok + k, none⟩) hbkw).trans hkc; have s0 := (hSw.cell (p := ⟨A + 1, 0, none⟩) hsz1).trans x0; have s1 := (hSw.cell (p := ⟨A + 1, 1, none⟩) hsz1).trans x1; have s2 := (hSw.cell (p := ⟨A + 1, 2, none⟩) hsz1).trans x2; have s3 := (hSw.cell (p := ⟨b, o + K * 3, none⟩) hbw).trans y0; have s4 := (hSw.cell (p := ⟨b, o + K * 3 + 1, none⟩) hbw).trans y1; have s5 := (hSw.cell (p := ⟨b, o + K * 3 + 2, none⟩) hbw).trans y2; have i0 : (0 : Int) ≤ (K : Int) := (by omega); have i1 : (K : Int) < (rs.length : Int) := (by omega); have i2 : (0 : Int) ≤ (k : Int) := (by omega); have i3 : (k : Int) < (ks.length : Int) := (by omega); go_simp; try (with_reducible rfl))
      simp only [Act.put, List.getElem_toArray, List.getElem_cons_zero, List.setIfInBounds_toArray, List.set_cons_zero, List.set_cons_succ]
      refine wpAnyH_take (i := 1) (v := ?_) rfl (by kernel_rfl) (by kernel_rfl) (by kernel_rfl) (fun _ _ _ h => h) (Or.inl ⟨by rfl, ?_⟩) (by assumption) ?_
      rotate_left
      · (intro wz hSw; clear hSw; have i0 : (0 : Int) ≤ (K : Int) := (by omega); have i1 : (K : Int) < (rs.length : Int) := (by omega); have i2 : (0 : Int) ≤ (k : Int) := (by omega); have i3 : (k : Int) < (ks.length : Int) := (by omega); go_simp; try (with_reducible rfl))
      simp only [Act.put, List.getElem_toArray, List.getElem_cons_zero, List.getElem_cons_succ, List.setIfInBounds_toArray, List.set_cons_zero, List.set_cons_succ]
      refine wpAnyH_take (i := 2) (v := ?_) rfl (by kernel_rfl) (by kernel_rfl) (by kernel_rfl) (fun _ _ _ h => h) (Or.inl ⟨by rfl, ?_⟩) (by assumption) ?_
      rotate_left
      · (intro wz hSw; clear hSw; have i0 : (0 : Int) ≤ (K : Int) := (by omega); have i1 : (K : Int) < (rs.length : Int) := (by omega); have i2 : (0 : Int) ≤ (k : Int) := (by omega); have i3 : (k : Int) < (ks.length : Int) := (by omega); go_simp; try (with_reducible rfl))
      simp only [Act.put, List.getElem_toArray, List.getElem_cons_zero, List.getElem_cons_succ, List.setIfInBounds_toArray, List.set_cons_zero, List.set_cons_succ]
      refine wpAnyH_take (i := 3) (v := ?_) rfl (by kernel_rfl) (by kernel_rfl) (by kernel_rfl) (fun _ _ _ h => h) (Or.inl ⟨by rfl, ?_⟩) (by assumption) ?_
      rotate_left
      · (intro wz hSw; clear hSw; have i0 : (0 : Int) ≤ (K : Int) := (by omega); have i1 : (K : Int) < (rs.length : Int) := (by omega); have i2 : (0 : Int) ≤ (k : Int) := (by omega); have i3 : (k : Int) < (ks.length : Int) := (by omega); go_simp; try (with_reducible rfl))
      simp only [Act.put, List.getElem_toArray, List.getElem_cons_zero, List.getElem_cons_succ, List.setIfInBounds_toArray, List.set_cons_zero, List.set_cons_succ]
      refine wpAnyH_take (i := 4) (v := ?_) rfl (by kernel_rfl) (by kernel_rfl) (by kernel_rfl) (fun _ _ _ h => h) (Or.inl ⟨by rfl, ?_⟩) (by assumption) ?_
      rotate_left
      · (intro wz hSw; clear hSw; have i0 : (0 : Int) ≤ (K : Int) := (by omega); have i1 : (K : Int) < (rs.length : Int) := (by omega); have i2 : (0 : Int) ≤ (k : Int) := (by omega); have i3 : (k : Int) < (ks.length : Int) := (by omega); go_simp; try (with_reducible rfl))
      simp only [Act.put, List.getElem_toArray, List.getElem_cons_zero, List.getElem_cons_succ, List.setIfInBounds_toArray, List.set_cons_zero, List.set_cons_succ]
      refine wpAnyH_take (i := 5) (v := ?_) rfl (by kernel_rfl) (by kernel_rfl) (by kernel_rfl) (fun _ _ _ h => h) (Or.inl ⟨by rfl, ?_⟩) (by assumption) ?_
      rotate_left
      · (intro wz hSw; have s9 := (hSw.cell (p := ⟨bk, ok + k, none⟩) hbkw).trans hkc; have s0 := (hSw.cell (p := ⟨A + 1, 0, none⟩) hsz1).trans x0; have s1 := (hSw.cell (p := ⟨A + 1, 1, none⟩) hsz1).trans x1; have s2 := (hSw.cell (p := ⟨A + 1, 2, none⟩) hsz1).trans x2; have s3 := (hSw.cell (p := ⟨b, o + K * 3, none⟩) hbw).trans y0; have s4 := (hSw.cell (p := ⟨b, o + K * 3 + 1, none⟩) hbw).trans y1; have s5 := (hSw.cell (p := ⟨b, o + K * 3 + 2, none⟩) hbw).trans y2; have i0 : (0 : Int) ≤ (K : Int) := (by omega); have i1 : (K : Int) < (rs.length : Int) := (by omega); have i2 : (0 : Int) ≤ (k : Int) := (by omega); have i3 : (k : Int) < (ks.length : Int) := (by omega); go_simp; try (with_reducible rfl))
      simp only [Act.put, List.getElem_toArray, List.getElem_cons_zero, List.getElem_cons_succ, List.setIfInBounds_toArray, List.set_cons_zero, List.set_cons_succ]
      refine wpAnyH_take (i := 6) (v := ?_) rfl (by kernel_rfl) (by kernel_rfl) (by kernel_rfl) (fun _ _ _ h => h) (Or.inl ⟨by rfl, ?_⟩) (by assumption) ?_
      rotate_left
      · (intro wz hSw; clear hSw; have i0 : (0 : Int) ≤ (K : Int) := (by omega); have i1 : (K : Int) < (rs.length : Int) := (by omega); have i2 : (0 : Int) ≤ (k : Int) := (by omega); have i3 : (k : Int) < (ks.length : Int) := (by omega); go_simp; try (with_reducible rfl))
      simp only [Act.put, List.getElem_toArray, List.getElem_cons_zero, List.getElem_cons_succ, List.setIfInBounds_toArray, List.set_cons_zero, List.set_cons_succ]
      refine wpAnyH_take (i := 7) (v := ?_) rfl (by kernel_rfl) (by kernel_rfl) (by kernel_rfl) (fun _ _ _ h => h) (Or.inl ⟨by rfl, ?_⟩) (by assumption) ?_
      rotate_left
      · (intro wz hSw; have s9 := (hSw.cell (p := ⟨bk, ok + k, none⟩) hbkw).trans hkc; have s0 := (hSw.cell (p := ⟨A + 1, 0, none⟩) hsz1).trans x0; have s1 := (hSw.cell (p := ⟨A + 1, 1, none⟩) hsz1).trans x1; have s2 := (hSw.cell (p := ⟨A + 1, 2, none⟩) hsz1).trans x2; have s3 := (hSw.cell (p := ⟨b, o + K * 3, none⟩) hbw).trans y0; have s4 := (hSw.cell (p := ⟨b, o + K * 3 + 1, none⟩) hbw).trans y1; have s5 := (hSw.cell (p := ⟨b, o + K * 3 + 2, none⟩) hbw).trans y2; have i0 : (0 : Int) ≤ (K : Int) := (by omega); have i1 : (K : Int) < (rs.length : Int) := (by omega); have i2 : (0 : Int) ≤ (k : Int) := (by omega); have i3 : (k : Int) < (ks.length : Int) := (by omega); go_simp; try (with_reducible rfl))
      simp only [Act.put, List.getElem_toArray, List.getElem_cons_zero, List.getElem_cons_succ, List.setIfInBounds_toArray, List.set_cons_zero, List.set_cons_succ]
      refine wpAnyH_ready (rs := [8]) (by kernel_rfl) (by simp) ?_
      refine AllReadyH.cons rfl (fun K hK => ?_) AllReadyH.nil
      rw [if_pos (by rfl)]
      go_wp2_with (go_at_call 60; refine (sLess_any z y _).mono ?_; rw [HC.out]; rintro e wq ⟨rfl, hbq⟩)
      refine hK.out _ _ (hHeld.trans (hbq.mono hHeld.size)) (fun hHeld => ?_)
      clear hK K hbq
      refine wpAnyH_done (by kernel_rfl) ?_ _
      have HH := Lib.hid hHeld
      have f9 := (hHeld.cell (p := ⟨bk, ok + k, none⟩) hbkw).trans hkc
      have f0 := (hHeld.cell (p := ⟨b, o + K * 3, none⟩) hbw).trans y0
      have f1 := (hHeld.cell (p := ⟨b, o + K * 3 + 1, none⟩) hbw).trans y1
      have f2 := (hHeld.cell (p := ⟨b, o + K * 3 + 2, none⟩) hbw).trans y2
      have hx3 := (hHeld.block (A + 1) hsz1).trans HXZ.out
      have HX3 := Lib.hid hx3
      have HZ3 := Lib.hid ((hHeld.block A (by omega)).trans HZR.out)
      have hs3 := hHeld.size
      have HB3 := Lib.hid (HB.out.trans (hHeld.mono (by omega)))
      clear hHeld x0 x1 x2 y0 y1 y2
      cases c
      · clear f0 f1 f2 f9 hx3
        go_wp2
        go_roundg (ks.length - (k + 1))
        case rel => exact ⟨k + 1, by omega, rfl, by go_num, HB3, HZ3, by rw [HLN.out, rMax_new HC.out]; exact HX3, by omega⟩
        case measure => omega
      · obtain ⟨x0, x1, x2⟩ := cells3 hx3
        have fz : ∀ j, wq.frozen? ⟨A + 1, j, none⟩ = false := fun j => by unfold World.frozen?; rw [hx3]; rfl
        have i0 : (0 : Int) ≤ (K : Int) := by omega
        have i2 : (0 : Int) ≤ (k : Int) := by omega
        have i1 : (K : Int) < (rs.length : Int) := by omega
        clear hx3
        go_wp2
        go_roundg (ks.length - (k + 1))
        case rel =>
          refine ⟨k + 1, by omega, rfl, by go_num, Lib.hid (((HB3.out.setCell (p := ⟨A + 1, 0, none⟩) (Nat.le_succ A) _).setCell (p := ⟨A + 1, 1, none⟩) (Nat.le_succ A) _).setCell (p := ⟨A + 1, 2, none⟩) (Nat.le_succ A) _), Lib.hid ?_, by rw [HLN.out, rMax_old HC.out]; exact Lib.hid (heap_set3 HX3.out), by simp; omega⟩
          exact ((((Below.refl (A + 1) wq).setCell (p := ⟨A + 1, 0, none⟩) (Nat.le_refl _) (.int .i64 y.a)).setCell (p := ⟨A + 1, 1, none⟩) (Nat.le_refl _) (.int .i64 y.b)).setCell (p := ⟨A + 1, 2, none⟩) (Nat.le_refl _) (.int .i64 y.c)).block A (Nat.lt_succ_self A) |>.trans HZ3.out
        case measure => omega
    · obtain rfl : k = ks.length := by omega
      obtain ⟨z, hz⟩ : ∃ z, latN rs ks ks.length = z := ⟨_, rfl⟩
      have hxz : wr.heap[A + 1]? = some (.cells #[.int .i64 z.a, .int .i64 z.b, .int .i64 z.c] 26) := by rw [← hz]; exact HXR.out
      obtain ⟨x0, x1, x2⟩ := cells3 hxz
      obtain ⟨z0, z1, z2⟩ := cells3 HZR.out
      have fz : ∀ j, wr.frozen? ⟨A, j, none⟩ = false := fun j => by unfold World.frozen?; rw [HZR.out]; rfl
      have HZ9 := Lib.hid (show rLat rs ks = z from hz)
      have hsA : A < wr.heap.size := by omega
      clear hz hxz
      go_wp2
      obtain ⟨V, hV⟩ : ∃ V, ((wr.setCell ⟨A, 0, none⟩ (.int .i64 z.a)).setCell ⟨A, 1, none⟩ (.int .i64 z.b)).setCell ⟨A, 2, none⟩ (.int .i64 z.c) = V := ⟨_, rfl⟩
      obtain ⟨q0, q1, q2⟩ := cells3 (show V.heap[A]? = some (.cells #[.int .i64 z.a, .int .i64 z.b, .int .i64 z.c] 26) from by rw [← hV]; exact heap_set3 HZR.out)
      have hbV : Below A w V := by rw [← hV]; exact ((HB.out.setCell (p := ⟨A, 0, none⟩) (Nat.le_refl A) _).setCell (p := ⟨A, 1, none⟩) (Nat.le_refl A) _).setCell (p := ⟨A, 2, none⟩) (Nat.le_refl A) _
      rw [hV]
      refine bodyPost_ret (v := .agg #[.int .i64 z.a, .int .i64 z.b, .int .i64 z.c]) ?_ rfl ⟨by rw [HZ9.out], by rw [HA.out]; exact hbV⟩
      simp [results, Try.results52, go_sem, q0, q1, q2]

theorem majB_pos {n : Nat} {ks : List Int} (h : majB n ks = true) : 0 < ks.length := by
  unfold majB at h
  simp only [Bool.and_eq_true, decide_eq_true_eq] at h
  omega
theorem majB_set {n : Int} {ks : List Int} (h : majB n ks = true) : setB n ks = true := by
  unfold majB at h
  simp only [Bool.and_eq_true] at h
  exact h.1
/-- A register is asked by a majority. -/
def askB (rs : List Tr) (ks : List Int) : Bool := regB rs && majB rs.length ks
def latR (rs : List Tr) (ks : List Int) : Tr := if askB rs ks then rLat rs ks else default
set_option maxHeartbeats 2000000 in
theorem iRLat_any (v u : Value) (rs : List Tr) (ks : List Int) (w : World) (hv : TrsAt w v rs) (hu : IntsAt w u ks) (hl : ks.length ≤ 1048576) :
    Calls Try.prog 28 #[v, u] w fun e w' => e = .returned (.tuple #[.agg #[.int .i64 (latR rs ks).a, .int .i64 (latR rs ks).b, .int .i64 (latR rs ks).c], .bool (askB rs ks)]) ∧ Below w.heap.size w w' := by
  have hb0 := (Below.refl w.heap.size w).alloc (Nat.le_refl _) (.cells #[.int .i64 0, .int .i64 0, .int .i64 0] 26)
  have hz0 := heap_alloc_new w (.cells #[.int .i64 0, .int .i64 0, .int .i64 0] 26)
  have hs0 : (w.alloc (.cells #[.int .i64 0, .int .i64 0, .int .i64 0] 26)).heap.size = w.heap.size + 1 := by simp
  obtain ⟨A, hA⟩ : ∃ A, w.heap.size = A := ⟨_, rfl⟩
  rw [hA] at hz0 hs0 hb0
  have HA := Lib.hid hA
  have HV := Lib.hid (hv.below hb0 (by omega))
  have HU := Lib.hid (hu.below hb0 (by omega))
  have HZ := Lib.hid hz0
  have HB0 := Lib.hid hb0
  clear hz0 hb0 hv hu
  rcases ha : askB rs ks with _ | _
  · have HN := Lib.hid (show latR rs ks = default by unfold latR; rw [ha]; rfl)
    have HK := Lib.hid ha
    clear ha
    go_enter Try.func28, Try.ntmps28
    go_wp2_with fail
    refine (iAsked_any _ _ rs ks _ HV.out HU.out hl).mono ?_
    rw [show (regB rs && majB rs.length ks) = false from HK.out]
    rintro e w1 ⟨rfl, hb1⟩
    have hz1 := (hb1.block A (by omega)).trans HZ.out
    have HB1 := Lib.hid (HB0.out.trans (hb1.mono (by omega)))
    obtain ⟨z0, z1, z2⟩ := cells3 hz1
    have fz : ∀ j, w1.frozen? ⟨A, j, none⟩ = false := fun j => by unfold World.frozen?; rw [hz1]; rfl
    have HZ1 := Lib.hid hz1
    have hsA : A < w1.heap.size := Nat.lt_of_lt_of_le (by omega) hb1.size
    clear hz1 hb1
    go_wp2
    obtain ⟨V, hV⟩ : ∃ V, ((w1.setCell ⟨A, 0, none⟩ (.int .i64 0)).setCell ⟨A, 1, none⟩ (.int .i64 0)).setCell ⟨A, 2, none⟩ (.int .i64 0) = V := ⟨_, rfl⟩
    obtain ⟨q0, q1, q2⟩ := cells3 (show V.heap[A]? = some (.cells #[.int .i64 0, .int .i64 0, .int .i64 0] 26) from by rw [← hV]; exact heap_set3 HZ1.out)
    have hbV : Below A w V := by rw [← hV]; exact ((HB1.out.setCell (p := ⟨A, 0, none⟩) (Nat.le_refl A) _).setCell (p := ⟨A, 1, none⟩) (Nat.le_refl A) _).setCell (p := ⟨A, 2, none⟩) (Nat.le_refl A) _
    rw [hV]
    refine bodyPost_ret (v := .tuple #[.agg #[.int .i64 0, .int .i64 0, .int .i64 0], .bool false]) ?_ rfl ⟨by rw [HN.out]; rfl, by rw [HA.out]; exact hbV⟩
    simp [results, Try.results28, go_sem, q0, q1, q2]
  · have HN := Lib.hid (show latR rs ks = rLat rs ks by unfold latR; rw [ha]; rfl)
    have HK := Lib.hid ha
    have hm : majB rs.length ks = true := by unfold askB at ha; simp only [Bool.and_eq_true] at ha; exact ha.2
    have HP := Lib.hid (majB_pos hm)
    have HR := Lib.hid (setB_range (majB_set hm))
    clear ha hm
    go_enter Try.func28, Try.ntmps28
    go_wp2_with fail
    refine (iAsked_any _ _ rs ks _ HV.out HU.out hl).mono ?_
    rw [show (regB rs && majB rs.length ks) = true from HK.out]
    rintro e w1 ⟨rfl, hb1⟩
    go_wp2_with fail
    refine (iLat_any _ _ rs ks _ (HV.out.below hb1 (Nat.le_refl _)) (HU.out.below hb1 (Nat.le_refl _)) HP.out HR.out).mono ?_
    rintro e w2 ⟨rfl, hb2⟩
    have hb12 := hb1.trans (hb2.mono hb1.size)
    have hz1 := (hb12.block A (by omega)).trans HZ.out
    have HB1 := Lib.hid (HB0.out.trans (hb12.mono (by omega)))
    obtain ⟨z0, z1, z2⟩ := cells3 hz1
    have fz : ∀ j, w2.frozen? ⟨A, j, none⟩ = false := fun j => by unfold World.frozen?; rw [hz1]; rfl
    have HZ1 := Lib.hid hz1
    have hsA : A < w2.heap.size := Nat.lt_of_lt_of_le (by omega) hb12.size
    obtain ⟨z, hz⟩ : ∃ z, rLat rs ks = z := ⟨_, rfl⟩
    have HZZ := Lib.hid hz
    rw [hz]
    clear hz1 hb1 hb2 hb12 hz
    go_wp2
    obtain ⟨V, hV⟩ : ∃ V, ((w2.setCell ⟨A, 0, none⟩ (.int .i64 z.a)).setCell ⟨A, 1, none⟩ (.int .i64 z.b)).setCell ⟨A, 2, none⟩ (.int .i64 z.c) = V := ⟨_, rfl⟩
    obtain ⟨q0, q1, q2⟩ := cells3 (show V.heap[A]? = some (.cells #[.int .i64 z.a, .int .i64 z.b, .int .i64 z.c] 26) from by rw [← hV]; exact heap_set3 HZ1.out)
    have hbV : Below A w V := by rw [← hV]; exact ((HB1.out.setCell (p := ⟨A, 0, none⟩) (Nat.le_refl A) _).setCell (p := ⟨A, 1, none⟩) (Nat.le_refl A) _).setCell (p := ⟨A, 2, none⟩) (Nat.le_refl A) _
    rw [hV]
    refine bodyPost_ret (v := .tuple #[.agg #[.int .i64 z.a, .int .i64 z.b, .int .i64 z.c], .bool true]) ?_ rfl ⟨by rw [HN.out, HZZ.out], by rw [HA.out]; exact hbV⟩
    simp [results, Try.results28, go_sem, q0, q1, q2]
end Go.Proofs.Ytkefnmmpipeppaa
