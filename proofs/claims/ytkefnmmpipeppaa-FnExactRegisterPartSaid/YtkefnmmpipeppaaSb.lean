/-
  Contract: spec.l13Put.
-/
import Derived.Test.YtkefnmmpipeppaaSa
import Derived.Test.YtkefnmmpipeppaaPa
import Derived.Test.YtkefnmmpipeppaaSd
namespace Go.Proofs.Ytkefnmmpipeppaa
open Go.RowKit

theorem made_trN (w : World) (M : Nat) (T : TypeId) (hM : M = w.heap.size) : w.alloc (.cells #[] T) |>.ownsRow M T 3 (.slice (some ⟨M, 0, none⟩) 0 0) 0 [] := by
  subst hM
  exact World.ownsRow_made (base := w.heap.size) (e := T) (size := 3) w #[] 0 (Nat.le_refl _) (by unfold maxLen; omega) rfl
theorem rPut_old {x y : Tr} (h : rOlder y x = true) : rPut x y = x := by unfold rPut; rw [if_pos h]
theorem rPut_new {x y : Tr} (h : rOlder y x = false) : rPut x y = y := by unfold rPut; rw [h]; rfl
theorem set_getD (xs : List Tr) (k : Nat) : xs.set k (xs.getD k default) = xs := by
  apply List.ext_getElem? 
  intro j
  rw [List.getElem?_set]
  split
  · rename_i h
    subst h
    split
    · rename_i h; simp [h]
    · rename_i h; simp at h; rw [List.getElem?_eq_none h]
  · rfl
set_option maxRecDepth 100000 in
set_option maxHeartbeats 2000000 in
theorem sPut_any (v u : Value) (rs : List Tr) (ks : List Int) (x : Tr) (w : World) (hv : TrsAt w v rs) (hu : IntsAt w u ks) (hr0 : 0 < rs.length) (hr : rs.length ≤ 1048576) (hks : ∀ m, m < ks.length → 0 ≤ ks.getD m 0 ∧ ks.getD m 0 < rs.length) :
    Calls Try.prog 42 #[v, u, .agg #[.int .i64 x.a, .int .i64 x.b, .int .i64 x.c]] w fun e w' => ∃ z, e = .returned z ∧ TrsOwn w' w.heap.size 26 z (rPutAll x rs ks) ∧ Below w.heap.size w w' := by
  have hb0 := (Below.refl w.heap.size w).alloc (Nat.le_refl _) (.cells #[.int .i64 x.a, .int .i64 x.b, .int .i64 x.c] 26)
  have HSX := Lib.hid (hv.below hb0 (Nat.le_refl _))
  have HU := Lib.hid hu
  have hbox := Lib.hid (heap_alloc_new w (.cells #[.int .i64 x.a, .int .i64 x.b, .int .i64 x.c] 26))
  obtain ⟨i0, hi, hz0, hz1, hz2⟩ := info_parts Try.infoReplica
  obtain ⟨p, cap, rfl, hc1, hc2⟩ := hv.form
  obtain ⟨b, o, rfl, -, -, -, -⟩ := hv.tr hr0
  obtain ⟨q, capk, rfl, hq1, hq2, hq3⟩ := hu
  unfold maxLen at hq2
  have HK := Lib.hid hks
  clear hv hks
  go_enter Try.func42, Try.ntmps42
  go_wp2_with (at_builtin; refine wpList_append_src rfl (.tmp 9) (.tmp 10) 23 rfl (w.heap.size + 1) 26 i0 (.agg #[.int .i64 0, .int .i64 0, .int .i64 0]) 3 24 Try.underlying23 hi hz0 hz1 hz2 rfl (by decide) _ _ _ rfl (made_trN (w.alloc (.cells #[.int .i64 x.a, .int .i64 x.b, .int .i64 x.c] 26)) (w.heap.size + 1) 26 (by simp)) (.slice (some ⟨b, o, none⟩) rs.length cap) rs.length (flatT rs) rfl (HSX.out.src.below ((Below.refl _ _).alloc (Nat.le_refl _) (.cells #[] 26)) (Nat.le_refl _)) (by unfold maxLen; omega) (by omega) (by simp) ?_; intro v2 w2 hown2 hgrow2 hnil2; obtain ⟨g, cg, rfl, hg1, hg2, hg3, hg4, hBW⟩ := appendedE (w1 := w.alloc (.cells #[.int .i64 x.a, .int .i64 x.b, .int .i64 x.c] 26)) (by simp) hown2 hgrow2 hnil2)
  have HO := Lib.hid (show TrsOwn w2 (w.heap.size + 1) 26 (.slice (some ⟨g, 0, none⟩) rs.length cg) rs from hg4)
  have HB0 := Lib.hid (hb0.trans (hBW.mono (Nat.le_succ _)))
  have HX0 := Lib.hid (show w2.heap[w.heap.size]? = some (.cells #[.int .i64 x.a, .int .i64 x.b, .int .i64 x.c] 26) from (hBW.block _ (Nat.lt_succ_self _)).trans hbox.out)
  have hgw : w.heap.size < g := by omega
  clear hown2 hgrow2 hnil2 hg1 hg2 hg3 hg4 hBW hb0
  go_loopg [8] (ks.length) (fun m i wr => ∃ k : Nat, k ≤ ks.length ∧ m = ks.length - k ∧ i = .int .i64 k ∧ Hid (TrsOwn wr (w.heap.size + 1) 26 (.slice (some ⟨g, 0, none⟩) rs.length cg) (rPutAll x rs (ks.take k))) ∧ Hid (Below w.heap.size w wr ∧ wr.heap[w.heap.size]? = some (.cells #[.int .i64 x.a, .int .i64 x.b, .int .i64 x.c] 26)))
  case atStart => exact ⟨0, Nat.zero_le _, rfl, rfl, Lib.hid (by rw [List.take_zero, rPutAll_nil]; exact HO.out), Lib.hid ⟨HB0.out, HX0.out⟩⟩
  case round =>
    obtain ⟨k, hk, rfl, rfl, HY, HR⟩ := hrel
    by_cases hlt : k < ks.length
    · obtain ⟨K, hK, hKr⟩ : ∃ K : Nat, ks.getD k 0 = (K : Int) ∧ K < rs.length := ⟨(ks.getD k 0).toNat, by have := HK.out k hlt; omega, by have := HK.out k hlt; omega⟩
      rcases hq3 with ⟨rfl, -⟩ | ⟨bk, ok, rfl, hbk, hck⟩
      · simp at hlt
      have hkc := (HR.out.1.cell (p := ⟨bk, ok + k, none⟩) hbk).trans (hck k hlt)
      rw [hK] at hkc
      have HKK := Lib.hid hK
      obtain ⟨ys, hys⟩ : ∃ ys, rPutAll x rs (ks.take k) = ys := ⟨_, rfl⟩
      have hyl : ys.length = rs.length := by rw [← hys, rPutAll_length]
      have hY := HY.out
      rw [hys] at hY
      have HYS := Lib.hid hys
      have HYL := Lib.hid hyl
      obtain ⟨y0, y1, y2, hfz, hgl, -⟩ := hY.cells (k := K) (by omega)
      obtain ⟨y, hy⟩ : ∃ y, ys.getD K default = y := ⟨_, rfl⟩
      rw [hy] at y0 y1 y2
      have HY1 := Lib.hid hY
      have HYY := Lib.hid hy
      obtain ⟨x0, x1, x2⟩ := cells3 HR.out.2
      have hwl : w.heap.size < wr.heap.size := by omega
      have hbl : bk < wr.heap.size := Nat.lt_of_lt_of_le hbk HR.out.1.size
      have HS := Lib.hid (show rPutAll x rs (ks.take (k + 1)) = ys.set K (rPut x y) by
        rw [List.take_succ_eq_append_getElem hlt, show ks[k] = (K : Int) by rw [← hK]; simp [hlt], rPutAll_snoc _ _ _ _ hKr, hys, hy])
      have j0 : (0 : Int) ≤ (k : Int) := by omega
      have j1 : (k : Int) < (ks.length : Int) := by omega
      have j2 : (0 : Int) ≤ (K : Int) := by omega
      have j3 : (K : Int) < (rs.length : Int) := by omega
      have HFZ := Lib.hid hfz
      clear hK hyl hY hys hy hck hfz
      obtain ⟨c, hc⟩ : ∃ c, rOlder y x = c := ⟨_, rfl⟩
      have HOL := Lib.hid hc
      clear hc
      go_wp2_with fail
      refine wp_region_held_drew (S := fun w' => Below (wr).heap.size wr w') (by kernel_rfl) (Below.refl _ wr).drew (fun hHeld => ?_)
      refine wpAnyH_take (i := 0) (v := ?_) rfl (by kernel_rfl) (by kernel_rfl) (by kernel_rfl) (fun _ _ _ h => h) (Or.inl ⟨by rfl, ?_⟩) (by assumption) ?_
      rotate_left
      · (intro wz hSw; clear hSw; have i0 : (0 : Int) ≤ (k : Int) := (by omega); have i1 : (k : Int) < (ks.length : Int) := j1; have i2 : (0 : Int) ≤ (K : Int) := (by omega); have i3 : (K : Int) < (rs.length : Int) := j3; go_simp; try (with_reducible rfl))
      simp only [Act.put, List.getElem_toArray, List.getElem_cons_zero, List.setIfInBounds_toArray, List.set_cons_zero, List.set_cons_succ]
      refine wpAnyH_take (i := 1) (v := ?_) rfl (by kernel_rfl) (by kernel_rfl) (by kernel_rfl) (fun _ _ _ h => h) (Or.inl ⟨by rfl, ?_⟩) (by assumption) ?_
      rotate_left
      · (intro wz hSw; clear hSw; have i0 : (0 : Int) ≤ (k : Int) := (by omega); have i1 : (k : Int) < (ks.length : Int) := j1; have i2 : (0 : Int) ≤ (K : Int) := (by omega); have i3 : (K : Int) < (rs.length : Int) := j3; go_simp; try (with_reducible rfl))
      simp only [Act.put, List.getElem_toArray, List.getElem_cons_zero, List.getElem_cons_succ, List.setIfInBounds_toArray, List.set_cons_zero, List.set_cons_succ]
      refine wpAnyH_take (i := 2) (v := ?_) rfl (by kernel_rfl) (by kernel_rfl) (by kernel_rfl) (fun _ _ _ h => h) (Or.inl ⟨by rfl, ?_⟩) (by assumption) ?_
      rotate_left
      · (intro wz hSw; clear hSw; have i0 : (0 : Int) ≤ (k : Int) := (by omega); have i1 : (k : Int) < (ks.length : Int) := j1; have i2 : (0 : Int) ≤ (K : Int) := (by omega); have i3 : (K : Int) < (rs.length : Int) := j3; go_simp; try (with_reducible rfl))
      simp only [Act.put, List.getElem_toArray, List.getElem_cons_zero, List.getElem_cons_succ, List.setIfInBounds_toArray, List.set_cons_zero, List.set_cons_succ]
      refine wpAnyH_take (i := 3) (v := ?_) rfl (by kernel_rfl) (by kernel_rfl) (by kernel_rfl) (fun _ _ _ h => h) (Or.inl ⟨by rfl, ?_⟩) (by assumption) ?_
      rotate_left
      · (intro wz hSw; clear hSw; have i0 : (0 : Int) ≤ (k : Int) := (by omega); have i1 : (k : Int) < (ks.length : Int) := j1; have i2 : (0 : Int) ≤ (K : Int) := (by omega); have i3 : (K : Int) < (rs.length : Int) := j3; go_simp; try (with_reducible rfl))
      simp only [Act.put, List.getElem_toArray, List.getElem_cons_zero, List.getElem_cons_succ, List.setIfInBounds_toArray, List.set_cons_zero, List.set_cons_succ]
      refine wpAnyH_take (i := 4) (v := ?_) rfl (by kernel_rfl) (by kernel_rfl) (by kernel_rfl) (fun _ _ _ h => h) (Or.inl ⟨by rfl, ?_⟩) (by assumption) ?_
      rotate_left
      · (intro wz hSw; have s0 := (hSw.cell (p := ⟨bk, ok + k, none⟩) hbl).trans hkc; have s1 := (hSw.cell (p := ⟨g, K * 3, none⟩) hgl).trans y0; have s2 := (hSw.cell (p := ⟨g, K * 3 + 1, none⟩) hgl).trans y1; have s3 := (hSw.cell (p := ⟨g, K * 3 + 2, none⟩) hgl).trans y2; have s4 := (hSw.cell (p := ⟨w.heap.size, 0, none⟩) hwl).trans x0; have s5 := (hSw.cell (p := ⟨w.heap.size, 1, none⟩) hwl).trans x1; have s6 := (hSw.cell (p := ⟨w.heap.size, 2, none⟩) hwl).trans x2; have i0 : (0 : Int) ≤ (k : Int) := (by omega); have i1 : (k : Int) < (ks.length : Int) := j1; have i2 : (0 : Int) ≤ (K : Int) := (by omega); have i3 : (K : Int) < (rs.length : Int) := j3; go_simp; try (with_reducible rfl))
      simp only [Act.put, List.getElem_toArray, List.getElem_cons_zero, List.getElem_cons_succ, List.setIfInBounds_toArray, List.set_cons_zero, List.set_cons_succ]
      refine wpAnyH_take (i := 5) (v := ?_) rfl (by kernel_rfl) (by kernel_rfl) (by kernel_rfl) (fun _ _ _ h => h) (Or.inl ⟨by rfl, ?_⟩) (by assumption) ?_
      rotate_left
      · (intro wz hSw; clear hSw; have i0 : (0 : Int) ≤ (k : Int) := (by omega); have i1 : (k : Int) < (ks.length : Int) := j1; have i2 : (0 : Int) ≤ (K : Int) := (by omega); have i3 : (K : Int) < (rs.length : Int) := j3; go_simp; try (with_reducible rfl))
      simp only [Act.put, List.getElem_toArray, List.getElem_cons_zero, List.getElem_cons_succ, List.setIfInBounds_toArray, List.set_cons_zero, List.set_cons_succ]
      refine wpAnyH_take (i := 6) (v := ?_) rfl (by kernel_rfl) (by kernel_rfl) (by kernel_rfl) (fun _ _ _ h => h) (Or.inl ⟨by rfl, ?_⟩) (by assumption) ?_
      rotate_left
      · (intro wz hSw; have s0 := (hSw.cell (p := ⟨bk, ok + k, none⟩) hbl).trans hkc; have s1 := (hSw.cell (p := ⟨g, K * 3, none⟩) hgl).trans y0; have s2 := (hSw.cell (p := ⟨g, K * 3 + 1, none⟩) hgl).trans y1; have s3 := (hSw.cell (p := ⟨g, K * 3 + 2, none⟩) hgl).trans y2; have s4 := (hSw.cell (p := ⟨w.heap.size, 0, none⟩) hwl).trans x0; have s5 := (hSw.cell (p := ⟨w.heap.size, 1, none⟩) hwl).trans x1; have s6 := (hSw.cell (p := ⟨w.heap.size, 2, none⟩) hwl).trans x2; have i0 : (0 : Int) ≤ (k : Int) := (by omega); have i1 : (k : Int) < (ks.length : Int) := j1; have i2 : (0 : Int) ≤ (K : Int) := (by omega); have i3 : (K : Int) < (rs.length : Int) := j3; go_simp; try (with_reducible rfl))
      simp only [Act.put, List.getElem_toArray, List.getElem_cons_zero, List.getElem_cons_succ, List.setIfInBounds_toArray, List.set_cons_zero, List.set_cons_succ]
      refine wpAnyH_take (i := 7) (v := ?_) rfl (by kernel_rfl) (by kernel_rfl) (by kernel_rfl) (fun _ _ _ h => h) (Or.inl ⟨by rfl, ?_⟩) (by assumption) ?_
      rotate_left
      · (intro wz hSw; have s0 := (hSw.cell (p := ⟨bk, ok + k, none⟩) hbl).trans hkc; have s1 := (hSw.cell (p := ⟨g, K * 3, none⟩) hgl).trans y0; have s2 := (hSw.cell (p := ⟨g, K * 3 + 1, none⟩) hgl).trans y1; have s3 := (hSw.cell (p := ⟨g, K * 3 + 2, none⟩) hgl).trans y2; have s4 := (hSw.cell (p := ⟨w.heap.size, 0, none⟩) hwl).trans x0; have s5 := (hSw.cell (p := ⟨w.heap.size, 1, none⟩) hwl).trans x1; have s6 := (hSw.cell (p := ⟨w.heap.size, 2, none⟩) hwl).trans x2; have i0 : (0 : Int) ≤ (k : Int) := (by omega); have i1 : (k : Int) < (ks.length : Int) := j1; have i2 : (0 : Int) ≤ (K : Int) := (by omega); have i3 : (K : Int) < (rs.length : Int) := j3; go_simp; try (with_reducible rfl))
      simp only [Act.put, List.getElem_toArray, List.getElem_cons_zero, List.getElem_cons_succ, List.setIfInBounds_toArray, List.set_cons_zero, List.set_cons_succ]
      refine wpAnyH_ready (rs := [8]) (by kernel_rfl) (by simp) ?_
      refine AllReadyH.cons rfl (fun K hK => ?_) AllReadyH.nil
      rw [if_pos (by rfl)]
      go_wp2_with (go_at_call 60; refine (sLess_any y x _).mono ?_; rw [HOL.out]; rintro e wq ⟨rfl, hbq⟩)
      refine hK.out _ _ (hHeld.trans (hbq.mono hHeld.size)) (fun hHeld => ?_)
      clear hK K hbq
      refine wpAnyH_done (by kernel_rfl) ?_ _
      have f0 := (hHeld.cell (p := ⟨bk, ok + k, none⟩) hbl).trans hkc
      have f4 := (hHeld.cell (p := ⟨w.heap.size, 0, none⟩) hwl).trans x0
      have f5 := (hHeld.cell (p := ⟨w.heap.size, 1, none⟩) hwl).trans x1
      have f6 := (hHeld.cell (p := ⟨w.heap.size, 2, none⟩) hwl).trans x2
      have j0 : (0 : Int) ≤ (k : Int) := by omega
      have j2 : (0 : Int) ≤ (K : Int) := by omega
      have HH := Lib.hid hHeld
      cases c
      · clear f0 f4 f5 f6
        go_wp2
        go_roundg (ks.length - (k + 1))
        case rel =>
          refine ⟨k + 1, by omega, rfl, by go_num, Lib.hid ?_, Lib.hid ⟨HR.out.1.trans (HH.out.mono HR.out.1.size), (HH.out.block _ hwl).trans HR.out.2⟩⟩
          rw [HS.out, rPut_new HOL.out, ← HYY.out, set_getD]
          exact HY1.out.below HH.out (Nat.le_refl _)
        case measure => omega
      · have HYW := Lib.hid (HY1.out.below HH.out (Nat.le_refl _))
        obtain ⟨g0, g1, g2, gfz, ggl, -⟩ := HYW.out.cells (k := K) (by have := HYL.out; omega)
        have gz0 := gfz (K * 3)
        have gz1 := gfz (K * 3 + 1)
        have gz2 := gfz (K * 3 + 2)
        clear gfz
        go_wp2_with fail
        go_region
        go_wp2
        go_roundg (ks.length - (k + 1))
        case rel =>
          refine ⟨k + 1, by omega, rfl, by go_num, Lib.hid ?_, Lib.hid ⟨?_, ?_⟩⟩
          · rw [HS.out, rPut_old HOL.out]
            have hq : TrsOwn wq (w.heap.size + 1) 26 (.slice (some ⟨g, 0, none⟩) ys.length cg) ys := by rw [HYL.out]; exact HYW.out
            have := hq.set (k := K) (by have := HYL.out; omega) x
            rw [HYL.out] at this
            exact this
          · have hge : w.heap.size ≤ g := by omega
            exact ((((HR.out.1.trans (HH.out.mono HR.out.1.size)).setCell (p := ⟨g, K * 3, none⟩) hge _).setCell (p := ⟨g, K * 3 + 1, none⟩) hge _).setCell (p := ⟨g, K * 3 + 2, none⟩) hge _).drew
          · have hb3 := (((Below.refl g wq).setCell (p := ⟨g, K * 3, none⟩) (Nat.le_refl g) (Value.int IntKind.i64 x.a)).setCell (p := ⟨g, K * 3 + 1, none⟩) (Nat.le_refl g) (Value.int IntKind.i64 x.b)).setCell (p := ⟨g, K * 3 + 2, none⟩) (Nat.le_refl g) (Value.int IntKind.i64 x.c)
            exact (hb3.block w.heap.size hgw).trans ((HH.out.block _ hwl).trans HR.out.2)
        case measure => omega
    · obtain rfl : k = ks.length := by omega
      go_wp2
      go_ret
      refine ⟨_, rfl, ?_, HR.out.1⟩
      have := HY.out
      rw [List.take_length] at this
      exact this.mono (Nat.le_succ _)
end Go.Proofs.Ytkefnmmpipeppaa
