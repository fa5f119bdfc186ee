/-
  Walks: the law FnIdealSteps.
-/
import Derived.Test.YtojpfbbgpcafnaaLawN2
import Derived.Test.YtojpfbbgpcafnaaDrawK
import Derived.Test.YtojpfbbgpcafnaaSCalm
import Derived.Test.YtojpfbbgpcafnaaIRCalm
import Derived.Test.YtojpfbbgpcafnaaIRCloser
import Derived.Test.YtojpfbbgpcafnaaIRNotify
import Derived.Test.YtojpfbbgpcafnaaIRAdopt
import Derived.Test.YtojpfbbgpcafnaaIRDrop
namespace Go.Proofs.Ytojpfbbgpcafnaa
open Go.RowKit

set_option maxRecDepth 100000 in
set_option maxHeartbeats 4000000 in
theorem lawIdealSteps_any (v v2 : Value) (w : World) (h : CodeAt w v) (h2 : CodeAt w v2) :
    Calls Try.prog 5 #[v, v2] w fun e w' => e = .returned (.bool true) ∧ Below w.heap.size w w' := by
  have H := Lib.hid h
  obtain ⟨pb, n, cap, rfl, hn1, hn2, -⟩ := h
  obtain ⟨pb2, N, cap2, rfl, hm1, hm2, -⟩ := h2
  unfold maxLen at hn2 hm2
  by_cases hbig : 1048576 < n
  · go_enter Try.func5, Try.ntmps5
    go_wp2
    go_ret
    exact ⟨rfl, Below.refl _ _⟩
  have hbig' : n ≤ 1048576 := by omega
  clear hbig
  by_cases hbig : 1048576 < N
  · go_enter Try.func5, Try.ntmps5
    go_wp2
    go_ret
    exact ⟨rfl, Below.refl _ _⟩
  have hbig2' : N ≤ 1048576 := by omega
  clear hbig
  have hf0 := field0
  have hf1 := field1
  have hf2 := field2
  go_enter Try.func5, Try.ntmps5
  go_wp2_with fail
  refine (drawRingCalm_any _ _ H.out).mono ?_
  rintro e w1 ⟨u, y, rfl, hat, hsm, hb1⟩
  have HAT := Lib.hid hat
  have hz1 := hb1.size
  have hy10 := hsm.2.1
  have hy1 := hsm.1
  have hyS := Lib.hid hsm
  obtain ⟨p, cp, rfl⟩ := hat.form
  clear hsm hat
  have HLN := Lib.hid (show ∀ i, i < y.length → (y.getD i default).after.length ≤ 1048576 from fun i hi => by have := hyS.out.2.2 i hi; omega)
  cases hs : ringSafe y
  · have HRC := Lib.hid (show rCalm y = [] by unfold rCalm; rw [hs]; rfl)
    clear hs
    go_wp2_with (first | (have _ := hb4; go_at_call 16; refine (sameRing_any _ _ ([]) ([]) _ HA.out (HB.out.below hb4 (Nat.le_refl _))).mono ?_; rw [decide_eq_true rfl]; rintro e w6 ⟨rfl, hb6⟩) | (go_at_call 16; refine (sameRing_any _ _ ([]) ([]) _ HA1.out HB.out).mono ?_; rw [decide_eq_true rfl]; rintro e w4 ⟨rfl, hb4⟩; have HA := Lib.hid (HA1.out.below hb4 (Nat.le_refl _)); have hbC := (hb2.trans (hb3.mono hb2.size)).trans (hb4.mono (hb2.trans (hb3.mono hb2.size)).size); have hbD := hb1.trans (hbC.mono hz1)) | (go_at_call 20; refine (iRingCalm_any _ y _ HAT.out (by omega) HLN.out).mono ?_; rw [HRC.out]; rintro e w2 ⟨ua, rfl, hA, hb2⟩; have HA0 := Lib.hid hA.at; obtain ⟨pa, ca, ea⟩ := hA.at.form; subst ea; clear hA) | (go_at_call 21; refine (sRingCalm_any _ y _ (HAT.out.below hb2 (Nat.le_refl _))).mono ?_; rw [HRC.out]; rintro e w3 ⟨ub, rfl, hB, hb3⟩; have HB := Lib.hid hB.at; have HA1 := Lib.hid (HA0.out.below hb3 (Nat.le_refl _)); clear hB))
    go_ret
    exact ⟨rfl, hbD.trans (hb6.mono hbD.size)⟩
  have hk : N % (y.map Nd.id).length < (y.map Nd.id).length := Nat.mod_lt _ (by simp; omega)
  have hnk := nodesOk_ids (safe_valid hs)
  have h3 : 3 ≤ (y.map Nd.id).length := by simpa using safe_len hs
  have hlaw := law_ideal_steps hnk h3 hk
  have hXs := ideal_safe hnk h3
  have hXl := idealR_len (y.map Nd.id)
  have hrc : rCalm y = idealR (y.map Nd.id) := by unfold rCalm; rw [hs]; rfl
  generalize idealR (y.map Nd.id) = X at *
  rw [← hXl] at hlaw hk h3
  have HRC := Lib.hid hrc
  have HXS := Lib.hid hXs
  have e1 : (N : Int) % (X.length : Int) = ((N % X.length : Nat) : Int) := by simp
  have hX10 := (safe_shape hXs).1
  obtain ⟨i, bf, x0, x1, hn⟩ : ∃ i bf x0 x1, X.getD (N % X.length) default = ⟨i, bf, [x0, x1]⟩ := by
    have h2 := (safe_shape hXs).two hk
    exact ⟨_, _, _, _, by rw [← after2 h2]⟩
  simp only [hn] at hlaw
  have HLAW := Lib.hid (show rDropOk X i = false ∧ rCloserOk X i x0 = false ∧ rNotifyOk X x0 i = false ∧ rAdopt X i = X ∧ rStab X i = X from hlaw)
  have HN := Lib.hid hn
  have i0 : (0 : Int) ≤ ((N % X.length : Nat) : Int) := by omega
  have i1 : ((N % X.length : Nat) : Int) < (X.length : Int) := by omega
  have i4 : ((X.length : Int) == 0) = false := beq_eq_false_iff_ne.2 (by omega)
  generalize N % X.length = k at *
  clear hs hnk hXl hrc hXs hn hlaw h3
  go_wp2_with (first | (go_at_call 16; refine (sameRing_any _ _ (X) (X) _ HA1.out HB.out).mono ?_; rw [decide_eq_true rfl]; rintro e w4 ⟨rfl, hb4⟩; have HA := Lib.hid (HA1.out.below hb4 (Nat.le_refl _)); have hbC := (hb2.trans (hb3.mono hb2.size)).trans (hb4.mono (hb2.trans (hb3.mono hb2.size)).size); have hbD := hb1.trans (hbC.mono hz1)) | (go_at_call 20; refine (iRingCalm_any _ y _ HAT.out (by omega) HLN.out).mono ?_; rw [HRC.out]; rintro e w2 ⟨ua, rfl, hA, hb2⟩; have HA0 := Lib.hid hA.at; obtain ⟨pa, ca, ea⟩ := hA.at.form; subst ea; clear hA) | (go_at_call 21; refine (sRingCalm_any _ y _ (HAT.out.below hb2 (Nat.le_refl _))).mono ?_; rw [HRC.out]; rintro e w3 ⟨ub, rfl, hB, hb3⟩; have HB := Lib.hid hB.at; have HA1 := Lib.hid (HA0.out.below hb3 (Nat.le_refl _)); clear hB))
  obtain ⟨b, o, b', o', cx, rfl, -, hc1, hc2, hcx, hcx', hbl, hbl', k0, k1, k2, k3, k4⟩ := HA.out.node hk ((safe_shape HXS.out).two hk)
  rw [HN.out] at k0 k1 k3
  have k3 : w4.cell? ⟨b', o', none⟩ = some (.int .i64 x0) := k3
  clear k4
  go_wp2_with fail
  obtain ⟨W, hW⟩ : ∃ W, w4.alloc (.cells #[.int .i64 i, .int .i64 bf, .slice (some ⟨b', o', none⟩) 2 cx] 31) = W := ⟨_, rfl⟩
  have hWa := (Below.refl w4.heap.size w4).alloc (Nat.le_refl _) (.cells #[.int .i64 i, .int .i64 bf, .slice (some ⟨b', o', none⟩) 2 cx] 31)
  have p0 : W.cell? ⟨w4.heap.size, 0, none⟩ = some (.int .i64 i) := by rw [← hW]; simp
  have p2 : W.cell? ⟨w4.heap.size, 2, none⟩ = some (.slice (some ⟨b', o', none⟩) 2 cx) := by rw [← hW]; simp
  have pa' : w4.heap.size < W.heap.size := by rw [← hW]; simp
  rw [hW] at hWa
  rw [hW]
  have p3 : W.cell? ⟨b', o', none⟩ = some (.int .i64 x0) := (hWa.cell (p := ⟨b', o', none⟩) hbl').trans k3
  have pb' : b' < W.heap.size := by omega
  have HXW := Lib.hid (HA.out.below hWa (Nat.le_refl _))
  clear hW k0 k1 k2 k3
  refine (iRingDrop_any _ X i _ HXW.out).mono ?_
  rw [HLAW.out.1]
  rintro e w6 ⟨u6, rfl, -, m6⟩
  have r0 := (m6.cell (p := ⟨w4.heap.size, 0, none⟩) pa').trans p0; have r2 := (m6.cell (p := ⟨w4.heap.size, 2, none⟩) pa').trans p2; have r3 := (m6.cell (p := ⟨b', o', none⟩) pb').trans p3; have ra := Nat.lt_of_lt_of_le pa' m6.size; have rb := Nat.lt_of_lt_of_le pb' m6.size
  have HX6 := Lib.hid (HXW.out.below m6 (Nat.le_refl _))
  clear p0 p2 p3 pa' pb'
  go_wp2_with fail
  refine wp_region_held_drew (S := fun w' => Below (w6).heap.size w6 w') (by kernel_rfl) (Below.refl _ w6).drew (fun hHeld => ?_)
  refine wpAnyH_take (i := 0) (v := ?_) rfl (by kernel_rfl) (by kernel_rfl) (by kernel_rfl) (fun _ _ _ h => h) (Or.inl ⟨by rfl, ?_⟩) (by assumption) ?_
  rotate_left
  · (intro w hSw; clear hSw; go_simp; try (with_reducible rfl))
  simp only [Act.put, List.getElem_toArray, List.getElem_cons_zero, List.setIfInBounds_toArray, List.set_cons_zero, List.set_cons_succ]
  refine wpAnyH_take (i := 1) (v := ?_) rfl (by kernel_rfl) (by kernel_rfl) (by kernel_rfl) (fun _ _ _ h => h) (Or.inl ⟨by rfl, ?_⟩) (by assumption) ?_
  rotate_left
  · (intro w hSw; clear hSw; go_simp; try (with_reducible rfl))
  simp only [Act.put, List.getElem_toArray, List.getElem_cons_zero, List.getElem_cons_succ, List.setIfInBounds_toArray, List.set_cons_zero, List.set_cons_succ]
  refine wpAnyH_take (i := 2) (v := ?_) rfl (by kernel_rfl) (by kernel_rfl) (by kernel_rfl) (fun _ _ _ h => h) (Or.inl ⟨by rfl, ?_⟩) (by assumption) ?_
  rotate_left
  · (intro w hSw; have s0 := (hSw.cell (p := ⟨w4.heap.size, 0, none⟩) ra).trans r0; have s2 := (hSw.cell (p := ⟨w4.heap.size, 2, none⟩) ra).trans r2; have s3 := (hSw.cell (p := ⟨b', o', none⟩) rb).trans r3; go_simp; try (with_reducible rfl))
  simp only [Act.put, List.getElem_toArray, List.getElem_cons_zero, List.getElem_cons_succ, List.setIfInBounds_toArray, List.set_cons_zero, List.set_cons_succ]
  refine wpAnyH_take (i := 3) (v := ?_) rfl (by kernel_rfl) (by kernel_rfl) (by kernel_rfl) (fun _ _ _ h => h) (Or.inl ⟨by rfl, ?_⟩) (by assumption) ?_
  rotate_left
  · (intro w hSw; clear hSw; go_simp; try (with_reducible rfl))
  simp only [Act.put, List.getElem_toArray, List.getElem_cons_zero, List.getElem_cons_succ, List.setIfInBounds_toArray, List.set_cons_zero, List.set_cons_succ]
  refine wpAnyH_take (i := 4) (v := ?_) rfl (by kernel_rfl) (by kernel_rfl) (by kernel_rfl) (fun _ _ _ h => h) (Or.inl ⟨by rfl, ?_⟩) (by assumption) ?_
  rotate_left
  · (intro w hSw; have s0 := (hSw.cell (p := ⟨w4.heap.size, 0, none⟩) ra).trans r0; have s2 := (hSw.cell (p := ⟨w4.heap.size, 2, none⟩) ra).trans r2; have s3 := (hSw.cell (p := ⟨b', o', none⟩) rb).trans r3; go_simp; try (with_reducible rfl))
  simp only [Act.put, List.getElem_toArray, List.getElem_cons_zero, List.getElem_cons_succ, List.setIfInBounds_toArray, List.set_cons_zero, List.set_cons_succ]
  refine wpAnyH_take (i := 5) (v := ?_) rfl (by kernel_rfl) (by kernel_rfl) (by kernel_rfl) (fun _ _ _ h => h) (Or.inl ⟨by rfl, ?_⟩) (by assumption) ?_
  rotate_left
  · (intro w hSw; clear hSw; go_simp; try (with_reducible rfl))
  simp only [Act.put, List.getElem_toArray, List.getElem_cons_zero, List.getElem_cons_succ, List.setIfInBounds_toArray, List.set_cons_zero, List.set_cons_succ]
  refine wpAnyH_take (i := 6) (v := ?_) rfl (by kernel_rfl) (by kernel_rfl) (by kernel_rfl) (fun _ _ _ h => h) (Or.inl ⟨by rfl, ?_⟩) (by assumption) ?_
  rotate_left
  · (intro w hSw; have s0 := (hSw.cell (p := ⟨w4.heap.size, 0, none⟩) ra).trans r0; have s2 := (hSw.cell (p := ⟨w4.heap.size, 2, none⟩) ra).trans r2; have s3 := (hSw.cell (p := ⟨b', o', none⟩) rb).trans r3; go_simp; try (with_reducible rfl))
  simp only [Act.put, List.getElem_toArray, List.getElem_cons_zero, List.getElem_cons_succ, List.setIfInBounds_toArray, List.set_cons_zero, List.set_cons_succ]
  refine wpAnyH_ready (rs := [7]) (by kernel_rfl) (by simp) ?_
  refine AllReadyH.cons rfl (fun K hK => ?_) AllReadyH.nil
  rw [if_pos (by rfl)]
  go_wp2_with (go_at_call 23; refine (iRingCloser_any _ X i x0 _ (by exact HX6.out.below hHeld (Nat.le_refl _))).mono ?_; rw [HLAW.out.2.1]; rintro e wa ⟨u7, rfl, -, hbq⟩)
  refine hK.out _ _ (hHeld.trans (hbq.mono hHeld.size)) (fun hHeld => ?_)
  clear hK K hbq
  refine wpAnyH_take (i := 8) (v := ?_) rfl (by kernel_rfl) (by kernel_rfl) (by kernel_rfl) (fun _ _ _ h => h) (Or.inl ⟨by rfl, ?_⟩) (by assumption) ?_
  rotate_left
  · (intro w hSw; clear hSw; go_simp; try (with_reducible rfl))
  simp only [Act.put, List.getElem_toArray, List.getElem_cons_zero, List.getElem_cons_succ, List.setIfInBounds_toArray, List.set_cons_zero, List.set_cons_succ]
  refine wpAnyH_take (i := 9) (v := ?_) rfl (by kernel_rfl) (by kernel_rfl) (by kernel_rfl) (fun _ _ _ h => h) (Or.inl ⟨by rfl, ?_⟩) (by assumption) ?_
  rotate_left
  · (intro w hSw; clear hSw; go_simp; try (with_reducible rfl))
  simp only [Act.put, List.getElem_toArray, List.getElem_cons_zero, List.getElem_cons_succ, List.setIfInBounds_toArray, List.set_cons_zero, List.set_cons_succ]
  refine wpAnyH_take (i := 10) (v := ?_) rfl (by kernel_rfl) (by kernel_rfl) (by kernel_rfl) (fun _ _ _ h => h) (Or.inl ⟨by rfl, ?_⟩) (by assumption) ?_
  rotate_left
  · (intro w hSw; clear hSw; go_simp; try (with_reducible rfl))
  simp only [Act.put, List.getElem_toArray, List.getElem_cons_zero, List.getElem_cons_succ, List.setIfInBounds_toArray, List.set_cons_zero, List.set_cons_succ]
  refine wpAnyH_take (i := 11) (v := ?_) rfl (by kernel_rfl) (by kernel_rfl) (by kernel_rfl) (fun _ _ _ h => h) (Or.inl ⟨by rfl, ?_⟩) (by assumption) ?_
  rotate_left
  · (intro w hSw; clear hSw; go_simp; try (with_reducible rfl))
  simp only [Act.put, List.getElem_toArray, List.getElem_cons_zero, List.getElem_cons_succ, List.setIfInBounds_toArray, List.set_cons_zero, List.set_cons_succ]
  refine wpAnyH_take (i := 12) (v := ?_) rfl (by kernel_rfl) (by kernel_rfl) (by kernel_rfl) (fun _ _ _ h => h) (Or.inl ⟨by rfl, ?_⟩) (by assumption) ?_
  rotate_left
  · (intro w hSw; clear hSw; go_simp; try (with_reducible rfl))
  simp only [Act.put, List.getElem_toArray, List.getElem_cons_zero, List.getElem_cons_succ, List.setIfInBounds_toArray, List.set_cons_zero, List.set_cons_succ]
  refine wpAnyH_done (by kernel_rfl) ?_ _
  have m7 := hHeld
  have t0 := (m7.cell (p := ⟨w4.heap.size, 0, none⟩) ra).trans r0; have t2 := (m7.cell (p := ⟨w4.heap.size, 2, none⟩) ra).trans r2; have t3 := (m7.cell (p := ⟨b', o', none⟩) rb).trans r3; have ta := Nat.lt_of_lt_of_le ra m7.size; have tb := Nat.lt_of_lt_of_le rb m7.size
  have HX7 := Lib.hid (HX6.out.below m7 (Nat.le_refl _))
  clear r0 r2 r3 ra rb
  go_wp2_with fail
  refine wp_region_held_drew (S := fun w' => Below (wa).heap.size wa w') (by kernel_rfl) (Below.refl _ wa).drew (fun hHeld => ?_)
  refine wpAnyH_take (i := 0) (v := ?_) rfl (by kernel_rfl) (by kernel_rfl) (by kernel_rfl) (fun _ _ _ h => h) (Or.inl ⟨by rfl, ?_⟩) (by assumption) ?_
  rotate_left
  · (intro w hSw; clear hSw; go_simp; try (with_reducible rfl))
  simp only [Act.put, List.getElem_toArray, List.getElem_cons_zero, List.setIfInBounds_toArray, List.set_cons_zero, List.set_cons_succ]
  refine wpAnyH_take (i := 1) (v := ?_) rfl (by kernel_rfl) (by kernel_rfl) (by kernel_rfl) (fun _ _ _ h => h) (Or.inl ⟨by rfl, ?_⟩) (by assumption) ?_
  rotate_left
  · (intro w hSw; clear hSw; go_simp; try (with_reducible rfl))
  simp only [Act.put, List.getElem_toArray, List.getElem_cons_zero, List.getElem_cons_succ, List.setIfInBounds_toArray, List.set_cons_zero, List.set_cons_succ]
  refine wpAnyH_take (i := 2) (v := ?_) rfl (by kernel_rfl) (by kernel_rfl) (by kernel_rfl) (fun _ _ _ h => h) (Or.inl ⟨by rfl, ?_⟩) (by assumption) ?_
  rotate_left
  · (intro w hSw; have s0 := (hSw.cell (p := ⟨w4.heap.size, 0, none⟩) ta).trans t0; have s2 := (hSw.cell (p := ⟨w4.heap.size, 2, none⟩) ta).trans t2; have s3 := (hSw.cell (p := ⟨b', o', none⟩) tb).trans t3; go_simp; try (with_reducible rfl))
  simp only [Act.put, List.getElem_toArray, List.getElem_cons_zero, List.getElem_cons_succ, List.setIfInBounds_toArray, List.set_cons_zero, List.set_cons_succ]
  refine wpAnyH_take (i := 3) (v := ?_) rfl (by kernel_rfl) (by kernel_rfl) (by kernel_rfl) (fun _ _ _ h => h) (Or.inl ⟨by rfl, ?_⟩) (by assumption) ?_
  rotate_left
  · (intro w hSw; clear hSw; go_simp; try (with_reducible rfl))
  simp only [Act.put, List.getElem_toArray, List.getElem_cons_zero, List.getElem_cons_succ, List.setIfInBounds_toArray, List.set_cons_zero, List.set_cons_succ]
  refine wpAnyH_take (i := 4) (v := ?_) rfl (by kernel_rfl) (by kernel_rfl) (by kernel_rfl) (fun _ _ _ h => h) (Or.inl ⟨by rfl, ?_⟩) (by assumption) ?_
  rotate_left
  · (intro w hSw; have s0 := (hSw.cell (p := ⟨w4.heap.size, 0, none⟩) ta).trans t0; have s2 := (hSw.cell (p := ⟨w4.heap.size, 2, none⟩) ta).trans t2; have s3 := (hSw.cell (p := ⟨b', o', none⟩) tb).trans t3; go_simp; try (with_reducible rfl))
  simp only [Act.put, List.getElem_toArray, List.getElem_cons_zero, List.getElem_cons_succ, List.setIfInBounds_toArray, List.set_cons_zero, List.set_cons_succ]
  refine wpAnyH_take (i := 5) (v := ?_) rfl (by kernel_rfl) (by kernel_rfl) (by kernel_rfl) (fun _ _ _ h => h) (Or.inl ⟨by rfl, ?_⟩) (by assumption) ?_
  rotate_left
  · (intro w hSw; clear hSw; go_simp; try (with_reducible rfl))
  simp only [Act.put, List.getElem_toArray, List.getElem_cons_zero, List.getElem_cons_succ, List.setIfInBounds_toArray, List.set_cons_zero, List.set_cons_succ]
  refine wpAnyH_take (i := 6) (v := ?_) rfl (by kernel_rfl) (by kernel_rfl) (by kernel_rfl) (fun _ _ _ h => h) (Or.inl ⟨by rfl, ?_⟩) (by assumption) ?_
  rotate_left
  · (intro w hSw; have s0 := (hSw.cell (p := ⟨w4.heap.size, 0, none⟩) ta).trans t0; have s2 := (hSw.cell (p := ⟨w4.heap.size, 2, none⟩) ta).trans t2; have s3 := (hSw.cell (p := ⟨b', o', none⟩) tb).trans t3; go_simp; try (with_reducible rfl))
  simp only [Act.put, List.getElem_toArray, List.getElem_cons_zero, List.getElem_cons_succ, List.setIfInBounds_toArray, List.set_cons_zero, List.set_cons_succ]
  refine wpAnyH_ready (rs := [7]) (by kernel_rfl) (by simp) ?_
  refine AllReadyH.cons rfl (fun K hK => ?_) AllReadyH.nil
  rw [if_pos (by rfl)]
  go_wp2_with (go_at_call 24; refine (iRingNotify_any _ X x0 i _ (by exact HX7.out.below hHeld (Nat.le_refl _))).mono ?_; rw [HLAW.out.2.2.1]; rintro e wb ⟨u8, rfl, -, hbq⟩)
  refine hK.out _ _ (hHeld.trans (hbq.mono hHeld.size)) (fun hHeld => ?_)
  clear hK K hbq
  refine wpAnyH_take (i := 8) (v := ?_) rfl (by kernel_rfl) (by kernel_rfl) (by kernel_rfl) (fun _ _ _ h => h) (Or.inl ⟨by rfl, ?_⟩) (by assumption) ?_
  rotate_left
  · (intro w hSw; clear hSw; go_simp; try (with_reducible rfl))
  simp only [Act.put, List.getElem_toArray, List.getElem_cons_zero, List.getElem_cons_succ, List.setIfInBounds_toArray, List.set_cons_zero, List.set_cons_succ]
  refine wpAnyH_take (i := 9) (v := ?_) rfl (by kernel_rfl) (by kernel_rfl) (by kernel_rfl) (fun _ _ _ h => h) (Or.inl ⟨by rfl, ?_⟩) (by assumption) ?_
  rotate_left
  · (intro w hSw; clear hSw; go_simp; try (with_reducible rfl))
  simp only [Act.put, List.getElem_toArray, List.getElem_cons_zero, List.getElem_cons_succ, List.setIfInBounds_toArray, List.set_cons_zero, List.set_cons_succ]
  refine wpAnyH_take (i := 10) (v := ?_) rfl (by kernel_rfl) (by kernel_rfl) (by kernel_rfl) (fun _ _ _ h => h) (Or.inl ⟨by rfl, ?_⟩) (by assumption) ?_
  rotate_left
  · (intro w hSw; clear hSw; go_simp; try (with_reducible rfl))
  simp only [Act.put, List.getElem_toArray, List.getElem_cons_zero, List.getElem_cons_succ, List.setIfInBounds_toArray, List.set_cons_zero, List.set_cons_succ]
  refine wpAnyH_take (i := 11) (v := ?_) rfl (by kernel_rfl) (by kernel_rfl) (by kernel_rfl) (fun _ _ _ h => h) (Or.inl ⟨by rfl, ?_⟩) (by assumption) ?_
  rotate_left
  · (intro w hSw; clear hSw; go_simp; try (with_reducible rfl))
  simp only [Act.put, List.getElem_toArray, List.getElem_cons_zero, List.getElem_cons_succ, List.setIfInBounds_toArray, List.set_cons_zero, List.set_cons_succ]
  refine wpAnyH_take (i := 12) (v := ?_) rfl (by kernel_rfl) (by kernel_rfl) (by kernel_rfl) (fun _ _ _ h => h) (Or.inl ⟨by rfl, ?_⟩) (by assumption) ?_
  rotate_left
  · (intro w hSw; clear hSw; go_simp; try (with_reducible rfl))
  simp only [Act.put, List.getElem_toArray, List.getElem_cons_zero, List.getElem_cons_succ, List.setIfInBounds_toArray, List.set_cons_zero, List.set_cons_succ]
  refine wpAnyH_done (by kernel_rfl) ?_ _
  have m8 := hHeld
  have z0 := (m8.cell (p := ⟨w4.heap.size, 0, none⟩) ta).trans t0; have z2 := (m8.cell (p := ⟨w4.heap.size, 2, none⟩) ta).trans t2; have z3 := (m8.cell (p := ⟨b', o', none⟩) tb).trans t3; have za := Nat.lt_of_lt_of_le ta m8.size; have zb := Nat.lt_of_lt_of_le tb m8.size
  have HX8 := Lib.hid (HX7.out.below m8 (Nat.le_refl _))
  clear t0 t2 t3 ta tb
  go_wp2_with fail
  refine (iRingAdopt_any _ X i _ HX8.out).mono ?_
  rw [HLAW.out.2.2.2.1]
  rintro e w9 ⟨u9, rfl, hA9, m9⟩
  have q0 := (m9.cell (p := ⟨w4.heap.size, 0, none⟩) za).trans z0; have q2 := (m9.cell (p := ⟨w4.heap.size, 2, none⟩) za).trans z2; have q3 := (m9.cell (p := ⟨b', o', none⟩) zb).trans z3; have qa := Nat.lt_of_lt_of_le za m9.size; have qb := Nat.lt_of_lt_of_le zb m9.size
  have H9 := Lib.hid hA9.at
  have HX9 := Lib.hid (HX8.out.below m9 (Nat.le_refl _))
  clear z0 z2 z3 za zb hA9
  go_wp2_with fail
  refine (iRingStabilize_any _ X i _ HX9.out).mono ?_
  rw [HLAW.out.2.2.2.2]
  rintro e w10 ⟨u10, rfl, hA10, m10⟩
  have H10 := Lib.hid hA10.at
  have HX10 := Lib.hid (HX9.out.below m10 (Nat.le_refl _))
  have H9' := Lib.hid (H9.out.below m10 (Nat.le_refl _))
  clear q0 q2 q3 qa qb hA10
  go_wp2_with (first | (have _ := m11; go_at_call 16; refine (sameRing_any _ _ X X _ (H10.out.below m11 (Nat.le_refl _)) (HX10.out.below m11 (Nat.le_refl _))).mono ?_; rw [decide_eq_true rfl]; rintro e w12 ⟨rfl, m12⟩) | (go_at_call 16; refine (sameRing_any _ _ X X _ H9'.out HX10.out).mono ?_; rw [decide_eq_true rfl]; rintro e w11 ⟨rfl, m11⟩))
  go_ret
  exact ⟨rfl, hbD.trans ((hWa.trans ((m6.trans ((m7.trans ((m8.trans ((m9.trans ((m10.trans ((m11.trans (m12.mono m11.size)).mono m10.size)).mono m9.size)).mono m8.size)).mono m7.size)).mono m6.size)).mono hWa.size)).mono hbD.size)⟩

end Go.Proofs.Ytojpfbbgpcafnaa
