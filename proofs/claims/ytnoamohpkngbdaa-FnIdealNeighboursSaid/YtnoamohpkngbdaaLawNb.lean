/-
  Walks: the law FnIdealNeighbours.
-/
import Derived.Test.YtnoamohpkngbdaaLawId
import Derived.Test.YtnoamohpkngbdaaIRIds
import Derived.Test.YtnoamohpkngbdaaINx
import Derived.Test.YtnoamohpkngbdaaLawN2
namespace Go.Proofs.Ytnoamohpkngbdaa
open Go.RowKit

theorem befFrom_up {L : List Int} (h : nodesOk L) {k : Nat} (hk : k < L.length) : ∀ j, k ≤ j → j ≤ L.length → befFrom L (L.getD k 0) j = befFrom L (L.getD k 0) k
  | 0, h0, _ => by
    have e : k = 0 := by omega
    subst e; rfl
  | j + 1, h0, h1 => by
    by_cases e : k = j + 1
    · rw [e]
    · have hle : ¬ L.getD j 0 < L.getD k 0 := by
        by_cases e2 : k = j
        · rw [e2]; omega
        · have := h.2.2 k j (by omega) (by omega); omega
      show (if L.getD j 0 < L.getD k 0 then L.getD j 0 else befFrom L (L.getD k 0) j) = _
      rw [if_neg hle]
      exact befFrom_up h hk j (by omega) (by omega)
theorem ideal_bef {L : List Int} (h : nodesOk L) {k : Nat} (hk : k < L.length) : befFrom L (L.getD k 0) L.length = L.getD ((k + L.length - 1) % L.length) 0 := by
  rw [befFrom_up h hk L.length (by omega) (Nat.le_refl _)]
  match k, hk with
  | 0, hk => rw [show (0 + L.length - 1) % L.length = L.length - 1 by rw [Nat.zero_add]; exact Nat.mod_eq_of_lt (by omega)]; rfl
  | j + 1, hk =>
    have hlt := h.2.2 j (j + 1) (by omega) hk
    show (if L.getD j 0 < L.getD (j + 1) 0 then L.getD j 0 else _) = _
    rw [if_pos hlt, show (j + 1 + L.length - 1) % L.length = j by rw [show j + 1 + L.length - 1 = j + L.length by omega, Nat.add_mod_right]; exact Nat.mod_eq_of_lt (by omega)]
theorem ideal_nxt {L : List Int} (h : nodesOk L) {k : Nat} (hk : k < L.length) : nextV L ((L.getD k 0 + 1) % 64) = L.getD ((k + 1) % L.length) 0 := by
  have hok := okP_def.1 (h.2.1 k hk)
  unfold nextV
  by_cases h63 : L.getD k 0 = 63
  · have hkl : k = L.length - 1 := by
      by_cases e : k = L.length - 1
      · exact e
      · have h1 := h.2.2 k (k + 1) (by omega) (by omega)
        have h2 := okP_def.1 (h.2.1 (k + 1) (by omega))
        omega
    rw [h63, show (k + 1) % L.length = 0 by rw [hkl, show L.length - 1 + 1 = L.length by omega]; exact Nat.mod_self _]
    rw [idx_hit (d := 0) (k := 0) (by omega) (by have := okP_def.1 (h.2.1 0 (by omega)); simp at this ⊢; omega) (fun j hj => by omega)]
    rfl
  · rw [Int.emod_eq_of_lt (by omega) (by omega)]
    by_cases e : k + 1 < L.length
    · rw [Nat.mod_eq_of_lt e]
      rw [idx_hit (d := 0) (k := k + 1) e (by have := h.2.2 k (k + 1) (by omega) e; rw [decide_eq_true_eq]; omega) (fun j hj => by
        rw [decide_eq_false_iff_not]
        by_cases e2 : j = k
        · rw [e2]; omega
        · have := h.2.2 j k (by omega) hk; omega)]
      rfl
    · rw [show (k + 1) % L.length = 0 by rw [show k + 1 = L.length by omega]; exact Nat.mod_self _]
      rw [idx_miss (d := 0) (fun j hj => by
        rw [decide_eq_false_iff_not]
        by_cases e2 : j = k
        · rw [e2]; omega
        · have := h.2.2 j k (by omega) hk; omega)]
      rfl
theorem ideal_neighbours {r : List Nd} (h : rIdeal r = true) {k : Nat} (hk : k < r.length) : befFrom (r.map Nd.id) (r.getD k default).id (r.map Nd.id).length = (r.getD k default).before ∧ nextV (r.map Nd.id) (((r.getD k default).id + 1) % 64) = a0 (r.getD k default) := by
  obtain ⟨h1, -, h3, -, -⟩ := rIdeal_open h
  have hn := nodesOk_ids h1
  have hk' : k < (r.map Nd.id).length := by simpa using hk
  have e : r.getD k default = idealN (r.map Nd.id) k := by
    have := idealR_at hk'
    rw [← h3] at this
    exact this
  have hid : (r.getD k default).id = (r.map Nd.id).getD k 0 := (ids_at_getD hk).symm
  refine ⟨?_, ?_⟩
  · rw [hid, ideal_bef hn hk', e]; rfl
  · rw [hid, ideal_nxt hn hk', e]; rfl
theorem nd_ids {r : List Nd} (h : rIdeal r = true) : ndB (r.map Nd.id) = true := by
  obtain ⟨h1, h2, -⟩ := rIdeal_open h
  exact ndB_iff.2 ⟨by simp; omega, nodesOk_ids h1⟩

set_option maxHeartbeats 2000000 in
theorem lawIdealNeighbours_any (v : Value) (w : World) (h : CodeAt w v) :
    Calls Try.prog 13 #[v] w fun e w' => e = .returned (.bool true) ∧ Below w.heap.size w w' := by
  have H := Lib.hid h
  obtain ⟨pb, n, cap, rfl, hn1, hn2, -⟩ := h
  unfold maxLen at hn2
  by_cases hbig : 1048576 < n
  · go_enter Try.func13, Try.ntmps13
    go_wp2
    go_ret
    exact ⟨rfl, Below.refl _ _⟩
  have hbig' : n ≤ 1048576 := by omega
  clear hbig
  go_enter Try.func13, Try.ntmps13
  go_wp2_with fail
  refine (drawRingIdeal_any _ _ H.out).mono ?_
  rintro e w1 ⟨u, y, rfl, hat, hsm, hb1⟩
  have HAT := Lib.hid hat
  have hz1 := hb1.size
  have hy10 := hsm.2.1
  have hy1 := hsm.1
  obtain ⟨p, cp, rfl⟩ := hat.form
  clear hsm hat
  cases hk : rIdeal y
  · have HK := Lib.hid hk
    clear hk
    go_wp2_with (first | (go_at_call 19; refine (iRingIdeal_any _ y _ HAT.out).mono ?_; rw [HK.out]; rintro e w2 ⟨rfl, hb2⟩) | (go_at_call 37; refine (sRingIdeal_any _ y _ (HAT.out.below hb2 (Nat.le_refl _))).mono ?_; rw [HK.out]; rintro e w3 ⟨rfl, hb3⟩; have hbC := hb2.trans (hb3.mono hb2.size); have HC := Lib.hid (HAT.out.below hbC (Nat.le_refl _)); have hbD := hb1.trans (hbC.mono hz1)))
    go_ret
    exact ⟨rfl, hbD⟩
  have HK := Lib.hid hk
  have hvv := (rIdeal_open hk).1
  have HV := Lib.hid hvv
  have HI := Lib.hid (show rIds y = y.map Nd.id by unfold rIds; rw [hvv]; rfl)
  have HND := Lib.hid (nd_ids hk)
  clear hk hvv
  go_wp2_with (first | (go_at_call 19; refine (iRingIdeal_any _ y _ HAT.out).mono ?_; rw [HK.out]; rintro e w2 ⟨rfl, hb2⟩) | (go_at_call 37; refine (sRingIdeal_any _ y _ (HAT.out.below hb2 (Nat.le_refl _))).mono ?_; rw [HK.out]; rintro e w3 ⟨rfl, hb3⟩; have hbC := hb2.trans (hb3.mono hb2.size); have HC := Lib.hid (HAT.out.below hbC (Nat.le_refl _)); have hbD := hb1.trans (hbC.mono hz1)) | (go_at_call 22; refine (iRingIds_any _ y _ HC.out).mono ?_; rw [HI.out]; rintro e w4 ⟨u4, rfl, hI4, hb4⟩; have H4 := Lib.hid hI4; clear hI4; have HC4 := Lib.hid (HC.out.below hb4 (Nat.le_refl _)); have hbE := hbD.trans (hb4.mono hbD.size)))
  go_loopg [2, 7] y.length (fun m _ i wr => ∃ k : Nat, k ≤ y.length ∧ m = y.length - k ∧ i = .int .i64 k ∧ Below w4.heap.size w4 wr)
  case atStart => exact ⟨0, Nat.zero_le _, rfl, rfl, Below.refl _ _⟩
  case round =>
    obtain ⟨k, hk, rfl, rfl, hwr⟩ := hrel
    have HW := Lib.hid hwr
    have HIo := Lib.hid (H4.out.below hwr (Nat.le_refl _))
    by_cases hlt : k < y.length
    · obtain ⟨b, o, b', o', ca', rfl, -, hc1, hc2, hca, hca', hbl, hbl', k0, k1, k2, k3, k4⟩ := (HC4.out.below hwr (Nat.le_refl _)).node hlt ((shape_valid HV.out).2 k hlt).1
      obtain ⟨n1, n2⟩ := ideal_neighbours HK.out hlt
      have hidk := (valid_node HV.out (getD_mem hlt)).1
      obtain ⟨i, hi⟩ : ∃ x, (y.getD k default).id = x := ⟨_, rfl⟩
      obtain ⟨bf, hbf⟩ : ∃ x, (y.getD k default).before = x := ⟨_, rfl⟩
      obtain ⟨x0, hx0⟩ : ∃ x, a0 (y.getD k default) = x := ⟨_, rfl⟩
      rw [hi] at k0 n1 n2 hidk
      rw [hbf] at k1 n1
      rw [hx0] at k3 n2
      have N1 := Lib.hid n1
      have N2 := Lib.hid n2
      obtain ⟨hi0, hi1⟩ := okP_def.1 hidk
      have HOK := Lib.hid hidk
      have HOK2 := Lib.hid (show okP ((i + 1) % 64) = true from next_ok)
      have hw1 : IntKind.i64.wrap (i + 1) = i + 1 := IntWalk.i64_in _ (by omega)
      have hw2 : (i + 1).tmod 64 = (i + 1) % 64 := Int.tmod_eq_emod_of_nonneg (by omega)
      have i0 : (0 : Int) ≤ (k : Int) := by omega
      have i1 : (k : Int) < (y.length : Int) := by omega
      clear k4 hi hbf hx0 n1 n2 hidk hwr
      go_wp2_with fail
      refine wp_region_held_drew (S := fun w' => Below (wr).heap.size wr w') (by kernel_rfl) (Below.refl _ wr).drew (fun hHeld => ?_)
      refine wpAnyH_take (i := 0) (v := ?_) rfl (by kernel_rfl) (by kernel_rfl) (by kernel_rfl) (fun _ _ _ h => h) (Or.inl ⟨by rfl, ?_⟩) (by assumption) ?_
      rotate_left
      · (intro w hSw; clear hSw; go_simp; try (with_reducible rfl))
      simp only [Act.put, List.getElem_toArray, List.getElem_cons_zero, List.setIfInBounds_toArray, List.set_cons_zero, List.set_cons_succ]
      refine wpAnyH_take (i := 1) (v := ?_) rfl (by kernel_rfl) (by kernel_rfl) (by kernel_rfl) (fun _ _ _ h => h) (Or.inl ⟨by rfl, ?_⟩) (by assumption) ?_
      rotate_left
      · (intro w hSw; clear hSw; go_simp; try (with_reducible rfl))
      simp only [Act.put, List.getElem_toArray, List.getElem_cons_zero, List.getElem_cons_succ, List.setIfInBounds_toArray, List.set_cons_zero, List.set_cons_succ]
      refine wpAnyH_take (i := 2) (v := ?_) rfl (by kernel_rfl) (by kernel_rfl) (by kernel_rfl) (fun _ _ _ h => h) (Or.inl ⟨by rfl, ?_⟩) (by assumption) ?_
      rotate_left
      · (intro w hSw; clear hSw; go_simp; try (with_reducible rfl))
      simp only [Act.put, List.getElem_toArray, List.getElem_cons_zero, List.getElem_cons_succ, List.setIfInBounds_toArray, List.set_cons_zero, List.set_cons_succ]
      refine wpAnyH_take (i := 3) (v := ?_) rfl (by kernel_rfl) (by kernel_rfl) (by kernel_rfl) (fun _ _ _ h => h) (Or.inl ⟨by rfl, ?_⟩) (by assumption) ?_
      rotate_left
      · (intro w hSw; clear hSw; go_simp; try (with_reducible rfl))
      simp only [Act.put, List.getElem_toArray, List.getElem_cons_zero, List.getElem_cons_succ, List.setIfInBounds_toArray, List.set_cons_zero, List.set_cons_succ]
      refine wpAnyH_take (i := 4) (v := ?_) rfl (by kernel_rfl) (by kernel_rfl) (by kernel_rfl) (fun _ _ _ h => h) (Or.inl ⟨by rfl, ?_⟩) (by assumption) ?_
      rotate_left
      · (intro w hSw; have s0 := (hSw.cell (p := ⟨b, o + k * 3, none⟩) hbl).trans k0; have s1 := (hSw.cell (p := ⟨b, o + k * 3 + 1, none⟩) hbl).trans k1; have s2 := (hSw.cell (p := ⟨b, o + k * 3 + 2, none⟩) hbl).trans k2; have s3 := (hSw.cell (p := ⟨b', o', none⟩) hbl').trans k3; go_simp; try (with_reducible rfl))
      simp only [Act.put, List.getElem_toArray, List.getElem_cons_zero, List.getElem_cons_succ, List.setIfInBounds_toArray, List.set_cons_zero, List.set_cons_succ]
      refine wpAnyH_take (i := 5) (v := ?_) rfl (by kernel_rfl) (by kernel_rfl) (by kernel_rfl) (fun _ _ _ h => h) (Or.inl ⟨by rfl, ?_⟩) (by assumption) ?_
      rotate_left
      · (intro w hSw; clear hSw; go_simp; try (with_reducible rfl))
      simp only [Act.put, List.getElem_toArray, List.getElem_cons_zero, List.getElem_cons_succ, List.setIfInBounds_toArray, List.set_cons_zero, List.set_cons_succ]
      refine wpAnyH_take (i := 6) (v := ?_) rfl (by kernel_rfl) (by kernel_rfl) (by kernel_rfl) (fun _ _ _ h => h) (Or.inl ⟨by rfl, ?_⟩) (by assumption) ?_
      rotate_left
      · (intro w hSw; clear hSw; go_simp; try (with_reducible rfl))
      simp only [Act.put, List.getElem_toArray, List.getElem_cons_zero, List.getElem_cons_succ, List.setIfInBounds_toArray, List.set_cons_zero, List.set_cons_succ]
      refine wpAnyH_take (i := 7) (v := ?_) rfl (by kernel_rfl) (by kernel_rfl) (by kernel_rfl) (fun _ _ _ h => h) (Or.inl ⟨by rfl, ?_⟩) (by assumption) ?_
      rotate_left
      · (intro w hSw; clear hSw; go_simp; try (with_reducible rfl))
      simp only [Act.put, List.getElem_toArray, List.getElem_cons_zero, List.getElem_cons_succ, List.setIfInBounds_toArray, List.set_cons_zero, List.set_cons_succ]
      refine wpAnyH_take (i := 8) (v := ?_) rfl (by kernel_rfl) (by kernel_rfl) (by kernel_rfl) (fun _ _ _ h => h) (Or.inl ⟨by rfl, ?_⟩) (by assumption) ?_
      rotate_left
      · (intro w hSw; clear hSw; go_simp; try (with_reducible rfl))
      simp only [Act.put, List.getElem_toArray, List.getElem_cons_zero, List.getElem_cons_succ, List.setIfInBounds_toArray, List.set_cons_zero, List.set_cons_succ]
      refine wpAnyH_take (i := 9) (v := ?_) rfl (by kernel_rfl) (by kernel_rfl) (by kernel_rfl) (fun _ _ _ h => h) (Or.inl ⟨by rfl, ?_⟩) (by assumption) ?_
      rotate_left
      · (intro w hSw; clear hSw; go_simp; try (with_reducible rfl))
      simp only [Act.put, List.getElem_toArray, List.getElem_cons_zero, List.getElem_cons_succ, List.setIfInBounds_toArray, List.set_cons_zero, List.set_cons_succ]
      refine wpAnyH_take (i := 10) (v := ?_) rfl (by kernel_rfl) (by kernel_rfl) (by kernel_rfl) (fun _ _ _ h => h) (Or.inl ⟨by rfl, ?_⟩) (by assumption) ?_
      rotate_left
      · (intro w hSw; have s0 := (hSw.cell (p := ⟨b, o + k * 3, none⟩) hbl).trans k0; have s1 := (hSw.cell (p := ⟨b, o + k * 3 + 1, none⟩) hbl).trans k1; have s2 := (hSw.cell (p := ⟨b, o + k * 3 + 2, none⟩) hbl).trans k2; have s3 := (hSw.cell (p := ⟨b', o', none⟩) hbl').trans k3; go_simp; try (with_reducible rfl))
      simp only [Act.put, List.getElem_toArray, List.getElem_cons_zero, List.getElem_cons_succ, List.setIfInBounds_toArray, List.set_cons_zero, List.set_cons_succ]
      refine wpAnyH_ready (rs := [11]) (by kernel_rfl) (by simp) ?_
      refine AllReadyH.cons rfl (fun K hK => ?_) AllReadyH.nil
      rw [if_pos (by rfl)]
      go_wp2_with (go_at_call 38; refine (iNodesBefore_any _ (y.map Nd.id) i _ (by exact HIo.out.below hHeld (Nat.le_refl _)) HND.out HOK.out).mono ?_; rw [N1.out]; rintro e wq ⟨rfl, hbq⟩)
      refine hK.out _ _ (hHeld.trans (hbq.mono hHeld.size)) (fun hHeld => ?_)
      clear hK K hbq
      refine wpAnyH_take (i := 12) (v := ?_) rfl (by kernel_rfl) (by kernel_rfl) (by kernel_rfl) (fun _ _ _ h => h) (Or.inl ⟨by rfl, ?_⟩) (by assumption) ?_
      rotate_left
      · (intro w hSw; clear hSw; go_simp; try (with_reducible rfl))
      simp only [Act.put, List.getElem_toArray, List.getElem_cons_zero, List.getElem_cons_succ, List.setIfInBounds_toArray, List.set_cons_zero, List.set_cons_succ]
      refine wpAnyH_take (i := 13) (v := ?_) rfl (by kernel_rfl) (by kernel_rfl) (by kernel_rfl) (fun _ _ _ h => h) (Or.inl ⟨by rfl, ?_⟩) (by assumption) ?_
      rotate_left
      · (intro w hSw; clear hSw; go_simp; try (with_reducible rfl))
      simp only [Act.put, List.getElem_toArray, List.getElem_cons_zero, List.getElem_cons_succ, List.setIfInBounds_toArray, List.set_cons_zero, List.set_cons_succ]
      refine wpAnyH_take (i := 14) (v := ?_) rfl (by kernel_rfl) (by kernel_rfl) (by kernel_rfl) (fun _ _ _ h => h) (Or.inl ⟨by rfl, ?_⟩) (by assumption) ?_
      rotate_left
      · (intro w hSw; clear hSw; go_simp; try (with_reducible rfl))
      simp only [Act.put, List.getElem_toArray, List.getElem_cons_zero, List.getElem_cons_succ, List.setIfInBounds_toArray, List.set_cons_zero, List.set_cons_succ]
      refine wpAnyH_take (i := 15) (v := ?_) rfl (by kernel_rfl) (by kernel_rfl) (by kernel_rfl) (fun _ _ _ h => h) (Or.inl ⟨by rfl, ?_⟩) (by assumption) ?_
      rotate_left
      · (intro w hSw; clear hSw; go_simp; try (with_reducible rfl))
      simp only [Act.put, List.getElem_toArray, List.getElem_cons_zero, List.getElem_cons_succ, List.setIfInBounds_toArray, List.set_cons_zero, List.set_cons_succ]
      refine wpAnyH_take (i := 16) (v := ?_) rfl (by kernel_rfl) (by kernel_rfl) (by kernel_rfl) (fun _ _ _ h => h) (Or.inl ⟨by rfl, ?_⟩) (by assumption) ?_
      rotate_left
      · (intro w hSw; clear hSw; go_simp; try (with_reducible rfl))
      simp only [Act.put, List.getElem_toArray, List.getElem_cons_zero, List.getElem_cons_succ, List.setIfInBounds_toArray, List.set_cons_zero, List.set_cons_succ]
      refine wpAnyH_take (i := 17) (v := ?_) rfl (by kernel_rfl) (by kernel_rfl) (by kernel_rfl) (fun _ _ _ h => h) (Or.inl ⟨by rfl, ?_⟩) (by assumption) ?_
      rotate_left
      · (intro w hSw; clear hSw; go_simp; try (with_reducible rfl))
      simp only [Act.put, List.getElem_toArray, List.getElem_cons_zero, List.getElem_cons_succ, List.setIfInBounds_toArray, List.set_cons_zero, List.set_cons_succ]
      refine wpAnyH_take (i := 18) (v := ?_) rfl (by kernel_rfl) (by kernel_rfl) (by kernel_rfl) (fun _ _ _ h => h) (Or.inl ⟨by rfl, ?_⟩) (by assumption) ?_
      rotate_left
      · (intro w hSw; have s0 := (hSw.cell (p := ⟨b, o + k * 3, none⟩) hbl).trans k0; have s1 := (hSw.cell (p := ⟨b, o + k * 3 + 1, none⟩) hbl).trans k1; have s2 := (hSw.cell (p := ⟨b, o + k * 3 + 2, none⟩) hbl).trans k2; have s3 := (hSw.cell (p := ⟨b', o', none⟩) hbl').trans k3; go_simp; try (with_reducible rfl))
      simp only [Act.put, List.getElem_toArray, List.getElem_cons_zero, List.getElem_cons_succ, List.setIfInBounds_toArray, List.set_cons_zero, List.set_cons_succ]
      refine wpAnyH_take (i := 19) (v := ?_) rfl (by kernel_rfl) (by kernel_rfl) (by kernel_rfl) (fun _ _ _ h => h) (Or.inl ⟨by rfl, ?_⟩) (by assumption) ?_
      rotate_left
      · (intro w hSw; clear hSw; go_simp; try (with_reducible rfl))
      simp only [Act.put, List.getElem_toArray, List.getElem_cons_zero, List.getElem_cons_succ, List.setIfInBounds_toArray, List.set_cons_zero, List.set_cons_succ]
      refine wpAnyH_take (i := 20) (v := ?_) rfl (by kernel_rfl) (by kernel_rfl) (by kernel_rfl) (fun _ _ _ h => h) (Or.inl ⟨by rfl, ?_⟩) (by assumption) ?_
      rotate_left
      · (intro w hSw; have s0 := (hSw.cell (p := ⟨b, o + k * 3, none⟩) hbl).trans k0; have s1 := (hSw.cell (p := ⟨b, o + k * 3 + 1, none⟩) hbl).trans k1; have s2 := (hSw.cell (p := ⟨b, o + k * 3 + 2, none⟩) hbl).trans k2; have s3 := (hSw.cell (p := ⟨b', o', none⟩) hbl').trans k3; go_simp; try (with_reducible rfl))
      simp only [Act.put, List.getElem_toArray, List.getElem_cons_zero, List.getElem_cons_succ, List.setIfInBounds_toArray, List.set_cons_zero, List.set_cons_succ]
      refine wpAnyH_take (i := 21) (v := ?_) rfl (by kernel_rfl) (by kernel_rfl) (by kernel_rfl) (fun _ _ _ h => h) (Or.inl ⟨by rfl, ?_⟩) (by assumption) ?_
      rotate_left
      · (intro w hSw; clear hSw; go_simp; try (with_reducible rfl))
      simp only [Act.put, List.getElem_toArray, List.getElem_cons_zero, List.getElem_cons_succ, List.setIfInBounds_toArray, List.set_cons_zero, List.set_cons_succ]
      refine wpAnyH_take (i := 22) (v := ?_) rfl (by kernel_rfl) (by kernel_rfl) (by kernel_rfl) (fun _ _ _ h => h) (Or.inl ⟨by rfl, ?_⟩) (by assumption) ?_
      rotate_left
      · (intro w hSw; clear hSw; go_simp; try (with_reducible rfl))
      simp only [Act.put, List.getElem_toArray, List.getElem_cons_zero, List.getElem_cons_succ, List.setIfInBounds_toArray, List.set_cons_zero, List.set_cons_succ]
      refine wpAnyH_take (i := 23) (v := ?_) rfl (by kernel_rfl) (by kernel_rfl) (by kernel_rfl) (fun _ _ _ h => h) (Or.inl ⟨by rfl, ?_⟩) (by assumption) ?_
      rotate_left
      · (intro w hSw; clear hSw; go_simp; try (with_reducible rfl))
      simp only [Act.put, List.getElem_toArray, List.getElem_cons_zero, List.getElem_cons_succ, List.setIfInBounds_toArray, List.set_cons_zero, List.set_cons_succ]
      refine wpAnyH_take (i := 24) (v := ?_) rfl (by kernel_rfl) (by kernel_rfl) (by kernel_rfl) (fun _ _ _ h => h) (Or.inl ⟨by rfl, ?_⟩) (by assumption) ?_
      rotate_left
      · (intro w hSw; clear hSw; go_simp; try (with_reducible rfl))
      simp only [Act.put, List.getElem_toArray, List.getElem_cons_zero, List.getElem_cons_succ, List.setIfInBounds_toArray, List.set_cons_zero, List.set_cons_succ]
      refine wpAnyH_take (i := 25) (v := ?_) rfl (by kernel_rfl) (by kernel_rfl) (by kernel_rfl) (fun _ _ _ h => h) (Or.inl ⟨by rfl, ?_⟩) (by assumption) ?_
      rotate_left
      · (intro w hSw; clear hSw; go_simp; try (with_reducible rfl))
      simp only [Act.put, List.getElem_toArray, List.getElem_cons_zero, List.getElem_cons_succ, List.setIfInBounds_toArray, List.set_cons_zero, List.set_cons_succ]
      refine wpAnyH_take (i := 26) (v := ?_) rfl (by kernel_rfl) (by kernel_rfl) (by kernel_rfl) (fun _ _ _ h => h) (Or.inl ⟨by rfl, ?_⟩) (by assumption) ?_
      rotate_left
      · (intro w hSw; have s0 := (hSw.cell (p := ⟨b, o + k * 3, none⟩) hbl).trans k0; have s1 := (hSw.cell (p := ⟨b, o + k * 3 + 1, none⟩) hbl).trans k1; have s2 := (hSw.cell (p := ⟨b, o + k * 3 + 2, none⟩) hbl).trans k2; have s3 := (hSw.cell (p := ⟨b', o', none⟩) hbl').trans k3; go_simp; try (with_reducible rfl))
      simp only [Act.put, List.getElem_toArray, List.getElem_cons_zero, List.getElem_cons_succ, List.setIfInBounds_toArray, List.set_cons_zero, List.set_cons_succ]
      refine wpAnyH_take (i := 27) (v := ?_) rfl (by kernel_rfl) (by kernel_rfl) (by kernel_rfl) (fun _ _ _ h => h) (Or.inl ⟨by rfl, ?_⟩) (by assumption) ?_
      rotate_left
      · (intro w hSw; clear hSw; go_simp; try (with_reducible rfl))
      simp only [Act.put, List.getElem_toArray, List.getElem_cons_zero, List.getElem_cons_succ, List.setIfInBounds_toArray, List.set_cons_zero, List.set_cons_succ]
      refine wpAnyH_take (i := 28) (v := ?_) rfl (by kernel_rfl) (by kernel_rfl) (by kernel_rfl) (fun _ _ _ h => h) (Or.inl ⟨by rfl, ?_⟩) (by assumption) ?_
      rotate_left
      · (intro w hSw; clear hSw; go_simp; try (with_reducible rfl))
      simp only [Act.put, List.getElem_toArray, List.getElem_cons_zero, List.getElem_cons_succ, List.setIfInBounds_toArray, List.set_cons_zero, List.set_cons_succ]
      refine wpAnyH_ready (rs := [29]) (by kernel_rfl) (by simp) ?_
      refine AllReadyH.cons rfl (fun K hK => ?_) AllReadyH.nil
      rw [if_pos (by rfl)]
      go_wp2_with (go_at_call 39; refine (iNodesNext_any _ (y.map Nd.id) ((i + 1) % 64) _ (by exact HIo.out.below hHeld (Nat.le_refl _)) HND.out HOK2.out).mono ?_; rw [N2.out]; rintro e wq ⟨rfl, hbq⟩)
      refine hK.out _ _ (hHeld.trans (hbq.mono hHeld.size)) (fun hHeld => ?_)
      clear hK K hbq
      refine wpAnyH_take (i := 30) (v := ?_) rfl (by kernel_rfl) (by kernel_rfl) (by kernel_rfl) (fun _ _ _ h => h) (Or.inl ⟨by rfl, ?_⟩) (by assumption) ?_
      rotate_left
      · (intro w hSw; clear hSw; go_simp; try (with_reducible rfl))
      simp only [Act.put, List.getElem_toArray, List.getElem_cons_zero, List.getElem_cons_succ, List.setIfInBounds_toArray, List.set_cons_zero, List.set_cons_succ]
      refine wpAnyH_take (i := 31) (v := ?_) rfl (by kernel_rfl) (by kernel_rfl) (by kernel_rfl) (fun _ _ _ h => h) (Or.inl ⟨by rfl, ?_⟩) (by assumption) ?_
      rotate_left
      · (intro w hSw; clear hSw; go_simp; try (with_reducible rfl))
      simp only [Act.put, List.getElem_toArray, List.getElem_cons_zero, List.getElem_cons_succ, List.setIfInBounds_toArray, List.set_cons_zero, List.set_cons_succ]
      refine wpAnyH_done (by kernel_rfl) ?_ _
      clear hw1 hw2
      go_wp2
      go_roundg (y.length - (k + 1))
      case rel => exact ⟨k + 1, by omega, rfl, by go_num, HW.out.trans (hHeld.mono HW.out.size)⟩
      case measure => omega
    · obtain rfl : k = y.length := by omega
      clear hwr
      go_wp2
      go_ret
      exact ⟨rfl, hbE.trans (HW.out.mono hbE.size)⟩

end Go.Proofs.Ytnoamohpkngbdaa
