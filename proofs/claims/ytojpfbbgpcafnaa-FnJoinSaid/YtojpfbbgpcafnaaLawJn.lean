/-
  Walks: the law FnJoin.
-/
import Derived.Test.YtojpfbbgpcafnaaIRJoin
import Derived.Test.YtojpfbbgpcafnaaSJoin
import Derived.Test.YtojpfbbgpcafnaaDrawJ
import Derived.Test.YtojpfbbgpcafnaaLawN2
namespace Go.Proofs.Ytojpfbbgpcafnaa
open Go.RowKit

theorem ndOf_of {r : List Nd} (hv : ringValid r = true) {m : Nd} (hm : m ∈ r) : ndOf r m.id = m := by
  obtain ⟨j, hj, rfl⟩ := mem_getD hm
  exact ndOf_self hv hj
theorem law_join {r : List Nd} {id at' : Int} (h : rJoinOk r id at' = true) :
    ringValid r = true ∧ ringValid (rJoin r id at') = true ∧ ndOf (rJoin r id at') id = ⟨id, at', (ndOf r at').after⟩ ∧ (∀ k, k < r.length → ndOf (rJoin r id at') (r.getD k default).id = r.getD k default) ∧ (rJoin r id at').length = r.length + 1 := by
  obtain ⟨hc, k, hk, hf, hid, hg⟩ := stepB_open h
  simp only [Bool.and_eq_true] at hc
  obtain ⟨⟨hs, hi⟩, ho⟩ := hc
  have er : rJoin r id at' = joinK r id at' k := by
    have := stepR_hit (c := ringSafe r && okP id && okP at') (by rw [hs, hi, ho]; rfl) hf (fun k => if joinOk r id at' k then joinK r id at' k else r)
    rw [hg, if_pos rfl] at this
    exact this
  have hg' := hg
  unfold joinOk at hg
  simp only [Bool.and_eq_true, decide_eq_true_eq] at hg
  have hx : live r id = false := by
    cases hl : live r id
    · rfl
    · have := fnd_live_iff.2 hl
      omega
  have hv := safe_valid hs
  have hv2 : ringValid (joinK r id at' k) = true := joinK_valid hv hg.1.2 hi ho hx hk
  rw [er]
  refine ⟨hv, hv2, ?_, fun j hj => ndOf_of hv2 (mem_joinK.2 (.inl (getD_mem hj))), ?_⟩
  · rw [ndOf_hit hf]
    exact ndOf_of hv2 (m := ⟨id, at', (r.getD k default).after⟩) (mem_joinK.2 (.inr rfl))
  · have := ltN_le id r
    unfold joinK
    simp only [List.length_append, List.length_cons, List.length_take, List.length_drop]
    omega

set_option maxRecDepth 100000 in
set_option maxHeartbeats 4000000 in
theorem lawJoin_any (v : Value) (w : World) (h : CodeAt w v) :
    Calls Try.prog 11 #[v] w fun e w' => e = .returned (.bool true) ∧ Below w.heap.size w w' := by
  have H := Lib.hid h
  obtain ⟨pb, n, cap, rfl, hn1, hn2, -⟩ := h
  unfold maxLen at hn2
  by_cases hbig : 1048576 < n
  · go_enter Try.func11, Try.ntmps11
    go_wp2
    go_ret
    exact ⟨rfl, Below.refl _ _⟩
  have hbig' : n ≤ 1048576 := by omega
  clear hbig
  have hf0 := field0
  have hf1 := field1
  have hf2 := field2
  go_enter Try.func11, Try.ntmps11
  go_wp2_with fail
  refine (drawRingJoin_any _ _ H.out).mono ?_
  rintro e w1 ⟨u, y, id, o, rfl, hat, hsm, hb1⟩
  have HAT := Lib.hid hat
  have hz1 := hb1.size
  have hy10 := hsm.2.1
  have hy1 := hsm.1
  obtain ⟨p, cp, rfl⟩ := hat.form
  clear hsm hat
  cases hok : rJoinOk y id o
  · have HK := Lib.hid hok
    clear hok
    go_wp2_with (first | (have _ := hb4; go_at_call 16; refine (sameRing_any _ _ (rJoin y id o) (rJoin y id o) _ (HA.out.below hb4 (Nat.le_refl _)) (HB.out.below hb4 (Nat.le_refl _))).mono ?_; rw [decide_eq_true rfl]; rintro e w5 ⟨rfl, hb5⟩) | (go_at_call 16; refine (sameRing_any _ _ (rJoin y id o) (rJoin y id o) _ HA.out HB.out).mono ?_; rw [decide_eq_true rfl]; rintro e w4 ⟨rfl, hb4⟩) | (go_at_call 35; refine (iRingJoin_any _ y id o _ HAT.out).mono ?_; rw [HK.out]; rintro e w2 ⟨ua, rfl, hA, hb2⟩; have HA0 := Lib.hid hA.at; clear hA) | (go_at_call 36; refine (sRingJoin_any _ y id o _ (HAT.out.below hb2 (Nat.le_refl _))).mono ?_; rw [HK.out]; rintro e w3 ⟨ub, rfl, hB, hb3⟩; have HB := Lib.hid hB.at; have HA := Lib.hid (HA0.out.below hb3 (Nat.le_refl _)); have hbD := hb1.trans ((hb2.trans (hb3.mono hb2.size)).mono hz1); clear hB))
    go_ret
    exact ⟨rfl, hbD.trans ((hb4.trans (hb5.mono hb4.size)).mono hbD.size)⟩
  have HK := Lib.hid hok
  clear hok
  obtain ⟨hv, hv2, g1, g2, g3⟩ := law_join HK.out
  obtain ⟨i1, b1, x0, x1, e1⟩ := ndOf_form hv o
  rw [e1] at g1
  have HV := Lib.hid hv
  have HV2 := Lib.hid hv2
  have HG1 := Lib.hid (show ndOf (rJoin y id o) id = ⟨id, o, [x0, x1]⟩ from g1)
  have HG2 := Lib.hid g2
  have HG3 := Lib.hid g3
  have HE1 := Lib.hid e1
  clear g1 g2 g3 hv hv2 e1
  go_wp2_with (first | (go_at_call 16; refine (sameRing_any _ _ (rJoin y id o) (rJoin y id o) _ HA1.out HB.out).mono ?_; rw [decide_eq_true rfl]; rintro e w4 ⟨rfl, hb4⟩; have HA := Lib.hid (HA1.out.below hb4 (Nat.le_refl _)); have hbC := (hb2.trans (hb3.mono hb2.size)).trans (hb4.mono (hb2.trans (hb3.mono hb2.size)).size); have HC := Lib.hid (HAT.out.below hbC (Nat.le_refl _)); have hbD := hb1.trans (hbC.mono hz1)) | (go_at_call 35; refine (iRingJoin_any _ y id o _ HAT.out).mono ?_; rw [HK.out]; rintro e w2 ⟨ua, rfl, hA, hb2⟩; have HA0 := Lib.hid hA.at; obtain ⟨pa, ca, ea⟩ := hA.at.form; subst ea; clear hA) | (go_at_call 36; refine (sRingJoin_any _ y id o _ (HAT.out.below hb2 (Nat.le_refl _))).mono ?_; rw [HK.out]; rintro e w3 ⟨ub, rfl, hB, hb3⟩; have HB := Lib.hid hB.at; have HA1 := Lib.hid (HA0.out.below hb3 (Nat.le_refl _)); clear hB))
  refine (nodeAtL_two _ (rJoin y id o) id id o x0 x1 _ HA.out HG1.out).mono ?_
  rintro e w5 ⟨n1, o1, c1, rfl, u1, u2, u3, u4, u5, hb5⟩
  go_wp2_with fail
  obtain ⟨W, hW⟩ : ∃ W, w5.alloc (.cells #[.int .i64 id, .int .i64 o, .slice (some ⟨n1, o1, none⟩) 2 c1] 31) = W := ⟨_, rfl⟩
  have hbw := hb5.alloc hb5.size (.cells #[.int .i64 id, .int .i64 o, .slice (some ⟨n1, o1, none⟩) 2 c1] 31)
  have t1 : W.cell? ⟨w5.heap.size, 1, none⟩ = some (.int .i64 o) := by rw [← hW]; simp
  have t2 : W.cell? ⟨w5.heap.size, 2, none⟩ = some (.slice (some ⟨n1, o1, none⟩) 2 c1) := by rw [← hW]; simp
  have t3 : W.cell? ⟨n1, o1, none⟩ = some (.int .i64 x0) := by rw [← hW]; exact (((Below.refl w5.heap.size w5).alloc (Nat.le_refl _) _).cell (p := ⟨n1, o1, none⟩) u3).trans u4
  have t4 : W.cell? ⟨n1, o1 + 1, none⟩ = some (.int .i64 x1) := by rw [← hW]; exact (((Below.refl w5.heap.size w5).alloc (Nat.le_refl _) _).cell (p := ⟨n1, o1 + 1, none⟩) u3).trans u5
  have l1 : w5.heap.size < W.heap.size := by rw [← hW]; simp
  have l2 : n1 < W.heap.size := by omega
  rw [hW] at hbw
  rw [hW]
  have HC5 := Lib.hid (HC.out.below hbw (Nat.le_refl _))
  have HA5 := Lib.hid (HA.out.below hbw (Nat.le_refl _))
  have HI1 : Hid (IntsAt W (.slice (some ⟨n1, o1, none⟩) 2 c1) [x0, x1]) := Lib.hid ⟨_, c1, rfl, u1, by unfold maxLen; omega, .inr ⟨n1, o1, rfl, l2, fun i hi => by
    have hi' : i < 2 := hi
    match i, hi' with
    | 0, _ => rw [Nat.add_zero]; exact t3
    | 1, _ => exact t4⟩⟩
  have hbE := hbD.trans (hbw.mono hbD.size)
  have hw5 : Below W.heap.size W W := Below.refl _ _
  clear hW u4 u5 t3 t4 hbw
  go_loopg [2, 11] y.length (fun m _ i wr => ∃ k : Nat, k ≤ y.length ∧ m = y.length - k ∧ i = .int .i64 k ∧ Below W.heap.size W wr)
  case atStart => exact ⟨0, Nat.zero_le _, rfl, rfl, Below.refl _ _⟩
  case round =>
    obtain ⟨k, hk, rfl, rfl, hwr⟩ := hrel
    have HW := Lib.hid hwr
    by_cases hlt : k < y.length
    · obtain ⟨bY, oY, rfl, -, gY1, gY2, gY3, paY, caY, kY0, kY1, kY2, hIY⟩ := (HC5.out.below hwr (Nat.le_refl _)).nd (k := k) hlt
      have hAY := HA5.out.below hwr (Nat.le_refl _)
      have g2 := HG2.out k hlt
      obtain ⟨n, hn⟩ : ∃ x, y.getD k default = x := ⟨_, rfl⟩
      rw [hn] at kY0 kY1 kY2 hIY g2
      obtain ⟨i, bf, A⟩ := n
      have g2' : ndOf (rJoin y id o) i = ⟨i, bf, A⟩ := g2
      have HG := Lib.hid g2'
      have HIX := Lib.hid hIY
      have HAY := Lib.hid hAY
      have i0 : (0 : Int) ≤ (k : Int) := by omega
      have i1 : (k : Int) < (y.length : Int) := by omega
      clear hn g2 g2' hIY hwr hAY
      go_wp2_with fail
      refine wp_region_held_drew (S := fun w' => Below (wr).heap.size wr w') (by kernel_rfl) (Below.refl _ wr).drew (fun hHeld => ?_)
      refine wpAnyH_take (i := 0) (v := ?_) rfl (by kernel_rfl) (by kernel_rfl) (by kernel_rfl) (fun _ _ _ h => h) (Or.inl ⟨by rfl, ?_⟩) (by assumption) ?_
      rotate_left
      · (intro wz hSw; clear hSw; go_simp; try (with_reducible rfl))
      simp only [Act.put, List.getElem_toArray, List.getElem_cons_zero, List.setIfInBounds_toArray, List.set_cons_zero, List.set_cons_succ]
      refine wpAnyH_take (i := 1) (v := ?_) rfl (by kernel_rfl) (by kernel_rfl) (by kernel_rfl) (fun _ _ _ h => h) (Or.inl ⟨by rfl, ?_⟩) (by assumption) ?_
      rotate_left
      · (intro wz hSw; clear hSw; go_simp; try (with_reducible rfl))
      simp only [Act.put, List.getElem_toArray, List.getElem_cons_zero, List.getElem_cons_succ, List.setIfInBounds_toArray, List.set_cons_zero, List.set_cons_succ]
      refine wpAnyH_take (i := 2) (v := ?_) rfl (by kernel_rfl) (by kernel_rfl) (by kernel_rfl) (fun _ _ _ h => h) (Or.inl ⟨by rfl, ?_⟩) (by assumption) ?_
      rotate_left
      · (intro wz hSw; clear hSw; go_simp; try (with_reducible rfl))
      simp only [Act.put, List.getElem_toArray, List.getElem_cons_zero, List.getElem_cons_succ, List.setIfInBounds_toArray, List.set_cons_zero, List.set_cons_succ]
      refine wpAnyH_take (i := 3) (v := ?_) rfl (by kernel_rfl) (by kernel_rfl) (by kernel_rfl) (fun _ _ _ h => h) (Or.inl ⟨by rfl, ?_⟩) (by assumption) ?_
      rotate_left
      · (intro wz hSw; clear hSw; go_simp; try (with_reducible rfl))
      simp only [Act.put, List.getElem_toArray, List.getElem_cons_zero, List.getElem_cons_succ, List.setIfInBounds_toArray, List.set_cons_zero, List.set_cons_succ]
      refine wpAnyH_take (i := 4) (v := ?_) rfl (by kernel_rfl) (by kernel_rfl) (by kernel_rfl) (fun _ _ _ h => h) (Or.inl ⟨by rfl, ?_⟩) (by assumption) ?_
      rotate_left
      · (intro wz hSw; clear hSw; go_simp; try (with_reducible rfl))
      simp only [Act.put, List.getElem_toArray, List.getElem_cons_zero, List.getElem_cons_succ, List.setIfInBounds_toArray, List.set_cons_zero, List.set_cons_succ]
      refine wpAnyH_take (i := 5) (v := ?_) rfl (by kernel_rfl) (by kernel_rfl) (by kernel_rfl) (fun _ _ _ h => h) (Or.inl ⟨by rfl, ?_⟩) (by assumption) ?_
      rotate_left
      · (intro wz hSw; have f0 := (hSw.cell (p := ⟨bY, oY + k * 3, none⟩) gY3).trans kY0; have f1 := (hSw.cell (p := ⟨bY, oY + k * 3 + 1, none⟩) gY3).trans kY1; have f2 := (hSw.cell (p := ⟨bY, oY + k * 3 + 2, none⟩) gY3).trans kY2; go_simp; try (with_reducible rfl))
      simp only [Act.put, List.getElem_toArray, List.getElem_cons_zero, List.getElem_cons_succ, List.setIfInBounds_toArray, List.set_cons_zero, List.set_cons_succ]
      refine wpAnyH_take (i := 7) (v := ?_) rfl (by kernel_rfl) (by kernel_rfl) (by kernel_rfl) (fun _ _ _ h => h) (Or.inl ⟨by rfl, ?_⟩) (by assumption) ?_
      rotate_left
      · (intro wz hSw; clear hSw; go_simp; try (with_reducible rfl))
      simp only [Act.put, List.getElem_toArray, List.getElem_cons_zero, List.getElem_cons_succ, List.setIfInBounds_toArray, List.set_cons_zero, List.set_cons_succ]
      refine wpAnyH_take (i := 8) (v := ?_) rfl (by kernel_rfl) (by kernel_rfl) (by kernel_rfl) (fun _ _ _ h => h) (Or.inl ⟨by rfl, ?_⟩) (by assumption) ?_
      rotate_left
      · (intro wz hSw; clear hSw; go_simp; try (with_reducible rfl))
      simp only [Act.put, List.getElem_toArray, List.getElem_cons_zero, List.getElem_cons_succ, List.setIfInBounds_toArray, List.set_cons_zero, List.set_cons_succ]
      refine wpAnyH_take (i := 9) (v := ?_) rfl (by kernel_rfl) (by kernel_rfl) (by kernel_rfl) (fun _ _ _ h => h) (Or.inl ⟨by rfl, ?_⟩) (by assumption) ?_
      rotate_left
      · (intro wz hSw; clear hSw; go_simp; try (with_reducible rfl))
      simp only [Act.put, List.getElem_toArray, List.getElem_cons_zero, List.getElem_cons_succ, List.setIfInBounds_toArray, List.set_cons_zero, List.set_cons_succ]
      refine wpAnyH_take (i := 10) (v := ?_) rfl (by kernel_rfl) (by kernel_rfl) (by kernel_rfl) (fun _ _ _ h => h) (Or.inl ⟨by rfl, ?_⟩) (by assumption) ?_
      rotate_left
      · (intro wz hSw; have f0 := (hSw.cell (p := ⟨bY, oY + k * 3, none⟩) gY3).trans kY0; have f1 := (hSw.cell (p := ⟨bY, oY + k * 3 + 1, none⟩) gY3).trans kY1; have f2 := (hSw.cell (p := ⟨bY, oY + k * 3 + 2, none⟩) gY3).trans kY2; go_simp; try (with_reducible rfl))
      simp only [Act.put, List.getElem_toArray, List.getElem_cons_zero, List.getElem_cons_succ, List.setIfInBounds_toArray, List.set_cons_zero, List.set_cons_succ]
      refine wpAnyH_ready (rs := [6]) (by kernel_rfl) (by simp) ?_
      refine AllReadyH.cons rfl (fun K hK => ?_) AllReadyH.nil
      rw [if_pos (by rfl)]
      go_wp2_with (go_at_call 30; refine (nodeAtL_any _ (rJoin y id o) i _ (by exact HAY.out.below hHeld (Nat.le_refl _))).mono ?_; rw [HG.out]; rintro e wt1 ⟨va, rfl, hva, hbq⟩; have HVA := Lib.hid hva; clear hva)
      refine hK.out _ _ (hHeld.trans (hbq.mono hHeld.size)) (fun hHeld => ?_)
      clear hK K hbq
      have hT1 := hHeld
      refine wpAnyH_turn (S' := fun w' => Below wt1.heap.size wt1 w') (fun w h => hT1.trans (h.mono hT1.size)) _ _ _ _ ?_
      have hHeld : Below wt1.heap.size wt1 wt1 := Below.refl _ _
      refine wpAnyH_ready (rs := [11]) (by kernel_rfl) (by simp) ?_
      refine AllReadyH.cons rfl (fun K hK => ?_) AllReadyH.nil
      rw [if_pos (by rfl)]
      go_wp2_with (go_at_call 37; refine (sameNode_refl i bf A _ _ _ (by exact HVA.out.below hHeld (Nat.le_refl _)) (by exact HIX.out.below (hT1.trans (hHeld.mono hT1.size)) (Nat.le_refl _))).mono ?_; rintro e wq ⟨rfl, hbq⟩)
      refine hK.out _ _ (hHeld.trans (hbq.mono hHeld.size)) (fun hHeld => ?_)
      clear hK K hbq
      refine wpAnyH_take (i := 12) (v := ?_) rfl (by kernel_rfl) (by kernel_rfl) (by kernel_rfl) (fun _ _ _ h => h) (Or.inl ⟨by rfl, ?_⟩) (by assumption) ?_
      rotate_left
      · (intro wz hSw; clear hSw; go_simp; try (with_reducible rfl))
      simp only [Act.put, List.getElem_toArray, List.getElem_cons_zero, List.getElem_cons_succ, List.setIfInBounds_toArray, List.set_cons_zero, List.set_cons_succ]
      refine wpAnyH_done (by kernel_rfl) ?_ _
      go_wp2
      go_roundg (y.length - (k + 1))
      case rel => exact ⟨k + 1, by omega, rfl, by go_num, HW.out.trans ((hT1.trans (hHeld.mono hT1.size)).mono HW.out.size)⟩
      case measure => omega
    · obtain rfl : k = y.length := by omega
      have HLE := Lib.hid (show (((rJoin y id o).length : Int) == IntKind.i64.wrap ((y.length : Int) + 1)) = true by have := HG3.out; rw [IntKind.wrap_i64, beq_iff_eq]; omega)
      have ho : (o == o) = true := by simp
      have k1 := (hwr.cell (p := ⟨w5.heap.size, 1, none⟩) l1).trans t1
      have k2 := (hwr.cell (p := ⟨w5.heap.size, 2, none⟩) l1).trans t2
      have hz := hwr.size
      have l3 : w5.heap.size < wr.heap.size := by omega
      have HIW := Lib.hid (HI1.out.below hwr (Nat.le_refl _))
      have HCW := Lib.hid (HC5.out.below hwr (Nat.le_refl _))
      clear t1 t2
      go_wp2_with fail
      refine wp_region_held_drew (S := fun w' => Below (wr).heap.size wr w') (by kernel_rfl) (Below.refl _ wr).drew (fun hHeld => ?_)
      refine wpAnyH_take (i := 0) (v := ?_) rfl (by kernel_rfl) (by kernel_rfl) (by kernel_rfl) (fun _ _ _ h => h) (Or.inl ⟨by rfl, ?_⟩) (by assumption) ?_
      rotate_left
      · (intro wz hSw; clear hSw; go_simp; try (with_reducible rfl))
      simp only [Act.put, List.getElem_toArray, List.getElem_cons_zero, List.setIfInBounds_toArray, List.set_cons_zero, List.set_cons_succ]
      refine wpAnyH_take (i := 1) (v := ?_) rfl (by kernel_rfl) (by kernel_rfl) (by kernel_rfl) (fun _ _ _ h => h) (Or.inl ⟨by rfl, ?_⟩) (by assumption) ?_
      rotate_left
      · (intro wz hSw; have f1 := (hSw.cell (p := ⟨w5.heap.size, 1, none⟩) l3).trans k1; have f2 := (hSw.cell (p := ⟨w5.heap.size, 2, none⟩) l3).trans k2; go_simp; try (with_reducible rfl))
      simp only [Act.put, List.getElem_toArray, List.getElem_cons_zero, List.getElem_cons_succ, List.setIfInBounds_toArray, List.set_cons_zero, List.set_cons_succ]
      refine wpAnyH_take (i := 2) (v := ?_) rfl (by kernel_rfl) (by kernel_rfl) (by kernel_rfl) (fun _ _ _ h => h) (Or.inl ⟨by rfl, ?_⟩) (by assumption) ?_
      rotate_left
      · (intro wz hSw; clear hSw; go_simp; try (with_reducible rfl))
      simp only [Act.put, List.getElem_toArray, List.getElem_cons_zero, List.getElem_cons_succ, List.setIfInBounds_toArray, List.set_cons_zero, List.set_cons_succ]
      refine wpAnyH_take (i := 3) (v := ?_) rfl (by kernel_rfl) (by kernel_rfl) (by kernel_rfl) (fun _ _ _ h => h) (Or.inl ⟨by rfl, ?_⟩) (by assumption) ?_
      rotate_left
      · (intro wz hSw; clear hSw; go_simp; try (with_reducible rfl))
      simp only [Act.put, List.getElem_toArray, List.getElem_cons_zero, List.getElem_cons_succ, List.setIfInBounds_toArray, List.set_cons_zero, List.set_cons_succ]
      refine wpAnyH_take (i := 4) (v := ?_) rfl (by kernel_rfl) (by kernel_rfl) (by kernel_rfl) (fun _ _ _ h => h) (Or.inl ⟨by rfl, ?_⟩) (by assumption) ?_
      rotate_left
      · (intro wz hSw; clear hSw; go_simp; try (with_reducible rfl))
      simp only [Act.put, List.getElem_toArray, List.getElem_cons_zero, List.getElem_cons_succ, List.setIfInBounds_toArray, List.set_cons_zero, List.set_cons_succ]
      refine wpAnyH_take (i := 5) (v := ?_) rfl (by kernel_rfl) (by kernel_rfl) (by kernel_rfl) (fun _ _ _ h => h) (Or.inl ⟨by rfl, ?_⟩) (by assumption) ?_
      rotate_left
      · (intro wz hSw; clear hSw; go_simp; try (with_reducible rfl))
      simp only [Act.put, List.getElem_toArray, List.getElem_cons_zero, List.getElem_cons_succ, List.setIfInBounds_toArray, List.set_cons_zero, List.set_cons_succ]
      refine wpAnyH_take (i := 6) (v := ?_) rfl (by kernel_rfl) (by kernel_rfl) (by kernel_rfl) (fun _ _ _ h => h) (Or.inl ⟨by rfl, ?_⟩) (by assumption) ?_
      rotate_left
      · (intro wz hSw; have f1 := (hSw.cell (p := ⟨w5.heap.size, 1, none⟩) l3).trans k1; have f2 := (hSw.cell (p := ⟨w5.heap.size, 2, none⟩) l3).trans k2; go_simp; try (with_reducible rfl))
      simp only [Act.put, List.getElem_toArray, List.getElem_cons_zero, List.getElem_cons_succ, List.setIfInBounds_toArray, List.set_cons_zero, List.set_cons_succ]
      refine wpAnyH_take (i := 7) (v := ?_) rfl (by kernel_rfl) (by kernel_rfl) (by kernel_rfl) (fun _ _ _ h => h) (Or.inl ⟨by rfl, ?_⟩) (by assumption) ?_
      rotate_left
      · (intro wz hSw; clear hSw; go_simp; try (with_reducible rfl))
      simp only [Act.put, List.getElem_toArray, List.getElem_cons_zero, List.getElem_cons_succ, List.setIfInBounds_toArray, List.set_cons_zero, List.set_cons_succ]
      refine wpAnyH_take (i := 8) (v := ?_) rfl (by kernel_rfl) (by kernel_rfl) (by kernel_rfl) (fun _ _ _ h => h) (Or.inl ⟨by rfl, ?_⟩) (by assumption) ?_
      rotate_left
      · (intro wz hSw; clear hSw; go_simp; try (with_reducible rfl))
      simp only [Act.put, List.getElem_toArray, List.getElem_cons_zero, List.getElem_cons_succ, List.setIfInBounds_toArray, List.set_cons_zero, List.set_cons_succ]
      refine wpAnyH_ready (rs := [9]) (by kernel_rfl) (by simp) ?_
      refine AllReadyH.cons rfl (fun K hK => ?_) AllReadyH.nil
      rw [if_pos (by rfl)]
      go_wp2_with (go_at_call 30; refine (nodeAtL_any _ y o _ (by exact HCW.out.below hHeld (Nat.le_refl _))).mono ?_; rw [HE1.out]; rintro e wt1 ⟨va, rfl, hva, hbq⟩; have HVA := Lib.hid hva; clear hva)
      refine hK.out _ _ (hHeld.trans (hbq.mono hHeld.size)) (fun hHeld => ?_)
      clear hK K hbq
      have hT1 := hHeld
      refine wpAnyH_turn (S' := fun w' => Below wt1.heap.size wt1 w') (fun w h => hT1.trans (h.mono hT1.size)) _ _ _ _ ?_
      have hHeld : Below wt1.heap.size wt1 wt1 := Below.refl _ _
      refine wpAnyH_take (i := 10) (v := ?_) rfl (by kernel_rfl) (by kernel_rfl) (by kernel_rfl) (fun _ _ _ h => h) (Or.inl ⟨by rfl, ?_⟩) (by assumption) ?_
      rotate_left
      · (intro wz hSw; clear hSw; go_simp; try (with_reducible rfl))
      simp only [Act.put, List.getElem_toArray, List.getElem_cons_zero, List.getElem_cons_succ, List.setIfInBounds_toArray, List.set_cons_zero, List.set_cons_succ]
      refine wpAnyH_ready (rs := [11]) (by kernel_rfl) (by simp) ?_
      refine AllReadyH.cons rfl (fun K hK => ?_) AllReadyH.nil
      rw [if_pos (by rfl)]
      go_wp2_with (go_at_call 29; (refine (sameInts_any _ _ [x0, x1] [x0, x1] _ (by exact HIW.out.below (hT1.trans (hHeld.mono hT1.size)) (Nat.le_refl _)) (by exact HVA.out.below hHeld (Nat.le_refl _))).mono ?_); rw [decide_eq_true (rfl : [x0, x1] = [x0, x1])]; rintro e wq ⟨rfl, nd, hwq⟩; have hbq : Below wt1.heap.size wt1 wq := (by rw [hwq]; exact below_drewN (Below.refl _ _) nd); clear hwq)
      refine hK.out _ _ (hHeld.trans (hbq.mono hHeld.size)) (fun hHeld => ?_)
      clear hK K hbq
      refine wpAnyH_take (i := 12) (v := ?_) rfl (by kernel_rfl) (by kernel_rfl) (by kernel_rfl) (fun _ _ _ h => h) (Or.inl ⟨by rfl, ?_⟩) (by assumption) ?_
      rotate_left
      · (intro wz hSw; clear hSw; go_simp; try (with_reducible rfl))
      simp only [Act.put, List.getElem_toArray, List.getElem_cons_zero, List.getElem_cons_succ, List.setIfInBounds_toArray, List.set_cons_zero, List.set_cons_succ]
      refine wpAnyH_take (i := 13) (v := ?_) rfl (by kernel_rfl) (by kernel_rfl) (by kernel_rfl) (fun _ _ _ h => h) (Or.inl ⟨by rfl, ?_⟩) (by assumption) ?_
      rotate_left
      · (intro wz hSw; clear hSw; go_simp; try (with_reducible rfl))
      simp only [Act.put, List.getElem_toArray, List.getElem_cons_zero, List.getElem_cons_succ, List.setIfInBounds_toArray, List.set_cons_zero, List.set_cons_succ]
      refine wpAnyH_take (i := 14) (v := ?_) rfl (by kernel_rfl) (by kernel_rfl) (by kernel_rfl) (fun _ _ _ h => h) (Or.inl ⟨by rfl, ?_⟩) (by assumption) ?_
      rotate_left
      · (intro wz hSw; clear hSw; go_simp; try (with_reducible rfl))
      simp only [Act.put, List.getElem_toArray, List.getElem_cons_zero, List.getElem_cons_succ, List.setIfInBounds_toArray, List.set_cons_zero, List.set_cons_succ]
      refine wpAnyH_take (i := 15) (v := ?_) rfl (by kernel_rfl) (by kernel_rfl) (by kernel_rfl) (fun _ _ _ h => h) (Or.inl ⟨by rfl, ?_⟩) (by assumption) ?_
      rotate_left
      · (intro wz hSw; clear hSw; go_simp; try (with_reducible rfl))
      simp only [Act.put, List.getElem_toArray, List.getElem_cons_zero, List.getElem_cons_succ, List.setIfInBounds_toArray, List.set_cons_zero, List.set_cons_succ]
      refine wpAnyH_take (i := 16) (v := ?_) rfl (by kernel_rfl) (by kernel_rfl) (by kernel_rfl) (fun _ _ _ h => h) (Or.inl ⟨by rfl, ?_⟩) (by assumption) ?_
      rotate_left
      · (intro wz hSw; clear hSw; go_simp; try (with_reducible rfl))
      simp only [Act.put, List.getElem_toArray, List.getElem_cons_zero, List.getElem_cons_succ, List.setIfInBounds_toArray, List.set_cons_zero, List.set_cons_succ]
      refine wpAnyH_take (i := 17) (v := ?_) rfl (by kernel_rfl) (by kernel_rfl) (by kernel_rfl) (fun _ _ _ h => h) (Or.inl ⟨by rfl, ?_⟩) (by assumption) ?_
      rotate_left
      · (intro wz hSw; clear hSw; go_simp; try (with_reducible rfl))
      simp only [Act.put, List.getElem_toArray, List.getElem_cons_zero, List.getElem_cons_succ, List.setIfInBounds_toArray, List.set_cons_zero, List.set_cons_succ]
      refine wpAnyH_take (i := 18) (v := ?_) rfl (by kernel_rfl) (by kernel_rfl) (by kernel_rfl) (fun _ _ _ h => h) (Or.inl ⟨by rfl, ?_⟩) (by assumption) ?_
      rotate_left
      · (intro wz hSw; clear hSw; go_simp; try (with_reducible rfl))
      simp only [Act.put, List.getElem_toArray, List.getElem_cons_zero, List.getElem_cons_succ, List.setIfInBounds_toArray, List.set_cons_zero, List.set_cons_succ]
      refine wpAnyH_take (i := 19) (v := ?_) rfl (by kernel_rfl) (by kernel_rfl) (by kernel_rfl) (fun _ _ _ h => h) (Or.inl ⟨by rfl, ?_⟩) (by assumption) ?_
      rotate_left
      · (intro wz hSw; clear hSw; go_simp; try (with_reducible rfl))
      simp only [Act.put, List.getElem_toArray, List.getElem_cons_zero, List.getElem_cons_succ, List.setIfInBounds_toArray, List.set_cons_zero, List.set_cons_succ]
      refine wpAnyH_take (i := 20) (v := ?_) rfl (by kernel_rfl) (by kernel_rfl) (by kernel_rfl) (fun _ _ _ h => h) (Or.inl ⟨by rfl, ?_⟩) (by assumption) ?_
      rotate_left
      · (intro wz hSw; clear hSw; go_simp; try (with_reducible rfl))
      simp only [Act.put, List.getElem_toArray, List.getElem_cons_zero, List.getElem_cons_succ, List.setIfInBounds_toArray, List.set_cons_zero, List.set_cons_succ]
      refine wpAnyH_take (i := 21) (v := ?_) rfl (by kernel_rfl) (by kernel_rfl) (by kernel_rfl) (fun _ _ _ h => h) (Or.inl ⟨by rfl, ?_⟩) (by assumption) ?_
      rotate_left
      · (intro wz hSw; clear hSw; go_simp; try (with_reducible rfl))
      simp only [Act.put, List.getElem_toArray, List.getElem_cons_zero, List.getElem_cons_succ, List.setIfInBounds_toArray, List.set_cons_zero, List.set_cons_succ]
      refine wpAnyH_done (by kernel_rfl) ?_ _
      go_wp2
      go_ret
      exact ⟨by show Ending.returned (.bool _) = _; rw [HLE.out], hbE.trans ((HW.out.trans ((hT1.trans (hHeld.mono hT1.size)).mono HW.out.size)).mono hbE.size)⟩

end Go.Proofs.Ytojpfbbgpcafnaa
