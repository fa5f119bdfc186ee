/-
  The law FnExactRegisterWrite, beside goroutines that only leave.
-/
import Derived.Test.YtkefnmmpipeppaaXs
import Derived.Test.YtkefnmmpipeppaaGx
set_option linter.unusedSimpArgs false
set_option linter.unusedVariables false
set_option linter.unusedSectionVars false
namespace Go.Proofs.Ytkefnmmpipeppaa
open Go.Conc Go.ConcN Go.RowKit Go.Conc.Lib Go.ConcR.Gen Go.ConcN.Gen Go.Proofs.Ytkefnmmpipeppaa.Rg
open Go.ConcR (KK wgBlock WgAt stA smA rd wr mk Payload Aside2 DC0 Bk)

theorem wrR_len (r : List Tr) (ks ts : List Int) (i j : Int) : (wrR r ks ts i j).length ≤ r.length := by
  unfold wrR
  split
  · rw [rPutAll_length]; exact Nat.le_refl _
  · exact Nat.zero_le _
variable [Kept]
theorem closedXwr : Closed Try.prog [17, 18, 20, 19, 21, 45, 22, 23, 24, 25, 29, 39, 41, 51, 50, 40, 49, 42, 60, 52] := by
  intro f hf
  simp only [List.mem_cons, List.not_mem_nil, or_false] at hf
  rcases hf with rfl | rfl | rfl | rfl | rfl | rfl | rfl | rfl | rfl | rfl | rfl | rfl | rfl | rfl | rfl | rfl | rfl | rfl | rfl | rfl <;> kernel_rfl
set_option maxRecDepth 100000 in
set_option maxHeartbeats 16000000 in
theorem fnExactRegisterWriteG (v : World) (v0 : Value) (r : List Tr) (vn0 : Value) (xs0 : List Int) (vn1 : Value) (xs1 : List Int) (i0 : Int) (i1 : Int) (hv : TrsAt v v0 r) (hn0 : IntsAt v vn0 xs0) (hn1 : IntsAt v vn1 xs1) :
    CallsM Try.prog 7 #[v0, vn0, vn1, .int .i64 i0, .int .i64 i1] v fun z u => z = .bool true ∧ KeepG v u := by
  refine callsM_of_gt Try.func7 rfl fun cs => ?_
  walk_nrmf Try.f7
  have HV := Lib.hid hv
  obtain ⟨p, cap, rfl, hc1, hc2⟩ := hv.form
  clear hv
  have HN0 := Lib.hid hn0
  obtain ⟨q0, cq0, rfl, hq0, hm0, hz0⟩ := hn0
  clear hz0
  unfold maxLen at hm0
  have HN1 := Lib.hid hn1
  obtain ⟨q1, cq1, rfl, hq1, hm1, hz1⟩ := hn1
  clear hz1
  unfold maxLen at hm1
  have K := Lib.hid (KeepG.refl v)
  refine gt_code ?_
  refine gt_wpc closedXwr (plain_of Try.func7) rfl (by kernel_rfl) (fun w hw => ?_)
  replace K := Lib.hid (K.out.same hw)
  clear hw
  go_wp2
  ((try simp only [Exit.inBlock, Exit.then]); refine segPost_nil rfl ?_)
  refine gt_code ?_
  refine gt_wpc closedXwr (plain_of Try.func7) rfl (by kernel_rfl) (fun w hw => ?_)
  replace K := Lib.hid (K.out.same hw)
  clear hw
  by_cases hbig0 : (1048576 : Int) < (xs0.length : Int)
  · skip
    go_wp2
    ((try simp only [Exit.inBlock, Exit.then]); refine segPost_ret rfl (gt_returned Try.func7 rfl rfl (results_tmp rfl _ _ _) ?_))
    exact ⟨rfl, K.out⟩
  have hl0 : xs0.length ≤ 1048576 := by omega
  go_wp2
  ((try simp only [Exit.inBlock, Exit.then]); refine segPost_nil rfl ?_)
  refine gt_code ?_
  refine gt_wpc closedXwr (plain_of Try.func7) rfl (by kernel_rfl) (fun w hw => ?_)
  replace K := Lib.hid (K.out.same hw)
  clear hw
  by_cases hbig1 : (1048576 : Int) < (xs1.length : Int)
  · skip
    go_wp2
    ((try simp only [Exit.inBlock, Exit.then]); refine segPost_ret rfl (gt_returned Try.func7 rfl rfl (results_tmp rfl _ _ _) ?_))
    exact ⟨rfl, K.out⟩
  have hl1 : xs1.length ≤ 1048576 := by omega
  go_wp2
  ((try simp only [Exit.inBlock, Exit.then]); refine segPost_nil rfl ?_)
  refine gt_code ?_
  refine gt_wpc closedXwr (plain_of Try.func7) rfl (by kernel_rfl) (fun w hw => ?_)
  replace K := Lib.hid (K.out.same hw)
  clear hw
  go_wp2
  ((try simp only [Exit.inBlock, Exit.then]); refine segPost_nil rfl ?_)
  refine gt_code ?_
  refine gt_wpc closedXwr (plain_of Try.func7) rfl (by kernel_rfl) (fun w hw => ?_)
  replace K := Lib.hid (K.out.same hw)
  clear hw
  go_wp2_with fail
  refine (szReplicaS_any _ r _ (HV.out.keep K.out)).mono ?_
  rintro e w' ⟨⟨s, rfl, hs⟩, rfl⟩
  go_wp2
  ((try simp only [Exit.inBlock, Exit.then]); refine segPost_nil rfl ?_)
  refine gt_code ?_
  refine gt_wpc closedXwr (plain_of Try.func7) rfl (by kernel_rfl) (fun w hw => ?_)
  replace K := Lib.hid (K.out.same hw)
  clear hw
  by_cases hs0 : s < 0
  · skip
    go_wp2
    ((try simp only [Exit.inBlock, Exit.then]); refine segPost_ret rfl (gt_returned Try.func7 rfl rfl (results_tmp rfl _ _ _) ?_))
    exact ⟨rfl, K.out⟩
  have hsz : r.length ≤ 1048576 := by rcases hs with h | h; exact absurd h hs0; exact h
  have hs0' : 0 ≤ s := by omega
  go_wp2
  ((try simp only [Exit.inBlock, Exit.then]); refine segPost_nil rfl ?_)
  obtain ⟨R, hR⟩ : ∃ R, wrR r xs0 xs1 i0 i1 = R := ⟨_, rfl⟩
  obtain ⟨c, hc⟩ : ∃ c, wrB r xs0 xs1 i0 i1 = c := ⟨_, rfl⟩
  have HR := Lib.hid hR
  have HC := Lib.hid hc
  have hRl : R.length ≤ 1048576 := by rw [← hR]; exact Nat.le_trans (wrR_len _ _ _ _ _) hsz
  have hcc : (c != c) = false := by simp
  clear hs hs0 hR hc
  refine gt_code ?_
  refine gt_wpc closedXwr (plain_of Try.func7) rfl (by kernel_rfl) (fun w hw => ?_)
  replace K := Lib.hid (K.out.same hw)
  clear hw
  go_wp2_with fail
  refine (toReplicaS_any _ r _ (HV.out.keep K.out) hsz).mono ?_
  rintro e wa ⟨ua, rfl, hOa, hb⟩
  have HA := Lib.hid hOa.at
  replace K := Lib.hid (K.out.below hb)
  clear hOa hb
  go_wp2_with fail
  refine (toIntS_any _ xs0 _ (HN0.out.keep K.out) hl0).mono ?_
  rintro e wb0 ⟨ub0, rfl, hOb, hb⟩
  have HB0 := Lib.hid (intsAt_own hOb)
  replace HA := Lib.hid (HA.out.below hb (Nat.le_refl _))
  replace K := Lib.hid (K.out.below hb)
  clear hOb hb
  go_wp2_with fail
  refine (toIntS_any _ xs1 _ (HN1.out.keep K.out) hl1).mono ?_
  rintro e wb1 ⟨ub1, rfl, hOb, hb⟩
  have HB1 := Lib.hid (intsAt_own hOb)
  replace HA := Lib.hid (HA.out.below hb (Nat.le_refl _))
  replace HB0 := Lib.hid (HB0.out.below hb (Nat.le_refl _))
  replace K := Lib.hid (K.out.below hb)
  clear hOb hb
  go_wp2_with fail
  refine (sWrite_any _ _ _ r xs0 xs1 i0 i1 _ HA.out HB0.out HB1.out hsz hl0 hl1).mono ?_
  rintro e w2 hpost
  unfold WrPost at hpost
  rw [HR.out, HC.out] at hpost
  obtain ⟨uw, rfl, hW, hb⟩ := hpost
  have HW := Lib.hid hW.at
  have K2 := Lib.hid (K.out.below hb)
  clear hW hb K HA HB0 HB1
  go_wp2
  ((try simp only [Exit.inBlock, Exit.then]); refine segPost_nil rfl ?_)
  have K := Lib.hid (KeepG.refl w2)
  refine gt_code ?_
  refine gt_wpc closedXwr (plain_of Try.func7) rfl (by kernel_rfl) (fun w hw => ?_)
  replace K := Lib.hid (K.out.same hw)
  clear hw
  go_wp2_with fail
  refine (toReplicaS_any _ r _ (HV.out.keep (K2.out.trans K.out)) hsz).mono ?_
  rintro e w3 ⟨ux, rfl, hX, hb⟩
  have HX := Lib.hid (hX.mono K.out.size)
  have HXL := Lib.hid (fun q (hq : ux.ownBlock = some q) => (World.ownsRow.lt hX q hq).2)
  have K3 := Lib.hid (K.out.below hb)
  clear hX hb K
  go_wp2
  ((try simp only [Exit.inBlock, Exit.then]); refine segPost_nil rfl ?_)
  have K := Lib.hid (KeepG.refl w3)
  refine gt_code ?_
  refine gt_wpc closedXwr (plain_of Try.func7) rfl (by kernel_rfl) (fun w hw => ?_)
  replace K := Lib.hid (K.out.same hw)
  clear hw
  go_wp2_with fail
  refine (toIntS_any _ xs0 _ (HN0.out.keep ((K2.out.trans K3.out).trans K.out)) hl0).mono ?_
  rintro e w4 ⟨uy0, rfl, hY, hb⟩
  obtain ⟨py0, cy0, rfl⟩ := own_slice hY
  have HY0 := Lib.hid (show IOwn w4 w3.heap.size _ xs0 from ownsRow_mono hY K.out.size)
  have K4 := Lib.hid (K.out.below hb)
  clear hY hb K
  go_wp2
  ((try simp only [Exit.inBlock, Exit.then]); refine segPost_nil rfl ?_)
  have K := Lib.hid (KeepG.refl w4)
  refine gt_code ?_
  refine gt_wpc closedXwr (plain_of Try.func7) rfl (by kernel_rfl) (fun w hw => ?_)
  replace K := Lib.hid (K.out.same hw)
  clear hw
  go_wp2_with fail
  refine (toIntS_any _ xs1 _ (HN1.out.keep (((K2.out.trans K3.out).trans K4.out).trans K.out)) hl1).mono ?_
  rintro e w5 ⟨uy1, rfl, hY, hb⟩
  obtain ⟨py1, cy1, rfl⟩ := own_slice hY
  have HY1 := Lib.hid (show IOwn w5 w4.heap.size _ xs1 from ownsRow_mono hY K.out.size)
  have K5 := Lib.hid (K.out.below hb)
  clear hY hb K
  go_wp2
  ((try simp only [Exit.inBlock, Exit.then]); refine segPost_nil rfl ?_)
  have K := Lib.hid (KeepG.refl w5)
  clear K
  refine gt_code ?_
  refine gt_region ?_
  simp only [List.size_toArray, List.length_cons, List.length_nil, Nat.reduceAdd, Nat.zero_add, List.range, List.range.loop]
  refine gt_op closedXwr rfl rfl (by kernel_rfl) rfl (z := ?_) (v' := _) (fun u hu => ⟨u, ?_, hu⟩) ?_
  rotate_left
  · skip
    go_simp
    try (with_reducible rfl)
  walk_nrm
  refine gt_op closedXwr rfl rfl (by kernel_rfl) rfl (z := ?_) (v' := _) (fun u hu => ⟨u, ?_, hu⟩) ?_
  rotate_left
  · skip
    go_simp
    try (with_reducible rfl)
  walk_nrm
  refine gt_op closedXwr rfl rfl (by kernel_rfl) rfl (z := ?_) (v' := _) (fun u hu => ⟨u, ?_, hu⟩) ?_
  rotate_left
  · skip
    go_simp
    try (with_reducible rfl)
  walk_nrm
  refine gt_op closedXwr rfl rfl (by kernel_rfl) rfl (z := ?_) (v' := _) (fun u hu => ⟨u, ?_, hu⟩) ?_
  rotate_left
  · skip
    go_simp
    try (with_reducible rfl)
  walk_nrm
  refine gt_op closedXwr rfl rfl (by kernel_rfl) rfl (z := ?_) (v' := _) (fun u hu => ⟨u, ?_, hu⟩) ?_
  rotate_left
  · skip
    go_simp
    try (with_reducible rfl)
  walk_nrm
  refine gt_call rfl rfl rfl (f := 30) (args := #[ux, .slice py0 xs0.length cy0, .slice py1 xs1.length cy1, .int .i64 i0, .int .i64 i1]) (fun u => ⟨?_, ?_⟩) (iWriteG w5 _ _ _ r xs0 xs1 i0 i1 (HX.out.keep (K4.out.trans K5.out)).at (intsAt_own (HY0.out.keep K5.out)) (intsAt_own HY1.out) hl0 hl1) (fun y71 v71 hy => ?_)
  · go_simp
  · simp [go_sem, callFunc, Try.func30, Try.f30]
  unfold WriteG at hy
  rw [HR.out, HC.out] at hy
  obtain ⟨ug, rfl, hG, hK⟩ := hy
  have E := Lib.hid (Ex.make2 K2.out HW.out K3.out K4.out K5.out hK HY0.out HY1.out hG)
  replace HX := Lib.hid (HX.out.keep ((K4.out.trans K5.out).trans hK))
  clear hG hK K2 HW K3 K4 K5 HY0 HY1
  walk_nrm
  refine gt_op closedXwr rfl rfl (by kernel_rfl) rfl (z := ?_) (v' := _) (fun u hu => ⟨u, ?_, hu⟩) ?_
  rotate_left
  · skip
    go_simp
    try (with_reducible rfl)
  walk_nrm
  refine gt_op closedXwr rfl rfl (by kernel_rfl) rfl (z := ?_) (v' := _) (fun u hu => ⟨u, ?_, hu⟩) ?_
  rotate_left
  · skip
    go_simp
    try (with_reducible rfl)
  walk_nrm
  refine gt_op closedXwr rfl rfl (by kernel_rfl) rfl (z := ?_) (v' := _) (fun u hu => ⟨u, ?_, hu⟩) ?_
  rotate_left
  · skip
    go_simp
    try (with_reducible rfl)
  walk_nrm
  refine gt_op closedXwr rfl rfl (by kernel_rfl) rfl (z := ?_) (v' := _) (fun u hu => ⟨u, ?_, hu⟩) ?_
  rotate_left
  · skip
    go_simp
    try (with_reducible rfl)
  walk_nrm
  refine gt_op closedXwr rfl rfl (by kernel_rfl) rfl (z := ?_) (v' := _) (fun u hu => ⟨u, ?_, hu⟩) ?_
  rotate_left
  · skip
    go_simp
    try (with_reducible rfl)
  walk_nrm
  refine gt_region_end ?_
  refine gt_code ?_
  refine gt_wpc closedXwr (plain_of Try.func7) rfl (by kernel_rfl) (fun w hw => ?_)
  replace HX := Lib.hid (HX.out.same hw)
  replace E := Lib.hid (E.out.same hw)
  clear hw
  go_wp2_with fail
  refine (eqReplicaS_any _ _ R R _ E.out.g.at E.out.wat).mono ?_
  rw [decide_eq_true rfl]
  rintro e wg ⟨rfl, hb⟩
  replace HX := Lib.hid (HX.out.below hb (Nat.le_refl _))
  replace E := Lib.hid (E.out.below hb)
  clear hb
  go_wp2
  ((try simp only [Exit.inBlock, Exit.then]); refine segPost_nil rfl ?_)
  refine gt_code ?_
  refine gt_wpc closedXwr (plain_of Try.func7) rfl (by kernel_rfl) (fun w hw => ?_)
  replace HX := Lib.hid (HX.out.same hw)
  replace E := Lib.hid (E.out.same hw)
  clear hw
  go_wp2_with fail
  refine (toReplicaS_any _ r _ (HV.out.keep E.out.kv) hsz).mono ?_
  rintro e wa ⟨ua, rfl, hOa, hb⟩
  have HA := Lib.hid hOa.at
  clear hOa
  replace HX := Lib.hid (HX.out.below hb (Nat.le_refl _))
  replace E := Lib.hid (E.out.below hb)
  clear hb
  go_wp2_with fail
  refine (eqReplicaS_any _ _ r r _ HX.out.at HA.out).mono ?_
  rw [decide_eq_true rfl]
  rintro e wb ⟨rfl, hb⟩
  clear HA
  replace HX := Lib.hid (HX.out.below hb (Nat.le_refl _))
  replace E := Lib.hid (E.out.below hb)
  clear hb
  go_wp2
  ((try simp only [Exit.inBlock, Exit.then]); refine segPost_nil rfl ?_)
  refine gt_code ?_
  refine gt_wpc closedXwr (plain_of Try.func7) rfl (by kernel_rfl) (fun w hw => ?_)
  replace HX := Lib.hid (HX.out.same hw)
  replace E := Lib.hid (E.out.same hw)
  clear hw
  go_wp2_with fail
  refine (toIntS_any _ xs0 _ (HN0.out.keep E.out.kv) hl0).mono ?_
  rintro e wa ⟨ua, rfl, hOa, hb⟩
  have HA := Lib.hid (intsAt_own hOa)
  clear hOa
  replace HX := Lib.hid (HX.out.below hb (Nat.le_refl _))
  replace E := Lib.hid (E.out.below hb)
  clear hb
  go_wp2_with fail
  refine (eqIntS_any _ _ xs0 xs0 _ (intsAt_own E.out.y0) HA.out).mono ?_
  rw [decide_eq_true rfl]
  rintro e wb ⟨rfl, hb⟩
  clear HA
  replace HX := Lib.hid (HX.out.below hb (Nat.le_refl _))
  replace E := Lib.hid (E.out.below hb)
  clear hb
  go_wp2
  ((try simp only [Exit.inBlock, Exit.then]); refine segPost_nil rfl ?_)
  refine gt_code ?_
  refine gt_wpc closedXwr (plain_of Try.func7) rfl (by kernel_rfl) (fun w hw => ?_)
  replace HX := Lib.hid (HX.out.same hw)
  replace E := Lib.hid (E.out.same hw)
  clear hw
  go_wp2_with fail
  refine (toIntS_any _ xs1 _ (HN1.out.keep E.out.kv) hl1).mono ?_
  rintro e wa ⟨ua, rfl, hOa, hb⟩
  have HA := Lib.hid (intsAt_own hOa)
  clear hOa
  replace HX := Lib.hid (HX.out.below hb (Nat.le_refl _))
  replace E := Lib.hid (E.out.below hb)
  clear hb
  go_wp2_with fail
  refine (eqIntS_any _ _ xs1 xs1 _ (intsAt_own E.out.y1) HA.out).mono ?_
  rw [decide_eq_true rfl]
  rintro e wb ⟨rfl, hb⟩
  clear HA
  replace HX := Lib.hid (HX.out.below hb (Nat.le_refl _))
  replace E := Lib.hid (E.out.below hb)
  clear hb
  go_wp2
  ((try simp only [Exit.inBlock, Exit.then]); refine segPost_nil rfl ?_)
  refine gt_code ?_
  refine gt_wpc closedXwr (plain_of Try.func7) rfl (by kernel_rfl) (fun w hw => ?_)
  replace HX := Lib.hid (HX.out.same hw)
  replace E := Lib.hid (E.out.same hw)
  clear hw
  go_wp2
  ((try simp only [Exit.inBlock, Exit.then]); refine segPost_nil rfl ?_)
  have hcr : 1 + 3 * (r.length : Int) ≤ 1000000000000000 := by omega
  refine gt_code ?_
  refine gt_wpc closedXwr (plain_of Try.func7) rfl (by kernel_rfl) (fun w hw => ?_)
  replace HX := Lib.hid (HX.out.same hw)
  replace E := Lib.hid (E.out.same hw)
  clear hw
  go_wp2_with fail
  refine (markReplicaS_any _ r 1 w2.heap.size w3.heap.size _ HX.out HXL.out (by decide) hcr).mono ?_
  rintro e w7 ⟨rfl, -, hb, hk⟩
  replace E := Lib.hid (E.out.markX hb hk)
  clear hb hk HX HXL
  obtain ⟨k0, hk0⟩ : ∃ k : Int, 1 + 3 * (r.length : Int) = k := ⟨_, rfl⟩
  have hk0n : 0 ≤ k0 := by omega
  have hk0m : k0 ≤ 10000000 := by omega
  rw [hk0]
  clear hk0
  go_wp2
  ((try simp only [Exit.inBlock, Exit.then]); refine segPost_nil rfl ?_)
  refine gt_code ?_
  refine gt_wpc closedXwr (plain_of Try.func7) rfl (by kernel_rfl) (fun w hw => ?_)
  replace E := Lib.hid (E.out.same hw)
  clear hw
  go_wp2_with fail
  refine (markIntS_any _ _ xs0 k0 w3.heap.size _ E.out.y0 (by omega) (by omega)).mono ?_
  rintro e w7 ⟨rfl, -, hg⟩
  replace E := Lib.hid (E.out.markY hg)
  clear hg
  obtain ⟨k1, hk1⟩ : ∃ k : Int, k0 + (xs0.length : Int) = k := ⟨_, rfl⟩
  have hk1n : 0 ≤ k1 := by omega
  have hk1m : k1 ≤ 20000000 := by omega
  rw [hk1]
  clear hk1
  go_wp2
  ((try simp only [Exit.inBlock, Exit.then]); refine segPost_nil rfl ?_)
  refine gt_code ?_
  refine gt_wpc closedXwr (plain_of Try.func7) rfl (by kernel_rfl) (fun w hw => ?_)
  replace E := Lib.hid (E.out.same hw)
  clear hw
  go_wp2_with fail
  refine (markIntS_any _ _ xs1 k1 w3.heap.size _ E.out.y0 (by omega) (by omega)).mono ?_
  rintro e w7 ⟨rfl, -, hg⟩
  replace E := Lib.hid (E.out.markY hg)
  clear hg
  obtain ⟨k2, hk2⟩ : ∃ k : Int, k1 + (xs1.length : Int) = k := ⟨_, rfl⟩
  have hk2n : 0 ≤ k2 := by omega
  have hk2m : k2 ≤ 30000000 := by omega
  rw [hk2]
  clear hk2
  go_wp2
  ((try simp only [Exit.inBlock, Exit.then]); refine segPost_nil rfl ?_)
  have hkn : ¬ k2 < 0 := by omega
  refine gt_code ?_
  refine gt_wpc closedXwr (plain_of Try.func7) rfl (by kernel_rfl) (fun w hw => ?_)
  replace E := Lib.hid (E.out.same hw)
  clear hw
  go_wp2_with fail
  refine (eqReplicaS_any _ _ R R _ E.out.g.at E.out.wat).mono ?_
  rw [decide_eq_true rfl]
  rintro e wg ⟨rfl, hb⟩
  replace E := Lib.hid (E.out.below hb)
  clear hb
  go_wp2
  ((try simp only [Exit.inBlock, Exit.then]); refine segPost_nil rfl ?_)
  refine gt_code ?_
  refine gt_wpc closedXwr (plain_of Try.func7) rfl (by kernel_rfl) (fun w hw => ?_)
  replace E := Lib.hid (E.out.same hw)
  clear hw
  go_wp2
  ((try simp only [Exit.inBlock, Exit.then]); refine segPost_nil rfl ?_)
  have hcR : 1 + 3 * (R.length : Int) ≤ 1000000000000000 := by omega
  refine gt_code ?_
  refine gt_wpc closedXwr (plain_of Try.func7) rfl (by kernel_rfl) (fun w hw => ?_)
  replace E := Lib.hid (E.out.same hw)
  clear hw
  go_wp2_with fail
  refine (markReplicaS_any _ R 1 w5.heap.size _ _ E.out.g E.out.gl (by decide) hcR).mono ?_
  rintro e w7 ⟨rfl, hG, hb, -⟩
  replace E := Lib.hid (E.out.markG hb hG)
  clear hb hG
  obtain ⟨mm, hmm⟩ : ∃ k : Int, 1 + 3 * (R.length : Int) = k := ⟨_, rfl⟩
  have hmn : ¬ mm < 0 := by omega
  have hmne : (mm != mm) = false := by simp
  rw [hmm]
  go_wp2
  ((try simp only [Exit.inBlock, Exit.then]); refine segPost_nil rfl ?_)
  refine gt_code ?_
  refine gt_wpc closedXwr (plain_of Try.func7) rfl (by kernel_rfl) (fun w hw => ?_)
  replace E := Lib.hid (E.out.same hw)
  clear hw
  go_wp2
  ((try simp only [Exit.inBlock, Exit.then]); refine segPost_nil rfl ?_)
  refine gt_code ?_
  refine gt_wpc closedXwr (plain_of Try.func7) rfl (by kernel_rfl) (fun w hw => ?_)
  replace E := Lib.hid (E.out.same hw)
  clear hw
  go_wp2_with fail
  refine (heldReplicaS_any _ R.length 1 _ E.out.g.at (by decide) hcR).mono ?_
  rintro e w' ⟨rfl, rfl⟩
  rw [hmm]
  go_wp2
  ((try simp only [Exit.inBlock, Exit.then]); refine segPost_nil rfl ?_)
  refine gt_code ?_
  refine gt_wpc closedXwr (plain_of Try.func7) rfl (by kernel_rfl) (fun w hw => ?_)
  replace E := Lib.hid (E.out.same hw)
  clear hw
  go_wp2
  ((try simp only [Exit.inBlock, Exit.then]); refine segPost_nil rfl ?_)
  refine gt_code ?_
  refine gt_wpc closedXwr (plain_of Try.func7) rfl (by kernel_rfl) (fun w hw => ?_)
  replace E := Lib.hid (E.out.same hw)
  clear hw
  go_wp2
  ((try simp only [Exit.inBlock, Exit.then]); refine segPost_nil rfl ?_)
  refine gt_code ?_
  refine gt_region ?_
  simp only [List.size_toArray, List.length_cons, List.length_nil, Nat.reduceAdd, Nat.zero_add, List.range, List.range.loop]
  obtain ⟨wz, hwz⟩ : ∃ wz, w = wz := ⟨_, rfl⟩
  subst hwz
  refine gt_op closedXwr rfl rfl (by kernel_rfl) rfl (z := ?_) (v' := _) (fun u hu => ⟨u, ?_, hu⟩) ?_
  rotate_left
  · skip
    go_simp
    try (with_reducible rfl)
  walk_nrm
  refine gt_call rfl rfl rfl (f := 18) (args := #[.slice p r.length cap]) (fun u => ⟨?_, ?_⟩) (toRsG w _ r (HV.out.keep E.out.kv) hsz) (fun y80 v80 hy => ?_)
  · go_simp
  · simp [go_sem, callFunc, Try.func18, Try.f18]
  obtain ⟨hA, hK⟩ := hy
  have HA := Lib.hid hA
  replace E := Lib.hid (E.out.keep hK)
  clear hA hK
  walk_nrm
  refine gt_op closedXwr rfl rfl (by kernel_rfl) rfl (z := ?_) (v' := _) (fun u hu => ⟨u, ?_, hu⟩) ?_
  rotate_left
  · skip
    go_simp
    try (with_reducible rfl)
  walk_nrm
  refine gt_call rfl rfl rfl (f := 19) (args := #[.slice q0 xs0.length cq0]) (fun u => ⟨?_, ?_⟩) (toIsG v80 _ xs0 (HN0.out.keep E.out.kv) hl0) (fun y81 v81 hy => ?_)
  · go_simp
  · simp [go_sem, callFunc, Try.func19, Try.f19]
  obtain ⟨hB, hK⟩ := hy
  have HB0 := Lib.hid hB
  replace HA := Lib.hid (HA.out.keep hK)
  replace E := Lib.hid (E.out.keep hK)
  clear hB hK
  walk_nrm
  refine gt_op closedXwr rfl rfl (by kernel_rfl) rfl (z := ?_) (v' := _) (fun u hu => ⟨u, ?_, hu⟩) ?_
  rotate_left
  · skip
    go_simp
    try (with_reducible rfl)
  walk_nrm
  refine gt_call rfl rfl rfl (f := 19) (args := #[.slice q1 xs1.length cq1]) (fun u => ⟨?_, ?_⟩) (toIsG v81 _ xs1 (HN1.out.keep E.out.kv) hl1) (fun y82 v82 hy => ?_)
  · go_simp
  · simp [go_sem, callFunc, Try.func19, Try.f19]
  obtain ⟨hB, hK⟩ := hy
  have HB1 := Lib.hid hB
  replace HA := Lib.hid (HA.out.keep hK)
  replace HB0 := Lib.hid (HB0.out.keep hK)
  replace E := Lib.hid (E.out.keep hK)
  clear hB hK
  walk_nrm
  refine gt_op closedXwr rfl rfl (by kernel_rfl) rfl (z := ?_) (v' := _) (fun u hu => ⟨u, ?_, hu⟩) ?_
  rotate_left
  · skip
    go_simp
    try (with_reducible rfl)
  walk_nrm
  refine gt_op closedXwr rfl rfl (by kernel_rfl) rfl (z := ?_) (v' := _) (fun u hu => ⟨u, ?_, hu⟩) ?_
  rotate_left
  · skip
    go_simp
    try (with_reducible rfl)
  walk_nrm
  refine gt_call rfl rfl rfl (f := 30) (args := #[y80, y81, y82, .int .i64 i0, .int .i64 i1]) (fun u => ⟨?_, ?_⟩) (iWriteG v82 _ _ _ r xs0 xs1 i0 i1 HA.out.at HB0.out HB1.out hl0 hl1) (fun y90 v90 hy => ?_)
  · go_simp
  · simp [go_sem, callFunc, Try.func30, Try.f30]
  unfold WriteG at hy
  rw [HR.out, HC.out] at hy
  obtain ⟨uh, rfl, hH, hK⟩ := hy
  have HH := Lib.hid hH.at
  replace E := Lib.hid (E.out.keep hK)
  clear hH hK HA HB0 HB1
  walk_nrm
  refine gt_op closedXwr rfl rfl (by kernel_rfl) rfl (z := ?_) (v' := _) (fun u hu => ⟨u, ?_, hu⟩) ?_
  rotate_left
  · skip
    go_simp
    try (with_reducible rfl)
  walk_nrm
  refine gt_op closedXwr rfl rfl (by kernel_rfl) rfl (z := ?_) (v' := _) (fun u hu => ⟨u, ?_, hu⟩) ?_
  rotate_left
  · skip
    go_simp
    try (with_reducible rfl)
  walk_nrm
  refine gt_op closedXwr rfl rfl (by kernel_rfl) rfl (z := ?_) (v' := _) (fun u hu => ⟨u, ?_, hu⟩) ?_
  rotate_left
  · skip
    go_simp
    try (with_reducible rfl)
  walk_nrm
  refine gt_op closedXwr rfl rfl (by kernel_rfl) rfl (z := ?_) (v' := _) (fun u hu => ⟨u, ?_, hu⟩) ?_
  rotate_left
  · skip
    go_simp
    try (with_reducible rfl)
  walk_nrm
  refine gt_op closedXwr rfl rfl (by kernel_rfl) rfl (z := ?_) (v' := _) (fun u hu => ⟨u, ?_, hu⟩) ?_
  rotate_left
  · skip
    go_simp
    try (with_reducible rfl)
  walk_nrm
  refine gt_region_end ?_
  refine gt_wpc closedXwr (plain_of Try.func7) rfl (by kernel_rfl) (fun w hw => ?_)
  replace HH := Lib.hid (HH.out.same hw)
  replace E := Lib.hid (E.out.same hw)
  clear hw
  go_wp2_with fail
  refine (eqReplicaS_any _ _ R R _ HH.out E.out.wat).mono ?_
  rw [decide_eq_true rfl]
  rintro e wg ⟨rfl, hb⟩
  replace E := Lib.hid (E.out.below hb)
  clear hb
  go_wp2_with fail
  refine (heldReplicaS_any _ R.length 1 _ E.out.g.at (by decide) hcR).mono ?_
  rintro e w' ⟨rfl, rfl⟩
  rw [hmm]
  go_wp2
  ((try simp only [Exit.inBlock, Exit.then]); refine segPost_ret rfl (gt_returned Try.func7 rfl rfl (results_tmp rfl _ _ _) ?_))
  exact ⟨rfl, E.out.kv⟩
end Go.Proofs.Ytkefnmmpipeppaa
