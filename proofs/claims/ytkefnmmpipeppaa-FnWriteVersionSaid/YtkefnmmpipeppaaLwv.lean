/-
  The law FnWriteVersion, beside goroutines that only leave.
-/
import Derived.Test.YtkefnmmpipeppaaGx
import Derived.Test.YtkefnmmpipeppaaDrw
import Derived.Test.YtkefnmmpipeppaaLpo
set_option linter.unusedSimpArgs false
set_option linter.unusedVariables false
set_option linter.unusedSectionVars false
namespace Go.Proofs.Ytkefnmmpipeppaa
open Go.Conc Go.ConcN Go.RowKit Go.Conc.Lib Go.ConcR.Gen Go.ConcN.Gen Go.Proofs.Ytkefnmmpipeppaa.Rg
open Go.ConcR (KK wgBlock WgAt stA smA rd wr mk Payload Aside2 DC0 Bk)
variable [Kept]

theorem closedDW : Closed Try.prog [31, 32, 33, 35, 12, 29, 39, 41, 51, 50, 40, 49, 42, 60, 52, 34, 53, 13, 14, 15, 26, 28, 48, 46, 47, 36, 16, 37, 44, 43, 54] := by
  intro f hf
  simp only [List.mem_cons, List.not_mem_nil, or_false] at hf
  rcases hf with rfl | rfl | rfl | rfl | rfl | rfl | rfl | rfl | rfl | rfl | rfl | rfl | rfl | rfl | rfl | rfl | rfl | rfl | rfl | rfl | rfl | rfl | rfl | rfl | rfl | rfl | rfl | rfl | rfl | rfl | rfl <;> kernel_rfl
theorem rOlder_self (x : Tr) : rOlder x x = false := by unfold rOlder; simp
theorem rOlder_asym {x y : Tr} (h : rOlder x y = true) : rOlder y x = false := by
  unfold rOlder at *
  simp only [Bool.or_eq_true, Bool.and_eq_true, decide_eq_true_eq, Bool.or_eq_false_iff, Bool.and_eq_false_iff, decide_eq_false_iff_not] at *
  omega
theorem rOlder_put (x y : Tr) : rOlder (rPut x y) x = false := by
  rcases h : rOlder y x with _ | _
  · rw [rPut_new h]; exact h
  · rw [rPut_old h]; exact rOlder_self x
theorem rOlder_put2 (x y : Tr) : rOlder (rPut x y) y = false := by
  rcases h : rOlder y x with _ | _
  · rw [rPut_new h]; exact rOlder_self y
  · rw [rPut_old h]; exact rOlder_asym h
set_option maxRecDepth 100000 in
set_option maxHeartbeats 16000000 in
theorem fnWriteVersionG (v : World) (vc : Value) (hc : CodeAt v vc) :
    CallsM Try.prog 9 #[vc] v fun z u => z = .bool true ∧ KeepG v u := by
  refine callsM_of_gt Try.func9 rfl fun cs => ?_
  walk_nrmf Try.f9
  have HC := Lib.hid hc
  obtain ⟨pb, n, cap, rfl, hn1, hn2, hn3⟩ := hc
  clear hn3
  unfold maxLen at hn2
  refine gt_code ?_
  refine gt_wpc closedDW (plain_of Try.func9) rfl (by kernel_rfl) (fun w hw => ?_)
  have K1 := Lib.hid (KeepG.of_same hw)
  have HC1 := Lib.hid (HC.out.same hw)
  clear hw HC
  go_wp2
  ((try simp only [Exit.inBlock, Exit.then]); refine segPost_nil rfl ?_)
  refine gt_code ?_
  obtain ⟨v1, hv1⟩ : ∃ v1, w = v1 := ⟨_, rfl⟩
  subst hv1
  refine gt_wpc closedDW (plain_of Try.func9) rfl (by kernel_rfl) (fun w hw => ?_)
  have K2 := Lib.hid (K1.out.same hw)
  have HC2 := Lib.hid (HC1.out.same hw)
  clear hw K1 HC1
  by_cases hbig : (1048576 : Int) < (n : Int)
  · go_wp2
    ((try simp only [Exit.inBlock, Exit.then]); refine segPost_ret rfl (gt_returned Try.func9 rfl rfl (results_tmp rfl _ _ _) ?_))
    exact ⟨rfl, K2.out⟩
  go_wp2
  ((try simp only [Exit.inBlock, Exit.then]); refine segPost_nil rfl ?_)
  refine gt_code ?_
  refine gt_wpc closedDW (plain_of Try.func9) rfl (by kernel_rfl) (fun w hw => ?_)
  have K3 := Lib.hid (K2.out.same hw)
  have HC3 := Lib.hid (HC2.out.same hw)
  clear hw K2 HC2
  go_wp2_with fail
  refine (drawWrite_any _ _ HC3.out).mono ?_
  rintro e w1 ⟨u, xs, z, ks, t, ts, wi, vl, rfl, hu, hz, ht, hl1, hl2, hl3, hl4, hb⟩
  have K4 := Lib.hid (K3.out.below hb)
  have HU4 := Lib.hid hu
  have HZ4 := Lib.hid hz
  have HT4 := Lib.hid ht
  obtain ⟨pu, cu, rfl, hu1, hu2⟩ := hu.form
  clear hb K3 HC3 hu hz ht
  go_wp2
  ((try simp only [Exit.inBlock, Exit.then]); refine segPost_nil rfl ?_)
  obtain ⟨v4, hv4⟩ : ∃ v4, w1 = v4 := ⟨_, rfl⟩
  subst hv4
  refine gt_code ?_
  refine gt_region ?_
  simp only [List.size_toArray, List.length_cons, List.length_nil, Nat.reduceAdd, Nat.zero_add, List.range, List.range.loop]
  refine gt_op closedDW rfl rfl (by kernel_rfl) rfl (z := ?_) (v' := _) (fun u hu => ⟨u, ?_, hu⟩) ?_
  rotate_left
  · skip
    go_simp
    try (with_reducible rfl)
  walk_nrm
  refine gt_op closedDW rfl rfl (by kernel_rfl) rfl (z := ?_) (v' := _) (fun u hu => ⟨u, ?_, hu⟩) ?_
  rotate_left
  · skip
    go_simp
    try (with_reducible rfl)
  walk_nrm
  refine gt_op closedDW rfl rfl (by kernel_rfl) rfl (z := ?_) (v' := _) (fun u hu => ⟨u, ?_, hu⟩) ?_
  rotate_left
  · skip
    go_simp
    try (with_reducible rfl)
  walk_nrm
  refine gt_op closedDW rfl rfl (by kernel_rfl) rfl (z := ?_) (v' := _) (fun u hu => ⟨u, ?_, hu⟩) ?_
  rotate_left
  · skip
    go_simp
    try (with_reducible rfl)
  walk_nrm
  refine gt_op closedDW rfl rfl (by kernel_rfl) rfl (z := ?_) (v' := _) (fun u hu => ⟨u, ?_, hu⟩) ?_
  rotate_left
  · skip
    go_simp
    try (with_reducible rfl)
  walk_nrm
  refine gt_call rfl rfl rfl (f := 30) (args := #[.slice pu xs.length cu, z, t, .int .i64 wi, .int .i64 vl]) (fun u => ⟨?_, ?_⟩) (iWriteG w1 _ _ _ xs ks ts wi vl HU4.out HZ4.out HT4.out (by omega) (by omega)) (fun y5 v5 hy => ?_)
  · go_simp
  · simp [go_sem, callFunc, Try.func30, Try.f30]
  obtain ⟨y, rfl, hO5, hK5⟩ := hy
  have K5 := Lib.hid (K4.out.trans hK5)
  have HO5 := Lib.hid hO5
  have HU5 := Lib.hid (HU4.out.keep hK5)
  have HZ5 := Lib.hid (HZ4.out.keep hK5)
  have HT5 := Lib.hid (HT4.out.keep hK5)
  clear hO5 hK5 HU4 HZ4 HT4 K4
  walk_nrm
  refine gt_op closedDW rfl rfl (by kernel_rfl) rfl (z := ?_) (v' := _) (fun u hu => ⟨u, ?_, hu⟩) ?_
  rotate_left
  · skip
    go_simp
    try (with_reducible rfl)
  walk_nrm
  refine gt_op closedDW rfl rfl (by kernel_rfl) rfl (z := ?_) (v' := _) (fun u hu => ⟨u, ?_, hu⟩) ?_
  rotate_left
  · skip
    go_simp
    try (with_reducible rfl)
  walk_nrm
  refine gt_op closedDW rfl rfl (by kernel_rfl) rfl (z := ?_) (v' := _) (fun u hu => ⟨u, ?_, hu⟩) ?_
  rotate_left
  · skip
    go_simp
    try (with_reducible rfl)
  walk_nrm
  refine gt_op closedDW rfl rfl (by kernel_rfl) rfl (z := ?_) (v' := _) (fun u hu => ⟨u, ?_, hu⟩) ?_
  rotate_left
  · skip
    go_simp
    try (with_reducible rfl)
  walk_nrm
  refine gt_op closedDW rfl rfl (by kernel_rfl) rfl (z := ?_) (v' := _) (fun u hu => ⟨u, ?_, hu⟩) ?_
  rotate_left
  · skip
    go_simp
    try (with_reducible rfl)
  walk_nrm
  refine gt_region_end ?_
  refine gt_code ?_
  refine gt_wpc closedDW (plain_of Try.func9) rfl (by kernel_rfl) (fun w hw => ?_)
  have K6 := Lib.hid (K5.out.same hw)
  have HO6 := Lib.hid (HO5.out.same hw)
  have HU6 := Lib.hid (HU5.out.same hw)
  have HZ6 := Lib.hid (HZ5.out.same hw)
  have HT6 := Lib.hid (HT5.out.same hw)
  clear hw K5 HO5 HU5 HZ5 HT5
  go_wp2_with fail
  refine (sWrite_any _ _ _ xs ks ts wi vl _ HU6.out HZ6.out HT6.out (by omega) (by omega) (by omega)).mono ?_
  rintro e w7 ⟨y', rfl, hO7, hb7⟩
  have K7 := Lib.hid (K6.out.below hb7)
  have HO7 := Lib.hid (HO6.out.below hb7 (Nat.le_refl _))
  have HQ7 := Lib.hid hO7
  have HU7 := Lib.hid (HU6.out.below hb7 (Nat.le_refl _))
  have HZ7 := Lib.hid (HZ6.out.below hb7 (Nat.le_refl _))
  have HT7 := Lib.hid (HT6.out.below hb7 (Nat.le_refl _))
  clear hO7 hb7 K6 HO6 HU6 HZ6 HT6
  go_wp2
  ((try simp only [Exit.inBlock, Exit.then]); refine segPost_nil rfl ?_)
  refine gt_code ?_
  refine gt_wpc closedDW (plain_of Try.func9) rfl (by kernel_rfl) (fun w hw => ?_)
  have K8 := Lib.hid (K7.out.same hw)
  have HO8 := Lib.hid (HO7.out.same hw)
  have HQ8 := Lib.hid (HQ7.out.same hw)
  have HU8 := Lib.hid (HU7.out.same hw)
  have HZ8 := Lib.hid (HZ7.out.same hw)
  have HT8 := Lib.hid (HT7.out.same hw)
  clear hw K7 HO7 HQ7 HU7 HZ7 HT7
  rcases hok : wrB xs ks ts wi vl with _ | _
  · have HOK := Lib.hid hok
    clear hok
    go_wp2_with (go_at_call 13; with_reducible refine (sameReplicas_any _ _ _ _ _ HO8.out.at HQ8.out.at).mono ?_; rw [decide_eq_true rfl]; rintro e w9 ⟨rfl, hb9⟩; have K9 := Lib.hid (K8.out.below hb9); have HO9 := Lib.hid (HO8.out.below hb9 (Nat.le_refl _)); have HQ9 := Lib.hid (HQ8.out.below hb9 (Nat.le_refl _)))
    refine (sameReplicas_any _ _ _ _ _ HO9.out.at HQ9.out.at).mono ?_
    rw [decide_eq_true rfl]
    rintro e wA ⟨rfl, hbA⟩
    go_wp2
    ((try simp only [Exit.inBlock, Exit.then]); refine segPost_ret rfl (gt_returned Try.func9 rfl rfl (results_tmp rfl _ _ _) ?_))
    exact ⟨rfl, K9.out.below hbA⟩
  have HOK := Lib.hid hok
  clear hok
  go_wp2_with (go_at_call 13; with_reducible refine (sameReplicas_any _ _ _ _ _ HO8.out.at HQ8.out.at).mono ?_; rw [decide_eq_true rfl]; rintro e w9 ⟨rfl, hb9⟩)
  have K9 := Lib.hid (K8.out.below hb9)
  have HO9 := Lib.hid (show TrsOwn w9 w1.heap.size 26 y (rPutAll (wrX xs ks wi vl) xs ts) from by rw [← wrR_yes HOK.out]; exact HO8.out.below hb9 (Nat.le_refl _))
  have HU9 := Lib.hid (HU8.out.below hb9 (Nat.le_refl _))
  have HZ9 := Lib.hid (HZ8.out.below hb9 (Nat.le_refl _))
  have HT9 := Lib.hid (HT8.out.below hb9 (Nat.le_refl _))
  clear hb9 K8 HO8 HQ8 HU8 HZ8 HT8
  ((try simp only [Exit.inBlock, Exit.then]); refine segPost_nil rfl ?_)
  refine gt_wpc closedDW (plain_of Try.func9) rfl (by kernel_rfl) (fun w hw => ?_)
  have KA := Lib.hid (K9.out.same hw)
  have HOA := Lib.hid (HO9.out.same hw)
  have HUA := Lib.hid (HU9.out.same hw)
  have HZA := Lib.hid (HZ9.out.same hw)
  have HTA := Lib.hid (HT9.out.same hw)
  clear hw K9 HO9 HU9 HZ9 HT9
  have HPT := Lib.hid (show partB xs ts (wrX xs ks wi vl) = true by have := HOK.out; unfold wrB at this; simp only [Bool.and_eq_true] at this; exact this.2)
  have HASK := Lib.hid (show askB xs ks = true by have := HOK.out; unfold wrB at this; simp only [Bool.and_eq_true] at this; exact this.1.1)
  have HLR := Lib.hid (show latR xs ks = rLat xs ks by unfold latR; rw [HASK.out]; rfl)
  have HVB := Lib.hid (show regB (rPutAll (wrX xs ks wi vl) xs ts) = true by have := HPT.out; unfold partB at this; simp only [Bool.and_eq_true] at this; exact this.2)
  obtain ⟨ha1, ha2⟩ := rOk_a (rLat_ok HASK.out)
  have hwr : IntKind.i64.wrap ((rLat xs ks).a + 1) = (rLat xs ks).a + 1 := IntWalk.i64_in _ (by omega)
  obtain ⟨g, cg, rfl, hg1, hg2, hg3, hg4⟩ := HOA.out.form (by rw [rPutAll_length]; omega)
  have HPL := Lib.hid (rPutAll_length (wrX xs ks wi vl) xs ts)
  have hg1' : xs.length ≤ cg := by rw [HPL.out] at hg1; exact hg1
  rw [HPL.out]
  clear hg1
  go_wp2_with fail
  refine (iRLat_any _ _ xs ks _ HUA.out HZA.out (by omega)).mono ?_
  rw [HASK.out, HLR.out]
  rintro e wB ⟨rfl, hbB⟩
  have KB := Lib.hid (KA.out.below hbB)
  have hb12 := (Below.refl wB.heap.size wB).alloc (Nat.le_refl _) (.cells #[.int .i64 (rLat xs ks).a, .int .i64 (rLat xs ks).b, .int .i64 (rLat xs ks).c] 26)
  have hx12 := heap_alloc_new wB (.cells #[.int .i64 (rLat xs ks).a, .int .i64 (rLat xs ks).b, .int .i64 (rLat xs ks).c] 26)
  obtain ⟨z0, z1, z2⟩ := cells3 hx12
  have hs12 : (wB.alloc (.cells #[.int .i64 (rLat xs ks).a, .int .i64 (rLat xs ks).b, .int .i64 (rLat xs ks).c] 26)).heap.size = wB.heap.size + 1 := by simp
  have hb14 := hb12.alloc hb12.size (.cells #[.int .i64 ((rLat xs ks).a + 1), .int .i64 wi, .int .i64 vl] 26)
  have hx14 := heap_alloc_new (wB.alloc (.cells #[.int .i64 (rLat xs ks).a, .int .i64 (rLat xs ks).b, .int .i64 (rLat xs ks).c] 26)) (.cells #[.int .i64 ((rLat xs ks).a + 1), .int .i64 wi, .int .i64 vl] 26)
  have hs14 : ((wB.alloc (.cells #[.int .i64 (rLat xs ks).a, .int .i64 (rLat xs ks).b, .int .i64 (rLat xs ks).c] 26)).alloc (.cells #[.int .i64 ((rLat xs ks).a + 1), .int .i64 wi, .int .i64 vl] 26)).heap.size = wB.heap.size + 2 := by simp
  rw [hs12] at hx14
  have HBD := Lib.hid (hbB.trans (hb14.mono hbB.size))
  have HX14 := Lib.hid hx14
  have hsB := hbB.size
  clear hb12 hx12 hb14 hx14 hbB
  go_wp2
  obtain ⟨A, hA⟩ : ∃ A, wB.heap.size = A := ⟨_, rfl⟩
  rw [hA] at hs12 hs14 hsB HX14 ⊢
  obtain ⟨wD, hwD⟩ : ∃ wD, ((wB.alloc (.cells #[.int .i64 (rLat xs ks).a, .int .i64 (rLat xs ks).b, .int .i64 (rLat xs ks).c] 26)).alloc (.cells #[.int .i64 ((rLat xs ks).a + 1), .int .i64 wi, .int .i64 vl] 26)) = wD := ⟨_, rfl⟩
  rw [hwD] at HX14 HBD hs14 ⊢
  clear hwD z0 z1 z2 hs12
  go_loopg [2, 15] xs.length (fun m _ i wq => ∃ k : Nat, k ≤ xs.length ∧ m = xs.length - k ∧ i = .int .i64 k ∧ Hid (Below wD.heap.size wD wq))
  case atStart => exact ⟨0, Nat.zero_le _, rfl, rfl, Lib.hid (Below.refl _ _)⟩
  case round =>
    obtain ⟨k, hk, rfl, rfl, HB⟩ := hrel
    have HBB := Lib.hid (HBD.out.trans (HB.out.mono HBD.out.size))
    by_cases hlt : k < xs.length
    · have hlt' : (k : Int) < (xs.length : Int) := by omega
      have HOW := Lib.hid (HOA.out.below HBB.out (Nat.le_refl _))
      have HTW := Lib.hid (HTA.out.below HBB.out (Nat.le_refl _))
      obtain ⟨bu, ou, rfl, hbu, u0, u1, u2⟩ := (HUA.out.below HBB.out (Nat.le_refl _)).tr hlt
      obtain ⟨o0, o1, o2, -, hgl, -⟩ := HOW.out.cells (k := k) (by rw [HPL.out]; exact hlt)
      obtain ⟨x0, x1, x2⟩ := cells3 ((HB.out.block (A + 1) (by omega)).trans HX14.out)
      have hAl : A + 1 < wr.heap.size := Nat.lt_of_lt_of_le (by omega) HB.out.size
      rw [rPutAll_get _ _ _ hlt] at o0 o1 o2
      obtain ⟨y, hy⟩ : ∃ y, xs.getD k default = y := ⟨_, rfl⟩
      rw [hy] at u0 u1 u2 o0 o1 o2
      clear hy
      by_cases hm : (k : Int) ∈ ts
      · rw [if_pos hm] at o0 o1 o2
        have HM := Lib.hid hm
        obtain ⟨q, hqe⟩ : ∃ q, rPut (wrX xs ks wi vl) y = q := ⟨_, rfl⟩
        have HQX := Lib.hid (show rOlder q (wrX xs ks wi vl) = false by rw [← hqe]; exact rOlder_put _ _)
        have HQY := Lib.hid (show rOlder q y = false by rw [← hqe]; exact rOlder_put2 _ _)
        rw [hqe] at o0 o1 o2
        clear hm hqe
        go_wp2_with fail
        refine wp_region_held_drew (S := fun w' => Below (wr).heap.size wr w') (by kernel_rfl) (Below.refl _ wr).drew (fun hHeld => ?_)
        refine wpAnyH_take (i := 0) (v := ?_) rfl (by kernel_rfl) (by kernel_rfl) (by kernel_rfl) (fun _ _ _ h => h) (Or.inl ⟨by rfl, ?_⟩) (by assumption) ?_
        rotate_left
        · (intro wz hSw; clear hSw; have hq := neq_same y y rfl; have i0 : (0 : Int) ≤ (k : Int) := (by omega); have i1 : (k : Int) < (xs.length : Int) := hlt'; go_simp; try (with_reducible rfl))
        simp only [Act.put, List.getElem_toArray, List.getElem_cons_zero, List.setIfInBounds_toArray, List.set_cons_zero, List.set_cons_succ]
        refine wpAnyH_take (i := 1) (v := ?_) rfl (by kernel_rfl) (by kernel_rfl) (by kernel_rfl) (fun _ _ _ h => h) (Or.inl ⟨by rfl, ?_⟩) (by assumption) ?_
        rotate_left
        · (intro wz hSw; clear hSw; have hq := neq_same y y rfl; have i0 : (0 : Int) ≤ (k : Int) := (by omega); have i1 : (k : Int) < (xs.length : Int) := hlt'; go_simp; try (with_reducible rfl))
        simp only [Act.put, List.getElem_toArray, List.getElem_cons_zero, List.getElem_cons_succ, List.setIfInBounds_toArray, List.set_cons_zero, List.set_cons_succ]
        refine wpAnyH_ready (rs := [2]) (by kernel_rfl) (by simp) ?_
        refine AllReadyH.cons rfl (fun K hK => ?_) AllReadyH.nil
        rw [if_pos (by rfl)]
        go_wp2_with (go_at_call 14; refine (hasInt_is _ ts _ true (decide_eq_true HM.out) _ (HTW.out.below hHeld (Nat.le_refl _))).mono ?_; rintro e wq1 ⟨rfl, hwq1⟩; have hbq : Below wr.drew.heap.size wr.drew wq1 := hwq1 ▸ Below.refl _ _)
        refine hK.out _ _ (hHeld.trans (hbq.mono hHeld.size)) (fun hHeld => ?_)
        clear hK K hbq
        refine wpAnyH_take (i := 3) (v := ?_) rfl (by kernel_rfl) (by kernel_rfl) (by kernel_rfl) (fun _ _ _ h => h) (Or.inl ⟨by rfl, ?_⟩) (by assumption) ?_
        rotate_left
        · (intro wz hSw; clear hSw; have hq := neq_same y y rfl; have i0 : (0 : Int) ≤ (k : Int) := (by omega); have i1 : (k : Int) < (xs.length : Int) := hlt'; go_simp; try (with_reducible rfl))
        simp only [Act.put, List.getElem_toArray, List.getElem_cons_zero, List.getElem_cons_succ, List.setIfInBounds_toArray, List.set_cons_zero, List.set_cons_succ]
        refine wpAnyH_take (i := 4) (v := ?_) rfl (by kernel_rfl) (by kernel_rfl) (by kernel_rfl) (fun _ _ _ h => h) (Or.inl ⟨by rfl, ?_⟩) (by assumption) ?_
        rotate_left
        · (intro wz hSw; clear hSw; have hq := neq_same y y rfl; have i0 : (0 : Int) ≤ (k : Int) := (by omega); have i1 : (k : Int) < (xs.length : Int) := hlt'; go_simp; try (with_reducible rfl))
        simp only [Act.put, List.getElem_toArray, List.getElem_cons_zero, List.getElem_cons_succ, List.setIfInBounds_toArray, List.set_cons_zero, List.set_cons_succ]
        refine wpAnyH_take (i := 5) (v := ?_) rfl (by kernel_rfl) (by kernel_rfl) (by kernel_rfl) (fun _ _ _ h => h) (Or.inl ⟨by rfl, ?_⟩) (by assumption) ?_
        rotate_left
        · (intro wz hSw; clear hSw; have hq := neq_same y y rfl; have i0 : (0 : Int) ≤ (k : Int) := (by omega); have i1 : (k : Int) < (xs.length : Int) := hlt'; go_simp; try (with_reducible rfl))
        simp only [Act.put, List.getElem_toArray, List.getElem_cons_zero, List.getElem_cons_succ, List.setIfInBounds_toArray, List.set_cons_zero, List.set_cons_succ]
        refine wpAnyH_take (i := 6) (v := ?_) rfl (by kernel_rfl) (by kernel_rfl) (by kernel_rfl) (fun _ _ _ h => h) (Or.inl ⟨by rfl, ?_⟩) (by assumption) ?_
        rotate_left
        · (intro wz hSw; clear hSw; have hq := neq_same y y rfl; have i0 : (0 : Int) ≤ (k : Int) := (by omega); have i1 : (k : Int) < (xs.length : Int) := hlt'; go_simp; try (with_reducible rfl))
        simp only [Act.put, List.getElem_toArray, List.getElem_cons_zero, List.getElem_cons_succ, List.setIfInBounds_toArray, List.set_cons_zero, List.set_cons_succ]
        refine wpAnyH_take (i := 7) (v := ?_) rfl (by kernel_rfl) (by kernel_rfl) (by kernel_rfl) (fun _ _ _ h => h) (Or.inl ⟨by rfl, ?_⟩) (by assumption) ?_
        rotate_left
        · (intro wz hSw; have s0 := (hSw.cell (p := ⟨bu, ou + k * 3, none⟩) hbu).trans u0; have s1 := (hSw.cell (p := ⟨bu, ou + k * 3 + 1, none⟩) hbu).trans u1; have s2 := (hSw.cell (p := ⟨bu, ou + k * 3 + 2, none⟩) hbu).trans u2; have s3 := (hSw.cell (p := ⟨A + 1, 0, none⟩) hAl).trans x0; have s4 := (hSw.cell (p := ⟨A + 1, 1, none⟩) hAl).trans x1; have s5 := (hSw.cell (p := ⟨A + 1, 2, none⟩) hAl).trans x2; have s6 := (hSw.cell (p := ⟨g, k * 3, none⟩) hgl).trans o0; have s7 := (hSw.cell (p := ⟨g, k * 3 + 1, none⟩) hgl).trans o1; have s8 := (hSw.cell (p := ⟨g, k * 3 + 2, none⟩) hgl).trans o2; have hq := neq_same y y rfl; have i0 : (0 : Int) ≤ (k : Int) := (by omega); have i1 : (k : Int) < (xs.length : Int) := hlt'; go_simp; try (with_reducible rfl))
        simp only [Act.put, List.getElem_toArray, List.getElem_cons_zero, List.getElem_cons_succ, List.setIfInBounds_toArray, List.set_cons_zero, List.set_cons_succ]
        refine wpAnyH_take (i := 8) (v := ?_) rfl (by kernel_rfl) (by kernel_rfl) (by kernel_rfl) (fun _ _ _ h => h) (Or.inl ⟨by rfl, ?_⟩) (by assumption) ?_
        rotate_left
        · (intro wz hSw; have s0 := (hSw.cell (p := ⟨bu, ou + k * 3, none⟩) hbu).trans u0; have s1 := (hSw.cell (p := ⟨bu, ou + k * 3 + 1, none⟩) hbu).trans u1; have s2 := (hSw.cell (p := ⟨bu, ou + k * 3 + 2, none⟩) hbu).trans u2; have s3 := (hSw.cell (p := ⟨A + 1, 0, none⟩) hAl).trans x0; have s4 := (hSw.cell (p := ⟨A + 1, 1, none⟩) hAl).trans x1; have s5 := (hSw.cell (p := ⟨A + 1, 2, none⟩) hAl).trans x2; have s6 := (hSw.cell (p := ⟨g, k * 3, none⟩) hgl).trans o0; have s7 := (hSw.cell (p := ⟨g, k * 3 + 1, none⟩) hgl).trans o1; have s8 := (hSw.cell (p := ⟨g, k * 3 + 2, none⟩) hgl).trans o2; have hq := neq_same y y rfl; have i0 : (0 : Int) ≤ (k : Int) := (by omega); have i1 : (k : Int) < (xs.length : Int) := hlt'; go_simp; try (with_reducible rfl))
        simp only [Act.put, List.getElem_toArray, List.getElem_cons_zero, List.getElem_cons_succ, List.setIfInBounds_toArray, List.set_cons_zero, List.set_cons_succ]
        refine wpAnyH_ready (rs := [9]) (by kernel_rfl) (by simp) ?_
        refine AllReadyH.cons rfl (fun K hK => ?_) AllReadyH.nil
        rw [if_pos (by rfl)]
        go_wp2_with (go_at_call 15; refine (lOlder_any q ⟨(rLat xs ks).a + 1, wi, vl⟩ _).mono ?_; rw [show rOlder q ⟨(rLat xs ks).a + 1, wi, vl⟩ = false from HQX.out]; rintro e wq2 ⟨rfl, hbq⟩)
        refine hK.out _ _ (hHeld.trans (hbq.mono hHeld.size)) (fun hHeld => ?_)
        clear hK K hbq
        refine wpAnyH_take (i := 10) (v := ?_) rfl (by kernel_rfl) (by kernel_rfl) (by kernel_rfl) (fun _ _ _ h => h) (Or.inl ⟨by rfl, ?_⟩) (by assumption) ?_
        rotate_left
        · (intro wz hSw; clear hSw; have hq := neq_same y y rfl; have i0 : (0 : Int) ≤ (k : Int) := (by omega); have i1 : (k : Int) < (xs.length : Int) := hlt'; go_simp; try (with_reducible rfl))
        simp only [Act.put, List.getElem_toArray, List.getElem_cons_zero, List.getElem_cons_succ, List.setIfInBounds_toArray, List.set_cons_zero, List.set_cons_succ]
        refine wpAnyH_take (i := 11) (v := ?_) rfl (by kernel_rfl) (by kernel_rfl) (by kernel_rfl) (fun _ _ _ h => h) (Or.inl ⟨by rfl, ?_⟩) (by assumption) ?_
        rotate_left
        · (intro wz hSw; clear hSw; have hq := neq_same y y rfl; have i0 : (0 : Int) ≤ (k : Int) := (by omega); have i1 : (k : Int) < (xs.length : Int) := hlt'; go_simp; try (with_reducible rfl))
        simp only [Act.put, List.getElem_toArray, List.getElem_cons_zero, List.getElem_cons_succ, List.setIfInBounds_toArray, List.set_cons_zero, List.set_cons_succ]
        refine wpAnyH_take (i := 12) (v := ?_) rfl (by kernel_rfl) (by kernel_rfl) (by kernel_rfl) (fun _ _ _ h => h) (Or.inl ⟨by rfl, ?_⟩) (by assumption) ?_
        rotate_left
        · (intro wz hSw; clear hSw; have hq := neq_same y y rfl; have i0 : (0 : Int) ≤ (k : Int) := (by omega); have i1 : (k : Int) < (xs.length : Int) := hlt'; go_simp; try (with_reducible rfl))
        simp only [Act.put, List.getElem_toArray, List.getElem_cons_zero, List.getElem_cons_succ, List.setIfInBounds_toArray, List.set_cons_zero, List.set_cons_succ]
        refine wpAnyH_take (i := 13) (v := ?_) rfl (by kernel_rfl) (by kernel_rfl) (by kernel_rfl) (fun _ _ _ h => h) (Or.inl ⟨by rfl, ?_⟩) (by assumption) ?_
        rotate_left
        · (intro wz hSw; clear hSw; have hq := neq_same y y rfl; have i0 : (0 : Int) ≤ (k : Int) := (by omega); have i1 : (k : Int) < (xs.length : Int) := hlt'; go_simp; try (with_reducible rfl))
        simp only [Act.put, List.getElem_toArray, List.getElem_cons_zero, List.getElem_cons_succ, List.setIfInBounds_toArray, List.set_cons_zero, List.set_cons_succ]
        refine wpAnyH_ready (rs := [14]) (by kernel_rfl) (by simp) ?_
        refine AllReadyH.cons rfl (fun K hK => ?_) AllReadyH.nil
        rw [if_pos (by rfl)]
        go_wp2_with (go_at_call 14; refine (hasInt_is _ ts _ true (decide_eq_true HM.out) _ (HTW.out.below hHeld (Nat.le_refl _))).mono ?_; rintro e wq3 ⟨rfl, hwq3⟩; have hbq : Below wq2.heap.size wq2 wq3 := hwq3 ▸ Below.refl _ _)
        refine hK.out _ _ (hHeld.trans (hbq.mono hHeld.size)) (fun hHeld => ?_)
        clear hK K hbq
        refine wpAnyH_take (i := 15) (v := ?_) rfl (by kernel_rfl) (by kernel_rfl) (by kernel_rfl) (fun _ _ _ h => h) (Or.inl ⟨by rfl, ?_⟩) (by assumption) ?_
        rotate_left
        · (intro wz hSw; clear hSw; have hq := neq_same y y rfl; have i0 : (0 : Int) ≤ (k : Int) := (by omega); have i1 : (k : Int) < (xs.length : Int) := hlt'; go_simp; try (with_reducible rfl))
        simp only [Act.put, List.getElem_toArray, List.getElem_cons_zero, List.getElem_cons_succ, List.setIfInBounds_toArray, List.set_cons_zero, List.set_cons_succ]
        refine wpAnyH_take (i := 16) (v := ?_) rfl (by kernel_rfl) (by kernel_rfl) (by kernel_rfl) (fun _ _ _ h => h) (Or.inl ⟨by rfl, ?_⟩) (by assumption) ?_
        rotate_left
        · (intro wz hSw; clear hSw; have hq := neq_same y y rfl; have i0 : (0 : Int) ≤ (k : Int) := (by omega); have i1 : (k : Int) < (xs.length : Int) := hlt'; go_simp; try (with_reducible rfl))
        simp only [Act.put, List.getElem_toArray, List.getElem_cons_zero, List.getElem_cons_succ, List.setIfInBounds_toArray, List.set_cons_zero, List.set_cons_succ]
        refine wpAnyH_take (i := 17) (v := undef) rfl (by kernel_rfl) (by kernel_rfl) (by kernel_rfl) (fun _ _ _ h => h) (Or.inr ⟨by rfl, rfl⟩) (by assumption) ?_
        simp only [Act.put, List.getElem_toArray, List.getElem_cons_zero, List.getElem_cons_succ, List.setIfInBounds_toArray, List.set_cons_zero, List.set_cons_succ]
        refine wpAnyH_take (i := 18) (v := undef) rfl (by kernel_rfl) (by kernel_rfl) (by kernel_rfl) (fun _ _ _ h => h) (Or.inr ⟨by rfl, rfl⟩) (by assumption) ?_
        simp only [Act.put, List.getElem_toArray, List.getElem_cons_zero, List.getElem_cons_succ, List.setIfInBounds_toArray, List.set_cons_zero, List.set_cons_succ]
        refine wpAnyH_take (i := 19) (v := undef) rfl (by kernel_rfl) (by kernel_rfl) (by kernel_rfl) (fun _ _ _ h => h) (Or.inr ⟨by rfl, rfl⟩) (by assumption) ?_
        simp only [Act.put, List.getElem_toArray, List.getElem_cons_zero, List.getElem_cons_succ, List.setIfInBounds_toArray, List.set_cons_zero, List.set_cons_succ]
        refine wpAnyH_take (i := 20) (v := undef) rfl (by kernel_rfl) (by kernel_rfl) (by kernel_rfl) (fun _ _ _ h => h) (Or.inr ⟨by rfl, rfl⟩) (by assumption) ?_
        simp only [Act.put, List.getElem_toArray, List.getElem_cons_zero, List.getElem_cons_succ, List.setIfInBounds_toArray, List.set_cons_zero, List.set_cons_succ]
        refine wpAnyH_take (i := 21) (v := undef) rfl (by kernel_rfl) (by kernel_rfl) (by kernel_rfl) (fun _ _ _ h => h) (Or.inr ⟨by rfl, rfl⟩) (by assumption) ?_
        simp only [Act.put, List.getElem_toArray, List.getElem_cons_zero, List.getElem_cons_succ, List.setIfInBounds_toArray, List.set_cons_zero, List.set_cons_succ]
        refine wpAnyH_take (i := 22) (v := undef) rfl (by kernel_rfl) (by kernel_rfl) (by kernel_rfl) (fun _ _ _ h => h) (Or.inr ⟨by rfl, rfl⟩) (by assumption) ?_
        simp only [Act.put, List.getElem_toArray, List.getElem_cons_zero, List.getElem_cons_succ, List.setIfInBounds_toArray, List.set_cons_zero, List.set_cons_succ]
        refine wpAnyH_take (i := 23) (v := undef) rfl (by kernel_rfl) (by kernel_rfl) (by kernel_rfl) (fun _ _ _ h => h) (Or.inr ⟨by rfl, rfl⟩) (by assumption) ?_
        simp only [Act.put, List.getElem_toArray, List.getElem_cons_zero, List.getElem_cons_succ, List.setIfInBounds_toArray, List.set_cons_zero, List.set_cons_succ]
        refine wpAnyH_take (i := 24) (v := undef) rfl (by kernel_rfl) (by kernel_rfl) (by kernel_rfl) (fun _ _ _ h => h) (Or.inr ⟨by rfl, rfl⟩) (by assumption) ?_
        simp only [Act.put, List.getElem_toArray, List.getElem_cons_zero, List.getElem_cons_succ, List.setIfInBounds_toArray, List.set_cons_zero, List.set_cons_succ]
        refine wpAnyH_take (i := 25) (v := undef) rfl (by kernel_rfl) (by kernel_rfl) (by kernel_rfl) (fun _ _ _ h => h) (Or.inr ⟨by rfl, rfl⟩) (by assumption) ?_
        simp only [Act.put, List.getElem_toArray, List.getElem_cons_zero, List.getElem_cons_succ, List.setIfInBounds_toArray, List.set_cons_zero, List.set_cons_succ]
        refine wpAnyH_take (i := 26) (v := ?_) rfl (by kernel_rfl) (by kernel_rfl) (by kernel_rfl) (fun _ _ _ h => h) (Or.inl ⟨by rfl, ?_⟩) (by assumption) ?_
        rotate_left
        · (intro wz hSw; clear hSw; have hq := neq_same y y rfl; have i0 : (0 : Int) ≤ (k : Int) := (by omega); have i1 : (k : Int) < (xs.length : Int) := hlt'; go_simp; try (with_reducible rfl))
        simp only [Act.put, List.getElem_toArray, List.getElem_cons_zero, List.getElem_cons_succ, List.setIfInBounds_toArray, List.set_cons_zero, List.set_cons_succ]
        refine wpAnyH_take (i := 27) (v := ?_) rfl (by kernel_rfl) (by kernel_rfl) (by kernel_rfl) (fun _ _ _ h => h) (Or.inl ⟨by rfl, ?_⟩) (by assumption) ?_
        rotate_left
        · (intro wz hSw; clear hSw; have hq := neq_same y y rfl; have i0 : (0 : Int) ≤ (k : Int) := (by omega); have i1 : (k : Int) < (xs.length : Int) := hlt'; go_simp; try (with_reducible rfl))
        simp only [Act.put, List.getElem_toArray, List.getElem_cons_zero, List.getElem_cons_succ, List.setIfInBounds_toArray, List.set_cons_zero, List.set_cons_succ]
        refine wpAnyH_take (i := 28) (v := ?_) rfl (by kernel_rfl) (by kernel_rfl) (by kernel_rfl) (fun _ _ _ h => h) (Or.inl ⟨by rfl, ?_⟩) (by assumption) ?_
        rotate_left
        · (intro wz hSw; clear hSw; have hq := neq_same y y rfl; have i0 : (0 : Int) ≤ (k : Int) := (by omega); have i1 : (k : Int) < (xs.length : Int) := hlt'; go_simp; try (with_reducible rfl))
        simp only [Act.put, List.getElem_toArray, List.getElem_cons_zero, List.getElem_cons_succ, List.setIfInBounds_toArray, List.set_cons_zero, List.set_cons_succ]
        refine wpAnyH_take (i := 29) (v := ?_) rfl (by kernel_rfl) (by kernel_rfl) (by kernel_rfl) (fun _ _ _ h => h) (Or.inl ⟨by rfl, ?_⟩) (by assumption) ?_
        rotate_left
        · (intro wz hSw; clear hSw; have hq := neq_same y y rfl; have i0 : (0 : Int) ≤ (k : Int) := (by omega); have i1 : (k : Int) < (xs.length : Int) := hlt'; go_simp; try (with_reducible rfl))
        simp only [Act.put, List.getElem_toArray, List.getElem_cons_zero, List.getElem_cons_succ, List.setIfInBounds_toArray, List.set_cons_zero, List.set_cons_succ]
        refine wpAnyH_take (i := 30) (v := ?_) rfl (by kernel_rfl) (by kernel_rfl) (by kernel_rfl) (fun _ _ _ h => h) (Or.inl ⟨by rfl, ?_⟩) (by assumption) ?_
        rotate_left
        · (intro wz hSw; clear hSw; have hq := neq_same y y rfl; have i0 : (0 : Int) ≤ (k : Int) := (by omega); have i1 : (k : Int) < (xs.length : Int) := hlt'; go_simp; try (with_reducible rfl))
        simp only [Act.put, List.getElem_toArray, List.getElem_cons_zero, List.getElem_cons_succ, List.setIfInBounds_toArray, List.set_cons_zero, List.set_cons_succ]
        refine wpAnyH_take (i := 31) (v := ?_) rfl (by kernel_rfl) (by kernel_rfl) (by kernel_rfl) (fun _ _ _ h => h) (Or.inl ⟨by rfl, ?_⟩) (by assumption) ?_
        rotate_left
        · (intro wz hSw; clear hSw; have hq := neq_same y y rfl; have i0 : (0 : Int) ≤ (k : Int) := (by omega); have i1 : (k : Int) < (xs.length : Int) := hlt'; go_simp; try (with_reducible rfl))
        simp only [Act.put, List.getElem_toArray, List.getElem_cons_zero, List.getElem_cons_succ, List.setIfInBounds_toArray, List.set_cons_zero, List.set_cons_succ]
        refine wpAnyH_take (i := 32) (v := ?_) rfl (by kernel_rfl) (by kernel_rfl) (by kernel_rfl) (fun _ _ _ h => h) (Or.inl ⟨by rfl, ?_⟩) (by assumption) ?_
        rotate_left
        · (intro wz hSw; have s0 := (hSw.cell (p := ⟨bu, ou + k * 3, none⟩) hbu).trans u0; have s1 := (hSw.cell (p := ⟨bu, ou + k * 3 + 1, none⟩) hbu).trans u1; have s2 := (hSw.cell (p := ⟨bu, ou + k * 3 + 2, none⟩) hbu).trans u2; have s3 := (hSw.cell (p := ⟨A + 1, 0, none⟩) hAl).trans x0; have s4 := (hSw.cell (p := ⟨A + 1, 1, none⟩) hAl).trans x1; have s5 := (hSw.cell (p := ⟨A + 1, 2, none⟩) hAl).trans x2; have s6 := (hSw.cell (p := ⟨g, k * 3, none⟩) hgl).trans o0; have s7 := (hSw.cell (p := ⟨g, k * 3 + 1, none⟩) hgl).trans o1; have s8 := (hSw.cell (p := ⟨g, k * 3 + 2, none⟩) hgl).trans o2; have hq := neq_same y y rfl; have i0 : (0 : Int) ≤ (k : Int) := (by omega); have i1 : (k : Int) < (xs.length : Int) := hlt'; go_simp; try (with_reducible rfl))
        simp only [Act.put, List.getElem_toArray, List.getElem_cons_zero, List.getElem_cons_succ, List.setIfInBounds_toArray, List.set_cons_zero, List.set_cons_succ]
        refine wpAnyH_take (i := 33) (v := ?_) rfl (by kernel_rfl) (by kernel_rfl) (by kernel_rfl) (fun _ _ _ h => h) (Or.inl ⟨by rfl, ?_⟩) (by assumption) ?_
        rotate_left
        · (intro wz hSw; clear hSw; have hq := neq_same y y rfl; have i0 : (0 : Int) ≤ (k : Int) := (by omega); have i1 : (k : Int) < (xs.length : Int) := hlt'; go_simp; try (with_reducible rfl))
        simp only [Act.put, List.getElem_toArray, List.getElem_cons_zero, List.getElem_cons_succ, List.setIfInBounds_toArray, List.set_cons_zero, List.set_cons_succ]
        refine wpAnyH_take (i := 34) (v := ?_) rfl (by kernel_rfl) (by kernel_rfl) (by kernel_rfl) (fun _ _ _ h => h) (Or.inl ⟨by rfl, ?_⟩) (by assumption) ?_
        rotate_left
        · (intro wz hSw; clear hSw; have hq := neq_same y y rfl; have i0 : (0 : Int) ≤ (k : Int) := (by omega); have i1 : (k : Int) < (xs.length : Int) := hlt'; go_simp; try (with_reducible rfl))
        simp only [Act.put, List.getElem_toArray, List.getElem_cons_zero, List.getElem_cons_succ, List.setIfInBounds_toArray, List.set_cons_zero, List.set_cons_succ]
        refine wpAnyH_take (i := 35) (v := ?_) rfl (by kernel_rfl) (by kernel_rfl) (by kernel_rfl) (fun _ _ _ h => h) (Or.inl ⟨by rfl, ?_⟩) (by assumption) ?_
        rotate_left
        · (intro wz hSw; clear hSw; have hq := neq_same y y rfl; have i0 : (0 : Int) ≤ (k : Int) := (by omega); have i1 : (k : Int) < (xs.length : Int) := hlt'; go_simp; try (with_reducible rfl))
        simp only [Act.put, List.getElem_toArray, List.getElem_cons_zero, List.getElem_cons_succ, List.setIfInBounds_toArray, List.set_cons_zero, List.set_cons_succ]
        refine wpAnyH_take (i := 36) (v := ?_) rfl (by kernel_rfl) (by kernel_rfl) (by kernel_rfl) (fun _ _ _ h => h) (Or.inl ⟨by rfl, ?_⟩) (by assumption) ?_
        rotate_left
        · (intro wz hSw; have s0 := (hSw.cell (p := ⟨bu, ou + k * 3, none⟩) hbu).trans u0; have s1 := (hSw.cell (p := ⟨bu, ou + k * 3 + 1, none⟩) hbu).trans u1; have s2 := (hSw.cell (p := ⟨bu, ou + k * 3 + 2, none⟩) hbu).trans u2; have s3 := (hSw.cell (p := ⟨A + 1, 0, none⟩) hAl).trans x0; have s4 := (hSw.cell (p := ⟨A + 1, 1, none⟩) hAl).trans x1; have s5 := (hSw.cell (p := ⟨A + 1, 2, none⟩) hAl).trans x2; have s6 := (hSw.cell (p := ⟨g, k * 3, none⟩) hgl).trans o0; have s7 := (hSw.cell (p := ⟨g, k * 3 + 1, none⟩) hgl).trans o1; have s8 := (hSw.cell (p := ⟨g, k * 3 + 2, none⟩) hgl).trans o2; have hq := neq_same y y rfl; have i0 : (0 : Int) ≤ (k : Int) := (by omega); have i1 : (k : Int) < (xs.length : Int) := hlt'; go_simp; try (with_reducible rfl))
        simp only [Act.put, List.getElem_toArray, List.getElem_cons_zero, List.getElem_cons_succ, List.setIfInBounds_toArray, List.set_cons_zero, List.set_cons_succ]
        refine wpAnyH_ready (rs := [37]) (by kernel_rfl) (by simp) ?_
        refine AllReadyH.cons rfl (fun K hK => ?_) AllReadyH.nil
        rw [if_pos (by rfl)]
        go_wp2_with (go_at_call 15; refine (lOlder_any q y _).mono ?_; rw [HQY.out]; rintro e wq5 ⟨rfl, hbq⟩)
        refine hK.out _ _ (hHeld.trans (hbq.mono hHeld.size)) (fun hHeld => ?_)
        clear hK K hbq
        refine wpAnyH_take (i := 38) (v := ?_) rfl (by kernel_rfl) (by kernel_rfl) (by kernel_rfl) (fun _ _ _ h => h) (Or.inl ⟨by rfl, ?_⟩) (by assumption) ?_
        rotate_left
        · (intro wz hSw; clear hSw; have hq := neq_same y y rfl; have i0 : (0 : Int) ≤ (k : Int) := (by omega); have i1 : (k : Int) < (xs.length : Int) := hlt'; go_simp; try (with_reducible rfl))
        simp only [Act.put, List.getElem_toArray, List.getElem_cons_zero, List.getElem_cons_succ, List.setIfInBounds_toArray, List.set_cons_zero, List.set_cons_succ]
        refine wpAnyH_done (by kernel_rfl) ?_ _
        have HH := Lib.hid (HB.out.trans (hHeld.mono HB.out.size))
        clear hHeld u0 u1 u2 o0 o1 o2 x0 x1 x2
        go_wp2
        go_roundg (xs.length - (k + 1))
        case rel => exact ⟨k + 1, by omega, rfl, by go_num, HH⟩
        case measure => omega
      · rw [if_neg hm] at o0 o1 o2
        have HM := Lib.hid hm
        clear hm
        go_wp2_with fail
        refine wp_region_held_drew (S := fun w' => Below (wr).heap.size wr w') (by kernel_rfl) (Below.refl _ wr).drew (fun hHeld => ?_)
        refine wpAnyH_take (i := 0) (v := ?_) rfl (by kernel_rfl) (by kernel_rfl) (by kernel_rfl) (fun _ _ _ h => h) (Or.inl ⟨by rfl, ?_⟩) (by assumption) ?_
        rotate_left
        · (intro wz hSw; clear hSw; have hq := neq_same y y rfl; have i0 : (0 : Int) ≤ (k : Int) := (by omega); have i1 : (k : Int) < (xs.length : Int) := hlt'; go_simp; try (with_reducible rfl))
        simp only [Act.put, List.getElem_toArray, List.getElem_cons_zero, List.setIfInBounds_toArray, List.set_cons_zero, List.set_cons_succ]
        refine wpAnyH_take (i := 1) (v := ?_) rfl (by kernel_rfl) (by kernel_rfl) (by kernel_rfl) (fun _ _ _ h => h) (Or.inl ⟨by rfl, ?_⟩) (by assumption) ?_
        rotate_left
        · (intro wz hSw; clear hSw; have hq := neq_same y y rfl; have i0 : (0 : Int) ≤ (k : Int) := (by omega); have i1 : (k : Int) < (xs.length : Int) := hlt'; go_simp; try (with_reducible rfl))
        simp only [Act.put, List.getElem_toArray, List.getElem_cons_zero, List.getElem_cons_succ, List.setIfInBounds_toArray, List.set_cons_zero, List.set_cons_succ]
        refine wpAnyH_ready (rs := [2]) (by kernel_rfl) (by simp) ?_
        refine AllReadyH.cons rfl (fun K hK => ?_) AllReadyH.nil
        rw [if_pos (by rfl)]
        go_wp2_with (go_at_call 14; refine (hasInt_is _ ts _ false (decide_eq_false HM.out) _ (HTW.out.below hHeld (Nat.le_refl _))).mono ?_; rintro e wq1 ⟨rfl, hwq1⟩; have hbq : Below wr.drew.heap.size wr.drew wq1 := hwq1 ▸ Below.refl _ _)
        refine hK.out _ _ (hHeld.trans (hbq.mono hHeld.size)) (fun hHeld => ?_)
        clear hK K hbq
        refine wpAnyH_take (i := 3) (v := ?_) rfl (by kernel_rfl) (by kernel_rfl) (by kernel_rfl) (fun _ _ _ h => h) (Or.inl ⟨by rfl, ?_⟩) (by assumption) ?_
        rotate_left
        · (intro wz hSw; clear hSw; have hq := neq_same y y rfl; have i0 : (0 : Int) ≤ (k : Int) := (by omega); have i1 : (k : Int) < (xs.length : Int) := hlt'; go_simp; try (with_reducible rfl))
        simp only [Act.put, List.getElem_toArray, List.getElem_cons_zero, List.getElem_cons_succ, List.setIfInBounds_toArray, List.set_cons_zero, List.set_cons_succ]
        refine wpAnyH_take (i := 4) (v := undef) rfl (by kernel_rfl) (by kernel_rfl) (by kernel_rfl) (fun _ _ _ h => h) (Or.inr ⟨by rfl, rfl⟩) (by assumption) ?_
        simp only [Act.put, List.getElem_toArray, List.getElem_cons_zero, List.getElem_cons_succ, List.setIfInBounds_toArray, List.set_cons_zero, List.set_cons_succ]
        refine wpAnyH_take (i := 5) (v := undef) rfl (by kernel_rfl) (by kernel_rfl) (by kernel_rfl) (fun _ _ _ h => h) (Or.inr ⟨by rfl, rfl⟩) (by assumption) ?_
        simp only [Act.put, List.getElem_toArray, List.getElem_cons_zero, List.getElem_cons_succ, List.setIfInBounds_toArray, List.set_cons_zero, List.set_cons_succ]
        refine wpAnyH_take (i := 6) (v := undef) rfl (by kernel_rfl) (by kernel_rfl) (by kernel_rfl) (fun _ _ _ h => h) (Or.inr ⟨by rfl, rfl⟩) (by assumption) ?_
        simp only [Act.put, List.getElem_toArray, List.getElem_cons_zero, List.getElem_cons_succ, List.setIfInBounds_toArray, List.set_cons_zero, List.set_cons_succ]
        refine wpAnyH_take (i := 7) (v := undef) rfl (by kernel_rfl) (by kernel_rfl) (by kernel_rfl) (fun _ _ _ h => h) (Or.inr ⟨by rfl, rfl⟩) (by assumption) ?_
        simp only [Act.put, List.getElem_toArray, List.getElem_cons_zero, List.getElem_cons_succ, List.setIfInBounds_toArray, List.set_cons_zero, List.set_cons_succ]
        refine wpAnyH_take (i := 8) (v := undef) rfl (by kernel_rfl) (by kernel_rfl) (by kernel_rfl) (fun _ _ _ h => h) (Or.inr ⟨by rfl, rfl⟩) (by assumption) ?_
        simp only [Act.put, List.getElem_toArray, List.getElem_cons_zero, List.getElem_cons_succ, List.setIfInBounds_toArray, List.set_cons_zero, List.set_cons_succ]
        refine wpAnyH_take (i := 9) (v := undef) rfl (by kernel_rfl) (by kernel_rfl) (by kernel_rfl) (fun _ _ _ h => h) (Or.inr ⟨by rfl, rfl⟩) (by assumption) ?_
        simp only [Act.put, List.getElem_toArray, List.getElem_cons_zero, List.getElem_cons_succ, List.setIfInBounds_toArray, List.set_cons_zero, List.set_cons_succ]
        refine wpAnyH_take (i := 10) (v := ?_) rfl (by kernel_rfl) (by kernel_rfl) (by kernel_rfl) (fun _ _ _ h => h) (Or.inl ⟨by rfl, ?_⟩) (by assumption) ?_
        rotate_left
        · (intro wz hSw; clear hSw; have hq := neq_same y y rfl; have i0 : (0 : Int) ≤ (k : Int) := (by omega); have i1 : (k : Int) < (xs.length : Int) := hlt'; go_simp; try (with_reducible rfl))
        simp only [Act.put, List.getElem_toArray, List.getElem_cons_zero, List.getElem_cons_succ, List.setIfInBounds_toArray, List.set_cons_zero, List.set_cons_succ]
        refine wpAnyH_take (i := 11) (v := ?_) rfl (by kernel_rfl) (by kernel_rfl) (by kernel_rfl) (fun _ _ _ h => h) (Or.inl ⟨by rfl, ?_⟩) (by assumption) ?_
        rotate_left
        · (intro wz hSw; clear hSw; have hq := neq_same y y rfl; have i0 : (0 : Int) ≤ (k : Int) := (by omega); have i1 : (k : Int) < (xs.length : Int) := hlt'; go_simp; try (with_reducible rfl))
        simp only [Act.put, List.getElem_toArray, List.getElem_cons_zero, List.getElem_cons_succ, List.setIfInBounds_toArray, List.set_cons_zero, List.set_cons_succ]
        refine wpAnyH_take (i := 12) (v := ?_) rfl (by kernel_rfl) (by kernel_rfl) (by kernel_rfl) (fun _ _ _ h => h) (Or.inl ⟨by rfl, ?_⟩) (by assumption) ?_
        rotate_left
        · (intro wz hSw; clear hSw; have hq := neq_same y y rfl; have i0 : (0 : Int) ≤ (k : Int) := (by omega); have i1 : (k : Int) < (xs.length : Int) := hlt'; go_simp; try (with_reducible rfl))
        simp only [Act.put, List.getElem_toArray, List.getElem_cons_zero, List.getElem_cons_succ, List.setIfInBounds_toArray, List.set_cons_zero, List.set_cons_succ]
        refine wpAnyH_take (i := 13) (v := ?_) rfl (by kernel_rfl) (by kernel_rfl) (by kernel_rfl) (fun _ _ _ h => h) (Or.inl ⟨by rfl, ?_⟩) (by assumption) ?_
        rotate_left
        · (intro wz hSw; clear hSw; have hq := neq_same y y rfl; have i0 : (0 : Int) ≤ (k : Int) := (by omega); have i1 : (k : Int) < (xs.length : Int) := hlt'; go_simp; try (with_reducible rfl))
        simp only [Act.put, List.getElem_toArray, List.getElem_cons_zero, List.getElem_cons_succ, List.setIfInBounds_toArray, List.set_cons_zero, List.set_cons_succ]
        refine wpAnyH_ready (rs := [14]) (by kernel_rfl) (by simp) ?_
        refine AllReadyH.cons rfl (fun K hK => ?_) AllReadyH.nil
        rw [if_pos (by rfl)]
        go_wp2_with (go_at_call 14; refine (hasInt_is _ ts _ false (decide_eq_false HM.out) _ (HTW.out.below hHeld (Nat.le_refl _))).mono ?_; rintro e wq3 ⟨rfl, hwq3⟩; have hbq : Below wq1.heap.size wq1 wq3 := hwq3 ▸ Below.refl _ _)
        refine hK.out _ _ (hHeld.trans (hbq.mono hHeld.size)) (fun hHeld => ?_)
        clear hK K hbq
        refine wpAnyH_take (i := 15) (v := ?_) rfl (by kernel_rfl) (by kernel_rfl) (by kernel_rfl) (fun _ _ _ h => h) (Or.inl ⟨by rfl, ?_⟩) (by assumption) ?_
        rotate_left
        · (intro wz hSw; clear hSw; have hq := neq_same y y rfl; have i0 : (0 : Int) ≤ (k : Int) := (by omega); have i1 : (k : Int) < (xs.length : Int) := hlt'; go_simp; try (with_reducible rfl))
        simp only [Act.put, List.getElem_toArray, List.getElem_cons_zero, List.getElem_cons_succ, List.setIfInBounds_toArray, List.set_cons_zero, List.set_cons_succ]
        refine wpAnyH_take (i := 16) (v := ?_) rfl (by kernel_rfl) (by kernel_rfl) (by kernel_rfl) (fun _ _ _ h => h) (Or.inl ⟨by rfl, ?_⟩) (by assumption) ?_
        rotate_left
        · (intro wz hSw; clear hSw; have hq := neq_same y y rfl; have i0 : (0 : Int) ≤ (k : Int) := (by omega); have i1 : (k : Int) < (xs.length : Int) := hlt'; go_simp; try (with_reducible rfl))
        simp only [Act.put, List.getElem_toArray, List.getElem_cons_zero, List.getElem_cons_succ, List.setIfInBounds_toArray, List.set_cons_zero, List.set_cons_succ]
        refine wpAnyH_take (i := 17) (v := ?_) rfl (by kernel_rfl) (by kernel_rfl) (by kernel_rfl) (fun _ _ _ h => h) (Or.inl ⟨by rfl, ?_⟩) (by assumption) ?_
        rotate_left
        · (intro wz hSw; clear hSw; have hq := neq_same y y rfl; have i0 : (0 : Int) ≤ (k : Int) := (by omega); have i1 : (k : Int) < (xs.length : Int) := hlt'; go_simp; try (with_reducible rfl))
        simp only [Act.put, List.getElem_toArray, List.getElem_cons_zero, List.getElem_cons_succ, List.setIfInBounds_toArray, List.set_cons_zero, List.set_cons_succ]
        refine wpAnyH_take (i := 18) (v := ?_) rfl (by kernel_rfl) (by kernel_rfl) (by kernel_rfl) (fun _ _ _ h => h) (Or.inl ⟨by rfl, ?_⟩) (by assumption) ?_
        rotate_left
        · (intro wz hSw; clear hSw; have hq := neq_same y y rfl; have i0 : (0 : Int) ≤ (k : Int) := (by omega); have i1 : (k : Int) < (xs.length : Int) := hlt'; go_simp; try (with_reducible rfl))
        simp only [Act.put, List.getElem_toArray, List.getElem_cons_zero, List.getElem_cons_succ, List.setIfInBounds_toArray, List.set_cons_zero, List.set_cons_succ]
        refine wpAnyH_take (i := 19) (v := ?_) rfl (by kernel_rfl) (by kernel_rfl) (by kernel_rfl) (fun _ _ _ h => h) (Or.inl ⟨by rfl, ?_⟩) (by assumption) ?_
        rotate_left
        · (intro wz hSw; clear hSw; have hq := neq_same y y rfl; have i0 : (0 : Int) ≤ (k : Int) := (by omega); have i1 : (k : Int) < (xs.length : Int) := hlt'; go_simp; try (with_reducible rfl))
        simp only [Act.put, List.getElem_toArray, List.getElem_cons_zero, List.getElem_cons_succ, List.setIfInBounds_toArray, List.set_cons_zero, List.set_cons_succ]
        refine wpAnyH_take (i := 20) (v := ?_) rfl (by kernel_rfl) (by kernel_rfl) (by kernel_rfl) (fun _ _ _ h => h) (Or.inl ⟨by rfl, ?_⟩) (by assumption) ?_
        rotate_left
        · (intro wz hSw; have s0 := (hSw.cell (p := ⟨bu, ou + k * 3, none⟩) hbu).trans u0; have s1 := (hSw.cell (p := ⟨bu, ou + k * 3 + 1, none⟩) hbu).trans u1; have s2 := (hSw.cell (p := ⟨bu, ou + k * 3 + 2, none⟩) hbu).trans u2; have s3 := (hSw.cell (p := ⟨A + 1, 0, none⟩) hAl).trans x0; have s4 := (hSw.cell (p := ⟨A + 1, 1, none⟩) hAl).trans x1; have s5 := (hSw.cell (p := ⟨A + 1, 2, none⟩) hAl).trans x2; have s6 := (hSw.cell (p := ⟨g, k * 3, none⟩) hgl).trans o0; have s7 := (hSw.cell (p := ⟨g, k * 3 + 1, none⟩) hgl).trans o1; have s8 := (hSw.cell (p := ⟨g, k * 3 + 2, none⟩) hgl).trans o2; have hq := neq_same y y rfl; have i0 : (0 : Int) ≤ (k : Int) := (by omega); have i1 : (k : Int) < (xs.length : Int) := hlt'; go_simp; try (with_reducible rfl))
        simp only [Act.put, List.getElem_toArray, List.getElem_cons_zero, List.getElem_cons_succ, List.setIfInBounds_toArray, List.set_cons_zero, List.set_cons_succ]
        refine wpAnyH_take (i := 21) (v := ?_) rfl (by kernel_rfl) (by kernel_rfl) (by kernel_rfl) (fun _ _ _ h => h) (Or.inl ⟨by rfl, ?_⟩) (by assumption) ?_
        rotate_left
        · (intro wz hSw; clear hSw; have hq := neq_same y y rfl; have i0 : (0 : Int) ≤ (k : Int) := (by omega); have i1 : (k : Int) < (xs.length : Int) := hlt'; go_simp; try (with_reducible rfl))
        simp only [Act.put, List.getElem_toArray, List.getElem_cons_zero, List.getElem_cons_succ, List.setIfInBounds_toArray, List.set_cons_zero, List.set_cons_succ]
        refine wpAnyH_take (i := 22) (v := ?_) rfl (by kernel_rfl) (by kernel_rfl) (by kernel_rfl) (fun _ _ _ h => h) (Or.inl ⟨by rfl, ?_⟩) (by assumption) ?_
        rotate_left
        · (intro wz hSw; clear hSw; have hq := neq_same y y rfl; have i0 : (0 : Int) ≤ (k : Int) := (by omega); have i1 : (k : Int) < (xs.length : Int) := hlt'; go_simp; try (with_reducible rfl))
        simp only [Act.put, List.getElem_toArray, List.getElem_cons_zero, List.getElem_cons_succ, List.setIfInBounds_toArray, List.set_cons_zero, List.set_cons_succ]
        refine wpAnyH_take (i := 23) (v := ?_) rfl (by kernel_rfl) (by kernel_rfl) (by kernel_rfl) (fun _ _ _ h => h) (Or.inl ⟨by rfl, ?_⟩) (by assumption) ?_
        rotate_left
        · (intro wz hSw; clear hSw; have hq := neq_same y y rfl; have i0 : (0 : Int) ≤ (k : Int) := (by omega); have i1 : (k : Int) < (xs.length : Int) := hlt'; go_simp; try (with_reducible rfl))
        simp only [Act.put, List.getElem_toArray, List.getElem_cons_zero, List.getElem_cons_succ, List.setIfInBounds_toArray, List.set_cons_zero, List.set_cons_succ]
        refine wpAnyH_take (i := 24) (v := ?_) rfl (by kernel_rfl) (by kernel_rfl) (by kernel_rfl) (fun _ _ _ h => h) (Or.inl ⟨by rfl, ?_⟩) (by assumption) ?_
        rotate_left
        · (intro wz hSw; have s0 := (hSw.cell (p := ⟨bu, ou + k * 3, none⟩) hbu).trans u0; have s1 := (hSw.cell (p := ⟨bu, ou + k * 3 + 1, none⟩) hbu).trans u1; have s2 := (hSw.cell (p := ⟨bu, ou + k * 3 + 2, none⟩) hbu).trans u2; have s3 := (hSw.cell (p := ⟨A + 1, 0, none⟩) hAl).trans x0; have s4 := (hSw.cell (p := ⟨A + 1, 1, none⟩) hAl).trans x1; have s5 := (hSw.cell (p := ⟨A + 1, 2, none⟩) hAl).trans x2; have s6 := (hSw.cell (p := ⟨g, k * 3, none⟩) hgl).trans o0; have s7 := (hSw.cell (p := ⟨g, k * 3 + 1, none⟩) hgl).trans o1; have s8 := (hSw.cell (p := ⟨g, k * 3 + 2, none⟩) hgl).trans o2; have hq := neq_same y y rfl; have i0 : (0 : Int) ≤ (k : Int) := (by omega); have i1 : (k : Int) < (xs.length : Int) := hlt'; go_simp; try (with_reducible rfl))
        simp only [Act.put, List.getElem_toArray, List.getElem_cons_zero, List.getElem_cons_succ, List.setIfInBounds_toArray, List.set_cons_zero, List.set_cons_succ]
        refine wpAnyH_take (i := 25) (v := ?_) rfl (by kernel_rfl) (by kernel_rfl) (by kernel_rfl) (fun _ _ _ h => h) (Or.inl ⟨by rfl, ?_⟩) (by assumption) ?_
        rotate_left
        · (intro wz hSw; clear hSw; have hq := neq_same y y rfl; have i0 : (0 : Int) ≤ (k : Int) := (by omega); have i1 : (k : Int) < (xs.length : Int) := hlt'; go_simp; try (with_reducible rfl))
        simp only [Act.put, List.getElem_toArray, List.getElem_cons_zero, List.getElem_cons_succ, List.setIfInBounds_toArray, List.set_cons_zero, List.set_cons_succ]
        refine wpAnyH_take (i := 26) (v := ?_) rfl (by kernel_rfl) (by kernel_rfl) (by kernel_rfl) (fun _ _ _ h => h) (Or.inl ⟨by rfl, ?_⟩) (by assumption) ?_
        rotate_left
        · (intro wz hSw; clear hSw; have hq := neq_same y y rfl; have i0 : (0 : Int) ≤ (k : Int) := (by omega); have i1 : (k : Int) < (xs.length : Int) := hlt'; go_simp; try (with_reducible rfl))
        simp only [Act.put, List.getElem_toArray, List.getElem_cons_zero, List.getElem_cons_succ, List.setIfInBounds_toArray, List.set_cons_zero, List.set_cons_succ]
        refine wpAnyH_take (i := 27) (v := ?_) rfl (by kernel_rfl) (by kernel_rfl) (by kernel_rfl) (fun _ _ _ h => h) (Or.inl ⟨by rfl, ?_⟩) (by assumption) ?_
        rotate_left
        · (intro wz hSw; clear hSw; have hq := neq_same y y rfl; have i0 : (0 : Int) ≤ (k : Int) := (by omega); have i1 : (k : Int) < (xs.length : Int) := hlt'; go_simp; try (with_reducible rfl))
        simp only [Act.put, List.getElem_toArray, List.getElem_cons_zero, List.getElem_cons_succ, List.setIfInBounds_toArray, List.set_cons_zero, List.set_cons_succ]
        refine wpAnyH_take (i := 28) (v := ?_) rfl (by kernel_rfl) (by kernel_rfl) (by kernel_rfl) (fun _ _ _ h => h) (Or.inl ⟨by rfl, ?_⟩) (by assumption) ?_
        rotate_left
        · (intro wz hSw; clear hSw; have hq := neq_same y y rfl; have i0 : (0 : Int) ≤ (k : Int) := (by omega); have i1 : (k : Int) < (xs.length : Int) := hlt'; go_simp; try (with_reducible rfl))
        simp only [Act.put, List.getElem_toArray, List.getElem_cons_zero, List.getElem_cons_succ, List.setIfInBounds_toArray, List.set_cons_zero, List.set_cons_succ]
        refine wpAnyH_take (i := 29) (v := ?_) rfl (by kernel_rfl) (by kernel_rfl) (by kernel_rfl) (fun _ _ _ h => h) (Or.inl ⟨by rfl, ?_⟩) (by assumption) ?_
        rotate_left
        · (intro wz hSw; clear hSw; have hq := neq_same y y rfl; have i0 : (0 : Int) ≤ (k : Int) := (by omega); have i1 : (k : Int) < (xs.length : Int) := hlt'; go_simp; try (with_reducible rfl))
        simp only [Act.put, List.getElem_toArray, List.getElem_cons_zero, List.getElem_cons_succ, List.setIfInBounds_toArray, List.set_cons_zero, List.set_cons_succ]
        refine wpAnyH_take (i := 30) (v := ?_) rfl (by kernel_rfl) (by kernel_rfl) (by kernel_rfl) (fun _ _ _ h => h) (Or.inl ⟨by rfl, ?_⟩) (by assumption) ?_
        rotate_left
        · (intro wz hSw; clear hSw; have hq := neq_same y y rfl; have i0 : (0 : Int) ≤ (k : Int) := (by omega); have i1 : (k : Int) < (xs.length : Int) := hlt'; go_simp; try (with_reducible rfl))
        simp only [Act.put, List.getElem_toArray, List.getElem_cons_zero, List.getElem_cons_succ, List.setIfInBounds_toArray, List.set_cons_zero, List.set_cons_succ]
        refine wpAnyH_take (i := 31) (v := ?_) rfl (by kernel_rfl) (by kernel_rfl) (by kernel_rfl) (fun _ _ _ h => h) (Or.inl ⟨by rfl, ?_⟩) (by assumption) ?_
        rotate_left
        · (intro wz hSw; clear hSw; have hq := neq_same y y rfl; have i0 : (0 : Int) ≤ (k : Int) := (by omega); have i1 : (k : Int) < (xs.length : Int) := hlt'; go_simp; try (with_reducible rfl))
        simp only [Act.put, List.getElem_toArray, List.getElem_cons_zero, List.getElem_cons_succ, List.setIfInBounds_toArray, List.set_cons_zero, List.set_cons_succ]
        refine wpAnyH_take (i := 32) (v := ?_) rfl (by kernel_rfl) (by kernel_rfl) (by kernel_rfl) (fun _ _ _ h => h) (Or.inl ⟨by rfl, ?_⟩) (by assumption) ?_
        rotate_left
        · (intro wz hSw; have s0 := (hSw.cell (p := ⟨bu, ou + k * 3, none⟩) hbu).trans u0; have s1 := (hSw.cell (p := ⟨bu, ou + k * 3 + 1, none⟩) hbu).trans u1; have s2 := (hSw.cell (p := ⟨bu, ou + k * 3 + 2, none⟩) hbu).trans u2; have s3 := (hSw.cell (p := ⟨A + 1, 0, none⟩) hAl).trans x0; have s4 := (hSw.cell (p := ⟨A + 1, 1, none⟩) hAl).trans x1; have s5 := (hSw.cell (p := ⟨A + 1, 2, none⟩) hAl).trans x2; have s6 := (hSw.cell (p := ⟨g, k * 3, none⟩) hgl).trans o0; have s7 := (hSw.cell (p := ⟨g, k * 3 + 1, none⟩) hgl).trans o1; have s8 := (hSw.cell (p := ⟨g, k * 3 + 2, none⟩) hgl).trans o2; have hq := neq_same y y rfl; have i0 : (0 : Int) ≤ (k : Int) := (by omega); have i1 : (k : Int) < (xs.length : Int) := hlt'; go_simp; try (with_reducible rfl))
        simp only [Act.put, List.getElem_toArray, List.getElem_cons_zero, List.getElem_cons_succ, List.setIfInBounds_toArray, List.set_cons_zero, List.set_cons_succ]
        refine wpAnyH_take (i := 33) (v := ?_) rfl (by kernel_rfl) (by kernel_rfl) (by kernel_rfl) (fun _ _ _ h => h) (Or.inl ⟨by rfl, ?_⟩) (by assumption) ?_
        rotate_left
        · (intro wz hSw; clear hSw; have hq := neq_same y y rfl; have i0 : (0 : Int) ≤ (k : Int) := (by omega); have i1 : (k : Int) < (xs.length : Int) := hlt'; go_simp; try (with_reducible rfl))
        simp only [Act.put, List.getElem_toArray, List.getElem_cons_zero, List.getElem_cons_succ, List.setIfInBounds_toArray, List.set_cons_zero, List.set_cons_succ]
        refine wpAnyH_take (i := 34) (v := ?_) rfl (by kernel_rfl) (by kernel_rfl) (by kernel_rfl) (fun _ _ _ h => h) (Or.inl ⟨by rfl, ?_⟩) (by assumption) ?_
        rotate_left
        · (intro wz hSw; clear hSw; have hq := neq_same y y rfl; have i0 : (0 : Int) ≤ (k : Int) := (by omega); have i1 : (k : Int) < (xs.length : Int) := hlt'; go_simp; try (with_reducible rfl))
        simp only [Act.put, List.getElem_toArray, List.getElem_cons_zero, List.getElem_cons_succ, List.setIfInBounds_toArray, List.set_cons_zero, List.set_cons_succ]
        refine wpAnyH_take (i := 35) (v := ?_) rfl (by kernel_rfl) (by kernel_rfl) (by kernel_rfl) (fun _ _ _ h => h) (Or.inl ⟨by rfl, ?_⟩) (by assumption) ?_
        rotate_left
        · (intro wz hSw; clear hSw; have hq := neq_same y y rfl; have i0 : (0 : Int) ≤ (k : Int) := (by omega); have i1 : (k : Int) < (xs.length : Int) := hlt'; go_simp; try (with_reducible rfl))
        simp only [Act.put, List.getElem_toArray, List.getElem_cons_zero, List.getElem_cons_succ, List.setIfInBounds_toArray, List.set_cons_zero, List.set_cons_succ]
        refine wpAnyH_take (i := 36) (v := ?_) rfl (by kernel_rfl) (by kernel_rfl) (by kernel_rfl) (fun _ _ _ h => h) (Or.inl ⟨by rfl, ?_⟩) (by assumption) ?_
        rotate_left
        · (intro wz hSw; have s0 := (hSw.cell (p := ⟨bu, ou + k * 3, none⟩) hbu).trans u0; have s1 := (hSw.cell (p := ⟨bu, ou + k * 3 + 1, none⟩) hbu).trans u1; have s2 := (hSw.cell (p := ⟨bu, ou + k * 3 + 2, none⟩) hbu).trans u2; have s3 := (hSw.cell (p := ⟨A + 1, 0, none⟩) hAl).trans x0; have s4 := (hSw.cell (p := ⟨A + 1, 1, none⟩) hAl).trans x1; have s5 := (hSw.cell (p := ⟨A + 1, 2, none⟩) hAl).trans x2; have s6 := (hSw.cell (p := ⟨g, k * 3, none⟩) hgl).trans o0; have s7 := (hSw.cell (p := ⟨g, k * 3 + 1, none⟩) hgl).trans o1; have s8 := (hSw.cell (p := ⟨g, k * 3 + 2, none⟩) hgl).trans o2; have hq := neq_same y y rfl; have i0 : (0 : Int) ≤ (k : Int) := (by omega); have i1 : (k : Int) < (xs.length : Int) := hlt'; go_simp; try (with_reducible rfl))
        simp only [Act.put, List.getElem_toArray, List.getElem_cons_zero, List.getElem_cons_succ, List.setIfInBounds_toArray, List.set_cons_zero, List.set_cons_succ]
        refine wpAnyH_ready (rs := [37]) (by kernel_rfl) (by simp) ?_
        refine AllReadyH.cons rfl (fun K hK => ?_) AllReadyH.nil
        rw [if_pos (by rfl)]
        go_wp2_with (go_at_call 15; refine (lOlder_any y y _).mono ?_; rw [rOlder_self]; rintro e wq5 ⟨rfl, hbq⟩)
        refine hK.out _ _ (hHeld.trans (hbq.mono hHeld.size)) (fun hHeld => ?_)
        clear hK K hbq
        refine wpAnyH_take (i := 38) (v := ?_) rfl (by kernel_rfl) (by kernel_rfl) (by kernel_rfl) (fun _ _ _ h => h) (Or.inl ⟨by rfl, ?_⟩) (by assumption) ?_
        rotate_left
        · (intro wz hSw; clear hSw; have hq := neq_same y y rfl; have i0 : (0 : Int) ≤ (k : Int) := (by omega); have i1 : (k : Int) < (xs.length : Int) := hlt'; go_simp; try (with_reducible rfl))
        simp only [Act.put, List.getElem_toArray, List.getElem_cons_zero, List.getElem_cons_succ, List.setIfInBounds_toArray, List.set_cons_zero, List.set_cons_succ]
        refine wpAnyH_done (by kernel_rfl) ?_ _
        have HH := Lib.hid (HB.out.trans (hHeld.mono HB.out.size))
        clear hHeld u0 u1 u2 o0 o1 o2 x0 x1 x2
        go_wp2
        go_roundg (xs.length - (k + 1))
        case rel => exact ⟨k + 1, by omega, rfl, by go_num, HH⟩
        case measure => omega
    · obtain rfl : k = xs.length := by omega
      go_wp2_with fail
      refine (iReg_any _ _ _ (by have := (HOA.out.below HBB.out (Nat.le_refl _)).at; rw [HPL.out] at this; exact this)).mono ?_
      rw [HVB.out]
      rintro e wZ ⟨rfl, hbZ⟩
      go_wp2
      ((try simp only [Exit.inBlock, Exit.then]); refine segPost_ret rfl (gt_returned Try.func9 rfl rfl (results_tmp rfl _ _ _) ?_))
      exact ⟨rfl, (KA.out.below HBB.out).below hbZ⟩
end Go.Proofs.Ytkefnmmpipeppaa
