/-
  The law FnMove, beside goroutines that only leave.
-/
import Derived.Test.YtddnapbdhjifiaaGm
import Derived.Test.YtddnapbdhjifiaaPc
import Derived.Test.YtddnapbdhjifiaaPe
set_option linter.unusedSimpArgs false
set_option linter.unusedVariables false
set_option linter.unusedSectionVars false
namespace Go.Proofs.Ytddnapbdhjifiaa
open Go.Conc Go.ConcN Go.RowKit Go.Conc.Lib Go.ConcR.Gen Go.ConcN.Gen Go.Proofs.Ytddnapbdhjifiaa.Rg
open Go.ConcR (KK wgBlock WgAt stA smA rd wr mk Payload Aside2 DC0 Bk)
theorem zero_older {x : Tr} (h : rOk x = true) : x = default ∨ rOlder default x = true := by
  unfold rOk inR at h
  simp only [Bool.or_eq_true, Bool.and_eq_true, decide_eq_true_eq] at h
  rcases h with h | h
  · exact .inl h
  · refine .inr ?_
    unfold rOlder
    have e : (default : Tr).a = 0 := rfl
    rw [e]
    simp only [Bool.or_eq_true, decide_eq_true_eq]
    exact .inl (by omega)
theorem regB_two {x : Tr} (h : rOk x = true) : regB [x, default] = true := by
  unfold regB
  rw [Bool.and_eq_true]
  refine ⟨rfl, allBelow_all fun i hi => ?_⟩
  have hd : rOk default = true := by decide
  have h2 : i = 0 ∨ i = 1 := by simp at hi; omega
  rcases h2 with rfl | rfl
  · unfold regAt
    show (rOk x && true) = true
    rw [h]; rfl
  · unfold regAt
    show (rOk default && allBelow _ 1) = true
    rw [hd, Bool.true_and]
    refine allBelow_all fun k hk => ?_
    obtain rfl : k = 0 := by omega
    show rAg default x = true
    unfold rAg
    rcases zero_older h with e | e
    · rw [e]; simp
    · rw [e]; rfl
theorem moved_get (x : Tr) (m : Nat) (ts : List Int) {i : Nat} (hi : i < m) : (rPutAll x (List.replicate m default) ts).getD i default = x ∨ (rPutAll x (List.replicate m default) ts).getD i default = default := by
  have hd : (List.replicate m (default : Tr)).getD i default = default := by simp [hi]
  rw [rPutAll_get _ _ _ (by simpa using hi), hd]
  unfold rPut
  split
  · split
    · exact .inl rfl
    · exact .inr rfl
  · exact .inr rfl
theorem regB_moved {x : Tr} {m : Nat} (ts : List Int) (h : rOk x = true) (h1 : 1 ≤ m) (h5 : m ≤ 5) : regB (rPutAll x (List.replicate m default) ts) = true := by
  refine regB_any (regB_two h) (by rw [rPutAll_length, List.length_replicate]; omega) fun i hi => ?_
  rw [rPutAll_length, List.length_replicate] at hi
  rcases moved_get x m ts hi with e | e
  · exact ⟨0, by simp, by rw [e]; rfl⟩
  · exact ⟨1, by simp, by rw [e]; rfl⟩
theorem lat_moved {x : Tr} {m k : Nat} {ts : List Int} (h : rOk x = true) (h1 : 1 ≤ m) (h5 : m ≤ 5) (ht : majB (m : Int) ts = true) (hk : k < m - m / 2) : rLat (rPutAll x (List.replicate m default) ts) (fromK m k) = x := by
  have h0 := put_known (rs := List.replicate m default) (x := x) (ts := ts) (k := k) (by rw [List.length_replicate]; exact ht) (by rw [List.length_replicate]; exact hk)
  rw [List.length_replicate] at h0
  obtain ⟨K, hK, e⟩ := rLat_mem (rs := rPutAll x (List.replicate m default) ts) (ks := fromK m k) (by unfold askB; rw [regB_moved ts h h1 h5, rPutAll_length, List.length_replicate, fromK_maj hk]; rfl)
  rw [rPutAll_length, List.length_replicate] at hK
  rcases moved_get x m ts hK with e2 | e2
  · rw [e, e2]
  · rw [e, e2] at h0 ⊢
    rcases zero_older h with e3 | e3
    · exact e3.symm
    · rw [e3] at h0; cases h0
theorem everyone_from (n k : Nat) (w : World) (hn : n ≤ 1000) (hk : k < n) :
    Calls Try.prog 22 #[.int .i64 n] w fun e w' => ∃ g cg, e = .returned (.slice (some ⟨g, 0, none⟩) n cg) ∧ n ≤ cg ∧ cg ≤ 9223372036854775807 ∧ (k : Int) ≤ (cg : Int) ∧ cg ≠ k ∧ Hid (IntsAt w' (.slice (some ⟨g, k, none⟩) (n - k) (cg - k)) (fromK n k)) ∧ Below w.heap.size w w' := by
  refine (everyone_any n w hn).mono ?_
  rintro e wE ⟨a, rfl, hE, hb⟩
  obtain ⟨g, cg, rfl, gc1, gc2, gB, gl⟩ := hE.form
  have hEl : ((List.range n).map Int.ofNat).length = n := by simp
  rw [hEl] at gc1 hE ⊢
  unfold maxLen at gc2
  exact ⟨g, cg, rfl, gc1, by omega, by omega, by omega, Lib.hid (fromK_at hE hk), hb⟩
variable [Kept]
theorem closedMv : Closed Try.prog [19, 40, 41, 43, 55, 10, 28, 46, 30, 58, 47, 29, 31, 48, 32, 42, 56, 20, 22, 21, 38, 34, 36, 49, 23, 44, 45, 35, 57] := by
  intro f hf
  simp only [List.mem_cons, List.not_mem_nil, or_false] at hf
  rcases hf with rfl | rfl | rfl | rfl | rfl | rfl | rfl | rfl | rfl | rfl | rfl | rfl | rfl | rfl | rfl | rfl | rfl | rfl | rfl | rfl | rfl | rfl | rfl | rfl | rfl | rfl | rfl | rfl | rfl <;> kernel_rfl
set_option maxRecDepth 100000 in
set_option maxHeartbeats 16000000 in
theorem fnMoveG (v : World) (vc vd : Value) (hc : CodeAt v vc) (hd : CodeAt v vd) :
    CallsM Try.prog 4 #[vc, vd] v fun z u => z = .bool true ∧ KeepG v u := by
  refine callsM_of_gt Try.func4 rfl fun cs => ?_
  walk_nrmf Try.f4
  have HC := Lib.hid hc
  have HD := Lib.hid hd
  obtain ⟨pb, n, cap, rfl, hn1, hn2, hn3⟩ := hc
  obtain ⟨pb', n', cap', rfl, hn1', hn2', hn3'⟩ := hd
  clear hn3 hn3'
  unfold maxLen at hn2 hn2'
  refine gt_code ?_
  refine gt_wpc closedMv (plain_of Try.func4) rfl (by kernel_rfl) (fun w hw => ?_)
  have K1 := Lib.hid (KeepG.of_same hw)
  have HC1 := Lib.hid (HC.out.same hw)
  have HD1 := Lib.hid (HD.out.same hw)
  clear hw HC HD
  go_wp2
  ((try simp only [Exit.inBlock, Exit.then]); refine segPost_nil rfl ?_)
  refine gt_code ?_
  obtain ⟨v1, hv1⟩ : ∃ v1, w = v1 := ⟨_, rfl⟩
  subst hv1
  refine gt_wpc closedMv (plain_of Try.func4) rfl (by kernel_rfl) (fun w hw => ?_)
  have K2 := Lib.hid (K1.out.same hw)
  have HC2 := Lib.hid (HC1.out.same hw)
  have HD2 := Lib.hid (HD1.out.same hw)
  clear hw K1 HC1 HD1
  by_cases hbig : (1048576 : Int) < (n : Int)
  · go_wp2
    ((try simp only [Exit.inBlock, Exit.then]); refine segPost_ret rfl (gt_returned Try.func4 rfl rfl (results_tmp rfl _ _ _) ?_))
    exact ⟨rfl, K2.out⟩
  by_cases hbig' : (1048576 : Int) < (n' : Int)
  · go_wp2
    ((try simp only [Exit.inBlock, Exit.then]); refine segPost_ret rfl (gt_returned Try.func4 rfl rfl (results_tmp rfl _ _ _) ?_))
    exact ⟨rfl, K2.out⟩
  go_wp2
  ((try simp only [Exit.inBlock, Exit.then]); refine segPost_nil rfl ?_)
  refine gt_code ?_
  refine gt_wpc closedMv (plain_of Try.func4) rfl (by kernel_rfl) (fun w hw => ?_)
  have K3 := Lib.hid (K2.out.same hw)
  have HC3 := Lib.hid (HC2.out.same hw)
  clear hw K2 HC2
  go_wp2_with fail
  refine (drawMove_any _ _ HC3.out).mono ?_
  rintro e w1 ⟨u, xs, z, ks, m, t, ts, rfl, hu, hz, ht, hl1, hl2, hl3, hl4, hm10, hb⟩
  have K4 := Lib.hid (K3.out.below hb)
  have HU4 := Lib.hid hu
  have HZ4 := Lib.hid hz
  have HT4 := Lib.hid ht
  obtain ⟨pu, cu, rfl, hu1, hu2⟩ := hu.form
  clear hb K3 HC3 hu hz ht
  go_wp2
  ((try simp only [Exit.inBlock, Exit.then]); refine segPost_nil rfl ?_)
  obtain ⟨v4, hv4⟩ : ∃ v4, w1 = v4 := ⟨_, rfl⟩
  subst hv4
  refine gt_code ?_
  refine gt_region ?_
  simp only [List.size_toArray, List.length_cons, List.length_nil, Nat.reduceAdd, Nat.zero_add, List.range, List.range.loop]
  refine gt_op closedMv rfl rfl (by kernel_rfl) rfl (z := ?_) (v' := _) (fun u hu => ⟨u, ?_, hu⟩) ?_
  rotate_left
  · skip
    go_simp
    try (with_reducible rfl)
  walk_nrm
  refine gt_op closedMv rfl rfl (by kernel_rfl) rfl (z := ?_) (v' := _) (fun u hu => ⟨u, ?_, hu⟩) ?_
  rotate_left
  · skip
    go_simp
    try (with_reducible rfl)
  walk_nrm
  refine gt_op closedMv rfl rfl (by kernel_rfl) rfl (z := ?_) (v' := _) (fun u hu => ⟨u, ?_, hu⟩) ?_
  rotate_left
  · skip
    go_simp
    try (with_reducible rfl)
  walk_nrm
  refine gt_op closedMv rfl rfl (by kernel_rfl) rfl (z := ?_) (v' := _) (fun u hu => ⟨u, ?_, hu⟩) ?_
  rotate_left
  · skip
    go_simp
    try (with_reducible rfl)
  walk_nrm
  refine gt_call rfl rfl rfl (f := 13) (args := #[.slice pu xs.length cu, z, .int .i64 (m : Int), t]) (fun u => ⟨?_, ?_⟩) (iMoveG w1 _ _ _ xs ks ts (m : Int) HU4.out HZ4.out HT4.out (by omega) (by omega)) (fun y5 v5 hy => ?_)
  · go_simp
  · simp [go_sem, callFunc, Try.func13, Try.f13]
  obtain ⟨y, rfl, hO5, hK5⟩ := hy
  have K5 := Lib.hid (K4.out.trans hK5)
  have HO5 := Lib.hid hO5
  have HU5 := Lib.hid (HU4.out.keep hK5)
  have HZ5 := Lib.hid (HZ4.out.keep hK5)
  have HT5 := Lib.hid (HT4.out.keep hK5)
  clear hO5 hK5 HU4 HZ4 HT4 K4
  walk_nrm
  refine gt_op closedMv rfl rfl (by kernel_rfl) rfl (z := ?_) (v' := _) (fun u hu => ⟨u, ?_, hu⟩) ?_
  rotate_left
  · skip
    go_simp
    try (with_reducible rfl)
  walk_nrm
  refine gt_op closedMv rfl rfl (by kernel_rfl) rfl (z := ?_) (v' := _) (fun u hu => ⟨u, ?_, hu⟩) ?_
  rotate_left
  · skip
    go_simp
    try (with_reducible rfl)
  walk_nrm
  refine gt_op closedMv rfl rfl (by kernel_rfl) rfl (z := ?_) (v' := _) (fun u hu => ⟨u, ?_, hu⟩) ?_
  rotate_left
  · skip
    go_simp
    try (with_reducible rfl)
  walk_nrm
  refine gt_op closedMv rfl rfl (by kernel_rfl) rfl (z := ?_) (v' := _) (fun u hu => ⟨u, ?_, hu⟩) ?_
  rotate_left
  · skip
    go_simp
    try (with_reducible rfl)
  walk_nrm
  refine gt_op closedMv rfl rfl (by kernel_rfl) rfl (z := ?_) (v' := _) (fun u hu => ⟨u, ?_, hu⟩) ?_
  rotate_left
  · skip
    go_simp
    try (with_reducible rfl)
  walk_nrm
  refine gt_region_end ?_
  refine gt_code ?_
  refine gt_wpc closedMv (plain_of Try.func4) rfl (by kernel_rfl) (fun w hw => ?_)
  have K6 := Lib.hid (K5.out.same hw)
  have HO6 := Lib.hid (HO5.out.same hw)
  have HU6 := Lib.hid (HU5.out.same hw)
  have HZ6 := Lib.hid (HZ5.out.same hw)
  have HT6 := Lib.hid (HT5.out.same hw)
  clear hw K5 HO5 HU5 HZ5 HT5
  go_wp2_with fail
  refine (sMove_any _ _ _ xs ks ts (m : Int) _ HU6.out HZ6.out HT6.out (by omega) (by omega) (by omega)).mono ?_
  rintro e w7 ⟨y', rfl, hO7, hb7⟩
  have K7 := Lib.hid (K6.out.below hb7)
  have HO7 := Lib.hid (HO6.out.below hb7 (Nat.le_refl _))
  have HQ7 := Lib.hid hO7
  have HU7 := Lib.hid (HU6.out.below hb7 (Nat.le_refl _))
  have HZ7 := Lib.hid (HZ6.out.below hb7 (Nat.le_refl _))
  have HT7 := Lib.hid (HT6.out.below hb7 (Nat.le_refl _))
  clear hO7 hb7 K6 HO6 HU6 HZ6 HT6
  go_wp2
  ((try simp only [Exit.inBlock, Exit.then]); refine segPost_nil rfl ?_)
  refine gt_code ?_
  refine gt_wpc closedMv (plain_of Try.func4) rfl (by kernel_rfl) (fun w hw => ?_)
  have K8 := Lib.hid (K7.out.same hw)
  have HO8 := Lib.hid (HO7.out.same hw)
  have HQ8 := Lib.hid (HQ7.out.same hw)
  have HU8 := Lib.hid (HU7.out.same hw)
  have HZ8 := Lib.hid (HZ7.out.same hw)
  have HT8 := Lib.hid (HT7.out.same hw)
  clear hw K7 HO7 HQ7 HU7 HZ7 HT7
  rcases hok : mvB xs ks (m : Int) ts with _ | _
  · have HOK := Lib.hid hok
    clear hok
    go_wp2_with (go_at_call 20; with_reducible refine (sameReplicas_any _ _ _ _ _ HO8.out.at HQ8.out.at).mono ?_; rw [decide_eq_true rfl]; rintro e w9 ⟨rfl, hb9⟩; have K9 := Lib.hid (K8.out.below hb9); have HO9 := Lib.hid (HO8.out.below hb9 (Nat.le_refl _)); have HQ9 := Lib.hid (HQ8.out.below hb9 (Nat.le_refl _)))
    refine (sameReplicas_any _ _ _ _ _ HO9.out.at HQ9.out.at).mono ?_
    rw [decide_eq_true rfl]
    rintro e wA ⟨rfl, hbA⟩
    go_wp2
    ((try simp only [Exit.inBlock, Exit.then]); refine segPost_ret rfl (gt_returned Try.func4 rfl rfl (results_tmp rfl _ _ _) ?_))
    exact ⟨rfl, K9.out.below hbA⟩
  have HOK := Lib.hid hok
  clear hok
  go_wp2_with (go_at_call 20; with_reducible refine (sameReplicas_any _ _ _ _ _ HO8.out.at HQ8.out.at).mono ?_; rw [decide_eq_true rfl]; rintro e w9 ⟨rfl, hb9⟩)
  have K9 := Lib.hid (K8.out.below hb9)
  have HO9 := Lib.hid (show TrsOwn w9 w1.heap.size 39 y (rPutAll (rLat xs ks) (List.replicate m default) ts) from by rw [← mvR_yes HOK.out]; exact HO8.out.below hb9 (Nat.le_refl _))
  have HU9 := Lib.hid (HU8.out.below hb9 (Nat.le_refl _))
  have HZ9 := Lib.hid (HZ8.out.below hb9 (Nat.le_refl _))
  have HT9 := Lib.hid (HT8.out.below hb9 (Nat.le_refl _))
  clear hb9 K8 HO8 HQ8 HU8 HZ8 HT8
  ((try simp only [Exit.inBlock, Exit.then]); refine segPost_nil rfl ?_)
  refine gt_wpc closedMv (plain_of Try.func4) rfl (by kernel_rfl) (fun w hw => ?_)
  have KA := Lib.hid (K9.out.same hw)
  have HOA := Lib.hid (HO9.out.same hw)
  have HUA := Lib.hid (HU9.out.same hw)
  have HZA := Lib.hid (HZ9.out.same hw)
  clear hw K9 HO9 HU9 HZ9 HT9
  have HMT := Lib.hid (show majB (m : Int) ts = true by have := HOK.out; unfold mvB at this; simp only [Bool.and_eq_true] at this; exact this.2)
  have HASK := Lib.hid (show askB xs ks = true by have := HOK.out; unfold mvB at this; simp only [Bool.and_eq_true] at this; exact this.1.1)
  have HXO := Lib.hid (rLat_ok HASK.out)
  have hm15 : 1 ≤ m ∧ m ≤ 5 := by have := HOK.out; unfold mvB inR at this; simp only [Bool.and_eq_true, decide_eq_true_eq] at this; omega
  obtain ⟨hm1, hm5⟩ := hm15
  obtain ⟨X, hX⟩ : ∃ X, rLat xs ks = X := ⟨_, rfl⟩
  have HLR := Lib.hid (show latR xs ks = X by unfold latR; rw [HASK.out]; exact hX)
  rw [hX] at HOA HXO
  clear hX
  have hdp : 0 < (m : Int) - (m : Int) / 2 := by omega
  obtain ⟨k, hke⟩ : ∃ k : Nat, (n' : Int) % ((m : Int) - (m : Int) / 2) = (k : Int) := ⟨((n' : Int) % ((m : Int) - (m : Int) / 2)).toNat, (Int.toNat_of_nonneg (Int.emod_nonneg _ (by omega))).symm⟩
  have hkd : (k : Int) < (m : Int) - (m : Int) / 2 := by rw [← hke]; exact Int.emod_lt_of_pos _ hdp
  have hkd' : k < m - m / 2 := by omega
  have hdz : (((m : Int) - (m : Int) / 2) == 0) = false := beq_eq_false_iff_ne.2 (by omega)
  have hq1 : IntKind.i64.wrap ((m : Int) / 2) = (m : Int) / 2 := IntWalk.i64_in _ (by omega)
  have hq2 : IntKind.i64.wrap ((m : Int) - (m : Int) / 2) = (m : Int) - (m : Int) / 2 := IntWalk.i64_in _ (by omega)
  have hq3 : ¬ ((m : Int) - (m : Int) / 2 = 0) := by omega
  have hq4 : ((n' : Int)).tmod ((m : Int) - (m : Int) / 2) = (k : Int) := by rw [Int.tmod_eq_emod_of_nonneg (by omega)]; exact hke
  have hkm : k < m := by omega
  have hk0 : (0 : Int) ≤ (k : Int) := by omega
  have hkl : (k : Int) ≤ (m : Int) := by omega
  have HVB := Lib.hid (regB_moved ts HXO.out hm1 hm5)
  have HLM := Lib.hid (lat_moved HXO.out hm1 hm5 HMT.out hkd')
  obtain ⟨Y, hY⟩ : ∃ Y, rPutAll X (List.replicate m default) ts = Y := ⟨_, rfl⟩
  have hYl : Y.length = m := by rw [← hY, rPutAll_length, List.length_replicate]
  rw [hY] at HOA HVB HLM
  clear hY
  have HAO := Lib.hid (show askB Y (fromK m k) = true by unfold askB; rw [HVB.out, hYl, fromK_maj hkd']; rfl)
  have HLO := Lib.hid (show latR Y (fromK m k) = X by unfold latR; rw [HAO.out]; exact HLM.out)
  go_wp2_with fail
  refine (iRLat_any _ _ xs ks _ HUA.out HZA.out (by omega)).mono ?_
  rw [HASK.out, HLR.out]
  rintro e wB ⟨rfl, hbB⟩
  have hb12 := (Below.refl wB.heap.size wB).alloc (Nat.le_refl _) (.cells #[.int .i64 X.a, .int .i64 X.b, .int .i64 X.c] 39)
  have hx12 := heap_alloc_new wB (.cells #[.int .i64 X.a, .int .i64 X.b, .int .i64 X.c] 39)
  have hs12 : (wB.alloc (.cells #[.int .i64 X.a, .int .i64 X.b, .int .i64 X.c] 39)).heap.size = wB.heap.size + 1 := by simp
  have hbC := hbB.trans (hb12.mono hbB.size)
  have KC := Lib.hid (KA.out.below hbC)
  have HOC := Lib.hid (HOA.out.below hbC (Nat.le_refl _))
  have HX12 := Lib.hid hx12
  clear hb12 hx12 hbB hbC KA HOA HUA HZA
  go_wp2_with fail
  obtain ⟨N, hN⟩ : ∃ N, wB.heap.size = N := ⟨_, rfl⟩
  obtain ⟨w8, h8⟩ : ∃ w8, wB.alloc (.cells #[.int .i64 X.a, .int .i64 X.b, .int .i64 X.c] 39) = w8 := ⟨_, rfl⟩
  rw [hN] at HX12 hs12 ⊢
  rw [h8] at HX12 hs12 KC HOC ⊢
  clear hN h8
  refine wp_region_held_drew (S := fun w' => Below (w8).heap.size w8 w') (by kernel_rfl) (Below.refl _ w8).drew (fun hHeld => ?_)
  refine wpAnyH_take (i := 0) (v := ?_) rfl (by kernel_rfl) (by kernel_rfl) (by kernel_rfl) (fun _ _ _ h => h) (Or.inl ⟨by rfl, ?_⟩) (by assumption) ?_
  rotate_left
  · (intro wz hSw; clear hSw; go_simp; try (with_reducible rfl))
  simp only [Act.put, List.getElem_toArray, List.getElem_cons_zero, List.setIfInBounds_toArray, List.set_cons_zero, List.set_cons_succ]
  refine wpAnyH_take (i := 2) (v := ?_) rfl (by kernel_rfl) (by kernel_rfl) (by kernel_rfl) (fun _ _ _ h => h) (Or.inl ⟨by rfl, ?_⟩) (by assumption) ?_
  rotate_left
  · (intro wz hSw; clear hSw; go_simp; try (with_reducible rfl))
  simp only [Act.put, List.getElem_toArray, List.getElem_cons_zero, List.getElem_cons_succ, List.setIfInBounds_toArray, List.set_cons_zero, List.set_cons_succ]
  refine wpAnyH_take (i := 3) (v := ?_) rfl (by kernel_rfl) (by kernel_rfl) (by kernel_rfl) (fun _ _ _ h => h) (Or.inl ⟨by rfl, ?_⟩) (by assumption) ?_
  rotate_left
  · (intro wz hSw; clear hSw; go_simp; try (with_reducible rfl))
  simp only [Act.put, List.getElem_toArray, List.getElem_cons_zero, List.getElem_cons_succ, List.setIfInBounds_toArray, List.set_cons_zero, List.set_cons_succ]
  refine wpAnyH_take (i := 4) (v := ?_) rfl (by kernel_rfl) (by kernel_rfl) (by kernel_rfl) (fun _ _ _ h => h) (Or.inl ⟨by rfl, ?_⟩) (by assumption) ?_
  rotate_left
  · (intro wz hSw; clear hSw; go_simp; try (with_reducible rfl))
  simp only [Act.put, List.getElem_toArray, List.getElem_cons_zero, List.getElem_cons_succ, List.setIfInBounds_toArray, List.set_cons_zero, List.set_cons_succ]
  refine wpAnyH_take (i := 5) (v := ?_) rfl (by kernel_rfl) (by kernel_rfl) (by kernel_rfl) (fun _ _ _ h => h) (Or.inl ⟨by rfl, ?_⟩) (by assumption) ?_
  rotate_left
  · (intro wz hSw; clear hSw; go_simp; try (with_reducible rfl))
  simp only [Act.put, List.getElem_toArray, List.getElem_cons_zero, List.getElem_cons_succ, List.setIfInBounds_toArray, List.set_cons_zero, List.set_cons_succ]
  refine wpAnyH_take (i := 6) (v := ?_) rfl (by kernel_rfl) (by kernel_rfl) (by kernel_rfl) (fun _ _ _ h => h) (Or.inl ⟨by rfl, ?_⟩) (by assumption) ?_
  rotate_left
  · (intro wz hSw; clear hSw; go_simp; try (with_reducible rfl))
  simp only [Act.put, List.getElem_toArray, List.getElem_cons_zero, List.getElem_cons_succ, List.setIfInBounds_toArray, List.set_cons_zero, List.set_cons_succ]
  refine wpAnyH_take (i := 7) (v := ?_) rfl (by kernel_rfl) (by kernel_rfl) (by kernel_rfl) (fun _ _ _ h => h) (Or.inl ⟨by rfl, ?_⟩) (by assumption) ?_
  rotate_left
  · (intro wz hSw; clear hSw; go_simp; try (with_reducible rfl))
  simp only [Act.put, List.getElem_toArray, List.getElem_cons_zero, List.getElem_cons_succ, List.setIfInBounds_toArray, List.set_cons_zero, List.set_cons_succ]
  refine wpAnyH_take (i := 8) (v := ?_) rfl (by kernel_rfl) (by kernel_rfl) (by kernel_rfl) (fun _ _ _ h => h) (Or.inl ⟨by rfl, ?_⟩) (by assumption) ?_
  rotate_left
  · (intro wz hSw; clear hSw; go_simp; try (with_reducible rfl))
  simp only [Act.put, List.getElem_toArray, List.getElem_cons_zero, List.getElem_cons_succ, List.setIfInBounds_toArray, List.set_cons_zero, List.set_cons_succ]
  refine wpAnyH_ready (rs := [1]) (by kernel_rfl) (by simp) ?_
  refine AllReadyH.cons rfl (fun K hK => ?_) AllReadyH.nil
  rw [if_pos (by rfl)]
  go_wp2_with (go_at_call 22; refine (everyone_from m k _ (by omega) hkm).mono ?_; rintro e wE ⟨g, cg, rfl, gc1, gc2, hkc, hcc, HE, hbq⟩)
  refine hK.out _ _ (hHeld.trans (hbq.mono hHeld.size)) (fun hHeld => ?_)
  clear hK K hbq
  refine wpAnyH_take (i := 9) (v := ?_) rfl (by kernel_rfl) (by kernel_rfl) (by kernel_rfl) (fun _ _ _ h => h) (Or.inl ⟨by rfl, ?_⟩) (by assumption) ?_
  rotate_left
  · (intro wz hSw; clear hSw; go_simp; try (with_reducible rfl))
  simp only [Act.put, List.getElem_toArray, List.getElem_cons_zero, List.getElem_cons_succ, List.setIfInBounds_toArray, List.set_cons_zero, List.set_cons_succ]
  refine wpAnyH_take (i := 10) (v := ?_) rfl (by kernel_rfl) (by kernel_rfl) (by kernel_rfl) (fun _ _ _ h => h) (Or.inl ⟨by rfl, ?_⟩) (by assumption) ?_
  rotate_left
  · (intro wz hSw; clear hSw; go_simp; try (with_reducible rfl))
  simp only [Act.put, List.getElem_toArray, List.getElem_cons_zero, List.getElem_cons_succ, List.setIfInBounds_toArray, List.set_cons_zero, List.set_cons_succ]
  refine wpAnyH_done (by kernel_rfl) ?_ _
  have KE := Lib.hid (KC.out.below hHeld)
  have HOE := Lib.hid (HOC.out.below hHeld (Nat.le_refl _))
  have HXE := Lib.hid ((hHeld.block N (by omega)).trans HX12.out)
  have hNE : N < wE.heap.size := Nat.lt_of_lt_of_le (by omega) hHeld.size
  clear hHeld KC HOC HX12 hke hdz
  obtain ⟨rr, hrr⟩ : ∃ rr, m - k = rr := ⟨_, rfl⟩
  have hrr1 : (rr : Int) ≤ 5 := by omega
  have hrr2 : (m : Int) < 2 * (rr : Int) := by omega
  have hrr3 : ¬ 2 * (rr : Int) ≤ (m : Int) := by omega
  have hw2 : IntKind.i64.wrap (2 * (rr : Int)) = 2 * (rr : Int) := IntWalk.i64_in _ (by omega)
  have HE1 := Lib.hid (show IntsAt wE (.slice (some ⟨g, k, none⟩) rr (cg - k)) (fromK m k) by rw [← hrr]; exact HE.out)
  try rw [hrr]
  go_wp2_with fail
  try rw [hrr]
  clear hrr HE hrr2
  refine (iRLat_any _ _ Y (fromK m k) _ HOE.out.at HE1.out (by rw [fromK_length]; omega)).mono ?_
  rw [HAO.out, HLO.out]
  rintro e wF ⟨rfl, hbF⟩
  have hbG := (Below.refl wF.heap.size wF).alloc (Nat.le_refl _) (.cells #[.int .i64 X.a, .int .i64 X.b, .int .i64 X.c] 39)
  have hxG := heap_alloc_new wF (.cells #[.int .i64 X.a, .int .i64 X.b, .int .i64 X.c] 39)
  have hsG : (wF.alloc (.cells #[.int .i64 X.a, .int .i64 X.b, .int .i64 X.c] 39)).heap.size = wF.heap.size + 1 := by simp
  have hbH := hbF.trans (hbG.mono hbF.size)
  have KG := Lib.hid (KE.out.below hbH)
  have HOG := Lib.hid (HOE.out.below hbH (Nat.le_refl _))
  have HXG := Lib.hid ((hbH.block N hNE).trans HXE.out)
  have HMG := Lib.hid hxG
  have hNG : N < wF.heap.size + 1 := by have := hbF.size; omega
  clear hbG hxG hbH hbF KE HOE HXE
  obtain ⟨py, cy, rfl, gy1, gy2⟩ := HOG.out.at.form
  rw [hYl] at *
  have hq := eql_ab Try.eqlReplica (x := X) (y := X) (c := true) (by simp)
  go_wp2_with fail
  refine (iReg_any _ _ _ HOG.out.at).mono ?_
  rw [HVB.out]
  rintro e wK ⟨rfl, hbK⟩
  obtain ⟨c0, c1, c2⟩ := cells3 ((hbK.block N (by omega)).trans HXG.out)
  obtain ⟨m0, m1, m2⟩ := cells3 ((hbK.block wF.heap.size (by omega)).trans HMG.out)
  go_wp2
  ((try simp only [Exit.inBlock, Exit.then]); refine segPost_ret rfl (gt_returned Try.func4 rfl rfl (results_tmp rfl _ _ _) ?_))
  exact ⟨rfl, KG.out.below hbK⟩
end Go.Proofs.Ytddnapbdhjifiaa
