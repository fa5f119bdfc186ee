/-
  The law FnReadSame, beside goroutines that only leave.
-/
import Derived.Test.YtddnapbdhjifiaaLrh
set_option linter.unusedSimpArgs false
set_option linter.unusedVariables false
set_option linter.unusedSectionVars false
namespace Go.Proofs.Ytddnapbdhjifiaa
open Go.Conc Go.ConcN Go.RowKit Go.Conc.Lib Go.ConcR.Gen Go.ConcN.Gen Go.Proofs.Ytddnapbdhjifiaa.Rg
open Go.ConcR (KK wgBlock WgAt stA smA rd wr mk Payload Aside2 DC0 Bk)
variable [Kept]

set_option maxRecDepth 100000 in
set_option maxHeartbeats 16000000 in
theorem fnReadSameG (v : World) (vc : Value) (hc : CodeAt v vc) :
    CallsM Try.prog 7 #[vc] v fun z u => z = .bool true ∧ KeepG v u := by
  refine callsM_of_gt Try.func7 rfl fun cs => ?_
  walk_nrmf Try.f7
  have HC := Lib.hid hc
  obtain ⟨pb, n, cap, rfl, hn1, hn2, hn3⟩ := hc
  clear hn3
  unfold maxLen at hn2
  refine gt_code ?_
  refine gt_wpc closedRS (plain_of Try.func7) rfl (by kernel_rfl) (fun w hw => ?_)
  have K1 := Lib.hid (KeepG.of_same hw)
  have HC1 := Lib.hid (HC.out.same hw)
  clear hw HC
  go_wp2
  ((try simp only [Exit.inBlock, Exit.then]); refine segPost_nil rfl ?_)
  refine gt_code ?_
  obtain ⟨v1, hv1⟩ : ∃ v1, w = v1 := ⟨_, rfl⟩
  subst hv1
  refine gt_wpc closedRS (plain_of Try.func7) rfl (by kernel_rfl) (fun w hw => ?_)
  have K2 := Lib.hid (K1.out.same hw)
  have HC2 := Lib.hid (HC1.out.same hw)
  clear hw K1 HC1
  by_cases hbig : (1048576 : Int) < (n : Int)
  · go_wp2
    ((try simp only [Exit.inBlock, Exit.then]); refine segPost_ret rfl (gt_returned Try.func7 rfl rfl (results_tmp rfl _ _ _) ?_))
    exact ⟨rfl, K2.out⟩
  go_wp2
  ((try simp only [Exit.inBlock, Exit.then]); refine segPost_nil rfl ?_)
  refine gt_code ?_
  refine gt_wpc closedRS (plain_of Try.func7) rfl (by kernel_rfl) (fun w hw => ?_)
  have K3 := Lib.hid (K2.out.same hw)
  have HC3 := Lib.hid (HC2.out.same hw)
  clear hw K2 HC2
  go_wp2_with fail
  refine (drawRead_any _ _ HC3.out).mono ?_
  rintro e w1 ⟨u, xs, z, ks, t, ts, rfl, hu, hz, ht, hl1, hl2, hl3, hl4, hb⟩
  have K4 := Lib.hid (K3.out.below hb)
  have HU4 := Lib.hid hu
  have HZ4 := Lib.hid hz
  have HT4 := Lib.hid ht
  obtain ⟨pu, cu, rfl, hu1, hu2⟩ := hu.form
  clear hb K3 HC3 hu hz ht
  go_wp2
  ((try simp only [Exit.inBlock, Exit.then]); refine segPost_nil rfl ?_)
  obtain ⟨v4, hv4⟩ : ∃ v4, w1 = v4 := ⟨_, rfl⟩
  subst hv4
  refine gt_code ?_
  refine gt_region ?_
  simp only [List.size_toArray, List.length_cons, List.length_nil, Nat.reduceAdd, Nat.zero_add, List.range, List.range.loop]
  refine gt_op closedRS rfl rfl (by kernel_rfl) rfl (z := ?_) (v' := _) (fun u hu => ⟨u, ?_, hu⟩) ?_
  rotate_left
  · skip
    go_simp
    try (with_reducible rfl)
  walk_nrm
  refine gt_op closedRS rfl rfl (by kernel_rfl) rfl (z := ?_) (v' := _) (fun u hu => ⟨u, ?_, hu⟩) ?_
  rotate_left
  · skip
    go_simp
    try (with_reducible rfl)
  walk_nrm
  refine gt_op closedRS rfl rfl (by kernel_rfl) rfl (z := ?_) (v' := _) (fun u hu => ⟨u, ?_, hu⟩) ?_
  rotate_left
  · skip
    go_simp
    try (with_reducible rfl)
  walk_nrm
  refine gt_call rfl rfl rfl (f := 25) (args := #[.slice pu xs.length cu, z, t]) (fun u => ⟨?_, ?_⟩) (iReadG w1 _ _ _ xs ks ts HU4.out HZ4.out HT4.out (by omega) (by omega)) (fun y5 v5 hy => ?_)
  · go_simp
  · simp [go_sem, callFunc, Try.func25, Try.f25]
  obtain ⟨y, rfl, hO5, hK5⟩ := hy
  have K5 := Lib.hid (K4.out.trans hK5)
  have HO5 := Lib.hid hO5
  have HU5 := Lib.hid (HU4.out.keep hK5)
  have HZ5 := Lib.hid (HZ4.out.keep hK5)
  have HT5 := Lib.hid (HT4.out.keep hK5)
  clear hO5 hK5 HU4 HZ4 HT4 K4
  walk_nrm
  refine gt_op closedRS rfl rfl (by kernel_rfl) rfl (z := ?_) (v' := _) (fun u hu => ⟨u, ?_, hu⟩) ?_
  rotate_left
  · skip
    go_simp
    try (with_reducible rfl)
  walk_nrm
  refine gt_op closedRS rfl rfl (by kernel_rfl) rfl (z := ?_) (v' := _) (fun u hu => ⟨u, ?_, hu⟩) ?_
  rotate_left
  · skip
    go_simp
    try (with_reducible rfl)
  walk_nrm
  refine gt_op closedRS rfl rfl (by kernel_rfl) rfl (z := ?_) (v' := _) (fun u hu => ⟨u, ?_, hu⟩) ?_
  rotate_left
  · skip
    go_simp
    try (with_reducible rfl)
  walk_nrm
  refine gt_op closedRS rfl rfl (by kernel_rfl) rfl (z := ?_) (v' := _) (fun u hu => ⟨u, ?_, hu⟩) ?_
  rotate_left
  · skip
    go_simp
    try (with_reducible rfl)
  walk_nrm
  refine gt_op closedRS rfl rfl (by kernel_rfl) rfl (z := ?_) (v' := _) (fun u hu => ⟨u, ?_, hu⟩) ?_
  rotate_left
  · skip
    go_simp
    try (with_reducible rfl)
  walk_nrm
  refine gt_op closedRS rfl rfl (by kernel_rfl) rfl (z := ?_) (v' := _) (fun u hu => ⟨u, ?_, hu⟩) ?_
  rotate_left
  · skip
    go_simp
    try (with_reducible rfl)
  walk_nrm
  refine gt_op closedRS rfl rfl (by kernel_rfl) rfl (z := ?_) (v' := _) (fun u hu => ⟨u, ?_, hu⟩) ?_
  rotate_left
  · skip
    go_simp
    try (with_reducible rfl)
  walk_nrm
  refine gt_region_end ?_
  refine gt_code ?_
  refine gt_wpc closedRS (plain_of Try.func7) rfl (by kernel_rfl) (fun w hw => ?_)
  have K6 := Lib.hid (K5.out.same hw)
  have HO6 := Lib.hid (HO5.out.same hw)
  have HU6 := Lib.hid (HU5.out.same hw)
  have HZ6 := Lib.hid (HZ5.out.same hw)
  have HT6 := Lib.hid (HT5.out.same hw)
  clear hw K5 HO5 HU5 HZ5 HT5
  go_wp2_with fail
  refine (sRead_any _ _ _ xs ks ts _ HU6.out HZ6.out HT6.out (by omega) (by omega) (by omega)).mono ?_
  rintro e w7 ⟨y', rfl, hO7, hb7⟩
  have K7 := Lib.hid (K6.out.below hb7)
  have HO7 := Lib.hid (HO6.out.below hb7 (Nat.le_refl _))
  have HQ7 := Lib.hid hO7
  have HU7 := Lib.hid (HU6.out.below hb7 (Nat.le_refl _))
  have HZ7 := Lib.hid (HZ6.out.below hb7 (Nat.le_refl _))
  have HT7 := Lib.hid (HT6.out.below hb7 (Nat.le_refl _))
  clear hO7 hb7 K6 HO6 HU6 HZ6 HT6
  go_wp2
  ((try simp only [Exit.inBlock, Exit.then]); refine segPost_nil rfl ?_)
  refine gt_code ?_
  refine gt_wpc closedRS (plain_of Try.func7) rfl (by kernel_rfl) (fun w hw => ?_)
  have K8 := Lib.hid (K7.out.same hw)
  have HO8 := Lib.hid (HO7.out.same hw)
  have HQ8 := Lib.hid (HQ7.out.same hw)
  have HU8 := Lib.hid (HU7.out.same hw)
  have HZ8 := Lib.hid (HZ7.out.same hw)
  have HT8 := Lib.hid (HT7.out.same hw)
  clear hw K7 HO7 HQ7 HU7 HZ7 HT7
  rcases hok : rdB xs ks ts with _ | _
  · have HOK := Lib.hid hok
    clear hok
    go_wp2_with (go_at_call 20; with_reducible refine (sameReplicas_any _ _ _ _ _ HO8.out.at HQ8.out.at).mono ?_; rw [decide_eq_true rfl]; rintro e w9 ⟨rfl, hb9⟩; have K9 := Lib.hid (K8.out.below hb9); have HO9 := Lib.hid (HO8.out.below hb9 (Nat.le_refl _)); have HQ9 := Lib.hid (HQ8.out.below hb9 (Nat.le_refl _)))
    refine (sameReplicas_any _ _ _ _ _ HO9.out.at HQ9.out.at).mono ?_
    rw [decide_eq_true rfl]
    rintro e wA ⟨rfl, hbA⟩
    go_wp2
    ((try simp only [Exit.inBlock, Exit.then]); refine segPost_ret rfl (gt_returned Try.func7 rfl rfl (results_tmp rfl _ _ _) ?_))
    exact ⟨rfl, K9.out.below hbA⟩
  have HOK := Lib.hid hok
  clear hok
  go_wp2_with (go_at_call 20; with_reducible refine (sameReplicas_any _ _ _ _ _ HO8.out.at HQ8.out.at).mono ?_; rw [decide_eq_true rfl]; rintro e w9 ⟨rfl, hb9⟩)
  have K9 := Lib.hid (K8.out.below hb9)
  have HO9 := Lib.hid (show TrsOwn w9 w1.heap.size 39 y (rPutAll (rLat xs ks) xs ts) from by rw [← (rdR_yes HOK.out).1]; exact HO8.out.below hb9 (Nat.le_refl _))
  have HU9 := Lib.hid (HU8.out.below hb9 (Nat.le_refl _))
  have HZ9 := Lib.hid (HZ8.out.below hb9 (Nat.le_refl _))
  have HT9 := Lib.hid (HT8.out.below hb9 (Nat.le_refl _))
  clear hb9 K8 HO8 HQ8 HU8 HZ8 HT8
  ((try simp only [Exit.inBlock, Exit.then]); refine segPost_nil rfl ?_)
  refine gt_wpc closedRS (plain_of Try.func7) rfl (by kernel_rfl) (fun w hw => ?_)
  have KA := Lib.hid (K9.out.same hw)
  have HOA := Lib.hid (HO9.out.same hw)
  have HUA := Lib.hid (HU9.out.same hw)
  clear hw K9 HO9 HU9 HZ9 HT9
  have HASK := Lib.hid (show askB xs ks = true by have := HOK.out; unfold rdB at this; simp only [Bool.and_eq_true] at this; exact this.1)
  have HVX := Lib.hid (show regB xs = true by have := HASK.out; unfold askB at this; simp only [Bool.and_eq_true] at this; exact this.1)
  have HVB := Lib.hid (regB_put (ts := ts) HVX.out (rLat_mem HASK.out))
  have HSM := Lib.hid (lat_same (ts := ts) HVX.out (rLat_mem HASK.out))
  have HAX := Lib.hid (everyone_ask HVX.out)
  have HAY := Lib.hid (show askB (rPutAll (rLat xs ks) xs ts) (fromK xs.length 0) = true by have := everyone_ask HVB.out; rw [rPutAll_length] at this; exact this)
  obtain ⟨Y, hY⟩ : ∃ Y, rPutAll (rLat xs ks) xs ts = Y := ⟨_, rfl⟩
  rw [hY] at HOA HVB HSM HAY
  obtain ⟨A, hA⟩ : ∃ A, rLat xs (fromK xs.length 0) = A := ⟨_, rfl⟩
  have HLX := Lib.hid (show latR xs (fromK xs.length 0) = A by unfold latR; rw [HAX.out]; exact hA)
  have HLY := Lib.hid (show latR Y (fromK xs.length 0) = A by unfold latR; rw [HAY.out]; exact HSM.out.trans hA)
  clear hY hA
  go_wp2_with fail
  refine (everyone_any xs.length _ (by omega)).mono ?_
  rintro e wE ⟨a, rfl, hE, hbE⟩
  have HE := Lib.hid (firstK_at0 hE (by omega))
  go_wp2_with fail
  refine (iRLat_any _ _ xs (fromK xs.length 0) _ (HUA.out.below hbE (Nat.le_refl _)) HE.out (by rw [fromK_length]; omega)).mono ?_
  rw [HAX.out, HLX.out]
  rintro e wF ⟨rfl, hbF⟩
  have HBF := Lib.hid (hbE.trans (hbF.mono hbE.size))
  clear hE hbE hbF HE
  have hbG := (Below.refl wF.heap.size wF).alloc (Nat.le_refl _) (.cells #[.int .i64 A.a, .int .i64 A.b, .int .i64 A.c] 39)
  have hxG := heap_alloc_new wF (.cells #[.int .i64 A.a, .int .i64 A.b, .int .i64 A.c] 39)
  have hsG : (wF.alloc (.cells #[.int .i64 A.a, .int .i64 A.b, .int .i64 A.c] 39)).heap.size = wF.heap.size + 1 := by simp
  have HBG := Lib.hid (HBF.out.trans (hbG.mono HBF.out.size))
  have HXG := Lib.hid hxG
  clear hbG hxG
  go_wp2_with fail
  refine (everyone_any xs.length _ (by omega)).mono ?_
  rintro e wH ⟨a2, rfl, hE2, hbH⟩
  have HE2 := Lib.hid (firstK_at0 hE2 (by omega))
  have HBH := Lib.hid (HBG.out.trans (hbH.mono HBG.out.size))
  have hxH := (hbH.block wF.heap.size (by omega)).trans HXG.out
  have hsH : wF.heap.size < wH.heap.size := Nat.lt_of_lt_of_le (by omega) hbH.size
  go_wp2_with fail
  refine (iRLat_any _ _ Y (fromK xs.length 0) _ (HOA.out.below HBH.out (Nat.le_refl _)).at HE2.out (by rw [fromK_length]; omega)).mono ?_
  rw [HAY.out, HLY.out]
  rintro e wI ⟨rfl, hbI⟩
  have hxI := (hbI.block wF.heap.size hsH).trans hxH
  have hsI : wF.heap.size < wI.heap.size := Nat.lt_of_lt_of_le hsH hbI.size
  have hbJ := (Below.refl wI.heap.size wI).alloc (Nat.le_refl _) (.cells #[.int .i64 A.a, .int .i64 A.b, .int .i64 A.c] 39)
  have hxJ := heap_alloc_new wI (.cells #[.int .i64 A.a, .int .i64 A.b, .int .i64 A.c] 39)
  obtain ⟨c0, c1, c2⟩ := cells3 ((hbJ.block wF.heap.size hsI).trans hxI)
  obtain ⟨m0, m1, m2⟩ := cells3 hxJ
  have HBJ := Lib.hid ((HBH.out.trans (hbI.mono HBH.out.size)).trans (hbJ.mono (Nat.le_trans HBH.out.size hbI.size)))
  have hq := eql_ab Try.eqlReplica (x := A) (y := A) (c := true) (by simp)
  clear hbH hxH hbI hxI hbJ hxJ hE2 HE2
  go_wp2_with fail
  refine (iReg_any _ _ _ (HOA.out.below HBJ.out (Nat.le_refl _)).at).mono ?_
  rw [HVB.out]
  rintro e wK ⟨rfl, hbK⟩
  go_wp2
  ((try simp only [Exit.inBlock, Exit.then]); refine segPost_ret rfl (gt_returned Try.func7 rfl rfl (results_tmp rfl _ _ _) ?_))
  exact ⟨rfl, (KA.out.below HBJ.out).below hbK⟩
end Go.Proofs.Ytddnapbdhjifiaa
