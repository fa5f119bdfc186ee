/-
  The law FnReadBack, beside goroutines that only leave.
-/
import Derived.Test.YtddnapbdhjifiaaLrh
set_option linter.unusedSimpArgs false
set_option linter.unusedVariables false
set_option linter.unusedSectionVars false
namespace Go.Proofs.Ytddnapbdhjifiaa
open Go.Conc Go.ConcN Go.RowKit Go.Conc.Lib Go.ConcR.Gen Go.ConcN.Gen Go.Proofs.Ytddnapbdhjifiaa.Rg
open Go.ConcR (KK wgBlock WgAt stA smA rd wr mk Payload Aside2 DC0 Bk)
variable [Kept]

set_option maxRecDepth 100000 in
set_option maxHeartbeats 16000000 in
theorem fnReadBackG (v : World) (vc vd : Value) (hc : CodeAt v vc) (hd : CodeAt v vd) :
    CallsM Try.prog 8 #[vc, vd] v fun z u => z = .bool true ∧ KeepG v u := by
  refine callsM_of_gt Try.func8 rfl fun cs => ?_
  walk_nrmf Try.f8
  have HC := Lib.hid hc
  have HD := Lib.hid hd
  obtain ⟨pb, n, cap, rfl, hn1, hn2, hn3⟩ := hc
  obtain ⟨pb', n', cap', rfl, hn1', hn2', hn3'⟩ := hd
  clear hn3 hn3'
  unfold maxLen at hn2 hn2'
  refine gt_code ?_
  refine gt_wpc closedRS (plain_of Try.func8) rfl (by kernel_rfl) (fun w hw => ?_)
  have K1 := Lib.hid (KeepG.of_same hw)
  have HC1 := Lib.hid (HC.out.same hw)
  have HD1 := Lib.hid (HD.out.same hw)
  clear hw HC HD
  go_wp2
  ((try simp only [Exit.inBlock, Exit.then]); refine segPost_nil rfl ?_)
  refine gt_code ?_
  obtain ⟨v1, hv1⟩ : ∃ v1, w = v1 := ⟨_, rfl⟩
  subst hv1
  refine gt_wpc closedRS (plain_of Try.func8) rfl (by kernel_rfl) (fun w hw => ?_)
  have K2 := Lib.hid (K1.out.same hw)
  have HC2 := Lib.hid (HC1.out.same hw)
  have HD2 := Lib.hid (HD1.out.same hw)
  clear hw K1 HC1 HD1
  by_cases hbig : (1048576 : Int) < (n : Int)
  · go_wp2
    ((try simp only [Exit.inBlock, Exit.then]); refine segPost_ret rfl (gt_returned Try.func8 rfl rfl (results_tmp rfl _ _ _) ?_))
    exact ⟨rfl, K2.out⟩
  by_cases hbig' : (1048576 : Int) < (n' : Int)
  · go_wp2
    ((try simp only [Exit.inBlock, Exit.then]); refine segPost_ret rfl (gt_returned Try.func8 rfl rfl (results_tmp rfl _ _ _) ?_))
    exact ⟨rfl, K2.out⟩
  go_wp2
  ((try simp only [Exit.inBlock, Exit.then]); refine segPost_nil rfl ?_)
  refine gt_code ?_
  refine gt_wpc closedRS (plain_of Try.func8) rfl (by kernel_rfl) (fun w hw => ?_)
  have K3 := Lib.hid (K2.out.same hw)
  have HC3 := Lib.hid (HC2.out.same hw)
  clear hw K2 HC2
  go_wp2_with fail
  refine (drawRead_any _ _ HC3.out).mono ?_
  rintro e w1 ⟨u, xs, z, ks, t, ts, rfl, hu, hz, ht, hl1, hl2, hl3, hl4, hb⟩
  have K4 := Lib.hid (K3.out.below hb)
  have HU4 := Lib.hid hu
  have HZ4 := Lib.hid hz
  have HT4 := Lib.hid ht
  obtain ⟨pu, cu, rfl, hu1, hu2⟩ := hu.form
  clear hb K3 HC3 hu hz ht
  go_wp2
  ((try simp only [Exit.inBlock, Exit.then]); refine segPost_nil rfl ?_)
  obtain ⟨v4, hv4⟩ : ∃ v4, w1 = v4 := ⟨_, rfl⟩
  subst hv4
  refine gt_code ?_
  refine gt_region ?_
  simp only [List.size_toArray, List.length_cons, List.length_nil, Nat.reduceAdd, Nat.zero_add, List.range, List.range.loop]
  refine gt_op closedRS rfl rfl (by kernel_rfl) rfl (z := ?_) (v' := _) (fun u hu => ⟨u, ?_, hu⟩) ?_
  rotate_left
  · skip
    go_simp
    try (with_reducible rfl)
  walk_nrm
  refine gt_op closedRS rfl rfl (by kernel_rfl) rfl (z := ?_) (v' := _) (fun u hu => ⟨u, ?_, hu⟩) ?_
  rotate_left
  · skip
    go_simp
    try (with_reducible rfl)
  walk_nrm
  refine gt_op closedRS rfl rfl (by kernel_rfl) rfl (z := ?_) (v' := _) (fun u hu => ⟨u, ?_, hu⟩) ?_
  rotate_left
  · skip
    go_simp
    try (with_reducible rfl)
  walk_nrm
  refine gt_call rfl rfl rfl (f := 25) (args := #[.slice pu xs.length cu, z, t]) (fun u => ⟨?_, ?_⟩) (iReadG w1 _ _ _ xs ks ts HU4.out HZ4.out HT4.out (by omega) (by omega)) (fun y5 v5 hy => ?_)
  · go_simp
  · simp [go_sem, callFunc, Try.func25, Try.f25]
  obtain ⟨y, rfl, hO5, hK5⟩ := hy
  have K5 := Lib.hid (K4.out.trans hK5)
  have HO5 := Lib.hid hO5
  have HU5 := Lib.hid (HU4.out.keep hK5)
  have HZ5 := Lib.hid (HZ4.out.keep hK5)
  have HT5 := Lib.hid (HT4.out.keep hK5)
  clear hO5 hK5 HU4 HZ4 HT4 K4
  walk_nrm
  refine gt_op closedRS rfl rfl (by kernel_rfl) rfl (z := ?_) (v' := _) (fun u hu => ⟨u, ?_, hu⟩) ?_
  rotate_left
  · skip
    go_simp
    try (with_reducible rfl)
  walk_nrm
  refine gt_op closedRS rfl rfl (by kernel_rfl) rfl (z := ?_) (v' := _) (fun u hu => ⟨u, ?_, hu⟩) ?_
  rotate_left
  · skip
    go_simp
    try (with_reducible rfl)
  walk_nrm
  refine gt_op closedRS rfl rfl (by kernel_rfl) rfl (z := ?_) (v' := _) (fun u hu => ⟨u, ?_, hu⟩) ?_
  rotate_left
  · skip
    go_simp
    try (with_reducible rfl)
  walk_nrm
  refine gt_op closedRS rfl rfl (by kernel_rfl) rfl (z := ?_) (v' := _) (fun u hu => ⟨u, ?_, hu⟩) ?_
  rotate_left
  · skip
    go_simp
    try (with_reducible rfl)
  walk_nrm
  refine gt_op closedRS rfl rfl (by kernel_rfl) rfl (z := ?_) (v' := _) (fun u hu => ⟨u, ?_, hu⟩) ?_
  rotate_left
  · skip
    go_simp
    try (with_reducible rfl)
  walk_nrm
  refine gt_op closedRS rfl rfl (by kernel_rfl) rfl (z := ?_) (v' := _) (fun u hu => ⟨u, ?_, hu⟩) ?_
  rotate_left
  · skip
    go_simp
    try (with_reducible rfl)
  walk_nrm
  refine gt_op closedRS rfl rfl (by kernel_rfl) rfl (z := ?_) (v' := _) (fun u hu => ⟨u, ?_, hu⟩) ?_
  rotate_left
  · skip
    go_simp
    try (with_reducible rfl)
  walk_nrm
  refine gt_region_end ?_
  refine gt_code ?_
  refine gt_wpc closedRS (plain_of Try.func8) rfl (by kernel_rfl) (fun w hw => ?_)
  have K6 := Lib.hid (K5.out.same hw)
  have HO6 := Lib.hid (HO5.out.same hw)
  have HU6 := Lib.hid (HU5.out.same hw)
  have HZ6 := Lib.hid (HZ5.out.same hw)
  have HT6 := Lib.hid (HT5.out.same hw)
  clear hw K5 HO5 HU5 HZ5 HT5
  go_wp2_with fail
  refine (sRead_any _ _ _ xs ks ts _ HU6.out HZ6.out HT6.out (by omega) (by omega) (by omega)).mono ?_
  rintro e w7 ⟨y', rfl, hO7, hb7⟩
  have K7 := Lib.hid (K6.out.below hb7)
  have HO7 := Lib.hid (HO6.out.below hb7 (Nat.le_refl _))
  have HQ7 := Lib.hid hO7
  have HU7 := Lib.hid (HU6.out.below hb7 (Nat.le_refl _))
  have HZ7 := Lib.hid (HZ6.out.below hb7 (Nat.le_refl _))
  have HT7 := Lib.hid (HT6.out.below hb7 (Nat.le_refl _))
  clear hO7 hb7 K6 HO6 HU6 HZ6 HT6
  go_wp2
  ((try simp only [Exit.inBlock, Exit.then]); refine segPost_nil rfl ?_)
  refine gt_code ?_
  refine gt_wpc closedRS (plain_of Try.func8) rfl (by kernel_rfl) (fun w hw => ?_)
  have K8 := Lib.hid (K7.out.same hw)
  have HO8 := Lib.hid (HO7.out.same hw)
  have HQ8 := Lib.hid (HQ7.out.same hw)
  have HU8 := Lib.hid (HU7.out.same hw)
  have HZ8 := Lib.hid (HZ7.out.same hw)
  have HT8 := Lib.hid (HT7.out.same hw)
  clear hw K7 HO7 HQ7 HU7 HZ7 HT7
  rcases hok : rdB xs ks ts with _ | _
  · have HOK := Lib.hid hok
    clear hok
    go_wp2_with (go_at_call 20; with_reducible refine (sameReplicas_any _ _ _ _ _ HO8.out.at HQ8.out.at).mono ?_; rw [decide_eq_true rfl]; rintro e w9 ⟨rfl, hb9⟩; have K9 := Lib.hid (K8.out.below hb9); have HO9 := Lib.hid (HO8.out.below hb9 (Nat.le_refl _)); have HQ9 := Lib.hid (HQ8.out.below hb9 (Nat.le_refl _)))
    refine (sameReplicas_any _ _ _ _ _ HO9.out.at HQ9.out.at).mono ?_
    rw [decide_eq_true rfl]
    rintro e wA ⟨rfl, hbA⟩
    go_wp2
    ((try simp only [Exit.inBlock, Exit.then]); refine segPost_ret rfl (gt_returned Try.func8 rfl rfl (results_tmp rfl _ _ _) ?_))
    exact ⟨rfl, K9.out.below hbA⟩
  have HOK := Lib.hid hok
  clear hok
  go_wp2_with (go_at_call 20; with_reducible refine (sameReplicas_any _ _ _ _ _ HO8.out.at HQ8.out.at).mono ?_; rw [decide_eq_true rfl]; rintro e w9 ⟨rfl, hb9⟩)
  have K9 := Lib.hid (K8.out.below hb9)
  have HO9 := Lib.hid (show TrsOwn w9 w1.heap.size 39 y (rPutAll (rLat xs ks) xs ts) from by rw [← (rdR_yes HOK.out).1]; exact HO8.out.below hb9 (Nat.le_refl _))
  have HU9 := Lib.hid (HU8.out.below hb9 (Nat.le_refl _))
  have HZ9 := Lib.hid (HZ8.out.below hb9 (Nat.le_refl _))
  have HT9 := Lib.hid (HT8.out.below hb9 (Nat.le_refl _))
  clear hb9 K8 HO8 HQ8 HU8 HZ8 HT8
  ((try simp only [Exit.inBlock, Exit.then]); refine segPost_nil rfl ?_)
  refine gt_wpc closedRS (plain_of Try.func8) rfl (by kernel_rfl) (fun w hw => ?_)
  have KA := Lib.hid (K9.out.same hw)
  have HOA := Lib.hid (HO9.out.same hw)
  have HUA := Lib.hid (HU9.out.same hw)
  have HZA := Lib.hid (HZ9.out.same hw)
  clear hw K9 HO9 HU9 HZ9 HT9
  have HMT := Lib.hid (show majB xs.length ts = true by have := HOK.out; unfold rdB at this; simp only [Bool.and_eq_true] at this; exact this.2)
  have HASK := Lib.hid (show askB xs ks = true by have := HOK.out; unfold rdB at this; simp only [Bool.and_eq_true] at this; exact this.1)
  have HVX := Lib.hid (show regB xs = true by have := HASK.out; unfold askB at this; simp only [Bool.and_eq_true] at this; exact this.1)
  have HVB := Lib.hid (regB_put (ts := ts) HVX.out (rLat_mem HASK.out))
  have hl5 : xs.length ≤ 5 := (regB_len HVX.out).2
  rw [(rdR_yes HOK.out).2]
  obtain ⟨X, hX⟩ : ∃ X, rLat xs ks = X := ⟨_, rfl⟩
  have HLR := Lib.hid (show latR xs ks = X by unfold latR; rw [HASK.out]; exact hX)
  rw [hX] at HOA HVB ⊢
  clear hX
  go_wp2_with fail
  refine (iRLat_any _ _ xs ks _ HUA.out HZA.out (by omega)).mono ?_
  rw [HASK.out, HLR.out]
  rintro e wB ⟨rfl, hbB⟩
  have KB := Lib.hid (KA.out.below hbB)
  have hb12 := (Below.refl wB.heap.size wB).alloc (Nat.le_refl _) (.cells #[.int .i64 X.a, .int .i64 X.b, .int .i64 X.c] 39)
  have hx12 := heap_alloc_new wB (.cells #[.int .i64 X.a, .int .i64 X.b, .int .i64 X.c] 39)
  have hs12 : (wB.alloc (.cells #[.int .i64 X.a, .int .i64 X.b, .int .i64 X.c] 39)).heap.size = wB.heap.size + 1 := by simp
  have HBC := Lib.hid (hbB.trans (hb12.mono hbB.size))
  have HX12 := Lib.hid hx12
  clear hb12 hx12 hbB
  have hdp : 0 < (xs.length : Int) - (xs.length : Int) / 2 := by omega
  obtain ⟨k, hke⟩ : ∃ k : Nat, (n' : Int) % ((xs.length : Int) - (xs.length : Int) / 2) = (k : Int) := ⟨((n' : Int) % ((xs.length : Int) - (xs.length : Int) / 2)).toNat, (Int.toNat_of_nonneg (Int.emod_nonneg _ (by omega))).symm⟩
  have hkd : (k : Int) < (xs.length : Int) - (xs.length : Int) / 2 := by rw [← hke]; exact Int.emod_lt_of_pos _ hdp
  have hkd' : k < xs.length - xs.length / 2 := by omega
  have hdz : (((xs.length : Int) - (xs.length : Int) / 2) == 0) = false := beq_eq_false_iff_ne.2 (by omega)
  go_wp2_with fail
  try rw [hke]
  refine (everyone_any xs.length _ (by omega)).mono ?_
  rintro e wE ⟨a, rfl, hE, hbE⟩
  obtain ⟨g, cg, rfl, gc1, gc2, gB, gl⟩ := hE.form
  have hEl : ((List.range xs.length).map Int.ofNat).length = xs.length := by simp
  rw [hEl] at gc1 hE ⊢
  unfold maxLen at gc2
  have HE := Lib.hid (fromK_at hE (show k < xs.length by omega))
  have HBE := Lib.hid (HBC.out.trans (hbE.mono HBC.out.size))
  have HX12 := Lib.hid ((hbE.block wB.heap.size (by omega)).trans HX12.out)
  have hsE : wB.heap.size < wE.heap.size := Nat.lt_of_lt_of_le (by omega) hbE.size
  have hk0 : (0 : Int) ≤ (k : Int) := by omega
  have hkl : (k : Int) ≤ (xs.length : Int) := by omega
  have hkc : (k : Int) ≤ (cg : Int) := by omega
  have hcc : cg ≠ k := by omega
  clear hE hbE
  have HPK := Lib.hid (put_known (x := X) HMT.out hkd')
  have HAO := Lib.hid (show askB (rPutAll X xs ts) (fromK xs.length k) = true by unfold askB; rw [HVB.out, rPutAll_length, fromK_maj hkd']; rfl)
  have HLO := Lib.hid (show latR (rPutAll X xs ts) (fromK xs.length k) = rLat (rPutAll X xs ts) (fromK xs.length k) by unfold latR; rw [HAO.out]; rfl)
  obtain ⟨rr, hrr⟩ : ∃ rr, xs.length - k = rr := ⟨_, rfl⟩
  have hrr1 : (rr : Int) ≤ 5 := by omega
  have hrr2 : (xs.length : Int) < 2 * (rr : Int) := by omega
  have hrr3 : ¬ 2 * (rr : Int) ≤ (xs.length : Int) := by omega
  have hw2 : IntKind.i64.wrap (2 * (rr : Int)) = 2 * (rr : Int) := IntWalk.i64_in _ (by omega)
  have HE1 := Lib.hid (show IntsAt wE (.slice (some ⟨g, k, none⟩) rr (cg - k)) (fromK xs.length k) by rw [← hrr]; exact HE.out)
  go_wp2_with fail
  try rw [hrr]
  clear hrr HE hrr2
  refine (iRLat_any _ _ (rPutAll X xs ts) (fromK xs.length k) _ (HOA.out.below HBE.out (Nat.le_refl _)).at HE1.out (by rw [fromK_length]; omega)).mono ?_
  rw [HAO.out, HLO.out]
  rintro e wF ⟨rfl, hbF⟩
  obtain ⟨M, hM⟩ : ∃ M, rLat (rPutAll X xs ts) (fromK xs.length k) = M := ⟨_, rfl⟩
  have HMX := Lib.hid (show rOlder M X = false by rw [← hM]; exact HPK.out)
  rw [hM]
  clear hM
  have hbG := (Below.refl wF.heap.size wF).alloc (Nat.le_refl _) (.cells #[.int .i64 M.a, .int .i64 M.b, .int .i64 M.c] 39)
  have hxG := heap_alloc_new wF (.cells #[.int .i64 M.a, .int .i64 M.b, .int .i64 M.c] 39)
  have hsG : (wF.alloc (.cells #[.int .i64 M.a, .int .i64 M.b, .int .i64 M.c] 39)).heap.size = wF.heap.size + 1 := by simp
  have hsF : wB.heap.size < wF.heap.size := Nat.lt_of_lt_of_le hsE hbF.size
  obtain ⟨c0, c1, c2⟩ := cells3 ((hbG.block wB.heap.size hsF).trans ((hbF.block wB.heap.size hsE).trans HX12.out))
  obtain ⟨m0, m1, m2⟩ := cells3 hxG
  have KH := Lib.hid (((KA.out.below HBE.out).below hbF).below hbG)
  have hsq : wB.heap.size < (wF.alloc (.cells #[.int .i64 M.a, .int .i64 M.b, .int .i64 M.c] 39)).heap.size := by rw [hsG]; omega
  clear hbG hxG
  go_wp2_with (go_at_call 27; refine (lOlder_any M X _).mono ?_; rw [HMX.out]; rintro e wI ⟨rfl, hbI⟩; have q2 := (hbI.cell (p := ⟨wB.heap.size, 2, none⟩) hsq).trans c2)
  ((try simp only [Exit.inBlock, Exit.then]); refine segPost_ret rfl (gt_returned Try.func8 rfl rfl (results_tmp rfl _ _ _) ?_))
  exact ⟨rfl, KH.out.below hbI⟩
end Go.Proofs.Ytddnapbdhjifiaa
