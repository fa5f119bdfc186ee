/-
  The law FnReadTwice, beside goroutines that only leave.
-/
import Derived.Test.YtddnapbdhjifiaaLrh
set_option linter.unusedSimpArgs false
set_option linter.unusedVariables false
set_option linter.unusedSectionVars false
namespace Go.Proofs.Ytddnapbdhjifiaa
open Go.Conc Go.ConcN Go.RowKit Go.Conc.Lib Go.ConcR.Gen Go.ConcN.Gen Go.Proofs.Ytddnapbdhjifiaa.Rg
open Go.ConcR (KK wgBlock WgAt stA smA rd wr mk Payload Aside2 DC0 Bk)

theorem nodup_le : ∀ (n : Nat) (l : List Int), l.Nodup → (∀ x, x ∈ l → 0 ≤ x ∧ x < n) → l.length ≤ n
  | 0, l, _, h => by
    rcases l with _ | ⟨a, l⟩
    · exact Nat.le_refl _
    · have := h a (by simp); omega
  | n + 1, l, hd, h => by
    by_cases hm : (n : Int) ∈ l
    · have h1 := nodup_le n (l.erase n) (hd.erase _) (fun x hx => by
        have h2 := h x (List.mem_of_mem_erase hx)
        have h3 : x ≠ n := fun e => by subst e; exact (hd.not_mem_erase) hx
        omega)
      have h4 := List.length_erase_of_mem hm
      omega
    · have h1 := nodup_le n l hd (fun x hx => by
        have h2 := h x hx
        have h3 : x ≠ n := fun e => by subst e; exact hm hx
        omega)
      omega
theorem setB_nodup {n : Int} {ks : List Int} (h : setB n ks = true) : ks.Nodup := by
  refine List.pairwise_iff_getElem.2 fun i j hi hj hij => ?_
  have := setB_mono h i j hij hj
  rw [List.getD_eq_getElem?_getD, List.getD_eq_getElem?_getD, List.getElem?_eq_getElem hi, List.getElem?_eq_getElem hj] at this
  simp only [Option.getD_some] at this
  omega
theorem setB_mem {n : Int} {ks : List Int} (h : setB n ks = true) : ∀ x, x ∈ ks → 0 ≤ x ∧ x < n := by
  intro x hx
  obtain ⟨m, hm, rfl⟩ := List.getElem_of_mem hx
  have := setB_range h m hm
  rw [List.getD_eq_getElem?_getD, List.getElem?_eq_getElem hm] at this
  exact this
theorem majs_meet {n : Nat} {ts ks : List Int} (ht : majB n ts = true) (hk : majB n ks = true) : ∃ x : Int, x ∈ ts ∧ x ∈ ks := by
  by_cases hx : ∃ x : Int, x ∈ ts ∧ x ∈ ks
  · exact hx
  · exfalso
    have h1 := setB_nodup (majB_set ht)
    have h2 := setB_nodup (majB_set hk)
    have h3 : (ts ++ ks).Nodup := List.nodup_append.2 ⟨h1, h2, fun a ha b hb e => hx ⟨a, ha, by rw [e]; exact hb⟩⟩
    have h4 := nodup_le n (ts ++ ks) h3 (fun x hx => by
      rcases List.mem_append.1 hx with h | h
      · exact setB_mem (majB_set ht) x h
      · exact setB_mem (majB_set hk) x h)
    rw [List.length_append] at h4
    unfold majB at ht hk
    simp only [Bool.and_eq_true, decide_eq_true_eq] at ht hk
    omega
/-- What was put at a majority is known to each majority. -/
theorem put_known3 {rs : List Tr} {x : Tr} {ts ks : List Int} (ht : majB rs.length ts = true) (hk : majB rs.length ks = true) : rOlder (rLat (rPutAll x rs ts) ks) x = false := by
  obtain ⟨y, h1, h2⟩ := majs_meet ht hk
  have h0 := setB_mem (majB_set ht) y h1
  obtain ⟨m, hm, e⟩ := List.getElem_of_mem h2
  have h4 := rLat_max (rPutAll x rs ts) ks hm
  have e2 : ks.getD m 0 = y := by rw [List.getD_eq_getElem?_getD, List.getElem?_eq_getElem hm, e]; rfl
  have e3 : ((y.toNat : Nat) : Int) = y := by omega
  rw [e2, rPutAll_get _ _ _ (by omega), if_pos (by rw [e3]; exact h1)] at h4
  exact rOlder_trans h4 (rOlder_put x _)
variable [Kept]
theorem CodeAt.keep {v u : World} {z : Value} (h : CodeAt v z) (s : KeepG v u) : CodeAt u z := by
  obtain ⟨pb, n, cap, h1, h2, h3, h4⟩ := h
  refine ⟨pb, n, cap, h1, h2, h3, h4.imp id fun ⟨b, o, e, hl, hx⟩ => ⟨b, o, e, Nat.lt_of_lt_of_le hl s.size, fun i hi => ?_⟩⟩
  obtain ⟨x, hx1, hx2⟩ := hx i hi
  exact ⟨x, hx1, (s.cell (p := ⟨b, o + i, none⟩) hl).trans hx2⟩
set_option maxRecDepth 100000 in
set_option maxHeartbeats 16000000 in
theorem fnReadTwiceG (v : World) (vc vd : Value) (hc : CodeAt v vc) (hd : CodeAt v vd) :
    CallsM Try.prog 5 #[vc, vd] v fun z u => z = .bool true ∧ KeepG v u := by
  have HDV := Lib.hid hd
  refine callsM_of_gt Try.func5 rfl fun cs => ?_
  walk_nrmf Try.f5
  have HC := Lib.hid hc
  have HD := Lib.hid hd
  obtain ⟨pb, n, cap, rfl, hn1, hn2, hn3⟩ := hc
  obtain ⟨pb', n', cap', rfl, hn1', hn2', hn3'⟩ := hd
  clear hn3 hn3'
  unfold maxLen at hn2 hn2'
  refine gt_code ?_
  refine gt_wpc closedRS (plain_of Try.func5) rfl (by kernel_rfl) (fun w hw => ?_)
  have K1 := Lib.hid (KeepG.of_same hw)
  have HC1 := Lib.hid (HC.out.same hw)
  have HD1 := Lib.hid (HD.out.same hw)
  clear hw HC HD
  go_wp2
  ((try simp only [Exit.inBlock, Exit.then]); refine segPost_nil rfl ?_)
  refine gt_code ?_
  obtain ⟨v1, hv1⟩ : ∃ v1, w = v1 := ⟨_, rfl⟩
  subst hv1
  refine gt_wpc closedRS (plain_of Try.func5) rfl (by kernel_rfl) (fun w hw => ?_)
  have K2 := Lib.hid (K1.out.same hw)
  have HC2 := Lib.hid (HC1.out.same hw)
  have HD2 := Lib.hid (HD1.out.same hw)
  clear hw K1 HC1 HD1
  by_cases hbig : (1048576 : Int) < (n : Int)
  · go_wp2
    ((try simp only [Exit.inBlock, Exit.then]); refine segPost_ret rfl (gt_returned Try.func5 rfl rfl (results_tmp rfl _ _ _) ?_))
    exact ⟨rfl, K2.out⟩
  by_cases hbig' : (1048576 : Int) < (n' : Int)
  · go_wp2
    ((try simp only [Exit.inBlock, Exit.then]); refine segPost_ret rfl (gt_returned Try.func5 rfl rfl (results_tmp rfl _ _ _) ?_))
    exact ⟨rfl, K2.out⟩
  go_wp2
  ((try simp only [Exit.inBlock, Exit.then]); refine segPost_nil rfl ?_)
  refine gt_code ?_
  refine gt_wpc closedRS (plain_of Try.func5) rfl (by kernel_rfl) (fun w hw => ?_)
  have K3 := Lib.hid (K2.out.same hw)
  have HC3 := Lib.hid (HC2.out.same hw)
  clear hw K2 HC2
  go_wp2_with fail
  refine (drawRead_any _ _ HC3.out).mono ?_
  rintro e w1 ⟨u, xs, z, ks, t, ts, rfl, hu, hz, ht, hl1, hl2, hl3, hl4, hb⟩
  have K4 := Lib.hid (K3.out.below hb)
  have HU4 := Lib.hid hu
  have HZ4 := Lib.hid hz
  have HT4 := Lib.hid ht
  obtain ⟨pu, cu, rfl, hu1, hu2⟩ := hu.form
  clear hb K3 HC3 hu hz ht
  go_wp2
  ((try simp only [Exit.inBlock, Exit.then]); refine segPost_nil rfl ?_)
  obtain ⟨v4, hv4⟩ : ∃ v4, w1 = v4 := ⟨_, rfl⟩
  subst hv4
  refine gt_code ?_
  refine gt_region ?_
  simp only [List.size_toArray, List.length_cons, List.length_nil, Nat.reduceAdd, Nat.zero_add, List.range, List.range.loop]
  refine gt_op closedRS rfl rfl (by kernel_rfl) rfl (z := ?_) (v' := _) (fun u hu => ⟨u, ?_, hu⟩) ?_
  rotate_left
  · skip
    go_simp
    try (with_reducible rfl)
  walk_nrm
  refine gt_op closedRS rfl rfl (by kernel_rfl) rfl (z := ?_) (v' := _) (fun u hu => ⟨u, ?_, hu⟩) ?_
  rotate_left
  · skip
    go_simp
    try (with_reducible rfl)
  walk_nrm
  refine gt_op closedRS rfl rfl (by kernel_rfl) rfl (z := ?_) (v' := _) (fun u hu => ⟨u, ?_, hu⟩) ?_
  rotate_left
  · skip
    go_simp
    try (with_reducible rfl)
  walk_nrm
  refine gt_call rfl rfl rfl (f := 25) (args := #[.slice pu xs.length cu, z, t]) (fun u => ⟨?_, ?_⟩) (iReadG w1 _ _ _ xs ks ts HU4.out HZ4.out HT4.out (by omega) (by omega)) (fun y5 v5 hy => ?_)
  · go_simp
  · simp [go_sem, callFunc, Try.func25, Try.f25]
  obtain ⟨y, rfl, hO5, hK5⟩ := hy
  have K5 := Lib.hid (K4.out.trans hK5)
  have HO5 := Lib.hid hO5
  have HU5 := Lib.hid (HU4.out.keep hK5)
  have HZ5 := Lib.hid (HZ4.out.keep hK5)
  have HT5 := Lib.hid (HT4.out.keep hK5)
  clear hO5 hK5 HU4 HZ4 HT4 K4
  walk_nrm
  refine gt_op closedRS rfl rfl (by kernel_rfl) rfl (z := ?_) (v' := _) (fun u hu => ⟨u, ?_, hu⟩) ?_
  rotate_left
  · skip
    go_simp
    try (with_reducible rfl)
  walk_nrm
  refine gt_op closedRS rfl rfl (by kernel_rfl) rfl (z := ?_) (v' := _) (fun u hu => ⟨u, ?_, hu⟩) ?_
  rotate_left
  · skip
    go_simp
    try (with_reducible rfl)
  walk_nrm
  refine gt_op closedRS rfl rfl (by kernel_rfl) rfl (z := ?_) (v' := _) (fun u hu => ⟨u, ?_, hu⟩) ?_
  rotate_left
  · skip
    go_simp
    try (with_reducible rfl)
  walk_nrm
  refine gt_op closedRS rfl rfl (by kernel_rfl) rfl (z := ?_) (v' := _) (fun u hu => ⟨u, ?_, hu⟩) ?_
  rotate_left
  · skip
    go_simp
    try (with_reducible rfl)
  walk_nrm
  refine gt_op closedRS rfl rfl (by kernel_rfl) rfl (z := ?_) (v' := _) (fun u hu => ⟨u, ?_, hu⟩) ?_
  rotate_left
  · skip
    go_simp
    try (with_reducible rfl)
  walk_nrm
  refine gt_op closedRS rfl rfl (by kernel_rfl) rfl (z := ?_) (v' := _) (fun u hu => ⟨u, ?_, hu⟩) ?_
  rotate_left
  · skip
    go_simp
    try (with_reducible rfl)
  walk_nrm
  refine gt_op closedRS rfl rfl (by kernel_rfl) rfl (z := ?_) (v' := _) (fun u hu => ⟨u, ?_, hu⟩) ?_
  rotate_left
  · skip
    go_simp
    try (with_reducible rfl)
  walk_nrm
  refine gt_region_end ?_
  refine gt_code ?_
  refine gt_wpc closedRS (plain_of Try.func5) rfl (by kernel_rfl) (fun w hw => ?_)
  have K6 := Lib.hid (K5.out.same hw)
  have HO6 := Lib.hid (HO5.out.same hw)
  have HU6 := Lib.hid (HU5.out.same hw)
  have HZ6 := Lib.hid (HZ5.out.same hw)
  have HT6 := Lib.hid (HT5.out.same hw)
  clear hw K5 HO5 HU5 HZ5 HT5
  go_wp2_with fail
  refine (sRead_any _ _ _ xs ks ts _ HU6.out HZ6.out HT6.out (by omega) (by omega) (by omega)).mono ?_
  rintro e w7 ⟨y', rfl, hO7, hb7⟩
  have K7 := Lib.hid (K6.out.below hb7)
  have HO7 := Lib.hid (HO6.out.below hb7 (Nat.le_refl _))
  have HQ7 := Lib.hid hO7
  have HU7 := Lib.hid (HU6.out.below hb7 (Nat.le_refl _))
  have HZ7 := Lib.hid (HZ6.out.below hb7 (Nat.le_refl _))
  have HT7 := Lib.hid (HT6.out.below hb7 (Nat.le_refl _))
  clear hO7 hb7 K6 HO6 HU6 HZ6 HT6
  go_wp2
  ((try simp only [Exit.inBlock, Exit.then]); refine segPost_nil rfl ?_)
  refine gt_code ?_
  refine gt_wpc closedRS (plain_of Try.func5) rfl (by kernel_rfl) (fun w hw => ?_)
  have K8 := Lib.hid (K7.out.same hw)
  have HO8 := Lib.hid (HO7.out.same hw)
  have HQ8 := Lib.hid (HQ7.out.same hw)
  have HU8 := Lib.hid (HU7.out.same hw)
  have HZ8 := Lib.hid (HZ7.out.same hw)
  have HT8 := Lib.hid (HT7.out.same hw)
  clear hw K7 HO7 HQ7 HU7 HZ7 HT7
  rcases hok : rdB xs ks ts with _ | _
  · have HOK := Lib.hid hok
    clear hok
    go_wp2_with (go_at_call 20; with_reducible refine (sameReplicas_any _ _ _ _ _ HO8.out.at HQ8.out.at).mono ?_; rw [decide_eq_true rfl]; rintro e w9 ⟨rfl, hb9⟩; have K9 := Lib.hid (K8.out.below hb9); have HO9 := Lib.hid (HO8.out.below hb9 (Nat.le_refl _)); have HQ9 := Lib.hid (HQ8.out.below hb9 (Nat.le_refl _)))
    refine (sameReplicas_any _ _ _ _ _ HO9.out.at HQ9.out.at).mono ?_
    rw [decide_eq_true rfl]
    rintro e wA ⟨rfl, hbA⟩
    go_wp2
    ((try simp only [Exit.inBlock, Exit.then]); refine segPost_ret rfl (gt_returned Try.func5 rfl rfl (results_tmp rfl _ _ _) ?_))
    exact ⟨rfl, K9.out.below hbA⟩
  have HOK := Lib.hid hok
  clear hok
  go_wp2_with (go_at_call 20; with_reducible refine (sameReplicas_any _ _ _ _ _ HO8.out.at HQ8.out.at).mono ?_; rw [decide_eq_true rfl]; rintro e w9 ⟨rfl, hb9⟩)
  have K9 := Lib.hid (K8.out.below hb9)
  have HO9 := Lib.hid (show TrsOwn w9 w1.heap.size 39 y (rPutAll (rLat xs ks) xs ts) from by rw [← (rdR_yes HOK.out).1]; exact HO8.out.below hb9 (Nat.le_refl _))
  have HU9 := Lib.hid (HU8.out.below hb9 (Nat.le_refl _))
  have HZ9 := Lib.hid (HZ8.out.below hb9 (Nat.le_refl _))
  have HT9 := Lib.hid (HT8.out.below hb9 (Nat.le_refl _))
  clear hb9 K8 HO8 HQ8 HU8 HZ8 HT8
  ((try simp only [Exit.inBlock, Exit.then]); refine segPost_nil rfl ?_)
  have HMT := Lib.hid (show majB xs.length ts = true by have := HOK.out; unfold rdB at this; simp only [Bool.and_eq_true] at this; exact this.2)
  have HASK := Lib.hid (show askB xs ks = true by have := HOK.out; unfold rdB at this; simp only [Bool.and_eq_true] at this; exact this.1)
  have HVX := Lib.hid (show regB xs = true by have := HASK.out; unfold askB at this; simp only [Bool.and_eq_true] at this; exact this.1)
  have HVB := Lib.hid (regB_put (ts := ts) HVX.out (rLat_mem HASK.out))
  have HKN := Lib.hid (fun bs (h : majB (rPutAll (rLat xs ks) xs ts).length bs = true) => put_known3 (x := rLat xs ks) (ks := bs) HMT.out (by rw [rPutAll_length] at h; exact h))
  have hl5 : xs.length ≤ 5 := (regB_len HVX.out).2
  rw [(rdR_yes HOK.out).2]
  obtain ⟨X, hX⟩ : ∃ X, rLat xs ks = X := ⟨_, rfl⟩
  have HLR := Lib.hid (show latR xs ks = X by unfold latR; rw [HASK.out]; exact hX)
  rw [hX] at HO9 HVB HKN ⊢
  clear hX
  obtain ⟨Y, hY⟩ : ∃ Y, rPutAll X xs ts = Y := ⟨_, rfl⟩
  rw [hY] at HO9 HVB HKN
  clear hY
  clear HT9
  refine gt_code ?_
  refine gt_wpc closedRS (plain_of Try.func5) rfl (by kernel_rfl) (fun w hw => ?_)
  have KA := Lib.hid (K9.out.same hw)
  have HOA := Lib.hid (HO9.out.same hw)
  have HUA := Lib.hid (HU9.out.same hw)
  have HZA := Lib.hid (HZ9.out.same hw)
  clear hw K9 HO9 HU9 HZ9
  go_wp2_with fail
  refine (iRLat_any _ _ xs ks _ HUA.out HZA.out (by omega)).mono ?_
  rw [HASK.out, HLR.out]
  rintro e wB ⟨rfl, hbB⟩
  have hb12 := (Below.refl wB.heap.size wB).alloc (Nat.le_refl _) (.cells #[.int .i64 X.a, .int .i64 X.b, .int .i64 X.c] 39)
  have hx12 := heap_alloc_new wB (.cells #[.int .i64 X.a, .int .i64 X.b, .int .i64 X.c] 39)
  have hs12 : (wB.alloc (.cells #[.int .i64 X.a, .int .i64 X.b, .int .i64 X.c] 39)).heap.size = wB.heap.size + 1 := by simp
  have KC := Lib.hid ((KA.out.below hbB).below hb12)
  have HOC := Lib.hid ((HOA.out.below hbB (Nat.le_refl _)).below hb12 (Nat.le_refl _))
  clear hb12 hbB KA HOA HUA HZA
  go_wp2
  ((try simp only [Exit.inBlock, Exit.then]); refine segPost_nil rfl ?_)
  obtain ⟨N, hN⟩ : ∃ N, wB.heap.size = N := ⟨_, rfl⟩
  obtain ⟨w8, h8⟩ : ∃ w8, wB.alloc (.cells #[.int .i64 X.a, .int .i64 X.b, .int .i64 X.c] 39) = w8 := ⟨_, rfl⟩
  rw [hN] at hx12 hs12 ⊢
  rw [h8] at hx12 hs12 KC HOC ⊢
  have HXC := Lib.hid hx12
  have hNC : N < w8.heap.size := by omega
  clear hN h8 hx12 hs12
  refine gt_code ?_
  refine gt_wpc closedRS (plain_of Try.func5) rfl (by kernel_rfl) (fun w hw => ?_)
  have KE := Lib.hid (KC.out.same hw)
  have HOE := Lib.hid (HOC.out.same hw)
  have HXE := Lib.hid (show w.heap[N]? = some (.cells #[.int .i64 X.a, .int .i64 X.b, .int .i64 X.c] 39) from by rw [hw.heap]; exact HXC.out)
  have hNE : N < w.heap.size := by rw [hw.heap]; exact hNC
  clear hw KC HOC HXC hNC
  go_wp2_with fail
  refine (drawRead_any _ _ (HDV.out.keep KE.out)).mono ?_
  rintro e wF ⟨u2, xs2, z2, bs, t2, cs, rfl, hu2', hz2', ht2', hm1, hm2, hm3, hm4, hbF⟩
  have KF := Lib.hid (KE.out.below hbF)
  have HOF := Lib.hid (HOE.out.below hbF (Nat.le_refl _))
  have HXF := Lib.hid ((hbF.block N hNE).trans HXE.out)
  have hNF : N < wF.heap.size := Nat.lt_of_lt_of_le hNE hbF.size
  have HBF := Lib.hid hz2'
  have HCF := Lib.hid ht2'
  clear hu2' hz2' ht2' hbF KE HOE HXE hNE
  go_wp2
  ((try simp only [Exit.inBlock, Exit.then]); refine segPost_nil rfl ?_)
  refine gt_code ?_
  obtain ⟨w9, h9⟩ : ∃ w9, wF = w9 := ⟨_, rfl⟩
  subst h9
  refine gt_wpc closedRS (plain_of Try.func5) rfl (by kernel_rfl) (fun w hw => ?_)
  have KG := Lib.hid (KF.out.same hw)
  have HOG := Lib.hid (HOF.out.same hw)
  have HBG := Lib.hid (HBF.out.same hw)
  have HCG := Lib.hid (HCF.out.same hw)
  have HXG := Lib.hid (show w.heap[N]? = some (.cells #[.int .i64 X.a, .int .i64 X.b, .int .i64 X.c] 39) from by rw [hw.heap]; exact HXF.out)
  have hNG : N < w.heap.size := by rw [hw.heap]; exact hNF
  clear hw KF HOF HBF HCF HXF hNF
  go_wp2_with fail
  refine (iRLat_any _ _ Y bs _ HOG.out.at HBG.out (by omega)).mono ?_
  rintro e wH ⟨rfl, hbH⟩
  obtain ⟨M, hM⟩ : ∃ M, latR Y bs = M := ⟨_, rfl⟩
  rw [hM]
  have HM := Lib.hid hM
  clear hM
  have hb12 := (Below.refl wH.heap.size wH).alloc (Nat.le_refl _) (.cells #[.int .i64 M.a, .int .i64 M.b, .int .i64 M.c] 39)
  have hx12 := heap_alloc_new wH (.cells #[.int .i64 M.a, .int .i64 M.b, .int .i64 M.c] 39)
  have hs12 : (wH.alloc (.cells #[.int .i64 M.a, .int .i64 M.b, .int .i64 M.c] 39)).heap.size = wH.heap.size + 1 := by simp
  have hbI := hbH.trans (hb12.mono hbH.size)
  have KI := Lib.hid (KG.out.below hbI)
  have HOI := Lib.hid (HOG.out.below hbI (Nat.le_refl _))
  have HBI := Lib.hid (HBG.out.below hbI (Nat.le_refl _))
  have HCI := Lib.hid (HCG.out.below hbI (Nat.le_refl _))
  have HXI := Lib.hid ((hbI.block N hNG).trans HXG.out)
  have hNI : N < wH.heap.size + 1 := by have := hbH.size; omega
  clear hb12 hbH hbI KG HOG HBG HCG HXG hNG
  go_wp2
  ((try simp only [Exit.inBlock, Exit.then]); refine segPost_nil rfl ?_)
  obtain ⟨R, hR⟩ : ∃ R, wH.heap.size = R := ⟨_, rfl⟩
  obtain ⟨w10, h10⟩ : ∃ w10, wH.alloc (.cells #[.int .i64 M.a, .int .i64 M.b, .int .i64 M.c] 39) = w10 := ⟨_, rfl⟩
  rw [hR] at hx12 hs12 hNI ⊢
  rw [h10] at hx12 hs12 KI HOI HBI HCI HXI ⊢
  have HMI := Lib.hid hx12
  clear hR h10 hx12
  refine gt_code ?_
  refine gt_region ?_
  simp only [List.size_toArray, List.length_cons, List.length_nil, Nat.reduceAdd, Nat.zero_add, List.range, List.range.loop]
  refine gt_op closedRS rfl rfl (by kernel_rfl) rfl (z := ?_) (v' := _) (fun u hu => ⟨u, ?_, hu⟩) ?_
  rotate_left
  · skip
    go_simp
    try (with_reducible rfl)
  walk_nrm
  refine gt_op closedRS rfl rfl (by kernel_rfl) rfl (z := ?_) (v' := _) (fun u hu => ⟨u, ?_, hu⟩) ?_
  rotate_left
  · skip
    go_simp
    try (with_reducible rfl)
  walk_nrm
  refine gt_op closedRS rfl rfl (by kernel_rfl) rfl (z := ?_) (v' := _) (fun u hu => ⟨u, ?_, hu⟩) ?_
  rotate_left
  · skip
    go_simp
    try (with_reducible rfl)
  walk_nrm
  refine gt_call rfl rfl rfl (f := 25) (args := #[y, z2, t2]) (fun u => ⟨?_, ?_⟩) (iReadG w10 _ _ _ Y bs cs HOI.out.at HBI.out HCI.out (by omega) (by omega)) (fun y20 v20 hy => ?_)
  · go_simp
  · simp [go_sem, callFunc, Try.func25, Try.f25]
  obtain ⟨y3, rfl, hO3, hK3⟩ := hy
  have KJ := Lib.hid (KI.out.trans hK3)
  have HOJ := Lib.hid (HOI.out.keep hK3)
  have HPJ := Lib.hid hO3
  have HXJ := Lib.hid ((hK3.block N (by omega)).trans HXI.out)
  have HMJ := Lib.hid ((hK3.block R (by omega)).trans HMI.out)
  have hsJ := hK3.size
  clear hO3 hK3 HBI HCI KI HXI HMI
  walk_nrm
  refine gt_op closedRS rfl rfl (by kernel_rfl) rfl (z := ?_) (v' := _) (fun u hu => ⟨u, ?_, hu⟩) ?_
  rotate_left
  · skip
    go_simp
    try (with_reducible rfl)
  walk_nrm
  refine gt_op closedRS rfl rfl (by kernel_rfl) rfl (z := ?_) (v' := _) (fun u hu => ⟨u, ?_, hu⟩) ?_
  rotate_left
  · skip
    go_simp
    try (with_reducible rfl)
  walk_nrm
  refine gt_op closedRS rfl rfl (by kernel_rfl) rfl (z := ?_) (v' := _) (fun u hu => ⟨u, ?_, hu⟩) ?_
  rotate_left
  · skip
    go_simp
    try (with_reducible rfl)
  walk_nrm
  refine gt_op closedRS rfl rfl (by kernel_rfl) rfl (z := ?_) (v' := _) (fun u hu => ⟨u, ?_, hu⟩) ?_
  rotate_left
  · skip
    go_simp
    try (with_reducible rfl)
  walk_nrm
  refine gt_op closedRS rfl rfl (by kernel_rfl) rfl (z := ?_) (v' := _) (fun u hu => ⟨u, ?_, hu⟩) ?_
  rotate_left
  · skip
    go_simp
    try (with_reducible rfl)
  walk_nrm
  refine gt_op closedRS rfl rfl (by kernel_rfl) rfl (z := ?_) (v' := _) (fun u hu => ⟨u, ?_, hu⟩) ?_
  rotate_left
  · skip
    go_simp
    try (with_reducible rfl)
  walk_nrm
  refine gt_op closedRS rfl rfl (by kernel_rfl) rfl (z := ?_) (v' := _) (fun u hu => ⟨u, ?_, hu⟩) ?_
  rotate_left
  · skip
    go_simp
    try (with_reducible rfl)
  walk_nrm
  refine gt_region_end ?_
  refine gt_wpc closedRS (plain_of Try.func5) rfl (by kernel_rfl) (fun w hw => ?_)
  have KL := Lib.hid (KJ.out.same hw)
  have HOL := Lib.hid (HOJ.out.same hw)
  have HPL := Lib.hid (HPJ.out.same hw)
  have HXL := Lib.hid (show w.heap[N]? = some (.cells #[.int .i64 X.a, .int .i64 X.b, .int .i64 X.c] 39) from by rw [hw.heap]; exact HXJ.out)
  have HML := Lib.hid (show w.heap[R]? = some (.cells #[.int .i64 M.a, .int .i64 M.b, .int .i64 M.c] 39) from by rw [hw.heap]; exact HMJ.out)
  have hNL : N < w.heap.size := by rw [hw.heap]; omega
  have hRL : R < w.heap.size := by rw [hw.heap]; omega
  clear hw KJ HOJ HPJ HXJ HMJ
  rcases hf : askB Y bs with _ | _
  · clear hf
    go_wp2
    ((try simp only [Exit.inBlock, Exit.then]); refine segPost_ret rfl (gt_returned Try.func5 rfl rfl (results_tmp rfl _ _ _) ?_))
    exact ⟨rfl, KL.out⟩
  have HML2 := Lib.hid (show M = rLat Y bs by rw [← HM.out]; unfold latR; rw [hf]; rfl)
  have HMX := Lib.hid (show rOlder M X = false by rw [HML2.out]; exact HKN.out bs (by unfold askB at hf; simp only [Bool.and_eq_true] at hf; exact hf.2))
  clear hf
  obtain ⟨c0, c1, c2⟩ := cells3 HXL.out
  obtain ⟨m0, m1, m2⟩ := cells3 HML.out
  rcases hg : rdB Y bs cs with _ | _
  · clear hg
    go_wp2_with (go_at_call 27; refine (lOlder_any M X _).mono ?_; rw [HMX.out]; rintro e wI ⟨rfl, hbI⟩)
    ((try simp only [Exit.inBlock, Exit.then]); refine segPost_ret rfl (gt_returned Try.func5 rfl rfl (results_tmp rfl _ _ _) ?_))
    exact ⟨rfl, KL.out.below hbI⟩
  rw [(rdR_yes hg).2, ← HML2.out]
  have HPP := Lib.hid (show TrsOwn w _ 39 y3 (rPutAll M Y cs) from by have := HPL.out; rw [(rdR_yes hg).1, ← HML2.out] at this; exact this)
  clear hg
  have hYL := (regB_len HVB.out).1
  obtain ⟨pg, cg, rfl, gc1, gc2⟩ := HPP.out.at.form
  obtain ⟨pg2, cg2, rfl, gc3, gc4⟩ := HOL.out.at.form
  rw [rPutAll_length] at gc1 ⊢
  go_wp2_with (go_at_call 27; refine (lOlder_any M X _).mono ?_; rw [HMX.out]; rintro e wI ⟨rfl, hbI⟩; have q2 := (hbI.cell (p := ⟨R, 2, none⟩) hRL).trans m2)
  ((try simp only [Exit.inBlock, Exit.then]); refine segPost_ret rfl (gt_returned Try.func5 rfl rfl (results_tmp rfl _ _ _) ?_))
  exact ⟨rfl, KL.out.below hbI⟩
end Go.Proofs.Ytddnapbdhjifiaa
