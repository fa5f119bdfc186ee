/-
  Walks: the law FnRingValid.
-/
import Derived.Test.YtnoamohpkngbdaaLawT
import Derived.Test.YtnoamohpkngbdaaLawK
import Derived.Test.YtnoamohpkngbdaaLawN2
import Derived.Test.YtnoamohpkngbdaaSJoin
namespace Go.Proofs.Ytnoamohpkngbdaa
open Go.RowKit

theorem bad_ring {r : List Nd} {k : Nat} {i b x : Int} (hk : k < r.length) : ringValid (r.set k ⟨i, b, [x]⟩) = false := by
  cases hv : ringValid (r.set k ⟨i, b, [x]⟩)
  · rfl
  · have hk' : k < (r.set k (⟨i, b, [x]⟩ : Nd)).length := by rw [List.length_set]; exact hk
    have := ((shape_valid hv).2 k hk').1
    rw [getD_set hk, if_pos rfl] at this
    cases this

set_option maxRecDepth 100000 in
set_option maxHeartbeats 4000000 in
theorem lawRingValid_any (v v2 : Value) (w : World) (h : CodeAt w v) (h2 : CodeAt w v2) :
    Calls Try.prog 4 #[v, v2] w fun e w' => e = .returned (.bool true) ∧ Below w.heap.size w w' := by
  have H := Lib.hid h
  obtain ⟨pb, n, cap, rfl, hn1, hn2, -⟩ := h
  obtain ⟨pb2, N, cap2, rfl, hm1, hm2, -⟩ := h2
  unfold maxLen at hn2 hm2
  by_cases hbig : 1048576 < n
  · go_enter Try.func4, Try.ntmps4
    go_wp2
    go_ret
    exact ⟨rfl, Below.refl _ _⟩
  have hbig' : n ≤ 1048576 := by omega
  clear hbig
  by_cases hbig : 1048576 < N
  · go_enter Try.func4, Try.ntmps4
    go_wp2
    go_ret
    exact ⟨rfl, Below.refl _ _⟩
  have hbig2' : N ≤ 1048576 := by omega
  clear hbig
  have hf0 := field0
  have hf1 := field1
  have hf2 := field2
  go_enter Try.func4, Try.ntmps4
  go_wp2_with fail
  refine (drawRingValid_any _ _ H.out).mono ?_
  rintro e w1 ⟨u, y, rfl, hat, hsm, hb1⟩
  have HAT := Lib.hid hat
  have hz1 := hb1.size
  have hy10 := hsm.2.1
  have hy1 := hsm.1
  have hyS := Lib.hid hsm
  obtain ⟨p, cp, rfl⟩ := hat.form
  clear hsm hat
  cases hv : ringValid y
  · have HV := Lib.hid hv
    clear hv
    go_wp2_with (first | (go_at_call 24; refine (iRingValid_any _ y _ HAT.out).mono ?_; rw [HV.out]; rintro e w2 ⟨rfl, hb2⟩) | (go_at_call 25; refine (sRingValid_any _ y _ (HAT.out.below hb2 (Nat.le_refl _))).mono ?_; rw [HV.out]; rintro e w3 ⟨rfl, hb3⟩))
    go_ret
    exact ⟨rfl, hb1.trans ((hb2.trans (hb3.mono hb2.size)).mono hz1)⟩
  have HV := Lib.hid hv
  have hne : ((y.length : Int) == 0) = false := beq_eq_false_iff_ne.2 (by omega)
  obtain ⟨k, e1, hk⟩ : ∃ k : Nat, (N : Int) % (y.length : Int) = (k : Int) ∧ k < y.length := ⟨N % y.length, by simp, Nat.mod_lt _ (by omega)⟩
  obtain ⟨n0, ni, nz0, nz1, nz2⟩ := info_parts Try.infoNode
  clear hv
  go_upto_region 9 with (first | (go_at_call 24; refine (iRingValid_any _ y _ HAT.out).mono ?_; rw [HV.out]; rintro e w2 ⟨rfl, hb2⟩) | (go_at_call 25; refine (sRingValid_any _ y _ (HAT.out.below hb2 (Nat.le_refl _))).mono ?_; rw [HV.out]; rintro e w4 ⟨rfl, hb4⟩; have hbC := hb2.trans (hb4.mono hb2.size); have HC := Lib.hid (HAT.out.below hbC (Nat.le_refl _)); have hbD := hb1.trans (hbC.mono hz1)))
  rw [e1]
  clear e1
  obtain ⟨b, o, cp', vs, ev, hc1, hc2, hsrc⟩ := HC.out.srcs (by omega)
  cases ev
  have hb4l : b < w4.heap.size := hsrc.lt
  have S1 := Lib.hid hsrc
  have hc2' := hc2
  unfold maxLen at hc2'
  have i0 : (0 : Int) ≤ (k : Int) := by omega
  have i1 : (k : Int) ≤ (cp : Int) := by omega
  have i2 : (k : Int) + 1 ≤ (cp : Int) := by omega
  have i3 : (k : Int) + 1 ≤ (y.length : Int) := by omega
  have i4 : (0 : Int) ≤ (k : Int) + 1 := by omega
  have i5 : IntKind.i64.wrap ((k : Int) + 1) = (k : Int) + 1 := IntWalk.i64_in _ (by omega)
  have i6 : ((k : Int) + 1).toNat = k + 1 := by omega
  clear hsrc hc2
  have hA := (Below.refl w4.heap.size w4).alloc (Nat.le_refl _) (.cells #[] 35)
  have S2 := Lib.hid (S1.out.below hA (Nat.le_refl _))
  have hM : (w4.alloc (.cells #[] 35)).ownsRow w4.heap.size 35 3 (.slice (some ⟨w4.heap.size, 0, none⟩) 0 0) 0 [] := by
    have := World.ownsRow_made (base := w4.heap.size) (e := 35) (size := 3) w4 #[] 0 (Nat.le_refl _) (by unfold maxLen; omega) rfl
    simpa using this
  have HM := Lib.hid hM
  clear hM
  obtain ⟨O, hO, hN⟩ := drop_addr b o (k + 1) cp y vs hc1
  have HN := Lib.hid hN
  clear hN
  go_region_held_law (fun _ => True) (trivial) (first | ((refine step_append_any (by rfl) (.tmp 45) (.tmp 48) 25 (by rfl) w4.heap.size 35 n0 (.agg #[.int .i64 0, .int .i64 0, .slice none 0 0]) 3 40 Try.underlying25 ni nz0 nz1 nz2 (by rfl) (by decide) (.slice (some ⟨w4.heap.size, 0, none⟩) 0 0) 0 [] (by rfl) (by exact HM.out) ⟨b, o, none⟩ k cp ((flatN y vs).take (k * 3)) (by rfl) (by exact S2.out.take k (by omega)) (by unfold maxLen; omega) (by omega) (by simp) ?_; intro u5 w5 hown1 hgrow1 hnil1; have hO5 := Lib.hid hown1; have g1 : (w4.alloc (.cells #[] 35)).grownBy w5 (some w4.heap.size) := ⟨hgrow1.os, hgrow1.tape, hgrow1.output, hgrow1.size, hgrow1.block⟩; have hb45 := hA.grown g1 (by simp) (fun q hq => Nat.le_of_eq (Option.some.inj hq)); have S3 := Lib.hid (S1.out.below hb45 (Nat.le_refl _)); have hz45 := hb45.size; clear hown1 hnil1)) | ((refine step_append_any (by rfl) (.tmp 49) (.tmp 53) 25 (by rfl) w4.heap.size 35 n0 (.agg #[.int .i64 0, .int .i64 0, .slice none 0 0]) 3 40 Try.underlying25 ni nz0 nz1 nz2 (by rfl) (by decide) u5 (0 + k) ([] ++ (flatN y vs).take (k * 3)) (by rfl) (by exact hO5.out) ⟨b, O, none⟩ (y.length - (k + 1)) (cp - (k + 1)) ((flatN y vs).drop ((k + 1) * 3)) (by rfl) (by exact HN.out _ S3.out) (by unfold maxLen; omega) (by omega) (by omega) ?_; intro u6 w6 hown2 hgrow2 hnil2; have hb46 := hb45.grown hgrow2 hz45 (fun q hq => (hO5.out.lt q hq).1); have hO6 := Lib.hid (sh_erase (S1.out.below hb46 (Nat.le_refl _)) hk hown2); clear hown2 hnil2)))
  clear hO i1 i2 i3 i4 i5 i6
  have hz46 := hb46.size
  have S6 := Lib.hid (S1.out.below hb46 (Nat.le_refl _))
  have hM6 : (w6.alloc (.cells #[] 35)).ownsRow w6.heap.size 35 3 (.slice (some ⟨w6.heap.size, 0, none⟩) 0 0) 0 [] := by
    have := World.ownsRow_made (base := w6.heap.size) (e := 35) (size := 3) w6 #[] 0 (Nat.le_refl _) (by unfold maxLen; omega) rfl
    simpa using this
  have hA6 := (Below.refl w6.heap.size w6).alloc (Nat.le_refl _) (.cells #[] 35)
  have S7 := Lib.hid (S6.out.below hA6 (Nat.le_refl _))
  go_wp2_with (at_builtin; refine wpList_append_own _ rfl _ _ 25 rfl w6.heap.size 35 n0 (.agg #[.int .i64 0, .int .i64 0, .slice none 0 0]) 3 40 Try.underlying25 ni nz0 nz1 nz2 rfl (by decide) _ 0 [] rfl hM6 ⟨b, o, none⟩ y.length cp (flatN y vs) rfl (flatN_length y vs S7.out.len) (fun j u hj => by rw [Addr.add_lit]; exact S7.out.cell j u hj) S7.out.one (by unfold maxLen; omega) (by omega) (by simp) ?_; intro v7 w7 hown7 hgrow7 hnil7; rw [Nat.zero_add, List.nil_append] at hown7; obtain ⟨g7, c7, rfl, gc1, gc2, gB, gl7⟩ := own_form hown7 (fun e => absurd (show Value.slice (some ⟨w6.heap.size, 0, none⟩) 0 0 = .slice none 0 0 from (hnil7.1 e).1) (by simp)); have g67 : (w6.alloc (.cells #[] 35)).grownBy w7 (some w6.heap.size) := ⟨hgrow7.os, hgrow7.tape, hgrow7.output, hgrow7.size, hgrow7.block⟩; have hb67 := hA6.grown g67 (by simp) (fun q hq => Nat.le_of_eq (Option.some.inj hq)); have HO7 := Lib.hid hown7; clear hown7 hgrow7 hnil7)
  unfold maxLen at gc2
  obtain ⟨bn, on, b', o', ca', en, -, hc1', hc2'', hca, hca', hbl, hbl', k0, k1, k2, k3, k4⟩ := (HC.out.below hb46 (Nat.le_refl _)).node hk ((shape_valid HV.out).2 k hk).1
  cases en
  obtain ⟨i, hi⟩ : ∃ x, (y.getD k default).id = x := ⟨_, rfl⟩
  obtain ⟨bf, hbf⟩ : ∃ x, (y.getD k default).before = x := ⟨_, rfl⟩
  obtain ⟨x0, hx0⟩ : ∃ x, a0 (y.getD k default) = x := ⟨_, rfl⟩
  rw [hi] at k0
  rw [hbf] at k1
  rw [hx0] at k3
  obtain ⟨f1, f2, f3⟩ := flatN_get y vs S7.out.len k hk
  obtain ⟨ga, ca, ea, -, -, -, -, m1, q1⟩ := ownsRow_cell HO7.out f1
  obtain ⟨gb, cb, eb, -, -, -, -, m2, q2⟩ := ownsRow_cell HO7.out f2
  obtain ⟨gc, cc, ec, -, -, -, -, m3, q3⟩ := ownsRow_cell HO7.out f3
  cases ea; cases eb; cases ec
  have i1 : (k : Int) < (y.length : Int) := by omega
  have hca1 : (1 : Int) ≤ (ca' : Int) := by omega
  have hK3 := Lib.hid k3
  clear k4 hi hbf hx0 f1 f2 f3 k3
  go_wp2_with fail
  refine wp_region_held_drew (S := fun w' => Below (w6).heap.size w6 w') (by kernel_rfl) hb67.drew (fun hHeld => ?_)
  refine wpAnyH_take (i := 0) (v := ?_) rfl (by kernel_rfl) (by kernel_rfl) (by kernel_rfl) (fun _ _ _ h => h) (Or.inl ⟨by rfl, ?_⟩) (by assumption) ?_
  rotate_left
  · (intro wz hSw; clear hSw; go_simp; try (with_reducible rfl))
  simp only [Act.put, List.getElem_toArray, List.getElem_cons_zero, List.setIfInBounds_toArray, List.set_cons_zero, List.set_cons_succ]
  refine wpAnyH_take (i := 1) (v := ?_) rfl (by kernel_rfl) (by kernel_rfl) (by kernel_rfl) (fun _ _ _ h => h) (Or.inl ⟨by rfl, ?_⟩) (by assumption) ?_
  rotate_left
  · (intro wz hSw; clear hSw; go_simp; try (with_reducible rfl))
  simp only [Act.put, List.getElem_toArray, List.getElem_cons_zero, List.getElem_cons_succ, List.setIfInBounds_toArray, List.set_cons_zero, List.set_cons_succ]
  refine wpAnyH_take (i := 2) (v := ?_) rfl (by kernel_rfl) (by kernel_rfl) (by kernel_rfl) (fun _ _ _ h => h) (Or.inl ⟨by rfl, ?_⟩) (by assumption) ?_
  rotate_left
  · (intro wz hSw; clear hSw; go_simp; try (with_reducible rfl))
  simp only [Act.put, List.getElem_toArray, List.getElem_cons_zero, List.getElem_cons_succ, List.setIfInBounds_toArray, List.set_cons_zero, List.set_cons_succ]
  refine wpAnyH_take (i := 3) (v := ?_) rfl (by kernel_rfl) (by kernel_rfl) (by kernel_rfl) (fun _ _ _ h => h) (Or.inl ⟨by rfl, ?_⟩) (by assumption) ?_
  rotate_left
  · (intro wz hSw; clear hSw; go_simp; try (with_reducible rfl))
  simp only [Act.put, List.getElem_toArray, List.getElem_cons_zero, List.getElem_cons_succ, List.setIfInBounds_toArray, List.set_cons_zero, List.set_cons_succ]
  refine wpAnyH_take (i := 4) (v := ?_) rfl (by kernel_rfl) (by kernel_rfl) (by kernel_rfl) (fun _ _ _ h => h) (Or.inl ⟨by rfl, ?_⟩) (by assumption) ?_
  rotate_left
  · (intro wz hSw; clear hSw; go_simp; try (with_reducible rfl))
  simp only [Act.put, List.getElem_toArray, List.getElem_cons_zero, List.getElem_cons_succ, List.setIfInBounds_toArray, List.set_cons_zero, List.set_cons_succ]
  refine wpAnyH_take (i := 5) (v := ?_) rfl (by kernel_rfl) (by kernel_rfl) (by kernel_rfl) (fun _ _ _ h => h) (Or.inl ⟨by rfl, ?_⟩) (by assumption) ?_
  rotate_left
  · (intro wz hSw; clear hSw; go_simp; try (with_reducible rfl))
  simp only [Act.put, List.getElem_toArray, List.getElem_cons_zero, List.getElem_cons_succ, List.setIfInBounds_toArray, List.set_cons_zero, List.set_cons_succ]
  refine wpAnyH_take (i := 6) (v := ?_) rfl (by kernel_rfl) (by kernel_rfl) (by kernel_rfl) (fun _ _ _ h => h) (Or.inl ⟨by rfl, ?_⟩) (by assumption) ?_
  rotate_left
  · (intro wz hSw; have s0 := (hSw.cell (p := ⟨b, o + k * 3, none⟩) hbl).trans k0; have s1 := (hSw.cell (p := ⟨b, o + k * 3 + 1, none⟩) hbl).trans k1; have s2 := (hSw.cell (p := ⟨b, o + k * 3 + 2, none⟩) hbl).trans k2; go_simp; try (with_reducible rfl))
  simp only [Act.put, List.getElem_toArray, List.getElem_cons_zero, List.getElem_cons_succ, List.setIfInBounds_toArray, List.set_cons_zero, List.set_cons_succ]
  refine wpAnyH_take (i := 7) (v := ?_) rfl (by kernel_rfl) (by kernel_rfl) (by kernel_rfl) (fun _ _ _ h => h) (Or.inl ⟨by rfl, ?_⟩) (by assumption) ?_
  rotate_left
  · (intro wz hSw; clear hSw; go_simp; try (with_reducible rfl))
  simp only [Act.put, List.getElem_toArray, List.getElem_cons_zero, List.getElem_cons_succ, List.setIfInBounds_toArray, List.set_cons_zero, List.set_cons_succ]
  refine wpAnyH_take (i := 8) (v := ?_) rfl (by kernel_rfl) (by kernel_rfl) (by kernel_rfl) (fun _ _ _ h => h) (Or.inl ⟨by rfl, ?_⟩) (by assumption) ?_
  rotate_left
  · (intro wz hSw; clear hSw; go_simp; try (with_reducible rfl))
  simp only [Act.put, List.getElem_toArray, List.getElem_cons_zero, List.getElem_cons_succ, List.setIfInBounds_toArray, List.set_cons_zero, List.set_cons_succ]
  refine wpAnyH_take (i := 9) (v := ?_) rfl (by kernel_rfl) (by kernel_rfl) (by kernel_rfl) (fun _ _ _ h => h) (Or.inl ⟨by rfl, ?_⟩) (by assumption) ?_
  rotate_left
  · (intro wz hSw; clear hSw; go_simp; try (with_reducible rfl))
  simp only [Act.put, List.getElem_toArray, List.getElem_cons_zero, List.getElem_cons_succ, List.setIfInBounds_toArray, List.set_cons_zero, List.set_cons_succ]
  refine wpAnyH_take (i := 10) (v := ?_) rfl (by kernel_rfl) (by kernel_rfl) (by kernel_rfl) (fun _ _ _ h => h) (Or.inl ⟨by rfl, ?_⟩) (by assumption) ?_
  rotate_left
  · (intro wz hSw; clear hSw; go_simp; try (with_reducible rfl))
  simp only [Act.put, List.getElem_toArray, List.getElem_cons_zero, List.getElem_cons_succ, List.setIfInBounds_toArray, List.set_cons_zero, List.set_cons_succ]
  refine wpAnyH_take (i := 11) (v := ?_) rfl (by kernel_rfl) (by kernel_rfl) (by kernel_rfl) (fun _ _ _ h => h) (Or.inl ⟨by rfl, ?_⟩) (by assumption) ?_
  rotate_left
  · (intro wz hSw; have s0 := (hSw.cell (p := ⟨b, o + k * 3, none⟩) hbl).trans k0; have s1 := (hSw.cell (p := ⟨b, o + k * 3 + 1, none⟩) hbl).trans k1; have s2 := (hSw.cell (p := ⟨b, o + k * 3 + 2, none⟩) hbl).trans k2; go_simp; try (with_reducible rfl))
  simp only [Act.put, List.getElem_toArray, List.getElem_cons_zero, List.getElem_cons_succ, List.setIfInBounds_toArray, List.set_cons_zero, List.set_cons_succ]
  refine wpAnyH_take (i := 12) (v := ?_) rfl (by kernel_rfl) (by kernel_rfl) (by kernel_rfl) (fun _ _ _ h => h) (Or.inl ⟨by rfl, ?_⟩) (by assumption) ?_
  rotate_left
  · (intro wz hSw; clear hSw; go_simp; try (with_reducible rfl))
  simp only [Act.put, List.getElem_toArray, List.getElem_cons_zero, List.getElem_cons_succ, List.setIfInBounds_toArray, List.set_cons_zero, List.set_cons_succ]
  refine wpAnyH_take (i := 13) (v := ?_) rfl (by kernel_rfl) (by kernel_rfl) (by kernel_rfl) (fun _ _ _ h => h) (Or.inl ⟨by rfl, ?_⟩) (by assumption) ?_
  rotate_left
  · (intro wz hSw; clear hSw; go_simp; try (with_reducible rfl))
  simp only [Act.put, List.getElem_toArray, List.getElem_cons_zero, List.getElem_cons_succ, List.setIfInBounds_toArray, List.set_cons_zero, List.set_cons_succ]
  refine wpAnyH_take (i := 14) (v := ?_) rfl (by kernel_rfl) (by kernel_rfl) (by kernel_rfl) (fun _ _ _ h => h) (Or.inl ⟨by rfl, ?_⟩) (by assumption) ?_
  rotate_left
  · (intro wz hSw; clear hSw; go_simp; try (with_reducible rfl))
  simp only [Act.put, List.getElem_toArray, List.getElem_cons_zero, List.getElem_cons_succ, List.setIfInBounds_toArray, List.set_cons_zero, List.set_cons_succ]
  refine wpAnyH_take (i := 15) (v := ?_) rfl (by kernel_rfl) (by kernel_rfl) (by kernel_rfl) (fun _ _ _ h => h) (Or.inl ⟨by rfl, ?_⟩) (by assumption) ?_
  rotate_left
  · (intro wz hSw; clear hSw; go_simp; try (with_reducible rfl))
  simp only [Act.put, List.getElem_toArray, List.getElem_cons_zero, List.getElem_cons_succ, List.setIfInBounds_toArray, List.set_cons_zero, List.set_cons_succ]
  refine wpAnyH_take (i := 16) (v := ?_) rfl (by kernel_rfl) (by kernel_rfl) (by kernel_rfl) (fun _ _ _ h => h) (Or.inl ⟨by rfl, ?_⟩) (by assumption) ?_
  rotate_left
  · (intro wz hSw; have s0 := (hSw.cell (p := ⟨b, o + k * 3, none⟩) hbl).trans k0; have s1 := (hSw.cell (p := ⟨b, o + k * 3 + 1, none⟩) hbl).trans k1; have s2 := (hSw.cell (p := ⟨b, o + k * 3 + 2, none⟩) hbl).trans k2; go_simp; try (with_reducible rfl))
  simp only [Act.put, List.getElem_toArray, List.getElem_cons_zero, List.getElem_cons_succ, List.setIfInBounds_toArray, List.set_cons_zero, List.set_cons_succ]
  refine wpAnyH_take (i := 17) (v := ?_) rfl (by kernel_rfl) (by kernel_rfl) (by kernel_rfl) (fun _ _ _ h => h) (Or.inl ⟨by rfl, ?_⟩) (by assumption) ?_
  rotate_left
  · (intro wz hSw; clear hSw; go_simp; try (with_reducible rfl))
  simp only [Act.put, List.getElem_toArray, List.getElem_cons_zero, List.getElem_cons_succ, List.setIfInBounds_toArray, List.set_cons_zero, List.set_cons_succ]
  refine wpAnyH_take (i := 18) (v := ?_) rfl (by kernel_rfl) (by kernel_rfl) (by kernel_rfl) (fun _ _ _ h => h) (Or.inl ⟨by rfl, ?_⟩) (by assumption) ?_
  rotate_left
  · (intro wz hSw; clear hSw; go_simp; try (with_reducible rfl))
  simp only [Act.put, List.getElem_toArray, List.getElem_cons_zero, List.getElem_cons_succ, List.setIfInBounds_toArray, List.set_cons_zero, List.set_cons_succ]
  refine wpAnyH_take (i := 19) (v := ?_) rfl (by kernel_rfl) (by kernel_rfl) (by kernel_rfl) (fun _ _ _ h => h) (Or.inl ⟨by rfl, ?_⟩) (by assumption) ?_
  rotate_left
  · (intro wz hSw; clear hSw; go_simp; try (with_reducible rfl))
  simp only [Act.put, List.getElem_toArray, List.getElem_cons_zero, List.getElem_cons_succ, List.setIfInBounds_toArray, List.set_cons_zero, List.set_cons_succ]
  refine wpAnyH_ready (rs := [20]) (by kernel_rfl) (by simp) ?_
  refine AllReadyH.cons rfl (fun K hK => ?_) AllReadyH.nil
  rw [if_pos (by rfl)]
  go_wp2
  refine hK.out _ _ (by first | exact (((hb67.drew.setCell (p := ⟨g7, k * 3, none⟩) gB _).setCell (p := ⟨g7, k * 3 + 1, none⟩) gB _).setCell (p := ⟨g7, k * 3 + 2, none⟩) gB _) | exact (((hb67.setCell (p := ⟨g7, k * 3, none⟩) gB _).setCell (p := ⟨g7, k * 3 + 1, none⟩) gB _).setCell (p := ⟨g7, k * 3 + 2, none⟩) gB _).drew) (fun hHeld => ?_)
  clear hK K
  refine wpAnyH_done (by kernel_rfl) ?_ _
  have hb48 := hb46.trans (hHeld.mono hz46)
  have HL := Lib.hid (hO6.out.below hHeld (Nat.le_refl _)).at
  have EL := Lib.hid (erase_valid HV.out k)
  have EB := Lib.hid (bad_ring (i := i) (b := bf) (x := x0) hk)
  have hBad : ShOwn (((w7.setCell ⟨g7, k * 3, none⟩ (.int .i64 i)).setCell ⟨g7, k * 3 + 1, none⟩ (.int .i64 bf)).setCell ⟨g7, k * 3 + 2, none⟩ (.slice (some ⟨b', o', none⟩) 1 ca')).drew w6.heap.size (.slice (some ⟨g7, 0, none⟩) y.length c7) (y.set k ⟨i, bf, [x0]⟩) := by
    refine ⟨vs.set k (.slice (some ⟨b', o', none⟩) 1 ca'), by rw [List.length_set, List.length_set]; exact S1.out.len, ?_, ?_⟩
    · rw [flatN_set y vs k _ _ S1.out.len hk, List.length_set]
      have := ownsRow_set (ownsRow_set (ownsRow_set HO7.out (k * 3) (.int .i64 i)) (k * 3 + 1) (.int .i64 bf)) (k * 3 + 2) (.slice (some ⟨b', o', none⟩) 1 ca')
      exact ownsRow_below this ((Below.refl _ _).drew) (Nat.le_refl _)
    · intro j hj
      rw [List.length_set] at hj
      rw [List.getD_eq_getElem?_getD, List.getD_eq_getElem?_getD, List.getElem?_set, List.getElem?_set]
      by_cases e : k = j
      · subst e
        rw [if_pos rfl, if_pos rfl, if_pos hk, if_pos (by rw [S1.out.len]; exact hk)]
        refine ⟨some ⟨b', o', none⟩, ca', rfl, by simp; omega, by unfold maxLen; omega, .inr ⟨b', o', rfl, Nat.lt_of_lt_of_le hbl' hHeld.size, fun m hm => ?_⟩⟩
        have hm0 : m = 0 := by simpa using hm
        subst hm0
        exact (hHeld.cell (p := ⟨b', o', none⟩) hbl').trans hK3.out
      · rw [if_neg e, if_neg e, ← List.getD_eq_getElem?_getD, ← List.getD_eq_getElem?_getD]
        exact (S6.out.ints j hj).below hHeld (Nat.le_refl _)
  have HB := Lib.hid hBad.at
  clear hBad
  generalize (((w7.setCell ⟨g7, k * 3, none⟩ (.int .i64 i)).setCell ⟨g7, k * 3 + 1, none⟩ (.int .i64 bf)).setCell ⟨g7, k * 3 + 2, none⟩ (.slice (some ⟨b', o', none⟩) 1 ca')).drew = w8 at hHeld hb48 HL HB ⊢
  try clear hK3
  try clear m1
  try clear m2
  try clear m3
  try clear q1
  try clear q2
  try clear q3
  try clear s0
  try clear s1
  try clear s2
  try clear k0
  try clear k1
  try clear k2
  try clear hO6
  try clear HO7
  try clear S7
  try clear S6
  try clear g67
  try clear hM6
  try clear hA6
  try clear hb67
  try clear S3
  try clear g1
  try clear hgrow2
  try clear hgrow1
  try clear hO5
  try clear HN
  try clear HM
  try clear S2
  try clear hA
  try clear S1
  go_wp2_with fail
  refine (iRingValid_any _ _ _ HL.out).mono ?_
  rw [EL.out]
  rintro e w9 ⟨rfl, hb9⟩
  have HB9 := Lib.hid (HB.out.below hb9 (Nat.le_refl _))
  clear HL HB
  go_wp2_with fail
  refine (iRingValid_any _ _ _ HB9.out).mono ?_
  rw [EB.out]
  rintro e w10 ⟨rfl, hb10⟩
  clear HB9
  go_wp2_with fail
  go_ret
  exact ⟨rfl, hbD.trans ((hb48.trans ((hb9.trans (hb10.mono hb9.size)).mono hb48.size)).mono hbD.size)⟩

end Go.Proofs.Ytnoamohpkngbdaa
