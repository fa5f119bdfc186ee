/-
  Contracts: the step closer of the program.
-/
import Derived.Test.YtojpfbbgpcafnaaIAdopt
import Derived.Test.YtojpfbbgpcafnaaStepU
namespace Go.Proofs.Ytojpfbbgpcafnaa
open Go.RowKit

theorem Shape.a0ok {r : List Nd} (h : Shape r) {k : Nat} (hk : k < r.length) : okP (a0 (r.getD k default)) = true := by
  obtain ⟨h1, h2⟩ := h.a0b hk
  unfold okP
  rw [decide_eq_true h1, decide_eq_true h2]
  rfl
theorem cbtw_ok {a x b : Int} (ha : okP a = true) (hx : okP x = true) (hb : okP b = true) : cbtw a x b = btw a x b := by
  simp [cbtw, ha, hx, hb]
theorem iBetween_is (a x b : Int) (c : Bool) (h : cbtw a x b = c) (w : World) :
    Calls Try.prog 39 #[.int .i64 a, .int .i64 x, .int .i64 b] w fun e w' => e = .returned (.bool c) ∧ Below w.heap.size w w' := by
  subst h; exact iBetween_any a x b w

set_option maxHeartbeats 2000000 in
theorem iCloser_any (S g cap : Nat) (r : List Nd) (id other : Int) (B : Nat) (w : World) (hO : RingOwn w B (.slice (some ⟨g, 0, none⟩) r.length cap) r) (hs : Shape r)
    (hS : w.cell? ⟨S, 0, none⟩ = some (.slice (some ⟨g, 0, none⟩) r.length cap)) (hSg : S ≠ g) (hBw : B ≤ w.heap.size) :
    Calls Try.prog 57 #[.pointer (some ⟨S, 0, none⟩), .int .i64 id, .int .i64 other] w fun e w' => e = .returned (.bool (stepB true r id fun k => closerOk r k other)) ∧ Below B w w' ∧
      (stepB true r id (fun k => closerOk r k other) = true → ∃ u, w'.cell? ⟨S, 0, none⟩ = some u ∧ RingOwn w' B u (stepR true r id fun k => closerK r k other)) := by
  have HO := Lib.hid hO
  have HS := Lib.hid hs
  have hSl : S < w.heap.size := World.block_lt_of_cell? w _ hS
  have _hgS : g ≠ S := Ne.symm hSg
  rcases fnd_cases r id with ⟨hf, -⟩ | ⟨k, hk, hf, hidk, -⟩
  · rw [stepB_miss hf]
    have HF := Lib.hid hf
    rcases fnd_cases r other with ⟨hx, -⟩ | ⟨j, hj, hx, -, -⟩
    · have HX := Lib.hid hx
      clear hf hO hs hx
      go_enter Try.func57, Try.ntmps57
      go_wp2_with fail
      go_region_held3 (fun w' => w'.cell? ⟨S, 0, none⟩ = some (.slice (some ⟨g, 0, none⟩) r.length cap)) (go_keep)
        (first
          | (have _ := m1; go_at_call 53; refine (nodeAt_no _ r other _ (by exact (HO.out.below hb1' (Nat.le_refl _)).at) HX.out).mono ?_; rintro e w2 ⟨rfl, hb2⟩; have m2 : w2.cell? ⟨S, 0, none⟩ = some (.slice (some ⟨g, 0, none⟩) r.length cap) := (hb2.cell (p := ⟨S, 0, none⟩) lS).trans m1)
          | (go_at_call 53; refine (nodeAt_no _ r id _ (by exact HO.out.at) HF.out).mono ?_; rintro e w1 ⟨rfl, hb1⟩; have m1 : w1.cell? ⟨S, 0, none⟩ = some (.slice (some ⟨g, 0, none⟩) r.length cap) := (hb1.cell (p := ⟨S, 0, none⟩) hSl).trans hS; have lS := Nat.lt_of_lt_of_le hSl hb1.size; have hb1' := (Below.refl _ w).drew.trans hb1))
      have hbz : w.heap.size ≤ w1.heap.size := hb1.size
      have hb12 : Below w.heap.size w w2 := hb1'.trans (hb2.mono hbz)
      go_wp2
      go_ret
      exact ⟨rfl, (by exact (hb12.mono hBw)), fun h => by cases h⟩
    · have HX := Lib.hid hx
      clear hf hO hs hx
      go_enter Try.func57, Try.ntmps57
      go_wp2_with fail
      go_region_held3 (fun w' => w'.cell? ⟨S, 0, none⟩ = some (.slice (some ⟨g, 0, none⟩) r.length cap)) (go_keep)
        (first
          | (have _ := m1; go_at_call 53; refine (nodeAt_own r other g cap j _ (by exact (HO.out.below hb1' (Nat.le_refl _)).at) hj HX.out).mono ?_; rintro e w2 ⟨rfl, hb2⟩; have m2 : w2.cell? ⟨S, 0, none⟩ = some (.slice (some ⟨g, 0, none⟩) r.length cap) := (hb2.cell (p := ⟨S, 0, none⟩) lS).trans m1)
          | (go_at_call 53; refine (nodeAt_no _ r id _ (by exact HO.out.at) HF.out).mono ?_; rintro e w1 ⟨rfl, hb1⟩; have m1 : w1.cell? ⟨S, 0, none⟩ = some (.slice (some ⟨g, 0, none⟩) r.length cap) := (hb1.cell (p := ⟨S, 0, none⟩) hSl).trans hS; have lS := Nat.lt_of_lt_of_le hSl hb1.size; have hb1' := (Below.refl _ w).drew.trans hb1))
      have hbz : w.heap.size ≤ w1.heap.size := hb1.size
      have hb12 : Below w.heap.size w w2 := hb1'.trans (hb2.mono hbz)
      go_wp2
      go_ret
      exact ⟨rfl, (by exact (hb12.mono hBw)), fun h => by cases h⟩
  · rw [stepB_hit rfl hf, stepR_hit rfl hf]
    obtain ⟨bk, ck, hck, hck', hBg, hgl, hbk, c0, c1, c2, d0, d1, cf⟩ := hO.node hk (hs.2 k hk).1
    obtain ⟨s0, hs0⟩ : ∃ x, a0 (r.getD k default) = x := ⟨_, rfl⟩
    have HD := Lib.hid (show closerOk r k other = (decide (0 ≤ fnd r other) && btw id other s0) by rw [← hs0, ← hidk]; rfl)
    have HK := Lib.hid (show closerK r k other = if closerOk r k other then followK r k (fnd r other).toNat else r by rfl)
    have q1 : okP id = true := by rw [← hidk]; exact (hs.2 k hk).2.2
    have q3 : okP s0 = true := by rw [← hs0]; exact hs.a0ok hk
    rw [hs0] at d0
    have HF := Lib.hid hf
    clear hf hs0 c0 c1 d1 hidk
    rcases fnd_cases r other with ⟨hx, -⟩ | ⟨j, hj, hx, hidj, -⟩
    · have HX := Lib.hid hx
      have HY := Lib.hid (show closerOk r k other = false by rw [HD.out, hx]; rfl)
      clear hO hs hx q1 q3 c2 d0 cf
      go_enter Try.func57, Try.ntmps57
      go_wp2_with fail
      go_region_held3 (fun w' => w'.cell? ⟨S, 0, none⟩ = some (.slice (some ⟨g, 0, none⟩) r.length cap)) (go_keep)
        (first
          | (have _ := m1; go_at_call 53; refine (nodeAt_no _ r other _ (by exact (HO.out.below hb1' (Nat.le_refl _)).at) HX.out).mono ?_; rintro e w2 ⟨rfl, hb2⟩; have m2 : w2.cell? ⟨S, 0, none⟩ = some (.slice (some ⟨g, 0, none⟩) r.length cap) := (hb2.cell (p := ⟨S, 0, none⟩) lS).trans m1)
          | (go_at_call 53; refine (nodeAt_own r id g cap k _ (by exact HO.out.at) hk HF.out).mono ?_; rintro e w1 ⟨rfl, hb1⟩; have m1 : w1.cell? ⟨S, 0, none⟩ = some (.slice (some ⟨g, 0, none⟩) r.length cap) := (hb1.cell (p := ⟨S, 0, none⟩) hSl).trans hS; have lS := Nat.lt_of_lt_of_le hSl hb1.size; have hb1' := (Below.refl _ w).drew.trans hb1))
      have hbz : w.heap.size ≤ w1.heap.size := hb1.size
      have hb12 : Below w.heap.size w w2 := hb1'.trans (hb2.mono hbz)
      go_wp2
      go_ret
      rw [HY.out]
      exact ⟨rfl, (by exact (hb12.mono hBw)), fun h => by cases h⟩
    · have HX := Lib.hid hx
      have q2 : okP other = true := by rw [← hidj]; exact (hs.2 j hj).2.2
      have hcb : cbtw id other s0 = btw id other s0 := cbtw_ok q1 q2 q3
      obtain ⟨bj, cj, hcj, hcj', -, -, hbj, p0, -, p2, q0, -, -⟩ := hO.node hj (hs.2 j hj).1
      have HZ := Lib.hid (show followK r k (fnd r other).toNat = setAfter r k [other, a0 (r.getD j default)] by rw [hx, ← hidj]; rfl)
      obtain ⟨t0, ht0⟩ : ∃ x, a0 (r.getD j default) = x := ⟨_, rfl⟩
      rw [ht0] at q0
      have HT := Lib.hid ht0
      clear hO hs ht0 q1 q2 q3 hidj p0
      cases hbt : btw id other s0
      · have HY := Lib.hid (show closerOk r k other = false by rw [HD.out, hbt]; simp)
        have HB := Lib.hid (hcb.trans hbt)
        clear hbt hcb hx p2 q0
        go_enter Try.func57, Try.ntmps57
        go_wp2_with fail
        go_region_held3 (fun w' => w'.cell? ⟨S, 0, none⟩ = some (.slice (some ⟨g, 0, none⟩) r.length cap)) (go_keep)
          (first
            | (have _ := m1; go_at_call 53; refine (nodeAt_own r other g cap j _ (by exact (HO.out.below hb1' (Nat.le_refl _)).at) hj HX.out).mono ?_; rintro e w2 ⟨rfl, hb2⟩; have m2 : w2.cell? ⟨S, 0, none⟩ = some (.slice (some ⟨g, 0, none⟩) r.length cap) := (hb2.cell (p := ⟨S, 0, none⟩) lS).trans m1)
            | (go_at_call 53; refine (nodeAt_own r id g cap k _ (by exact HO.out.at) hk HF.out).mono ?_; rintro e w1 ⟨rfl, hb1⟩; have m1 : w1.cell? ⟨S, 0, none⟩ = some (.slice (some ⟨g, 0, none⟩) r.length cap) := (hb1.cell (p := ⟨S, 0, none⟩) hSl).trans hS; have lS := Nat.lt_of_lt_of_le hSl hb1.size; have hb1' := (Below.refl _ w).drew.trans hb1))
        have hbz : w.heap.size ≤ w1.heap.size := hb1.size
        have hb12 : Below w.heap.size w w2 := hb1'.trans (hb2.mono hbz)
        have n0 : w2.cell? ⟨g, k * 3 + 2, none⟩ = some (.slice (some ⟨bk, 0, none⟩) 2 ck) := (hb12.cell (p := ⟨g, k * 3 + 2, none⟩) hgl).trans c2
        have n1 : w2.cell? ⟨bk, 0, none⟩ = some (.int .i64 s0) := (hb12.cell (p := ⟨bk, 0, none⟩) hbk).trans d0
        have l2 : g < w2.heap.size := Nat.lt_of_lt_of_le hgl hb12.size
        have l3 : bk < w2.heap.size := Nat.lt_of_lt_of_le hbk hb12.size
        clear hS c2 d0 cf
        go_wp2_with (go_at_call 39; refine (iBetween_is _ _ _ _ HB.out _).mono ?_; rintro e w3 ⟨rfl, hb3⟩)
        go_wp2
        go_ret
        rw [HY.out]
        exact ⟨rfl, (by exact (hb12.mono hBw).trans (hb3.mono (Nat.le_trans hBw hb12.size))), fun h => by cases h⟩
      · have HY := Lib.hid (show closerOk r k other = true by rw [HD.out, hbt, hx]; simp)
        have HB := Lib.hid (hcb.trans hbt)
        clear hbt hcb hx
        go_enter Try.func57, Try.ntmps57
        go_wp2_with fail
        go_region_held3 (fun w' => w'.cell? ⟨S, 0, none⟩ = some (.slice (some ⟨g, 0, none⟩) r.length cap)) (go_keep)
          (first
            | (have _ := m1; go_at_call 53; refine (nodeAt_own r other g cap j _ (by exact (HO.out.below hb1' (Nat.le_refl _)).at) hj HX.out).mono ?_; rintro e w2 ⟨rfl, hb2⟩; have m2 : w2.cell? ⟨S, 0, none⟩ = some (.slice (some ⟨g, 0, none⟩) r.length cap) := (hb2.cell (p := ⟨S, 0, none⟩) lS).trans m1)
            | (go_at_call 53; refine (nodeAt_own r id g cap k _ (by exact HO.out.at) hk HF.out).mono ?_; rintro e w1 ⟨rfl, hb1⟩; have m1 : w1.cell? ⟨S, 0, none⟩ = some (.slice (some ⟨g, 0, none⟩) r.length cap) := (hb1.cell (p := ⟨S, 0, none⟩) hSl).trans hS; have lS := Nat.lt_of_lt_of_le hSl hb1.size; have hb1' := (Below.refl _ w).drew.trans hb1))
        have hbz : w.heap.size ≤ w1.heap.size := hb1.size
        have hb12 : Below w.heap.size w w2 := hb1'.trans (hb2.mono hbz)
        have n0 : w2.cell? ⟨g, k * 3 + 2, none⟩ = some (.slice (some ⟨bk, 0, none⟩) 2 ck) := (hb12.cell (p := ⟨g, k * 3 + 2, none⟩) hgl).trans c2
        have n1 : w2.cell? ⟨bk, 0, none⟩ = some (.int .i64 s0) := (hb12.cell (p := ⟨bk, 0, none⟩) hbk).trans d0
        have v2 : w2.cell? ⟨g, j * 3 + 2, none⟩ = some (.slice (some ⟨bj, 0, none⟩) 2 cj) := (hb12.cell (p := ⟨g, j * 3 + 2, none⟩) hgl).trans p2
        have v3 : w2.cell? ⟨bj, 0, none⟩ = some (.int .i64 t0) := (hb12.cell (p := ⟨bj, 0, none⟩) hbj).trans q0
        have v5 : ∀ i, w2.frozen? ⟨g, i, none⟩ = false := fun i => (hb12.frozen (p := ⟨g, i, none⟩) hgl).trans (cf i)
        have l1 : S < w2.heap.size := Nat.lt_of_lt_of_le hSl hb12.size
        have l2 : g < w2.heap.size := Nat.lt_of_lt_of_le hgl hb12.size
        have l3 : bk < w2.heap.size := Nat.lt_of_lt_of_le hbk hb12.size
        have l4 : bj < w2.heap.size := Nat.lt_of_lt_of_le hbj hb12.size
        clear hS c2 d0 cf p2 q0
        go_wp2_with (go_at_call 39; refine (iBetween_is _ _ _ _ HB.out _).mono ?_; rintro e w2 ⟨rfl, hb3⟩; have hbE : Below w.heap.size w w2 := hb12.trans (hb3.mono hb12.size); have m1 : w2.cell? ⟨S, 0, none⟩ = some (.slice (some ⟨g, 0, none⟩) r.length cap) := (hb3.cell (p := ⟨S, 0, none⟩) l1).trans m2; have m3 : w2.cell? ⟨g, k * 3 + 2, none⟩ = some (.slice (some ⟨bk, 0, none⟩) 2 ck) := (hb3.cell (p := ⟨g, k * 3 + 2, none⟩) l2).trans n0; have m4 : w2.cell? ⟨g, j * 3 + 2, none⟩ = some (.slice (some ⟨bj, 0, none⟩) 2 cj) := (hb3.cell (p := ⟨g, j * 3 + 2, none⟩) l2).trans v2; have m5 : w2.cell? ⟨bj, 0, none⟩ = some (.int .i64 t0) := (hb3.cell (p := ⟨bj, 0, none⟩) l4).trans v3; have m7 : ∀ i, w2.frozen? ⟨g, i, none⟩ = false := fun i => (hb3.frozen (p := ⟨g, i, none⟩) l2).trans (v5 i); have n2 : g < w2.heap.size := Nat.lt_of_lt_of_le l2 hb3.size; have n3 : bj < w2.heap.size := Nat.lt_of_lt_of_le l4 hb3.size; have n1 : S < w2.heap.size := Nat.lt_of_lt_of_le l1 hb3.size)
        go_ret
        have hBw2 : Below B w w2 := hbE.mono hBw
        have hzE : w.heap.size ≤ w2.heap.size := hbE.size
        have hsl := (Below.refl w2.heap.size w2).alloc (Nat.le_refl _) (.cells #[.int .i64 other, .int .i64 t0] 3)
        have hO2 := HO.out.below hbE (Nat.le_refl _)
        have hva : ((w2.alloc (.cells #[.int .i64 other, .int .i64 t0] 3))).ownsRow w2.heap.size 3 1 (.slice (some ⟨w2.heap.size, 0, none⟩) 2 2) [other, t0].length ([other, t0].map (Value.int .i64)) :=
          own_new w2 [other, t0] 3 _ rfl (by simp)
        have hfin := RingOwn.setAfter (k := k) (A := [other, t0]) hO2 hk (Keeps.of_below hsl (Nat.le_refl _)) (Nat.le_refl _) (Nat.le_trans hBw hzE) hva
        have hBf := (hBw2.trans (hsl.mono (Nat.le_trans hBw hzE))).setCell (p := ⟨g, k * 3 + 2, none⟩) hBg (.slice (some ⟨w2.heap.size, 0, none⟩) 2 2)
        have hSf : (((w2.alloc (.cells #[.int .i64 other, .int .i64 t0] 3))).setCell ⟨g, k * 3 + 2, none⟩ (.slice (some ⟨w2.heap.size, 0, none⟩) 2 2)).cell? ⟨S, 0, none⟩ = some (.slice (some ⟨g, 0, none⟩) r.length cap) := by
          rw [World.cell?_setCell_other _ _ _ _ (by simp)]
          exact (hsl.cell (p := ⟨S, 0, none⟩) n1).trans m1
        have hw : ((w2.alloc (.cells #[.int .i64 other, .int .i64 t0] 3))).setCell ⟨g, k * 3 + 2, none⟩ (.slice (some ⟨w2.heap.size, 0, none⟩) 2 2) = ((w2.setCell ⟨g, k * 3 + 2, none⟩ (.slice (some ⟨w2.heap.size, 0, none⟩) 2 2)).alloc (.cells #[.int .i64 other, .int .i64 t0] 3)) := by
          rw [World.setCell_alloc_past _ _ _ _ n2]
        rw [hw] at hfin hBf hSf
        rw [HY.out, HK.out, HY.out, if_pos rfl, HZ.out, HT.out]
        exact ⟨rfl, hBf, fun _ => ⟨_, hSf, by rw [setAfter]; simpa using hfin⟩⟩

end Go.Proofs.Ytojpfbbgpcafnaa
