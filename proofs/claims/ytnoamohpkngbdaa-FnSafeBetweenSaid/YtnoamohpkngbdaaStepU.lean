/-
  Contracts: a closer successor, notifying, of the reference.
-/
import Derived.Test.YtnoamohpkngbdaaStepT
namespace Go.Proofs.Ytnoamohpkngbdaa
open Go.RowKit

theorem sBetween_is (a x b : Int) (c : Bool) (h : btw a x b = c) (w : World) :
    Calls Try.prog 86 #[.int .i64 a, .int .i64 x, .int .i64 b] w fun e w' => e = .returned (.bool c) ∧ w = w' := by
  subst h; exact sBetween_any a x b w

set_option maxHeartbeats 1000000 in
theorem l4Closer_any (v : Value) (r : List Nd) (k : Nat) (other : Int) (w : World) (hv : RingAt w v r) (hs : Shape r) (hk : k < r.length) :
    Calls Try.prog 99 #[v, .int .i64 k, .int .i64 other] w fun e w' => ∃ u, e = .returned (.tuple #[u, .bool (closerOk r k other)]) ∧ RingOwn w' w.heap.size u (closerK r k other) ∧ Below w.heap.size w w' := by
  have HV := Lib.hid hv
  have HS := Lib.hid hs
  obtain ⟨p, cap, rfl⟩ := hv.form
  obtain ⟨b, o, bk, ok, ck, rfl, -, hc, hm, hck, hck', hb, hbk, k0, k1, k2, k3, -⟩ := hv.node hk (hs.2 k hk).1
  have hr10 : r.length ≤ 10 := hs.1
  obtain ⟨s0, hs0⟩ : ∃ x, a0 (r.getD k default) = x := ⟨_, rfl⟩
  obtain ⟨ki, hki⟩ : ∃ x, (r.getD k default).id = x := ⟨_, rfl⟩
  have HD := Lib.hid (show closerOk r k other = (decide (0 ≤ fnd r other) && btw ki other s0) by rw [← hs0, ← hki]; rfl)
  have HC := Lib.hid hs.len
  rw [hs0] at k3
  rw [hki] at k0
  clear hs0 hki hv hs k1
  rcases fnd_cases r other with ⟨hf, -⟩ | ⟨j, hj, hf, -, -⟩
  · have HF := Lib.hid (show closerOk r k other = false by rw [HD.out, hf]; rfl)
    have HX := Lib.hid hf
    clear hf
    go_enter Try.func99, Try.ntmps99
    go_wp2_with (first | (go_at_call 81; refine (l3Find_any _ r other _ (by exact HV.out)).mono ?_; rw [HX.out]; rintro e w' ⟨rfl, rfl⟩))
    go_quiet (fail)
    go_wp2_with (first | (go_at_call 78; refine (l3Copy_any _ r _ (by exact HV.out) (by omega) (by exact HC.out)).mono ?_; rintro e w1 ⟨u, rfl, hO, hB1⟩))
    go_ret2
    unfold closerK
    rw [HF.out]
    exact ⟨_, rfl, hO, (below_drewN (Below.refl _ w) nq).trans hB1⟩
  · have HX := Lib.hid hf
    have hjn : decide ((j : Int) < 0) = false := by simp
    cases hbt : btw ki other s0
    · have HF := Lib.hid (show closerOk r k other = false by rw [HD.out, hbt]; simp)
      have HB := Lib.hid hbt
      clear hf hbt
      go_enter Try.func99, Try.ntmps99
      go_wp2_with (first | (go_at_call 81; refine (l3Find_any _ r other _ (by exact HV.out)).mono ?_; rw [HX.out]; rintro e w' ⟨rfl, rfl⟩))
      go_quiet ((go_at_call 86; exact Calls.quiet_left (sBetween_is _ _ _ _ HB.out _)))
      go_wp2_with (first | (go_at_call 78; refine (l3Copy_any _ r _ (by exact HV.out) (by omega) (by exact HC.out)).mono ?_; rintro e w1 ⟨u, rfl, hO, hB1⟩))
      go_ret2
      unfold closerK
      rw [HF.out]
      exact ⟨_, rfl, hO, (below_drewN (Below.refl _ w) nq).trans hB1⟩
    · have HF := Lib.hid (show closerOk r k other = true by rw [HD.out, hbt, hf]; simp)
      have HB := Lib.hid hbt
      clear hf hbt
      go_enter Try.func99, Try.ntmps99
      go_wp2_with (first | (go_at_call 81; refine (l3Find_any _ r other _ (by exact HV.out)).mono ?_; rw [HX.out]; rintro e w' ⟨rfl, rfl⟩))
      go_quiet ((go_at_call 86; exact Calls.quiet_left (sBetween_is _ _ _ _ HB.out _)))
      go_wp2_with (first | (go_at_call 102; refine (l4Follow_any _ r k j _ (by exact HV.out) HS.out hk hj).mono ?_; rintro e w1 ⟨u, rfl, hO, hB1⟩))
      go_ret2
      unfold closerK
      rw [HF.out, HX.out, if_pos rfl, Int.toNat_natCast]
      exact ⟨_, rfl, hO, (below_drewN (Below.refl _ w) nq).trans hB1⟩

set_option maxHeartbeats 2000000 in
theorem l4Notify_any (v : Value) (r : List Nd) (k : Nat) (other : Int) (w : World) (hv : RingAt w v r) (hs : Shape r) (hk : k < r.length) :
    Calls Try.prog 100 #[v, .int .i64 k, .int .i64 other] w fun e w' => ∃ u, e = .returned (.tuple #[u, .bool (notifyOk r k other)]) ∧ RingOwn w' w.heap.size u (notifyK r k other) ∧ Below w.heap.size w w' := by
  have HV := Lib.hid hv
  have HS := Lib.hid hs
  obtain ⟨p, cap, rfl⟩ := hv.form
  obtain ⟨b, o, bk, ok, ck, rfl, -, hc, hm, hck, hck', hb, hbk, k0, k1, k2, k3, k4⟩ := hv.node hk (hs.2 k hk).1
  have hA2 := after2 (hs.2 k hk).1
  have hr10 : r.length ≤ 10 := hs.1
  obtain ⟨ki, hki⟩ : ∃ x, (r.getD k default).id = x := ⟨_, rfl⟩
  obtain ⟨kb, hkb⟩ : ∃ x, (r.getD k default).before = x := ⟨_, rfl⟩
  obtain ⟨A, hA⟩ : ∃ x, (r.getD k default).after = x := ⟨_, rfl⟩
  have hia : IntsAt w (.slice (some ⟨bk, ok, none⟩) 2 ck) A := by
    rw [← hA, hA2]
    exact ⟨_, ck, rfl, hck, by unfold maxLen; omega, .inr ⟨bk, ok, rfl, hbk, fun i hi => by
      match i, hi with
      | 0, _ => exact k3
      | 1, _ => exact k4⟩⟩
  have hAl : A.length = 2 := by rw [← hA]; exact (hs.2 k hk).1
  have hAl' : A.length ≤ 2 := by omega
  have HA := Lib.hid hia
  have HD := Lib.hid (show notifyOk r k other = (decide (0 ≤ fnd r other) && !(other == ki) && !(decide (0 ≤ kb) && decide (0 ≤ fnd r kb) && !btw kb other ki)) by rw [← hki, ← hkb]; rfl)
  have HSB := Lib.hid (show setBefore r k other = r.set k ⟨ki, other, A⟩ by rw [← hki, ← hA]; rfl)
  have HC := Lib.hid hs.len
  have hB0 := (Below.refl w.heap.size w).alloc (Nat.le_refl _) (.cells #[.int .i64 ki, .int .i64 kb, .slice (some ⟨bk, ok, none⟩) 2 ck] 35)
  have hBs := (Below.refl w.heap.size w).alloc (Nat.le_refl _) (.cells #[.int .i64 ki, .int .i64 other, .slice (some ⟨bk, ok, none⟩) 2 ck] 35)
  rw [hki] at k0
  rw [hkb] at k1
  clear hki hkb hv hs k3 k4 hA hA2 hAl hia
  rcases fnd_cases r other with ⟨hf, -⟩ | ⟨j, hj, hf, -, -⟩
  · have HF := Lib.hid (show notifyOk r k other = false by rw [HD.out, hf]; rfl)
    have HX := Lib.hid hf
    clear hf
    go_enter Try.func100, Try.ntmps100
    go_wp2_with (first | (go_at_call_of 81 (Value.int IntKind.i64 other); refine (l3Find_any _ r other _ (by exact HV.out.below hB0 (Nat.le_refl _))).mono ?_; rw [HX.out]; rintro e w' ⟨rfl, rfl⟩) | (go_at_call 78; refine (l3Copy_any _ r _ (by exact HV.out.below hB0 (Nat.le_refl _)) (by omega) (by exact HC.out)).mono ?_; rintro e w1 ⟨u, rfl, hO, hB1⟩))
    go_ret2
    unfold notifyK
    rw [HF.out]
    exact ⟨_, rfl, hO.mono hB0.size, hB0.trans (hB1.mono hB0.size)⟩
  · have HX := Lib.hid hf
    cases ho : (other == ki)
    · rcases (show kb < 0 ∨ 0 ≤ kb by omega) with hkb | hkb
      · have HF := Lib.hid (show notifyOk r k other = true by rw [HD.out, hf, ho, show decide (0 ≤ kb) = false by simp; omega]; simp)
        clear hf
        go_enter Try.func100, Try.ntmps100
        go_wp2_with (first | (go_at_call_of 81 (Value.int IntKind.i64 other); refine (l3Find_any _ r other _ (by exact HV.out.below hB0 (Nat.le_refl _))).mono ?_; rw [HX.out]; rintro e w' ⟨rfl, rfl⟩) | (go_at_call 101; refine (l4Set_any _ _ r k ki other A _ (by exact HV.out.below hBs (Nat.le_refl _)) HS.out hk (by exact HA.out.below hBs (Nat.le_refl _)) (by omega)).mono ?_; rintro e w1 ⟨u, rfl, hO, hB1⟩))
        go_ret2
        unfold notifyK
        rw [HF.out, if_pos rfl, HSB.out]
        exact ⟨_, rfl, hO.mono hBs.size, hBs.trans (hB1.mono hBs.size)⟩
      · rcases fnd_cases r kb with ⟨hg, -⟩ | ⟨m, hm', hg, -, -⟩
        · have HF := Lib.hid (show notifyOk r k other = true by rw [HD.out, hf, ho, hg]; simp)
          have HY := Lib.hid hg
          clear hf hg
          go_enter Try.func100, Try.ntmps100
          go_wp2_with (first | (go_at_call_of 81 (Value.int IntKind.i64 other); refine (l3Find_any _ r other _ (by exact HV.out.below hB0 (Nat.le_refl _))).mono ?_; rw [HX.out]; rintro e w' ⟨rfl, rfl⟩) | (go_at_call 81; refine (l3Find_any _ r kb _ (by exact HV.out.below hB0 (Nat.le_refl _))).mono ?_; rw [HY.out]; rintro e w' ⟨rfl, rfl⟩) | (go_at_call 101; refine (l4Set_any _ _ r k ki other A _ (by exact HV.out.below hBs (Nat.le_refl _)) HS.out hk (by exact HA.out.below hBs (Nat.le_refl _)) (by omega)).mono ?_; rintro e w1 ⟨u, rfl, hO, hB1⟩))
          go_ret2
          unfold notifyK
          rw [HF.out, if_pos rfl, HSB.out]
          exact ⟨_, rfl, hO.mono hBs.size, hBs.trans (hB1.mono hBs.size)⟩
        · have HY := Lib.hid hg
          cases hz : btw kb other ki
          · have HF := Lib.hid (show notifyOk r k other = false by rw [HD.out, hf, ho, hg, hz, show decide (0 ≤ kb) = true by simp; omega]; simp)
            have HZ := Lib.hid hz
            clear hf hg hz
            go_enter Try.func100, Try.ntmps100
            go_wp2_with (first | (go_at_call_of 81 (Value.int IntKind.i64 other); refine (l3Find_any _ r other _ (by exact HV.out.below hB0 (Nat.le_refl _))).mono ?_; rw [HX.out]; rintro e w' ⟨rfl, rfl⟩) | (go_at_call 81; refine (l3Find_any _ r kb _ (by exact HV.out.below hB0 (Nat.le_refl _))).mono ?_; rw [HY.out]; rintro e w' ⟨rfl, rfl⟩) | (go_at_call 86; refine (sBetween_is _ _ _ _ HZ.out _).mono ?_; rintro e w' ⟨rfl, rfl⟩) | (go_at_call 78; refine (l3Copy_any _ r _ (by exact HV.out.below hB0 (Nat.le_refl _)) (by omega) (by exact HC.out)).mono ?_; rintro e w1 ⟨u, rfl, hO, hB1⟩))
            go_ret2
            unfold notifyK
            rw [HF.out]
            exact ⟨_, rfl, hO.mono hB0.size, hB0.trans (hB1.mono hB0.size)⟩
          · have HF := Lib.hid (show notifyOk r k other = true by rw [HD.out, hf, ho, hg, hz]; simp)
            have HZ := Lib.hid hz
            clear hf hg hz
            go_enter Try.func100, Try.ntmps100
            go_wp2_with (first | (go_at_call_of 81 (Value.int IntKind.i64 other); refine (l3Find_any _ r other _ (by exact HV.out.below hB0 (Nat.le_refl _))).mono ?_; rw [HX.out]; rintro e w' ⟨rfl, rfl⟩) | (go_at_call 81; refine (l3Find_any _ r kb _ (by exact HV.out.below hB0 (Nat.le_refl _))).mono ?_; rw [HY.out]; rintro e w' ⟨rfl, rfl⟩) | (go_at_call 86; refine (sBetween_is _ _ _ _ HZ.out _).mono ?_; rintro e w' ⟨rfl, rfl⟩) | (go_at_call 101; refine (l4Set_any _ _ r k ki other A _ (by exact HV.out.below hBs (Nat.le_refl _)) HS.out hk (by exact HA.out.below hBs (Nat.le_refl _)) (by omega)).mono ?_; rintro e w1 ⟨u, rfl, hO, hB1⟩))
            go_ret2
            unfold notifyK
            rw [HF.out, if_pos rfl, HSB.out]
            exact ⟨_, rfl, hO.mono hBs.size, hBs.trans (hB1.mono hBs.size)⟩
    · have HF := Lib.hid (show notifyOk r k other = false by rw [HD.out, hf, ho]; simp)
      clear hf
      go_enter Try.func100, Try.ntmps100
      go_wp2_with (first | (go_at_call_of 81 (Value.int IntKind.i64 other); refine (l3Find_any _ r other _ (by exact HV.out.below hB0 (Nat.le_refl _))).mono ?_; rw [HX.out]; rintro e w' ⟨rfl, rfl⟩) | (go_at_call 78; refine (l3Copy_any _ r _ (by exact HV.out.below hB0 (Nat.le_refl _)) (by omega) (by exact HC.out)).mono ?_; rintro e w1 ⟨u, rfl, hO, hB1⟩))
      go_ret2
      unfold notifyK
      rw [HF.out]
      exact ⟨_, rfl, hO.mono hB0.size, hB0.trans (hB1.mono hB0.size)⟩

end Go.Proofs.Ytnoamohpkngbdaa
