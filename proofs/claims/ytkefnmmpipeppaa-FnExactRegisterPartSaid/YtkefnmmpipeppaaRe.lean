/-
  Contracts: is a list of integers a set of indexes?
-/
import Derived.Test.YtkefnmmpipeppaaRd
namespace Go.Proofs.Ytkefnmmpipeppaa
open Go.RowKit

/-- Number k of a list of indexes below n is in order. -/
def setAt (n : Int) (xs : List Int) (k : Nat) : Bool := inR (xs.getD k 0) 0 (n - 1) && (decide (k = 0) || decide (xs.getD (k - 1) 0 < xs.getD k 0))
def setB (n : Int) (xs : List Int) : Bool := allBelow (setAt n xs) xs.length
theorem inRange_is (x lo hi : Int) (c : Bool) (h : inR x lo hi = c) (w : World) :
    Calls Try.prog 43 #[.int .i64 x, .int .i64 lo, .int .i64 hi] w fun e w' => e = .returned (.bool c) ∧ w = w' := by
  subst h; exact inRange_any x lo hi w

set_option maxHeartbeats 1000000 in
theorem iSet_any (v : Value) (xs : List Int) (n : Int) (w : World) (hv : IntsAt w v xs) (hn1 : 0 ≤ n) (hn2 : n ≤ 1048576) :
    Calls Try.prog 36 #[v, .int .i64 n] w fun e w' => e = .returned (.bool (setB n xs)) ∧ Below w.heap.size w w' := by
  unfold setB
  have hnw : IntKind.i64.wrap (n - 1) = n - 1 := IntWalk.i64_in _ (by omega)
  obtain ⟨p, cap, rfl, hc, hm, h4⟩ := hv
  unfold maxLen at hm
  go_enter Try.func36, Try.ntmps36
  go_wp2
  go_loopg [4, 5, 6, 9] (xs.length) (fun m _ _ _ i wr => ∃ k : Nat, k ≤ xs.length ∧ m = xs.length - k ∧ i = .int .i64 k ∧ Hid (allBelow (setAt n xs) k = true) ∧ Below w.heap.size w wr)
  case atStart => exact ⟨0, Nat.zero_le _, rfl, rfl, Lib.hid rfl, Below.refl _ _⟩
  case round =>
    obtain ⟨k, hk, rfl, rfl, HA, hbel⟩ := hrel
    by_cases hlt : k < xs.length
    · rcases h4 with ⟨rfl, -⟩ | ⟨b, o, rfl, hb, hcell⟩
      · simp at hlt
      have h1 := (hbel.cell (p := ⟨b, o + k, none⟩) hb).trans (hcell k hlt)
      have h0 : 0 < k → wr.cell? ⟨b, o + (k - 1), none⟩ = some (.int .i64 (xs.getD (k - 1) 0)) := fun _ => (hbel.cell (p := ⟨b, o + (k - 1), none⟩) hb).trans (hcell (k - 1) (by omega))
      obtain ⟨x, hx⟩ : ∃ y, xs.getD k 0 = y := ⟨_, rfl⟩
      obtain ⟨y, hy⟩ : ∃ y, xs.getD (k - 1) 0 = y := ⟨_, rfl⟩
      have HR := Lib.hid (show setAt n xs k = (inR x 0 (n - 1) && (decide (k = 0) || decide (y < x))) by unfold setAt; rw [hx, hy])
      have HB := Lib.hid hbel
      rw [hx] at h1
      rw [hy] at h0
      have i0 : (0 : Int) ≤ (k : Int) := by omega
      have i1 : (k : Int) < (xs.length : Int) := by omega
      clear hcell hx hy hbel
      cases ho : inR x 0 (n - 1)
      · have HO := Lib.hid ho
        have HF := Lib.hid (show setAt n xs k = false by rw [HR.out, ho]; rfl)
        clear ho h0
        go_wp2_with (go_at_call 43; refine (inRange_is x 0 (n - 1) _ HO.out _).mono ?_; rintro e w' ⟨rfl, rfl⟩)
        go_ret
        exact ⟨ret_bool (by rw [allBelow_false hlt HF.out]), HB.out⟩
      have HO := Lib.hid ho
      clear ho
      rcases Nat.eq_zero_or_pos k with hk0 | hk0
      · subst hk0
        rw [Nat.add_zero] at h1
        have HT := Lib.hid (show setAt n xs 0 = true by rw [HR.out, HO.out]; rfl)
        clear h0
        go_wp2_with (go_at_call 43; refine (inRange_is x 0 (n - 1) _ HO.out _).mono ?_; rintro e w' ⟨rfl, rfl⟩)
        go_roundg (xs.length - (0 + 1))
        case rel => exact ⟨0 + 1, by omega, rfl, by go_num, Lib.hid (allBelow_succ HA.out HT.out), HB.out⟩
        case measure => omega
      · have h2 := h0 hk0
        obtain ⟨j, hkj⟩ : ∃ j, k = j + 1 := ⟨k - 1, by omega⟩
        have i2 : IntKind.i64.wrap ((k : Int) - 1) = (j : Int) := by
          have : (k : Int) - 1 = (j : Int) := by omega
          rw [this]; exact IntWalk.i64_in _ (by omega)
        have i3 : (j : Int) < (xs.length : Int) := by omega
        have i4 : (0 : Int) ≤ (j : Int) := by omega
        rw [show k - 1 = j by omega] at h2
        have HKJ := Lib.hid hkj
        clear h0 hkj
        obtain hge | hge : decide (y ≥ x) = true ∨ decide (y ≥ x) = false := by cases decide (y ≥ x) <;> simp
        · have HF := Lib.hid (show setAt n xs k = false by
            have h : ¬ y < x := by simp at hge; omega
            have h' : ¬ k = 0 := by omega
            rw [HR.out]; simp [h, h'])
          have hge' : x ≤ y := by simpa using hge
          clear hge
          go_wp2_with (go_at_call 43; refine (inRange_is x 0 (n - 1) _ HO.out _).mono ?_; rintro e w' ⟨rfl, rfl⟩)
          go_ret
          exact ⟨ret_bool (by rw [allBelow_false hlt HF.out]), HB.out⟩
        · have HT := Lib.hid (show setAt n xs k = true by
            have h : y < x := by simp at hge; omega
            rw [HR.out, HO.out]; simp [h])
          have hge' : ¬ x ≤ y := by simpa using hge
          clear hge
          go_wp2_with (go_at_call 43; refine (inRange_is x 0 (n - 1) _ HO.out _).mono ?_; rintro e w' ⟨rfl, rfl⟩)
          go_roundg (xs.length - (k + 1))
          case rel => exact ⟨k + 1, by omega, rfl, by go_num, Lib.hid (allBelow_succ HA.out HT.out), HB.out⟩
          case measure => omega
    · obtain rfl : k = xs.length := by omega
      go_wp2
      go_ret
      exact ⟨ret_bool (by rw [HA.out]), hbel⟩


theorem l6In_is (x lo hi : Int) (c : Bool) (h : inR x lo hi = c) (w : World) :
    Calls Try.prog 51 #[.int .i64 x, .int .i64 lo, .int .i64 hi] w fun e w' => e = .returned (.bool c) ∧ w = w' := by
  subst h; exact l6In_any x lo hi w

set_option maxHeartbeats 1000000 in
theorem sSet_any (v : Value) (xs : List Int) (n : Int) (w : World) (hv : IntsAt w v xs) (hn1 : 0 ≤ n) (hn2 : n ≤ 1048576) :
    Calls Try.prog 40 #[.int .i64 n, v] w fun e w' => e = .returned (.bool (setB n xs)) ∧ Below w.heap.size w w' := by
  unfold setB
  have hnw : IntKind.i64.wrap (n - 1) = n - 1 := IntWalk.i64_in _ (by omega)
  obtain ⟨p, cap, rfl, hc, hm, h4⟩ := hv
  unfold maxLen at hm
  go_enter Try.func40, Try.ntmps40
  go_wp2
  go_loopg [4, 5] (xs.length) (fun m _ i wr => ∃ k : Nat, k ≤ xs.length ∧ m = xs.length - k ∧ i = .int .i64 k ∧ Hid (allBelow (setAt n xs) k = true) ∧ Below w.heap.size w wr)
  case atStart => exact ⟨0, Nat.zero_le _, rfl, rfl, Lib.hid rfl, Below.refl _ _⟩
  case round =>
    obtain ⟨k, hk, rfl, rfl, HA, hbel⟩ := hrel
    by_cases hlt : k < xs.length
    · rcases h4 with ⟨rfl, -⟩ | ⟨b, o, rfl, hb, hcell⟩
      · simp at hlt
      have h1 := (hbel.cell (p := ⟨b, o + k, none⟩) hb).trans (hcell k hlt)
      have h0 : 0 < k → wr.cell? ⟨b, o + (k - 1), none⟩ = some (.int .i64 (xs.getD (k - 1) 0)) := fun _ => (hbel.cell (p := ⟨b, o + (k - 1), none⟩) hb).trans (hcell (k - 1) (by omega))
      obtain ⟨x, hx⟩ : ∃ y, xs.getD k 0 = y := ⟨_, rfl⟩
      obtain ⟨y, hy⟩ : ∃ y, xs.getD (k - 1) 0 = y := ⟨_, rfl⟩
      have HR := Lib.hid (show setAt n xs k = (inR x 0 (n - 1) && (decide (k = 0) || decide (y < x))) by unfold setAt; rw [hx, hy])
      rw [hx] at h1
      rw [hy] at h0
      clear hcell hx hy
      go_wp2_with fail
      go_cut [35] (fun s wx => ∃ c, s = .bool c ∧ Hid (c = !setAt n xs k) ∧ ∃ nq, wx = wr.drewN nq)
      case first =>
        refine wp_region_quiet_lit (by kernel_rfl) (by kernel_rfl) ?_
        repeat (any_goals (first | go_big_quiet_step ((go_at_call 51; exact Calls.quiet_left (l6In_any _ _ _ _))) | quiet_step ((go_at_call 51; exact Calls.quiet_left (l6In_any _ _ _ _))) | (refine wpQuiet_step (fun K hK => ?_); go_simp; split <;> (refine hK _ ?_; clear hK K))))
        all_goals
          refine wpQuiet_nil ?_
          intro _ hw'
          obtain ⟨nq, hw''⟩ := hw'
          subst hw''
          go_wp2
          go_meet
          refine ⟨_, rfl, Lib.hid ?_, nq, rfl⟩
          rw [HR.out]
          first | (simp [*]; done) | (simp [*]; omega) | (simp [*]; rw [Bool.eq_iff_iff]; simp; omega)
      case rest =>
        obtain ⟨c, rfl, hcc, nq, rfl⟩ := hcut
        have HB2 := Lib.hid (below_drewN hbel nq)
        cases c
        rotate_left
        · go_wp2
          go_ret
          exact ⟨ret_bool (by rw [allBelow_false hlt (by have := hcc.out; simpa using this)]), HB2.out⟩
        · go_wp2
          go_roundg (xs.length - (k + 1))
          case rel => exact ⟨k + 1, by omega, rfl, by go_num, Lib.hid (allBelow_succ HA.out (by have := hcc.out; simpa using this)), HB2.out⟩
          case measure => omega
    · obtain rfl : k = xs.length := by omega
      go_wp2
      go_ret
      exact ⟨ret_bool (by rw [HA.out]), hbel⟩


/-- A majority of n. -/
def majB (n : Int) (xs : List Int) : Bool := setB n xs && decide (n < 2 * xs.length)
set_option maxHeartbeats 1000000 in
theorem iMaj_any (v : Value) (xs : List Int) (n : Int) (w : World) (hv : IntsAt w v xs) (hn1 : 0 ≤ n) (hn2 : n ≤ 1048576) (hl : xs.length ≤ 1048576) :
    Calls Try.prog 47 #[v, .int .i64 n] w fun e w' => e = .returned (.bool (majB n xs)) ∧ Below w.heap.size w w' := by
  have HV := Lib.hid hv
  obtain ⟨p, cap, rfl, hc, hm, h4⟩ := hv
  clear h4
  unfold maxLen at hm
  have hw : IntKind.i64.wrap (2 * (xs.length : Int)) = 2 * (xs.length : Int) := IntWalk.i64_in _ (by omega)
  cases hs : setB n xs
  all_goals
    have HS := Lib.hid hs
    clear hs
    go_enter Try.func47, Try.ntmps47
    go_wp2_with (go_at_call 36; refine (iSet_any _ xs n _ HV.out hn1 hn2).mono ?_; rw [HS.out]; rintro e w1 ⟨rfl, hb1⟩)
    go_ret
    exact ⟨by simp [majB, HS.out], hb1⟩

set_option maxHeartbeats 1000000 in
theorem sMaj_any (v : Value) (xs : List Int) (n : Int) (w : World) (hv : IntsAt w v xs) (hn1 : 0 ≤ n) (hn2 : n ≤ 1048576) (hl : xs.length ≤ 1048576) :
    Calls Try.prog 49 #[.int .i64 n, v] w fun e w' => e = .returned (.bool (majB n xs)) ∧ Below w.heap.size w w' := by
  have HV := Lib.hid hv
  obtain ⟨p, cap, rfl, hc, hm, h4⟩ := hv
  clear h4
  unfold maxLen at hm
  have hw : IntKind.i64.wrap (2 * (xs.length : Int)) = 2 * (xs.length : Int) := IntWalk.i64_in _ (by omega)
  cases hs : setB n xs
  all_goals
    have HS := Lib.hid hs
    clear hs
    go_enter Try.func49, Try.ntmps49
    go_wp2_with (go_at_call 40; refine (sSet_any _ xs n _ HV.out hn1 hn2).mono ?_; rw [HS.out]; rintro e w1 ⟨rfl, hb1⟩)
    go_ret
    exact ⟨by simp [majB, HS.out], hb1⟩

end Go.Proofs.Ytkefnmmpipeppaa
