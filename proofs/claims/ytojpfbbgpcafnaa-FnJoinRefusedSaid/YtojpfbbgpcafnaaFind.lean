/-
  Contracts: distance, betweenness, looking for a node.
-/
import Derived.Test.YtojpfbbgpcafnaaBase
namespace Go.Proofs.Ytojpfbbgpcafnaa
open Go.RowKit

theorem posAll1 (a : Int) : posAll [a] = okP a := by simp [posAll, allBelow]
theorem posAll2 (a b : Int) : posAll [a, b] = (okP a && okP b) := by simp [posAll, allBelow]
theorem posAll3 (a b c : Int) : posAll [a, b, c] = (okP a && okP b && okP c) := by simp [posAll, allBelow]
theorem okP_iff {a : Int} : okP a = true ↔ 0 ≤ a ∧ a < 64 := by simp [okP]

set_option maxHeartbeats 400000 in
theorem up_any (a b : Int) (ha : okP a = true) (hb : okP b = true) (w : World) :
    Calls Try.prog 68 #[.int .i64 a, .int .i64 b] w fun e w' => e = .returned (.int .i64 (dist a b)) ∧ w = w' := by
  rw [okP_iff] at ha hb
  obtain ⟨a1, a2⟩ := ha
  obtain ⟨b1, b2⟩ := hb
  go_enter Try.func68, Try.ntmps68
  go_wp2
  go_outline
  go_ret
  exact ⟨ret_int (by unfold dist; rfl), rfl⟩

set_option maxHeartbeats 400000 in
theorem iDistance_any (a b : Int) (w : World) :
    Calls Try.prog 31 #[.int .i64 a, .int .i64 b] w fun e w' => e = .returned (.int .i64 (if okP a && okP b then dist a b else -1)) ∧ Below w.heap.size w w' := by
  have hB := (Below.refl w.heap.size w).alloc (Nat.le_refl _) (.cells #[.int .i64 a, .int .i64 b] 3)
  have H2 := Lib.hid (posAll2 a b)
  cases hp : okP a && okP b
  all_goals
    rw [hp] at H2
    go_enter Try.func31, Try.ntmps31
    go_wp2_with (first | (go_at_call 67; refine (positions_any _ [a, b] _ (intsAt_new _ _ [a, b] _ rfl (by simp))).mono ?_; rw [H2.out]; rintro e w' ⟨rfl, rfl⟩) | (go_at_call 68; refine (up_any _ _ (by simp at hp; exact hp.1) (by simp at hp; exact hp.2) _).mono ?_; rintro e w' ⟨rfl, rfl⟩))
    go_ret
    exact ⟨by simp, hB⟩

set_option maxHeartbeats 400000 in
theorem sBetween_any (a x b : Int) (w : World) :
    Calls Try.prog 80 #[.int .i64 a, .int .i64 x, .int .i64 b] w fun e w' => e = .returned (.bool (btw a x b)) ∧ w = w' := by
  unfold btw
  by_cases h : a < b
  · by_cases h2 : a < x
    all_goals
      go_enter Try.func80, Try.ntmps80
      go_wp2
      go_ret
      exact ⟨ret_bool (by simp [*]; try omega), rfl⟩
  · by_cases h2 : a < x
    all_goals
      go_enter Try.func80, Try.ntmps80
      go_wp2
      go_ret
      exact ⟨ret_bool (by simp [*]; try omega), rfl⟩

set_option maxHeartbeats 400000 in
theorem l3Find_any (v : Value) (r : List Nd) (id : Int) (w : World) (hv : RingAt w v r) :
    Calls Try.prog 79 #[v, .int .i64 id] w fun e w' => e = .returned (.int .i64 (fnd r id)) ∧ w = w' := by
  obtain ⟨p, cap, rfl, hc, hm, h4⟩ := hv
  unfold maxLen at hm
  go_enter Try.func79, Try.ntmps79
  go_wp2
  go_loop [5] (fun i => ∃ k : Nat, k ≤ r.length ∧ i = .int .i64 k ∧ Hid (∀ j, j < k → (r.getD j default).id ≠ id)) (fun i => r.length - (intOf i).toNat)
  case atStart => exact ⟨0, Nat.zero_le _, rfl, Lib.hid fun j hj => by omega⟩
  case round =>
    obtain ⟨k, hk, rfl, HA⟩ := hrel
    by_cases hlt : k < r.length
    · rcases h4 with ⟨rfl, -⟩ | ⟨b, o, rfl, hb, hcell⟩
      · simp at hlt
      obtain ⟨h1, -, -⟩ := hcell k hlt
      obtain ⟨i, hi⟩ : ∃ x, (r.getD k default).id = x := ⟨_, rfl⟩
      rw [hi] at h1
      have HI := Lib.hid hi
      clear hcell hi
      go_wp2
      · have hf : (i == id) = true := by assumption
        go_ret
        exact ⟨ret_int (fnd_hit hlt (HI.out.trans (by simpa using hf)) HA.out).symm, rfl⟩
      · have hf : (i == id) = false := by assumption
        go_round
        case rel =>
          refine ⟨k + 1, by omega, by go_num, Lib.hid fun j hj => ?_⟩
          by_cases e : j = k
          · subst e; rw [HI.out]; simpa using hf
          · exact HA.out j (by omega)
        case measure => simp [intOf]; omega
    · obtain rfl : k = r.length := by omega
      go_wp2
      go_ret
      exact ⟨ret_int (fnd_miss HA.out).symm, rfl⟩

theorem cbtw_dist {a x b : Int} (h : (okP a && okP x && okP b) = true) : cbtw a x b = (!(x == a) && !(x == b) && ((a == b) || decide (dist a x < dist a b))) := by
  have h1 := h
  simp only [Bool.and_eq_true, okP_iff] at h1
  unfold cbtw btw dist
  rw [h, Bool.true_and, Bool.eq_iff_iff]
  by_cases hab : a < b
  · simp [hab]; omega
  · simp [hab]; omega

set_option maxHeartbeats 400000 in
theorem iBetween_any (a x b : Int) (w : World) :
    Calls Try.prog 39 #[.int .i64 a, .int .i64 x, .int .i64 b] w fun e w' => e = .returned (.bool (cbtw a x b)) ∧ Below w.heap.size w w' := by
  have hB := (Below.refl w.heap.size w).alloc (Nat.le_refl _) (.cells #[.int .i64 a, .int .i64 x, .int .i64 b] 3)
  have H3 := Lib.hid (posAll3 a x b)
  cases hp : okP a && okP x && okP b
  · rw [hp] at H3
    have HP := Lib.hid hp
    clear hp
    go_enter Try.func39, Try.ntmps39
    go_wp2_with (first | (go_at_call 67; refine (positions_any _ [a, x, b] _ (intsAt_new _ _ [a, x, b] _ rfl (by simp))).mono ?_; rw [H3.out]; rintro e w' ⟨rfl, rfl⟩))
    go_ret
    exact ⟨ret_bool (by unfold cbtw; rw [HP.out]; rfl), hB⟩
  · rw [hp] at H3
    have HP := Lib.hid hp
    clear hp
    have h1 := HP.out
    simp at h1
    obtain ⟨⟨h1, h2⟩, h3⟩ := h1
    have HD1 := Lib.hid (show (if okP a && okP x then dist a x else -1) = dist a x by simp [h1, h2])
    have HD2 := Lib.hid (show (if okP a && okP b then dist a b else -1) = dist a b by simp [h1, h3])
    rw [okP_iff] at h1 h2 h3
    cases h4 : (x == a) <;> cases h5 : (x == b) <;> cases h6 : (a == b)
    all_goals
      go_enter Try.func39, Try.ntmps39
      go_wp2_with (first | (go_at_call 67; refine (positions_any _ [a, x, b] _ (intsAt_new _ _ [a, x, b] _ rfl (by simp))).mono ?_; rw [H3.out]; rintro e w' ⟨rfl, rfl⟩) | (go_at_call_of 31 (Value.int IntKind.i64 x); refine (iDistance_any a x _).mono ?_; rw [HD1.out]; rintro e w1 ⟨rfl, hb1⟩) | (go_at_call 31; refine (iDistance_any a b _).mono ?_; rw [HD2.out]; rintro e w2 ⟨rfl, hb2⟩))
      go_ret
      exact ⟨ret_bool (by rw [cbtw_dist HP.out]; simp [h4, h5, h6]), by first | exact hB | exact (hB.trans (hb1.mono (by simp))).trans (hb2.mono (by have := hb1.size; simp at this; omega))⟩

end Go.Proofs.Ytojpfbbgpcafnaa
