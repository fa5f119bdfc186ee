/-
  Contract: does a list hold an integer?
-/
import Derived.Test.YtkefnmmpipeppaaRb
namespace Go.Proofs.Ytkefnmmpipeppaa
open Go.RowKit

set_option maxHeartbeats 400000 in

set_option maxHeartbeats 400000 in
theorem hasInt_any (v : Value) (xs : List Int) (x : Int) (w : World) (hv : IntsAt w v xs) :
    Calls Try.prog 14 #[v, .int .i64 x] w fun e w' => e = .returned (.bool (decide (x ∈ xs))) ∧ w = w' := by
  obtain ⟨p, cap, rfl, hc, hm, h4⟩ := hv
  unfold maxLen at hm
  go_enter Try.func14, Try.ntmps14
  go_wp2
  go_loop [5] (fun i => ∃ k : Nat, k ≤ xs.length ∧ i = .int .i64 k ∧ Hid (∀ j, j < k → xs.getD j 0 ≠ x)) (fun i => xs.length - (intOf i).toNat)
  case atStart => exact ⟨0, Nat.zero_le _, rfl, Lib.hid fun j hj => by omega⟩
  case round =>
    obtain ⟨k, hk, rfl, HA⟩ := hrel
    by_cases hlt : k < xs.length
    · rcases h4 with ⟨rfl, -⟩ | ⟨b, o, rfl, hb, hcell⟩
      · simp at hlt
      have h1 := hcell k hlt
      obtain ⟨i, hi⟩ : ∃ y, xs.getD k 0 = y := ⟨_, rfl⟩
      rw [hi] at h1
      have HI := Lib.hid hi
      clear hcell hi
      go_wp2
      · have hf : (i == x) = true := by assumption
        go_ret
        exact ⟨ret_bool (by rw [eq_comm, decide_eq_true_eq]; have e : i = x := by simpa using hf
                            rw [← e, ← HI.out]
                            have e2 : xs.getD k 0 = xs[k] := by simp [hlt]
                            rw [e2]; exact List.getElem_mem hlt), rfl⟩
      · have hf : (i == x) = false := by assumption
        go_round
        case rel =>
          refine ⟨k + 1, by omega, by go_num, Lib.hid fun j hj => ?_⟩
          by_cases e : j = k
          · subst e; rw [HI.out]; simpa using hf
          · exact HA.out j (by omega)
        case measure => simp [intOf]; omega
    · obtain rfl : k = xs.length := by omega
      go_wp2
      go_ret
      refine ⟨ret_bool ?_, rfl⟩
      rw [eq_comm, decide_eq_false_iff_not]
      intro hm
      obtain ⟨j, hj, e⟩ := List.getElem_of_mem hm
      exact HA.out j hj (by rw [← e]; simp [hj])

theorem hasInt_is (v : Value) (xs : List Int) (x : Int) (c : Bool) (hc : decide (x ∈ xs) = c) (w : World) (hv : IntsAt w v xs) :
    Calls Try.prog 14 #[v, .int .i64 x] w fun e w' => e = .returned (.bool c) ∧ w = w' := by
  have := hasInt_any v xs x w hv
  rw [hc] at this
  exact this

end Go.Proofs.Ytkefnmmpipeppaa
