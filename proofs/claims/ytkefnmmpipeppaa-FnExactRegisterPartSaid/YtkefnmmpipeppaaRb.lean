/-
  Contracts: ranges, positions, points, members of a list of integers.
-/
import Derived.Test.YtkefnmmpipeppaaRows
import Derived.Test.YtkefnmmpipeppaaRm
import Derived.WalkKit
namespace Go.Proofs.Ytkefnmmpipeppaa
open Go.RowKit

set_option maxHeartbeats 400000 in
theorem posok_any (x : Int) (w : World) :
    Calls Try.prog 54 #[.int .i64 x] w fun e w' => e = .returned (.bool (okP x)) ∧ w = w' := by
  unfold okP
  by_cases h : 0 ≤ x
  all_goals
    go_enter Try.func54, Try.ntmps54
    go_wp2
    go_ret
    simp
    try omega

set_option maxHeartbeats 400000 in
theorem l6In_any (n lo hi : Int) (w : World) :
    Calls Try.prog 51 #[.int .i64 n, .int .i64 lo, .int .i64 hi] w fun e w' => e = .returned (.bool (inR n lo hi)) ∧ w = w' := by
  unfold inR
  by_cases h : lo ≤ n
  all_goals
    go_enter Try.func51, Try.ntmps51
    go_wp2
    go_ret
    simp
    try omega

theorem inR_okP (x : Int) : inR x 0 63 = okP x := by unfold inR okP; congr 1; simp; omega
set_option maxHeartbeats 400000 in
theorem l1Point_any (x : Int) (w : World) :
    Calls Try.prog 50 #[.int .i64 x] w fun e w' => e = .returned (.bool (okP x)) ∧ w = w' := by
  rw [← inR_okP]
  go_enter Try.func50, Try.ntmps50
  go_wp2_with (go_at_call 51; refine (l6In_any _ _ _ _).mono ?_; rintro e w' ⟨rfl, rfl⟩)
  go_ret
  exact ⟨rfl, rfl⟩

theorem inRange_any (n lo hi : Int) (w : World) :
    Calls Try.prog 43 #[.int .i64 n, .int .i64 lo, .int .i64 hi] w fun e w' => e = .returned (.bool (inR n lo hi)) ∧ w = w' := by
  unfold inR
  by_cases h : lo ≤ n
  all_goals
    go_enter Try.func43, Try.ntmps43
    go_wp2
    go_ret
    simp
    try omega

theorem posok_is (x : Int) (c : Bool) (h : okP x = c) (w : World) :
    Calls Try.prog 54 #[.int .i64 x] w fun e w' => e = .returned (.bool c) ∧ w = w' := by
  subst h; exact posok_any x w

end Go.Proofs.Ytkefnmmpipeppaa
