/-
  Contracts: ranges, positions, points, members of a list of integers.
-/
import Derived.Test.YtddnapbdhjifiaaRows
import Derived.Test.YtddnapbdhjifiaaRm
import Derived.WalkKit
namespace Go.Proofs.Ytddnapbdhjifiaa
open Go.RowKit

set_option maxHeartbeats 400000 in
theorem posok_any (x : Int) (w : World) :
    Calls Try.prog 57 #[.int .i64 x] w fun e w' => e = .returned (.bool (okP x)) ∧ w = w' := by
  unfold okP
  by_cases h : 0 ≤ x
  all_goals
    go_enter Try.func57, Try.ntmps57
    go_wp2
    go_ret
    simp
    try omega

set_option maxHeartbeats 400000 in
theorem l6In_any (n lo hi : Int) (w : World) :
    Calls Try.prog 30 #[.int .i64 n, .int .i64 lo, .int .i64 hi] w fun e w' => e = .returned (.bool (inR n lo hi)) ∧ w = w' := by
  unfold inR
  by_cases h : lo ≤ n
  all_goals
    go_enter Try.func30, Try.ntmps30
    go_wp2
    go_ret
    simp
    try omega

theorem inR_okP (x : Int) : inR x 0 63 = okP x := by unfold inR okP; congr 1; simp; omega
set_option maxHeartbeats 400000 in
theorem l1Point_any (x : Int) (w : World) :
    Calls Try.prog 58 #[.int .i64 x] w fun e w' => e = .returned (.bool (okP x)) ∧ w = w' := by
  rw [← inR_okP]
  go_enter Try.func58, Try.ntmps58
  go_wp2_with (go_at_call 30; refine (l6In_any _ _ _ _).mono ?_; rintro e w' ⟨rfl, rfl⟩)
  go_ret
  exact ⟨rfl, rfl⟩

theorem inRange_any (n lo hi : Int) (w : World) :
    Calls Try.prog 35 #[.int .i64 n, .int .i64 lo, .int .i64 hi] w fun e w' => e = .returned (.bool (inR n lo hi)) ∧ w = w' := by
  unfold inR
  by_cases h : lo ≤ n
  all_goals
    go_enter Try.func35, Try.ntmps35
    go_wp2
    go_ret
    simp
    try omega

theorem posok_is (x : Int) (c : Bool) (h : okP x = c) (w : World) :
    Calls Try.prog 57 #[.int .i64 x] w fun e w' => e = .returned (.bool c) ∧ w = w' := by
  subst h; exact posok_any x w

end Go.Proofs.Ytddnapbdhjifiaa
