/-
  Contracts of the small functions on positions, ranges and points.
-/
import Derived.Test.YtagpkemlndkcjaaRows
import Derived.Test.YtagpkemlndkcjaaMemI
import Derived.WalkKit
import Derived.WalkSpells
import Derived.WalkLawsBesides
import Derived.Deep.QuietTactic
import Derived.BigQuiet
import Derived.Deep.RegionHeld3
import Derived.Deep.DeepCutAuto
import Derived.Deep.DeepFit
import Derived.Lib.Hide
import Derived.Outline
namespace Go.Proofs.Ytagpkemlndkcjaa
open Go.RowKit

set_option maxHeartbeats 400000 in
theorem posok_any (x : Int) (w : World) :
    Calls Try.prog 12 #[.int .i64 x] w fun e w' => e = .returned (.bool (okP x)) ∧ w = w' := by
  unfold okP
  by_cases h : 0 ≤ x
  all_goals
    go_enter Try.func12, Try.ntmps12
    go_wp2
    go_ret
    simp
    try omega

set_option maxHeartbeats 400000 in
theorem l6In_any (n lo hi : Int) (w : World) :
    Calls Try.prog 32 #[.int .i64 n, .int .i64 lo, .int .i64 hi] w fun e w' => e = .returned (.bool (inR n lo hi)) ∧ w = w' := by
  unfold inR
  by_cases h : lo ≤ n
  all_goals
    go_enter Try.func32, Try.ntmps32
    go_wp2
    go_ret
    simp
    try omega

theorem inR_okP (x : Int) : inR x 0 63 = okP x := by unfold inR okP; congr 1; simp; omega

set_option maxHeartbeats 400000 in
theorem l1Point_any (x : Int) (w : World) :
    Calls Try.prog 16 #[.int .i64 x] w fun e w' => e = .returned (.bool (okP x)) ∧ w = w' := by
  rw [← inR_okP]
  go_enter Try.func16, Try.ntmps16
  go_wp2_with (go_at_call 32; refine (l6In_any _ _ _ _).mono ?_; rintro e w' ⟨rfl, rfl⟩)
  go_ret
  exact ⟨rfl, rfl⟩

set_option maxHeartbeats 400000 in
theorem positions_any (v : Value) (xs : List Int) (w : World) (hv : IntsAt w v xs) :
    Calls Try.prog 20 #[v] w fun e w' => e = .returned (.bool (posAll xs)) ∧ w = w' := by
  obtain ⟨p, cap, rfl, hc, hm, h4⟩ := hv
  unfold maxLen at hm
  go_enter Try.func20, Try.ntmps20
  go_wp2
  go_loop [7] (fun i => ∃ k : Nat, k ≤ xs.length ∧ i = .int .i64 k ∧ allBelow (fun i => okP (xs.getD i 0)) k = true) (fun i => xs.length - (intOf i).toNat)
  case atStart => exact ⟨0, Nat.zero_le _, rfl, rfl⟩
  case round =>
    obtain ⟨k, hk, rfl, hall⟩ := hrel
    have HA := Lib.hid hall
    clear hall
    by_cases hlt : k < xs.length
    · rcases h4 with ⟨rfl, -⟩ | ⟨b, o, rfl, hb, hcell⟩
      · simp at hlt
      have hce := hcell k hlt
      have hgd : xs.getD k 0 = xs[k] := by simp [hlt]
      have HG := Lib.hid hgd
      clear hcell hgd
      go_wp2_with (go_at_call 12; refine (posok_any _ _).mono ?_; rintro e w' ⟨rfl, rfl⟩)
      · have hf : (!okP xs[k]) = true := by assumption
        go_ret
        exact ⟨ret_bool (allBelow_false hlt (by rw [HG.out]; simpa using hf)).symm, rfl⟩
      · have hf : (!okP xs[k]) = false := by assumption
        go_round
        case rel => exact ⟨k + 1, by omega, by go_num, allBelow_succ HA.out (by rw [HG.out]; simpa using hf)⟩
        case measure => simp [intOf]; omega
    · obtain rfl : k = xs.length := by omega
      go_wp2
      go_ret
      exact ⟨ret_bool HA.out.symm, rfl⟩

end Go.Proofs.Ytagpkemlndkcjaa
