/-
  Contracts: isPoint.
-/
import Derived.Test.YtojpfbbgpcafnaaBase
namespace Go.Proofs.Ytojpfbbgpcafnaa
open Go.RowKit

theorem isPoint_is (x : Int) (c : Bool) (h : okP x = c) (w : World) :
    Calls Try.prog 38 #[.int .i64 x] w fun e w' => e = .returned (.bool c) ∧ w = w' := by
  subst h
  have hd : okP x = (decide (0 ≤ x) && decide (x < 64)) := by unfold okP; simp
  rw [hd]
  go_enter Try.func38, Try.ntmps38
  go_wp2
  all_goals
    go_ret
    exact ⟨ret_bool (by first | (simp [*]; done) | (simp [*]; omega)), rfl⟩

end Go.Proofs.Ytojpfbbgpcafnaa
