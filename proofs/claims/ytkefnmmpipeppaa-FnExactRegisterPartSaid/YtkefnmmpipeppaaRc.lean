/-
  Contracts: which of two replicas is older.
-/
import Derived.Test.YtkefnmmpipeppaaRb
namespace Go.Proofs.Ytkefnmmpipeppaa
open Go.RowKit

set_option maxHeartbeats 1000000 in
theorem iOlder_any (x y : Tr) (w : World) :
    Calls Try.prog 44 #[.agg #[.int .i64 x.a, .int .i64 x.b, .int .i64 x.c], .agg #[.int .i64 y.a, .int .i64 y.b, .int .i64 y.c]] w fun e w' => e = .returned (.bool (rOlder x y)) ∧ Below w.heap.size w w' := by
  have hB1 := (Below.refl w.heap.size w).alloc (Nat.le_refl _) (.cells #[.int .i64 x.a, .int .i64 x.b, .int .i64 x.c] 26)
  have hB2 := hB1.alloc hB1.size (.cells #[.int .i64 y.a, .int .i64 y.b, .int .i64 y.c] 26)
  unfold rOlder
  by_cases h1 : x.a < y.a
  · go_enter Try.func44, Try.ntmps44
    go_wp2
    go_ret
    exact ⟨by simp [h1], hB2⟩
  by_cases h2 : x.a = y.a
  · by_cases h3 : x.b < y.b
    all_goals
      go_enter Try.func44, Try.ntmps44
      go_wp2
      go_ret
      exact ⟨by simp [*], by rw [h2] at hB2; exact hB2⟩
  · go_enter Try.func44, Try.ntmps44
    go_wp2
    go_ret
    exact ⟨by simp [*], hB2⟩

set_option maxHeartbeats 1000000 in
theorem sLess_any (x y : Tr) (w : World) :
    Calls Try.prog 60 #[.agg #[.int .i64 x.a, .int .i64 x.b, .int .i64 x.c], .agg #[.int .i64 y.a, .int .i64 y.b, .int .i64 y.c]] w fun e w' => e = .returned (.bool (rOlder x y)) ∧ Below w.heap.size w w' := by
  have hB1 := (Below.refl w.heap.size w).alloc (Nat.le_refl _) (.cells #[.int .i64 x.a, .int .i64 x.b, .int .i64 x.c] 26)
  have hB2 := hB1.alloc hB1.size (.cells #[.int .i64 y.a, .int .i64 y.b, .int .i64 y.c] 26)
  unfold rOlder
  by_cases h1 : x.a < y.a
  · go_enter Try.func60, Try.ntmps60
    go_wp2
    go_ret
    exact ⟨by simp [h1], hB2⟩
  by_cases h2 : x.a = y.a
  · by_cases h3 : x.b < y.b
    all_goals
      go_enter Try.func60, Try.ntmps60
      go_wp2
      go_ret
      exact ⟨by simp [*], by rw [h2] at hB2; exact hB2⟩
  · go_enter Try.func60, Try.ntmps60
    go_wp2
    go_ret
    exact ⟨by simp [*], hB2⟩

set_option maxHeartbeats 1000000 in
theorem lOlder_any (x y : Tr) (w : World) :
    Calls Try.prog 15 #[.agg #[.int .i64 x.a, .int .i64 x.b, .int .i64 x.c], .agg #[.int .i64 y.a, .int .i64 y.b, .int .i64 y.c]] w fun e w' => e = .returned (.bool (rOlder x y)) ∧ Below w.heap.size w w' := by
  have hB1 := (Below.refl w.heap.size w).alloc (Nat.le_refl _) (.cells #[.int .i64 x.a, .int .i64 x.b, .int .i64 x.c] 26)
  have hB2 := hB1.alloc hB1.size (.cells #[.int .i64 y.a, .int .i64 y.b, .int .i64 y.c] 26)
  unfold rOlder
  by_cases h1 : x.a < y.a
  · go_enter Try.func15, Try.ntmps15
    go_wp2
    go_ret
    exact ⟨by simp [h1], hB2⟩
  by_cases h2 : x.a = y.a
  · by_cases h3 : x.b < y.b
    all_goals
      go_enter Try.func15, Try.ntmps15
      go_wp2
      go_ret
      exact ⟨by simp [*], by rw [h2] at hB2; exact hB2⟩
  · go_enter Try.func15, Try.ntmps15
    go_wp2
    go_ret
    exact ⟨by simp [*], hB2⟩

end Go.Proofs.Ytkefnmmpipeppaa
