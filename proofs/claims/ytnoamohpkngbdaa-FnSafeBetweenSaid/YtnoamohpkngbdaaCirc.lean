/-
  Contracts: the circle's functions of the program and of the reference.
-/
import Derived.Test.YtnoamohpkngbdaaBase
namespace Go.Proofs.Ytnoamohpkngbdaa
open Go.RowKit

theorem posAll1 (a : Int) : posAll [a] = okP a := by simp [posAll, allBelow]
theorem posAll2 (a b : Int) : posAll [a, b] = (okP a && okP b) := by simp [posAll, allBelow]
theorem posAll3 (a b c : Int) : posAll [a, b, c] = (okP a && okP b && okP c) := by simp [posAll, allBelow]
theorem okP_iff {a : Int} : okP a = true ↔ 0 ≤ a ∧ a < 64 := by simp [okP]

set_option maxHeartbeats 400000 in
theorem up_any (a b : Int) (ha : okP a = true) (hb : okP b = true) (w : World) :
    Calls Try.prog 80 #[.int .i64 a, .int .i64 b] w fun e w' => e = .returned (.int .i64 (dist a b)) ∧ w = w' := by
  rw [okP_iff] at ha hb
  obtain ⟨a1, a2⟩ := ha
  obtain ⟨b1, b2⟩ := hb
  go_enter Try.func80, Try.ntmps80
  go_wp2
  go_outline
  go_ret
  exact ⟨ret_int (by unfold dist; rfl), rfl⟩

set_option maxHeartbeats 400000 in
theorem iDistance_any (a b : Int) (w : World) :
    Calls Try.prog 60 #[.int .i64 a, .int .i64 b] w fun e w' => e = .returned (.int .i64 (if okP a && okP b then dist a b else -1)) ∧ Below w.heap.size w w' := by
  have hB := (Below.refl w.heap.size w).alloc (Nat.le_refl _) (.cells #[.int .i64 a, .int .i64 b] 3)
  have H2 := Lib.hid (posAll2 a b)
  cases hp : okP a && okP b
  all_goals
    rw [hp] at H2
    go_enter Try.func60, Try.ntmps60
    go_wp2_with (first | (go_at_call 53; refine (positions_any _ [a, b] _ (intsAt_new _ _ [a, b] _ rfl (by simp))).mono ?_; rw [H2.out]; rintro e w' ⟨rfl, rfl⟩) | (go_at_call 80; refine (up_any _ _ (by simp at hp; exact hp.1) (by simp at hp; exact hp.2) _).mono ?_; rintro e w' ⟨rfl, rfl⟩))
    go_ret
    exact ⟨by simp, hB⟩

set_option maxHeartbeats 400000 in
theorem sBetween_any (a x b : Int) (w : World) :
    Calls Try.prog 86 #[.int .i64 a, .int .i64 x, .int .i64 b] w fun e w' => e = .returned (.bool (btw a x b)) ∧ w = w' := by
  unfold btw
  by_cases h : a < b
  · by_cases h2 : a < x
    all_goals
      go_enter Try.func86, Try.ntmps86
      go_wp2
      go_ret
      exact ⟨ret_bool (by simp [*]; try omega), rfl⟩
  · by_cases h2 : a < x
    all_goals
      go_enter Try.func86, Try.ntmps86
      go_wp2
      go_ret
      exact ⟨ret_bool (by simp [*]; try omega), rfl⟩

end Go.Proofs.Ytnoamohpkngbdaa
