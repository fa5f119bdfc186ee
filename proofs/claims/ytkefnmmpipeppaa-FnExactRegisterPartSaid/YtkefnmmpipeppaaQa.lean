/-
  Contracts: is a replica valid, by the reference?
-/
import Derived.Test.YtkefnmmpipeppaaRe
namespace Go.Proofs.Ytkefnmmpipeppaa
open Go.RowKit

theorem rOk_zero {x : Tr} (h : x.a = 0) : rOk x = decide (x = ⟨0, 0, 0⟩) := by
  have : inR x.a 1 99 = false := by rw [h]; decide
  simp [rOk, this]
theorem rOk_pos {x : Tr} (h : ¬ x.a = 0) : rOk x = (inR x.a 1 99 && okP x.b && inR x.c 0 99) := by
  have : decide (x = ⟨0, 0, 0⟩) = false := decide_eq_false fun e => h (by rw [e])
  simp [rOk, this]
set_option maxHeartbeats 1000000 in
theorem sRep_any (x : Tr) (w : World) :
    Calls Try.prog 41 #[.agg #[.int .i64 x.a, .int .i64 x.b, .int .i64 x.c]] w fun e w' => e = .returned (.bool (rOk x)) ∧ Below w.heap.size w w' := by
  have hB := (Below.refl w.heap.size w).alloc (Nat.le_refl _) (.cells #[.int .i64 x.a, .int .i64 x.b, .int .i64 x.c] 26)
  have HB := Lib.hid hB
  clear hB
  by_cases hx : x.a = 0
  · have HX := Lib.hid hx
    have ex : x = ⟨0, x.b, x.c⟩ := by cases x; simp at hx; simp [hx]
    have EX := Lib.hid ex
    clear ex
    cases h0 : decide ((⟨0, x.b, x.c⟩ : Tr) = ⟨0, 0, 0⟩)
    all_goals
      have qe : ∀ w, _ := fun w => eql_at (x := ⟨0, x.b, x.c⟩) Try.eqlReplica h0 w
      simp only [] at qe
      have H0 := Lib.hid h0
      clear h0
      go_enter Try.func41, Try.ntmps41
      go_wp2
      go_ret
      exact ⟨by rw [rOk_zero HX.out, EX.out]; simp only []; rw [H0.out]; rfl, by have := HB.out; rw [hx] at this; exact this⟩
  · have HX := Lib.hid hx
    cases h1 : inR x.a 1 99 <;> cases h2 : okP x.b <;> cases h3 : inR x.c 0 99
    all_goals
      have H1 := Lib.hid h1
      have H2 := Lib.hid h2
      have H3 := Lib.hid h3
      clear h1 h2 h3
      go_enter Try.func41, Try.ntmps41
      go_wp2_with (first | (go_at_call 50; with_reducible refine (l1Point_any _ _).mono ?_; rw [H2.out]; rintro e w' ⟨rfl, rfl⟩) | (go_at_call 51; with_reducible refine (l6In_any x.a _ _ _).mono ?_; rw [H1.out]; rintro e w' ⟨rfl, rfl⟩) | (go_at_call 51; with_reducible refine (l6In_any x.c _ _ _).mono ?_; rw [H3.out]; rintro e w' ⟨rfl, rfl⟩))
      go_ret
      exact ⟨by rw [rOk_pos HX.out, H1.out, H2.out, H3.out]; rfl, HB.out⟩
end Go.Proofs.Ytkefnmmpipeppaa
