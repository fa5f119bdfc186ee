/-
  Majorities meet, in plain terms.
-/
import Derived.Test.YtkefnmmpipeppaaSg
namespace Go.Proofs.Ytkefnmmpipeppaa
open Go.RowKit

theorem rOlder_trans {a b c : Tr} (h : rOlder a b = false) (h' : rOlder b c = false) : rOlder a c = false := by
  unfold rOlder at *
  simp only [Bool.or_eq_false_iff, Bool.and_eq_false_iff, decide_eq_false_iff_not] at *
  omega
theorem rOlder_self (x : Tr) : rOlder x x = false := by unfold rOlder; simp
theorem rOlder_asym {x y : Tr} (h : rOlder x y = true) : rOlder y x = false := by
  unfold rOlder at *
  simp only [Bool.or_eq_true, Bool.and_eq_true, decide_eq_true_eq, Bool.or_eq_false_iff, Bool.and_eq_false_iff, decide_eq_false_iff_not] at *
  omega
theorem rOlder_put (x y : Tr) : rOlder (rPut x y) x = false := by
  rcases h : rOlder y x with _ | _
  · rw [rPut_new h]; exact h
  · rw [rPut_old h]; exact rOlder_self x
theorem rOlder_put2 (x y : Tr) : rOlder (rPut x y) y = false := by
  rcases h : rOlder y x with _ | _
  · rw [rPut_new h]; exact rOlder_self y
  · rw [rPut_old h]; exact rOlder_asym h
theorem rMax_ge (a b : Tr) : rOlder (rMax a b) a = false ∧ rOlder (rMax a b) b = false := by
  rcases h : rOlder a b with _ | _
  · rw [rMax_new h]; exact ⟨rOlder_self a, h⟩
  · rw [rMax_old h]; exact ⟨rOlder_asym h, rOlder_self b⟩
theorem latN_max (rs : List Tr) (ks : List Int) : ∀ n m, m < n → rOlder (latN rs ks n) (rs.getD (ks.getD m 0).toNat default) = false
  | 0, m, h => by omega
  | n + 1, m, h => by
    simp only [latN]
    rcases Nat.lt_or_ge m n with hlt | hge
    · exact rOlder_trans (rMax_ge _ _).1 (latN_max rs ks n m hlt)
    · obtain rfl : m = n := by omega
      exact (rMax_ge _ _).2
theorem rLat_max (rs : List Tr) (ks : List Int) {m : Nat} (h : m < ks.length) : rOlder (rLat rs ks) (rs.getD (ks.getD m 0).toNat default) = false := latN_max rs ks _ m h
theorem allBelow_all {f : Nat → Bool} : ∀ {n : Nat}, (∀ m, m < n → f m = true) → allBelow f n = true
  | 0, _ => rfl
  | n + 1, h => allBelow_succ (allBelow_all fun m hm => h m (by omega)) (h n (by omega))
/-- All from number k on. -/
def fromK (n k : Nat) : List Int := ((List.range n).map Int.ofNat).drop k
theorem fromK_length (n k : Nat) : (fromK n k).length = n - k := by simp [fromK]
theorem fromK_get {n k m : Nat} (h : m < n - k) : (fromK n k).getD m 0 = ((k + m : Nat) : Int) := by
  unfold fromK
  rw [List.getD_eq_getElem?_getD, List.getElem?_drop, List.getElem?_map, List.getElem?_range (by omega)]
  rfl
theorem fromK_set (n k : Nat) : setB n (fromK n k) = true := by
  unfold setB
  refine allBelow_all fun m hm => ?_
  rw [fromK_length] at hm
  unfold setAt inR
  rw [fromK_get hm]
  rcases Nat.eq_zero_or_pos m with rfl | hp
  · simp; omega
  · rw [fromK_get (show m - 1 < n - k by omega)]
    simp; omega
theorem fromK_maj {n k : Nat} (h : k < n - n / 2) : majB n (fromK n k) = true := by
  unfold majB
  rw [fromK_set, fromK_length]
  simp; omega
/-- A majority has one at least from number k on. -/
theorem maj_meets {n k : Nat} {ts : List Int} (ht : majB n ts = true) (h : k < n - n / 2) : ∃ j : Nat, k ≤ j ∧ j < n ∧ (j : Int) ∈ ts := by
  have hs := majB_set ht
  unfold majB at ht
  simp only [Bool.and_eq_true, decide_eq_true_eq] at ht
  have hk : k < ts.length := by omega
  have h1 := setB_ge hs k hk
  have h2 := setB_range hs k hk
  refine ⟨(ts.getD k 0).toNat, by omega, by omega, ?_⟩
  have e : (((ts.getD k 0).toNat : Nat) : Int) = ts.getD k 0 := by omega
  rw [e]
  have : ts.getD k 0 = ts[k] := by simp [hk]
  rw [this]
  exact List.getElem_mem hk
/-- What was put at a majority is known to all from number k on. -/
theorem put_known {rs : List Tr} {x : Tr} {ts : List Int} {k : Nat} (ht : majB rs.length ts = true) (h : k < rs.length - rs.length / 2) : rOlder (rLat (rPutAll x rs ts) (fromK rs.length k)) x = false := by
  obtain ⟨j, h1, h2, h3⟩ := maj_meets ht h
  have hm : j - k < (fromK rs.length k).length := by rw [fromK_length]; omega
  have h4 := rLat_max (rPutAll x rs ts) (fromK rs.length k) hm
  rw [fromK_get (by omega), show k + (j - k) = j by omega, Int.toNat_natCast, rPutAll_get _ _ _ h2, if_pos h3] at h4
  exact rOlder_trans h4 (rOlder_put _ _)
end Go.Proofs.Ytkefnmmpipeppaa
