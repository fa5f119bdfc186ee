/-
  Majorities meet, in plain terms.
-/
import Derived.Test.YtkefnmmpipeppaaPd
namespace Go.Proofs.Ytkefnmmpipeppaa
open Go.RowKit

theorem rOlder_trans {a b c : Tr} (h : rOlder a b = false) (h' : rOlder b c = false) : rOlder a c = false := by
  unfold rOlder at *
  simp only [Bool.or_eq_false_iff, Bool.and_eq_false_iff, decide_eq_false_iff_not] at *
  omega
theorem rOlder_self (x : Tr) : rOlder x x = false := by unfold rOlder; simp
theorem rOlder_asym {x y : Tr} (h : rOlder x y = true) : rOlder y x = false := by
  unfold rOlder at *
  simp only [Bool.or_eq_true, Bool.and_eq_true, decide_eq_true_eq, Bool.or_eq_false_iff, Bool.and_eq_false_iff, decide_eq_false_iff_not] at *
  omega
theorem rOlder_put (x y : Tr) : rOlder (rPut x y) x = false := by
  rcases h : rOlder y x with _ | _
  · rw [rPut_new h]; exact h
  · rw [rPut_old h]; exact rOlder_self x
theorem rOlder_put2 (x y : Tr) : rOlder (rPut x y) y = false := by
  rcases h : rOlder y x with _ | _
  · rw [rPut_new h]; exact rOlder_self y
  · rw [rPut_old h]; exact rOlder_asym h
theorem rMax_ge (a b : Tr) : rOlder (rMax a b) a = false ∧ rOlder (rMax a b) b = false := by
  rcases h : rOlder a b with _ | _
  · rw [rMax_new h]; exact ⟨rOlder_self a, h⟩
  · rw [rMax_old h]; exact ⟨rOlder_asym h, rOlder_self b⟩
theorem latN_max (rs : List Tr) (ks : List Int) : ∀ n m, m < n → rOlder (latN rs ks n) (rs.getD (ks.getD m 0).toNat default) = false
  | 0, m, h => by omega
  | n + 1, m, h => by
    simp only [latN]
    rcases Nat.lt_or_ge m n with hlt | hge
    · exact rOlder_trans (rMax_ge _ _).1 (latN_max rs ks n m hlt)
    · obtain rfl : m = n := by omega
      exact (rMax_ge _ _).2
theorem rLat_max (rs : List Tr) (ks : List Int) {m : Nat} (h : m < ks.length) : rOlder (rLat rs ks) (rs.getD (ks.getD m 0).toNat default) = false := latN_max rs ks _ m h
theorem allBelow_all {f : Nat → Bool} : ∀ {n : Nat}, (∀ m, m < n → f m = true) → allBelow f n = true
  | 0, _ => rfl
  | n + 1, h => allBelow_succ (allBelow_all fun m hm => h m (by omega)) (h n (by omega))
/-- All from number k on. -/
def fromK (n k : Nat) : List Int := ((List.range n).map Int.ofNat).drop k
theorem fromK_length (n k : Nat) : (fromK n k).length = n - k := by simp [fromK]
theorem fromK_get {n k m : Nat} (h : m < n - k) : (fromK n k).getD m 0 = ((k + m : Nat) : Int) := by
  unfold fromK
  rw [List.getD_eq_getElem?_getD, List.getElem?_drop, List.getElem?_map, List.getElem?_range (by omega)]
  rfl
theorem fromK_set (n k : Nat) : setB n (fromK n k) = true := by
  unfold setB
  refine allBelow_all fun m hm => ?_
  rw [fromK_length] at hm
  unfold setAt inR
  rw [fromK_get hm]
  rcases Nat.eq_zero_or_pos m with rfl | hp
  · simp; omega
  · rw [fromK_get (show m - 1 < n - k by omega)]
    simp; omega
theorem fromK_maj {n k : Nat} (h : k < n - n / 2) : majB n (fromK n k) = true := by
  unfold majB
  rw [fromK_set, fromK_length]
  simp; omega
/-- A majority has one at least from number k on. -/
theorem maj_meets {n k : Nat} {ts : List Int} (ht : majB n ts = true) (h : k < n - n / 2) : ∃ j : Nat, k ≤ j ∧ j < n ∧ (j : Int) ∈ ts := by
  have hs := majB_set ht
  unfold majB at ht
  simp only [Bool.and_eq_true, decide_eq_true_eq] at ht
  have hk : k < ts.length := by omega
  have h1 := setB_ge hs k hk
  have h2 := setB_range hs k hk
  refine ⟨(ts.getD k 0).toNat, by omega, by omega, ?_⟩
  have e : (((ts.getD k 0).toNat : Nat) : Int) = ts.getD k 0 := by omega
  rw [e]
  have : ts.getD k 0 = ts[k] := by simp [hk]
  rw [this]
  exact List.getElem_mem hk
/-- What was put at a majority is known to all from number k on. -/
theorem put_known {rs : List Tr} {x : Tr} {ts : List Int} {k : Nat} (ht : majB rs.length ts = true) (h : k < rs.length - rs.length / 2) : rOlder (rLat (rPutAll x rs ts) (fromK rs.length k)) x = false := by
  obtain ⟨j, h1, h2, h3⟩ := maj_meets ht h
  have hm : j - k < (fromK rs.length k).length := by rw [fromK_length]; omega
  have h4 := rLat_max (rPutAll x rs ts) (fromK rs.length k) hm
  rw [fromK_get (by omega), show k + (j - k) = j by omega, Int.toNat_natCast, rPutAll_get _ _ _ h2, if_pos h3] at h4
  exact rOlder_trans h4 (rOlder_put _ _)
theorem rAg_symm (x y : Tr) : rAg x y = rAg y x := by
  unfold rAg
  rw [Bool.or_comm (rOlder x y), show decide (x = y) = decide (y = x) from decide_eq_decide.2 ⟨Eq.symm, Eq.symm⟩]
theorem rAg_self (x : Tr) : rAg x x = true := by unfold rAg; simp
theorem regB_ag {rs : List Tr} (h : regB rs = true) {i k : Nat} (hi : i < rs.length) (hk : k < rs.length) : rAg (rs.getD i default) (rs.getD k default) = true := by
  unfold regB at h
  simp only [Bool.and_eq_true] at h
  have key : ∀ i k, i < rs.length → k < i → rAg (rs.getD i default) (rs.getD k default) = true := fun i k hi hk => by
    have := allBelow_iff h.2 hi
    unfold regAt at this
    simp only [Bool.and_eq_true] at this
    exact allBelow_iff this.2 hk
  rcases Nat.lt_trichotomy k i with hlt | rfl | hlt
  · exact key i k hi hlt
  · exact rAg_self _
  · rw [rAg_symm]; exact key k i hk hlt
/-- Whatever is made of a valid register's replicas is valid. -/
theorem regB_any {rs ys : List Tr} (h : regB rs = true) (hl : 1 ≤ ys.length ∧ ys.length ≤ 5) (hy : ∀ i, i < ys.length → ∃ K, K < rs.length ∧ ys.getD i default = rs.getD K default) : regB ys = true := by
  unfold regB
  rw [Bool.and_eq_true]
  refine ⟨by unfold inR; simp; omega, allBelow_all fun i hi => ?_⟩
  obtain ⟨K, h1, h2⟩ := hy i hi
  unfold regAt
  rw [h2, regB_ok h h1, Bool.true_and]
  refine allBelow_all fun k hk => ?_
  obtain ⟨K', h1', h2'⟩ := hy k (by omega)
  rw [h2']
  exact regB_ag h h1 h1'
theorem rLat_mem {rs : List Tr} {ks : List Int} (h : askB rs ks = true) : ∃ K, K < rs.length ∧ rLat rs ks = rs.getD K default := by
  unfold askB at h
  simp only [Bool.and_eq_true] at h
  exact latN_mem (majB_pos h.2) (setB_range (majB_set h.2)) ks.length (Nat.le_refl _)
theorem regB_put {rs : List Tr} {x : Tr} {ts : List Int} (h : regB rs = true) (hx : ∃ K, K < rs.length ∧ x = rs.getD K default) : regB (rPutAll x rs ts) = true := by
  obtain ⟨K, hK, rfl⟩ := hx
  refine regB_any h (by rw [rPutAll_length]; exact regB_len h) fun i hi => ?_
  rw [rPutAll_length] at hi
  rw [rPutAll_get _ _ _ hi]
  unfold rPut
  split
  · split
    · exact ⟨K, hK, rfl⟩
    · exact ⟨i, hi, rfl⟩
  · exact ⟨i, hi, rfl⟩
theorem setB_le {n n' : Int} {ks : List Int} (h : setB n ks = true) (hn : n ≤ n') : setB n' ks = true := by
  unfold setB at *
  refine allBelow_all fun m hm => ?_
  have := allBelow_iff h hm
  unfold setAt inR at *
  simp only [Bool.and_eq_true, decide_eq_true_eq] at this ⊢
  exact ⟨⟨this.1.1, by omega⟩, this.2⟩
theorem firstK_maj {n h : Nat} (h1 : h ≤ n) (h2 : n < 2 * h) : majB n (fromK h 0) = true := by
  unfold majB
  rw [setB_le (fromK_set h 0) (by omega), fromK_length]
  simp; omega
/-- What was put from number k on is known to the first. -/
theorem put_known2 {rs : List Tr} {x : Tr} {k h : Nat} (hk : k < h) (hh : h ≤ rs.length) : rOlder (rLat (rPutAll x rs (fromK rs.length k)) (fromK h 0)) x = false := by
  have hm : k < (fromK h 0).length := by rw [fromK_length]; omega
  have h4 := rLat_max (rPutAll x rs (fromK rs.length k)) (fromK h 0) hm
  have hkm : (k : Int) ∈ fromK rs.length k := by
    have e : (fromK rs.length k).getD 0 0 = (k : Int) := by rw [fromK_get (by omega)]; rfl
    have hlt : 0 < (fromK rs.length k).length := by rw [fromK_length]; omega
    have : (fromK rs.length k)[0] = (k : Int) := by rw [← e]; simp [hlt]
    rw [← this]
    exact List.getElem_mem hlt
  rw [fromK_get (by omega), Nat.zero_add, Int.toNat_natCast, rPutAll_get _ _ _ (by omega), if_pos hkm] at h4
  exact rOlder_trans h4 (rOlder_put _ _)
end Go.Proofs.Ytkefnmmpipeppaa
