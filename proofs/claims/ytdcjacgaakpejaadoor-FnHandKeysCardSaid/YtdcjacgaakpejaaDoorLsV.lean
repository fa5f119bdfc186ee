/-
  Contracts: valid leases, times.
-/
import Derived.Test.YtdcjacgaakpejaaDoorBase
import Derived.Test.YtdcjacgaakpejaaDoorPLs
import Derived.Deep.RegionHeld3
namespace Go.Proofs.YtdcjacgaakpejaaDoor
open Go.RowKit

theorem posAll1 (a : Int) : posAll [a] = okP a := by simp [posAll, allBelow]
theorem posAll2 (a b : Int) : posAll [a, b] = (okP a && okP b) := by simp [posAll, allBelow]
theorem posAll3 (a b c : Int) : posAll [a, b, c] = (okP a && okP b && okP c) := by simp [posAll, allBelow]
theorem okP_iff {a : Int} : okP a = true ↔ 0 ≤ a ∧ a < 64 := by simp [okP]

set_option maxHeartbeats 400000 in
theorem inRange_any (n lo hi : Int) (w : World) :
    Calls Tryd.prog 39 #[.int .i64 n, .int .i64 lo, .int .i64 hi] w fun e w' => e = .returned (.bool (inR n lo hi)) ∧ w = w' := by
  unfold inR
  by_cases h : lo ≤ n
  all_goals
    go_enter Tryd.func39, Tryd.ntmps39
    go_wp2
    go_ret
    simp
    try omega

theorem l12Time_any (x : Int) (w : World) :
    Calls Tryd.prog 25 #[.int .i64 x] w fun e w' => e = .returned (.bool (okT x)) ∧ w = w' := by
  unfold okT
  go_enter Tryd.func25, Tryd.ntmps25
  go_wp2_with (go_at_call 42; refine (l6In_any _ _ _ _).mono ?_; rintro e w' ⟨rfl, rfl⟩)
  go_ret
  exact ⟨rfl, rfl⟩

theorem timesF_any (x : Int) (w : World) :
    Calls Tryd.prog 51 #[.int .i64 x] w fun e w' => e = .returned (.bool (!okT x)) ∧ w = w' := by
  unfold okT
  go_enter Tryd.func51, Tryd.ntmps51
  go_wp2_with (go_at_call 39; refine (inRange_any _ _ _ _).mono ?_; rintro e w' ⟨rfl, rfl⟩)
  go_ret
  exact ⟨rfl, rfl⟩

set_option maxHeartbeats 1000000 in
theorem timesIdx_any (v : Value) (xs : List Int) (w : World) (hv : IntsAt w v xs) :
    Calls Tryd.prog 56 #[v, .func (.func 51) #[] #[]] w fun e w' => e = .returned (.int .i64 (idx (fun x => !okT x) xs)) ∧ w = w' := by
  obtain ⟨p, cap, rfl, hc, hm, h4⟩ := hv
  unfold maxLen at hm
  go_enter Tryd.func56, Tryd.ntmps56
  go_wp2
  go_loop [5, 8] (fun _ s8 => ∃ k : Nat, k ≤ xs.length ∧ s8 = .int .i64 k ∧ Hid (∀ j, j < k → (!okT (xs.getD j 0)) = false)) (fun _ s => xs.length - (intOf s).toNat)
  case atStart => exact ⟨0, Nat.zero_le _, rfl, Lib.hid fun j hj => by omega⟩
  case round =>
    obtain ⟨k, hk, rfl, HA⟩ := hrel
    by_cases hlt : k < xs.length
    · rcases h4 with ⟨rfl, -⟩ | ⟨b, o, rfl, hb, hcell⟩
      · simp at hlt
      have h1 := hcell k hlt
      obtain ⟨n, hn⟩ : ∃ x, xs.getD k 0 = x := ⟨_, rfl⟩
      rw [hn] at h1
      have HN := Lib.hid hn
      clear hcell hn
      cases hok : okT n
      · have HO := Lib.hid (show (!okT n) = true by rw [hok]; rfl)
        clear hok
        go_wp2_with (go_at_call 51; refine (timesF_any _ _).mono ?_; rw [HO.out]; rintro e w1 ⟨rfl, rfl⟩)
        go_ret
        exact ⟨ret_int (idx_hit (d := 0) hlt (by rw [HN.out]; exact HO.out) HA.out).symm, rfl⟩
      · have HO := Lib.hid (show (!okT n) = false by rw [hok]; rfl)
        clear hok
        go_wp2_with (go_at_call 51; refine (timesF_any _ _).mono ?_; rw [HO.out]; rintro e w1 ⟨rfl, rfl⟩)
        go_round
        case rel =>
          refine ⟨k + 1, by omega, by go_num, Lib.hid fun j hj => ?_⟩
          by_cases e : j = k
          · subst e; rw [HN.out]; exact HO.out
          · exact HA.out j (by omega)
        case measure => simp [intOf]; omega
    · obtain rfl : k = xs.length := by omega
      go_wp2
      go_ret
      exact ⟨ret_int (idx_miss (d := 0) HA.out).symm, rfl⟩

theorem timAll_any (xs : List Int) : (!decide (0 ≤ idx (fun x => !okT x) xs)) = timAll xs := by
  rw [idx_any]
  unfold timAll
  rw [Bool.eq_iff_iff, allBelow_of]
  simp only [List.any_eq_false, Bool.not_eq_eq_eq_not, Bool.not_true, Bool.not_eq_false]
  constructor
  · intro h i hi
    have : xs.getD i 0 = xs[i] := by simp [hi]
    rw [this]; exact h _ (List.getElem_mem hi)
  · intro h x hx
    obtain ⟨i, hi, rfl⟩ := List.getElem_of_mem hx
    have := h i hi
    simpa [hi] using this

theorem times_any (v : Value) (xs : List Int) (w : World) (hv : IntsAt w v xs) :
    Calls Tryd.prog 41 #[v] w fun e w' => e = .returned (.bool (timAll xs)) ∧ w = w' := by
  have HV := Lib.hid hv
  have HT := Lib.hid (timAll_any xs)
  clear hv
  have hcf : Calls Tryd.prog 50 #[v, .func (.func 51) #[] #[]] w fun e w' => e = .returned (.bool (decide (0 ≤ idx (fun x => !okT x) xs))) ∧ w = w' := by
    go_enter Tryd.func50, Tryd.ntmps50
    go_wp2_with (go_at_call 56; refine (timesIdx_any v xs _ HV.out).mono ?_; rintro e w' ⟨rfl, rfl⟩)
    go_ret
    exact ⟨rfl, rfl⟩
  have HCF := Lib.hid hcf
  clear hcf
  go_enter Tryd.func41, Tryd.ntmps41
  go_wp2_with (go_at_call 50; refine (HCF.out).mono ?_; rintro e w' ⟨rfl, rfl⟩)
  go_ret
  exact ⟨ret_bool HT.out, rfl⟩

theorem positionsB_any (v : Value) (xs : List Int) (c : Bool) (hc : posAll xs = c) (w : World) (hv : IntsAt w v xs) :
    Calls Tryd.prog 40 #[v] w fun e w' => e = .returned (.bool c) ∧ Below w.heap.size w w' :=
  (positions_any v xs w hv).mono fun _ _ ⟨h, e⟩ => by subst e; rw [← hc]; exact ⟨h, Below.refl _ _⟩
theorem timesB_any (v : Value) (xs : List Int) (c : Bool) (hc : timAll xs = c) (w : World) (hv : IntsAt w v xs) :
    Calls Tryd.prog 41 #[v] w fun e w' => e = .returned (.bool c) ∧ Below w.heap.size w w' :=
  (times_any v xs w hv).mono fun _ _ ⟨h, e⟩ => by subst e; rw [← hc]; exact ⟨h, Below.refl _ _⟩
theorem l1PointB_any (x : Int) (c : Bool) (hc : okP x = c) (w : World) :
    Calls Tryd.prog 24 #[.int .i64 x] w fun e w' => e = .returned (.bool c) ∧ Below w.heap.size w w' :=
  (l1Point_any x w).mono fun _ _ ⟨h, e⟩ => by subst e; rw [← hc]; exact ⟨h, Below.refl _ _⟩
theorem l12TimeB_any (x : Int) (c : Bool) (hc : okT x = c) (w : World) :
    Calls Tryd.prog 25 #[.int .i64 x] w fun e w' => e = .returned (.bool c) ∧ Below w.heap.size w w' :=
  (l12Time_any x w).mono fun _ _ ⟨h, e⟩ => by subst e; rw [← hc]; exact ⟨h, Below.refl _ _⟩

end Go.Proofs.YtdcjacgaakpejaaDoor
