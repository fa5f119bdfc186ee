/-
  Contracts: equality of lists.
-/
import Derived.Test.YtagpkemlndkcjaaLkV
import Derived.Deep.RegionHeld3
namespace Go.Proofs.Ytagpkemlndkcjaa
open Go.RowKit

/-- Equal so far. -/
theorem list_ne {xs ys : List Int} {k : Nat} (h : xs.getD k 0 ≠ ys.getD k 0) : xs ≠ ys := fun e => h (by rw [e])

theorem list_eq {xs ys : List Int} (hl : xs.length = ys.length) (h : ∀ j, j < xs.length → xs.getD j 0 = ys.getD j 0) : xs = ys := by
  apply List.ext_getElem hl
  intro i h1 h2
  have := h i h1
  simpa [h1, h2] using this

theorem ints_neK {xs ys : List Int} {k : Nat} (h : xs.getD k 0 ≠ ys.getD k 0) : xs ≠ ys := fun e => h (by rw [e])
set_option maxHeartbeats 1000000 in
theorem sameInts_any (v u : Value) (xs ys : List Int) (w : World) (hv : IntsAt w v xs) (hu : IntsAt w u ys) :
    Calls Try.prog 7 #[v, u] w fun e w' => e = .returned (.bool (decide (xs = ys))) ∧ ∃ n, w' = w.drewN n := by
  obtain ⟨p, cap, rfl, hc, hm, h4⟩ := hv
  obtain ⟨p', cap', rfl, hc', hm', h4'⟩ := hu
  unfold maxLen at hm hm'
  by_cases hl : xs.length = ys.length
  · have HL := Lib.hid hl
    have hne : ((xs.length : Int) != ys.length) = false := by simp [hl]
    clear hl
    go_enter Try.func7, Try.ntmps7
    go_wp2
    go_loopw [4, 5] (fun _ s wr => ∃ k : Nat, k ≤ xs.length ∧ s = .int .i64 k ∧ Hid (∀ j, j < k → xs.getD j 0 = ys.getD j 0) ∧ ∃ n, wr = w.drewN n) (fun _ s _ => xs.length - (intOf s).toNat)
    case atStart => exact ⟨0, Nat.zero_le _, rfl, Lib.hid fun j hj => by omega, 0, rfl⟩
    case round =>
      obtain ⟨k, hk, rfl, HA, nd, rfl⟩ := hrel
      by_cases hlt : k < xs.length
      · rcases h4 with ⟨rfl, -⟩ | ⟨b, o, rfl, hb, hcell⟩
        · simp at hlt
        rcases h4' with ⟨rfl, -⟩ | ⟨b', o', rfl, hb', hcell'⟩
        · have := HL.out; simp at this; simp [this] at hlt
        have hlt' : k < ys.length := by have := HL.out; omega
        have h1 := hcell k hlt
        have h1' := hcell' k hlt'
        obtain ⟨x, hx⟩ : ∃ y, xs.getD k 0 = y := ⟨_, rfl⟩
        obtain ⟨y, hy⟩ : ∃ z, ys.getD k 0 = z := ⟨_, rfl⟩
        rw [hx] at h1
        rw [hy] at h1'
        have HX := Lib.hid hx
        have HY := Lib.hid hy
        have i0 : (0 : Int) ≤ (k : Int) := by omega
        have i1 : (k : Int) < (xs.length : Int) := by omega
        have i2 : (k : Int) < (ys.length : Int) := by omega
        clear hcell hcell' hx hy
        cases hxy : (x != y)
        · go_wp2_with fail
          go_quiet (fail)
          go_wp2
          go_roundw
          case rel =>
            refine ⟨k + 1, by omega, by go_num, Lib.hid fun j hj => ?_, _, rfl⟩
            by_cases e : j = k
            · subst e; rw [HX.out, HY.out]; simpa using hxy
            · exact HA.out j (by omega)
          case measure => simp [intOf]; omega
        · go_wp2_with fail
          go_quiet (fail)
          go_wp2
          go_ret
          exact ⟨ret_bool (by rw [eq_comm, decide_eq_false_iff_not]; exact ints_neK (k := k) (by rw [HX.out, HY.out]; simpa using hxy)), _, World.drewN_drewN ..⟩
      · obtain rfl : k = xs.length := by omega
        go_wp2
        go_ret
        exact ⟨ret_bool (by rw [eq_comm, decide_eq_true_eq]; exact ints_eq' HL.out HA.out), _, rfl⟩
  · have hne : ((xs.length : Int) != ys.length) = true := by simp; omega
    have HL := Lib.hid (show xs ≠ ys from fun e => hl (by rw [e]))
    clear hl
    go_enter Try.func7, Try.ntmps7
    go_wp2
    go_ret
    exact ⟨ret_bool (by rw [eq_comm, decide_eq_false_iff_not]; exact HL.out), 0, rfl⟩

end Go.Proofs.Ytagpkemlndkcjaa
