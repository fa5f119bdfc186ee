/-
  Contracts: sizes of what came in, and equality, of the exact laws.
-/
import Derived.Test.YtfgfoikcpijjdaaBase
namespace Go.Proofs.Ytfgfoikcpijjdaa
open Go.RowKit

set_option maxHeartbeats 400000 in
theorem szIntS_any (v : Value) (xs : List Int) (left : Int) (w : World) (hv : IntsAt w v xs) (h0 : 0 ≤ left) (h1 : left ≤ 1048576) :
    Calls Try.prog 74 #[v, .int .i64 left] w fun e w' => e = .returned (.int .i64 (if left < xs.length then -1 else left - xs.length)) ∧ w = w' := by
  obtain ⟨p, cap, rfl, hc, hm, -⟩ := hv
  unfold maxLen at hm
  by_cases h : left < xs.length
  · rw [if_pos h]
    go_enter Try.func74, Try.ntmps74
    go_wp2
    go_ret
    exact ⟨rfl, rfl⟩
  · rw [if_neg h]
    have h' : (xs.length : Int) ≤ left := by omega
    go_enter Try.func74, Try.ntmps74
    go_wp2
    go_ret
    exact ⟨rfl, rfl⟩

set_option maxHeartbeats 400000 in
theorem szNode_any (i bf : Int) (va : Value) (af : List Int) (left : Int) (w : World) (ha : IntsAt w va af) (h0 : 0 ≤ left) (h1 : left ≤ 1048576) :
    Calls Try.prog 35 #[.agg #[.int .i64 i, .int .i64 bf, va], .int .i64 left] w fun e w' => e = .returned (.int .i64 (if left < af.length then -1 else left - af.length)) ∧ Below w.heap.size w w' := by
  have HA := Lib.hid ha
  obtain ⟨pa, capa, rfl, -, -, -⟩ := ha
  have hb := (Below.refl w.heap.size w).alloc (Nat.le_refl _) (.cells #[.int .i64 i, .int .i64 bf, .slice pa af.length capa] 38)
  by_cases h : left < af.length
  · rw [if_pos h]
    have HE := Lib.hid (show (if left < (af.length : Int) then (-1 : Int) else left - af.length) = -1 from if_pos h)
    clear h
    go_enter Try.func35, Try.ntmps35
    go_wp2_with (go_at_call 74; refine (szIntS_any _ af left _ (by exact HA.out.below hb (Nat.le_refl _)) h0 h1).mono ?_; rw [HE.out]; rintro e w' ⟨rfl, rfl⟩)
    go_ret
    exact ⟨rfl, hb⟩
  · rw [if_neg h]
    have HE := Lib.hid (show (if left < (af.length : Int) then (-1 : Int) else left - af.length) = left - af.length from if_neg h)
    have h' : (af.length : Int) ≤ left := by omega
    clear h
    go_enter Try.func35, Try.ntmps35
    go_wp2_with (go_at_call 74; refine (szIntS_any _ af left _ (by exact HA.out.below hb (Nat.le_refl _)) h0 h1).mono ?_; rw [HE.out]; rintro e w' ⟨rfl, rfl⟩)
    go_ret
    exact ⟨rfl, hb⟩

/-- What the size of a ring that was let through says. -/
def SzOk (r : List Nd) : Prop := r.length ≤ 1048576 ∧ ∀ j, j < r.length → (r.getD j default).after.length ≤ 1048576

set_option maxHeartbeats 1000000 in
theorem szNodeS_any (v : Value) (r : List Nd) (w : World) (hv : RingAt w v r) :
    Calls Try.prog 12 #[v, .int .i64 1048576] w fun e w' => (∃ s, e = .returned (.int .i64 s) ∧ (s < 0 ∨ SzOk r)) ∧ Below w.heap.size w w' := by
  obtain ⟨p, cap, rfl, hc, hm, h4⟩ := hv
  unfold maxLen at hm
  by_cases h : 1048576 < r.length
  · have h' : (1048576 : Int) < r.length := by omega
    go_enter Try.func12, Try.ntmps12
    go_wp2
    go_ret
    exact ⟨⟨_, rfl, .inl (by decide)⟩, Below.refl _ _⟩
  have h' : (r.length : Int) ≤ 1048576 := by omega
  have hl : r.length ≤ 1048576 := by omega
  clear h
  go_enter Try.func12, Try.ntmps12
  go_wp2
  go_loopw [1, 4, 5] (fun s1 _ s5 wr => ∃ (k : Nat) (left : Int), k ≤ r.length ∧ s5 = .int .i64 k ∧ s1 = .int .i64 left ∧ 0 ≤ left ∧ left ≤ 1048576 ∧ Hid (∀ j, j < k → (r.getD j default).after.length ≤ 1048576) ∧ Below w.heap.size w wr) (fun _ _ s _ => r.length - (intOf s).toNat)
  case atStart => exact ⟨0, _, Nat.zero_le _, rfl, rfl, by omega, by omega, Lib.hid fun j hj => by omega, Below.refl _ _⟩
  case round =>
    obtain ⟨k, left, hk, rfl, rfl, hl0, hl1, HA, hbel⟩ := hrel
    by_cases hlt : k < r.length
    · rcases h4 with ⟨rfl, -⟩ | ⟨b, o, rfl, hb, hcell⟩
      · simp at hlt
      obtain ⟨h1, h2, va, h3, hia⟩ := (hcell k hlt).below hb hbel (Nat.le_refl _)
      obtain ⟨n, hn⟩ : ∃ x, r.getD k default = x := ⟨_, rfl⟩
      rw [hn] at h1 h2 hia
      have HN := Lib.hid hn
      have HI := Lib.hid hia
      obtain ⟨pa, capa, rfl, -, -, -⟩ := hia
      have hsz : w.heap.size ≤ wr.heap.size := hbel.size
      clear hcell hn
      by_cases hle : left < n.after.length
      · have HE := Lib.hid (show (if left < (n.after.length : Int) then (-1 : Int) else left - n.after.length) = -1 from if_pos hle)
        clear hle
        go_wp2_with (go_at_call 35; refine (szNode_any _ _ _ n.after left _ HI.out hl0 hl1).mono ?_; rw [HE.out]; rintro e w1 ⟨rfl, hb1⟩)
        go_ret
        exact ⟨⟨_, rfl, .inl (by decide)⟩, hbel.trans (hb1.mono hsz)⟩
      · have HE := Lib.hid (show (if left < (n.after.length : Int) then (-1 : Int) else left - n.after.length) = left - n.after.length from if_neg hle)
        have hle' : (n.after.length : Int) ≤ left := by omega
        clear hle
        go_wp2_with (go_at_call 35; refine (szNode_any _ _ _ n.after left _ HI.out hl0 hl1).mono ?_; rw [HE.out]; rintro e w1 ⟨rfl, hb1⟩)
        go_roundw
        case rel =>
          refine ⟨k + 1, left - n.after.length, by omega, by go_num, rfl, by omega, by omega, Lib.hid fun j hj => ?_, hbel.trans (hb1.mono hsz)⟩
          by_cases e : j = k
          · subst e; rw [HN.out]; omega
          · exact HA.out j (by omega)
        case measure => simp [intOf]; omega
    · obtain rfl : k = r.length := by omega
      go_wp2
      go_ret
      exact ⟨⟨_, rfl, .inr ⟨hl, HA.out⟩⟩, hbel⟩

/-- Equal so far. -/
theorem list_ne {xs ys : List Int} {k : Nat} (h : xs.getD k 0 ≠ ys.getD k 0) : xs ≠ ys := fun e => h (by rw [e])
theorem list_eq {xs ys : List Int} (hl : xs.length = ys.length) (h : ∀ j, j < xs.length → xs.getD j 0 = ys.getD j 0) : xs = ys := by
  apply List.ext_getElem hl
  intro i h1 h2
  have := h i h1
  simpa [h1, h2] using this

set_option maxHeartbeats 1000000 in
theorem eqIntS_any (v u : Value) (xs ys : List Int) (w : World) (hv : IntsAt w v xs) (hu : IntsAt w u ys) :
    Calls Try.prog 82 #[v, u] w fun e w' => e = .returned (.bool (decide (xs = ys))) ∧ Below w.heap.size w w' := by
  obtain ⟨p, cap, rfl, hc, hm, h4⟩ := hv
  obtain ⟨p', cap', rfl, hc', hm', h4'⟩ := hu
  unfold maxLen at hm hm'
  by_cases hl : xs.length = ys.length
  · have HL := Lib.hid hl
    have hne : ((xs.length : Int) != ys.length) = false := by simp [hl]
    clear hl
    go_enter Try.func82, Try.ntmps82
    go_wp2
    go_loopw [4, 5] (fun _ s wr => ∃ k : Nat, k ≤ xs.length ∧ s = .int .i64 k ∧ Hid (∀ j, j < k → xs.getD j 0 = ys.getD j 0) ∧ ∃ n, wr = w.drewN n) (fun _ s _ => xs.length - (intOf s).toNat)
    case atStart => exact ⟨0, Nat.zero_le _, rfl, Lib.hid fun j hj => by omega, 0, rfl⟩
    case round =>
      obtain ⟨k, hk, rfl, HA, nd, rfl⟩ := hrel
      by_cases hlt : k < xs.length
      · rcases h4 with ⟨rfl, -⟩ | ⟨b, o, rfl, hb, hcell⟩
        · simp at hlt
        rcases h4' with ⟨rfl, -⟩ | ⟨b', o', rfl, hb', hcell'⟩
        · have := HL.out; simp at this; simp [this] at hlt
        have hlt' : k < ys.length := by have := HL.out; omega
        have h1 := hcell k hlt
        have h1' := hcell' k hlt'
        obtain ⟨x, hx⟩ : ∃ y, xs.getD k 0 = y := ⟨_, rfl⟩
        obtain ⟨y, hy⟩ : ∃ z, ys.getD k 0 = z := ⟨_, rfl⟩
        rw [hx] at h1
        rw [hy] at h1'
        have HX := Lib.hid hx
        have HY := Lib.hid hy
        have i0 : (0 : Int) ≤ (k : Int) := by omega
        have i1 : (k : Int) < (xs.length : Int) := by omega
        have i2 : (k : Int) < (ys.length : Int) := by omega
        clear hcell hcell' hx hy
        cases hxy : (x != y)
        · go_wp2_with fail
          go_quiet (fail)
          go_wp2
          go_roundw
          case rel =>
            refine ⟨k + 1, by omega, by go_num, Lib.hid fun j hj => ?_, _, rfl⟩
            by_cases e : j = k
            · subst e; rw [HX.out, HY.out]; simpa using hxy
            · exact HA.out j (by omega)
          case measure => simp [intOf]; omega
        · go_wp2_with fail
          go_quiet (fail)
          go_wp2
          go_ret
          exact ⟨ret_bool (by rw [eq_comm, decide_eq_false_iff_not]; exact list_ne (k := k) (by rw [HX.out, HY.out]; simpa using hxy)), below_drewN (below_drewN (Below.refl _ _) _) _⟩
      · obtain rfl : k = xs.length := by omega
        go_wp2
        go_ret
        exact ⟨ret_bool (by rw [eq_comm, decide_eq_true_eq]; exact list_eq HL.out HA.out), below_drewN (Below.refl _ _) _⟩
  · have hne : ((xs.length : Int) != ys.length) = true := by simp; omega
    have HL := Lib.hid (show xs ≠ ys from fun e => hl (by rw [e]))
    clear hl
    go_enter Try.func82, Try.ntmps82
    go_wp2
    go_ret
    exact ⟨ret_bool (by rw [eq_comm, decide_eq_false_iff_not]; exact HL.out), Below.refl _ _⟩

end Go.Proofs.Ytfgfoikcpijjdaa
