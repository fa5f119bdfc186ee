/-
  Contracts: l3SameNode, l3Same of the reference.
-/
import Derived.Test.YtnoamohpkngbdaaBase
import Derived.Test.YtnoamohpkngbdaaPlain
namespace Go.Proofs.Ytnoamohpkngbdaa
open Go.RowKit

set_option maxHeartbeats 1000000 in
theorem l3SameNode_any (i1 i2 b1 b2 : Int) (A1 A2 : List Int) (va vb : Value) (w : World) (ha : IntsAt w va A1) (hb : IntsAt w vb A2) :
    Calls Try.prog 84 #[.agg #[.int .i64 i1, .int .i64 b1, va], .agg #[.int .i64 i2, .int .i64 b2, vb]] w fun e w' => e = .returned (.bool (decide ((⟨i1, b1, A1⟩ : Nd) = ⟨i2, b2, A2⟩))) ∧ Below w.heap.size w w' := by
  have HA := Lib.hid ha
  have HB := Lib.hid hb
  obtain ⟨pa, capa, rfl, hca, hma, ha4⟩ := ha
  obtain ⟨pb, capb, rfl, hcb, hmb, hb4⟩ := hb
  unfold maxLen at hma hmb
  obtain ⟨l1, hl1⟩ : ∃ x, A1.length = x := ⟨_, rfl⟩
  obtain ⟨l2, hl2⟩ : ∃ x, A2.length = x := ⟨_, rfl⟩
  rw [hl1] at hca
  rw [hl2] at hcb
  rw [hl1, hl2]
  have HL1 := Lib.hid hl1
  have HL2 := Lib.hid hl2
  clear hl1 hl2
  have hB0 := (((Below.refl w.heap.size w).alloc (Nat.le_refl _) (.cells #[.int .i64 i1, .int .i64 b1, .slice pa l1 capa] 35)).alloc (by simp) (.cells #[.int .i64 i2, .int .i64 b2, .slice pb l2 capb] 35))
  have HE := Lib.hid (show decide ((⟨i1, b1, A1⟩ : Nd) = ⟨i2, b2, A2⟩) = (decide (i1 = i2) && decide (b1 = b2) && decide (A1 = A2)) by
    rw [Bool.eq_iff_iff]; simp [and_assoc])
  rw [HE.out]
  obtain h1 | h1 : (i1 != i2) = true ∨ (i1 != i2) = false := by cases (i1 != i2) <;> simp
  · have H1 := Lib.hid (show decide (i1 = i2) = false by simpa using h1)
    rw [H1.out]
    go_enter Try.func84, Try.ntmps84
    go_wp2
    go_ret
    exact ⟨rfl, hB0⟩
  have H1 := Lib.hid (show decide (i1 = i2) = true by simpa using h1)
  rw [H1.out]
  obtain h2 | h2 : (b1 != b2) = true ∨ (b1 != b2) = false := by cases (b1 != b2) <;> simp
  · have H2 := Lib.hid (show decide (b1 = b2) = false by simpa using h2)
    rw [H2.out]
    go_enter Try.func84, Try.ntmps84
    go_wp2
    go_ret
    exact ⟨rfl, hB0⟩
  have H2 := Lib.hid (show decide (b1 = b2) = true by simpa using h2)
  rw [H2.out]
  obtain h3 | h3 : ((l1 : Int) != (l2 : Int)) = true ∨ ((l1 : Int) != (l2 : Int)) = false := by cases ((l1 : Int) != (l2 : Int)) <;> simp
  · have H3 := Lib.hid (show decide (A1 = A2) = false by
      rw [decide_eq_false_iff_not]; intro e
      have a := HL1.out
      have b := HL2.out
      rw [e] at a
      simp at h3
      omega)
    rw [H3.out]
    go_enter Try.func84, Try.ntmps84
    go_wp2
    go_ret
    exact ⟨rfl, hB0⟩
  have H3 := Lib.hid (show l1 = l2 by simp at h3; omega)
  go_enter Try.func84, Try.ntmps84
  go_wp2
  go_loopw [4, 5] (fun _ q wr => ∃ k : Nat, k ≤ l1 ∧ q = .int .i64 k ∧ Hid (∀ j, j < k → A1.getD j 0 = A2.getD j 0) ∧ Below w.heap.size w wr ∧ wr.cell? ⟨w.heap.size, 2, none⟩ = some (.slice pa l1 capa) ∧ wr.cell? ⟨w.heap.size + 1, 2, none⟩ = some (.slice pb l2 capb)) (fun _ q _ => l1 - (intOf q).toNat)
  case atStart => exact ⟨0, Nat.zero_le _, rfl, Lib.hid fun j hj => by omega, hB0, by simp, by simp⟩
  case round =>
    obtain ⟨k, hk, rfl, HAll, hbel, c1, c2⟩ := hrel
    by_cases hlt : k < l1
    · have hlt1 : k < A1.length := by have := HL1.out; omega
      have hlt2 : k < A2.length := by have := HL2.out; have := H3.out; omega
      rcases ha4 with ⟨rfl, -⟩ | ⟨b, o, rfl, hb, hcell⟩
      · simp at hlt1
      rcases hb4 with ⟨rfl, -⟩ | ⟨b', o', rfl, hb', hcell'⟩
      · simp at hlt2
      have d1 := (hbel.cell (p := ⟨b, o + k, none⟩) hb).trans (hcell k hlt1)
      have d2 := (hbel.cell (p := ⟨b', o' + k, none⟩) hb').trans (hcell' k hlt2)
      obtain ⟨x, hx⟩ : ∃ x, A1.getD k 0 = x := ⟨_, rfl⟩
      obtain ⟨y, hy⟩ : ∃ x, A2.getD k 0 = x := ⟨_, rfl⟩
      rw [hx] at d1
      rw [hy] at d2
      have HX := Lib.hid hx
      have HY := Lib.hid hy
      have j0 : (0 : Int) ≤ (k : Int) := by omega
      have j1 : (k : Int) < (l1 : Int) := by omega
      have j2 : (k : Int) < (l2 : Int) := by have := H3.out; omega
      clear hcell hcell' hx hy h1 h2 h3
      obtain h5 | h5 : (x != y) = true ∨ (x != y) = false := by cases (x != y) <;> simp
      · go_wp2_with fail
        go_quiet (fail)
        go_wp2
        go_ret
        exact ⟨ret_bool (by rw [eq_comm, Bool.true_and, Bool.true_and, decide_eq_false_iff_not]; intro e; have a := HX.out; have b := HY.out; rw [e, b] at a; simp [a] at h5), below_drewN hbel _⟩
      · go_wp2_with fail
        go_quiet (fail)
        go_wp2
        go_roundw
        case rel =>
          refine ⟨k + 1, by omega, by go_num, Lib.hid fun j hj => ?_, below_drewN hbel _, by simpa using c1, by simpa using c2⟩
          by_cases e : j = k
          · subst e; rw [HX.out, HY.out]; simpa using h5
          · exact HAll.out j (by omega)
        case measure => simp [intOf]; omega
    · obtain rfl : k = l1 := by omega
      go_wp2
      go_ret
      exact ⟨ret_bool (by rw [eq_comm, Bool.true_and, Bool.true_and, decide_eq_true_eq]; exact ints_eq' (by rw [HL1.out, HL2.out, H3.out]) (by rw [HL1.out]; exact HAll.out)), hbel⟩

set_option maxHeartbeats 1000000 in
theorem l3Same_any (v u : Value) (r s : List Nd) (w : World) (hv : RingAt w v r) (hu : RingAt w u s) :
    Calls Try.prog 65 #[v, u] w fun e w' => e = .returned (.bool (decide (r = s))) ∧ Below w.heap.size w w' := by
  obtain ⟨p, cap, rfl, hc, hm, h4⟩ := hv
  obtain ⟨p', cap', rfl, hc', hm', h4'⟩ := hu
  unfold maxLen at hm hm'
  by_cases hl : r.length = s.length
  · have HL := Lib.hid hl
    have hne : ((r.length : Int) != s.length) = false := by simp [hl]
    clear hl
    go_enter Try.func65, Try.ntmps65
    go_wp2
    go_loopw [4, 5] (fun _ q wr => ∃ k : Nat, k ≤ r.length ∧ q = .int .i64 k ∧ Hid (∀ j, j < k → r.getD j default = s.getD j default) ∧ Below w.heap.size w wr) (fun _ q _ => r.length - (intOf q).toNat)
    case atStart => exact ⟨0, Nat.zero_le _, rfl, Lib.hid fun j hj => by omega, Below.refl _ _⟩
    case round =>
      obtain ⟨k, hk, rfl, HA, hbel⟩ := hrel
      by_cases hlt : k < r.length
      · rcases h4 with ⟨rfl, -⟩ | ⟨b, o, rfl, hb, hcell⟩
        · simp at hlt
        rcases h4' with ⟨rfl, -⟩ | ⟨b', o', rfl, hb', hcell'⟩
        · have := HL.out; simp at this; simp [this] at hlt
        have hlt' : k < s.length := by have := HL.out; omega
        obtain ⟨x1, x2, va, x3, hia⟩ := (hcell k hlt).below hb hbel (Nat.le_refl _)
        obtain ⟨y1, y2, vb, y3, hib⟩ := (hcell' k hlt').below hb' hbel (Nat.le_refl _)
        obtain ⟨n, hn⟩ : ∃ y, r.getD k default = y := ⟨_, rfl⟩
        obtain ⟨m, hmm⟩ : ∃ y, s.getD k default = y := ⟨_, rfl⟩
        rw [hn] at x1 x2 hia
        rw [hmm] at y1 y2 hib
        have HX := Lib.hid hn
        have HY := Lib.hid hmm
        have HIA := Lib.hid hia
        have HIB := Lib.hid hib
        obtain ⟨pa, capa, rfl, -, -, -⟩ := hia
        obtain ⟨pb, capb, rfl, -, -, -⟩ := hib
        have i0 : (0 : Int) ≤ (k : Int) := by omega
        have i1 : (k : Int) < (r.length : Int) := by omega
        have i2 : (k : Int) < (s.length : Int) := by omega
        have hsz : w.heap.size ≤ wr.heap.size := hbel.size
        have hbw : b < wr.heap.size := Nat.lt_of_lt_of_le hb hsz
        have hbw' : b' < wr.heap.size := Nat.lt_of_lt_of_le hb' hsz
        clear hcell hcell' hn hmm
        cases hxy : decide (n = m)
        all_goals
          have HXY := Lib.hid hxy
          clear hxy
          go_wp2_with fail
          go_region_held3 (fun w' => w'.cell? ⟨b, o + k * 3, none⟩ = some (.int .i64 n.id) ∧ w'.cell? ⟨b, o + k * 3 + 1, none⟩ = some (.int .i64 n.before) ∧ w'.cell? ⟨b, o + k * 3 + 2, none⟩ = some (.slice pa n.after.length capa) ∧ w'.cell? ⟨b', o' + k * 3, none⟩ = some (.int .i64 m.id) ∧ w'.cell? ⟨b', o' + k * 3 + 1, none⟩ = some (.int .i64 m.before) ∧ w'.cell? ⟨b', o' + k * 3 + 2, none⟩ = some (.slice pb m.after.length capb)) (go_keep)
            (first
              | (go_at_call 84; refine (l3SameNode_any n.id m.id n.before m.before n.after m.after _ _ _ (by exact HIA.out) (by exact HIB.out)).mono ?_; rw [HXY.out]; rintro e w1 ⟨rfl, hb1⟩; have hcc : ∀ b' o', b' < wr.heap.size → w1.cell? ⟨b', o', none⟩ = wr.cell? ⟨b', o', none⟩ := fun b' o' h => hb1.cell (p := ⟨b', o', none⟩) h))
          have hb1' : Below wr.heap.size wr w1 := (Below.refl _ wr).drew.trans hb1
          clear hcc
          go_wp2
        · go_ret
          exact ⟨ret_bool (by rw [eq_comm, decide_eq_false_iff_not]; exact ring_ne' (k := k) (by rw [HX.out, HY.out]; have := HXY.out; simpa using this)), hbel.trans (hb1'.mono hsz)⟩
        · go_roundw
          case rel =>
            refine ⟨k + 1, by omega, by go_num, Lib.hid fun j hj => ?_, hbel.trans (hb1'.mono hsz)⟩
            by_cases e : j = k
            · subst e; rw [HX.out, HY.out]; have := HXY.out; simpa using this
            · exact HA.out j (by omega)
          case measure => simp [intOf]; omega
      · obtain rfl : k = r.length := by omega
        go_wp2
        go_ret
        exact ⟨ret_bool (by rw [eq_comm, decide_eq_true_eq]; exact ring_eq' HL.out HA.out), hbel⟩
  · have hne : ((r.length : Int) != s.length) = true := by simp; omega
    have HL := Lib.hid (show r ≠ s from fun e => hl (by rw [e]))
    clear hl
    go_enter Try.func65, Try.ntmps65
    go_wp2
    go_ret
    exact ⟨ret_bool (by rw [eq_comm, decide_eq_false_iff_not]; exact HL.out), Below.refl _ _⟩

end Go.Proofs.Ytnoamohpkngbdaa
