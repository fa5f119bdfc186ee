/-
  Contracts: sameRing and idsOf of the program.
-/
import Derived.Test.YtnoamohpkngbdaaSSame
namespace Go.Proofs.Ytnoamohpkngbdaa
open Go.RowKit

set_option maxHeartbeats 1000000 in
theorem slicesEqual_any (va vb : Value) (A1 A2 : List Int) (w : World) (ha : IntsAt w va A1) (hb : IntsAt w vb A2) :
    Calls Try.prog 74 #[va, vb] w fun e w' => e = .returned (.bool (decide (A1 = A2))) ∧ Below w.heap.size w w' := by
  obtain ⟨pa, capa, rfl, hca, hma, ha4⟩ := ha
  obtain ⟨pb, capb, rfl, hcb, hmb, hb4⟩ := hb
  unfold maxLen at hma hmb
  by_cases hl : A1.length = A2.length
  · have HL := Lib.hid hl
    have hne : ((A1.length : Int) != A2.length) = false := by simp [hl]
    clear hl
    go_enter Try.func74, Try.ntmps74
    go_wp2
    go_loopw [4, 5, 13] (fun _ _ q wr => ∃ k : Nat, k ≤ A1.length ∧ q = .int .i64 k ∧ Hid (∀ j, j < k → A1.getD j 0 = A2.getD j 0) ∧ Below w.heap.size w wr) (fun _ _ q _ => A1.length - (intOf q).toNat)
    case atStart => exact ⟨0, Nat.zero_le _, rfl, Lib.hid fun j hj => by omega, Below.refl _ _⟩
    case round =>
      obtain ⟨k, hk, rfl, HAll, hbel⟩ := hrel
      by_cases hlt : k < A1.length
      · have hlt2 : k < A2.length := by have := HL.out; omega
        rcases ha4 with ⟨rfl, -⟩ | ⟨b, o, rfl, hb, hcell⟩
        · simp at hlt
        rcases hb4 with ⟨rfl, -⟩ | ⟨b', o', rfl, hb', hcell'⟩
        · simp at hlt2
        have d1 := (hbel.cell (p := ⟨b, o + k, none⟩) hb).trans (hcell k hlt)
        have d2 := (hbel.cell (p := ⟨b', o' + k, none⟩) hb').trans (hcell' k hlt2)
        obtain ⟨x, hx⟩ : ∃ x, A1.getD k 0 = x := ⟨_, rfl⟩
        obtain ⟨y, hy⟩ : ∃ x, A2.getD k 0 = x := ⟨_, rfl⟩
        rw [hx] at d1
        rw [hy] at d2
        have HX := Lib.hid hx
        have HY := Lib.hid hy
        have j0 : (0 : Int) ≤ (k : Int) := by omega
        have j1 : (k : Int) < (A1.length : Int) := by omega
        have j2 : (k : Int) < (A2.length : Int) := by omega
        clear hcell hcell' hx hy
        obtain h5 | h5 : (x != y) = true ∨ (x != y) = false := by cases (x != y) <;> simp
        · go_wp2_with fail
          go_quiet (fail)
          go_wp2
          go_ret
          exact ⟨ret_bool (by rw [eq_comm, decide_eq_false_iff_not]; intro e; have a := HX.out; have b := HY.out; rw [e, b] at a; simp [a] at h5), below_drewN hbel _⟩
        · go_wp2_with fail
          go_quiet (fail)
          go_wp2
          go_roundw
          case rel =>
            refine ⟨k + 1, by omega, by go_num, Lib.hid fun j hj => ?_, below_drewN hbel _⟩
            by_cases e : j = k
            · subst e; rw [HX.out, HY.out]; simpa using h5
            · exact HAll.out j (by omega)
          case measure => simp [intOf]; omega
      · obtain rfl : k = A1.length := by omega
        go_wp2
        go_ret
        exact ⟨ret_bool (by rw [eq_comm, decide_eq_true_eq]; exact ints_eq' HL.out HAll.out), hbel⟩
  · have hne : ((A1.length : Int) != A2.length) = true := by simp; omega
    have HL := Lib.hid (show A1 ≠ A2 from fun e => hl (by rw [e]))
    clear hl
    go_enter Try.func74, Try.ntmps74
    go_wp2
    go_ret
    exact ⟨ret_bool (by rw [eq_comm, decide_eq_false_iff_not]; exact HL.out), Below.refl _ _⟩

set_option maxHeartbeats 1000000 in
theorem sameRingF_any (i1 i2 b1 b2 : Int) (A1 A2 : List Int) (va vb : Value) (w : World) (ha : IntsAt w va A1) (hb : IntsAt w vb A2) :
    Calls Try.prog 73 #[.agg #[.int .i64 i1, .int .i64 b1, va], .agg #[.int .i64 i2, .int .i64 b2, vb]] w fun e w' => e = .returned (.bool (decide ((⟨i1, b1, A1⟩ : Nd) = ⟨i2, b2, A2⟩))) ∧ Below w.heap.size w w' := by
  have HA := Lib.hid ha
  have HB := Lib.hid hb
  obtain ⟨pa, capa, rfl, hca, hma, ha4⟩ := ha
  obtain ⟨pb, capb, rfl, hcb, hmb, hb4⟩ := hb
  have hB0 := (((Below.refl w.heap.size w).alloc (Nat.le_refl _) (.cells #[.int .i64 i1, .int .i64 b1, .slice pa A1.length capa] 35)).alloc (by simp) (.cells #[.int .i64 i2, .int .i64 b2, .slice pb A2.length capb] 35))
  have HE := Lib.hid (show decide ((⟨i1, b1, A1⟩ : Nd) = ⟨i2, b2, A2⟩) = (decide (i1 = i2) && decide (b1 = b2) && decide (A1 = A2)) by
    rw [Bool.eq_iff_iff]; simp [and_assoc])
  rw [HE.out]
  obtain h1 | h1 : (i1 == i2) = false ∨ (i1 == i2) = true := by cases (i1 == i2) <;> simp
  · have H1 := Lib.hid (show decide (i1 = i2) = false by simpa using h1)
    rw [H1.out]
    go_enter Try.func73, Try.ntmps73
    go_wp2
    go_ret
    exact ⟨rfl, hB0⟩
  have H1 := Lib.hid (show decide (i1 = i2) = true by simpa using h1)
  rw [H1.out]
  obtain h2 | h2 : (b1 == b2) = false ∨ (b1 == b2) = true := by cases (b1 == b2) <;> simp
  · have H2 := Lib.hid (show decide (b1 = b2) = false by simpa using h2)
    rw [H2.out]
    go_enter Try.func73, Try.ntmps73
    go_wp2
    go_ret
    exact ⟨rfl, hB0⟩
  have H2 := Lib.hid (show decide (b1 = b2) = true by simpa using h2)
  rw [H2.out]
  cases h3 : decide (A1 = A2)
  all_goals
    have H3 := Lib.hid h3
    clear h3
    go_enter Try.func73, Try.ntmps73
    go_wp2_with (first | (go_at_call 74; refine (slicesEqual_any _ _ A1 A2 _ (by exact HA.out.below hB0 (Nat.le_refl _)) (by exact HB.out.below hB0 (Nat.le_refl _))).mono ?_; rw [H3.out]; rintro e w1 ⟨rfl, hb1⟩))
    go_ret
    exact ⟨rfl, hB0.trans (hb1.mono hB0.size)⟩

set_option maxHeartbeats 1000000 in
theorem equalFunc_any (v u : Value) (r s : List Nd) (w : World) (hv : RingAt w v r) (hu : RingAt w u s) :
    Calls Try.prog 72 #[v, u, .func (.func 73) #[] #[]] w fun e w' => e = .returned (.bool (decide (r = s))) ∧ Below w.heap.size w w' := by
  obtain ⟨p, cap, rfl, hc, hm, h4⟩ := hv
  obtain ⟨p', cap', rfl, hc', hm', h4'⟩ := hu
  unfold maxLen at hm hm'
  by_cases hl : r.length = s.length
  · have HL := Lib.hid hl
    have hne : ((r.length : Int) != s.length) = false := by simp [hl]
    clear hl
    go_enter Try.func72, Try.ntmps72
    go_wp2
    go_loopw [6, 7, 8, 9, 17] (fun _ _ _ _ q wr => ∃ k : Nat, k ≤ r.length ∧ q = .int .i64 k ∧ Hid (∀ j, j < k → r.getD j default = s.getD j default) ∧ Below w.heap.size w wr) (fun _ _ _ _ q _ => r.length - (intOf q).toNat)
    case atStart => exact ⟨0, Nat.zero_le _, rfl, Lib.hid fun j hj => by omega, Below.refl _ _⟩
    case round =>
      obtain ⟨k, hk, rfl, HA, hbel⟩ := hrel
      by_cases hlt : k < r.length
      · rcases h4 with ⟨rfl, -⟩ | ⟨b, o, rfl, hb, hcell⟩
        · simp at hlt
        rcases h4' with ⟨rfl, -⟩ | ⟨b', o', rfl, hb', hcell'⟩
        · have := HL.out; simp at this; simp [this] at hlt
        have hlt' : k < s.length := by have := HL.out; omega
        obtain ⟨x1, x2, va, x3, hia⟩ := (hcell k hlt).below hb hbel (Nat.le_refl _)
        obtain ⟨y1, y2, vb, y3, hib⟩ := (hcell' k hlt').below hb' hbel (Nat.le_refl _)
        obtain ⟨n, hn⟩ : ∃ y, r.getD k default = y := ⟨_, rfl⟩
        obtain ⟨m, hmm⟩ : ∃ y, s.getD k default = y := ⟨_, rfl⟩
        rw [hn] at x1 x2 hia
        rw [hmm] at y1 y2 hib
        have HX := Lib.hid hn
        have HY := Lib.hid hmm
        have HIA := Lib.hid hia
        have HIB := Lib.hid hib
        obtain ⟨pa, capa, rfl, -, -, -⟩ := hia
        obtain ⟨pb, capb, rfl, -, -, -⟩ := hib
        have hsz : w.heap.size ≤ wr.heap.size := hbel.size
        have hbw : b < wr.heap.size := Nat.lt_of_lt_of_le hb hsz
        have hbw' : b' < wr.heap.size := Nat.lt_of_lt_of_le hb' hsz
        have hB2 := (((Below.refl wr.heap.size wr).alloc (Nat.le_refl _) (.cells #[.int .i64 n.id, .int .i64 n.before, .slice pa n.after.length capa] 35)).alloc (by simp) (.cells #[.int .i64 m.id, .int .i64 m.before, .slice pb m.after.length capb] 35))
        clear hcell hcell' hn hmm
        cases hxy : decide (n = m)
        all_goals
          have HXY := Lib.hid hxy
          clear hxy
          go_wp2_with (first | (go_at_call 73; refine (sameRingF_any n.id m.id n.before m.before n.after m.after _ _ _ (by exact HIA.out.below hB2 (Nat.le_refl _)) (by exact HIB.out.below hB2 (Nat.le_refl _))).mono ?_; rw [HXY.out]; rintro e w1 ⟨rfl, hb1⟩; have hb1' := hB2.trans (hb1.mono hB2.size)))
        · go_ret
          exact ⟨ret_bool (by rw [eq_comm, decide_eq_false_iff_not]; exact ring_ne' (k := k) (by rw [HX.out, HY.out]; have := HXY.out; simpa using this)), hbel.trans (hb1'.mono hsz)⟩
        · go_roundw
          case rel =>
            refine ⟨k + 1, by omega, by go_num, Lib.hid fun j hj => ?_, hbel.trans (hb1'.mono hsz)⟩
            by_cases e : j = k
            · subst e; rw [HX.out, HY.out]; have := HXY.out; simpa using this
            · exact HA.out j (by omega)
          case measure => simp [intOf]; omega
      · obtain rfl : k = r.length := by omega
        go_wp2
        go_ret
        exact ⟨ret_bool (by rw [eq_comm, decide_eq_true_eq]; exact ring_eq' HL.out HA.out), hbel⟩
  · have hne : ((r.length : Int) != s.length) = true := by simp; omega
    have HL := Lib.hid (show r ≠ s from fun e => hl (by rw [e]))
    clear hl
    go_enter Try.func72, Try.ntmps72
    go_wp2
    go_ret
    exact ⟨ret_bool (by rw [eq_comm, decide_eq_false_iff_not]; exact HL.out), Below.refl _ _⟩

theorem iSameRing_any (v u : Value) (r s : List Nd) (w : World) (hv : RingAt w v r) (hu : RingAt w u s) :
    Calls Try.prog 47 #[v, u] w fun e w' => e = .returned (.bool (decide (r = s))) ∧ Below w.heap.size w w' := by
  cases hd : decide (r = s)
  all_goals
    have HD := Lib.hid hd
    clear hd
    go_enter Try.func47, Try.ntmps47
    go_wp2_with (first | (go_at_call 72; refine (equalFunc_any _ _ r s _ hv hu).mono ?_; rw [HD.out]; rintro e w1 ⟨rfl, hb1⟩))
    go_ret
    exact ⟨rfl, hb1⟩

end Go.Proofs.Ytnoamohpkngbdaa
