/-
  Contracts: equality of rings, in the exact laws.
-/
import Derived.Test.YtfgfoikcpijjdaaLawSz
namespace Go.Proofs.Ytfgfoikcpijjdaa
open Go.RowKit

set_option maxHeartbeats 1000000 in
theorem eqNode_any (n m : Nd) (va vb : Value) (w : World) (ha : IntsAt w va n.after) (hb : IntsAt w vb m.after) :
    Calls Try.prog 45 #[.agg #[.int .i64 n.id, .int .i64 n.before, va], .agg #[.int .i64 m.id, .int .i64 m.before, vb]] w fun e w' => e = .returned (.bool (decide (n = m))) ∧ Below w.heap.size w w' := by
  have HA := Lib.hid ha
  have HB := Lib.hid hb
  obtain ⟨pa, capa, rfl, -, -, -⟩ := ha
  obtain ⟨pb, capb, rfl, -, -, -⟩ := hb
  have hB0 := (((Below.refl w.heap.size w).alloc (Nat.le_refl _) (.cells #[.int .i64 n.id, .int .i64 n.before, .slice pa n.after.length capa] 41)).alloc (by simp) (.cells #[.int .i64 m.id, .int .i64 m.before, .slice pb m.after.length capb] 41))
  have HE := Lib.hid (show decide (n = m) = (decide (n.id = m.id) && decide (n.before = m.before) && decide (n.after = m.after)) by
    rw [Bool.eq_iff_iff]; cases n; cases m; simp [and_assoc])
  rw [HE.out]
  cases h1 : (n.id != m.id)
  · cases h2 : (n.before != m.before)
    · cases h3 : decide (n.after = m.after)
      all_goals
        have H1 := Lib.hid (show decide (n.id = m.id) = true by simpa using h1)
        have H2 := Lib.hid (show decide (n.before = m.before) = true by simpa using h2)
        have H3 := Lib.hid h3
        rw [H1.out, H2.out]
        clear h3
        go_enter Try.func45, Try.ntmps45
        go_wp2_with (go_at_call 82; refine (eqIntS_any _ _ n.after m.after _ (by exact HA.out.below hB0 (Nat.le_refl _)) (by exact HB.out.below hB0 (Nat.le_refl _))).mono ?_; rw [H3.out]; rintro e w1 ⟨rfl, hb1⟩)
        go_ret
        exact ⟨rfl, hB0.trans (hb1.mono hB0.size)⟩
    · have H1 := Lib.hid (show decide (n.id = m.id) = true by simpa using h1)
      have H2 := Lib.hid (show decide (n.before = m.before) = false by simpa using h2)
      rw [H1.out, H2.out]
      go_enter Try.func45, Try.ntmps45
      go_wp2
      go_ret
      exact ⟨rfl, hB0⟩
  · have H1 := Lib.hid (show decide (n.id = m.id) = false by simpa using h1)
    rw [H1.out]
    go_enter Try.func45, Try.ntmps45
    go_wp2
    go_ret
    exact ⟨rfl, hB0⟩

theorem ring_ne {r s : List Nd} {k : Nat} (h : r.getD k default ≠ s.getD k default) : r ≠ s := fun e => h (by rw [e])
theorem ring_eq {r s : List Nd} (hl : r.length = s.length) (h : ∀ j, j < r.length → r.getD j default = s.getD j default) : r = s := by
  apply List.ext_getElem hl
  intro i h1 h2
  have := h i h1
  simpa [h1, h2] using this

set_option maxHeartbeats 1000000 in
theorem eqNodeS_any (v u : Value) (r s : List Nd) (w : World) (hv : RingAt w v r) (hu : RingAt w u s) :
    Calls Try.prog 16 #[v, u] w fun e w' => e = .returned (.bool (decide (r = s))) ∧ Below w.heap.size w w' := by
  obtain ⟨p, cap, rfl, hc, hm, h4⟩ := hv
  obtain ⟨p', cap', rfl, hc', hm', h4'⟩ := hu
  unfold maxLen at hm hm'
  by_cases hl : r.length = s.length
  · have HL := Lib.hid hl
    have hne : ((r.length : Int) != s.length) = false := by simp [hl]
    clear hl
    go_enter Try.func16, Try.ntmps16
    go_wp2
    go_loopw [4, 5] (fun _ q wr => ∃ k : Nat, k ≤ r.length ∧ q = .int .i64 k ∧ Hid (∀ j, j < k → r.getD j default = s.getD j default) ∧ Below w.heap.size w wr) (fun _ q _ => r.length - (intOf q).toNat)
    case atStart => exact ⟨0, Nat.zero_le _, rfl, Lib.hid fun j hj => by omega, Below.refl _ _⟩
    case round =>
      obtain ⟨k, hk, rfl, HA, hbel⟩ := hrel
      by_cases hlt : k < r.length
      · rcases h4 with ⟨rfl, -⟩ | ⟨b, o, rfl, hb, hcell⟩
        · simp at hlt
        rcases h4' with ⟨rfl, -⟩ | ⟨b', o', rfl, hb', hcell'⟩
        · have := HL.out; simp at this; simp [this] at hlt
        have hlt' : k < s.length := by have := HL.out; omega
        obtain ⟨x1, x2, va, x3, hia⟩ := (hcell k hlt).below hb hbel (Nat.le_refl _)
        obtain ⟨y1, y2, vb, y3, hib⟩ := (hcell' k hlt').below hb' hbel (Nat.le_refl _)
        obtain ⟨n, hn⟩ : ∃ y, r.getD k default = y := ⟨_, rfl⟩
        obtain ⟨m, hmm⟩ : ∃ y, s.getD k default = y := ⟨_, rfl⟩
        rw [hn] at x1 x2 hia
        rw [hmm] at y1 y2 hib
        have HX := Lib.hid hn
        have HY := Lib.hid hmm
        have HIA := Lib.hid hia
        have HIB := Lib.hid hib
        obtain ⟨pa, capa, rfl, -, -, -⟩ := hia
        obtain ⟨pb, capb, rfl, -, -, -⟩ := hib
        have i0 : (0 : Int) ≤ (k : Int) := by omega
        have i1 : (k : Int) < (r.length : Int) := by omega
        have i2 : (k : Int) < (s.length : Int) := by omega
        have hsz : w.heap.size ≤ wr.heap.size := hbel.size
        have hbw : b < wr.heap.size := Nat.lt_of_lt_of_le hb hsz
        have hbw' : b' < wr.heap.size := Nat.lt_of_lt_of_le hb' hsz
        clear hcell hcell' hn hmm
        cases hxy : decide (n = m)
        all_goals
          have HXY := Lib.hid hxy
          clear hxy
          go_wp2_with fail
          go_region_held3 (fun w' => w'.cell? ⟨b, o + k * 3, none⟩ = some (.int .i64 n.id) ∧ w'.cell? ⟨b, o + k * 3 + 1, none⟩ = some (.int .i64 n.before) ∧ w'.cell? ⟨b, o + k * 3 + 2, none⟩ = some (.slice pa n.after.length capa) ∧ w'.cell? ⟨b', o' + k * 3, none⟩ = some (.int .i64 m.id) ∧ w'.cell? ⟨b', o' + k * 3 + 1, none⟩ = some (.int .i64 m.before) ∧ w'.cell? ⟨b', o' + k * 3 + 2, none⟩ = some (.slice pb m.after.length capb)) (go_keep)
            (first
              | (go_at_call 45; refine (eqNode_any n m _ _ _ (by exact HIA.out) (by exact HIB.out)).mono ?_; rw [HXY.out]; rintro e w1 ⟨rfl, hb1⟩; have hcc : ∀ b' o', b' < wr.heap.size → w1.cell? ⟨b', o', none⟩ = wr.cell? ⟨b', o', none⟩ := fun b' o' h => hb1.cell (p := ⟨b', o', none⟩) h))
          have hb1' : Below wr.heap.size wr w1 := (Below.refl _ wr).drew.trans hb1
          clear hcc
          go_wp2
        · go_ret
          exact ⟨ret_bool (by rw [eq_comm, decide_eq_false_iff_not]; exact ring_ne (k := k) (by rw [HX.out, HY.out]; have := HXY.out; simpa using this)), hbel.trans (hb1'.mono hsz)⟩
        · go_roundw
          case rel =>
            refine ⟨k + 1, by omega, by go_num, Lib.hid fun j hj => ?_, hbel.trans (hb1'.mono hsz)⟩
            by_cases e : j = k
            · subst e; rw [HX.out, HY.out]; have := HXY.out; simpa using this
            · exact HA.out j (by omega)
          case measure => simp [intOf]; omega
      · obtain rfl : k = r.length := by omega
        go_wp2
        go_ret
        exact ⟨ret_bool (by rw [eq_comm, decide_eq_true_eq]; exact ring_eq HL.out HA.out), hbel⟩
  · have hne : ((r.length : Int) != s.length) = true := by simp; omega
    have HL := Lib.hid (show r ≠ s from fun e => hl (by rw [e]))
    clear hl
    go_enter Try.func16, Try.ntmps16
    go_wp2
    go_ret
    exact ⟨ret_bool (by rw [eq_comm, decide_eq_false_iff_not]; exact HL.out), Below.refl _ _⟩

end Go.Proofs.Ytfgfoikcpijjdaa
