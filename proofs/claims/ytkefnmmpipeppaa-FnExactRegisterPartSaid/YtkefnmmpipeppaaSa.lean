/-
  Contract: spec.RegisterValid.
-/
import Derived.Test.YtkefnmmpipeppaaQc
namespace Go.Proofs.Ytkefnmmpipeppaa
open Go.RowKit

/-- The reference says it in other words. -/
theorem rAg_eq (x y : Tr) : (decide (y.a = x.a) && decide (y.b = x.b) && !decide (y.c = x.c)) = !rAg x y := by
  obtain ⟨a, b, c⟩ := x
  obtain ⟨a', b', c'⟩ := y
  unfold rAg rOlder
  rw [Bool.eq_iff_iff]
  simp only [Tr.mk.injEq, Bool.and_eq_true, Bool.not_eq_true', decide_eq_true_eq, decide_eq_false_iff_not, Bool.or_eq_false_iff, Bool.and_eq_false_iff]
  constructor <;> intro h
  · refine ⟨⟨⟨by omega, by omega⟩, ⟨by omega, by omega⟩⟩, by omega⟩
  · omega
set_option maxHeartbeats 2000000 in
theorem sReg_any (v : Value) (rs : List Tr) (w : World) (hv : TrsAt w v rs) :
    Calls Try.prog 39 #[v] w fun e w' => e = .returned (.bool (regB rs)) ∧ Below w.heap.size w w' := by
  obtain ⟨p, cap, rfl, hc, hm, h4⟩ := hv
  unfold maxLen at hm
  go_enter Try.func39, Try.ntmps39
  go_wp2
  go_loopg [2, 3, 4] (rs.length) (fun m _ i _ wr => ∃ k : Nat, k ≤ rs.length ∧ m = rs.length - k ∧ i = .int .i64 k ∧ Hid (allBelow (regAt rs) k = true) ∧ Below w.heap.size w wr)
  case atStart => exact ⟨0, Nat.zero_le _, rfl, rfl, Lib.hid rfl, Below.refl _ _⟩
  case round =>
    obtain ⟨k, hk, rfl, rfl, HA, hbel⟩ := hrel
    by_cases hlt : k < rs.length
    · rcases h4 with ⟨rfl, -⟩ | ⟨b, o, rfl, hb, hcell⟩
      · simp at hlt
      obtain ⟨c1, c2, c3⟩ := hcell k hlt
      have c1 := (hbel.cell (p := ⟨b, o + k * 3, none⟩) hb).trans c1
      have c2 := (hbel.cell (p := ⟨b, o + k * 3 + 1, none⟩) hb).trans c2
      have c3 := (hbel.cell (p := ⟨b, o + k * 3 + 2, none⟩) hb).trans c3
      obtain ⟨x, hx⟩ : ∃ y, rs.getD k default = y := ⟨_, rfl⟩
      rw [hx] at c1 c2 c3
      have HX := Lib.hid hx
      have HC := Lib.hid hcell
      have HB := Lib.hid hbel
      have i0 : (0 : Int) ≤ (k : Int) := by omega
      have i1 : (k : Int) < (rs.length : Int) := by omega
      clear hx hcell hbel
      cases ho : rOk x
      · have HO := Lib.hid ho
        clear ho
        go_wp2_with (go_at_call 41; with_reducible refine (sRep_any x _).mono ?_; rw [HO.out]; rintro e w1 ⟨rfl, hb1⟩)
        go_ret
        refine ⟨ret_bool ?_, HB.out.trans (hb1.mono HB.out.size)⟩
        have : regAt rs k = false := by unfold regAt; rw [HX.out, HO.out]; rfl
        rw [regB, allBelow_false hlt this, Bool.and_false]
      · have HO := Lib.hid ho
        clear ho
        go_wp2_with (go_at_call 41; with_reducible refine (sRep_any x _).mono ?_; rw [HO.out]; rintro e w1 ⟨rfl, hb1⟩)
        have HB1 := Lib.hid (HB.out.trans (hb1.mono HB.out.size))
        have hbs : b < w1.heap.size := Nat.lt_of_lt_of_le hb HB1.out.size
        have c1 := (hb1.cell (p := ⟨b, o + k * 3, none⟩) (Nat.lt_of_lt_of_le hb HB.out.size)).trans c1
        have c2 := (hb1.cell (p := ⟨b, o + k * 3 + 1, none⟩) (Nat.lt_of_lt_of_le hb HB.out.size)).trans c2
        have c3 := (hb1.cell (p := ⟨b, o + k * 3 + 2, none⟩) (Nat.lt_of_lt_of_le hb HB.out.size)).trans c3
        have HC1 := Lib.hid c1
        have HC2 := Lib.hid c2
        have HC3 := Lib.hid c3
        clear c1 c2 c3
        go_loopg [2, 4] k (fun m _ j wx => ∃ q : Nat, q ≤ k ∧ m = k - q ∧ j = .int .i64 q ∧ Hid (allBelow (fun j => rAg x (rs.getD j default)) q = true) ∧ Below w1.heap.size w1 wx)
        case atStart => exact ⟨0, Nat.zero_le _, rfl, rfl, Lib.hid rfl, Below.refl _ _⟩
        case round =>
          obtain ⟨q, hq, rfl, rfl, HA2, hbx⟩ := hrel
          have HBX := Lib.hid hbx
          have hbw := HB1.out.trans (hbx.mono HB1.out.size)
          have HBW := Lib.hid hbw
          by_cases hlq : q < k
          · obtain ⟨d1, d2, d3⟩ := HC.out q (by omega)
            have d1 := (hbw.cell (p := ⟨b, o + q * 3, none⟩) hb).trans d1
            have d2 := (hbw.cell (p := ⟨b, o + q * 3 + 1, none⟩) hb).trans d2
            have d3 := (hbw.cell (p := ⟨b, o + q * 3 + 2, none⟩) hb).trans d3
            have c1 := (hbx.cell (p := ⟨b, o + k * 3, none⟩) hbs).trans HC1.out
            have c2 := (hbx.cell (p := ⟨b, o + k * 3 + 1, none⟩) hbs).trans HC2.out
            have c3 := (hbx.cell (p := ⟨b, o + k * 3 + 2, none⟩) hbs).trans HC3.out
            obtain ⟨y, hy⟩ : ∃ y, rs.getD q default = y := ⟨_, rfl⟩
            rw [hy] at d1 d2 d3
            have HY := Lib.hid hy
            have HR := Lib.hid (rAg_eq x y)
            have j0 : (0 : Int) ≤ (q : Int) := by omega
            have j1 : (q : Int) < (k : Int) := by omega
            have j2 : (q : Int) < (rs.length : Int) := by omega
            clear hy hbx hbw
            go_wp2_with fail
            go_cut [58] (fun s wx => ∃ c, s = .bool c ∧ Hid (c = !rAg x y) ∧ ∃ nq, wx = wr.drewN nq)
            case first =>
              refine wp_region_quiet_lit (by kernel_rfl) (by kernel_rfl) ?_
              repeat (any_goals (first | go_big_quiet_step (fail) | quiet_step (fail) | (refine wpQuiet_step (fun K hK => ?_); go_simp; split <;> (refine hK _ ?_; clear hK K))))
              all_goals
                refine wpQuiet_nil ?_
                intro _ hw'
                obtain ⟨nq, hw''⟩ := hw'
                subst hw''
                go_wp2
                go_meet
                refine ⟨_, rfl, Lib.hid ?_, nq, rfl⟩
                rw [← HR.out]
                first | (simp [*]; done) | (simp [*]; omega) | (simp [*]; rw [Bool.eq_iff_iff]; simp; done) | (simp [*]; rw [Bool.eq_iff_iff]; simp; omega)
            case rest =>
              obtain ⟨c, rfl, hcc, nq, rfl⟩ := hcut
              have HB2 := Lib.hid (below_drewN HBX.out nq)
              have HB3 := Lib.hid (below_drewN HBW.out nq)
              cases c
              rotate_left
              · go_wp2
                go_ret
                refine ⟨ret_bool ?_, HB3.out⟩
                have h1 : rAg x y = false := by have := hcc.out; simpa using this
                have h2 : regAt rs k = false := by unfold regAt; rw [HX.out, allBelow_false hlq (by rw [HY.out]; exact h1), Bool.and_false]
                rw [regB, allBelow_false hlt h2, Bool.and_false]
              · go_wp2
                go_roundg (k - (q + 1))
                case rel => exact ⟨q + 1, by omega, rfl, by go_num, Lib.hid (allBelow_succ HA2.out (by simp only [HY.out]; have := hcc.out; simpa using this)), HB2.out⟩
                case measure => omega
          · obtain rfl : q = k := by omega
            go_wp2
            go_roundg (rs.length - (q + 1))
            case rel => exact ⟨q + 1, by omega, rfl, by go_num, Lib.hid (allBelow_succ HA.out (by unfold regAt; rw [HX.out, HO.out, HA2.out]; rfl)), HBW.out⟩
            case measure => omega
    · obtain rfl : k = rs.length := by omega
      go_wp2_with (go_at_call 51; refine (l6In_any _ _ _ _).mono ?_; rintro e w1 ⟨rfl, rfl⟩)
      go_ret
      exact ⟨ret_bool (by rw [regB, HA.out, Bool.and_true]), hbel⟩
end Go.Proofs.Ytkefnmmpipeppaa
