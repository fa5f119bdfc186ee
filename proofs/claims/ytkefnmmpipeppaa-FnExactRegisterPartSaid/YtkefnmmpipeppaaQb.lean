/-
  Contracts: is a register valid?
-/
import Derived.Test.YtkefnmmpipeppaaQa
namespace Go.Proofs.Ytkefnmmpipeppaa
open Go.RowKit

/-- Two replicas agree: neither is of the other's version, or they are the same. -/
def rAg (x y : Tr) : Bool := rOlder x y || rOlder y x || decide (x = y)
def regAt (rs : List Tr) (i : Nat) : Bool := rOk (rs.getD i default) && allBelow (fun k => rAg (rs.getD i default) (rs.getD k default)) i
/-- A valid register. -/
def regB (rs : List Tr) : Bool := inR rs.length 1 5 && allBelow (regAt rs) rs.length

theorem eql_ab {P : Program} {T : TypeId} {x y : Tr} {c : Bool} (h : EqlT P T) (h0 : decide (x = y) = c) (w : World) : (Op.equalIn 10000 T (.agg #[.int .i64 x.a, .int .i64 x.b, .int .i64 x.c]) (.agg #[.int .i64 y.a, .int .i64 y.b, .int .i64 y.c])).run P w = .ok c w := by rw [← h0]; exact h x y w
theorem cells3 {w : World} {b : Nat} {p q r : Value} {t : TypeId} (h : w.heap[b]? = some (.cells #[p, q, r] t)) : w.cell? ⟨b, 0, none⟩ = some p ∧ w.cell? ⟨b, 1, none⟩ = some q ∧ w.cell? ⟨b, 2, none⟩ = some r := by
  unfold World.cell?
  rw [h]
  exact ⟨rfl, rfl, rfl⟩
set_option maxHeartbeats 1000000 in
theorem iReg_any (v : Value) (rs : List Tr) (w : World) (hv : TrsAt w v rs) :
    Calls Try.prog 16 #[v] w fun e w' => e = .returned (.bool (regB rs)) ∧ Below w.heap.size w w' := by
  obtain ⟨p, cap, rfl, hc, hm, h4⟩ := hv
  unfold maxLen at hm
  cases hin : inR rs.length 1 5
  · have HI := Lib.hid hin
    clear h4 hin
    go_enter Try.func16, Try.ntmps16
    go_wp2_with (go_at_call 43; with_reducible refine (inRange_any _ _ _ _).mono ?_; rw [HI.out]; rintro e w' ⟨rfl, rfl⟩)
    go_ret
    exact ⟨by simp [regB, HI.out], Below.refl _ _⟩
  have HI := Lib.hid hin
  have hl : 1 ≤ rs.length ∧ rs.length ≤ 5 := by unfold inR at hin; simp at hin; omega
  clear hin
  go_enter Try.func16, Try.ntmps16
  go_wp2_with (go_at_call 43; with_reducible refine (inRange_any _ _ _ _).mono ?_; rw [HI.out]; rintro e w' ⟨rfl, rfl⟩)
  go_loopg [2, 3, 4, 6, 13] (rs.length) (fun m _ _ _ _ i wr => ∃ k : Nat, k ≤ rs.length ∧ m = rs.length - k ∧ i = .int .i64 k ∧ Hid (allBelow (regAt rs) k = true) ∧ Below w.heap.size w wr)
  case atStart => exact ⟨0, Nat.zero_le _, rfl, rfl, Lib.hid rfl, Below.refl _ _⟩
  case round =>
    obtain ⟨k, hk, rfl, rfl, HA, hbel⟩ := hrel
    by_cases hlt : k < rs.length
    · rcases h4 with ⟨rfl, -⟩ | ⟨b, o, rfl, hb, hcell⟩
      · simp at hlt
      obtain ⟨c1, c2, c3⟩ := hcell k hlt
      have c1 := (hbel.cell (p := ⟨b, o + k * 3, none⟩) hb).trans c1
      have c2 := (hbel.cell (p := ⟨b, o + k * 3 + 1, none⟩) hb).trans c2
      have c3 := (hbel.cell (p := ⟨b, o + k * 3 + 2, none⟩) hb).trans c3
      obtain ⟨x, hx⟩ : ∃ y, rs.getD k default = y := ⟨_, rfl⟩
      rw [hx] at c1 c2 c3
      have HX := Lib.hid hx
      have HC := Lib.hid hcell
      have HB := Lib.hid hbel
      have i0 : (0 : Int) ≤ (k : Int) := by omega
      have i1 : (k : Int) < (rs.length : Int) := by omega
      clear hx hcell hbel
      cases ho : rOk x
      · have HO := Lib.hid ho
        clear ho
        go_wp2_with (go_at_call 37; with_reducible refine (iOk_any x _).mono ?_; rw [HO.out]; rintro e w1 ⟨rfl, hb1⟩)
        go_ret
        refine ⟨ret_bool ?_, ?_⟩
        · have : regAt rs k = false := by unfold regAt; rw [HX.out, HO.out]; rfl
          rw [regB, allBelow_false hlt this, Bool.and_false]
        · have hA := HB.out.alloc HB.out.size (.cells #[.int .i64 x.a, .int .i64 x.b, .int .i64 x.c] 26)
          exact hA.trans (hb1.mono hA.size)
      · have HO := Lib.hid ho
        clear ho
        obtain ⟨N, hN⟩ : ∃ N, wr.heap.size = N := ⟨_, rfl⟩
        have hA : Below w.heap.size w (wr.alloc (.cells #[.int .i64 x.a, .int .i64 x.b, .int .i64 x.c] 26)) := HB.out.alloc HB.out.size _
        have HAA := Lib.hid hA
        have hnew : (wr.alloc (.cells #[.int .i64 x.a, .int .i64 x.b, .int .i64 x.c] 26)).heap[N]? = some (.cells #[.int .i64 x.a, .int .i64 x.b, .int .i64 x.c] 26) := hN ▸ heap_alloc_new wr _
        have HNW := Lib.hid hnew
        have HN := Lib.hid hN
        clear hA hnew hN
        go_wp2_with (go_at_call 37; with_reducible refine (iOk_any x _).mono ?_; rw [HO.out]; rintro e w1 ⟨rfl, hb1⟩)
        have HB1 := Lib.hid (HAA.out.trans (hb1.mono HAA.out.size))
        have hlN : N < w1.heap.size := by
          have := hb1.size
          have := HN.out
          simp at *
          omega
        have HX1 := Lib.hid (show w1.heap[N]? = some (.cells #[.int .i64 x.a, .int .i64 x.b, .int .i64 x.c] 26) from (hb1.block N (by have := HN.out; simp; omega)).trans HNW.out)
        have hbs : b < w1.heap.size := Nat.lt_of_lt_of_le hb HB1.out.size
        rw [HN.out]
        go_loopg [2, 6, 25] k (fun m _ _ j wx => ∃ q : Nat, q ≤ k ∧ m = k - q ∧ j = .int .i64 q ∧ Hid (allBelow (fun j => rAg x (rs.getD j default)) q = true) ∧ Below w1.heap.size w1 wx)
        case atStart => exact ⟨0, Nat.zero_le _, rfl, rfl, Lib.hid rfl, Below.refl _ _⟩
        case round =>
          obtain ⟨q, hq, rfl, rfl, HA2, hbx⟩ := hrel
          have HBX := Lib.hid hbx
          have hNx : N < wr.heap.size := Nat.lt_of_lt_of_le hlN hbx.size
          have hbw := HB1.out.trans (hbx.mono HB1.out.size)
          have HBW := Lib.hid hbw
          by_cases hlq : q < k
          · obtain ⟨d1, d2, d3⟩ := HC.out q (by omega)
            have d1 := (hbw.cell (p := ⟨b, o + q * 3, none⟩) hb).trans d1
            have d2 := (hbw.cell (p := ⟨b, o + q * 3 + 1, none⟩) hb).trans d2
            have d3 := (hbw.cell (p := ⟨b, o + q * 3 + 2, none⟩) hb).trans d3
            obtain ⟨y, hy⟩ : ∃ y, rs.getD q default = y := ⟨_, rfl⟩
            rw [hy] at d1 d2 d3
            have HY := Lib.hid hy
            have hxw : wr.heap[N]? = some (.cells #[.int .i64 x.a, .int .i64 x.b, .int .i64 x.c] 26) := (hbx.block N hlN).trans HX1.out
            have HXW := Lib.hid hxw
            have j0 : (0 : Int) ≤ (q : Int) := by omega
            have j1 : (q : Int) < (k : Int) := by omega
            clear hy hbx hbw hxw
            have hboxy := Lib.hid (heap_alloc_new wr (.cells #[.int .i64 y.a, .int .i64 y.b, .int .i64 y.c] 26))
            have HBY := Lib.hid (HBX.out.alloc HBX.out.size (.cells #[.int .i64 y.a, .int .i64 y.b, .int .i64 y.c] 26))
            have x0 : ∀ i z, (#[.int .i64 x.a, .int .i64 x.b, .int .i64 x.c] : Array Value)[i]? = some z → wr.cell? ⟨N, i, none⟩ = some z := fun i z hz => by unfold World.cell?; rw [HXW.out]; exact hz
            have xa := x0 0 _ rfl
            have xb := x0 1 _ rfl
            have xc := x0 2 _ rfl
            clear x0
            go_wp2_with fail
            refine (iOlder_any x y _).mono ?_
            rintro e w3 ⟨rfl, hb3⟩
            have K3 := Lib.hid (HBY.out.trans (hb3.mono HBY.out.size))
            have HX3 := Lib.hid (show w3.heap[N]? = some (.cells #[.int .i64 x.a, .int .i64 x.b, .int .i64 x.c] 26) from (K3.out.block N hlN).trans HX1.out)
            have HY3 := Lib.hid ((hb3.block wr.heap.size (by simp)).trans hboxy.out)
            obtain ⟨x1, x2, x3⟩ := cells3 HX3.out
            obtain ⟨y1, y2, y3⟩ := cells3 HY3.out
            have hsy : wr.heap.size < w3.heap.size := by have := hb3.size; simp at this; omega
            clear hb3
            cases e1 : rOlder x y
            rotate_left
            · have HG := Lib.hid (show rAg x (rs.getD q default) = true by rw [HY.out]; simp [rAg, e1])
              clear e1
              go_wp2
              go_roundg (k - (q + 1))
              case rel => exact ⟨q + 1, by omega, rfl, by go_num, Lib.hid (allBelow_succ HA2.out HG.out), K3.out⟩
              case measure => omega
            · have E1 := Lib.hid e1
              clear e1
              go_wp2_with fail
              refine (iOlder_any y x _).mono ?_
              rintro e w4 ⟨rfl, hb4⟩
              have K4 := Lib.hid (K3.out.trans (hb4.mono K3.out.size))
              have HX4 := Lib.hid (show w4.heap[N]? = some (.cells #[.int .i64 x.a, .int .i64 x.b, .int .i64 x.c] 26) from (K4.out.block N hlN).trans HX1.out)
              have HY4 := Lib.hid ((hb4.block wr.heap.size hsy).trans HY3.out)
              obtain ⟨x41, x42, x43⟩ := cells3 HX4.out
              obtain ⟨y41, y42, y43⟩ := cells3 HY4.out
              clear hb4
              cases e2 : rOlder y x
              rotate_left
              · have HG := Lib.hid (show rAg x (rs.getD q default) = true by rw [HY.out]; simp [rAg, e2])
                clear e2
                go_wp2
                go_roundg (k - (q + 1))
                case rel => exact ⟨q + 1, by omega, rfl, by go_num, Lib.hid (allBelow_succ HA2.out HG.out), K4.out⟩
                case measure => omega
              · have E2 := Lib.hid e2
                clear e2
                cases e3 : decide (x = y)
                · have HG := Lib.hid (show rAg x (rs.getD q default) = false by rw [HY.out]; simp [rAg, E1.out, E2.out, e3])
                  have HF := Lib.hid (show regAt rs k = false by unfold regAt; rw [HX.out, allBelow_false hlq HG.out, Bool.and_false])
                  have qe := eql_ab Try.eqlReplica e3
                  clear e3
                  go_wp2
                  go_ret
                  exact ⟨ret_bool (by rw [regB, allBelow_false hlt HF.out, Bool.and_false]), HB1.out.trans (K4.out.mono HB1.out.size)⟩
                · have HG := Lib.hid (show rAg x (rs.getD q default) = true by rw [HY.out]; simp [rAg, e3])
                  have qe := eql_ab Try.eqlReplica e3
                  clear e3
                  go_wp2
                  go_roundg (k - (q + 1))
                  case rel => exact ⟨q + 1, by omega, rfl, by go_num, Lib.hid (allBelow_succ HA2.out HG.out), K4.out⟩
                  case measure => omega
          · obtain rfl : q = k := by omega
            have HT := Lib.hid (show regAt rs q = true by unfold regAt; rw [HX.out, HO.out, HA2.out]; rfl)
            go_wp2
            go_roundg (rs.length - (q + 1))
            case rel => exact ⟨q + 1, by omega, rfl, by go_num, Lib.hid (allBelow_succ HA.out HT.out), HBW.out⟩
            case measure => omega
    · obtain rfl : k = rs.length := by omega
      go_wp2
      go_ret
      exact ⟨ret_bool (by rw [regB, HI.out, HA.out]; rfl), hbel⟩
end Go.Proofs.Ytkefnmmpipeppaa
