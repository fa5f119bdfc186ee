/-
  Contracts: slices.BinarySearchFunc at nodes, with the order of ids.
-/
import Derived.Test.YtojpfbbgpcafnaaISteps
import Derived.Test.YtojpfbbgpcafnaaRead
import Derived.Lib.SliceRun
namespace Go.Proofs.Ytojpfbbgpcafnaa
open Go.RowKit

theorem joinF_any (n : Nd) (va : Value) (id : Int) (w : World) (ha : IntsAt w va n.after) (h1 : -64 ≤ n.id - id) (h2 : n.id - id ≤ 64) :
    Calls Try.prog 101 #[.agg #[.int .i64 n.id, .int .i64 n.before, va], .int .i64 id] w fun e w' => e = .returned (.int .i64 (n.id - id)) ∧ Below w.heap.size w w' := by
  obtain ⟨pa, capa, rfl, -, -, -⟩ := ha
  have hb := (Below.refl w.heap.size w).alloc (Nat.le_refl _) (.cells #[.int .i64 n.id, .int .i64 n.before, .slice pa n.after.length capa] 31)
  go_enter Try.func101, Try.ntmps101
  go_wp2
  go_ret
  first | exact ⟨rfl, hb⟩ | exact ⟨ret_int (by rw [wrap64_in] <;> omega), hb⟩ | exact ⟨ret_int (IntWalk.i64_in _ (by omega)), hb⟩

set_option maxHeartbeats 2000000 in
theorem bsearch_any (v : Value) (r : List Nd) (id : Int) (w : World) (hv : RingAt w v r) (hl : r.length ≤ 10) (hid : 0 ≤ id ∧ id ≤ 63) (hids : ∀ j, j < r.length → 0 ≤ (r.getD j default).id ∧ (r.getD j default).id ≤ 63)
    (hmo : ∀ a b, a ≤ b → b < r.length → (r.getD a default).id ≤ (r.getD b default).id) :
    Calls Try.prog 100 #[v, .int .i64 id, .func (.func 101) #[] #[]] w fun e w' =>
      ∃ (J : Nat) (c : Bool), e = .returned (.tuple #[.int .i64 J, .bool c]) ∧ J ≤ r.length ∧ ((∀ j, j < J → (r.getD j default).id < id) ∧ (∀ j, J ≤ j → j < r.length → id ≤ (r.getD j default).id)) ∧ Below w.heap.size w w' := by
  have HIDS := Lib.hid hids
  have HMO := Lib.hid hmo
  clear hids hmo
  obtain ⟨hid0, hid1⟩ := hid
  obtain ⟨p, cap, rfl, hc, hm, h4⟩ := hv
  unfold maxLen at hm
  go_enter Try.func100, Try.ntmps100
  go_wp2
  go_loopw [9, 10] (fun s9 s10 wr => ∃ lo hi : Nat, s9 = .int .i64 lo ∧ s10 = .int .i64 hi ∧ lo ≤ hi ∧ hi ≤ r.length ∧ Hid ((∀ j, j < lo → (r.getD j default).id < id) ∧ (∀ j, hi ≤ j → j < r.length → id ≤ (r.getD j default).id)) ∧ Below w.heap.size w wr) (fun s9 s10 _ => (intOf s10 - intOf s9).toNat)
  case atStart => exact ⟨0, r.length, rfl, rfl, Nat.zero_le _, Nat.le_refl _, Lib.hid ⟨fun j hj => by omega, fun j h1 h2 => by omega⟩, Below.refl _ _⟩
  case round =>
    obtain ⟨lo, hi, rfl, rfl, hlh, hin, HA, hbel⟩ := hrel
    have hsz : w.heap.size ≤ wr.heap.size := hbel.size
    by_cases hlt : lo < hi
    · rcases h4 with ⟨rfl, -⟩ | ⟨b, o, rfl, hb, hcell⟩
      · simp at hin; omega
      have hk : (lo + hi) / 2 < r.length := by omega
      obtain ⟨h1, h2, va, h3, hia⟩ := (hcell ((lo + hi) / 2) hk).below hb hbel (Nat.le_refl _)
      obtain ⟨g1, g2⟩ := HIDS.out _ hk
      obtain ⟨n, hn⟩ : ∃ x, r.getD ((lo + hi) / 2) default = x := ⟨_, rfl⟩
      rw [hn] at h1 h2 hia g1 g2
      have HN := Lib.hid hn
      have HI := Lib.hid hia
      obtain ⟨pa, capa, rfl, -, -, -⟩ := hia
      clear hcell hn
      by_cases hyx : n.id - id < 0
      · go_wp2_with (go_at_call 101; refine (joinF_any n _ id _ HI.out (by omega) (by omega)).mono ?_; rintro e w1 ⟨rfl, hb1⟩)
        go_roundw
        case rel =>
          exact ⟨(lo + hi) / 2 + 1, hi, by rw [show ((lo : Int) + (hi : Int)) / 2 + 1 = (((lo + hi) / 2 + 1 : Nat) : Int) by omega], rfl, by omega, hin, Lib.hid ⟨fun j hj => Int.lt_of_le_of_lt (HMO.out j ((lo + hi) / 2) (by omega) hk) (by rw [HN.out]; omega), HA.out.2⟩, hbel.trans (hb1.mono hsz)⟩
        case measure => simp [intOf]; omega
      · go_wp2_with (go_at_call 101; refine (joinF_any n _ id _ HI.out (by omega) (by omega)).mono ?_; rintro e w1 ⟨rfl, hb1⟩)
        go_roundw
        case rel =>
          exact ⟨lo, (lo + hi) / 2, rfl, by rw [show ((lo : Int) + (hi : Int)) / 2 = (((lo + hi) / 2 : Nat) : Int) by omega], by omega, by omega, Lib.hid ⟨HA.out.1, fun j h1 h2 => Int.le_trans (by rw [HN.out]; omega) (HMO.out ((lo + hi) / 2) j h1 h2)⟩, hbel.trans (hb1.mono hsz)⟩
        case measure => simp [intOf]; omega
    · obtain rfl : lo = hi := by omega
      by_cases hend : lo < r.length
      · rcases h4 with ⟨rfl, -⟩ | ⟨b, o, rfl, hb, hcell⟩
        · simp at hend
        obtain ⟨h1, h2, va, h3, hia⟩ := (hcell lo hend).below hb hbel (Nat.le_refl _)
        obtain ⟨g1, g2⟩ := HIDS.out _ hend
        obtain ⟨n, hn⟩ : ∃ x, r.getD lo default = x := ⟨_, rfl⟩
        rw [hn] at h1 h2 hia g1 g2
        have HI := Lib.hid hia
        obtain ⟨pa, capa, rfl, -, -, -⟩ := hia
        clear hcell hn
        go_wp2_with (go_at_call 101; refine (joinF_any n _ id _ HI.out (by omega) (by omega)).mono ?_; rintro e w1 ⟨rfl, hb1⟩)
        go_ret2
        exact ⟨lo, _, rfl, hin, HA.out, hbel.trans (hb1.mono hsz)⟩
      · go_wp2
        go_ret2
        exact ⟨lo, _, rfl, hin, HA.out, hbel⟩

end Go.Proofs.Ytojpfbbgpcafnaa
