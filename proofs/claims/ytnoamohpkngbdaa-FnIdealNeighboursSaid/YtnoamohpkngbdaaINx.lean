/-
  Contracts: NodesNext and NodesBefore of the program.
-/
import Derived.Test.YtnoamohpkngbdaaINew
namespace Go.Proofs.Ytnoamohpkngbdaa
open Go.RowKit

def nextV (L : List Int) (key : Int) : Int := L.getD (idx (fun x => decide (key ≤ x)) L).toNat 0
def befFrom (L : List Int) (key : Int) : Nat → Int
  | 0 => L.getD (L.length - 1) 0
  | k + 1 => if L.getD k 0 < key then L.getD k 0 else befFrom L key k

set_option maxHeartbeats 1000000 in
theorem iNodesNext_any (v : Value) (L : List Int) (key : Int) (w : World) (hv : IntsAt w v L) (hn : ndB L = true) (hk : okP key = true) :
    Calls Try.prog 39 #[v, .int .i64 key] w fun e w' => e = .returned (.int .i64 (nextV L key)) ∧ Below w.heap.size w w' := by
  have HV := Lib.hid hv
  have HN := Lib.hid hn
  have HK := Lib.hid hk
  have hl1 := (ndB_iff.1 hn).1
  have hl10 := (ndB_iff.1 hn).2.1
  obtain ⟨p, cap, rfl, hc, hm, h4⟩ := hv
  unfold maxLen at hm
  clear hn hk
  go_enter Try.func39, Try.ntmps39
  go_wp2_with (first | (go_at_call 42; refine (iNodesValid_any _ L _ HV.out).mono ?_; rw [HN.out]; rintro e w1 ⟨rfl, hb1⟩) | (go_at_call 52; refine (posok_is key _ HK.out _).mono ?_; rintro e w' ⟨rfl, rfl⟩))
  go_loopg [4, 6, 17] L.length (fun m _ _ i wr => ∃ k : Nat, k ≤ L.length ∧ m = L.length - k ∧ i = .int .i64 k ∧ Hid (∀ j, j < k → decide (key ≤ L.getD j 0) = false) ∧ Below w.heap.size w wr)
  case atStart => exact ⟨0, Nat.zero_le _, rfl, rfl, Lib.hid fun j hj => by omega, hb1⟩
  case round =>
    obtain ⟨k, hk, rfl, rfl, HA, hbel⟩ := hrel
    rcases h4 with ⟨rfl, -⟩ | ⟨b, o, rfl, hb, hcell⟩
    · simp at hl1
    have h00 := (hbel.cell (p := ⟨b, o + 0, none⟩) hb).trans (hcell 0 (by omega))
    rw [Nat.add_zero] at h00
    by_cases hlt : k < L.length
    · have h1 := (hbel.cell (p := ⟨b, o + k, none⟩) hb).trans (hcell k hlt)
      obtain ⟨x, hx⟩ : ∃ y, L.getD k 0 = y := ⟨_, rfl⟩
      rw [hx] at h1
      have HX := Lib.hid hx
      have HB := Lib.hid hbel
      have i0 : (0 : Int) ≤ (k : Int) := by omega
      have i1 : (k : Int) < (L.length : Int) := by omega
      clear hcell hx hbel h00
      obtain hge | hge : decide (key ≤ x) = true ∨ decide (key ≤ x) = false := by cases decide (key ≤ x) <;> simp
      · have HR := Lib.hid (show nextV L key = x by
          unfold nextV
          rw [idx_hit (d := 0) hlt (by rw [HX.out]; exact hge) HA.out]
          exact HX.out)
        have hge' : key ≤ x := by simpa using hge
        clear hge
        go_wp2
        go_ret
        exact ⟨ret_int HR.out.symm, HB.out⟩
      · have HG := Lib.hid hge
        have hge' : ¬ key ≤ x := by simpa using hge
        clear hge
        go_wp2
        go_roundg (L.length - (k + 1))
        case rel =>
          refine ⟨k + 1, by omega, rfl, by go_num, Lib.hid fun j hj => ?_, HB.out⟩
          by_cases e : j = k
          · subst e; rw [HX.out]; exact HG.out
          · exact HA.out j (by omega)
        case measure => omega
    · obtain rfl : k = L.length := by omega
      obtain ⟨x, hx⟩ : ∃ y, L.getD 0 0 = y := ⟨_, rfl⟩
      rw [hx] at h00
      have HR := Lib.hid (show nextV L key = x by
        unfold nextV
        rw [idx_miss (d := 0) HA.out]
        exact hx)
      clear hcell hx
      go_wp2
      go_ret
      exact ⟨ret_int HR.out.symm, hbel⟩

set_option maxHeartbeats 1000000 in
theorem iNodesBefore_any (v : Value) (L : List Int) (key : Int) (w : World) (hv : IntsAt w v L) (hn : ndB L = true) (hk : okP key = true) :
    Calls Try.prog 38 #[v, .int .i64 key] w fun e w' => e = .returned (.int .i64 (befFrom L key L.length)) ∧ Below w.heap.size w w' := by
  have HV := Lib.hid hv
  have HN := Lib.hid hn
  have HK := Lib.hid hk
  have hl1 := (ndB_iff.1 hn).1
  have hl10 := (ndB_iff.1 hn).2.1
  obtain ⟨p, cap, rfl, hc, hm, h4⟩ := hv
  unfold maxLen at hm
  clear hn hk
  go_enter Try.func38, Try.ntmps38
  go_wp2_with (first | (go_at_call 42; refine (iNodesValid_any _ L _ HV.out).mono ?_; rw [HN.out]; rintro e w1 ⟨rfl, hb1⟩) | (go_at_call 52; refine (posok_is key _ HK.out _).mono ?_; rintro e w' ⟨rfl, rfl⟩))
  go_loopg [4, 5] (L.length + 1) (fun m _ i wr => ∃ k : Nat, k ≤ L.length ∧ m = k + 1 ∧ i = .int .i64 ((k : Int) - 1) ∧ Hid (befFrom L key L.length = befFrom L key k) ∧ Below w.heap.size w wr)
  case atStart => exact ⟨L.length, Nat.le_refl _, rfl, rfl, Lib.hid rfl, hb1⟩
  case round =>
    obtain ⟨k, hk, rfl, rfl, HA, hbel⟩ := hrel
    rcases h4 with ⟨rfl, -⟩ | ⟨b, o, rfl, hb, hcell⟩
    · simp at hl1
    obtain ⟨l, hl⟩ : ∃ l, L.length = l + 1 := ⟨L.length - 1, by omega⟩
    have hlast := (hbel.cell (p := ⟨b, o + l, none⟩) hb).trans (hcell l (by omega))
    have HB := Lib.hid hbel
    have HL := Lib.hid hl
    have q0 : IntKind.i64.wrap ((L.length : Int) - 1) = (l : Int) := by
      have : (L.length : Int) - 1 = (l : Int) := by omega
      rw [this]; exact IntWalk.i64_in _ (by omega)
    have q0' : (L.length : Int) - 1 = (l : Int) := by omega
    have l0 : (0 : Int) ≤ (l : Int) := by omega
    have l1 : (l : Int) < (L.length : Int) := by omega
    rcases Nat.eq_zero_or_pos k with h0 | h0
    · subst h0
      obtain ⟨x, hx⟩ : ∃ y, L.getD l 0 = y := ⟨_, rfl⟩
      rw [hx] at hlast
      have HR := Lib.hid (show befFrom L key L.length = x by
        rw [HA.out]
        show L.getD (L.length - 1) 0 = x
        rw [HL.out]; exact hx)
      have hneg : ¬ (0 : Int) ≤ ((0 : Nat) : Int) - 1 := by omega
      clear hcell hx hbel hl
      go_wp2
      go_ret
      exact ⟨ret_int HR.out.symm, HB.out⟩
    · obtain ⟨j, hkj⟩ : ∃ j, k = j + 1 := ⟨k - 1, by omega⟩
      have h1 := (hbel.cell (p := ⟨b, o + j, none⟩) hb).trans (hcell j (by omega))
      obtain ⟨x, hx⟩ : ∃ y, L.getD j 0 = y := ⟨_, rfl⟩
      rw [hx] at h1
      have HX := Lib.hid hx
      have e1 : (k : Int) - 1 = (j : Int) := by omega
      have hjl : j < L.length := by omega
      rw [e1]
      have i0 : (0 : Int) ≤ (j : Int) := by omega
      have i1 : (j : Int) < (L.length : Int) := by omega
      have q1 : IntKind.i64.wrap ((j : Int) - 1) = (j : Int) - 1 := IntWalk.i64_in _ (by omega)
      have HKJ := Lib.hid hkj
      clear hcell hx hbel hl e1 hkj hlast
      obtain hge | hge : decide (x < key) = true ∨ decide (x < key) = false := by cases decide (x < key) <;> simp
      · have hlt : x < key := by simpa using hge
        have HR := Lib.hid (show befFrom L key L.length = x by
          rw [HA.out, HKJ.out]
          show (if L.getD j 0 < key then L.getD j 0 else befFrom L key j) = x
          rw [HX.out, if_pos hlt])
        clear hge q0 q0'
        go_wp2
        go_ret
        exact ⟨ret_int HR.out.symm, HB.out⟩
      · have hlt : ¬ x < key := by simpa using hge
        have HR := Lib.hid (show befFrom L key L.length = befFrom L key j by
          rw [HA.out, HKJ.out]
          show (if L.getD j 0 < key then L.getD j 0 else befFrom L key j) = _
          rw [HX.out, if_neg hlt])
        clear hge q0 q0'
        go_wp2
        go_roundg (j + 1)
        case rel => exact ⟨j, by omega, rfl, rfl, Lib.hid HR.out, HB.out⟩
        case measure => have := HKJ.out; omega

end Go.Proofs.Ytnoamohpkngbdaa
