/-
  Contract: are two registers the same?
-/
import Derived.Test.YtkefnmmpipeppaaRm
import Derived.Test.YtkefnmmpipeppaaLsE
import Derived.Lib.SliceRun
namespace Go.Proofs.Ytkefnmmpipeppaa
open Go.RowKit

theorem eq_of_tr {xs ys : List Tr} (hl : xs.length = ys.length) (h : ∀ j, j < xs.length → xs.getD j default = ys.getD j default) : xs = ys := by
  refine List.ext_getElem hl fun j h1 h2 => ?_
  have := h j h1
  simpa [h1, h2] using this

theorem Try.neqReplica : NeqT Try.prog 26 := neqT_of (ti := 3) (by kernel_rfl) (by kernel_rfl) Try.underlying3 (fun w => by kernel_rfl) (by kernel_rfl)

set_option maxHeartbeats 1000000 in
theorem sameReplicas_any (v u : Value) (xs ys : List Tr) (w : World) (hv : TrsAt w v xs) (hu : TrsAt w u ys) :
    Calls Try.prog 13 #[v, u] w fun e w' => e = .returned (.bool (decide (xs = ys))) ∧ Below w.heap.size w w' := by
  have HV := Lib.hid hv
  have HU := Lib.hid hu
  obtain ⟨p, cap, rfl, hc1, hc2⟩ := hv.form
  obtain ⟨q, cap', rfl, hc1', hc2'⟩ := hu.form
  clear hv hu
  by_cases hl : xs.length = ys.length
  · have HL := Lib.hid hl
    have hne : ((xs.length : Int) != (ys.length : Int)) = false := by simp [hl]
    have hne0 : ((xs.length : Int) == (ys.length : Int)) = true := by simp [hl]
    clear hl
    go_enter Try.func13, Try.ntmps13
    go_wp2
    go_loopw [5] (fun s5 wr => ∃ k : Nat, k ≤ xs.length ∧ s5 = .int .i64 k ∧ Hid (∀ j, j < k → xs.getD j default = ys.getD j default) ∧ Below w.heap.size w wr) (fun s _ => xs.length - (intOf s).toNat)
    case atStart => exact ⟨0, Nat.zero_le _, rfl, Lib.hid fun j hj => by omega, Below.refl _ _⟩
    case round =>
      obtain ⟨k, hk, rfl, HA, hbel⟩ := hrel
      by_cases hlt : k < xs.length
      · obtain ⟨b, o, rfl, hb, k0, k1, k2⟩ := (HV.out.below hbel (Nat.le_refl _)).tr hlt
        obtain ⟨b', o', rfl, hb', l0, l1, l2⟩ := (HU.out.below hbel (Nat.le_refl _)).tr (k := k) (by have := HL.out; omega)
        obtain ⟨n, hn⟩ : ∃ n, xs.getD k default = n := ⟨_, rfl⟩
        obtain ⟨m, hm⟩ : ∃ n, ys.getD k default = n := ⟨_, rfl⟩
        rw [hn] at k0 k1 k2
        rw [hm] at l0 l1 l2
        have HN := Lib.hid hn
        have HM := Lib.hid hm
        obtain ⟨na, nb, nc⟩ := n
        obtain ⟨ma, mb, mc⟩ := m
        have i0 : (0 : Int) ≤ (k : Int) := by omega
        have i1 : (k : Int) < (xs.length : Int) := by omega
        have i2 : (k : Int) < (ys.length : Int) := by have := HL.out; omega
        clear hn hm
        by_cases he : (⟨na, nb, nc⟩ : Tr) = ⟨ma, mb, mc⟩
        · have HE := Lib.hid he
          have hq : ∀ w, (binOp .neq 26 (.agg #[.int .i64 na, .int .i64 nb, .int .i64 nc]) (.agg #[.int .i64 ma, .int .i64 mb, .int .i64 mc])).run Try.prog w = .ok (.bool false) w := fun w => by
            have := Try.neqReplica ⟨na, nb, nc⟩ ⟨ma, mb, mc⟩ w
            rw [decide_eq_true he] at this
            exact this
          clear he
          go_wp2_with fail
          go_quiet (fail)
          clear i0 i1 i2
          go_wp2
          go_roundw
          case rel =>
            refine ⟨k + 1, by omega, by go_num, Lib.hid fun j hj => ?_, below_drewN hbel _⟩
            by_cases e : j = k
            · subst e; rw [HN.out, HM.out, HE.out]
            · exact HA.out j (by omega)
          case measure => simp [intOf]; omega
        · have HE := Lib.hid he
          have hq : ∀ w, (binOp .neq 26 (.agg #[.int .i64 na, .int .i64 nb, .int .i64 nc]) (.agg #[.int .i64 ma, .int .i64 mb, .int .i64 mc])).run Try.prog w = .ok (.bool true) w := fun w => by
            have := Try.neqReplica ⟨na, nb, nc⟩ ⟨ma, mb, mc⟩ w
            rw [decide_eq_false he] at this
            exact this
          clear he
          go_wp2_with fail
          go_quiet (fail)
          clear i0 i1 i2
          go_wp2
          go_ret
          exact ⟨ret_bool (by rw [eq_comm, decide_eq_false_iff_not]; intro e; exact HE.out (by rw [← HN.out, ← HM.out, e])), below_drewN hbel _⟩
      · obtain rfl : k = xs.length := by omega
        go_wp2
        go_ret
        exact ⟨ret_bool (by rw [eq_comm, decide_eq_true_eq]; exact eq_of_tr HL.out HA.out), hbel⟩
  · have HL := Lib.hid hl
    have hne : ((xs.length : Int) == (ys.length : Int)) = false := by rw [beq_eq_false_iff_ne]; omega
    have hne' : ((xs.length : Int) != (ys.length : Int)) = true := by simp; omega
    clear hl
    go_enter Try.func13, Try.ntmps13
    go_wp2
    go_ret
    exact ⟨ret_bool (by rw [eq_comm, decide_eq_false_iff_not]; intro e; exact HL.out (by rw [e])), Below.refl _ _⟩


end Go.Proofs.Ytkefnmmpipeppaa
