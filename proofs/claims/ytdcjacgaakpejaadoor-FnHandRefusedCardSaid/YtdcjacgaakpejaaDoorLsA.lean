/-
  Contracts: the lease of a key.
-/
import Derived.Test.YtdcjacgaakpejaaDoorLsW
import Derived.Test.YtdcjacgaakpejaaDoorPLt
namespace Go.Proofs.YtdcjacgaakpejaaDoor
open Go.RowKit

theorem Tryd.infoLease : (Tryd.prog.info? 35).map (fun i => (i.zero, i.size, i.bytes)) = some (some (.agg #[.int .i64 0, .int .i64 0, .int .i64 0]), 3, 24) := by kernel_rfl

theorem leaseAtF_any (x : Tr) (key : Int) (B : Nat) (w : World) (hB : w.cell? ⟨B, 0, none⟩ = some (.int .i64 key)) :
    Calls Tryd.prog 49 #[.agg #[.int .i64 x.a, .int .i64 x.b, .int .i64 x.c], .pointer (some ⟨B, 0, none⟩)] w fun e w' => e = .returned (.bool (decide (key ≤ x.a))) ∧ Below w.heap.size w w' := by
  have hb := (Below.refl w.heap.size w).alloc (Nat.le_refl _) (.cells #[.int .i64 x.a, .int .i64 x.b, .int .i64 x.c] 35)
  have hB' := (hb.cell (p := ⟨B, 0, none⟩) (World.block_lt_of_cell? w _ hB)).trans hB
  clear hB
  go_enter Tryd.func49, Tryd.ntmps49
  go_wp2
  go_ret
  exact ⟨rfl, hb⟩

set_option maxHeartbeats 1000000 in
theorem leaseIdx_any (v : Value) (xs : List Tr) (key : Int) (B : Nat) (w : World) (hv : TrsAt w v xs) (hB : w.cell? ⟨B, 0, none⟩ = some (.int .i64 key)) :
    Calls Tryd.prog 48 #[v, .func (.func 49) #[] #[.pointer (some ⟨B, 0, none⟩)]] w fun e w' => e = .returned (.int .i64 (idx (fun x : Tr => decide (key ≤ x.a)) xs)) ∧ Below w.heap.size w w' := by
  have HV := Lib.hid hv
  have HBc := Lib.hid hB
  have hBl := World.block_lt_of_cell? w _ hB
  obtain ⟨p, cap, rfl, hc1, hc2⟩ := hv.form
  clear hv hB
  go_enter Tryd.func48, Tryd.ntmps48
  go_wp2
  go_loopw [5, 8] (fun _ s8 wr => ∃ k : Nat, k ≤ xs.length ∧ s8 = .int .i64 k ∧ Hid (∀ j, j < k → decide (key ≤ (xs.getD j default).a) = false) ∧ Below w.heap.size w wr) (fun _ s _ => xs.length - (intOf s).toNat)
  case atStart => exact ⟨0, Nat.zero_le _, rfl, Lib.hid fun j hj => by omega, Below.refl _ _⟩
  case round =>
    obtain ⟨k, hk, rfl, HA, hbel⟩ := hrel
    have hsz : w.heap.size ≤ wr.heap.size := hbel.size
    by_cases hlt : k < xs.length
    · obtain ⟨b, o, rfl, hb, h1, h2, h3⟩ := (HV.out.below hbel (Nat.le_refl _)).tr hlt
      obtain ⟨n, hn⟩ : ∃ x, xs.getD k default = x := ⟨_, rfl⟩
      rw [hn] at h1 h2 h3
      have HN := Lib.hid hn
      have HK := Lib.hid ((hbel.cell (p := ⟨B, 0, none⟩) hBl).trans HBc.out)
      clear hn
      cases hf : decide (key ≤ n.a)
      · have HF := Lib.hid hf
        clear hf
        go_wp2_with (go_at_call 49; refine (leaseAtF_any n key B _ HK.out).mono ?_; rw [HF.out]; rintro e w1 ⟨rfl, hb1⟩)
        go_roundw
        case rel =>
          refine ⟨k + 1, by omega, by go_num, Lib.hid fun j hj => ?_, hbel.trans (hb1.mono hsz)⟩
          by_cases e : j = k
          · subst e; rw [HN.out]; exact HF.out
          · exact HA.out j (by omega)
        case measure => simp [intOf]; omega
      · have HF := Lib.hid hf
        clear hf
        go_wp2_with (go_at_call 49; refine (leaseAtF_any n key B _ HK.out).mono ?_; rw [HF.out]; rintro e w1 ⟨rfl, hb1⟩)
        go_ret
        exact ⟨ret_int (idx_hit (d := default) hlt (by rw [HN.out]; exact HF.out) HA.out).symm, hbel.trans (hb1.mono hsz)⟩
    · obtain rfl : k = xs.length := by omega
      go_wp2
      go_ret
      exact ⟨ret_int (idx_miss (d := default) HA.out).symm, hbel⟩

theorem leaseAt_any (v : Value) (xs : List Tr) (key : Int) (w : World) (hv : TrsAt w v xs) :
    Calls Tryd.prog 38 #[v, .int .i64 key] w fun e w' => e = .returned (.int .i64 (atL xs key)) ∧ Below w.heap.size w w' := by
  have hmf : ∀ (fn : Fn) (first cap : Array Value) (w : World), (Instr.makeFunc fn first cap).run Tryd.prog w = .ok (.func fn first cap) w := fun _ _ _ _ => rfl
  have hb := (Below.refl w.heap.size w).alloc (Nat.le_refl _) (.cells #[.int .i64 key] 3)
  have HV := Lib.hid (hv.below hb (Nat.le_refl _))
  have HX := Lib.hid (idx_ltE xs key)
  have HL := Lib.hid (ltE_le key xs)
  obtain ⟨p, cap, rfl, hc1, hc2⟩ := hv.form
  clear hv
  by_cases hlt : ltE xs key < xs.length
  · have HR := Lib.hid (show atL xs key = ltE xs key from if_pos hlt)
    have HX := Lib.hid (HX.out.trans (if_pos hlt))
    have hj : (0 : Int) ≤ (ltE xs key : Int) := by omega
    rw [HR.out]
    clear hlt
    generalize ltE xs key = J at *
    go_enter Tryd.func38, Tryd.ntmps38
    go_wp2_with (go_at_call 48; refine (leaseIdx_any _ xs key w.heap.size _ (by exact HV.out) (by simp)).mono ?_; rw [HX.out]; rintro e w1 ⟨rfl, hb1⟩)
    all_goals
      go_ret
      exact ⟨by first | rfl | (simp; omega), hb.trans (hb1.mono hb.size)⟩
  · have HR := Lib.hid (show atL xs key = 0 from if_neg hlt)
    have HX := Lib.hid (HX.out.trans (if_neg hlt))
    rw [HR.out]
    clear hlt
    go_enter Tryd.func38, Tryd.ntmps38
    go_wp2_with (go_at_call 48; refine (leaseIdx_any _ xs key w.heap.size _ (by exact HV.out) (by simp)).mono ?_; rw [HX.out]; rintro e w1 ⟨rfl, hb1⟩)
    go_ret
    exact ⟨rfl, hb.trans (hb1.mono hb.size)⟩

set_option maxHeartbeats 400000 in
theorem l12At_any (v : Value) (xs : List Tr) (key : Int) (w : World) (hv : TrsAt w v xs) :
    Calls Tryd.prog 26 #[v, .int .i64 key] w fun e w' => e = .returned (.int .i64 (atL xs key)) ∧ w = w' := by
  have HV := Lib.hid hv
  obtain ⟨p, cap, rfl, hc1, hc2⟩ := hv.form
  clear hv
  go_enter Tryd.func26, Tryd.ntmps26
  go_wp2
  go_loop [5] (fun i => ∃ k : Nat, k ≤ xs.length ∧ i = .int .i64 k ∧ Hid (∀ j, j < k → (xs.getD j default).a < key)) (fun i => xs.length - (intOf i).toNat)
  case atStart => exact ⟨0, Nat.zero_le _, rfl, Lib.hid fun j hj => by omega⟩
  case round =>
    obtain ⟨k, hk, rfl, HA⟩ := hrel
    by_cases hlt : k < xs.length
    · obtain ⟨b, o, rfl, hb, h1, h2, h3⟩ := HV.out.tr hlt
      obtain ⟨n, hn⟩ : ∃ x, xs.getD k default = x := ⟨_, rfl⟩
      rw [hn] at h1 h2 h3
      have HN := Lib.hid hn
      clear hn
      by_cases hf : key ≤ n.a
      · go_wp2
        go_ret
        refine ⟨ret_int ?_, rfl⟩
        have e := ltE_is (r := xs) (key := key) (k := k) hk HA.out (fun _ => by rw [HN.out]; omega)
        unfold atL; rw [e, if_pos hlt]
      · go_wp2
        go_round
        case rel =>
          refine ⟨k + 1, by omega, by go_num, Lib.hid fun j hj => ?_⟩
          by_cases e : j = k
          · subst e; rw [HN.out]; omega
          · exact HA.out j (by omega)
        case measure => simp [intOf]; omega
    · obtain rfl : k = xs.length := by omega
      go_wp2
      go_ret
      refine ⟨ret_int ?_, rfl⟩
      have e := ltE_is (r := xs) (key := key) (k := xs.length) (Nat.le_refl _) HA.out (fun h => absurd h (Nat.lt_irrefl _))
      unfold atL; rw [e, if_neg (Nat.lt_irrefl _)]; rfl

end Go.Proofs.YtdcjacgaakpejaaDoor
