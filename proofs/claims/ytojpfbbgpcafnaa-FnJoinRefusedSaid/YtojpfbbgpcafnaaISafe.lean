/-
  Contracts: RingSafe of the program.
-/
import Derived.Test.YtojpfbbgpcafnaaIPrin
namespace Go.Proofs.Ytojpfbbgpcafnaa
open Go.RowKit

set_option maxHeartbeats 400000 in
theorem safeF_any (x : Int) (v : Value) (r : List Nd) (B : Nat) (w : World) (hv : RingAt w v r) (hB : w.cell? ⟨B, 0, none⟩ = some v) :
    Calls Try.prog 69 #[.int .i64 x, .pointer (some ⟨B, 0, none⟩)] w fun e w' => e = .returned (.bool (live r x)) ∧ Below w.heap.size w w' := by
  have HV := Lib.hid hv
  obtain ⟨p, cap, rfl, hc, hm, h4⟩ := hv
  rcases fnd_cases r x with ⟨hf, -⟩ | ⟨k, hk, hf, -, -⟩
  · have hl := fnd_live r x
    rw [hf] at hl
    have HL := Lib.hid hl
    have HF := Lib.hid hf
    clear hf hl
    go_enter Try.func69, Try.ntmps69
    go_wp2_with (go_at_call 53; refine (nodeAt_no _ r x _ HV.out HF.out).mono ?_; rintro e w1 ⟨rfl, hb1⟩)
    go_ret
    exact ⟨ret_bool (by rw [← HL.out]; simp), hb1⟩
  · rcases h4 with ⟨rfl, -⟩ | ⟨b, o, rfl, hb, hcell⟩
    · simp at hk
    have hl := fnd_live r x
    rw [hf] at hl
    have HL := Lib.hid hl
    have HF := Lib.hid hf
    clear hf hl hcell
    go_enter Try.func69, Try.ntmps69
    go_wp2_with (go_at_call 53; refine (nodeAt_yes r x b o cap k _ HV.out hk HF.out).mono ?_; rintro e w1 ⟨rfl, hb1⟩)
    go_ret
    exact ⟨ret_bool (by rw [← HL.out]; simp), hb1⟩

set_option maxHeartbeats 1000000 in
theorem idxSafe_any (v : Value) (xs : List Int) (B : Nat) (u : Value) (r : List Nd) (w : World) (hv : IntsAt w v xs) (hr : RingAt w u r) (hB : w.cell? ⟨B, 0, none⟩ = some u) :
    Calls Try.prog 96 #[v, .func (.func 69) #[] #[.pointer (some ⟨B, 0, none⟩)]] w fun e w' => e = .returned (.int .i64 (idx (live r) xs)) ∧ Below w.heap.size w w' := by
  obtain ⟨p, cap, rfl, hc, hm, h4⟩ := hv
  unfold maxLen at hm
  go_enter Try.func96, Try.ntmps96
  go_wp2
  go_loopw [5, 8] (fun _ s8 wr => ∃ k : Nat, k ≤ xs.length ∧ s8 = .int .i64 k ∧ Hid (∀ j, j < k → (live r) (xs.getD j 0) = false) ∧ Below w.heap.size w wr) (fun _ s _ => xs.length - (intOf s).toNat)
  case atStart => exact ⟨0, Nat.zero_le _, rfl, Lib.hid fun j hj => by omega, Below.refl _ _⟩
  case round =>
    obtain ⟨k, hk, rfl, HA, hbel⟩ := hrel
    by_cases hlt : k < xs.length
    · rcases h4 with ⟨rfl, -⟩ | ⟨b, o, rfl, hb, hcell⟩
      · simp at hlt
      have h1 := (hbel.cell (p := ⟨b, o + k, none⟩) hb).trans (hcell k hlt)
      obtain ⟨n, hn⟩ : ∃ x, xs.getD k 0 = x := ⟨_, rfl⟩
      rw [hn] at h1
      have HN := Lib.hid hn
      have hsz : w.heap.size ≤ wr.heap.size := hbel.size
      clear hcell hn
      go_wp2_with (first | (go_at_call 69; refine (safeF_any n u r B _ (hr.below hbel (Nat.le_refl _)) ((hbel.cell (p := ⟨B, 0, none⟩) (World.block_lt_of_cell? w _ hB)).trans hB)).mono ?_; rintro e w1 ⟨rfl, hb1⟩))
      · have hf : (live r) n = true := by assumption
        go_ret
        exact ⟨ret_int (idx_hit (d := 0) hlt (by rw [HN.out]; exact hf) HA.out).symm, hbel.trans (hb1.mono hsz)⟩
      · have hf : (live r) n = false := by assumption
        go_roundw
        case rel =>
          refine ⟨k + 1, by omega, by go_num, Lib.hid fun j hj => ?_, hbel.trans (hb1.mono hsz)⟩
          by_cases e : j = k
          · subst e; rw [HN.out]; exact hf
          · exact HA.out j (by omega)
        case measure => simp [intOf]; omega
    · obtain rfl : k = xs.length := by omega
      go_wp2
      go_ret
      exact ⟨ret_int (idx_miss (d := 0) HA.out).symm, hbel⟩

theorem containsSafe_any (v : Value) (xs : List Int) (B : Nat) (u : Value) (r : List Nd) (w : World) (hv : IntsAt w v xs) (hr : RingAt w u r) (hB : w.cell? ⟨B, 0, none⟩ = some u) :
    Calls Try.prog 70 #[v, .func (.func 69) #[] #[.pointer (some ⟨B, 0, none⟩)]] w fun e w' => e = .returned (.bool (xs.any (live r))) ∧ Below w.heap.size w w' := by
  go_enter Try.func70, Try.ntmps70
  go_wp2_with (go_at_call 96; refine (idxSafe_any _ xs _ u r _ hv hr hB).mono ?_; rintro e w1 ⟨rfl, hb1⟩)
  go_ret
  exact ⟨ret_bool (idx_any _ xs), hb1⟩

set_option maxHeartbeats 1000000 in
theorem iRingSafe_any (v : Value) (r : List Nd) (w : World) (hv : RingAt w v r) :
    Calls Try.prog 32 #[v] w fun e w' => e = .returned (.bool (ringSafe r)) ∧ Below w.heap.size w w' := by
  have HV := Lib.hid hv
  have hmf : ∀ (fn : Fn) (first cap : Array Value) (w : World), (Instr.makeFunc fn first cap).run Try.prog w = .ok (.func fn first cap) w := fun _ _ _ _ => rfl
  obtain ⟨p, cap, rfl, hc, hm, h4⟩ := hv
  unfold maxLen at hm
  have hB0 := (Below.refl w.heap.size w).alloc (Nat.le_refl _) (.cells #[.slice p r.length cap] 23)
  cases hrv : ringValid r
  · have HR := Lib.hid hrv
    clear hrv
    go_enter Try.func32, Try.ntmps32
    go_wp2_with (go_at_call 48; refine (iRingValid_any _ r _ (by exact HV.out.below hB0 (Nat.le_refl _))).mono ?_; rw [HR.out]; rintro e w1 ⟨rfl, hb1⟩)
    go_ret
    exact ⟨ret_bool (by unfold ringSafe; rw [HR.out]; rfl), hB0.trans (hb1.mono hB0.size)⟩
  · have HR := Lib.hid hrv
    clear hrv
    go_enter Try.func32, Try.ntmps32
    go_wp2_with (go_at_call 48; refine (iRingValid_any _ r _ (by exact HV.out.below hB0 (Nat.le_refl _))).mono ?_; rw [HR.out]; rintro e w1 ⟨rfl, hb1⟩; have hx1 : w1.cell? ⟨w.heap.size, 0, none⟩ = some (.slice p r.length cap) := (hb1.cell (p := ⟨w.heap.size, 0, none⟩) (by simp)).trans (by simp); have hB1 := hB0.trans (hb1.mono hB0.size); have hsz1 : w.heap.size < w1.heap.size := (by have := hb1.size; simp at this; omega))
    go_loopw [2, 5, 12] (fun _ _ s wr => ∃ k : Nat, k ≤ r.length ∧ s = .int .i64 k ∧ Hid (∀ j, j < k → (r.getD j default).after.any (live r) = true) ∧ Below w.heap.size w wr ∧ Below w1.heap.size w1 wr) (fun _ _ s _ => r.length - (intOf s).toNat)
    case atStart => exact ⟨0, Nat.zero_le _, rfl, Lib.hid fun j hj => by omega, hB1, Below.refl _ _⟩
    case round =>
      obtain ⟨k, hk, rfl, HA, hbel, hbx⟩ := hrel
      have hxr : wr.cell? ⟨w.heap.size, 0, none⟩ = some (.slice p r.length cap) := (hbx.cell (p := ⟨w.heap.size, 0, none⟩) hsz1).trans hx1
      by_cases hlt : k < r.length
      · rcases h4 with ⟨rfl, -⟩ | ⟨b, o, rfl, hb, hcell⟩
        · simp at hlt
        obtain ⟨h1, h2, va, h3, hia⟩ := (hcell k hlt).below hb hbel (Nat.le_refl _)
        obtain ⟨n, hn⟩ : ∃ x, r.getD k default = x := ⟨_, rfl⟩
        rw [hn] at h1 h2 hia
        have HN := Lib.hid hn
        have HI := Lib.hid hia
        obtain ⟨pa, capa, rfl, -, -, -⟩ := hia
        have hsz : w.heap.size ≤ wr.heap.size := hbel.size
        have hszx : w.heap.size < wr.heap.size := Nat.lt_of_lt_of_le hsz1 hbx.size
        have hbN := (Below.refl wr.heap.size wr).alloc (Nat.le_refl _) (.cells #[.int .i64 n.id, .int .i64 n.before, .slice pa n.after.length capa] 31)
        cases hs : n.after.any (live r)
        · have HS := Lib.hid hs
          clear hcell hn hs
          go_wp2_with (go_at_call 70; refine (containsSafe_any _ n.after _ _ r _ (by exact HI.out.below hbN (Nat.le_refl _)) (by exact (HV.out.below hbel (Nat.le_refl _)).below hbN (Nat.le_refl _)) (by exact (hbN.cell (p := ⟨w.heap.size, 0, none⟩) hszx).trans hxr)).mono ?_; rw [HS.out]; rintro e w2 ⟨rfl, hb2⟩)
          go_ret
          exact ⟨ret_bool (by unfold ringSafe; rw [safeB_false hlt (by rw [HN.out]; exact HS.out)]; simp), hbel.trans ((hbN.trans (hb2.mono hbN.size)).mono hsz)⟩
        · have HS := Lib.hid hs
          clear hcell hn hs
          go_wp2_with (go_at_call 70; refine (containsSafe_any _ n.after _ _ r _ (by exact HI.out.below hbN (Nat.le_refl _)) (by exact (HV.out.below hbel (Nat.le_refl _)).below hbN (Nat.le_refl _)) (by exact (hbN.cell (p := ⟨w.heap.size, 0, none⟩) hszx).trans hxr)).mono ?_; rw [HS.out]; rintro e w2 ⟨rfl, hb2⟩)
          go_roundw
          case rel =>
            refine ⟨k + 1, by omega, by go_num, Lib.hid fun j hj => ?_, hbel.trans ((hbN.trans (hb2.mono hbN.size)).mono hsz), hbx.trans ((hbN.trans (hb2.mono hbN.size)).mono hbx.size)⟩
            by_cases e : j = k
            · subst e; rw [HN.out]; exact HS.out
            · exact HA.out j (by omega)
          case measure => simp [intOf]; omega
      · obtain rfl : k = r.length := by omega
        have hszx : w.heap.size < wr.heap.size := Nat.lt_of_lt_of_le hsz1 hbx.size
        go_wp2_with (go_at_call 71; refine (iRingPrincipals_any _ r _ (by exact HV.out.below hbel (Nat.le_refl _)) HR.out).mono ?_; rintro e w2 ⟨u, rfl, hown, hb2⟩; obtain ⟨pu, cu, rfl, -⟩ := intsAt_own hown)
        go_ret
        exact ⟨ret_bool (by unfold ringSafe; rw [HR.out, safeB_end HA.out, Bool.true_and, decide_eq_decide]; omega), hbel.trans (hb2.mono hbel.size)⟩

end Go.Proofs.Ytojpfbbgpcafnaa
