/-
  Contracts: whether marks are still there.
-/
import Derived.Test.YtfgfoikcpijjdaaLawMk
namespace Go.Proofs.Ytfgfoikcpijjdaa
open Go.RowKit

set_option maxHeartbeats 1000000 in
theorem heldIntS_any (v : Value) (n : Nat) (k0 : Int) (w : World) (hv : IntsAt w v (marks k0 n)) (h0 : 0 ≤ k0) (h1 : k0 + n ≤ 1000000000000000) :
    Calls Try.prog 47 #[v, .int .i64 k0] w fun e w' => e = .returned (.int .i64 (k0 + n)) ∧ w = w' := by
  obtain ⟨p, cap, rfl, hc, hm, h4⟩ := hv
  rw [marks_length] at hc ⊢
  unfold maxLen at hm
  go_enter Try.func47, Try.ntmps47
  go_wp2
  go_loop [1, 4, 5] (fun s1 _ s5 => ∃ i : Nat, i ≤ n ∧ s5 = .int .i64 i ∧ s1 = .int .i64 (k0 + i)) (fun _ _ s => n - (intOf s).toNat)
  case atStart => exact ⟨0, Nat.zero_le _, rfl, by simp⟩
  case round =>
    obtain ⟨i, hi, rfl, rfl⟩ := hrel
    by_cases hlt : i < n
    · rcases h4 with ⟨h5, -⟩ | ⟨b, o, rfl, hb, hcell⟩
      · have := marks_length k0 n; rw [h5] at this; simp at this; omega
      have hce := hcell i (by rw [marks_length]; exact hlt)
      rw [marks_get hlt] at hce
      clear hcell
      go_wp2
      go_round
      case rel => exact ⟨i + 1, by omega, by go_num, by go_num⟩
      case measure => simp [intOf]; omega
    · obtain rfl : i = n := by omega
      go_wp2
      go_ret
      exact ⟨rfl, rfl⟩

set_option maxHeartbeats 1000000 in
theorem heldNodeS_any (v : Value) (r : List Nd) (k0 : Int) (w : World) (hv : RingAt w v (markR r k0)) (h0 : 0 ≤ k0) (h1 : k0 + cnt r ≤ 1000000000000000) :
    Calls Try.prog 18 #[v, .int .i64 k0] w fun e w' => e = .returned (.int .i64 (k0 + cnt r)) ∧ w = w' := by
  obtain ⟨p, cap, rfl, hc, hm, h4⟩ := hv
  rw [markR_length] at hc ⊢
  unfold maxLen at hm
  go_enter Try.func18, Try.ntmps18
  go_wp2
  go_loop [1, 4, 5] (fun s1 _ s5 => ∃ i : Nat, i ≤ r.length ∧ s5 = .int .i64 i ∧ s1 = .int .i64 (k0 + cnt (r.take i))) (fun _ _ s => r.length - (intOf s).toNat)
  case atStart => exact ⟨0, Nat.zero_le _, rfl, by simp [cnt]⟩
  case round =>
    obtain ⟨i, hi, rfl, rfl⟩ := hrel
    by_cases hlt : i < r.length
    · rcases h4 with ⟨h5, -⟩ | ⟨b, o, rfl, hb, hcell⟩
      · have := markR_length r k0; rw [h5] at this; simp at this; omega
      obtain ⟨c0, c1, va, c2, hia⟩ := hcell i (by rw [markR_length]; exact hlt)
      rw [markR_getD k0 hlt] at c0 c1 hia
      have hcs := cnt_succ hlt
      have hct := cnt_take_le r (i + 1)
      have hcn := cnt_nonneg (r.take i)
      obtain ⟨n, hn⟩ : ∃ n, (r.getD i default).after.length = n := ⟨_, rfl⟩
      obtain ⟨k, hk⟩ : ∃ k, k0 + cnt (r.take i) = k := ⟨_, rfl⟩
      have e2 : k + 2 = k + 1 + 1 := by omega
      simp only [markNd] at c0 c1 hia
      rw [hk] at c0 c1 hia
      rw [hn, e2] at hia
      rw [hn] at hcs
      have hk0 : 0 ≤ k := by omega
      have hk1 : k + 2 + n ≤ 1000000000000000 := by omega
      have HKN := Lib.hid (show k0 + cnt (r.take (i + 1)) = k + 1 + 1 + n by omega)
      have HI := Lib.hid hia
      obtain ⟨pa, ca, rfl, -, -, -⟩ := hia
      rw [marks_length] at c2 HI
      rw [hk]
      clear hcell hcs hct hcn hn hk e2
      go_wp2_with (go_at_call 47; refine (heldIntS_any _ n (k + 1 + 1) _ HI.out (by omega) (by omega)).mono ?_; rintro e w' ⟨rfl, rfl⟩)
      go_round
      case rel => exact ⟨i + 1, by omega, by go_num, by rw [HKN.out]⟩
      case measure => simp [intOf]; omega
    · obtain rfl : i = r.length := by omega
      have hct : cnt (r.take r.length) = cnt r := by rw [List.take_length]
      rw [hct]
      clear hct
      go_wp2
      go_ret
      exact ⟨rfl, rfl⟩

end Go.Proofs.Ytfgfoikcpijjdaa
