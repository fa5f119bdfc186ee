/-
  Contracts: RingSafe of the reference.
-/
import Derived.Test.YtojpfbbgpcafnaaPrin
import Derived.Test.YtojpfbbgpcafnaaRv
namespace Go.Proofs.Ytojpfbbgpcafnaa
open Go.RowKit

set_option maxHeartbeats 1000000 in
theorem l3Safe_any (v : Value) (r : List Nd) (w : World) (hv : RingAt w v r) (hbig : r.length ≤ 1048576) (h2 : ∀ j, j < r.length → (r.getD j default).after.length = 2) :
    Calls Try.prog 47 #[v] w fun e w' => e = .returned (.bool (safeB r)) ∧ Below w.heap.size w w' := by
  have HV := Lib.hid hv
  obtain ⟨p, cap, rfl, hc, hm, h4⟩ := hv
  unfold maxLen at hm
  go_enter Try.func47, Try.ntmps47
  go_wp2
  go_loop [2, 3, 4, 5] (fun _ s3 _ _ => ∃ k : Nat, k ≤ r.length ∧ s3 = .int .i64 k ∧ Hid (∀ j, j < k → (r.getD j default).after.any (live r) = true)) (fun _ s _ _ => r.length - (intOf s).toNat)
  case atStart => exact ⟨0, Nat.zero_le _, rfl, Lib.hid fun j hj => by omega⟩
  case round =>
    obtain ⟨k, hk, rfl, HA⟩ := hrel
    by_cases hlt : k < r.length
    · rcases h4 with ⟨rfl, -⟩ | ⟨b, o, rfl, hb, hcell⟩
      · simp at hlt
      obtain ⟨-, -, va, h3, hia⟩ := hcell k hlt
      obtain ⟨af, haf⟩ : ∃ x, (r.getD k default).after = x := ⟨_, rfl⟩
      have hl := h2 k hlt
      rw [haf] at hia hl
      have HAF := Lib.hid haf
      have HH := Lib.hid h2
      clear hcell h2 haf
      obtain ⟨pa, capa, rfl, hca, hma, ha4⟩ := hia
      unfold maxLen at hma
      rcases ha4 with ⟨rfl, -⟩ | ⟨b', o', rfl, hb', hcell'⟩
      · simp at hl
      have HL := Lib.hid hl
      have hca2 : 2 ≤ capa := by omega
      rw [hl] at h3
      clear hl hca
      go_wp2
      go_loop [4, 5] (fun s4 s5 => ∃ j : Nat, j ≤ 2 ∧ s5 = .int .i64 j ∧ s4 = .bool (liveTo r af j)) (fun _ s => 2 - (intOf s).toNat)
      case atStart => exact ⟨0, Nat.zero_le _, rfl, by rw [liveTo_zero]⟩
      case round =>
        obtain ⟨j, hj, rfl, rfl⟩ := hrel
        by_cases hjl : j < 2
        · have hj' : j < af.length := by have := HL.out; omega
          have h1 := hcell' j hj'
          obtain ⟨t, ht⟩ : ∃ y, af.getD j 0 = y := ⟨_, rfl⟩
          have HS := Lib.hid (liveTo_succ (r := r) hj')
          rw [ht] at h1 HS
          have HF := Lib.hid (fnd_live r t)
          clear hcell' ht
          cases hlv : liveTo r af j
          · rw [hlv, Bool.false_or] at HS
            go_wp2_with (go_at_call 79; refine (l3Find_any _ r t _ HV.out).mono ?_; rintro e w' ⟨rfl, rfl⟩)
            go_round
            case rel => exact ⟨j + 1, by omega, by go_num, by rw [HS.out, HF.out]⟩
            case measure => simp [intOf]; omega
          · rw [hlv, Bool.true_or] at HS
            go_wp2
            go_round
            case rel => exact ⟨j + 1, by omega, by go_num, by rw [HS.out]⟩
            case measure => simp [intOf]; omega
        · have hj2 : j = 2 := by omega
          subst hj2
          have hE := liveTo_all (r := r) (xs := af) (k := 2) (by have := HL.out; omega)
          have HE := Lib.hid hE
          clear hE hcell'
          cases hlv : liveTo r af 2
          · rw [hlv] at HE
            go_wp2
            go_ret
            exact ⟨ret_bool (safeB_false hlt (by rw [HAF.out]; exact HE.out.symm)).symm, Below.refl _ _⟩
          · rw [hlv] at HE
            go_wp2
            go_round
            case rel =>
              refine ⟨k + 1, by omega, by go_num, Lib.hid fun j hj => ?_⟩
              by_cases e : j = k
              · subst e; rw [HAF.out]; exact HE.out.symm
              · exact HA.out j (by omega)
            case measure => simp [intOf]; omega
    · obtain rfl : k = r.length := by omega
      go_wp2_with (go_at_call 84; refine (l3Principals_any _ r _ HV.out hbig).mono ?_; rintro e w' ⟨u, rfl, hown, hbel⟩; obtain ⟨pu, cu, rfl, -⟩ := intsAt_own hown)
      go_ret
      exact ⟨ret_bool (by rw [safeB_end HA.out, decide_eq_decide]; omega), hbel⟩

set_option maxHeartbeats 400000 in
theorem sRingSafe_any (v : Value) (r : List Nd) (w : World) (hv : RingAt w v r) :
    Calls Try.prog 17 #[v] w fun e w' => e = .returned (.bool (ringSafe r)) ∧ Below w.heap.size w w' := by
  cases hrv : ringValid r
  · have HR := Lib.hid hrv
    clear hrv
    go_enter Try.func17, Try.ntmps17
    go_wp2_with (go_at_call 46; refine (sRingValid_any _ r _ hv).mono ?_; rw [HR.out]; rintro e w1 ⟨rfl, hb1⟩)
    go_ret
    exact ⟨ret_bool (by unfold ringSafe; rw [HR.out]; rfl), hb1⟩
  · have HR := Lib.hid hrv
    clear hrv
    go_enter Try.func17, Try.ntmps17
    go_wp2_with (first | (go_at_call 46; refine (sRingValid_any _ r _ hv).mono ?_; rw [HR.out]; rintro e w1 ⟨rfl, hb1⟩) | (go_at_call 47; refine (l3Safe_any _ r _ (hv.below hb1 (Nat.le_refl _)) (by have := ringValid_len HR.out; omega) (ringValid_after HR.out)).mono ?_; rintro e w2 ⟨rfl, hb2⟩))
    go_ret
    exact ⟨ret_bool (by unfold ringSafe; rw [HR.out]; rfl), hb1.trans (hb2.mono hb1.size)⟩

end Go.Proofs.Ytojpfbbgpcafnaa
