/-
  Contracts: RingStabilize, RingRound, RingCalm of the program.
-/
import Derived.Test.YtojpfbbgpcafnaaIStab2
import Derived.Test.YtojpfbbgpcafnaaISame
import Derived.Test.YtojpfbbgpcafnaaIIds
import Derived.Test.YtojpfbbgpcafnaaPlain
namespace Go.Proofs.Ytojpfbbgpcafnaa
open Go.RowKit

theorem iRingStabilize_any (v : Value) (r : List Nd) (id : Int) (w : World) (hv : RingAt w v r) :
    Calls Try.prog 22 #[v, .int .i64 id] w fun e w' => ∃ u, e = .returned (.tuple #[u, .bool (rStabOk r id)]) ∧ RingOwn w' w.heap.size u (rStab r id) ∧ Below w.heap.size w w' := by
  cases hc : (ringSafe r && okP id)
  · exact iRingStabilize_no v r id w hv hc
  · have h := hc
    simp only [Bool.and_eq_true] at h
    rcases fnd_cases r id with ⟨hf, -⟩ | ⟨k, hk, hf, -, -⟩
    · exact iRingStabilize_miss v r id w hv h.1 h.2 hf
    · have := iRingStabilize_hit v r id k w hv h.1 h.2 hf hk
      unfold rStabOk rStab
      rw [stepR_hit hc hf, stepB_hit hc hf]
      exact this

theorem rStab_at {r R : List Nd} {k : Nat} (hF : Fine r R) (hk : k < r.length) : rStab R (r.getD k default).id = stabK R k ∧ rStabOk R (r.getD k default).id = true := by
  have hv := safe_valid hF.1
  have hk' : k < R.length := by rw [hF.len]; exact hk
  have hi := hF.id_eq k
  have ho : okP (r.getD k default).id = true := by rw [← hi]; exact (valid_node hv (getD_mem hk')).1
  have hf : fnd R (r.getD k default).id = (k : Int) := by rw [← hi]; exact fnd_self hv hk'
  exact stepAt (c := ringSafe R && okP (r.getD k default).id) (by rw [hF.1, ho]; rfl) hf (fun j => stabK R j) (fun _ => true)

set_option maxHeartbeats 1000000 in
theorem iRingRound_any (v : Value) (r : List Nd) (w : World) (hv : RingAt w v r) :
    Calls Try.prog 14 #[v] w fun e w' => ∃ u, e = .returned u ∧ RingOwn w' w.heap.size u (rRound r) ∧ Below w.heap.size w w' := by
  unfold rRound
  cases hs : ringSafe r
  · have HS := Lib.hid hs
    clear hs
    go_enter Try.func14, Try.ntmps14
    go_wp2_with (first | (go_at_call 32; refine (iRingSafe_any _ r _ hv).mono ?_; rw [HS.out]; rintro e w1 ⟨rfl, hb1⟩))
    go_ret
    exact ⟨_, rfl, RingOwn.nil _ _, hb1⟩
  · have HS := Lib.hid hs
    have hsh := safe_shape hs
    have hr10 := hsh.1
    have HL := Lib.hid hsh.len
    clear hs hsh
    go_enter Try.func14, Try.ntmps14
    go_wp2_with (first | (go_at_call 32; refine (iRingSafe_any _ r _ hv).mono ?_; rw [HS.out]; rintro e w1 ⟨rfl, hb1⟩) | (go_at_call 42; refine (copyRing_any _ r _ (hv.below hb1 (Nat.le_refl _)) (by omega) HL.out).mono ?_; rintro e w2 ⟨u2, rfl, hO2, hb2⟩; have hb12 := hb1.trans (hb2.mono hb1.size); have hz2 := hb12.size) | (go_at_call 43; refine (idsOf_any _ r _ (hv.below hb12 (Nat.le_refl _)) (by omega)).mono ?_; rintro e w3 ⟨u3, rfl, hI, hb3⟩; have hb13 := hb12.trans (hb3.mono hz2); have hz3 := hb13.size; have HO3 := Lib.hid ((hO2.below hb3 (Nat.le_refl _)).mono hb1.size); have HI := Lib.hid (intsAt_own hI); obtain ⟨p, cap, rfl, hc1, hc2, hc4⟩ := intsAt_own hI; clear hI))
    have hlen : (r.map Nd.id).length = r.length := by simp
    rw [hlen] at hc1 hc4
    unfold maxLen at hc2
    clear hO2 hb1 hb2 hb3
    go_loopw [3, 5, 6, 7, 16] (fun s3 _ _ _ s16 wr => ∃ k : Nat, k ≤ r.length ∧ s16 = .int .i64 k ∧ Hid (RingOwn wr w.heap.size s3 (roundTo r k)) ∧ Below w.heap.size w wr ∧ Below w3.heap.size w3 wr) (fun _ _ _ _ s _ => r.length - (intOf s).toNat)
    case atStart => exact ⟨0, Nat.zero_le _, rfl, HO3, hb13, Below.refl _ _⟩
    case round =>
      obtain ⟨k, hk, rfl, HO, hb, hb3⟩ := hrel
      have hz := hb.size
      by_cases hlt : k < r.length
      · rcases hc4 with ⟨h0, -⟩ | ⟨b, o, rfl, hbl, hcell⟩
        · simp at h0; simp [h0] at hlt
        have hc := (hb3.cell (p := ⟨b, o + k, none⟩) hbl).trans (hcell k hlt)
        have hF := roundTo_fine HS.out k hk
        obtain ⟨h1, h2⟩ := rStab_at hF hlt
        have hg : (r.map Nd.id).getD k 0 = (r.getD k default).id := by simp [hlt]
        rw [hg] at hc
        obtain ⟨id, hid⟩ : ∃ x, (r.getD k default).id = x := ⟨_, rfl⟩
        rw [hid] at hc h1 h2
        have H1 := Lib.hid (show rStab (roundTo r k) id = roundTo r (k + 1) from h1)
        have H2 := Lib.hid h2
        clear hcell h1 h2 hF hg hid
        go_wp2_with (first | (go_at_call 22; refine (iRingStabilize_any _ (roundTo r k) id _ HO.out.at).mono ?_; rw [H1.out, H2.out]; rintro e w4 ⟨u4, rfl, hO4, hb4⟩; have HO4 := Lib.hid (hO4.mono hz); clear hO4))
        go_roundw
        case rel => exact ⟨k + 1, by omega, by go_num, HO4, hb.trans (hb4.mono hz), hb3.trans (hb4.mono hb3.size)⟩
        case measure => simp [intOf]; omega
      · obtain rfl : k = r.length := by omega
        go_wp2
        go_ret
        exact ⟨_, rfl, HO.out, hb⟩

end Go.Proofs.Ytojpfbbgpcafnaa
