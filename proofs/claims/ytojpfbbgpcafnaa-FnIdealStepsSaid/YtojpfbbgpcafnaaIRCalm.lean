/-
  Contracts: RingCalm of the program.
-/
import Derived.Test.YtojpfbbgpcafnaaIRound
import Derived.Deep.LoopGhost
namespace Go.Proofs.Ytojpfbbgpcafnaa
open Go.RowKit

theorem rRound_safe {x : List Nd} (h : ringSafe x = true) : rRound x = roundK x := by unfold rRound; rw [h]; rfl
theorem rRound_no {x : List Nd} (h : ringSafe x = false) : rRound x = [] := by unfold rRound; rw [h]; rfl
theorem nil_unsafe : ringSafe [] = false := by decide

set_option maxHeartbeats 1000000 in
theorem iRingCalm_yes (v : Value) (r : List Nd) (w : World) (hv : RingAt w v r) (hs : ringSafe r = true) :
    Calls Try.prog 20 #[v] w fun e w' => ∃ u, e = .returned u ∧ RingOwn w' w.heap.size u (idealR (r.map Nd.id)) ∧ Below w.heap.size w w' := by
  have HF0 := Lib.hid (Fine.refl hs)
  have hsh := safe_shape hs
  have hr10 := hsh.1
  have HL := Lib.hid hsh.len
  clear hs hsh
  go_enter Try.func20, Try.ntmps20
  go_wp2_with (first | (go_at_call 42; refine (copyRing_any _ r _ hv (by omega) HL.out).mono ?_; rintro e w1 ⟨u1, rfl, hO1, hb1⟩; have hat1 := hO1.at; clear hO1))
  go_loopg [3, 4] (meas r) (fun m s3 _ wr => ∃ x, Hid (Fine r x) ∧ m = meas x ∧ RingAt wr s3 x ∧ Below w.heap.size w wr)
  case atStart => exact ⟨r, HF0, rfl, hat1, hb1⟩
  case round =>
    obtain ⟨x, HF, rfl, hat, hb⟩ := hrel
    have hz := hb.size
    cases hq : decide (roundK x = x)
    · have HN := Lib.hid (show roundK x ≠ x by simpa using hq)
      have HQ := Lib.hid hq
      have hm := round_meas HF.out.1 HN.out
      have HR := Lib.hid (rRound_safe HF.out.1)
      clear hq
      go_wp2_with (first | (go_at_call 14; refine (iRingRound_any _ x _ hat).mono ?_; rw [HR.out]; rintro e w2 ⟨u2, rfl, hO2, hb2⟩; have hat2 := hO2.at; clear hO2; have hat' := hat.below hb2 (Nat.le_refl _)) | (go_at_call 50; refine (iSameRing_any _ _ _ _ _ hat2 hat').mono ?_; rw [HQ.out]; rintro e w3 ⟨rfl, hb3⟩))
      go_roundg (meas (roundK x))
      case rel => exact ⟨roundK x, Lib.hid (HF.out.trans (roundK_fine HF.out.1)), rfl, hat2.below hb3 (Nat.le_refl _), hb.trans ((hb2.trans (hb3.mono hb2.size)).mono hz)⟩
      case measure => omega
    · have HN := Lib.hid (show roundK x = x by simpa using hq)
      have HQ := Lib.hid hq
      have HR := Lib.hid (rRound_safe HF.out.1)
      have HI := Lib.hid (show roundK x = idealR (r.map Nd.id) by rw [HN.out, ← HF.out.2.1]; exact rest_ideal HF.out.1 HN.out)
      clear hq
      go_wp2_with (first | (go_at_call 14; refine (iRingRound_any _ x _ hat).mono ?_; rw [HR.out]; rintro e w2 ⟨u2, rfl, hO2, hb2⟩; have HO2 := Lib.hid hO2; clear hO2; have hat' := hat.below hb2 (Nat.le_refl _)) | (go_at_call 50; refine (iSameRing_any _ _ _ _ _ HO2.out.at hat').mono ?_; rw [HQ.out]; rintro e w3 ⟨rfl, hb3⟩))
      go_ret
      exact ⟨_, rfl, by rw [← HI.out]; exact (HO2.out.below hb3 (Nat.le_refl _)).mono hz, hb.trans ((hb2.trans (hb3.mono hb2.size)).mono hz)⟩

set_option maxHeartbeats 1000000 in
theorem iRingCalm_no (v : Value) (r : List Nd) (w : World) (hv : RingAt w v r) (hs : ringSafe r = false) (hbig : r.length ≤ 1048576) (hbig2 : ∀ i, i < r.length → (r.getD i default).after.length ≤ 1048576) :
    Calls Try.prog 20 #[v] w fun e w' => ∃ u, e = .returned u ∧ RingOwn w' w.heap.size u [] ∧ Below w.heap.size w w' := by
  have HU := Lib.hid hs
  have HL := Lib.hid hbig2
  clear hs hbig2
  go_enter Try.func20, Try.ntmps20
  go_wp2_with (first | (go_at_call 42; refine (copyRing_any _ r _ hv hbig HL.out).mono ?_; rintro e w1 ⟨u1, rfl, hO1, hb1⟩; have hat1 := hO1.at; clear hO1))
  go_loopg [3, 4] 1 (fun m s3 _ wr => ∃ x, Hid (ringSafe x = false ∧ ((x = r ∧ m = 1) ∨ (x = [] ∧ m = 0))) ∧ RingAt wr s3 x ∧ Below w.heap.size w wr)
  case atStart => exact ⟨r, Lib.hid ⟨HU.out, .inl ⟨rfl, rfl⟩⟩, hat1, hb1⟩
  case round =>
    obtain ⟨x, HX, hat, hb⟩ := hrel
    have hz := hb.size
    have HR := Lib.hid (rRound_no HX.out.1)
    cases hq : decide (([] : List Nd) = x)
    · have HQ := Lib.hid hq
      have hm : 0 < gk := by
        rcases HX.out.2 with ⟨-, h⟩ | ⟨h, -⟩
        · omega
        · rw [h] at hq; simp at hq
      clear hq
      go_wp2_with (first | (go_at_call 14; refine (iRingRound_any _ x _ hat).mono ?_; rw [HR.out]; rintro e w2 ⟨u2, rfl, hO2, hb2⟩; have hat2 := hO2.at; clear hO2; have hat' := hat.below hb2 (Nat.le_refl _)) | (go_at_call 50; refine (iSameRing_any _ _ _ _ _ hat2 hat').mono ?_; rw [HQ.out]; rintro e w3 ⟨rfl, hb3⟩))
      go_roundg 0
      case rel => exact ⟨[], Lib.hid ⟨nil_unsafe, .inr ⟨rfl, rfl⟩⟩, hat2.below hb3 (Nat.le_refl _), hb.trans ((hb2.trans (hb3.mono hb2.size)).mono hz)⟩
      case measure => omega
    · have HQ := Lib.hid hq
      clear hq
      go_wp2_with (first | (go_at_call 14; refine (iRingRound_any _ x _ hat).mono ?_; rw [HR.out]; rintro e w2 ⟨u2, rfl, hO2, hb2⟩; have HO2 := Lib.hid hO2; clear hO2; have hat' := hat.below hb2 (Nat.le_refl _)) | (go_at_call 50; refine (iSameRing_any _ _ _ _ _ HO2.out.at hat').mono ?_; rw [HQ.out]; rintro e w3 ⟨rfl, hb3⟩))
      go_ret
      exact ⟨_, rfl, (HO2.out.below hb3 (Nat.le_refl _)).mono hz, hb.trans ((hb2.trans (hb3.mono hb2.size)).mono hz)⟩

theorem iRingCalm_any (v : Value) (r : List Nd) (w : World) (hv : RingAt w v r) (hbig : r.length ≤ 1048576) (hbig2 : ∀ i, i < r.length → (r.getD i default).after.length ≤ 1048576) :
    Calls Try.prog 20 #[v] w fun e w' => ∃ u, e = .returned u ∧ RingOwn w' w.heap.size u (rCalm r) ∧ Below w.heap.size w w' := by
  unfold rCalm
  cases hs : ringSafe r
  · exact iRingCalm_no v r w hv hs hbig hbig2
  · exact iRingCalm_yes v r w hv hs

end Go.Proofs.Ytojpfbbgpcafnaa
