/-
  Contracts: l4Round, RingCalm of the reference.
-/
import Derived.Test.YtnoamohpkngbdaaSStabR
import Derived.Test.YtnoamohpkngbdaaSSame
import Derived.Test.YtnoamohpkngbdaaPlain
import Derived.Deep.LoopGhost
namespace Go.Proofs.Ytnoamohpkngbdaa
open Go.RowKit

set_option maxHeartbeats 1000000 in
theorem l4Round_any (v : Value) (r : List Nd) (w : World) (hv : RingAt w v r) (hs : ringSafe r = true) :
    Calls Try.prog 87 #[v] w fun e w' => ∃ u, e = .returned u ∧ RingAt w' u (roundK r) ∧ Below w.heap.size w w' := by
  have HS := Lib.hid hs
  have hr10 : r.length ≤ 10 := (safe_shape hs).1
  clear hs
  go_enter Try.func87, Try.ntmps87
  go_wp2
  go_loopw [0, 3] (fun s0 s3 wr => ∃ k : Nat, k ≤ r.length ∧ s3 = .int .i64 k ∧ RingAt wr s0 (roundTo r k) ∧ Below w.heap.size w wr) (fun _ s _ => r.length - (intOf s).toNat)
  case atStart => exact ⟨0, Nat.zero_le _, rfl, hv, Below.refl _ _⟩
  case round =>
    obtain ⟨k, hk, rfl, hat, hb⟩ := hrel
    have hF := roundTo_fine HS.out k hk
    have hlen := hF.len
    obtain ⟨p, cap, rfl⟩ := hat.form
    have HAT := Lib.hid hat
    clear hat
    obtain ⟨R, hR⟩ : ∃ x, roundTo r k = x := ⟨_, rfl⟩
    rw [hR] at HAT hF hlen ⊢
    have hz := hb.size
    by_cases hlt : k < r.length
    · have hlt' : k < R.length := by omega
      have HT := Lib.hid (show stabK R k = roundTo r (k + 1) by rw [← hR]; rfl)
      have HF := Lib.hid hF.1
      clear hR hF hlen
      go_wp2_with (first | (go_at_call 95; refine (l4Stabilize_any _ R k _ HAT.out HF.out hlt').mono ?_; rw [HT.out]; rintro e w1 ⟨u, rfl, hO1, hb1⟩))
      go_roundw
      case rel => exact ⟨k + 1, by omega, by go_num, hO1.at, hb.trans (hb1.mono hz)⟩
      case measure => simp [intOf]; omega
    · obtain rfl : k = r.length := by omega
      have HR := Lib.hid (show roundK r = R from hR)
      have hge : ¬ r.length < R.length := by omega
      clear hR hF hlen
      go_wp2
      go_ret
      exact ⟨_, rfl, by rw [HR.out]; exact HAT.out, hb⟩

theorem Fine.ids {r x : List Nd} (h : Fine r x) : x.map Nd.id = r.map Nd.id := h.2.1

set_option maxHeartbeats 1000000 in
theorem l4Calm_any (v : Value) (r : List Nd) (w : World) (hv : RingAt w v r) (hs : ringSafe r = true) :
    Calls Try.prog 82 #[v] w fun e w' => ∃ u, e = .returned u ∧ RingOwn w' w.heap.size u (idealR (r.map Nd.id)) ∧ Below w.heap.size w w' := by
  have HF0 := Lib.hid (Fine.refl hs)
  clear hs
  go_enter Try.func82, Try.ntmps82
  go_wp2
  go_loopg [0, 3, 4] (meas r + 1) (fun m s0 s3 _ wr => ∃ x, Hid (Fine r x) ∧ RingAt wr s0 x ∧ Below w.heap.size w wr ∧ ((s3 = .bool true ∧ m = meas x + 1) ∨ (s3 = .bool false ∧ Hid (roundK x = x))))
  case atStart => exact ⟨r, HF0, hv, Below.refl _ _, .inl ⟨rfl, rfl⟩⟩
  case round =>
    obtain ⟨x, HF, hat, hb, hcase⟩ := hrel
    have hz := hb.size
    rcases hcase with ⟨rfl, rfl⟩ | ⟨rfl, HQ⟩
    · cases hq : decide (roundK x = x)
      · have HN := Lib.hid (show roundK x ≠ x by simpa using hq)
        have HQ := Lib.hid hq
        have hm := round_meas HF.out.1 HN.out
        clear hq
        go_wp2_with (first | (go_at_call 87; refine (l4Round_any _ x _ hat HF.out.1).mono ?_; rintro e w1 ⟨u1, rfl, hat1, hb1⟩; have hat' := hat.below hb1 (Nat.le_refl _)) | (go_at_call 65; refine (l3Same_any _ _ _ _ _ hat1 hat').mono ?_; rw [HQ.out]; rintro e w2 ⟨rfl, hb2⟩))
        go_roundg (meas (roundK x) + 1)
        case rel => exact ⟨roundK x, Lib.hid (HF.out.trans (roundK_fine HF.out.1)), hat1.below hb2 (Nat.le_refl _), hb.trans ((hb1.trans (hb2.mono hb1.size)).mono hz), .inl ⟨rfl, rfl⟩⟩
        case measure => omega
      · have HN := Lib.hid (show roundK x = x by simpa using hq)
        have HQ := Lib.hid hq
        clear hq
        go_wp2_with (first | (go_at_call 87; refine (l4Round_any _ x _ hat HF.out.1).mono ?_; rintro e w1 ⟨u1, rfl, hat1, hb1⟩; have hat' := hat.below hb1 (Nat.le_refl _)) | (go_at_call 65; refine (l3Same_any _ _ _ _ _ hat1 hat').mono ?_; rw [HQ.out]; rintro e w2 ⟨rfl, hb2⟩))
        go_roundg (meas x)
        case rel => exact ⟨x, HF, by have := hat1.below hb2 (Nat.le_refl _); rw [HN.out] at this; exact this, hb.trans ((hb1.trans (hb2.mono hb1.size)).mono hz), .inr ⟨rfl, HN⟩⟩
        case measure => omega
    · have hsh := safe_shape HF.out.1
      have hr10 := hsh.1
      have HL := Lib.hid hsh.len
      have HI := Lib.hid (show x = idealR (r.map Nd.id) by rw [← HF.out.2.1]; exact rest_ideal HF.out.1 HQ.out)
      clear hsh
      go_wp2_with (first | (go_at_call 78; refine (l3Copy_any _ x _ hat (by omega) HL.out).mono ?_; rw [HI.out]; rintro e w3 ⟨u3, rfl, hO, hb3⟩))
      go_ret
      exact ⟨_, rfl, hO.mono hz, hb.trans (hb3.mono hz)⟩

set_option maxHeartbeats 1000000 in
theorem sRingCalm_any (v : Value) (r : List Nd) (w : World) (hv : RingAt w v r) :
    Calls Try.prog 63 #[v] w fun e w' => ∃ u, e = .returned u ∧ RingOwn w' w.heap.size u (rCalm r) ∧ Below w.heap.size w w' := by
  unfold rCalm
  cases hs : ringSafe r
  · have HS := Lib.hid hs
    clear hs
    go_enter Try.func63, Try.ntmps63
    go_wp2_with (first | (go_at_call 35; refine (sRingSafe_any _ r _ hv).mono ?_; rw [HS.out]; rintro e w1 ⟨rfl, hb1⟩))
    go_ret
    exact ⟨_, rfl, (RingOwn.made w1 _ rfl).mono hb1.size, hb1.alloc hb1.size _⟩
  · have HS := Lib.hid hs
    clear hs
    go_enter Try.func63, Try.ntmps63
    go_wp2_with (first | (go_at_call 35; refine (sRingSafe_any _ r _ hv).mono ?_; rw [HS.out]; rintro e w1 ⟨rfl, hb1⟩) | (go_at_call 82; refine (l4Calm_any _ r _ (hv.below hb1 (Nat.le_refl _)) HS.out).mono ?_; rintro e w2 ⟨u, rfl, hO, hb2⟩))
    go_ret
    exact ⟨_, rfl, hO.mono hb1.size, hb1.trans (hb2.mono hb1.size)⟩

end Go.Proofs.Ytnoamohpkngbdaa
