/-
  Contracts: a drawn safe ring.
-/
import Derived.Test.YtnoamohpkngbdaaDraw6
namespace Go.Proofs.Ytnoamohpkngbdaa
open Go.RowKit

set_option maxHeartbeats 2000000 in
theorem l91Ring_any (S p : Nat) (w : World) (h : RdAt w S p) (hp : p ≤ 50000) :
    Calls Try.prog 64 #[.pointer (some ⟨S, 0, none⟩)] w fun e w' => ∃ u y p', e = .returned u ∧ RingOwn w' (S + 1) u y ∧ ringSafe y = true ∧ p' ≤ p + 150 ∧ RdAt w' S p' ∧ w.grownBy w' (some S) := by
  go_enter Try.func64, Try.ntmps64
  go_wp2_with (first | (go_at_call 17; refine (sRingNew_any _ L _ hI.at).mono ?_; rw [HNO.out]; rintro e w2 ⟨u2, rfl, hO2, hb2⟩; have HO2 := Lib.hid (show RingOwn w2 (S + 1) u2 (idealR L) by have := hO2.mono hr1.lt; unfold rNew at this; rw [HNO.out] at this; exact this); have hr2 := hr1.below hb2 (Nat.le_refl _); have hg2 := grow_trans hg1 (grow_below hb2 (Nat.le_refl _)); clear hO2) | (go_at_call 66; refine (l91Good_any S p 3 _ h (by omega) (by omega) (by omega)).mono ?_; rintro e w1 ⟨u1, L, p1, rfl, hI, hA, hl3, hl10, hp1, hr1, hg1⟩; have HNO := Lib.hid (show rNewOk L = true by unfold rNewOk; rw [ndB_iff.2 ⟨by omega, hA.nodes hl10⟩, decide_eq_true hl3]; rfl); have HSF := Lib.hid (ideal_safe (hA.nodes hl10) hl3); have HI := Lib.hid hI))
  go_loopg [3, 5] 24 (fun m s3 s5 wr => ∃ (k : Nat) (x : List Nd) (pp : Nat), k ≤ 23 ∧ m = 24 - k ∧ s5 = .int .i64 k ∧ Hid (RingOwn wr (S + 1) s3 x) ∧ Hid (ringSafe x = true) ∧ pp ≤ p + 11 + 5 * k ∧ RdAt wr S pp ∧ Hid (w.grownBy wr (some S)))
  case atStart => exact ⟨0, _, p1, by omega, by omega, rfl, HO2, HSF, by omega, hr2, Lib.hid hg2⟩
  case round =>
    obtain ⟨k, x, pp, hk, rfl, rfl, HO, HS, hpp, hr, HG⟩ := hrel
    go_wp2_with (first | (have _ := hc3; go_at_call 83; refine (l91Step_any S (pp + 1) _ x _ hr3 (by omega) (by exact HO3.out) HS.out).mono ?_; rintro e w4 ⟨u4, y, p4, rfl, hO4, hs4, hp4, hr4, hg4⟩; have HO4 := Lib.hid hO4; have HS4 := Lib.hid hs4; have HG4 := Lib.hid (grow_trans HG3.out hg4); clear hO4 hs4) | (go_at_call 62; refine (pick_any S pp 24 _ hr (by omega) (by omega) (by omega)).mono ?_; rintro e w3 ⟨c3, hc3, rfl, hr3, hg3⟩; have HO3 := Lib.hid (HO.out.keeps (keeps_grow hg3)); have HG3 := Lib.hid (grow_trans HG.out hg3)))
    · have hkc : k < c3 := by assumption
      go_roundg (24 - (k + 1))
      case rel => exact ⟨k + 1, y, p4, by omega, rfl, by go_num, HO4, HS4, by omega, hr4, HG4⟩
      case measure => omega
    · go_ret
      exact ⟨_, x, pp + 1, rfl, HO3.out, HS.out, by omega, hr3, HG3.out⟩

end Go.Proofs.Ytnoamohpkngbdaa
