/-
  Contracts: RingIds of the program.
-/
import Derived.Test.YtnoamohpkngbdaaIIds
import Derived.Test.YtnoamohpkngbdaaIRv
import Derived.Test.YtnoamohpkngbdaaIPr
import Derived.Test.YtnoamohpkngbdaaPlain
namespace Go.Proofs.Ytnoamohpkngbdaa
open Go.RowKit

def rIds (r : List Nd) : List Int := if ringValid r then r.map Nd.id else []
theorem iRingIds_any (v : Value) (r : List Nd) (w : World) (hv : RingAt w v r) : Calls Try.prog 22 #[v] w (IntsPost (rIds r) w) := by
  cases hr : ringValid r
  · have HR := Lib.hid hr
    have HI := Lib.hid (show rIds r = [] by unfold rIds; rw [hr]; rfl)
    rw [HI.out]
    clear hr
    go_enter Try.func22, Try.ntmps22
    go_wp2_with (go_at_call 24; refine (iRingValid_any _ r _ hv).mono ?_; rw [HR.out]; rintro e w1 ⟨rfl, hb1⟩)
    go_ret
    exact ⟨_, rfl, ⟨none, 0, rfl, Nat.le_refl _, by unfold maxLen; omega, .inl ⟨rfl, fun _ => rfl⟩⟩, hb1⟩
  · have HR := Lib.hid hr
    have hl10 := ringValid_len hr
    have HI := Lib.hid (show rIds r = r.map Nd.id by unfold rIds; rw [hr]; rfl)
    rw [HI.out]
    clear hr
    go_enter Try.func22, Try.ntmps22
    go_wp2_with (first | (go_at_call 24; refine (iRingValid_any _ r _ hv).mono ?_; rw [HR.out]; rintro e w1 ⟨rfl, hb1⟩) | (go_at_call 46; refine (idsOf_any _ r _ (hv.below hb1 (Nat.le_refl _)) (by omega)).mono ?_; rintro e w2 ⟨u2, rfl, hO2, hb2⟩))
    go_ret
    exact ⟨_, rfl, intsAt_own hO2, hb1.trans (hb2.mono hb1.size)⟩

end Go.Proofs.Ytnoamohpkngbdaa
