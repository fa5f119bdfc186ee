/-
  Contracts: RingIds of the reference.
-/
import Derived.Test.YtnoamohpkngbdaaSIds
import Derived.Test.YtnoamohpkngbdaaIRIds
import Derived.Test.YtnoamohpkngbdaaRv
namespace Go.Proofs.Ytnoamohpkngbdaa
open Go.RowKit

theorem sRingIds_any (v : Value) (r : List Nd) (w : World) (hv : RingAt w v r) : Calls Try.prog 27 #[v] w (IntsPost (rIds r) w) := by
  cases hr : ringValid r
  · have HR := Lib.hid hr
    have HI := Lib.hid (show rIds r = [] by unfold rIds; rw [hr]; rfl)
    rw [HI.out]
    clear hr
    go_enter Try.func27, Try.ntmps27
    go_wp2_with (go_at_call 25; refine (sRingValid_any _ r _ hv).mono ?_; rw [HR.out]; rintro e w1 ⟨rfl, hb1⟩)
    go_ret
    exact ⟨_, rfl, intsAt_newN w1 3 [] _ w1.heap.size rfl rfl (by simp), hb1.alloc hb1.size _⟩
  · have HR := Lib.hid hr
    have hl10 := ringValid_len hr
    have HI := Lib.hid (show rIds r = r.map Nd.id by unfold rIds; rw [hr]; rfl)
    rw [HI.out]
    clear hr
    go_enter Try.func27, Try.ntmps27
    go_wp2_with (first | (go_at_call 25; refine (sRingValid_any _ r _ hv).mono ?_; rw [HR.out]; rintro e w1 ⟨rfl, hb1⟩) | (go_at_call 55; refine (l3Ids_any _ r _ (hv.below hb1 (Nat.le_refl _)) (by omega)).mono ?_; rintro e w2 ⟨u2, rfl, hO2, hb2⟩))
    go_ret
    exact ⟨_, rfl, intsAt_own hO2, hb1.trans (hb2.mono hb1.size)⟩

end Go.Proofs.Ytnoamohpkngbdaa
