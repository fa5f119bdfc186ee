/-
  Contracts: the drawn rings of the laws.
-/
import Derived.Test.YtnoamohpkngbdaaDraw8
import Derived.Test.YtnoamohpkngbdaaSCalm
namespace Go.Proofs.Ytnoamohpkngbdaa
open Go.RowKit

def DrawnRing (w : World) (e : Ending) (w' : World) : Prop := ∃ u y, e = .returned u ∧ RingAt w' u y ∧ Small y ∧ Below w.heap.size w w'

theorem drawRingValid_any (v : Value) (w : World) (h : CodeAt w v) : Calls Try.prog 23 #[v] w (DrawnRing w) := by
  go_enter Try.func23, Try.ntmps23
  go_wp2_with (first | (go_at_call 41; refine (l6Open_any _ _ h).mono ?_; rintro e w1 ⟨rfl, hr1, hb1⟩) | (go_at_call 51; refine (l91Spoilt_any w.heap.size 0 _ hr1 (by omega)).mono ?_; rintro e w2 ⟨u, y, p2, rfl, hO, hs, hp2, hr2, hg2⟩; have HO := Lib.hid hO; have HS := Lib.hid hs; have HB := Lib.hid (hb1.trans (below_grow hg2 (Nat.le_refl _) hb1.size)); clear hO hs))
  go_ret
  exact ⟨_, _, rfl, HO.out.at, HS.out, HB.out⟩

theorem drawRingIds_any (v : Value) (w : World) (h : CodeAt w v) : Calls Try.prog 26 #[v] w (DrawnRing w) := by
  go_enter Try.func26, Try.ntmps26
  go_wp2_with (first | (go_at_call 41; refine (l6Open_any _ _ h).mono ?_; rintro e w1 ⟨rfl, hr1, hb1⟩) | (go_at_call 51; refine (l91Spoilt_any w.heap.size 0 _ hr1 (by omega)).mono ?_; rintro e w2 ⟨u, y, p2, rfl, hO, hs, hp2, hr2, hg2⟩; have HO := Lib.hid hO; have HS := Lib.hid hs; have HB := Lib.hid (hb1.trans (below_grow hg2 (Nat.le_refl _) hb1.size)); clear hO hs))
  go_ret
  exact ⟨_, _, rfl, HO.out.at, HS.out, HB.out⟩

theorem drawRingPrincipals_any (v : Value) (w : World) (h : CodeAt w v) : Calls Try.prog 28 #[v] w (DrawnRing w) := by
  go_enter Try.func28, Try.ntmps28
  go_wp2_with (first | (go_at_call 41; refine (l6Open_any _ _ h).mono ?_; rintro e w1 ⟨rfl, hr1, hb1⟩) | (go_at_call 51; refine (l91Spoilt_any w.heap.size 0 _ hr1 (by omega)).mono ?_; rintro e w2 ⟨u, y, p2, rfl, hO, hs, hp2, hr2, hg2⟩; have HO := Lib.hid hO; have HS := Lib.hid hs; have HB := Lib.hid (hb1.trans (below_grow hg2 (Nat.le_refl _) hb1.size)); clear hO hs))
  go_ret
  exact ⟨_, _, rfl, HO.out.at, HS.out, HB.out⟩

theorem drawRingSafe_any (v : Value) (w : World) (h : CodeAt w v) : Calls Try.prog 34 #[v] w (DrawnRing w) := by
  go_enter Try.func34, Try.ntmps34
  go_wp2_with (first | (go_at_call 41; refine (l6Open_any _ _ h).mono ?_; rintro e w1 ⟨rfl, hr1, hb1⟩) | (go_at_call 51; refine (l91Spoilt_any w.heap.size 0 _ hr1 (by omega)).mono ?_; rintro e w2 ⟨u, y, p2, rfl, hO, hs, hp2, hr2, hg2⟩; have HO := Lib.hid hO; have HS := Lib.hid hs; have HB := Lib.hid (hb1.trans (below_grow hg2 (Nat.le_refl _) hb1.size)); clear hO hs))
  go_ret
  exact ⟨_, _, rfl, HO.out.at, HS.out, HB.out⟩

set_option maxHeartbeats 1000000 in
theorem drawRingIdeal_any (v : Value) (w : World) (h : CodeAt w v) : Calls Try.prog 36 #[v] w (DrawnRing w) := by
  go_enter Try.func36, Try.ntmps36
  go_wp2_with (first | (go_at_call 41; refine (l6Open_any _ _ h).mono ?_; rintro e w1 ⟨rfl, hr1, hb1⟩) | (go_at_call 62; refine (pick_any w.heap.size 0 2 _ hr1 (by omega) (by omega) (by omega)).mono ?_; rintro e w2 ⟨c2, hc2, rfl, hr2, hg2⟩) | (go_at_call 51; refine (l91Spoilt_any w.heap.size (0 + 1) _ hr2 (by omega)).mono ?_; rintro e w3 ⟨u, y, p3, rfl, hO, hs, hp3, hr3, hg3⟩; have HO := Lib.hid hO.at; have HS := Lib.hid hs; have HB := Lib.hid (hb1.trans (below_grow (grow_trans hg2 hg3) (Nat.le_refl _) hb1.size)); clear hO hs) | (go_at_call 64; refine (l91Ring_any w.heap.size (0 + 1) _ hr2 (by omega)).mono ?_; rintro e w3 ⟨u3, y3, p3, rfl, hO3, hs3, hp3, hr3, hg3⟩; have HO3 := Lib.hid hO3; have HS3 := Lib.hid hs3; have HB3 := Lib.hid (hb1.trans (below_grow (grow_trans hg2 hg3) (Nat.le_refl _) hb1.size)); clear hO3 hs3) | (go_at_call 63; refine (sRingCalm_any _ y3 _ (by exact HO3.out.at)).mono ?_; rintro e w4 ⟨u, rfl, hO4, hb4⟩; have HO := Lib.hid hO4.at; have HS := Lib.hid (Small.shape (rCalm_safe HS3.out)); have HB := Lib.hid (HB3.out.trans (hb4.mono HB3.out.size)); clear hO4))
  all_goals
    go_ret
    exact ⟨_, _, rfl, HO.out, HS.out, HB.out⟩

end Go.Proofs.Ytnoamohpkngbdaa
