/-
  Contracts: the drawn arguments of the laws about joining.
-/
import Derived.Test.YtojpfbbgpcafnaaDrawN
namespace Go.Proofs.Ytojpfbbgpcafnaa
open Go.RowKit

set_option maxHeartbeats 2000000 in
theorem drawRingJoin_any (v : Value) (w : World) (h : CodeAt w v) : Calls Try.prog 34 #[v] w (DrawnRing2 w) := by
  go_enter Try.func34, Try.ntmps34
  go_wp2_with (first | (go_at_call 41; refine (l6Open_any _ _ h).mono ?_; rintro e w1 ⟨rfl, hr1, hb1⟩) | (go_at_call 40; refine (l91Spoilt_any w.heap.size 0 _ hr1 (by omega)).mono ?_; rintro e w2 ⟨u, y, p2, rfl, hO, hs, hp2, hr2, hg2⟩; have HO := Lib.hid hO; have HS := Lib.hid hs; clear hO hs) | (go_at_call 73; refine (l91Member_any w.heap.size p2 _ y _ hr2 (by omega) HO.out HS.out.1 HS.out.2.1).mono ?_; rintro e w3 ⟨x3, p3, rfl, hp3, hr3, hg3⟩; have HO3 := Lib.hid (HO.out.grown hg3 (Nat.le_refl _)); have HB := Lib.hid (hb1.trans (below_grow (grow_trans hg2 hg3) (Nat.le_refl _) hb1.size))) | (go_at_call_of 74 (Value.int IntKind.i64 12); refine (pick_any w.heap.size p3 12 _ hr3 (by omega) (by omega) (by omega)).mono ?_; rintro e w4 ⟨c4, hc4, rfl, hr4, hg4⟩))
  all_goals
    go_wp2_with (first | (go_at_call_of 74 (Value.int IntKind.i64 10); refine (pick_any w.heap.size (p3 + 1) 10 _ hr4 (by omega) (by omega) (by omega)).mono ?_; rintro e w5 ⟨c5, hc5, rfl, hr5, hg5⟩) | (go_at_call 75; refine (l91Point_any w.heap.size (p3 + 1 + 1) _ hr5 (by omega)).mono ?_; rintro e w6 ⟨x6, p6, -, -, -, rfl, hr6, hg6⟩; have hg56 := grow_trans hg5 hg6))
    · go_ret3
      exact ⟨_, y, _, _, rfl, (HO3.out.grown (grow_trans hg4 hg56) (Nat.le_refl _)).at, HS.out, HB.out.trans (below_grow (grow_trans hg4 hg56) (Nat.le_refl _) HB.out.size)⟩
    · go_ret3
      exact ⟨_, y, _, _, rfl, (HO3.out.grown (grow_trans hg4 hg5) (Nat.le_refl _)).at, HS.out, HB.out.trans (below_grow (grow_trans hg4 hg5) (Nat.le_refl _) HB.out.size)⟩

end Go.Proofs.Ytojpfbbgpcafnaa
