/-
  Contracts: the drawn arguments of the steps' laws.
-/
import Derived.Test.YtadplndoopkdgaaDrawN
namespace Go.Proofs.Ytadplndoopkdgaa
open Go.RowKit

set_option maxHeartbeats 1000000 in
theorem drawRingFail_any (v : Value) (w : World) (h : CodeAt w v) : Calls Try.prog 30 #[v] w (DrawnRing1 w) := by
  go_enter Try.func30, Try.ntmps30
  go_wp2_with (first | (go_at_call 38; refine (l6Open_any _ _ h).mono ?_; rintro e w1 ⟨rfl, hr1, hb1⟩) | (go_at_call 39; refine (l91Spoilt_any w.heap.size 0 _ hr1 (by omega)).mono ?_; rintro e w2 ⟨u, y, p2, rfl, hO, hs, hp2, hr2, hg2⟩; have HO := Lib.hid hO; have HS := Lib.hid hs; clear hO hs) | (go_at_call 40; refine (l91Member_any w.heap.size p2 _ y _ hr2 (by omega) HO.out HS.out.1 HS.out.2.1).mono ?_; rintro e w3 ⟨x3, p3, rfl, hp3, hr3, hg3⟩; have HO3 := Lib.hid (HO.out.grown hg3 (Nat.le_refl _)); have HB := Lib.hid (hb1.trans (below_grow (grow_trans hg2 hg3) (Nat.le_refl _) hb1.size))))
  go_ret2
  exact ⟨_, y, _, rfl, HO3.out.at, HS.out, HB.out⟩

set_option maxHeartbeats 1000000 in
theorem drawRingCloser_any (v : Value) (w : World) (h : CodeAt w v) : Calls Try.prog 14 #[v] w (DrawnRing2 w) := by
  go_enter Try.func14, Try.ntmps14
  go_wp2_with (first | (go_at_call 38; refine (l6Open_any _ _ h).mono ?_; rintro e w1 ⟨rfl, hr1, hb1⟩) | (go_at_call 39; refine (l91Spoilt_any w.heap.size 0 _ hr1 (by omega)).mono ?_; rintro e w2 ⟨u, y, p2, rfl, hO, hs, hp2, hr2, hg2⟩; have HO := Lib.hid hO; have HS := Lib.hid hs; clear hO hs) | (have _ := hr3; go_at_call 40; refine (l91Member_any w.heap.size p3 _ y _ hr3 (by omega) HO3.out HS.out.1 HS.out.2.1).mono ?_; rintro e w4 ⟨x4, p4, rfl, hp4, hr4, hg4⟩; have HO4 := Lib.hid (HO3.out.grown hg4 (Nat.le_refl _)); have HB := Lib.hid (hb1.trans (below_grow (grow_trans hg2 (grow_trans hg3 hg4)) (Nat.le_refl _) hb1.size))) | (go_at_call 40; refine (l91Member_any w.heap.size p2 _ y _ hr2 (by omega) HO.out HS.out.1 HS.out.2.1).mono ?_; rintro e w3 ⟨x3, p3, rfl, hp3, hr3, hg3⟩; have HO3 := Lib.hid (HO.out.grown hg3 (Nat.le_refl _))))
  go_ret3
  exact ⟨_, y, _, _, rfl, HO4.out.at, HS.out, HB.out⟩

theorem drawRingNotify_any (v : Value) (w : World) (h : CodeAt w v) : Calls Try.prog 26 #[v] w (DrawnRing2 w) := by
  go_enter Try.func26, Try.ntmps26
  go_wp2_with (go_at_call 14; refine (drawRingCloser_any _ _ h).mono ?_; rintro e w1 ⟨u, y, i, o, rfl, ha, hs, hb⟩)
  go_ret3
  exact ⟨_, y, _, _, rfl, ha, hs, hb⟩
theorem drawRingAdopt_any (v : Value) (w : World) (h : CodeAt w v) : Calls Try.prog 20 #[v] w (DrawnRing1 w) := by
  go_enter Try.func20, Try.ntmps20
  go_wp2_with (go_at_call 30; refine (drawRingFail_any _ _ h).mono ?_; rintro e w1 ⟨u, y, i, rfl, ha, hs, hb⟩)
  go_ret2
  exact ⟨_, y, _, rfl, ha, hs, hb⟩
theorem drawRingDrop_any (v : Value) (w : World) (h : CodeAt w v) : Calls Try.prog 23 #[v] w (DrawnRing1 w) := by
  go_enter Try.func23, Try.ntmps23
  go_wp2_with (first | (go_at_call 38; refine (l6Open_any _ _ h).mono ?_; rintro e w1 ⟨rfl, hr1, hb1⟩) | (go_at_call 53; refine (l91Bent_any w.heap.size 0 _ hr1 (by omega)).mono ?_; rintro e w2 ⟨u, y, x, p2, rfl, hO, hs, hp2, hr2, hg2⟩; have HO := Lib.hid hO; have HS := Lib.hid hs; have HB := Lib.hid (hb1.trans (below_grow hg2 (Nat.le_refl _) hb1.size)); clear hO hs))
  go_ret2
  exact ⟨_, y, _, rfl, HO.out.at, HS.out, HB.out⟩

end Go.Proofs.Ytadplndoopkdgaa
