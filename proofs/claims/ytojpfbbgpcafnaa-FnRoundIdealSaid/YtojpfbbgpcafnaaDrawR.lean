/-
  Contracts: the drawn ring of the laws about rounds.
-/
import Derived.Test.YtojpfbbgpcafnaaDrawN
namespace Go.Proofs.Ytojpfbbgpcafnaa
open Go.RowKit

theorem drawRingRound_any (v : Value) (w : World) (h : CodeAt w v) : Calls Try.prog 13 #[v] w (DrawnRing0 w) := by
  go_enter Try.func13, Try.ntmps13
  go_wp2_with (first | (go_at_call 41; refine (l6Open_any _ _ h).mono ?_; rintro e w1 ⟨rfl, hr1, hb1⟩) | (go_at_call 40; refine (l91Spoilt_any w.heap.size 0 _ hr1 (by omega)).mono ?_; rintro e w2 ⟨u, y, p2, rfl, hO, hs, hp2, hr2, hg2⟩; have HO := Lib.hid hO; have HS := Lib.hid hs; have HB := Lib.hid (hb1.trans (below_grow hg2 (Nat.le_refl _) hb1.size)); clear hO hs))
  go_ret
  exact ⟨_, _, rfl, HO.out.at, HS.out, HB.out⟩

end Go.Proofs.Ytojpfbbgpcafnaa
