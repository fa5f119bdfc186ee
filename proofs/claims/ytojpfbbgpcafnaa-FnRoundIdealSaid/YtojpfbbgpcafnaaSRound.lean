/-
  Contracts: RingRound of the reference.
-/
import Derived.Test.YtojpfbbgpcafnaaSCalm
namespace Go.Proofs.Ytojpfbbgpcafnaa
open Go.RowKit

set_option maxHeartbeats 1000000 in
theorem sRingRound_any (v : Value) (r : List Nd) (w : World) (hv : RingAt w v r) :
    Calls Try.prog 15 #[v] w fun e w' => ∃ u, e = .returned u ∧ RingOwn w' w.heap.size u (rRound r) ∧ Below w.heap.size w w' := by
  unfold rRound
  cases hs : ringSafe r
  · have HS := Lib.hid hs
    clear hs
    go_enter Try.func15, Try.ntmps15
    go_wp2_with (first | (go_at_call 17; refine (sRingSafe_any _ r _ hv).mono ?_; rw [HS.out]; rintro e w1 ⟨rfl, hb1⟩))
    go_ret
    exact ⟨_, rfl, (RingOwn.made w1 _ rfl).mono hb1.size, hb1.alloc hb1.size _⟩
  · have HS := Lib.hid hs
    have HF := Lib.hid (roundK_fine hs)
    have hsh := safe_shape HF.out.1
    have hr10 := hsh.1
    have HL := Lib.hid hsh.len
    clear hs hsh
    go_enter Try.func15, Try.ntmps15
    go_wp2_with (first | (go_at_call 17; refine (sRingSafe_any _ r _ hv).mono ?_; rw [HS.out]; rintro e w1 ⟨rfl, hb1⟩) | (go_at_call 45; refine (l4Round_any _ r _ (hv.below hb1 (Nat.le_refl _)) HS.out).mono ?_; rintro e w2 ⟨u, rfl, hat, hb2⟩; have hb12 := hb1.trans (hb2.mono hb1.size)) | (go_at_call 44; refine (l3Copy_any _ (roundK r) _ hat (by omega) HL.out).mono ?_; rintro e w3 ⟨u3, rfl, hO, hb3⟩))
    go_ret
    exact ⟨_, rfl, hO.mono hb12.size, hb12.trans (hb3.mono hb12.size)⟩

end Go.Proofs.Ytojpfbbgpcafnaa
