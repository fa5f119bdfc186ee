/-
  Contracts: NodesValid and RingNew of the reference.
-/
import Derived.Test.YtnoamohpkngbdaaDraw1
import Derived.Test.YtnoamohpkngbdaaSJoin
import Derived.Test.YtnoamohpkngbdaaSafeX
import Derived.Test.YtnoamohpkngbdaaSCalm
namespace Go.Proofs.Ytnoamohpkngbdaa
open Go.RowKit

def ndAt (xs : List Int) (k : Nat) : Bool := okP (xs.getD k 0) && (decide (k = 0) || decide (xs.getD (k - 1) 0 < xs.getD k 0))
def ndB (xs : List Int) : Bool := decide (1 ≤ xs.length) && decide (xs.length ≤ 10) && allBelow (ndAt xs) xs.length
theorem ndB_iff {xs : List Int} : ndB xs = true ↔ 1 ≤ xs.length ∧ nodesOk xs := by
  unfold ndB nodesOk ndAt
  simp only [Bool.and_eq_true, decide_eq_true_eq, allBelow_of, Bool.or_eq_true]
  constructor
  · rintro ⟨⟨h1, h2⟩, h3⟩
    refine ⟨h1, h2, fun i hi => (h3 i hi).1, ?_⟩
    intro i j
    induction j with
    | zero => intro h; omega
    | succ j ih =>
      intro hij hj
      have h4 : xs.getD j 0 < xs.getD (j + 1) 0 := by
        rcases (h3 (j + 1) hj).2 with h | h
        · omega
        · simpa using h
      by_cases e : i = j
      · subst e; exact h4
      · have := ih (by omega) (by omega)
        omega
  · rintro ⟨h1, h2, h3, h4⟩
    refine ⟨⟨h1, h2⟩, fun i hi => ⟨h3 i hi, ?_⟩⟩
    by_cases e : i = 0
    · exact .inl e
    · exact .inr (h4 (i - 1) i (by omega) hi)

set_option maxHeartbeats 1000000 in
theorem l1Nodes_any (v : Value) (xs : List Int) (w : World) (hv : IntsAt w v xs) :
    Calls Try.prog 71 #[v] w fun e w' => e = .returned (.bool (allBelow (ndAt xs) xs.length)) ∧ Below w.heap.size w w' := by
  obtain ⟨p, cap, rfl, hc, hm, h4⟩ := hv
  unfold maxLen at hm
  go_enter Try.func71, Try.ntmps71
  go_wp2
  go_loopg [2, 3] (xs.length) (fun m _ i wr => ∃ k : Nat, k ≤ xs.length ∧ m = xs.length - k ∧ i = .int .i64 k ∧ Hid (allBelow (ndAt xs) k = true) ∧ Below w.heap.size w wr)
  case atStart => exact ⟨0, Nat.zero_le _, rfl, rfl, Lib.hid rfl, Below.refl _ _⟩
  case round =>
    obtain ⟨k, hk, rfl, rfl, HA, hbel⟩ := hrel
    by_cases hlt : k < xs.length
    · rcases h4 with ⟨rfl, -⟩ | ⟨b, o, rfl, hb, hcell⟩
      · simp at hlt
      have h1 := (hbel.cell (p := ⟨b, o + k, none⟩) hb).trans (hcell k hlt)
      have h0 : 0 < k → wr.cell? ⟨b, o + (k - 1), none⟩ = some (.int .i64 (xs.getD (k - 1) 0)) := fun _ => (hbel.cell (p := ⟨b, o + (k - 1), none⟩) hb).trans (hcell (k - 1) (by omega))
      obtain ⟨x, hx⟩ : ∃ y, xs.getD k 0 = y := ⟨_, rfl⟩
      obtain ⟨y, hy⟩ : ∃ y, xs.getD (k - 1) 0 = y := ⟨_, rfl⟩
      have HR := Lib.hid (show ndAt xs k = (okP x && (decide (k = 0) || decide (y < x))) by unfold ndAt; rw [hx, hy])
      rw [hx] at h1
      rw [hy] at h0
      clear hcell hx hy
      go_wp2_with fail
      go_cut [31] (fun s wx => ∃ c, s = .bool c ∧ Hid (c = !ndAt xs k) ∧ ∃ nq, wx = wr.drewN nq)
      case first =>
        refine wp_region_quiet_lit (by kernel_rfl) (by kernel_rfl) ?_
        repeat (any_goals (first | go_big_quiet_step ((go_at_call 54; exact Calls.quiet_left (l1Point_any _ _))) | quiet_step ((go_at_call 54; exact Calls.quiet_left (l1Point_any _ _))) | (refine wpQuiet_step (fun K hK => ?_); go_simp; split <;> (refine hK _ ?_; clear hK K))))
        all_goals
          refine wpQuiet_nil ?_
          intro _ hw'
          obtain ⟨nq, hw''⟩ := hw'
          subst hw''
          go_wp2
          go_meet
          refine ⟨_, rfl, Lib.hid ?_, nq, rfl⟩
          rw [HR.out]
          first | (simp [*]; done) | (simp [*]; omega) | (simp [*]; rw [Bool.eq_iff_iff]; simp; omega)
      case rest =>
        obtain ⟨c, rfl, hcc, nq, rfl⟩ := hcut
        have HB2 := Lib.hid (below_drewN hbel nq)
        cases c
        rotate_left
        · go_wp2
          go_ret
          exact ⟨ret_bool (by rw [allBelow_false hlt (by have := hcc.out; simpa using this)]), HB2.out⟩
        · go_wp2
          go_roundg (xs.length - (k + 1))
          case rel => exact ⟨k + 1, by omega, rfl, by go_num, Lib.hid (allBelow_succ HA.out (by have := hcc.out; simpa using this)), HB2.out⟩
          case measure => omega
    · obtain rfl : k = xs.length := by omega
      go_wp2
      go_ret
      exact ⟨ret_bool (by rw [HA.out]), hbel⟩

set_option maxHeartbeats 400000 in
theorem sNodesValid_any (v : Value) (xs : List Int) (w : World) (hv : IntsAt w v xs) :
    Calls Try.prog 43 #[v] w fun e w' => e = .returned (.bool (ndB xs)) ∧ Below w.heap.size w w' := by
  have HV := Lib.hid hv
  obtain ⟨p, cap, rfl, hc, hm, -⟩ := hv
  unfold maxLen at hm
  have hi : inR (xs.length : Int) 1 10 = (decide (1 ≤ xs.length) && decide (xs.length ≤ 10)) := by unfold inR; congr 1 <;> (rw [decide_eq_decide]; omega)
  cases hc2 : (decide (1 ≤ xs.length) && decide (xs.length ≤ 10))
  · rw [hc2] at hi
    have HI := Lib.hid hi
    have HC := Lib.hid hc2
    clear hi hc2
    go_enter Try.func43, Try.ntmps43
    go_wp2_with (first | (go_at_call 70; refine (l6In_any _ _ _ _).mono ?_; rw [HI.out]; rintro e w' ⟨rfl, rfl⟩))
    go_ret
    exact ⟨ret_bool (by unfold ndB; rw [HC.out]; rfl), Below.refl _ _⟩
  · rw [hc2] at hi
    have HI := Lib.hid hi
    have HC := Lib.hid hc2
    clear hi hc2
    go_enter Try.func43, Try.ntmps43
    go_wp2_with (first | (go_at_call 70; refine (l6In_any _ _ _ _).mono ?_; rw [HI.out]; rintro e w' ⟨rfl, rfl⟩) | (go_at_call 71; refine (l1Nodes_any _ xs _ HV.out).mono ?_; rintro e w1 ⟨rfl, hb1⟩))
    go_ret
    exact ⟨ret_bool (by unfold ndB; rw [HC.out]; rfl), hb1⟩

end Go.Proofs.Ytnoamohpkngbdaa
