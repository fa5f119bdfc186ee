/-
  Contracts: RingDrop of the program.
-/
import Derived.Test.YtojpfbbgpcafnaaITake
import Derived.Test.YtojpfbbgpcafnaaSRing
namespace Go.Proofs.Ytojpfbbgpcafnaa
open Go.RowKit

theorem take_ring {r : List Nd} {id : Int} {g : Nat → Bool} {f : Nat → List Nd} {c c' : Bool} (hc : c = c') (h : ∀ k, g k = false → f k = r) :
    (if c then (if stepB true r id g then stepR true r id f else r) else []) = stepR c' r id f := by
  subst hc
  cases c
  · rfl
  · unfold stepB stepR
    by_cases h0 : 0 ≤ fnd r id
    · cases hg : g (fnd r id).toNat
      · simp [h0, h _ hg]
      · simp [h0]
    · simp [h0]
theorem take_ok {r : List Nd} {id : Int} {g : Nat → Bool} {c c' : Bool} (hc : c = c') : (c && stepB true r id g) = stepB c' r id g := by
  subst hc; unfold stepB; cases c <;> simp

set_option maxHeartbeats 1000000 in
theorem iRingDrop_any (v : Value) (r : List Nd) (id : Int) (w : World) (hv : RingAt w v r) :
    Calls Try.prog 26 #[v, .int .i64 id] w fun e w' => ∃ u, e = .returned (.tuple #[u, .bool (rDropOk r id)]) ∧ RingOwn w' w.heap.size u (rDrop r id) ∧ Below w.heap.size w w' := by
  have hmf : ∀ (fn : Fn) (first cap : Array Value) (w : World), (Instr.makeFunc fn first cap).run Try.prog w = .ok (.func fn first cap) w := fun _ _ _ _ => rfl
  have HV := Lib.hid hv
  clear hv
  have hp : (ringSafe r && posAll [id]) = (ringSafe r && okP id) := by rw [posAll1]
  have H1 := Lib.hid (take_ok (r := r) (id := id) (g := fun k => dropOk r k) hp)
  have H2 := Lib.hid (take_ring (r := r) (id := id) (g := fun k => dropOk r k) (f := fun k => dropK r k) hp (fun k hk => by unfold dropK; rw [hk]; rfl))
  clear hp
  have hB0 := ((Below.refl w.heap.size w).alloc (Nat.le_refl _) (.cells #[.int .i64 id] 3)).alloc (by simp) (.cells #[.int .i64 id] 3)
  go_enter Try.func26, Try.ntmps26
  go_wp2_with (go_at_call 55; refine (takeDrop_any _ _ r id w.heap.size _ (by exact HV.out.below hB0 (Nat.le_refl _)) (by exact intsAt_newN _ _ [id] _ _ (by simp) rfl (by simp)) (by simp)).mono ?_; rintro e w1 ⟨u, rfl, hO, hb1⟩)
  go_ret2
  refine ⟨u, ?_, ?_, hB0.trans (hb1.mono hB0.size)⟩
  · show Ending.returned (.tuple #[u, .bool (ringSafe r && posAll [id] && stepB true r id fun k => dropOk r k)]) = _
    rw [H1.out]; rfl
  · have := hO.mono hB0.size
    rw [H2.out] at this
    exact this

end Go.Proofs.Ytojpfbbgpcafnaa
