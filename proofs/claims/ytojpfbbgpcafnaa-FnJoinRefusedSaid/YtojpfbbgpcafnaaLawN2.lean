/-
  Contracts: nodes with two successors, and distances, as the laws ask them.
-/
import Derived.Test.YtojpfbbgpcafnaaLawK
import Derived.Test.YtojpfbbgpcafnaaIPr
import Derived.Deep.RegionHeld3
namespace Go.Proofs.Ytojpfbbgpcafnaa
open Go.RowKit

/-- Behind a call within a region that draws, the condition on the world may be turned into a narrower one. -/
theorem wpAnyH_turn {P : Program} {ops : Array Oper} {Q : Exit → Act → World → Prop} {md : Region.Mode} {S S' : World → Prop} (hs : ∀ w, S' w → S w) : ∀ (fuel : Nat) (listed : Array Bool) (a : Act) (w : World), wpAnyH P md ops Q S' fuel listed a w → wpAnyH P md ops Q S fuel listed a w
  | 0, _, _, _, h => h
  | fuel + 1, _, _, _, h => ⟨h.1, fun i hi => wpOp_mono (fun a' w' h' => ⟨hs _ h'.1, wpAnyH_turn hs fuel _ a' w' h'.2⟩) (h.2 i hi)⟩

theorem ndOf_form {r : List Nd} (hv : ringValid r = true) (x : Int) : ∃ i b p q, ndOf r x = ⟨i, b, [p, q]⟩ := by
  have h := after2 (ndOf_two hv x)
  refine ⟨(ndOf r x).id, (ndOf r x).before, a0 (ndOf r x), a1 (ndOf r x), ?_⟩
  rw [← h]
theorem IntsAt.two {w : World} {v : Value} {x z : Int} (h : IntsAt w v [x, z]) : ∃ b o c, v = .slice (some ⟨b, o, none⟩) 2 c ∧ 2 ≤ c ∧ c ≤ 9223372036854775807 ∧ b < w.heap.size ∧ w.cell? ⟨b, o, none⟩ = some (.int .i64 x) ∧ w.cell? ⟨b, o + 1, none⟩ = some (.int .i64 z) := by
  obtain ⟨p, c, rfl⟩ := h.form
  obtain ⟨b, o, rfl, -, h1, h2, h3, h4⟩ := h.openAt (by simp)
  have c0 := h4 0 (by simp)
  have c1 := h4 1 (by simp)
  exact ⟨b, o, c, rfl, h1, h2, h3, c0, c1⟩
def TwoPost (i bf x z : Int) (w : World) (e : Ending) (w' : World) : Prop :=
  ∃ b o c, e = .returned (.agg #[.int .i64 i, .int .i64 bf, .slice (some ⟨b, o, none⟩) 2 c]) ∧ 2 ≤ c ∧ c ≤ 9223372036854775807 ∧ b < w'.heap.size ∧ w'.cell? ⟨b, o, none⟩ = some (.int .i64 x) ∧ w'.cell? ⟨b, o + 1, none⟩ = some (.int .i64 z) ∧ Below w.heap.size w w'
theorem nodeAtL_two (v : Value) (r : List Nd) (id i bf x z : Int) (w : World) (hv : RingAt w v r) (hn : ndOf r id = ⟨i, bf, [x, z]⟩) :
    Calls Try.prog 30 #[v, .int .i64 id] w (TwoPost i bf x z w) :=
  (nodeAtL_any v r id w hv).mono fun _ _ ⟨va, he, hi, hb⟩ => by
    rw [hn] at he hi
    obtain ⟨b, o, c, rfl, h1, h2, h3, h4, h5⟩ := hi.two
    exact ⟨b, o, c, he, h1, h2, h3, h4, h5, hb⟩

theorem iDistance_is (a b d : Int) (ha : okP a = true) (hb : okP b = true) (hd : dist a b = d) (w : World) :
    Calls Try.prog 31 #[.int .i64 a, .int .i64 b] w fun e w' => e = .returned (.int .i64 d) ∧ Below w.heap.size w w' := by
  have := iDistance_any a b w
  rw [ha, hb] at this
  simp only [Bool.and_self, if_true, hd] at this
  exact this
theorem RingAt.nd {w : World} {p : Option Addr} {n c : Nat} {r : List Nd} (h : RingAt w (.slice p n c) r) {k : Nat} (hk : k < r.length) :
    ∃ b o, p = some ⟨b, o, none⟩ ∧ n = r.length ∧ n ≤ c ∧ c ≤ 9223372036854775807 ∧ b < w.heap.size ∧ ∃ pa ca, w.cell? ⟨b, o + k * 3, none⟩ = some (.int .i64 (r.getD k default).id) ∧ w.cell? ⟨b, o + k * 3 + 1, none⟩ = some (.int .i64 (r.getD k default).before) ∧
      w.cell? ⟨b, o + k * 3 + 2, none⟩ = some (.slice pa (r.getD k default).after.length ca) ∧ IntsAt w (.slice pa (r.getD k default).after.length ca) (r.getD k default).after := by
  obtain ⟨p', c', e, h1, h2, h3⟩ := h
  cases e
  unfold maxLen at h2
  rcases h3 with ⟨h4, -⟩ | ⟨b, o, e2, h4, h5⟩
  · rw [h4] at hk; simp at hk
  · obtain ⟨q1, q2, va, q3, q4⟩ := h5 k hk
    obtain ⟨pa, ca, rfl⟩ := q4.form
    exact ⟨b, o, e2, rfl, h1, by omega, h4, pa, ca, q1, q2, q3, q4⟩
theorem sameNode_refl (i b : Int) (A : List Int) (va vb : Value) (w : World) (ha : IntsAt w va A) (hb : IntsAt w vb A) :
    Calls Try.prog 37 #[.agg #[.int .i64 i, .int .i64 b, va], .agg #[.int .i64 i, .int .i64 b, vb]] w fun e w' => e = .returned (.bool true) ∧ Below w.heap.size w w' := by
  have := sameNode_any ⟨i, b, A⟩ ⟨i, b, A⟩ va vb w ha hb
  rw [decide_eq_true rfl] at this
  exact this
end Go.Proofs.Ytojpfbbgpcafnaa
