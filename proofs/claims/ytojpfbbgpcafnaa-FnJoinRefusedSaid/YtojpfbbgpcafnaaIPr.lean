/-
  Contracts: the principals that the program lists, valid ring or not.
-/
import Derived.Test.YtojpfbbgpcafnaaIPrin
import Derived.Test.YtojpfbbgpcafnaaPlain
namespace Go.Proofs.Ytojpfbbgpcafnaa
open Go.RowKit

def rPrin (r : List Nd) : List Int := if ringValid r then prin r else []
def IntsPost (xs : List Int) (w : World) (e : Ending) (w' : World) : Prop := ∃ u, e = .returned u ∧ IntsAt w' u xs ∧ Below w.heap.size w w'
theorem iRingPrin_any (v : Value) (r : List Nd) (w : World) (hv : RingAt w v r) : Calls Try.prog 71 #[v] w (IntsPost (rPrin r) w) := by
  cases hr : ringValid r
  · refine (iRingPrincipals_no v r w hv hr).mono ?_
    rintro e w' ⟨rfl, hb⟩
    refine ⟨_, rfl, ?_, hb⟩
    unfold rPrin; rw [hr]
    exact ⟨none, 0, rfl, Nat.le_refl _, by unfold maxLen; omega, .inl ⟨rfl, fun _ => rfl⟩⟩
  · refine (iRingPrincipals_any v r w hv hr).mono ?_
    rintro e w' ⟨u, rfl, ho, hb⟩
    refine ⟨u, rfl, ?_, hb⟩
    unfold rPrin; rw [hr, if_pos rfl]
    exact intsAt_own ho

theorem rPrin_mem {r : List Nd} {x : Int} (h : x ∈ rPrin r) : live r x = true := by
  unfold rPrin at h
  split at h
  · exact (mem_prin.1 h).1
  · simp at h
theorem rPrin_asc {r : List Nd} : (rPrin r).Pairwise (· < ·) := by
  unfold rPrin
  split
  · next h => exact prin_pairwise h
  · exact List.Pairwise.nil
theorem rPrin_len {r : List Nd} : (rPrin r).length ≤ r.length := by
  unfold rPrin
  split
  · rw [← prinTo_all]; exact prinTo_length r r.length
  · exact Nat.zero_le _
theorem asc_at {xs : List Int} (h : xs.Pairwise (· < ·)) {i j : Nat} (hij : i < j) (hj : j < xs.length) : xs.getD i 0 < xs.getD j 0 := by
  have := List.pairwise_iff_getElem.1 h i j (by omega) hj hij
  have e1 : xs.getD i 0 = xs[i] := by simp [show i < xs.length by omega]
  have e2 : xs.getD j 0 = xs[j] := by simp [hj]
  rw [e1, e2]; exact this
theorem getD_memI {xs : List Int} {j : Nat} (h : j < xs.length) : xs.getD j 0 ∈ xs := by
  have e : xs.getD j 0 = xs[j] := by simp [h]
  rw [e]; exact List.getElem_mem h

theorem IntsAt.openAt {w : World} {p : Option Addr} {n c : Nat} {xs : List Int} (h : IntsAt w (.slice p n c) xs) (h0 : 0 < xs.length) : ∃ b o, p = some ⟨b, o, none⟩ ∧ n = xs.length ∧ n ≤ c ∧ c ≤ 9223372036854775807 ∧ b < w.heap.size ∧ ∀ i, i < xs.length → w.cell? ⟨b, o + i, none⟩ = some (.int .i64 (xs.getD i 0)) := by
  obtain ⟨p', c', e, h1, h2, h3⟩ := h
  cases e
  unfold maxLen at h2
  rcases h3 with ⟨h4, -⟩ | ⟨b, o, e2, h4, h5⟩
  · rw [h4] at h0; simp at h0
  · exact ⟨b, o, e2, rfl, h1, by omega, h4, h5⟩
theorem IntsAt.form {w : World} {v : Value} {xs : List Int} (h : IntsAt w v xs) : ∃ p c, v = .slice p xs.length c := by
  obtain ⟨p, c, e, -⟩ := h
  exact ⟨p, c, e⟩

end Go.Proofs.Ytojpfbbgpcafnaa
