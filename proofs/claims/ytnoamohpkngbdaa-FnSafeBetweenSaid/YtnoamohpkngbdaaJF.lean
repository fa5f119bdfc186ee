/-
  Plain laws: failing and joining. No program in sight.
-/
import Derived.Test.YtnoamohpkngbdaaStab
namespace Go.Proofs.Ytnoamohpkngbdaa
open Go.RowKit

def failK (r : List Nd) (k : Nat) : List Nd := if safeB (r.eraseIdx k) then r.eraseIdx k else r
def rFail (r : List Nd) (id : Int) : List Nd := stepR (ringSafe r && okP id) r id fun k => failK r k
def rFailOk (r : List Nd) (id : Int) : Bool := stepB (ringSafe r && okP id) r id fun k => safeB (r.eraseIdx k)

/-- How many nodes stand before a position. -/
def ltN : List Nd → Int → Nat
  | [], _ => 0
  | n :: r, id => if n.id < id then ltN r id + 1 else 0
def joinK (r : List Nd) (id at' : Int) (k : Nat) : List Nd := r.take (ltN r id) ++ ⟨id, at', (r.getD k default).after⟩ :: r.drop (ltN r id)
def joinOk (r : List Nd) (id at' : Int) (k : Nat) : Bool := decide (fnd r id < 0) && decide (r.length < 10) && btw at' id (a0 (r.getD k default))
def rJoinOk (r : List Nd) (id at' : Int) : Bool := stepB (ringSafe r && okP id && okP at') r at' fun k => joinOk r id at' k
def rJoin (r : List Nd) (id at' : Int) : List Nd := stepR (ringSafe r && okP id && okP at') r at' fun k => if joinOk r id at' k then joinK r id at' k else r

theorem ltN_le (id : Int) : ∀ r : List Nd, ltN r id ≤ r.length
  | [] => Nat.le_refl _
  | n :: r => by
    have := ltN_le id r
    unfold ltN
    split
    · simp; exact this
    · exact Nat.zero_le _
theorem ltN_yes {id : Int} : ∀ {r : List Nd} {j : Nat}, j < ltN r id → (r.getD j default).id < id
  | [], j, h => by simp [ltN] at h
  | n :: r, j, h => by
    unfold ltN at h
    split at h
    · cases j with
      | zero => simpa
      | succ j => simpa using ltN_yes (r := r) (j := j) (by omega)
    · omega
theorem ltN_stop {id : Int} : ∀ {r : List Nd}, ltN r id < r.length → ¬ (r.getD (ltN r id) default).id < id
  | [], h => by simp at h
  | n :: r, h => by
    by_cases h0 : n.id < id
    · have e : ltN (n :: r) id = ltN r id + 1 := by rw [ltN, if_pos h0]
      rw [e] at h ⊢
      simpa using ltN_stop (r := r) (by simpa using h)
    · have e : ltN (n :: r) id = 0 := by rw [ltN, if_neg h0]
      rw [e]; simpa using h0
theorem ltN_is {r : List Nd} {id : Int} {k : Nat} (hk : k ≤ r.length) (h1 : ∀ j, j < k → (r.getD j default).id < id) (h2 : k < r.length → ¬ (r.getD k default).id < id) : ltN r id = k := by
  have hl := ltN_le id r
  rcases Nat.lt_trichotomy (ltN r id) k with h | h | h
  · exact absurd (h1 _ h) (ltN_stop (by omega))
  · exact h
  · exact absurd (ltN_yes h) (h2 (by omega))
theorem ltN_no {r : List Nd} {id : Int} (hv : ringValid r = true) {j : Nat} (hj : j < r.length) (h : ltN r id ≤ j) : ¬ (r.getD j default).id < id := by
  have hs := ltN_stop (r := r) (id := id) (by omega)
  by_cases e : ltN r id = j
  · rw [← e]; exact hs
  · have := (ringValid_iff.1 hv).2.2 (ltN r id) j (by omega) hj
    omega

theorem live_erase {r : List Nd} (hv : ringValid r = true) {k : Nat} (hk : k < r.length) {x : Int} : live (r.eraseIdx k) x = true ↔ live r x = true ∧ x ≠ (r.getD k default).id := by
  rw [live_iff, live_iff]
  constructor
  · rintro ⟨n, hn, rfl⟩
    have hm := List.mem_of_mem_eraseIdx hn
    refine ⟨⟨n, hm, rfl⟩, fun e => ?_⟩
    obtain ⟨j, hj, hne, hjn⟩ := (List.mem_eraseIdx_iff_getElem).1 hn
    have e2 : r.getD j default = n := by rw [← hjn]; simp [hj]
    exact hne (valid_inj hv hj hk (by rw [e2]; exact e))
  · rintro ⟨⟨n, hn, rfl⟩, hne⟩
    obtain ⟨j, hj, rfl⟩ := List.getElem_of_mem hn
    refine ⟨_, (List.mem_eraseIdx_iff_getElem).2 ⟨j, hj, fun e => hne ?_, rfl⟩, rfl⟩
    subst e; simp [hj]

end Go.Proofs.Ytnoamohpkngbdaa
