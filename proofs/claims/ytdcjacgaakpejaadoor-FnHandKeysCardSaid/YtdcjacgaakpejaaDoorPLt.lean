/-
  Plain theory of leases: the lease of a key, handing over; no program in sight.
-/
import Derived.Test.YtdcjacgaakpejaaDoorPLs
namespace Go.Proofs.YtdcjacgaakpejaaDoor
open Go.RowKit

/-- How many leases end before a key. -/
def ltE : List Tr → Int → Nat
  | [], _ => 0
  | x :: r, key => if x.a < key then ltE r key + 1 else 0
theorem ltE_le (key : Int) : ∀ r : List Tr, ltE r key ≤ r.length
  | [] => Nat.le_refl _
  | x :: r => by
    have := ltE_le key r
    unfold ltE
    split
    · simp; exact this
    · exact Nat.zero_le _
theorem ltE_yes {key : Int} : ∀ {r : List Tr} {j : Nat}, j < ltE r key → (r.getD j default).a < key
  | [], j, h => by simp [ltE] at h
  | x :: r, j, h => by
    unfold ltE at h
    split at h
    · cases j with
      | zero => simpa
      | succ j => simpa using ltE_yes (r := r) (j := j) (by omega)
    · omega
theorem ltE_stop {key : Int} : ∀ {r : List Tr}, ltE r key < r.length → ¬ (r.getD (ltE r key) default).a < key
  | [], h => by simp at h
  | x :: r, h => by
    by_cases h0 : x.a < key
    · have e : ltE (x :: r) key = ltE r key + 1 := by rw [ltE, if_pos h0]
      rw [e] at h ⊢
      simpa using ltE_stop (r := r) (by simpa using h)
    · have e : ltE (x :: r) key = 0 := by rw [ltE, if_neg h0]
      rw [e]; simpa using h0
theorem ltE_is {r : List Tr} {key : Int} {k : Nat} (hk : k ≤ r.length) (h1 : ∀ j, j < k → (r.getD j default).a < key) (h2 : k < r.length → ¬ (r.getD k default).a < key) : ltE r key = k := by
  have hl := ltE_le key r
  rcases Nat.lt_trichotomy (ltE r key) k with h | h | h
  · exact absurd (h1 _ h) (ltE_stop (by omega))
  · exact h
  · exact absurd (ltE_yes h) (h2 (by omega))
/-- The place of the lease that holds a key. -/
def atL (xs : List Tr) (key : Int) : Nat := if ltE xs key < xs.length then ltE xs key else 0
theorem atL_lt {xs : List Tr} (h : 0 < xs.length) (key : Int) : atL xs key < xs.length := by
  unfold atL; split
  · assumption
  · exact h
theorem idx_ltE (xs : List Tr) (key : Int) : idx (fun x : Tr => decide (key ≤ x.a)) xs = if ltE xs key < xs.length then (ltE xs key : Int) else -1 := by
  by_cases h : ltE xs key < xs.length
  · rw [if_pos h]
    exact idx_hit (d := default) h (show decide (key ≤ (xs.getD (ltE xs key) default).a) = true from decide_eq_true (by have := ltE_stop h; omega)) (fun j hj => show decide (key ≤ (xs.getD j default).a) = false from decide_eq_false (by have := ltE_yes hj; omega))
  · rw [if_neg h]
    have e : ltE xs key = xs.length := by have := ltE_le key xs; omega
    exact idx_miss (d := default) (fun j hj => show decide (key ≤ (xs.getD j default).a) = false from decide_eq_false (by have := ltE_yes (r := xs) (key := key) (j := j) (by omega); omega))
def lsArgs (xs : List Tr) (fr at' to' u : Int) : Bool := lsValid xs && okP fr && okP at' && okP to' && okT u
/-- Whether a hand-over succeeds, and what it leaves. -/
def handOk (xs : List Tr) (fr at' to' u : Int) : Bool :=
  lsArgs xs fr at' to' u && decide ((xs.getD (atL xs at') default).b = fr) && (decide ((xs.getD (atL xs at') default).a = at') || decide (xs.length < 12))
def handR (xs : List Tr) (fr at' to' u : Int) : List Tr :=
  if lsArgs xs fr at' to' u then
    if (xs.getD (atL xs at') default).b = fr then
      if (xs.getD (atL xs at') default).a = at' then xs.set (atL xs at') ⟨at', to', u⟩
      else if xs.length < 12 then xs.take (ltE xs at') ++ ⟨at', to', u⟩ :: xs.drop (ltE xs at') else xs
    else xs
  else []
/-- A lease of a key. -/
def holdL (xs : List Tr) (key : Int) : Tr := xs.getD (atL xs key) default
def leaseOf (xs : List Tr) (key : Int) : Tr := if lsValid xs && okP key then holdL xs key else default
/-- How many of the keys below n a node holds. -/
def keysTo (xs : List Tr) (o : Int) : Nat → Nat
  | 0 => 0
  | n + 1 => keysTo xs o n + if (holdL xs (n : Int)).b = o then 1 else 0
theorem keysTo_le (xs : List Tr) (o : Int) : ∀ n, keysTo xs o n ≤ n
  | 0 => Nat.le_refl _
  | n + 1 => by have := keysTo_le xs o n; unfold keysTo; split <;> omega
def leaseKeys (xs : List Tr) (o : Int) : Int := if lsValid xs && okP o then (keysTo xs o 64 : Int) else -1

end Go.Proofs.YtdcjacgaakpejaaDoor
