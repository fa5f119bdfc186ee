/-
  Plain theory of lookups: fingers, the next node, paths; no program in sight.
-/
import Derived.Test.YtagpkemlndkcjaaPlain
namespace Go.Proofs.Ytagpkemlndkcjaa
open Go.RowKit

def nextV (L : List Int) (key : Int) : Int := L.getD (idx (fun x => decide (key ≤ x)) L).toNat 0
def befFrom (L : List Int) (key : Int) : Nat → Int
  | 0 => L.getD (L.length - 1) 0
  | k + 1 => if L.getD k 0 < key then L.getD k 0 else befFrom L key k
def holdsP (a b key : Int) : Bool := decide (key = b) || btw a key b || decide (a = b)

theorem okP_num {a : Int} (h : okP a = true) : 0 ≤ a ∧ a < 64 := by simpa [okP] using h
theorem num_okP {a : Int} (h0 : 0 ≤ a) (h1 : a < 64) : okP a = true := by simp [okP, h0, h1]
theorem getD_memI {L : List Int} {j : Nat} (h : j < L.length) : L.getD j 0 ∈ L := by
  have : L.getD j 0 = L[j] := by simp [h]
  rw [this]; exact List.getElem_mem h
theorem mem_getI {L : List Int} {n : Int} (h : n ∈ L) : ∃ j, j < L.length ∧ L.getD j 0 = n := by
  obtain ⟨j, hj, e⟩ := List.getElem_of_mem h
  exact ⟨j, hj, by simp [hj, e]⟩
theorem nodes_mem {L : List Int} (h : nodesOk L) {n : Int} (hn : n ∈ L) : 0 ≤ n ∧ n < 64 := by
  obtain ⟨j, hj, rfl⟩ := mem_getI hn
  exact okP_num (h.2.1 j hj)
theorem first_or (p : Nat → Prop) [DecidablePred p] : ∀ m, (∃ k, k < m ∧ p k ∧ ∀ j, j < k → ¬ p j) ∨ ∀ j, j < m → ¬ p j
  | 0 => .inr fun j hj => by omega
  | m + 1 => by
    rcases first_or p m with ⟨k, hk, h1, h2⟩ | h
    · exact .inl ⟨k, by omega, h1, h2⟩
    · by_cases hp : p m
      · exact .inl ⟨m, by omega, hp, h⟩
      · refine .inr fun j hj => ?_
        by_cases e : j = m
        · rw [e]; exact hp
        · exact h j (by omega)

theorem nextV_min {L : List Int} {key : Int} (hn : nodesOk L) (hl : 1 ≤ L.length) (hk : okP key = true) : nextV L key ∈ L ∧ ∀ n ∈ L, dist key (nextV L key) ≤ dist key n := by
  obtain ⟨k0, k1⟩ := okP_num hk
  rcases first_or (fun j => key ≤ L.getD j 0) L.length with ⟨k, hkl, h1, h2⟩ | h
  · have e : nextV L key = L.getD k 0 := by
      unfold nextV
      rw [idx_hit (d := 0) hkl (decide_eq_true h1) (fun j hj => show decide (key ≤ L.getD j 0) = false from decide_eq_false (h2 j hj))]
      rfl
    rw [e]
    refine ⟨getD_memI hkl, fun n hn' => ?_⟩
    obtain ⟨b0, b1⟩ := nodes_mem hn (getD_memI hkl)
    obtain ⟨c0, c1⟩ := nodes_mem hn hn'
    obtain ⟨j, hj, rfl⟩ := mem_getI hn'
    unfold dist
    by_cases hjk : j < k
    · have := h2 j hjk
      omega
    · by_cases e2 : j = k
      · subst e2; omega
      · have := hn.2.2 k j (by omega) hj
        omega
  · have e : nextV L key = L.getD 0 0 := by
      unfold nextV
      rw [idx_miss (d := 0) (fun j hj => show decide (key ≤ L.getD j 0) = false from decide_eq_false (h j hj))]
      rfl
    rw [e]
    refine ⟨getD_memI (by omega), fun n hn' => ?_⟩
    obtain ⟨b0, b1⟩ := nodes_mem hn (getD_memI (show 0 < L.length by omega))
    obtain ⟨c0, c1⟩ := nodes_mem hn hn'
    obtain ⟨j, hj, rfl⟩ := mem_getI hn'
    have q1 := h j hj
    have q2 := h 0 (by omega)
    unfold dist
    by_cases e2 : j = 0
    · subst e2; omega
    · have := hn.2.2 0 j (by omega) hj
      omega

theorem bef_min {L : List Int} {key : Int} (hn : nodesOk L) (hl : 1 ≤ L.length) (hk : okP key = true) : ∀ k, k ≤ L.length → (∀ j, k ≤ j → j < L.length → ¬ L.getD j 0 < key) →
    befFrom L key k ∈ L ∧ ∀ n ∈ L, (key + 63 - befFrom L key k) % 64 ≤ (key + 63 - n) % 64
  | 0, _, h => by
    obtain ⟨k0, k1⟩ := okP_num hk
    unfold befFrom
    refine ⟨getD_memI (by omega), fun n hn' => ?_⟩
    obtain ⟨b0, b1⟩ := nodes_mem hn (getD_memI (show L.length - 1 < L.length by omega))
    obtain ⟨c0, c1⟩ := nodes_mem hn hn'
    obtain ⟨j, hj, rfl⟩ := mem_getI hn'
    have q1 := h j (by omega) hj
    have q2 := h (L.length - 1) (by omega) (by omega)
    by_cases e2 : j = L.length - 1
    · rw [e2]; omega
    · have := hn.2.2 j (L.length - 1) (by omega) (by omega)
      omega
  | k + 1, hkl, h => by
    obtain ⟨k0, k1⟩ := okP_num hk
    unfold befFrom
    by_cases hlt : L.getD k 0 < key
    · rw [if_pos hlt]
      refine ⟨getD_memI (by omega), fun n hn' => ?_⟩
      obtain ⟨b0, b1⟩ := nodes_mem hn (getD_memI (show k < L.length by omega))
      obtain ⟨c0, c1⟩ := nodes_mem hn hn'
      obtain ⟨j, hj, rfl⟩ := mem_getI hn'
      by_cases hjk : j ≤ k
      · by_cases e2 : j = k
        · subst e2; omega
        · have := hn.2.2 j k (by omega) (by omega)
          omega
      · have := h j (by omega) hj
        omega
    · rw [if_neg hlt]
      refine bef_min hn hl hk k (by omega) (fun j hj hjl => ?_)
      by_cases e2 : j = k
      · subst e2; exact hlt
      · exact h j (by omega) hjl

/-- The distance to a key; a whole turn to oneself. -/
def dKy (a b : Int) : Int := if a = b then 64 else dist a b
theorem dist_fit {a b : Int} (_ha : 0 ≤ a ∧ a < 64) (_hb : 0 ≤ b ∧ b < 64) : 0 ≤ dist a b ∧ dist a b < 64 := by unfold dist; omega
theorem dKy_fit {a b : Int} (ha : 0 ≤ a ∧ a < 64) (hb : 0 ≤ b ∧ b < 64) : 1 ≤ dKy a b ∧ dKy a b ≤ 64 := by unfold dKy dist; split <;> omega
theorem btw_dKy {a x b : Int} (ha : 0 ≤ a ∧ a < 64) (hx : 0 ≤ x ∧ x < 64) (hb : 0 ≤ b ∧ b < 64) : btw a x b = true ↔ 0 < dist a x ∧ dist a x < dKy a b := by
  unfold btw dKy dist
  by_cases h : a < b
  · rw [if_pos h, if_neg (by omega)]
    simp only [Bool.and_eq_true, decide_eq_true_eq]
    omega
  · rw [if_neg h]
    simp only [Bool.or_eq_true, decide_eq_true_eq]
    split <;> omega
theorem holds_dKy {a b k : Int} (ha : 0 ≤ a ∧ a < 64) (hb : 0 ≤ b ∧ b < 64) (hk : 0 ≤ k ∧ k < 64) : holdsP a b k = true ↔ dKy a k ≤ dKy a b := by
  have h1 := btw_dKy ha hk hb
  unfold holdsP
  rw [Bool.or_eq_true, Bool.or_eq_true, decide_eq_true_eq, decide_eq_true_eq, h1]
  unfold dKy dist
  split <;> split <;> omega
theorem dist_inj {u n m : Int} (_hu : 0 ≤ u ∧ u < 64) (hn : 0 ≤ n ∧ n < 64) (hm : 0 ≤ m ∧ m < 64) (h : dist u n = dist u m) : n = m := by unfold dist at h; omega

/-- The node before a key: the farthest node below it. -/
theorem bef_spec {L : List Int} {u key : Int} (hn : nodesOk L) (hu : u ∈ L) (hk : okP key = true) :
    befFrom L key L.length ∈ L ∧ dist u (befFrom L key L.length) < dKy u key ∧ ∀ n ∈ L, dist u n < dKy u key → dist u n ≤ dist u (befFrom L key L.length) := by
  have hl : 1 ≤ L.length := List.length_pos_of_mem hu
  obtain ⟨h1, h2⟩ := bef_min hn hl hk L.length (Nat.le_refl _) (fun j hj hjl => by omega)
  generalize befFrom L key L.length = p at *
  have uu := nodes_mem hn hu
  have pp := nodes_mem hn h1
  have kk := okP_num hk
  have h3 := h2 u hu
  refine ⟨h1, ?_, fun n hn' hd => ?_⟩
  · unfold dKy dist
    split <;> omega
  · have nn := nodes_mem hn hn'
    have h4 := h2 n hn'
    unfold dKy dist at hd
    unfold dist
    split at hd <;> omega
/-- The node that holds a key: the nearest node at it or behind. -/
theorem own_spec {L : List Int} {u key : Int} (hn : nodesOk L) (hu : u ∈ L) (hk : okP key = true) :
    nextV L key ∈ L ∧ ((dKy u key ≤ dist u (nextV L key) ∧ ∀ n ∈ L, dKy u key ≤ dist u n → dist u (nextV L key) ≤ dist u n) ∨ (nextV L key = u ∧ ∀ n ∈ L, dist u n < dKy u key)) := by
  have hl : 1 ≤ L.length := List.length_pos_of_mem hu
  obtain ⟨h1, h2⟩ := nextV_min hn hl hk
  generalize nextV L key = o at *
  have uu := nodes_mem hn hu
  have oo := nodes_mem hn h1
  have kk := okP_num hk
  have h3 := h2 u hu
  refine ⟨h1, ?_⟩
  by_cases hc : dKy u key ≤ dist u o
  · refine .inl ⟨hc, fun n hn' hd => ?_⟩
    have nn := nodes_mem hn hn'
    have h4 := h2 n hn'
    unfold dKy dist at hc hd
    unfold dist at h4 ⊢
    split at hd <;> omega
  · refine .inr ⟨?_, fun n hn' => ?_⟩
    · unfold dKy dist at hc
      unfold dist at h3
      split at hc <;> omega
    · have nn := nodes_mem hn hn'
      have h4 := h2 n hn'
      unfold dKy dist at hc ⊢
      unfold dist at h3 h4
      split at hc <;> split <;> omega
def fing (L : List Int) (u : Int) (i : Nat) : Int := nextV L ((u + 2 ^ i) % 64)
theorem fing_spec {L : List Int} {u : Int} (hn : nodesOk L) (hu : u ∈ L) {i : Nat} (hi : i < 6) :
    fing L u i ∈ L ∧ (((2 : Int) ^ i ≤ dist u (fing L u i) ∧ ∀ n ∈ L, (2 : Int) ^ i ≤ dist u n → dist u (fing L u i) ≤ dist u n) ∨ (fing L u i = u ∧ ∀ n ∈ L, dist u n < (2 : Int) ^ i)) := by
  have hl : 1 ≤ L.length := List.length_pos_of_mem hu
  have uu := nodes_mem hn hu
  obtain ⟨c, hc, hc1, hc2⟩ : ∃ c : Int, (2 : Int) ^ i = c ∧ 1 ≤ c ∧ c ≤ 32 := by
    rcases (show i = 0 ∨ i = 1 ∨ i = 2 ∨ i = 3 ∨ i = 4 ∨ i = 5 by omega) with rfl | rfl | rfl | rfl | rfl | rfl
    · exact ⟨1, rfl, by omega, by omega⟩
    · exact ⟨2, rfl, by omega, by omega⟩
    · exact ⟨4, rfl, by omega, by omega⟩
    · exact ⟨8, rfl, by omega, by omega⟩
    · exact ⟨16, rfl, by omega, by omega⟩
    · exact ⟨32, rfl, by omega, by omega⟩
  unfold fing
  rw [hc]
  obtain ⟨h1, h2⟩ := nextV_min hn hl (key := (u + c) % 64) (num_okP (by omega) (by omega))
  generalize nextV L ((u + c) % 64) = o at *
  have oo := nodes_mem hn h1
  have h3 := h2 u hu
  refine ⟨h1, ?_⟩
  by_cases hd : c ≤ dist u o
  · refine .inl ⟨hd, fun n hn' hd' => ?_⟩
    have nn := nodes_mem hn hn'
    have h4 := h2 n hn'
    unfold dist at hd hd' h4 ⊢
    omega
  · refine .inr ⟨?_, fun n hn' => ?_⟩
    · unfold dist at hd h3
      omega
    · have nn := nodes_mem hn hn'
      have h4 := h2 n hn'
      unfold dist at hd h3 h4 ⊢
      omega

/-- The last finger before the key, from number i downward. -/
def downF (L : List Int) (u key : Int) : Nat → Int
  | 0 => fing L u 0
  | i + 1 => if btw u (fing L u (i + 1)) key then fing L u (i + 1) else downF L u key i
def stepL (L : List Int) (u key : Int) : Int := if holdsP u (fing L u 0) key then fing L u 0 else downF L u key 5

theorem pow_leI {i j : Nat} (h : i ≤ j) : (2 : Int) ^ i ≤ 2 ^ j := by
  have : (2 : Nat) ^ i ≤ 2 ^ j := Nat.pow_le_pow_right (by omega) h
  exact_mod_cast this
theorem downF_is {L : List Int} {u key : Int} {j : Nat} (hj : j = 0 ∨ btw u (fing L u j) key = true) : ∀ i, j ≤ i → (∀ t, j < t → t ≤ i → btw u (fing L u t) key = false) → downF L u key i = fing L u j
  | 0, h, _ => by
    obtain rfl : j = 0 := by omega
    rfl
  | i + 1, h, hno => by
    unfold downF
    by_cases e : j = i + 1
    · subst e
      rcases hj with hj | hj
      · omega
      · rw [if_pos hj]
    · rw [hno (i + 1) (by omega) (Nat.le_refl _), if_neg Bool.false_ne_true]
      exact downF_is hj i (by omega) (fun t ht hti => hno t ht (by omega))
theorem log_of {a : Int} (h1 : 1 ≤ a) (h2 : a < 64) : ∃ j, j < 6 ∧ (2 : Int) ^ j ≤ a ∧ a < 2 * 2 ^ j := by
  rcases (show a < 2 ∨ (2 ≤ a ∧ a < 4) ∨ (4 ≤ a ∧ a < 8) ∨ (8 ≤ a ∧ a < 16) ∨ (16 ≤ a ∧ a < 32) ∨ 32 ≤ a by omega) with h | h | h | h | h | h
  · exact ⟨0, by omega, by simp; omega, by simp; omega⟩
  · exact ⟨1, by omega, by simp; omega, by simp; omega⟩
  · exact ⟨2, by omega, by simp; omega, by simp; omega⟩
  · exact ⟨3, by omega, by simp; omega, by simp; omega⟩
  · exact ⟨4, by omega, by simp; omega, by simp; omega⟩
  · exact ⟨5, by omega, by simp; omega, by simp; omega⟩

/-- What a step does. -/
theorem step_spec {L : List Int} {u key : Int} (hn : nodesOk L) (hu : u ∈ L) (hk : okP key = true) :
    stepL L u key ∈ L ∧ ((dist u (befFrom L key L.length) = 0 ∧ stepL L u key = nextV L key) ∨
      (0 < dist (u) (befFrom L key L.length) ∧ 0 < dist u (stepL L u key) ∧ dist (stepL L u key) (befFrom L key L.length) = dist u (befFrom L key L.length) - dist u (stepL L u key) ∧ 2 * dist (stepL L u key) (befFrom L key L.length) < dist u (befFrom L key L.length))) := by
  obtain ⟨p1, p2, p3⟩ := bef_spec hn hu hk
  obtain ⟨o1, o2⟩ := own_spec hn hu hk
  obtain ⟨f1, f2⟩ := fing_spec hn hu (i := 0) (by omega)
  have uu := nodes_mem hn hu
  have kk := okP_num hk
  have pp := nodes_mem hn p1
  have oo := nodes_mem hn o1
  have ff := nodes_mem hn f1
  have hpf := dist_fit uu pp
  have hff := dist_fit uu ff
  have hof := dist_fit uu oo
  have hKf := dKy_fit uu kk
  have hh := holds_dKy uu ff kk
  by_cases ha : dist u (befFrom L key L.length) = 0
  · -- the first finger holds the key
    have hnone : ∀ n ∈ L, dist u n < dKy u key → dist u n = 0 := fun n hn' hd => by
      have := p3 n hn' hd
      have := (dist_fit uu (nodes_mem hn hn')).1
      omega
    have hfu : dKy u (fing L u 0) = if dist u (fing L u 0) = 0 then 64 else dist u (fing L u 0) := by
      unfold dKy
      by_cases e : u = fing L u 0
      · rw [if_pos e, if_pos (by rw [← e]; unfold dist; omega)]
      · rw [if_neg e, if_neg (fun e' => e (by unfold dist at e'; omega))]
    have hold : dKy u key ≤ dKy u (fing L u 0) := by
      rw [hfu]
      split
      · exact hKf.2
      · next h0 =>
        rcases Int.lt_or_le (dist u (fing L u 0)) (dKy u key) with h | h
        · exact absurd (hnone _ f1 h) h0
        · exact h
    have hs : stepL L u key = fing L u 0 := by unfold stepL; rw [if_pos (hh.2 hold)]
    rw [hs]
    refine ⟨f1, .inl ⟨ha, ?_⟩⟩
    rcases f2 with ⟨g1, g2⟩ | ⟨g1, g2⟩
    · simp only [Int.pow_zero] at g1 g2
      have hfK : dKy u key ≤ dist u (fing L u 0) := by
        rcases Int.lt_or_le (dist u (fing L u 0)) (dKy u key) with h | h
        · have := hnone _ f1 h; omega
        · exact h
      rcases o2 with ⟨q1, q2⟩ | ⟨q1, q2⟩
      · have r1 := q2 _ f1 hfK
        have r2 := g2 _ o1 (by omega)
        exact dist_inj uu ff oo (by omega)
      · have := q2 _ f1; omega
    · simp only [Int.pow_zero] at g2
      rcases o2 with ⟨q1, q2⟩ | ⟨q1, q2⟩
      · have := g2 _ o1; omega
      · rw [g1, q1]
  · -- the finger at the power of two below the distance
    have ha1 : 1 ≤ dist u (befFrom L key L.length) := by omega
    obtain ⟨j, hj6, hj1, hj2⟩ := log_of ha1 hpf.2
    have hnot : holdsP u (fing L u 0) key = false := by
      rw [← Bool.not_eq_true, hh]
      have h0 : dist u (fing L u 0) ≤ dist u (befFrom L key L.length) ∧ 1 ≤ dist u (fing L u 0) := by
        rcases f2 with ⟨g1, g2⟩ | ⟨g1, g2⟩
        · simp only [Int.pow_zero] at g1 g2
          exact ⟨g2 _ p1 ha1, g1⟩
        · have := g2 _ p1
          simp only [Int.pow_zero] at this
          omega
      have e : dKy u (fing L u 0) = dist u (fing L u 0) := by
        unfold dKy
        rw [if_neg (fun e => by rw [← e] at h0; unfold dist at h0; omega)]
      rw [e]; omega
    have fj : ∀ i, i < 6 → (btw u (fing L u i) key = true ↔ 0 < dist u (fing L u i) ∧ dist u (fing L u i) < dKy u key) := fun i hi =>
      btw_dKy uu (nodes_mem hn (fing_spec hn hu hi).1) kk
    obtain ⟨e1, e2⟩ := fing_spec hn hu hj6
    have ee := nodes_mem hn e1
    have hef := dist_fit uu ee
    have hed : (2 : Int) ^ j ≤ dist u (fing L u j) ∧ dist u (fing L u j) ≤ dist u (befFrom L key L.length) := by
      rcases e2 with ⟨g1, g2⟩ | ⟨g1, g2⟩
      · exact ⟨g1, g2 _ p1 hj1⟩
      · have := g2 _ p1; omega
    have hp1 : (1 : Int) ≤ 2 ^ j := by simpa using pow_leI (Nat.zero_le j)
    have hs : stepL L u key = fing L u j := by
      unfold stepL
      rw [hnot, if_neg Bool.false_ne_true]
      refine downF_is (.inr ((fj j hj6).2 ⟨by omega, by omega⟩)) 5 (by omega) (fun t ht ht5 => ?_)
      rw [← Bool.not_eq_true, fj t (by omega)]
      rintro ⟨x1, x2⟩
      obtain ⟨t1, t2⟩ := fing_spec hn hu (i := t) (by omega)
      have hpw := pow_leI (show j + 1 ≤ t by omega)
      rw [Int.pow_succ] at hpw
      rcases t2 with ⟨g1, g2⟩ | ⟨g1, g2⟩
      · have := p3 _ t1 x2; omega
      · rw [g1] at x1; unfold dist at x1; omega
    rw [hs]
    have hd : dist (fing L u j) (befFrom L key L.length) = dist u (befFrom L key L.length) - dist u (fing L u j) := by
      have h1 := hed.2
      unfold dist at h1 ⊢
      omega
    exact ⟨e1, .inr ⟨by omega, by omega, hd, by omega⟩⟩

/-- How many steps are left. -/
def muL (L : List Int) (u key : Int) : Nat := if u = nextV L key then 0 else (dist u (befFrom L key L.length)).toNat + 1
theorem muL_le {L : List Int} {u key : Int} (hn : nodesOk L) (hu : u ∈ L) (hk : okP key = true) : muL L u key ≤ 64 := by
  have := dist_fit (nodes_mem hn hu) (nodes_mem hn (bef_spec hn hu hk).1)
  unfold muL; split <;> omega
theorem muL_step {L : List Int} {u key : Int} (hn : nodesOk L) (hu : u ∈ L) (hk : okP key = true) (hne : u ≠ nextV L key) : muL L (stepL L u key) key < muL L u key := by
  obtain ⟨h1, h2⟩ := step_spec hn hu hk
  unfold muL
  rw [if_neg hne]
  split
  · omega
  · next h0 =>
    rcases h2 with ⟨-, h2⟩ | ⟨h2, h3, h4, -⟩
    · exact absurd h2 h0
    · have := dist_fit (nodes_mem hn h1) (nodes_mem hn (bef_spec hn hu hk).1)
      omega

/-- A path so far. -/
structure PathL (L : List Int) (key id : Int) (xs : List Int) : Prop where
  pos : 0 < xs.length
  first : xs.getD 0 0 = id
  mem : ∀ i, i < xs.length → xs.getD i 0 ∈ L
  next : ∀ i, i + 1 < xs.length → xs.getD i 0 ≠ nextV L key ∧ xs.getD (i + 1) 0 = stepL L (xs.getD i 0) key
theorem PathL.one {L : List Int} {key id : Int} (h : id ∈ L) : PathL L key id [id] :=
  ⟨by simp, rfl, fun i hi => by obtain rfl : i = 0 := by simpa using hi
                                exact h, fun i hi => by simp at hi⟩
theorem PathL.snoc {L : List Int} {key id u : Int} {xs : List Int} (h : PathL L key id xs) (hn : nodesOk L) (hk : okP key = true) (hu : xs.getD (xs.length - 1) 0 = u) (hne : u ≠ nextV L key) : PathL L key id (xs ++ [stepL L u key]) := by
  have hp := h.pos
  have ho : ∀ i, i < xs.length → (xs ++ [stepL L u key]).getD i 0 = xs.getD i 0 := fun i hi => by
    rw [List.getD_eq_getElem?_getD, List.getElem?_append_left hi]; rfl
  have hl : (xs ++ [stepL L u key]).getD xs.length 0 = stepL L u key := by
    rw [List.getD_eq_getElem?_getD, List.getElem?_append_right (Nat.le_refl _)]; simp
  have hm : u ∈ L := by rw [← hu]; exact h.mem _ (by omega)
  refine ⟨by simp, by rw [ho 0 hp]; exact h.first, fun i hi => ?_, fun i hi => ?_⟩
  · rw [List.length_append, List.length_singleton] at hi
    by_cases e : i = xs.length
    · rw [e, hl]; exact (step_spec hn hm hk).1
    · rw [ho i (by omega)]; exact h.mem i (by omega)
  · rw [List.length_append, List.length_singleton] at hi
    rw [ho i (by omega)]
    by_cases e : i + 1 = xs.length
    · have e2 : i = xs.length - 1 := by omega
      rw [e, hl, e2, hu]
      exact ⟨hne, rfl⟩
    · rw [ho (i + 1) (by omega)]
      exact h.next i (by omega)
/-- A whole path ends with the node that holds the key. -/
def WholeL (L : List Int) (key id : Int) (xs : List Int) : Prop := PathL L key id xs ∧ xs.getD (xs.length - 1) 0 = nextV L key
theorem whole_get {L : List Int} {key id : Int} {xs ys : List Int} (hx : PathL L key id xs) (hy : PathL L key id ys) : ∀ i, i < xs.length → i < ys.length → xs.getD i 0 = ys.getD i 0
  | 0, _, _ => hx.first.trans hy.first.symm
  | i + 1, h1, h2 => by
    rw [(hx.next i h1).2, (hy.next i h2).2, whole_get hx hy i (by omega) (by omega)]
theorem whole_one {L : List Int} {key id : Int} {xs ys : List Int} (hx : WholeL L key id xs) (hy : WholeL L key id ys) : xs = ys := by
  have hxp := hx.1.pos
  have hyp := hy.1.pos
  have hl : xs.length = ys.length := by
    rcases Nat.lt_trichotomy xs.length ys.length with h | h | h
    · have h1 := (hy.1.next (xs.length - 1) (by omega)).1
      rw [← whole_get hx.1 hy.1 _ (by omega) (by omega)] at h1
      exact absurd hx.2 h1
    · exact h
    · have h1 := (hx.1.next (ys.length - 1) (by omega)).1
      rw [whole_get hx.1 hy.1 _ (by omega) (by omega)] at h1
      exact absurd hy.2 h1
  apply List.ext_getElem hl
  intro i h1 h2
  have := whole_get hx.1 hy.1 i h1 h2
  simpa [h1, h2] using this
/-- Each step, but for the last one, halves the distance. -/
theorem whole_half {L : List Int} {key id : Int} {xs : List Int} (h : WholeL L key id xs) (hn : nodesOk L) (hk : okP key = true) {i : Nat} (h1 : 1 ≤ i) (h2 : i + 1 < xs.length) :
    dist (xs.getD i 0) (befFrom L key L.length) ≤ 0 ∨ 2 * dist (xs.getD i 0) (befFrom L key L.length) < dist (xs.getD (i - 1) 0) (befFrom L key L.length) := by
  obtain ⟨a1, a2⟩ := h.1.next (i - 1) (by omega)
  obtain ⟨b1, -⟩ := h.1.next i h2
  rw [show i - 1 + 1 = i by omega] at a2
  have hm := h.1.mem (i - 1) (by omega)
  obtain ⟨-, h4⟩ := step_spec hn hm hk
  rw [← a2] at h4
  rcases h4 with ⟨-, h4⟩ | ⟨-, -, -, h4⟩
  · exact absurd h4 b1
  · exact .inr h4

end Go.Proofs.Ytagpkemlndkcjaa
