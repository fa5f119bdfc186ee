/-
  Plain laws: valid rings, principals, safe rings. No program in sight.
-/
import Derived.Test.YtnoamohpkngbdaaPlain
namespace Go.Proofs.Ytnoamohpkngbdaa
open Go.RowKit

theorem btw_iff {a x b : Int} : btw a x b = true ↔ (a < b ∧ a < x ∧ x < b) ∨ (b ≤ a ∧ (a < x ∨ x < b)) := by
  unfold btw
  by_cases h : a < b
  · simp [h]; omega
  · simp [h]; omega
theorem btw_no {a x b : Int} : btw a x b = false ↔ (a < b → x ≤ a ∨ b ≤ x) ∧ (b ≤ a → x ≤ a ∧ b ≤ x) := by
  unfold btw
  by_cases h : a < b
  · simp [h]; omega
  · simp [h]; omega
theorem okP_def {a : Int} : okP a = true ↔ 0 ≤ a ∧ a < 64 := by simp [okP]

/-- A valid node. -/
def NdOk (n : Nd) : Prop := okP n.id = true ∧ (n.before = -1 ∨ okP n.before = true) ∧ n.after.length = 2 ∧ posAll n.after = true

theorem rvAt_iff {r : List Nd} {k : Nat} : rvAt r k = true ↔ NdOk (r.getD k default) ∧ (k = 0 ∨ (r.getD (k - 1) default).id < (r.getD k default).id) := by
  unfold rvAt rvHead NdOk
  simp only [Bool.and_eq_true, Bool.or_eq_true, decide_eq_true_eq]
  constructor
  · rintro ⟨⟨⟨⟨h1, h2⟩, h3⟩, h4⟩, h5⟩
    exact ⟨⟨h1, h3, h4, h5⟩, h2⟩
  · rintro ⟨⟨h1, h3, h4, h5⟩, h2⟩
    exact ⟨⟨⟨⟨h1, h2⟩, h3⟩, h4⟩, h5⟩

theorem ringValid_iff {r : List Nd} : ringValid r = true ↔
    r.length ≤ 10 ∧ (∀ j, j < r.length → NdOk (r.getD j default)) ∧ ∀ i j, i < j → j < r.length → (r.getD i default).id < (r.getD j default).id := by
  unfold ringValid
  simp only [Bool.and_eq_true, decide_eq_true_eq, allBelow_of, rvAt_iff]
  constructor
  · rintro ⟨h1, h2⟩
    refine ⟨h1, fun j hj => (h2 j hj).1, ?_⟩
    intro i j
    induction j with
    | zero => intro h; omega
    | succ j ih =>
      intro hij hj
      have h3 : (r.getD j default).id < (r.getD (j + 1) default).id := by
        rcases (h2 (j + 1) hj).2 with h | h
        · omega
        · simpa using h
      by_cases e : i = j
      · subst e; exact h3
      · have := ih (by omega) (by omega)
        omega
  · rintro ⟨h1, h2, h3⟩
    refine ⟨h1, fun j hj => ⟨h2 j hj, ?_⟩⟩
    by_cases e : j = 0
    · exact .inl e
    · exact .inr (h3 (j - 1) j (by omega) hj)

theorem getD_mem {r : List Nd} {j : Nat} (h : j < r.length) : r.getD j default ∈ r := by
  have : r.getD j default = r[j] := by simp [h]
  rw [this]; exact List.getElem_mem h
theorem mem_getD {r : List Nd} {n : Nd} (h : n ∈ r) : ∃ j, j < r.length ∧ r.getD j default = n := by
  obtain ⟨j, hj, rfl⟩ := List.getElem_of_mem h
  exact ⟨j, hj, by simp [hj]⟩

theorem NdOk.a0ok {n : Nd} (h : NdOk n) : okP (a0 n) = true := by
  have := allBelow_of.1 h.2.2.2 0 (by rw [h.2.2.1]; omega)
  exact this
theorem NdOk.a1ok {n : Nd} (h : NdOk n) : okP (a1 n) = true := by
  have := allBelow_of.1 h.2.2.2 1 (by rw [h.2.2.1]; omega)
  exact this
theorem NdOk.mk2 {i b x y : Int} (h1 : okP i = true) (h2 : b = -1 ∨ okP b = true) (hx : okP x = true) (hy : okP y = true) : NdOk ⟨i, b, [x, y]⟩ :=
  ⟨h1, h2, rfl, by simp [posAll, allBelow, hx, hy]⟩

theorem valid_node {r : List Nd} (h : ringValid r = true) {n : Nd} (hn : n ∈ r) : NdOk n := by
  obtain ⟨j, hj, rfl⟩ := mem_getD hn
  exact (ringValid_iff.1 h).2.1 j hj
/-- Nodes of a valid ring with equal positions are equal. -/
theorem valid_inj {r : List Nd} (h : ringValid r = true) {i j : Nat} (hi : i < r.length) (hj : j < r.length) (e : (r.getD i default).id = (r.getD j default).id) : i = j := by
  have h3 := (ringValid_iff.1 h).2.2
  rcases Nat.lt_trichotomy i j with h | h | h
  · have := h3 i j h hj; omega
  · exact h
  · have := h3 j i h hi; omega
theorem valid_eq {r : List Nd} (h : ringValid r = true) {m n : Nd} (hm : m ∈ r) (hn : n ∈ r) (e : m.id = n.id) : m = n := by
  obtain ⟨i, hi, rfl⟩ := mem_getD hm
  obtain ⟨j, hj, rfl⟩ := mem_getD hn
  rw [valid_inj h hi hj e]

theorem live_iff {r : List Nd} {x : Int} : live r x = true ↔ ∃ n ∈ r, n.id = x := by
  unfold live; rw [List.any_eq_true]; simp
theorem fnd_lt {r : List Nd} {x : Int} : fnd r x < r.length := by
  rcases fnd_cases r x with ⟨h, -⟩ | ⟨k, hk, h, -, -⟩ <;> rw [h] <;> omega
theorem fnd_live_iff {r : List Nd} {x : Int} : 0 ≤ fnd r x ↔ live r x = true := by
  have := fnd_live r x
  rw [← this]; simp
theorem fnd_dead_iff {r : List Nd} {x : Int} : fnd r x < 0 ↔ live r x = false := by
  rw [← Bool.not_eq_true, ← fnd_live_iff]; omega
theorem fnd_at {r : List Nd} {x : Int} (h : live r x = true) : ∃ k, k < r.length ∧ fnd r x = (k : Int) ∧ (fnd r x).toNat = k ∧ (r.getD k default).id = x := by
  rcases fnd_cases r x with ⟨h0, -⟩ | ⟨k, hk, h1, h2, -⟩
  · have := fnd_live_iff.2 h; omega
  · exact ⟨k, hk, h1, by rw [h1]; rfl, h2⟩
theorem fnd_self {r : List Nd} (h : ringValid r = true) {k : Nat} (hk : k < r.length) : fnd r (r.getD k default).id = (k : Int) := by
  refine fnd_hit hk rfl fun j hj e => ?_
  have := valid_inj h (by omega) hk e
  omega
theorem live_ids (r : List Nd) (x : Int) : live r x = decide (x ∈ r.map Nd.id) := by
  rw [Bool.eq_iff_iff, live_iff]; simp
theorem fndFrom_ids (x : Int) : ∀ (r r' : List Nd) (k : Nat), r.map Nd.id = r'.map Nd.id → fndFrom x r k = fndFrom x r' k
  | [], [], _, _ => rfl
  | [], _ :: _, _, h => by simp at h
  | _ :: _, [], _, h => by simp at h
  | m :: r, n :: r', k, h => by
    simp at h
    rw [fndFrom, fndFrom, h.1, fndFrom_ids x r r' (k + 1) h.2]
theorem fnd_ids {r r' : List Nd} (h : r.map Nd.id = r'.map Nd.id) (x : Int) : fnd r x = fnd r' x := fndFrom_ids x r r' 0 h

theorem skip_iff {n : Nd} (h : n.after.length = 2) {x : Int} : skip n x = (btw n.id x (a0 n) || btw (a0 n) x (a1 n)) := by
  unfold skip
  rw [after2 h]
  simp [skipFrom]
theorem mem_prin {r : List Nd} {x : Int} : x ∈ prin r ↔ live r x = true ∧ ∀ n ∈ r, skip n x = false := by
  unfold prin
  rw [live_iff]
  simp only [List.mem_map, List.mem_filter, Bool.not_eq_true', List.any_eq_false]
  constructor
  · rintro ⟨n, ⟨h1, h2⟩, rfl⟩
    exact ⟨⟨n, h1, rfl⟩, fun m hm => by simpa using h2 m hm⟩
  · rintro ⟨⟨n, h1, rfl⟩, h2⟩
    exact ⟨n, ⟨h1, fun m hm => by simpa using h2 m hm⟩, rfl⟩
theorem valid_pairwise {r : List Nd} (h : ringValid r = true) : r.Pairwise fun a b => a.id < b.id := by
  rw [List.pairwise_iff_getElem]
  intro i j hi hj hij
  have := (ringValid_iff.1 h).2.2 i j hij hj
  simpa [hi, hj] using this
theorem prin_pairwise {r : List Nd} (h : ringValid r = true) : (prin r).Pairwise (· < ·) := by
  unfold prin
  rw [List.pairwise_map]
  exact (valid_pairwise h).filter _
theorem prin3 {r : List Nd} (h : ringSafe r = true) : ∃ p q s, p < q ∧ q < s ∧ p ∈ prin r ∧ q ∈ prin r ∧ s ∈ prin r := by
  unfold ringSafe safeB at h
  simp only [Bool.and_eq_true, decide_eq_true_eq] at h
  obtain ⟨h1, -, h3⟩ := h
  have hp := prin_pairwise h1
  revert h3 hp
  match prin r with
  | [] => intro h; simp at h
  | [_] => intro h; simp at h
  | [_, _] => intro h; simp at h
  | p :: q :: s :: l =>
    intro _ hp
    refine ⟨p, q, s, ?_, ?_, by simp, by simp, by simp⟩
    · exact (List.pairwise_cons.1 hp).1 q (by simp)
    · exact (List.pairwise_cons.1 (List.pairwise_cons.1 hp).2).1 s (by simp)
theorem three {l : List Int} {p q s : Int} (h1 : p < q) (h2 : q < s) (hp : p ∈ l) (hq : q ∈ l) (hs : s ∈ l) : 3 ≤ l.length := by
  match l with
  | [] => simp at hp
  | [a] => simp at hp hq; omega
  | [a, b] => simp at hp hq hs; omega
  | _ :: _ :: _ :: _ => simp

theorem ringSafe_iff {r : List Nd} : ringSafe r = true ↔ ringValid r = true ∧ (∀ n ∈ r, live r (a0 n) = true ∨ live r (a1 n) = true) ∧ ∃ p q s, p < q ∧ q < s ∧ p ∈ prin r ∧ q ∈ prin r ∧ s ∈ prin r := by
  constructor
  · intro h
    have h3 := prin3 h
    unfold ringSafe safeB at h
    simp only [Bool.and_eq_true, decide_eq_true_eq] at h
    obtain ⟨h1, h2, -⟩ := h
    refine ⟨h1, fun n hn => ?_, h3⟩
    have := List.all_eq_true.1 h2 n hn
    rw [after2 (valid_node h1 hn).2.2.1] at this
    simpa using this
  · rintro ⟨h1, h2, p, q, s, a, b, c, d, e⟩
    unfold ringSafe safeB
    rw [h1, Bool.true_and, decide_eq_true (three a b c d e), Bool.and_true, List.all_eq_true]
    intro n hn
    rw [after2 (valid_node h1 hn).2.2.1]
    simpa using h2 n hn
theorem safe_valid {r : List Nd} (h : ringSafe r = true) : ringValid r = true := (ringSafe_iff.1 h).1

theorem order_core {i a b p q s : Int} (h1 : p < q) (h2 : q < s) (u1 : btw i p a = false) (u2 : btw i q a = false) (u3 : btw i s a = false) (v1 : btw a p b = false) (v2 : btw a q b = false) (v3 : btw a s b = false) :
    btw i a b = true ∧ i ≠ a ∧ a ≠ b ∧ i ≠ b := by
  rw [btw_no] at u1 u2 u3 v1 v2 v3
  rw [btw_iff]
  obtain ⟨u11, u12⟩ := u1
  obtain ⟨u21, u22⟩ := u2
  obtain ⟨u31, u32⟩ := u3
  obtain ⟨v11, v12⟩ := v1
  obtain ⟨v21, v22⟩ := v2
  obtain ⟨v31, v32⟩ := v3
  by_cases c1 : i < a <;> by_cases c2 : a < b <;> by_cases c3 : i < b <;> omega

/-- In a safe ring the successors are in order. -/
theorem safe_order {r : List Nd} (h : ringSafe r = true) {n : Nd} (hn : n ∈ r) : btw n.id (a0 n) (a1 n) = true ∧ n.id ≠ a0 n ∧ a0 n ≠ a1 n ∧ n.id ≠ a1 n := by
  obtain ⟨h1, -, p, q, s, a, b, hp, hq, hs⟩ := ringSafe_iff.1 h
  have h2 := (valid_node h1 hn).2.2.1
  have k : ∀ x, x ∈ prin r → btw n.id x (a0 n) = false ∧ btw (a0 n) x (a1 n) = false := fun x hx => by
    have := (mem_prin.1 hx).2 n hn
    rw [skip_iff h2, Bool.or_eq_false_iff] at this
    exact this
  exact order_core a b (k p hp).1 (k q hq).1 (k s hs).1 (k p hp).2 (k q hq).2 (k s hs).2
theorem safe_len {r : List Nd} (h : ringSafe r = true) : 3 ≤ r.length := by
  unfold ringSafe safeB at h
  simp only [Bool.and_eq_true, decide_eq_true_eq] at h
  have h3 := h.2.2
  have := prinTo_length r r.length
  rw [prinTo_all] at this
  omega

/-- One node is replaced by another one at the same place. -/
theorem set_ids {r : List Nd} {k : Nat} {n : Nd} (hn : n.id = (r.getD k default).id) : (r.set k n).map Nd.id = r.map Nd.id := by
  rw [List.map_set, hn]
  by_cases hk : k < r.length
  · have : (r.getD k default).id = (r.map Nd.id)[k]'(by simpa using hk) := by simp [hk]
    rw [this, List.set_getElem_self]
  · rw [List.set_eq_of_length_le (by simpa using Nat.le_of_not_lt hk)]
theorem getD_set {r : List Nd} {k j : Nat} {n : Nd} (hk : k < r.length) : (r.set k n).getD j default = if k = j then n else r.getD j default := by
  by_cases e : k = j
  · subst e; simp [hk]
  · simp [e]
theorem set_valid {r : List Nd} {k : Nat} {n : Nd} (h : ringValid r = true) (hk : k < r.length) (hn : n.id = (r.getD k default).id) (ho : NdOk n) : ringValid (r.set k n) = true := by
  obtain ⟨h1, h2, h3⟩ := ringValid_iff.1 h
  have e : ∀ j, ((r.set k n).getD j default).id = (r.getD j default).id := fun j => by
    rw [getD_set hk]
    by_cases e : k = j
    · subst e; simp [hn]
    · simp [e]
  refine ringValid_iff.2 ⟨by simpa using h1, fun j hj => ?_, fun i j hij hj => ?_⟩
  · rw [getD_set hk]
    by_cases e : k = j
    · rw [if_pos e]; exact ho
    · rw [if_neg e]; exact h2 j (by simpa using hj)
  · rw [e, e]; exact h3 i j hij (by simpa using hj)

/-- All principals of one ring that are live in the other are principals of it. -/
def Keep (r r' : List Nd) : Prop := ∀ p, p ∈ prin r → live r' p = true → p ∈ prin r'
theorem Keep.refl (r : List Nd) : Keep r r := fun _ h _ => h

/-- The step of one node keeps a ring safe, if the new node skips no principal and has a live successor. -/
theorem safe_set {r : List Nd} {k : Nat} {n : Nd} (h : ringSafe r = true) (hk : k < r.length) (hn : n.id = (r.getD k default).id) (ho : NdOk n)
    (hl : live r (a0 n) = true ∨ live r (a1 n) = true) (hp : ∀ p, p ∈ prin r → skip n p = false) : ringSafe (r.set k n) = true ∧ ∀ p, p ∈ prin r → p ∈ prin (r.set k n) := by
  obtain ⟨h1, h2, p, q, s, a, b, c, d, e⟩ := ringSafe_iff.1 h
  have hi : ∀ x, live (r.set k n) x = live r x := fun x => by rw [live_ids, live_ids, set_ids hn]
  have hkeep : ∀ p, p ∈ prin r → p ∈ prin (r.set k n) := fun p hpp => by
    refine mem_prin.2 ⟨by rw [hi]; exact (mem_prin.1 hpp).1, fun m hm => ?_⟩
    rcases List.mem_or_eq_of_mem_set hm with hm | rfl
    · exact (mem_prin.1 hpp).2 m hm
    · exact hp p hpp
  refine ⟨ringSafe_iff.2 ⟨set_valid h1 hk hn ho, fun m hm => ?_, p, q, s, a, b, hkeep p c, hkeep q d, hkeep s e⟩, hkeep⟩
  rw [hi, hi]
  rcases List.mem_or_eq_of_mem_set hm with hm | rfl
  · exact h2 m hm
  · exact hl

end Go.Proofs.Ytnoamohpkngbdaa
