/-
  Plain theory of leases: what a hand-over does to every key; no program in sight.
-/
import Derived.Test.YtdcjacgaakpejaaDoorPLt
namespace Go.Proofs.YtdcjacgaakpejaaDoor
open Go.RowKit

theorem lsAt_facts {xs : List Tr} (h : lsValid xs = true) : (1 ≤ xs.length ∧ xs.length ≤ 12) ∧ ∀ j, j < xs.length → (okP (xs.getD j default).a = true ∧ okP (xs.getD j default).b = true ∧ okT (xs.getD j default).c = true ∧ (j = 0 ∨ (xs.getD (j - 1) default).a < (xs.getD j default).a)) := by
  unfold lsValid inR lsAll at h
  rw [Bool.and_eq_true, Bool.and_eq_true, decide_eq_true_eq, decide_eq_true_eq, allBelow_of] at h
  obtain ⟨⟨h1, h2⟩, h3⟩ := h
  refine ⟨by omega, fun j hj => ?_⟩
  have h4 := h3 j hj
  unfold lsAt at h4
  rw [Bool.and_eq_true, Bool.and_eq_true, Bool.and_eq_true, Bool.or_eq_true, decide_eq_true_eq, decide_eq_true_eq] at h4
  exact ⟨h4.1.1.1, h4.1.1.2, h4.1.2, h4.2⟩
theorem lsValid_of {xs : List Tr} (h0 : 1 ≤ xs.length ∧ xs.length ≤ 12) (h : ∀ j, j < xs.length → (okP (xs.getD j default).a = true ∧ okP (xs.getD j default).b = true ∧ okT (xs.getD j default).c = true ∧ (j = 0 ∨ (xs.getD (j - 1) default).a < (xs.getD j default).a))) : lsValid xs = true := by
  unfold lsValid inR lsAll
  rw [Bool.and_eq_true, Bool.and_eq_true, decide_eq_true_eq, decide_eq_true_eq, allBelow_of]
  refine ⟨⟨by omega, by omega⟩, fun j hj => ?_⟩
  obtain ⟨h1, h2, h3, h4⟩ := h j hj
  unfold lsAt
  rw [Bool.and_eq_true, Bool.and_eq_true, Bool.and_eq_true, Bool.or_eq_true, decide_eq_true_eq, decide_eq_true_eq]
  exact ⟨⟨⟨h1, h2⟩, h3⟩, h4⟩
theorem ls_asc {xs : List Tr} (h : lsValid xs = true) : ∀ d i, i + d + 1 < xs.length → (xs.getD i default).a < (xs.getD (i + d + 1) default).a
  | 0, i, hi => by
    rcases ((lsAt_facts h).2 (i + 0 + 1) hi).2.2.2 with h0 | h0
    · omega
    · simpa using h0
  | d + 1, i, hi => by
    have h1 := ls_asc h d i (by omega)
    rcases ((lsAt_facts h).2 (i + (d + 1) + 1) hi).2.2.2 with h0 | h0
    · omega
    · have e : i + (d + 1) + 1 - 1 = i + d + 1 := by omega
      rw [e] at h0
      omega
theorem ls_lt {xs : List Tr} (h : lsValid xs = true) {i j : Nat} (hij : i < j) (hj : j < xs.length) : (xs.getD i default).a < (xs.getD j default).a := by
  have := ls_asc h (j - i - 1) i (by omega)
  rwa [show i + (j - i - 1) + 1 = j by omega] at this
theorem hold_eq {xs : List Tr} (h : lsValid xs = true) (k k' : Int) : holdL xs k = holdL xs k' ↔ atL xs k = atL xs k' := by
  have hl := (lsAt_facts h).1.1
  have h1 := atL_lt (xs := xs) (by omega) k
  have h2 := atL_lt (xs := xs) (by omega) k'
  unfold holdL
  constructor
  · intro e
    rcases Nat.lt_trichotomy (atL xs k) (atL xs k') with h3 | h3 | h3
    · have := ls_lt h h3 h2; rw [e] at this; omega
    · exact h3
    · have := ls_lt h h3 h1; rw [e] at this; omega
  · intro e; rw [e]

/-- A lease put in. -/
theorem ins_get {xs : List Tr} {J : Nat} (hJ : J ≤ xs.length) (N : Tr) (i : Nat) :
    (xs.take J ++ N :: xs.drop J).getD i default = if i < J then xs.getD i default else if i = J then N else xs.getD (i - 1) default := by
  have hl : (xs.take J).length = J := by simp; omega
  by_cases h1 : i < J
  · rw [if_pos h1]
    rw [List.getD_eq_getElem?_getD, List.getElem?_append_left (by omega), List.getElem?_take_of_lt h1]
    rfl
  · rw [if_neg h1]
    by_cases h2 : i = J
    · rw [if_pos h2]
      subst h2
      simp [hl]
    · rw [if_neg h2]
      obtain ⟨d, rfl⟩ : ∃ d, i = J + d + 1 := ⟨i - J - 1, by omega⟩
      rw [List.getD_eq_getElem?_getD, List.getElem?_append_right (by omega), hl, show J + d + 1 - J = d + 1 by omega, List.getElem?_cons_succ, List.getElem?_drop]
      rfl
theorem ltE_ins {xs : List Tr} {N : Tr} (k : Int) : ltE (xs.take (ltE xs N.a) ++ N :: xs.drop (ltE xs N.a)) k = ltE xs k + (if N.a < k then 1 else 0) := by
  have hJ := ltE_le N.a xs
  have he := ltE_le k xs
  have hlen : (xs.take (ltE xs N.a) ++ N :: xs.drop (ltE xs N.a)).length = xs.length + 1 := by simp; omega
  by_cases hk : N.a < k
  · rw [if_pos hk]
    have hJe : ltE xs N.a ≤ ltE xs k := by
      rcases Nat.lt_or_ge (ltE xs k) (ltE xs N.a) with h | h
      · have h1 := ltE_yes h
        have h2 := ltE_stop (r := xs) (key := k) (by omega)
        omega
      · exact h
    refine ltE_is (by omega) (fun j hj => ?_) (fun hj => ?_)
    · rw [ins_get hJ]
      split
      · next h => have := ltE_yes h; omega
      · split
        · exact hk
        · exact ltE_yes (by omega)
    · rw [ins_get hJ, if_neg (by omega), if_neg (by omega)]
      rw [hlen] at hj
      rw [Nat.add_sub_cancel]
      exact ltE_stop (by omega)
  · rw [if_neg hk, Nat.add_zero]
    have hJe : ltE xs k ≤ ltE xs N.a := by
      rcases Nat.lt_or_ge (ltE xs N.a) (ltE xs k) with h | h
      · have h1 := ltE_yes h
        have h2 := ltE_stop (r := xs) (key := N.a) (by omega)
        omega
      · exact h
    refine ltE_is (by omega) (fun j hj => ?_) (fun hj => ?_)
    · rw [ins_get hJ, if_pos (by omega)]
      exact ltE_yes hj
    · rw [ins_get hJ]
      split
      · exact ltE_stop (by omega)
      · rw [if_pos (by omega)]
        exact hk
theorem ltE_set {xs : List Tr} {J : Nat} {N : Tr} (hJ : J < xs.length) (hN : (xs.getD J default).a = N.a) (k : Int) : ltE (xs.set J N) k = ltE xs k := by
  have hg : ∀ j, ((xs.set J N).getD j default).a = (xs.getD j default).a := fun j => by
    by_cases e : J = j
    · subst e
      rw [hN]
      simp [hJ]
    · simp [e]
  refine ltE_is (by rw [List.length_set]; exact ltE_le k xs) (fun j hj => ?_) (fun hj => ?_)
  · rw [hg]; exact ltE_yes hj
  · rw [hg]; exact ltE_stop (by rwa [List.length_set] at hj)

/-- Which keys a hand-over at a key is about. -/
def partL (xs : List Tr) (at' k : Int) : Bool :=
  decide (holdL xs k = holdL xs at') && (if (holdL xs at').a < at' then decide ((holdL xs at').a < k) && decide (k ≤ at') else decide (k ≤ at') || decide ((holdL xs at').a < k))

theorem handOk_facts {xs : List Tr} {fr at' to' u : Int} (h : handOk xs fr at' to' u = true) :
    lsValid xs = true ∧ okP fr = true ∧ okP at' = true ∧ okP to' = true ∧ okT u = true ∧ (holdL xs at').b = fr ∧ ((holdL xs at').a = at' ∨ xs.length < 12) := by
  unfold handOk lsArgs at h
  simp only [Bool.and_eq_true, Bool.or_eq_true, decide_eq_true_eq] at h
  exact ⟨h.1.1.1.1.1.1, h.1.1.1.1.1.2, h.1.1.1.1.2, h.1.1.1.2, h.1.1.2, h.1.2, h.2⟩
theorem handR_set {xs : List Tr} {fr at' to' u : Int} (h : handOk xs fr at' to' u = true) (ha : (holdL xs at').a = at') :
    ltE xs at' < xs.length ∧ atL xs at' = ltE xs at' ∧ handR xs fr at' to' u = xs.set (ltE xs at') ⟨at', to', u⟩ := by
  obtain ⟨hv, h1, h2, h3, h4, h5, h6⟩ := handOk_facts h
  have hl := (lsAt_facts hv).1.1
  have hlt : ltE xs at' < xs.length := by
    rcases Nat.lt_or_ge (ltE xs at') xs.length with h0 | h0
    · exact h0
    · have e : atL xs at' = 0 := by unfold atL; rw [if_neg (by omega)]
      unfold holdL at ha
      rw [e] at ha
      have := ltE_yes (r := xs) (key := at') (j := 0) (by omega)
      omega
  have e : atL xs at' = ltE xs at' := by unfold atL; rw [if_pos hlt]
  refine ⟨hlt, e, ?_⟩
  unfold handR lsArgs
  unfold holdL at ha h5
  rw [hv, h1, h2, h3, h4, show (true && true && true && true && true) = true from rfl, if_pos rfl, if_pos h5, if_pos ha, e]
theorem handR_ins {xs : List Tr} {fr at' to' u : Int} (h : handOk xs fr at' to' u = true) (ha : (holdL xs at').a ≠ at') :
    xs.length < 12 ∧ handR xs fr at' to' u = xs.take (ltE xs at') ++ ⟨at', to', u⟩ :: xs.drop (ltE xs at') := by
  obtain ⟨hv, h1, h2, h3, h4, h5, h6⟩ := handOk_facts h
  have hlt : xs.length < 12 := by rcases h6 with h6 | h6; exact absurd h6 ha; exact h6
  refine ⟨hlt, ?_⟩
  unfold handR lsArgs
  unfold holdL at ha h5
  rw [hv, h1, h2, h3, h4, show (true && true && true && true && true) = true from rfl, if_pos rfl, if_pos h5, if_neg ha, if_pos hlt]

theorem hand_hold {xs : List Tr} {fr at' to' u : Int} (h : handOk xs fr at' to' u = true) (k : Int) :
    holdL (handR xs fr at' to' u) k = if partL xs at' k then ⟨at', to', u⟩ else holdL xs k := by
  obtain ⟨hv, -⟩ := handOk_facts h
  have hl := (lsAt_facts hv).1.1
  have he := hold_eq hv k at'
  have hel := ltE_le k xs
  have hJl := ltE_le at' xs
  by_cases ha : (holdL xs at').a = at'
  · obtain ⟨hlt, e1, e2⟩ := handR_set h ha
    have hNa : (xs.getD (ltE xs at') default).a = at' := by unfold holdL at ha; rwa [e1] at ha
    rw [e2]
    have e3 : atL (xs.set (ltE xs at') ⟨at', to', u⟩) k = atL xs k := by unfold atL; rw [ltE_set hlt hNa, List.length_set]
    have hp : partL xs at' k = decide (atL xs k = ltE xs at') := by
      unfold partL
      rw [ha, if_neg (by omega), Bool.eq_iff_iff]
      simp only [Bool.and_eq_true, Bool.or_eq_true, decide_eq_true_eq, he, e1]
      constructor
      · exact fun h => h.1
      · exact fun h => ⟨h, by omega⟩
    rw [hp]
    show (xs.set (ltE xs at') ⟨at', to', u⟩).getD (atL (xs.set (ltE xs at') ⟨at', to', u⟩) k) default = _
    rw [e3]
    by_cases e : atL xs k = ltE xs at'
    · rw [e]
      simp [hlt]
    · simp only [decide_eq_true_eq, if_neg e]
      unfold holdL
      simp [Ne.symm e]
  · obtain ⟨-, e2⟩ := handR_ins h ha
    have hget := ins_get hJl ⟨at', to', u⟩
    have hle := ltE_ins (xs := xs) (N := ⟨at', to', u⟩) k
    simp only at hle
    have hlen : (xs.take (ltE xs at') ++ (⟨at', to', u⟩ : Tr) :: xs.drop (ltE xs at')).length = xs.length + 1 := by simp; omega
    rw [e2]
    unfold partL
    generalize xs.take (ltE xs at') ++ (⟨at', to', u⟩ : Tr) :: xs.drop (ltE xs at') = R at hget hle hlen
    have hR : holdL R k = R.getD (if ltE R k < R.length then ltE R k else 0) default := rfl
    have hX : holdL xs k = xs.getD (if ltE xs k < xs.length then ltE xs k else 0) default := rfl
    have hO : holdL xs at' = xs.getD (if ltE xs at' < xs.length then ltE xs at' else 0) default := rfl
    have hI : atL xs k = (if ltE xs k < xs.length then ltE xs k else 0) := rfl
    have hI' : atL xs at' = (if ltE xs at' < xs.length then ltE xs at' else 0) := rfl
    have y1 : ∀ j, j < ltE xs k → (xs.getD j default).a < k := fun j hj => ltE_yes hj
    have y2 : ∀ j, j < ltE xs at' → (xs.getD j default).a < at' := fun j hj => ltE_yes hj
    have z1 : ltE xs k < xs.length → ¬ (xs.getD (ltE xs k) default).a < k := fun h => ltE_stop h
    have z2 : ltE xs at' < xs.length → ¬ (xs.getD (ltE xs at') default).a < at' := fun h => ltE_stop h
    rw [hR, hlen, hle]
    generalize ltE xs k = e at *
    generalize ltE xs at' = J at *
    clear hle hlen hR e2 h
    -- the part as a proposition
    have key : ∀ b : Bool, b = decide (holdL xs k = holdL xs at') → b = decide (atL xs k = atL xs at') := fun b hb => by rw [hb, Bool.eq_iff_iff, decide_eq_true_eq, decide_eq_true_eq]; exact he
    rw [key _ rfl, hI, hI', hO, hX]
    by_cases hk : at' < k
    · rw [if_pos hk]
      by_cases hen : e < xs.length
      · rw [if_pos (show e + 1 < xs.length + 1 by omega), if_pos hen, hget]
        have hJe : J ≤ e := by
          rcases Nat.lt_or_ge e J with h | h
          · have h1 := y2 e h; have h2 := z1 hen; omega
          · exact h
        rw [if_neg (by omega), if_neg (by omega), if_pos (show J < xs.length by omega), Nat.add_sub_cancel]
        have hz := z1 hen
        have hz2 := z2 (by omega)
        rw [if_neg hz2]
        have : (decide (e = J) && (decide (k ≤ at') || decide ((xs.getD J default).a < k))) = false := by
          by_cases hh : e = J
          · subst hh; rw [decide_eq_false (show ¬ k ≤ at' by omega), decide_eq_false hz, Bool.or_self, Bool.and_false]
          · rw [decide_eq_false hh, Bool.false_and]
        rw [this]; rfl
      · have hen' : e = xs.length := by omega
        rw [if_neg (show ¬ e + 1 < xs.length + 1 by omega), if_neg hen, hget]
        have ha0 := y1 0 (by omega)
        by_cases hJ0 : J = 0
        · subst hJ0
          have hz2 := z2 (by omega)
          rw [if_neg (by omega), if_pos rfl, if_pos (show 0 < xs.length by omega), if_neg hz2]
          rw [decide_eq_true ha0, Bool.or_true, Bool.and_true, if_pos (by simp)]
        · have hat0 := y2 0 (by omega)
          rw [if_pos (show 0 < J by omega)]
          by_cases hJn : J < xs.length
          · rw [if_pos hJn, decide_eq_false (Ne.symm hJ0), Bool.false_and]; rfl
          · rw [if_neg hJn, if_pos hat0, decide_eq_false (show ¬ k ≤ at' by omega), Bool.and_false, Bool.and_false]; rfl
    · rw [if_neg hk, Nat.add_zero]
      have hJe : e ≤ J := by
        rcases Nat.lt_or_ge J e with h | h
        · have h1 := y1 J h; have h2 := z2 (by omega); omega
        · exact h
      rw [if_pos (show e < xs.length + 1 by omega), hget]
      by_cases hlt : e < J
      · rw [if_pos hlt, if_pos (show e < xs.length by omega)]
        have hz := z1 (by omega)
        by_cases hJn : J < xs.length
        · rw [if_pos hJn, decide_eq_false (show e ≠ J by omega), Bool.false_and]; rfl
        · have hat0 := y2 0 (by omega)
          rw [if_neg hJn, if_pos hat0]
          by_cases hh : e = 0
          · subst hh; rw [decide_eq_false hz, Bool.false_and, Bool.and_false]; rfl
          · rw [decide_eq_false hh, Bool.false_and]; rfl
      · obtain rfl : e = J := by omega
        rw [if_neg (by omega), if_pos rfl]
        by_cases hJn : e < xs.length
        · have hz2 := z2 hJn
          rw [if_pos hJn, if_neg hz2]
          rw [decide_eq_true (show k ≤ at' by omega), Bool.true_or, Bool.and_true, if_pos (by simp)]
        · have hat0 := y2 0 (by omega)
          have ha0 := y1 0 (by omega)
          rw [if_neg hJn, if_pos hat0]
          rw [decide_eq_true (show k ≤ at' by omega), decide_eq_true ha0, if_pos (by simp)]

theorem hand_len {xs : List Tr} {fr at' to' u : Int} (h : handOk xs fr at' to' u = true) :
    (handR xs fr at' to' u).length = if (holdL xs at').a = at' then xs.length else xs.length + 1 := by
  by_cases ha : (holdL xs at').a = at'
  · rw [(handR_set h ha).2.2, if_pos ha, List.length_set]
  · rw [(handR_ins h ha).2, if_neg ha]
    have := ltE_le at' xs
    simp; omega

theorem hand_valid {xs : List Tr} {fr at' to' u : Int} (h : handOk xs fr at' to' u = true) : lsValid (handR xs fr at' to' u) = true := by
  obtain ⟨hv, h1, h2, h3, h4, h5, h6⟩ := handOk_facts h
  obtain ⟨hl, hf⟩ := lsAt_facts hv
  have hlen := hand_len h
  by_cases ha : (holdL xs at').a = at'
  · obtain ⟨hlt, e1, e2⟩ := handR_set h ha
    have hNa : (xs.getD (ltE xs at') default).a = at' := by unfold holdL at ha; rwa [e1] at ha
    have hg : ∀ j, ((xs.set (ltE xs at') ⟨at', to', u⟩).getD j default).a = (xs.getD j default).a := fun j => by
      by_cases e : ltE xs at' = j
      · subst e
        rw [hNa]
        simp [hlt]
      · simp [e]
    rw [e2]
    refine lsValid_of (by rw [List.length_set]; exact hl) (fun j hj => ?_)
    rw [List.length_set] at hj
    obtain ⟨f1, f2, f3, f4⟩ := hf j hj
    rw [hg, hg]
    by_cases e : ltE xs at' = j
    · subst e
      have e3 : (xs.set (ltE xs at') (⟨at', to', u⟩ : Tr)).getD (ltE xs at') default = ⟨at', to', u⟩ := by simp [hlt]
      rw [e3]
      exact ⟨f1, h3, h4, f4⟩
    · have e3 : (xs.set (ltE xs at') (⟨at', to', u⟩ : Tr)).getD j default = xs.getD j default := by simp [e]
      rw [e3]
      exact ⟨f1, f2, f3, f4⟩
  · obtain ⟨h12, e2⟩ := handR_ins h ha
    have hJl := ltE_le at' xs
    have hget := ins_get hJl ⟨at', to', u⟩
    rw [if_neg ha] at hlen
    rw [e2] at hlen ⊢
    refine lsValid_of (by rw [hlen]; omega) (fun j hj => ?_)
    rw [hlen] at hj
    rw [hget, hget]
    have y2 : ∀ j, j < ltE xs at' → (xs.getD j default).a < at' := fun j hj => ltE_yes hj
    have z2 : ltE xs at' < xs.length → ¬ (xs.getD (ltE xs at') default).a < at' := fun h => ltE_stop h
    have hne : ltE xs at' < xs.length → (xs.getD (ltE xs at') default).a ≠ at' := fun hlt => by
      have e : holdL xs at' = xs.getD (ltE xs at') default := by unfold holdL atL; rw [if_pos hlt]
      rwa [e] at ha
    generalize ltE xs at' = J at *
    rcases Nat.lt_trichotomy j J with hj1 | rfl | hj1
    · rw [if_pos hj1]
      obtain ⟨f1, f2, f3, f4⟩ := hf j (by omega)
      refine ⟨f1, f2, f3, ?_⟩
      rw [if_pos (by omega)]
      exact f4
    · rw [if_neg (by omega), if_pos rfl]
      refine ⟨h2, h3, h4, ?_⟩
      by_cases h0 : j = 0
      · exact .inl h0
      · refine .inr ?_
        rw [if_pos (by omega)]
        exact y2 _ (by omega)
    · rw [if_neg (by omega), if_neg (by omega)]
      obtain ⟨f1, f2, f3, f4⟩ := hf (j - 1) (by omega)
      refine ⟨f1, f2, f3, .inr ?_⟩
      rw [if_neg (by omega)]
      by_cases e : j - 1 = J
      · rw [if_pos e, e]
        have := z2 (by omega)
        have := hne (by omega)
        show at' < _
        omega
      · rw [if_neg e]
        rcases f4 with f4 | f4
        · omega
        · exact f4

theorem part_owner {xs : List Tr} {at' k : Int} (h : partL xs at' k = true) : holdL xs k = holdL xs at' := by
  unfold partL at h
  rw [Bool.and_eq_true, decide_eq_true_eq] at h
  exact h.1
theorem part_self {xs : List Tr} (at' : Int) : partL xs at' at' = true := by
  unfold partL
  by_cases h : (holdL xs at').a < at'
  · simp [h]
  · simp [h]
theorem keysTo_same {xs ys : List Tr} {o : Int} (h : ∀ k : Int, ((holdL xs k).b = o ↔ (holdL ys k).b = o)) : ∀ n, keysTo xs o n = keysTo ys o n
  | 0 => rfl
  | n + 1 => by
    unfold keysTo
    rw [keysTo_same h n]
    by_cases e : (holdL xs (n : Int)).b = o
    · rw [if_pos e, if_pos ((h _).1 e)]
    · rw [if_neg e, if_neg (fun e' => e ((h _).2 e'))]
/-- Handing a part to oneself keeps all keys. -/
theorem hand_self {xs : List Tr} {fr at' u : Int} (h : handOk xs fr at' fr u = true) : leaseKeys (handR xs fr at' fr u) fr = leaseKeys xs fr := by
  obtain ⟨hv, h1, h2, h3, h4, h5, h6⟩ := handOk_facts h
  unfold leaseKeys
  rw [hand_valid h, hv, h1]
  have : keysTo (handR xs fr at' fr u) fr 64 = keysTo xs fr 64 := keysTo_same (fun k => by
    rw [hand_hold h]
    cases hp : partL xs at' k
    · simp
    · have := part_owner hp
      simp only [if_true, true_iff]
      rw [this]; exact h5) 64
  rw [this]
/-- Handing back is handing the part to oneself. -/
theorem hand_back {xs : List Tr} {fr at' to' u : Int} (h : handOk xs fr at' to' u = true) :
    handOk xs fr at' fr (holdL xs at').c = true ∧ handOk (handR xs fr at' to' u) to' at' fr (holdL xs at').c = true ∧
      handR (handR xs fr at' to' u) to' at' fr (holdL xs at').c = handR xs fr at' fr (holdL xs at').c := by
  obtain ⟨hv, h1, h2, h3, h4, h5, h6⟩ := handOk_facts h
  have hl := (lsAt_facts hv).1
  have hc : okT (holdL xs at').c = true := ((lsAt_facts hv).2 _ (atL_lt (by omega) at')).2.2.1
  have hv2 := hand_valid h
  have hh := hand_hold h at'
  rw [part_self, if_pos rfl] at hh
  have ho1 : handOk xs fr at' fr (holdL xs at').c = true := by
    unfold handOk lsArgs
    unfold holdL at h5 h6 hc ⊢
    simp only [hv, h1, h2, hc, Bool.and_true, Bool.true_and, Bool.and_eq_true, Bool.or_eq_true, decide_eq_true_eq]
    exact ⟨h5, h6⟩
  have ho2 : handOk (handR xs fr at' to' u) to' at' fr (holdL xs at').c = true := by
    have hb : ((handR xs fr at' to' u).getD (atL (handR xs fr at' to' u) at') default) = ⟨at', to', u⟩ := hh
    unfold handOk lsArgs
    rw [hv2, h1, h2, h3, hc, hb]
    simp
  refine ⟨ho1, ho2, ?_⟩
  obtain ⟨g1, g2, g3⟩ := handR_set ho2 (by rw [hh])
  rw [g3]
  by_cases ha : (holdL xs at').a = at'
  · obtain ⟨k1, k2, k3⟩ := handR_set h ha
    obtain ⟨-, -, k4⟩ := handR_set ho1 ha
    have hNa : (xs.getD (ltE xs at') default).a = at' := by unfold holdL at ha; rwa [k2] at ha
    rw [k3, k4, ltE_set k1 hNa, List.set_set]
  · obtain ⟨-, k3⟩ := handR_ins h ha
    obtain ⟨-, k4⟩ := handR_ins ho1 ha
    have hle := ltE_ins (xs := xs) (N := ⟨at', to', u⟩) at'
    simp only [Int.lt_irrefl, if_false, Nat.add_zero] at hle
    have hJl := ltE_le at' xs
    rw [k3, k4, hle]
    have hl2 : (xs.take (ltE xs at')).length = ltE xs at' := by simp; omega
    rw [List.set_append_right _ _ (by omega), hl2, Nat.sub_self, List.set_cons_zero]

end Go.Proofs.YtdcjacgaakpejaaDoor
