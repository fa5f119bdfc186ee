/-
  Plain laws: rounds come to rest, and a ring at rest is ideal. No program in sight.
-/
import Derived.Test.YtnoamohpkngbdaaStab
namespace Go.Proofs.Ytnoamohpkngbdaa
open Go.RowKit

def sumTo (f : Nat → Int) : Nat → Int
  | 0 => 0
  | n + 1 => sumTo f n + f n
theorem sumTo_le {f g : Nat → Int} : ∀ {n : Nat}, (∀ i, i < n → f i ≤ g i) → sumTo f n ≤ sumTo g n
  | 0, _ => Int.le_refl _
  | n + 1, h => by
    have := sumTo_le (n := n) (fun i hi => h i (by omega))
    have := h n (by omega)
    simp only [sumTo]; omega
theorem sumTo_lt {f g : Nat → Int} {k : Nat} : ∀ {n : Nat}, k < n → (∀ i, i < n → f i ≤ g i) → f k < g k → sumTo f n < sumTo g n
  | 0, hk, _, _ => by omega
  | n + 1, hk, h, hl => by
    have h2 := h n (by omega)
    simp only [sumTo]
    by_cases e : k = n
    · subst e
      have := sumTo_le (n := k) (fun i hi => h i (by omega))
      omega
    · have := sumTo_lt (n := n) (k := k) (by omega) (fun i hi => h i (by omega)) hl
      omega
theorem sumTo_nonneg {f : Nat → Int} : ∀ {n : Nat}, (∀ i, i < n → 0 ≤ f i) → 0 ≤ sumTo f n
  | 0, _ => Int.le_refl _
  | n + 1, h => by
    have := sumTo_nonneg (n := n) (fun i hi => h i (by omega))
    have := h n (by omega)
    simp only [sumTo]; omega

theorem dist_bounds {a b : Int} : 0 ≤ dist a b ∧ dist a b < 64 := by unfold dist; omega
theorem dist_btw {a x b : Int} (ha : okP a = true) (hx : okP x = true) (hb : okP b = true) (h : btw a x b = true) (hab : a ≠ b) : dist a x < dist a b ∧ dist x b < dist a b ∧ x ≠ a ∧ x ≠ b := by
  rw [okP_def] at *; rw [btw_iff] at h; unfold dist; omega

/-- The first live successor. -/
def fl (r : List Nd) (k : Nat) : Int := if live r (a0 (r.getD k default)) then a0 (r.getD k default) else a1 (r.getD k default)
def dK (r : List Nd) (k : Nat) : Int := dist (r.getD k default).id (fl r k)
def bK (r : List Nd) (k : Nat) : Int :=
  if live r (r.getD k default).before then (if (r.getD k default).before = (r.getD k default).id then 64 else dist (r.getD k default).before (r.getD k default).id) else 65
def pot (r : List Nd) : Int := sumTo (fun j => dK r j + bK r j) r.length
theorem dK_nonneg (r : List Nd) (k : Nat) : 0 ≤ dK r k := dist_bounds.1
theorem bK_nonneg (r : List Nd) (k : Nat) : 0 ≤ bK r k := by
  unfold bK; have := (@dist_bounds (r.getD k default).before (r.getD k default).id).1
  split
  · split <;> omega
  · omega
theorem pot_nonneg (r : List Nd) : 0 ≤ pot r := sumTo_nonneg fun i _ => by have := dK_nonneg r i; have := bK_nonneg r i; omega

theorem fl_live {r : List Nd} (h : ringSafe r = true) {k : Nat} (hk : k < r.length) : live r (fl r k) = true := by
  unfold fl
  split
  · assumption
  · rename_i hn
    rcases (ringSafe_iff.1 h).2.1 _ (getD_mem hk) with h' | h'
    · exact absurd h' hn
    · exact h'
theorem fl_ne {r : List Nd} (h : ringSafe r = true) {k : Nat} (hk : k < r.length) : fl r k ≠ (r.getD k default).id := by
  have := safe_order h (getD_mem hk)
  unfold fl
  split
  · exact fun e => this.2.1 e.symm
  · exact fun e => this.2.2.2 e.symm
def flS (r : List Nd) (k : Nat) : Nat := (fnd r (fl r k)).toNat
theorem flS_lt {r : List Nd} (h : ringSafe r = true) {k : Nat} (hk : k < r.length) : flS r k < r.length ∧ (r.getD (flS r k) default).id = fl r k ∧ fnd r (fl r k) = (flS r k : Int) ∧ flS r k ≠ k := by
  obtain ⟨s, hs, e1, e2, e3⟩ := fnd_at (fl_live h hk)
  unfold flS
  rw [e2]
  refine ⟨hs, e3, e1, fun e => ?_⟩
  subst e
  exact fl_ne h hk e3.symm

theorem setAfter_twice (r : List Nd) (k : Nat) (A B : List Int) : setAfter (setAfter r k A) k B = setAfter r k B := by
  by_cases hk : k < r.length
  · have h1 : (setAfter r k A).getD k default = { r.getD k default with after := A } := setAfter_at A hk
    show (setAfter r k A).set k { (setAfter r k A).getD k default with after := B } = _
    rw [h1]
    unfold setAfter
    rw [List.set_set]
  · have h1 : setAfter r k A = r := by unfold setAfter; exact List.set_eq_of_length_le (Nat.le_of_not_lt hk)
    rw [h1]

theorem stab2_eq {r : List Nd} (h : ringSafe r = true) {k : Nat} (hk : k < r.length) : stab2 r k = setAfter r k [fl r k, a0 (r.getD (flS r k) default)] := by
  obtain ⟨s1, s2, s3, s4⟩ := flS_lt h hk
  unfold stab2 dropK
  cases hd : dropOk r k
  · have hl : live r (a0 (r.getD k default)) = true := dropOk_f.1 hd
    have hf : fl r k = a0 (r.getD k default) := by unfold fl; rw [if_pos hl]
    rw [if_neg (by simp)]
    unfold adoptK
    have ha : adoptOk r k = true := adoptOk_t.2 hl
    rw [if_pos ha]
    unfold followK
    have e : (fnd r (a0 (r.getD k default))).toNat = flS r k := by unfold flS; rw [hf]
    rw [e, s2]
  · have hl : live r (a0 (r.getD k default)) = false := dropOk_t.1 hd
    have hf : fl r k = a1 (r.getD k default) := by unfold fl; rw [if_neg (by rw [hl]; simp)]
    rw [if_pos rfl]
    have hi : (setAfter r k [a1 (r.getD k default), (a1 (r.getD k default) + 1) % 64]).map Nd.id = r.map Nd.id := setAfter_ids _ _ _
    have ha0 : a0 ((setAfter r k [a1 (r.getD k default), (a1 (r.getD k default) + 1) % 64]).getD k default) = fl r k := by rw [setAfter_at _ hk, hf]; rfl
    unfold adoptK
    have ha : adoptOk (setAfter r k [a1 (r.getD k default), (a1 (r.getD k default) + 1) % 64]) k = true := by
      rw [adoptOk_t, ha0, ids_live hi]; exact fl_live h hk
    rw [if_pos ha]
    unfold followK
    rw [ha0, fnd_ids hi]
    have e : (fnd r (fl r k)).toNat = flS r k := rfl
    rw [e, setAfter_other _ hk s4, setAfter_twice, s2]

theorem live_set {r : List Nd} {k : Nat} {n : Nd} (hn : n.id = (r.getD k default).id) (x : Int) : live (r.set k n) x = live r x := by rw [live_ids, live_ids, set_ids hn]
theorem dK_set {r : List Nd} {k : Nat} {n : Nd} (hk : k < r.length) (hn : n.id = (r.getD k default).id) : dK (r.set k n) k = dist n.id (if live r (a0 n) then a0 n else a1 n) := by
  unfold dK fl; rw [getD_set hk, if_pos rfl, live_set hn]
theorem bK_set {r : List Nd} {k : Nat} {n : Nd} (hk : k < r.length) (hn : n.id = (r.getD k default).id) : bK (r.set k n) k = if live r n.before then (if n.before = n.id then 64 else dist n.before n.id) else 65 := by
  unfold bK; rw [getD_set hk, if_pos rfl, live_set hn]
/-- The potential after a node was replaced. -/
theorem pot_set_le {r : List Nd} {k : Nat} {n : Nd} (hk : k < r.length) (hn : n.id = (r.getD k default).id) (hd : dK (r.set k n) k + bK (r.set k n) k ≤ dK r k + bK r k) : pot (r.set k n) ≤ pot r := by
  unfold pot
  rw [List.length_set]
  refine sumTo_le fun i _ => ?_
  by_cases e : k = i
  · subst e; exact hd
  · have e1 : dK (r.set k n) i = dK r i := by unfold dK fl; rw [getD_set hk, if_neg e, live_set hn]
    have e2 : bK (r.set k n) i = bK r i := by unfold bK; rw [getD_set hk, if_neg e, live_set hn]
    rw [e1, e2]; exact Int.le_refl _
theorem pot_set_lt {r : List Nd} {k : Nat} {n : Nd} (hk : k < r.length) (hn : n.id = (r.getD k default).id) (hd : dK (r.set k n) k + bK (r.set k n) k < dK r k + bK r k) : pot (r.set k n) < pot r := by
  unfold pot
  rw [List.length_set]
  refine sumTo_lt hk (fun i _ => ?_) hd
  by_cases e : k = i
  · subst e; exact Int.le_of_lt hd
  · have e1 : dK (r.set k n) i = dK r i := by unfold dK fl; rw [getD_set hk, if_neg e, live_set hn]
    have e2 : bK (r.set k n) i = bK r i := by unfold bK; rw [getD_set hk, if_neg e, live_set hn]
    rw [e1, e2]; exact Int.le_refl _

theorem stab2_pot {r : List Nd} (h : ringSafe r = true) {k : Nat} (hk : k < r.length) : pot (stab2 r k) ≤ pot r := by
  rw [stab2_eq h hk]
  unfold setAfter
  refine pot_set_le hk rfl (Int.le_of_eq ?_)
  have hl := fl_live h hk
  have e1 : dK (r.set k { r.getD k default with after := [fl r k, a0 (r.getD (flS r k) default)] }) k = dK r k := by
    refine (dK_set hk (by rfl)).trans ?_
    show dist (r.getD k default).id (if live r (fl r k) = true then fl r k else _) = _
    rw [if_pos hl]; rfl
  have e2 : bK (r.set k { r.getD k default with after := [fl r k, a0 (r.getD (flS r k) default)] }) k = bK r k := by
    exact bK_set hk (by rfl)
  rw [e1, e2]

def fire3 (r : List Nd) (k : Nat) : Bool := decide (0 ≤ stabB r k) && closerOk r k (stabB r k)
def fire4 (r : List Nd) (k : Nat) : Bool := notifyOk r (stabS r k) (r.getD k default).id
theorem stab3_quiet {r : List Nd} {k : Nat} (h : fire3 r k = false) : stab3 r k = r := by
  unfold stab3
  split
  · rename_i h0
    unfold fire3 at h
    unfold closerK
    have : closerOk r k (stabB r k) = false := by simpa [h0] using h
    rw [this]; rfl
  · rfl
theorem stab4_quiet {r : List Nd} {k : Nat} (h : fire4 r k = false) : stab4 r k = r := by
  unfold fire4 at h
  unfold stab4 notifyK
  rw [h]; rfl
theorem stab3_pot {r : List Nd} (h : ringSafe r = true) {k : Nat} (hk : k < r.length) (hl : live r (a0 (r.getD k default)) = true) (hf : fire3 r k = true) : pot (stab3 r k) < pot r := by
  unfold fire3 at hf
  simp only [Bool.and_eq_true, decide_eq_true_eq] at hf
  unfold stab3
  rw [if_pos hf.1]
  unfold closerK
  rw [if_pos hf.2]
  have hc := hf.2
  unfold closerOk at hc
  simp only [Bool.and_eq_true, decide_eq_true_eq] at hc
  obtain ⟨s, hs, -, e, he⟩ := fnd_at (fnd_live_iff.1 hc.1)
  rw [e]
  unfold followK setAfter
  refine pot_set_lt hk rfl ?_
  have hv := safe_valid h
  have ho := safe_order h (getD_mem hk)
  have e1 : dK (r.set k { r.getD k default with after := [(r.getD s default).id, a0 (r.getD s default)] }) k = dist (r.getD k default).id (r.getD s default).id := by
    refine (dK_set hk (by rfl)).trans ?_
    show dist (r.getD k default).id (if live r (r.getD s default).id = true then (r.getD s default).id else _) = _
    rw [if_pos (live_iff.2 ⟨_, getD_mem hs, rfl⟩)]
  have e2 : bK (r.set k { r.getD k default with after := [(r.getD s default).id, a0 (r.getD s default)] }) k = bK r k := by
    exact bK_set hk (by rfl)
  rw [e1, e2]
  have e3 : dK r k = dist (r.getD k default).id (a0 (r.getD k default)) := by unfold dK fl; rw [if_pos hl]
  rw [e3]
  have := dist_btw (valid_node hv (getD_mem hk)).1 (valid_node hv (getD_mem hs)).1 (live_ok hv hl) (by rw [he]; exact hc.2) ho.2.1
  omega
theorem stab4_pot {r : List Nd} (h : ringSafe r = true) {k : Nat} (hk : k < r.length) (hl : live r (a0 (r.getD k default)) = true) (hf : fire4 r k = true) : pot (stab4 r k) < pot r := by
  obtain ⟨hs, he, -⟩ := stabS_lt hl
  have hv := safe_valid h
  unfold stab4 notifyK
  have hf' := hf
  unfold fire4 at hf
  rw [if_pos hf]
  unfold setBefore
  refine pot_set_lt hs rfl ?_
  obtain ⟨s, hse⟩ : ∃ s, stabS r k = s := ⟨_, rfl⟩
  rw [hse] at hs he hf ⊢
  unfold notifyOk at hf
  simp only [Bool.and_eq_true, decide_eq_true_eq, Bool.not_eq_true', beq_eq_false_iff_ne] at hf
  obtain ⟨⟨h1, h2⟩, h3⟩ := hf
  have hlo := fnd_live_iff.1 h1
  have e1 : dK (r.set s { r.getD s default with before := (r.getD k default).id }) s = dK r s := by
    exact dK_set hs (by rfl)
  have e2 : bK (r.set s { r.getD s default with before := (r.getD k default).id }) s = dist (r.getD k default).id (r.getD s default).id := by
    refine (bK_set hs (by rfl)).trans ?_
    show (if live r (r.getD k default).id = true then (if (r.getD k default).id = (r.getD s default).id then 64 else dist (r.getD k default).id (r.getD s default).id) else 65) = _
    rw [if_pos hlo, if_neg h2]
  rw [e1, e2]
  have hd := @dist_bounds (r.getD k default).id (r.getD s default).id
  unfold bK
  cases hlb : live r (r.getD s default).before
  · rw [if_neg (by simp)]; omega
  · rw [if_pos rfl]
    by_cases hself : (r.getD s default).before = (r.getD s default).id
    · rw [if_pos hself]; omega
    · rw [if_neg hself]
      have hb0 : 0 ≤ (r.getD s default).before := (okP_def.1 (live_ok hv hlb)).1
      have hb1 := fnd_live_iff.2 hlb
      have hbt : btw (r.getD s default).before (r.getD k default).id (r.getD s default).id = true := by
        rw [decide_eq_true hb0, decide_eq_true hb1] at h3; simpa using h3
      have := dist_btw (live_ok hv hlb) (valid_node hv (getD_mem hk)).1 (valid_node hv (getD_mem hs)).1 hbt hself
      omega

/-- A node stabilizes: the potential falls, or the node has only dropped and adopted. -/
theorem stab_pot {r : List Nd} (h : ringSafe r = true) {k : Nat} (hk : k < r.length) :
    pot (stabK r k) < pot r ∨ (stabK r k = stab2 r k ∧ pot (stabK r k) ≤ pot r ∧ fire3 (stab2 r k) k = false ∧ fire4 (stab2 r k) k = false) := by
  obtain ⟨h2, h3, -, l2, l3⟩ := stab_stages h hk
  have hk2 : k < (stab2 r k).length := by rw [h2.len]; exact hk
  have hk3 : k < (stab3 (stab2 r k) k).length := by rw [h3.len]; exact hk
  have p2 := stab2_pot h hk
  unfold stabK
  cases f3 : fire3 (stab2 r k) k
  · have e3 := stab3_quiet f3
    rw [e3] at l3 hk3 ⊢
    cases f4 : fire4 (stab2 r k) k
    · have e4 := stab4_quiet f4
      rw [e4]
      exact .inr ⟨rfl, p2, rfl, rfl⟩
    · have := stab4_pot h2.1 hk2 l2 f4
      exact .inl (by omega)
  · have p3 := stab3_pot h2.1 hk2 l2 f3
    cases f4 : fire4 (stab3 (stab2 r k) k) k
    · rw [stab4_quiet f4]
      exact .inl (by omega)
    · have := stab4_pot h3.1 hk3 l3 f4
      exact .inl (by omega)
theorem round_pot {r : List Nd} (h : ringSafe r = true) : ∀ k, k ≤ r.length → pot (roundTo r k) ≤ pot r
  | 0, _ => Int.le_refl _
  | k + 1, hk => by
    have ih := round_pot h k (by omega)
    have hf := roundTo_fine h k (by omega)
    have hkl : k < (roundTo r k).length := by rw [hf.len]; omega
    show pot (stabK (roundTo r k) k) ≤ _
    rcases stab_pot hf.1 hkl with h' | ⟨-, h', -⟩ <;> omega
/-- If the potential stays, no node did more than drop and adopt. -/
theorem round_quiet {r : List Nd} (h : ringSafe r = true) : ∀ n, n ≤ r.length → pot (roundTo r n) = pot r → ∀ k, k < n →
    stabK (roundTo r k) k = stab2 (roundTo r k) k ∧ fire3 (stab2 (roundTo r k) k) k = false ∧ fire4 (stab2 (roundTo r k) k) k = false
  | 0, _, _, k, hk => by omega
  | n + 1, hn, hp, k, hk => by
    have hf := roundTo_fine h n (by omega)
    have hkl : n < (roundTo r n).length := by rw [hf.len]; omega
    have ih := round_pot h n (by omega)
    have hp' : pot (stabK (roundTo r n) n) = pot r := hp
    rcases stab_pot hf.1 hkl with h' | ⟨h1, h2, h3, h4⟩
    · omega
    · by_cases e : k = n
      · subst e; exact ⟨h1, h3, h4⟩
      · exact round_quiet h n (by omega) (by omega) k (by omega)

/-- A quiet round, node by node. -/
theorem quiet_nodes {r : List Nd} (h : ringSafe r = true) (hp : pot (roundK r) = pot r) : ∀ k, k ≤ r.length →
    (∀ j, k ≤ j → (roundTo r k).getD j default = r.getD j default) ∧
    (∀ j, j < k → (roundTo r k).getD j default = { r.getD j default with after := [fl r j, if flS r j < j then fl r (flS r j) else a0 (r.getD (flS r j) default)] })
  | 0, _ => ⟨fun _ _ => rfl, fun j hj => by omega⟩
  | k + 1, hk => by
    obtain ⟨i1, i2⟩ := quiet_nodes h hp k (by omega)
    have hf := roundTo_fine h k (by omega)
    have hkl : k < (roundTo r k).length := by rw [hf.len]; omega
    have hq := (round_quiet h r.length (Nat.le_refl _) hp k (by omega)).1
    have e : roundTo r (k + 1) = setAfter (roundTo r k) k [fl (roundTo r k) k, a0 ((roundTo r k).getD (flS (roundTo r k) k) default)] := by
      show stabK (roundTo r k) k = _
      rw [hq, stab2_eq hf.1 hkl]
    have hkn := i1 k (Nat.le_refl _)
    have hfl : fl (roundTo r k) k = fl r k := by unfold fl; rw [hkn, hf.live_eq]
    have hfs : flS (roundTo r k) k = flS r k := by unfold flS; rw [hfl, hf.fnd_eq]
    rw [hfl, hfs] at e
    obtain ⟨s1, -, -, s4⟩ := flS_lt h (show k < r.length by omega)
    have ha : a0 ((roundTo r k).getD (flS r k) default) = if flS r k < k then fl r (flS r k) else a0 (r.getD (flS r k) default) := by
      by_cases hs : flS r k < k
      · rw [if_pos hs, i2 _ hs]; rfl
      · rw [if_neg hs, i1 _ (by omega)]
    rw [ha] at e
    constructor
    · intro j hj
      rw [e, setAfter_other _ hkl (by omega)]
      exact i1 j (by omega)
    · intro j hj
      by_cases ej : j = k
      · subst ej
        rw [e, setAfter_at _ hkl, hkn]
      · rw [e, setAfter_other _ hkl ej]
        exact i2 j (by omega)

/-- All first successors are live. -/
def allLive (r : List Nd) : Prop := ∀ j, j < r.length → live r (a0 (r.getD j default)) = true
/-- All second successors are the first ones' first. -/
def allSecond (r : List Nd) : Prop := ∀ j, j < r.length → a1 (r.getD j default) = a0 (r.getD (flS r j) default)
open Classical in
noncomputable def flag (r : List Nd) : Nat := if allLive r then (if allSecond r then 0 else 1) else 2
noncomputable def meas (r : List Nd) : Nat := 3 * (pot r).toNat + flag r
theorem flag_le (r : List Nd) : flag r ≤ 2 := by unfold flag; split; split <;> omega; omega

theorem ext_nd {r r' : List Nd} (hl : r.length = r'.length) (h : ∀ j, j < r.length → r.getD j default = r'.getD j default) : r = r' := by
  refine List.ext_getElem hl fun i h1 h2 => ?_
  have := h i h1
  simpa [h1, h2] using this

theorem round_meas {r : List Nd} (h : ringSafe r = true) (hne : roundK r ≠ r) : meas (roundK r) < meas r := by
  have hF := roundK_fine h
  have hle : pot (roundK r) ≤ pot r := round_pot h _ (Nat.le_refl _)
  have n1 := pot_nonneg r
  have n2 := pot_nonneg (roundK r)
  have f2 := flag_le (roundK r)
  unfold meas
  by_cases hp : pot (roundK r) = pot r
  · have hq := (quiet_nodes h hp r.length (Nat.le_refl _)).2
    have hlen := hF.len
    have hA : allLive (roundK r) := fun j hj => by
      rw [hF.live_eq]
      have : (roundK r).getD j default = _ := hq j (by omega)
      rw [this]
      exact fl_live h (by omega)
    have f3 : flag (roundK r) ≤ 1 := by unfold flag; rw [if_pos hA]; split <;> omega
    rw [hp]
    by_cases hal : allLive r
    · have hfl : ∀ j, j < r.length → fl r j = a0 (r.getD j default) := fun j hj => by unfold fl; rw [if_pos (hal j hj)]
      have hq' : ∀ j, j < r.length → (roundK r).getD j default = { r.getD j default with after := [a0 (r.getD j default), a0 (r.getD (flS r j) default)] } := fun j hj => by
        have : (roundK r).getD j default = _ := hq j hj
        rw [this, hfl j hj]
        have hs := (flS_lt h hj).1
        split
        · rw [hfl _ hs]
        · rfl
      have hfs : ∀ j, j < r.length → flS (roundK r) j = flS r j := fun j hj => by
        unfold flS
        rw [hF.fnd_eq]
        have : fl (roundK r) j = fl r j := by
          unfold fl
          rw [if_pos (hA j (by omega)), if_pos (hal j hj), hq' j hj]
          rfl
        rw [this]
      have hS : allSecond (roundK r) := fun j hj => by
        have hj' : j < r.length := by omega
        have hs := (flS_lt h hj').1
        rw [hfs j hj', hq' j hj', hq' _ hs]
        rfl
      have f4 : flag (roundK r) = 0 := by unfold flag; rw [if_pos hA, if_pos hS]
      by_cases has : allSecond r
      · refine absurd (ext_nd hlen fun j hj => ?_) hne
        have hj' : j < r.length := by omega
        rw [hq' j hj', ← has j hj']
        have := after2 (valid_node (safe_valid h) (getD_mem hj')).2.2.1
        rw [← this]
      · have f5 : flag r = 1 := by unfold flag; rw [if_pos hal, if_neg has]
        omega
    · have f5 : flag r = 2 := by unfold flag; rw [if_neg hal]
      omega
  · omega

end Go.Proofs.Ytnoamohpkngbdaa
