/-
  Plain laws: the steps keep a ring safe; stabilizing, rounds. No program in sight.
-/
import Derived.Test.YtnoamohpkngbdaaOrd
namespace Go.Proofs.Ytnoamohpkngbdaa
open Go.RowKit

theorem setAfter_at {r : List Nd} {k : Nat} (A : List Int) (hk : k < r.length) : (setAfter r k A).getD k default = { r.getD k default with after := A } := by
  unfold setAfter; rw [getD_set hk, if_pos rfl]
theorem setBefore_at {r : List Nd} {k : Nat} (b : Int) (hk : k < r.length) : (setBefore r k b).getD k default = { r.getD k default with before := b } := by
  unfold setBefore; rw [getD_set hk, if_pos rfl]
theorem setAfter_other {r : List Nd} {k j : Nat} (A : List Int) (hk : k < r.length) (h : j ≠ k) : (setAfter r k A).getD j default = r.getD j default := by
  unfold setAfter; rw [getD_set hk, if_neg (Ne.symm h)]
theorem setBefore_other {r : List Nd} {k j : Nat} (b : Int) (hk : k < r.length) (h : j ≠ k) : (setBefore r k b).getD j default = r.getD j default := by
  unfold setBefore; rw [getD_set hk, if_neg (Ne.symm h)]
theorem setAfter_ids (r : List Nd) (k : Nat) (A : List Int) : (setAfter r k A).map Nd.id = r.map Nd.id := set_ids rfl
theorem setBefore_ids (r : List Nd) (k : Nat) (b : Int) : (setBefore r k b).map Nd.id = r.map Nd.id := set_ids rfl
theorem followK_ids (r : List Nd) (k s : Nat) : (followK r k s).map Nd.id = r.map Nd.id := setAfter_ids _ _ _
theorem dropK_ids (r : List Nd) (k : Nat) : (dropK r k).map Nd.id = r.map Nd.id := by
  unfold dropK; split
  · exact setAfter_ids _ _ _
  · rfl
theorem adoptK_ids (r : List Nd) (k : Nat) : (adoptK r k).map Nd.id = r.map Nd.id := by
  unfold adoptK; split
  · exact followK_ids _ _ _
  · rfl
theorem closerK_ids (r : List Nd) (k : Nat) (o : Int) : (closerK r k o).map Nd.id = r.map Nd.id := by
  unfold closerK; split
  · exact followK_ids _ _ _
  · rfl
theorem notifyK_ids (r : List Nd) (k : Nat) (o : Int) : (notifyK r k o).map Nd.id = r.map Nd.id := by
  unfold notifyK; split
  · exact setBefore_ids _ _ _
  · rfl
theorem ids_len {r r' : List Nd} (h : r'.map Nd.id = r.map Nd.id) : r'.length = r.length := by simpa using congrArg List.length h
theorem ids_live {r r' : List Nd} (h : r'.map Nd.id = r.map Nd.id) (x : Int) : live r' x = live r x := by rw [live_ids, live_ids, h]
theorem ids_at {r r' : List Nd} (h : r'.map Nd.id = r.map Nd.id) (j : Nat) : (r'.getD j default).id = (r.getD j default).id := by
  have hl := ids_len h
  have h1 : (r'.map Nd.id).getD j (default : Nd).id = (r.map Nd.id).getD j (default : Nd).id := by rw [h]
  simp only [List.getD_eq_getElem?_getD, List.getElem?_map] at h1
  by_cases hj : j < r.length
  · have hj' : j < r'.length := by omega
    simpa [hj, hj'] using h1
  · have hj' : ¬ j < r'.length := by omega
    simp [List.getElem?_eq_none (Nat.le_of_not_lt hj), List.getElem?_eq_none (Nat.le_of_not_lt hj')]

/-- A safe step: safe, the same nodes, the principals kept. -/
def Fine (r r' : List Nd) : Prop := ringSafe r' = true ∧ r'.map Nd.id = r.map Nd.id ∧ ∀ p, p ∈ prin r → p ∈ prin r'
theorem Fine.refl {r : List Nd} (h : ringSafe r = true) : Fine r r := ⟨h, rfl, fun _ h => h⟩
theorem Fine.trans {a b c : List Nd} (h : Fine a b) (h' : Fine b c) : Fine a c := ⟨h'.1, h'.2.1.trans h.2.1, fun p hp => h'.2.2 p (h.2.2 p hp)⟩
theorem Fine.len {a b : List Nd} (h : Fine a b) : b.length = a.length := ids_len h.2.1
theorem Fine.live_eq {a b : List Nd} (h : Fine a b) (x : Int) : live b x = live a x := ids_live h.2.1 x
theorem Fine.fnd_eq {a b : List Nd} (h : Fine a b) (x : Int) : fnd b x = fnd a x := fnd_ids h.2.1 x
theorem Fine.id_eq {a b : List Nd} (h : Fine a b) (j : Nat) : (b.getD j default).id = (a.getD j default).id := ids_at h.2.1 j

theorem prin_skips {r : List Nd} (h : ringSafe r = true) {p : Int} (hp : p ∈ prin r) {k : Nat} (hk : k < r.length) : btw (r.getD k default).id p (a0 (r.getD k default)) = false ∧ btw (a0 (r.getD k default)) p (a1 (r.getD k default)) = false := by
  have hm := getD_mem hk
  have := (mem_prin.1 hp).2 _ hm
  rw [skip_iff (valid_node (safe_valid h) hm).2.2.1, Bool.or_eq_false_iff] at this
  exact this
theorem skip_mk {i b x y z : Int} : skip ⟨i, b, [x, y]⟩ z = (btw i z x || btw x z y) := by simp [skip, skipFrom]

theorem next_ok {y : Int} : okP ((y + 1) % 64) = true := by rw [okP_def]; omega
theorem btw_next {y z : Int} (hy : okP y = true) (hz : okP z = true) : btw y z ((y + 1) % 64) = false := by
  rw [okP_def] at *; rw [btw_no]; omega

theorem live_ok {r : List Nd} (h : ringValid r = true) {x : Int} (hx : live r x = true) : okP x = true := by
  obtain ⟨n, hn, rfl⟩ := live_iff.1 hx
  exact (valid_node h hn).1

theorem dropOk_t {r : List Nd} {k : Nat} : dropOk r k = true ↔ live r (a0 (r.getD k default)) = false := by
  unfold dropOk; rw [decide_eq_true_eq]; exact fnd_dead_iff
theorem dropOk_f {r : List Nd} {k : Nat} : dropOk r k = false ↔ live r (a0 (r.getD k default)) = true := by
  unfold dropOk; rw [decide_eq_false_iff_not, ← fnd_live_iff]; omega
theorem adoptOk_t {r : List Nd} {k : Nat} : adoptOk r k = true ↔ live r (a0 (r.getD k default)) = true := by
  unfold adoptOk; rw [decide_eq_true_eq]; exact fnd_live_iff
theorem dropK_fine {r : List Nd} (h : ringSafe r = true) {k : Nat} (hk : k < r.length) : Fine r (dropK r k) := by
  unfold dropK
  split
  · rename_i hd
    have hdead := dropOk_t.1 hd
    have hm := getD_mem hk
    have ho := valid_node (safe_valid h) hm
    have h1 : live r (a1 (r.getD k default)) = true := by
      rcases (ringSafe_iff.1 h).2.1 _ hm with h' | h'
      · rw [hdead] at h'; cases h'
      · exact h'
    have hor := safe_order h hm
    have := safe_set (n := { r.getD k default with after := [a1 (r.getD k default), (a1 (r.getD k default) + 1) % 64] }) h hk rfl (NdOk.mk2 ho.1 ho.2.1 ho.a1ok next_ok) (.inl h1) (fun p hp => by
      obtain ⟨s1, s2⟩ := prin_skips h hp hk
      have hpl := (mem_prin.1 hp).1
      have hpk := live_ok (safe_valid h) hpl
      have hne : p ≠ a0 (r.getD k default) := fun e => by rw [e, hdead] at hpl; cases hpl
      rw [skip_mk, btw_next ho.a1ok hpk, Bool.or_false]
      have := hor.1
      rw [btw_iff] at this
      rw [btw_no] at s1 s2 ⊢
      omega)
    exact ⟨this.1, setAfter_ids _ _ _, this.2⟩
  · exact Fine.refl h
theorem follow_fine {r : List Nd} (h : ringSafe r = true) {k s : Nat} (hk : k < r.length) (hs : s < r.length)
    (hb : (r.getD s default).id = a0 (r.getD k default) ∨ btw (r.getD k default).id (r.getD s default).id (a0 (r.getD k default)) = true) : Fine r (followK r k s) := by
  have hm := getD_mem hk
  have hms := getD_mem hs
  have ho := valid_node (safe_valid h) hm
  have hos := valid_node (safe_valid h) hms
  have := safe_set (n := { r.getD k default with after := [(r.getD s default).id, a0 (r.getD s default)] }) h hk rfl (NdOk.mk2 ho.1 ho.2.1 hos.1 hos.a0ok) (.inl (live_iff.2 ⟨_, hms, rfl⟩)) (fun p hp => by
    obtain ⟨s1, -⟩ := prin_skips h hp hk
    obtain ⟨s2, -⟩ := prin_skips h hp hs
    rw [skip_mk, s2, Bool.or_false]
    rcases hb with e | e
    · rw [e]; exact s1
    · rw [btw_iff] at e
      rw [btw_no] at s1 ⊢
      omega)
  exact ⟨this.1, setAfter_ids _ _ _, this.2⟩
theorem adoptK_fine {r : List Nd} (h : ringSafe r = true) {k : Nat} (hk : k < r.length) : Fine r (adoptK r k) := by
  unfold adoptK
  split
  · rename_i hd
    have hl := adoptOk_t.1 hd
    obtain ⟨s, hs, -, e, he⟩ := fnd_at hl
    rw [e]
    exact follow_fine h hk hs (.inl he)
  · exact Fine.refl h
theorem closerK_fine {r : List Nd} (h : ringSafe r = true) {k : Nat} (hk : k < r.length) (o : Int) : Fine r (closerK r k o) := by
  unfold closerK
  split
  · rename_i hd
    unfold closerOk at hd
    simp only [Bool.and_eq_true, decide_eq_true_eq] at hd
    obtain ⟨s, hs, -, e, he⟩ := fnd_at (fnd_live_iff.1 hd.1)
    rw [e]
    exact follow_fine h hk hs (.inr (by rw [he]; exact hd.2))
  · exact Fine.refl h
theorem notifyK_fine {r : List Nd} (h : ringSafe r = true) {k : Nat} (hk : k < r.length) (o : Int) : Fine r (notifyK r k o) := by
  unfold notifyK
  split
  · rename_i hd
    unfold notifyOk at hd
    simp only [Bool.and_eq_true, decide_eq_true_eq] at hd
    have hm := getD_mem hk
    have ho := valid_node (safe_valid h) hm
    have hlo := fnd_live_iff.1 hd.1.1
    have := safe_set (n := { r.getD k default with before := o }) h hk rfl ⟨ho.1, .inr (live_ok (safe_valid h) hlo), ho.2.2.1, ho.2.2.2⟩ (by have := (ringSafe_iff.1 h).2.1 _ hm; exact this) (fun p hp => by
      have := (mem_prin.1 hp).2 _ hm
      exact this)
    exact ⟨this.1, setBefore_ids _ _ _, this.2⟩
  · exact Fine.refl h

/-- Node k stabilizes. -/
def stab2 (r : List Nd) (k : Nat) : List Nd := adoptK (dropK r k) k
def stabS (r : List Nd) (k : Nat) : Nat := (fnd r (a0 (r.getD k default))).toNat
def stabB (r : List Nd) (k : Nat) : Int := (r.getD (stabS r k) default).before
def stab3 (r : List Nd) (k : Nat) : List Nd := if 0 ≤ stabB r k then closerK r k (stabB r k) else r
def stab4 (r : List Nd) (k : Nat) : List Nd := notifyK r (stabS r k) (r.getD k default).id
def stabK (r : List Nd) (k : Nat) : List Nd := stab4 (stab3 (stab2 r k) k) k
def roundTo (r : List Nd) : Nat → List Nd
  | 0 => r
  | k + 1 => stabK (roundTo r k) k
def roundK (r : List Nd) : List Nd := roundTo r r.length
def rStab (r : List Nd) (id : Int) : List Nd := stepR (ringSafe r && okP id) r id fun k => stabK r k
def rStabOk (r : List Nd) (id : Int) : Bool := stepB (ringSafe r && okP id) r id fun _ => true
def rRound (r : List Nd) : List Nd := if ringSafe r then roundK r else []

/-- Behind a drop the first successor is live. -/
theorem dropK_live {r : List Nd} (h : ringSafe r = true) {k : Nat} (hk : k < r.length) : live (dropK r k) (a0 ((dropK r k).getD k default)) = true := by
  rw [(dropK_fine h hk).live_eq]
  unfold dropK
  cases hd : dropOk r k
  · rw [if_neg (by simp)]
    exact dropOk_f.1 hd
  · rw [if_pos rfl, setAfter_at _ hk]
    have hdead := dropOk_t.1 hd
    rcases (ringSafe_iff.1 h).2.1 _ (getD_mem hk) with h' | h'
    · rw [hdead] at h'; cases h'
    · exact h'
theorem dropOk_again {r : List Nd} (h : ringSafe r = true) {k : Nat} (hk : k < r.length) : dropOk (dropK r k) k = false := dropOk_f.2 (dropK_live h hk)
theorem adoptK_a0 {r : List Nd} {k : Nat} (hk : k < r.length) : a0 ((adoptK r k).getD k default) = a0 (r.getD k default) := by
  unfold adoptK
  split
  · rename_i hd
    obtain ⟨s, hs, -, e, he⟩ := fnd_at (adoptOk_t.1 hd)
    unfold followK
    rw [e, setAfter_at _ hk]
    exact he
  · rfl
theorem stab2_fine {r : List Nd} (h : ringSafe r = true) {k : Nat} (hk : k < r.length) : Fine r (stab2 r k) := by
  have h1 := dropK_fine h hk
  exact h1.trans (adoptK_fine h1.1 (by rw [h1.len]; exact hk))
theorem stab2_live {r : List Nd} (h : ringSafe r = true) {k : Nat} (hk : k < r.length) : live r (a0 ((stab2 r k).getD k default)) = true := by
  have h1 := dropK_fine h hk
  unfold stab2
  rw [adoptK_a0 (by rw [h1.len]; exact hk), ← h1.live_eq]
  exact dropK_live h hk
theorem stab3_fine {r : List Nd} (h : ringSafe r = true) {k : Nat} (hk : k < r.length) : Fine r (stab3 r k) := by
  unfold stab3
  split
  · exact closerK_fine h hk _
  · exact Fine.refl h
theorem closerK_a0 {r : List Nd} {k : Nat} (hk : k < r.length) (o : Int) (hl : live r (a0 (r.getD k default)) = true) : live r (a0 ((closerK r k o).getD k default)) = true := by
  unfold closerK
  split
  · rename_i hd
    unfold closerOk at hd
    simp only [Bool.and_eq_true, decide_eq_true_eq] at hd
    obtain ⟨s, hs, -, e, he⟩ := fnd_at (fnd_live_iff.1 hd.1)
    unfold followK
    rw [e, setAfter_at _ hk]
    exact live_iff.2 ⟨_, getD_mem hs, rfl⟩
  · exact hl
theorem stab3_live {r : List Nd} {k : Nat} (hk : k < r.length) (hl : live r (a0 (r.getD k default)) = true) : live r (a0 ((stab3 r k).getD k default)) = true := by
  unfold stab3
  split
  · exact closerK_a0 hk _ hl
  · exact hl
theorem stabS_lt {r : List Nd} {k : Nat} (hl : live r (a0 (r.getD k default)) = true) : stabS r k < r.length ∧ (r.getD (stabS r k) default).id = a0 (r.getD k default) ∧ fnd r (a0 (r.getD k default)) = (stabS r k : Int) := by
  obtain ⟨s, hs, e1, e, he⟩ := fnd_at hl
  unfold stabS
  rw [e]
  exact ⟨hs, he, e1⟩
/-- What the stages of stabilizing are. -/
theorem stab_stages {r : List Nd} (h : ringSafe r = true) {k : Nat} (hk : k < r.length) :
    Fine r (stab2 r k) ∧ Fine r (stab3 (stab2 r k) k) ∧ Fine r (stabK r k) ∧ live (stab2 r k) (a0 ((stab2 r k).getD k default)) = true ∧ live (stab3 (stab2 r k) k) (a0 ((stab3 (stab2 r k) k).getD k default)) = true := by
  have h2 := stab2_fine h hk
  have hk2 : k < (stab2 r k).length := by rw [h2.len]; exact hk
  have l2 : live (stab2 r k) (a0 ((stab2 r k).getD k default)) = true := by rw [h2.live_eq]; exact stab2_live h hk
  have h3 := stab3_fine h2.1 hk2
  have l3 := stab3_live hk2 l2
  rw [← h3.live_eq] at l3
  have h23 := h2.trans h3
  exact ⟨h2, h23, h23.trans (notifyK_fine h3.1 (stabS_lt l3).1 _), l2, l3⟩
theorem stabK_fine {r : List Nd} (h : ringSafe r = true) {k : Nat} (hk : k < r.length) : Fine r (stabK r k) := (stab_stages h hk).2.2.1
theorem roundTo_fine {r : List Nd} (h : ringSafe r = true) : ∀ k, k ≤ r.length → Fine r (roundTo r k)
  | 0, _ => Fine.refl h
  | k + 1, hk => by
    have ih := roundTo_fine h k (by omega)
    exact ih.trans (stabK_fine ih.1 (by rw [ih.len]; omega))
theorem roundK_fine {r : List Nd} (h : ringSafe r = true) : Fine r (roundK r) := roundTo_fine h _ (Nat.le_refl _)

end Go.Proofs.Ytnoamohpkngbdaa
