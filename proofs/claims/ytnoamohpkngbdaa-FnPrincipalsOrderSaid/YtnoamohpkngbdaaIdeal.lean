/-
  Plain laws: a safe ring at rest is the ideal one, and the ideal one is safe and at rest. No program in sight.
-/
import Derived.Test.YtnoamohpkngbdaaConv
namespace Go.Proofs.Ytnoamohpkngbdaa
open Go.RowKit

def idealN (L : List Int) (i : Nat) : Nd := ⟨L.getD i 0, L.getD ((i + L.length - 1) % L.length) 0, [L.getD ((i + 1) % L.length) 0, L.getD ((i + 2) % L.length) 0]⟩
/-- The ring of nodes that know their neighbours. -/
def idealR (L : List Int) : List Nd := (List.range L.length).map (idealN L)
theorem idealR_len (L : List Int) : (idealR L).length = L.length := by simp [idealR]
theorem idealR_at {L : List Int} {i : Nat} (h : i < L.length) : (idealR L).getD i default = idealN L i := by
  simp [idealR, h]
theorem idealR_ids (L : List Int) : (idealR L).map Nd.id = L := by
  refine List.ext_getElem (by simp [idealR]) fun i h1 h2 => ?_
  simp [idealR, idealN, h2]

/-- Nodes are ascending positions. -/
def nodesOk (L : List Int) : Prop := L.length ≤ 10 ∧ (∀ i, i < L.length → okP (L.getD i 0) = true) ∧ ∀ i j, i < j → j < L.length → L.getD i 0 < L.getD j 0
theorem ids_at_getD {r : List Nd} {j : Nat} (h : j < r.length) : (r.map Nd.id).getD j 0 = (r.getD j default).id := by simp [h]
theorem nodesOk_ids {r : List Nd} (h : ringValid r = true) : nodesOk (r.map Nd.id) := by
  obtain ⟨h1, h2, h3⟩ := ringValid_iff.1 h
  refine ⟨by simpa using h1, fun i hi => ?_, fun i j hij hj => ?_⟩
  · rw [ids_at_getD (by simpa using hi)]; exact (h2 i (by simpa using hi)).1
  · have hj' : j < r.length := by simpa using hj
    rw [ids_at_getD hj', ids_at_getD (by omega)]; exact h3 i j hij hj'
theorem idealR_valid {L : List Int} (h : nodesOk L) : ringValid (idealR L) = true := by
  obtain ⟨h1, h2, h3⟩ := h
  refine ringValid_iff.2 ⟨by rw [idealR_len]; exact h1, fun j hj => ?_, fun i j hij hj => ?_⟩
  · rw [idealR_len] at hj
    rw [idealR_at hj]
    have hp : 0 < L.length := by omega
    exact NdOk.mk2 (h2 _ hj) (.inr (h2 _ (Nat.mod_lt _ hp))) (h2 _ (Nat.mod_lt _ hp)) (h2 _ (Nat.mod_lt _ hp))
  · rw [idealR_len] at hj
    rw [idealR_at hj, idealR_at (by omega)]
    exact h3 i j hij hj
/-- No node lies between two neighbours. -/
theorem btw_neighbours {L : List Int} (h : nodesOk L) {i j : Nat} (hi : i < L.length) (hj : j < L.length) : btw (L.getD i 0) (L.getD j 0) (L.getD ((i + 1) % L.length) 0) = false := by
  obtain ⟨-, h2, h3⟩ := h
  have hp : 0 < L.length := by omega
  rw [btw_no]
  by_cases e : i + 1 < L.length
  · rw [Nat.mod_eq_of_lt e]
    have m1 := h3 i (i + 1) (by omega) e
    rcases Nat.lt_trichotomy i j with h' | h' | h'
    · by_cases e2 : i + 1 = j
      · subst e2; omega
      · have := h3 (i + 1) j (by omega) hj; omega
    · subst h'; omega
    · have := h3 j i h' hi; omega
  · have e' : i + 1 = L.length := by omega
    rw [e', Nat.mod_self]
    by_cases e3 : i = 0
    · have : j = 0 := by omega
      subst this; subst e3; omega
    · have m1 := h3 0 i (by omega) hi
      have m2 : L.getD j 0 ≤ L.getD i 0 := by
        by_cases e4 : j = i
        · subst e4; omega
        · have := h3 j i (by omega) hi; omega
      have m3 : L.getD 0 0 ≤ L.getD j 0 := by
        by_cases e4 : j = 0
        · subst e4; omega
        · have := h3 0 j (by omega) hj; omega
      omega
theorem mod_succ (i n : Nat) : ((i + 1) % n + 1) % n = (i + 2) % n := by
  rw [Nat.mod_add_mod]
theorem mod_back {i n : Nat} (hi : i < n) : ((i + 1) % n + n - 1) % n = i := by
  by_cases e : i + 1 < n
  · rw [Nat.mod_eq_of_lt e, show i + 1 + n - 1 = i + n by omega, Nat.add_mod_right, Nat.mod_eq_of_lt hi]
  · have : i + 1 = n := by omega
    rw [this, Nat.mod_self, Nat.zero_add, ← this, Nat.add_sub_cancel, Nat.mod_eq_of_lt (by omega)]

theorem ideal_skips {L : List Int} (h : nodesOk L) {n : Nd} (hn : n ∈ idealR L) {j : Nat} (hj : j < L.length) : skip n (L.getD j 0) = false := by
  obtain ⟨i, hi, rfl⟩ := mem_getD hn
  rw [idealR_len] at hi
  rw [idealR_at hi, idealN, skip_mk, btw_neighbours h hi hj, Bool.false_or, ← mod_succ i _]
  exact btw_neighbours h (Nat.mod_lt _ (by omega)) hj
theorem ideal_live {L : List Int} {x : Int} : live (idealR L) x = true ↔ ∃ j, j < L.length ∧ L.getD j 0 = x := by
  rw [live_ids, idealR_ids, decide_eq_true_eq]
  constructor
  · intro h
    obtain ⟨j, hj, rfl⟩ := List.getElem_of_mem h
    exact ⟨j, hj, by simp [hj]⟩
  · rintro ⟨j, hj, rfl⟩
    have : L.getD j 0 = L[j] := by simp [hj]
    rw [this]; exact List.getElem_mem hj
theorem ideal_prin {L : List Int} (h : nodesOk L) : prin (idealR L) = L := by
  have : (idealR L).filter (fun p => !((idealR L).any fun n => skip n p.id)) = idealR L := by
    rw [List.filter_eq_self]
    intro n hn
    rw [Bool.not_eq_true', List.any_eq_false]
    intro m hm
    have hl : live (idealR L) n.id = true := live_iff.2 ⟨n, hn, rfl⟩
    obtain ⟨j, hj, e⟩ := ideal_live.1 hl
    rw [← e, ideal_skips h hm hj]
    simp
  unfold prin
  rw [this, idealR_ids]
/-- An ideal ring is safe. -/
theorem ideal_safe {L : List Int} (h : nodesOk L) (h3 : 3 ≤ L.length) : ringSafe (idealR L) = true := by
  unfold ringSafe safeB
  rw [idealR_valid h, ideal_prin h, decide_eq_true h3, Bool.and_true, Bool.true_and, List.all_eq_true]
  intro n hn
  obtain ⟨i, hi, rfl⟩ := mem_getD hn
  rw [idealR_len] at hi
  rw [idealR_at hi, List.any_eq_true]
  exact ⟨L.getD ((i + 1) % L.length) 0, by simp [idealN], ideal_live.2 ⟨_, Nat.mod_lt _ (by omega), rfl⟩⟩

theorem set_self {r : List Nd} {k : Nat} (hk : k < r.length) : r.set k (r.getD k default) = r := by
  have : r.getD k default = r[k] := by simp [hk]
  rw [this, List.set_getElem_self]
theorem ideal_fnd {L : List Int} (h : nodesOk L) {j : Nat} (hj : j < L.length) : fnd (idealR L) (L.getD j 0) = (j : Int) := by
  have := fnd_self (idealR_valid h) (k := j) (by rw [idealR_len]; exact hj)
  rw [idealR_at hj] at this
  exact this
theorem btw_first (a b : Int) : btw a a b = false := by rw [btw_no]; omega
/-- In an ideal ring nothing is done when a node stabilizes. -/
theorem ideal_stab {L : List Int} (h : nodesOk L) (h3 : 3 ≤ L.length) {k : Nat} (hk : k < L.length) :
    dropOk (idealR L) k = false ∧ adoptK (idealR L) k = idealR L ∧ stab2 (idealR L) k = idealR L ∧ fire3 (idealR L) k = false ∧ fire4 (idealR L) k = false ∧ stabK (idealR L) k = idealR L := by
  have hs := ideal_safe h h3
  have hk' : k < (idealR L).length := by rw [idealR_len]; exact hk
  have hm : (k + 1) % L.length < L.length := Nat.mod_lt _ (by omega)
  have ha0 : a0 ((idealR L).getD k default) = L.getD ((k + 1) % L.length) 0 := by rw [idealR_at hk]; rfl
  have hl : live (idealR L) (a0 ((idealR L).getD k default)) = true := by rw [ha0]; exact ideal_live.2 ⟨_, hm, rfl⟩
  have hd : dropOk (idealR L) k = false := dropOk_f.2 hl
  have ha : adoptK (idealR L) k = idealR L := by
    unfold adoptK
    rw [if_pos (adoptOk_t.2 hl), ha0, ideal_fnd h hm]
    unfold followK setAfter
    have : ({ (idealR L).getD k default with after := [((idealR L).getD (((k + 1) % L.length : Nat) : Int).toNat default).id, a0 ((idealR L).getD (((k + 1) % L.length : Nat) : Int).toNat default)] } : Nd) = (idealR L).getD k default := by
      rw [Int.toNat_natCast, idealR_at hk, idealR_at hm]
      unfold idealN
      show Nd.mk _ _ [L.getD ((k + 1) % L.length) 0, L.getD (((k + 1) % L.length + 1) % L.length) 0] = _
      rw [mod_succ k _]
    rw [this, set_self hk']
  have h2 : stab2 (idealR L) k = idealR L := by
    have : dropK (idealR L) k = idealR L := by unfold dropK; rw [hd]; rfl
    unfold stab2; rw [this, ha]
  have hS : stabS (idealR L) k = (k + 1) % L.length := by unfold stabS; rw [ha0, ideal_fnd h hm]; rfl
  have hB : ((idealR L).getD ((k + 1) % L.length) default).before = L.getD k 0 := by
    rw [idealR_at hm]
    show L.getD (((k + 1) % L.length + L.length - 1) % L.length) 0 = _
    rw [mod_back hk]
  have hidk : ((idealR L).getD k default).id = L.getD k 0 := by rw [idealR_at hk]; rfl
  have f3 : fire3 (idealR L) k = false := by
    unfold fire3 stabB
    rw [hS, hB]
    unfold closerOk
    rw [hidk, btw_first]; simp
  have f4 : fire4 (idealR L) k = false := by
    unfold fire4 notifyOk
    rw [hS, hB, hidk, btw_first, decide_eq_true (okP_def.1 (h.2.1 k hk)).1, ideal_fnd h hk]
    simp
  refine ⟨hd, ha, h2, f3, f4, ?_⟩
  unfold stabK
  rw [h2, stab3_quiet f3, stab4_quiet f4]
theorem ideal_round {L : List Int} (h : nodesOk L) (h3 : 3 ≤ L.length) : roundK (idealR L) = idealR L := by
  have : ∀ k, k ≤ L.length → roundTo (idealR L) k = idealR L := by
    intro k
    induction k with
    | zero => intro _; rfl
    | succ k ih =>
      intro hk
      show stabK (roundTo (idealR L) k) k = _
      rw [ih (by omega)]
      exact (ideal_stab h h3 (by omega)).2.2.2.2.2
  unfold roundK
  rw [idealR_len]
  exact this _ (Nat.le_refl _)

/-- At rest: what holds of each node. -/
theorem rest_node {r : List Nd} (h : ringSafe r = true) (hr : roundK r = r) {k : Nat} (hk : k < r.length) :
    live r (a0 (r.getD k default)) = true ∧ a1 (r.getD k default) = a0 (r.getD (stabS r k) default) ∧ fire3 r k = false ∧ fire4 r k = false := by
  have hp : pot (roundK r) = pot r := by rw [hr]
  have hn := quiet_nodes h hp r.length (Nat.le_refl _)
  have hend : ∀ j, j < r.length → r.getD j default = { r.getD j default with after := [fl r j, if flS r j < j then fl r (flS r j) else a0 (r.getD (flS r j) default)] } := fun j hj => by
    have := hn.2 j hj
    have e : roundTo r r.length = r := hr
    rw [e] at this
    exact this
  have hA0 : ∀ j, j < r.length → a0 (r.getD j default) = fl r j := fun j hj => by
    have := congrArg a0 (hend j hj)
    exact this
  have hR : ∀ j, j ≤ r.length → roundTo r j = r := fun j hj => by
    have hf := roundTo_fine h j hj
    have hq := quiet_nodes h hp j hj
    refine ext_nd hf.len fun i hi => ?_
    by_cases e : i < j
    · rw [hq.2 i e, ← hend i (by omega)]
    · exact hq.1 i (by omega)
  obtain ⟨q1, q2, q3⟩ := round_quiet h r.length (Nat.le_refl _) hp k hk
  rw [hR k (by omega)] at q1 q2 q3
  have e2 : stab2 r k = r := by
    have := hR (k + 1) (by omega)
    have e : stabK (roundTo r k) k = r := this
    rw [hR k (by omega), q1] at e
    exact e
  rw [e2] at q2 q3
  have hl : live r (a0 (r.getD k default)) = true := by rw [hA0 k hk]; exact fl_live h hk
  refine ⟨hl, ?_, q2, q3⟩
  have hS : stabS r k = flS r k := by unfold stabS flS; rw [hA0 k hk]
  have hs := (flS_lt h hk).1
  have := congrArg a1 (hend k hk)
  rw [hS]
  refine this.trans ?_
  show (if flS r k < k then fl r (flS r k) else a0 (r.getD (flS r k) default)) = _
  split
  · exact (hA0 _ hs).symm
  · rfl

/-- At rest the first successor's predecessor is the node. -/
theorem rest_before {r : List Nd} (h : ringSafe r = true) (hr : roundK r = r) {k : Nat} (hk : k < r.length) : (r.getD (stabS r k) default).before = (r.getD k default).id := by
  obtain ⟨hl, -, f3, f4⟩ := rest_node h hr hk
  obtain ⟨hs, he, -⟩ := stabS_lt hl
  have hv := safe_valid h
  have ho := safe_order h (getD_mem hk)
  obtain ⟨b, hb⟩ : ∃ b, (r.getD (stabS r k) default).before = b := ⟨_, rfl⟩
  unfold fire3 stabB closerOk at f3
  unfold fire4 notifyOk at f4
  rw [hb] at f3 f4 ⊢
  have hlk : live r (r.getD k default).id = true := live_iff.2 ⟨_, getD_mem hk, rfl⟩
  have g1 := fnd_live_iff.2 hlk
  have hne : (r.getD k default).id ≠ (r.getD (stabS r k) default).id := by rw [he]; exact ho.2.1
  rw [decide_eq_true g1] at f4
  have hne' : ((r.getD k default).id == (r.getD (stabS r k) default).id) = false := by simpa using hne
  rw [hne'] at f4
  simp only [Bool.not_false, Bool.and_true, Bool.true_and, Bool.not_eq_false', Bool.and_eq_true, decide_eq_true_eq, Bool.not_eq_true'] at f4
  obtain ⟨⟨u1, u2⟩, u3⟩ := f4
  rw [decide_eq_true u1, decide_eq_true u2, Bool.true_and, Bool.true_and] at f3
  have p1 := okP_def.1 (valid_node hv (getD_mem hk)).1
  have p2 := okP_def.1 (live_ok hv (fnd_live_iff.1 u2))
  have p3 := okP_def.1 (live_ok hv hl)
  rw [he] at u3 hne
  rw [btw_no] at u3 f3
  omega

/-- From node to first successor, as long as p is not reached. -/
inductive Goes (r : List Nd) (p : Int) : Nat → Nat → Prop
  | here (y : Nat) : Goes r p y y
  | step {y z : Nat} : Goes r p y z → (r.getD z default).id ≠ p → Goes r p y (stabS r z)

theorem rest_between {r : List Nd} (h : ringSafe r = true) (hr : roundK r = r) {k x : Nat} (hk : k < r.length) (hx : x < r.length) : btw (r.getD k default).id (r.getD x default).id (a0 (r.getD k default)) = false := by
  obtain ⟨p, -, -, -, -, hp, -⟩ := prin3 h
  have hv := safe_valid h
  have hpl := (mem_prin.1 hp).1
  have hpo := live_ok hv hpl
  have S : ∀ j, j < r.length → stabS r j < r.length ∧ (r.getD (stabS r j) default).id = a0 (r.getD j default) := fun j hj => by
    obtain ⟨a, b, -⟩ := stabS_lt (rest_node h hr hj).1
    exact ⟨a, b⟩
  have I : ∀ i j, i < r.length → j < r.length → stabS r i = stabS r j → i = j := fun i j hi hj e => by
    have a := rest_before h hr hi
    have b := rest_before h hr hj
    rw [e] at a
    exact valid_inj hv hi hj (a.symm.trans b)
  have O : ∀ j, j < r.length → okP (r.getD j default).id = true := fun j hj => (valid_node hv (getD_mem hj)).1
  -- the distance to p falls until p is reached
  have D : ∀ j, j < r.length → (r.getD j default).id ≠ p → dist (r.getD (stabS r j) default).id p < dist (r.getD j default).id p := fun j hj hne => by
    have h1 := (prin_skips h hp hj).1
    have h2 := (safe_order h (getD_mem hj)).2.1
    obtain ⟨s1, s2⟩ := S j hj
    have o1 := O j hj
    have o2 := O _ s1
    rw [s2] at o2 ⊢
    rw [okP_def] at o1 o2 hpo
    rw [btw_no] at h1
    unfold dist
    omega
  cases hb : btw (r.getD k default).id (r.getD x default).id (a0 (r.getD k default))
  · rfl
  exfalso
  obtain ⟨s1, s2⟩ := S k hk
  have hkp := (prin_skips h hp hk).1
  have hks := (safe_order h (getD_mem hk)).2.1
  have ok1 := O k hk
  have ok2 := O x hx
  have ok3 := O _ s1
  have hds : dist (r.getD (stabS r k) default).id p < dist (r.getD x default).id p := by
    rw [s2] at ok3 ⊢
    rw [okP_def] at ok1 ok2 ok3 hpo
    rw [btw_no] at hkp
    rw [btw_iff] at hb
    unfold dist
    omega
  have hdk : (r.getD k default).id ≠ p → dist (r.getD x default).id p < dist (r.getD k default).id p := fun hne => by
    rw [s2] at ok3
    rw [okP_def] at ok1 ok2 ok3 hpo
    rw [btw_no] at hkp
    rw [btw_iff] at hb
    unfold dist
    omega
  have G : ∀ z, Goes r p x z → z < r.length ∧ dist (r.getD z default).id p ≤ dist (r.getD x default).id p := fun z hz => by
    induction hz with
    | here => exact ⟨hx, Int.le_refl _⟩
    | step hyz hne ih =>
      have := D _ ih.1 hne
      exact ⟨(S _ ih.1).1, by omega⟩
  have B : ∀ z, Goes r p x z → z ≠ x → ∃ y, Goes r p x y ∧ (r.getD y default).id ≠ p ∧ stabS r y = z := fun z hz hne => by
    cases hz with
    | here => exact absurd rfl hne
    | step hyz hn => exact ⟨_, hyz, hn, rfl⟩
  -- p is reached
  have P : ∃ z, Goes r p x z ∧ (r.getD z default).id = p := by
    have : ∀ n : Nat, ∀ z, Goes r p x z → (dist (r.getD z default).id p).toNat ≤ n → ∃ z, Goes r p x z ∧ (r.getD z default).id = p := by
      intro n
      induction n with
      | zero =>
        intro z hz hd
        by_cases e : (r.getD z default).id = p
        · exact ⟨z, hz, e⟩
        · have := D z (G z hz).1 e
          have := (@dist_bounds (r.getD (stabS r z) default).id p).1
          omega
      | succ n ih =>
        intro z hz hd
        by_cases e : (r.getD z default).id = p
        · exact ⟨z, hz, e⟩
        · have := D z (G z hz).1 e
          have := (@dist_bounds (r.getD (stabS r z) default).id p).1
          exact ih _ (.step hz e) (by omega)
    exact this _ x (.here x) (Nat.le_refl _)
  -- all nodes nearer to p are reached
  have R : ∀ n : Nat, ∀ z, z < r.length → (dist (r.getD z default).id p).toNat ≤ n → dist (r.getD z default).id p < dist (r.getD x default).id p → Goes r p x z := by
    intro n
    induction n with
    | zero =>
      intro z hz hd hlt
      obtain ⟨q, hq, eq⟩ := P
      have hzp : (r.getD z default).id = p := by
        have := (@dist_bounds (r.getD z default).id p).1
        have o1 := O z hz
        rw [okP_def] at o1 hpo
        unfold dist at this hd
        omega
      rw [valid_inj hv hz (G q hq).1 (hzp.trans eq.symm)]
      exact hq
    | succ n ih =>
      intro z hz hd hlt
      by_cases e : (r.getD z default).id = p
      · obtain ⟨q, hq, eq⟩ := P
        rw [valid_inj hv hz (G q hq).1 (e.trans eq.symm)]
        exact hq
      · have hdz := D z hz e
        have hb0 := (@dist_bounds (r.getD (stabS r z) default).id p).1
        have hg := ih (stabS r z) (S z hz).1 (by omega) (by omega)
        obtain ⟨y, hy, -, ey⟩ := B _ hg (fun e' => by rw [e'] at hdz; omega)
        rw [← I y z (G y hy).1 hz ey]
        exact hy
  have hg := R _ _ s1 (Nat.le_refl _) hds
  obtain ⟨y, hy, hyp, ey⟩ := B _ hg (fun e' => by rw [e'] at hds; omega)
  have hyk := I y k (G y hy).1 hk ey
  subst hyk
  have := hdk hyp
  have := (G y hy).2
  omega

/-- The next node in order is the only one without nodes between. -/
theorem next_only {L : List Int} (h : nodesOk L) {k s : Nat} (hk : k < L.length) (hs : s < L.length) (hne : s ≠ k) (hb : ∀ x, x < L.length → btw (L.getD k 0) (L.getD x 0) (L.getD s 0) = false) : s = (k + 1) % L.length := by
  obtain ⟨-, -, h3⟩ := h
  by_cases e : k + 1 < L.length
  · rw [Nat.mod_eq_of_lt e]
    have m := h3 k (k + 1) (by omega) e
    have b := hb (k + 1) e
    rw [btw_no] at b
    rcases Nat.lt_trichotomy s (k + 1) with h' | h' | h'
    · have := h3 s k (by omega) hk; omega
    · exact h'
    · have := h3 (k + 1) s h' hs
      omega
  · have e' : k + 1 = L.length := by omega
    rw [e', Nat.mod_self]
    by_cases e0 : s = 0
    · exact e0
    · have b := hb 0 (by omega)
      rw [btw_no] at b
      have m1 := h3 0 s (by omega) hs
      have m2 := h3 s k (by omega) hk
      omega

/-- A safe ring at rest is ideal. -/
theorem rest_ideal {r : List Nd} (h : ringSafe r = true) (hr : roundK r = r) : r = idealR (r.map Nd.id) := by
  have hv := safe_valid h
  have hL := nodesOk_ids hv
  have hlen : (r.map Nd.id).length = r.length := by simp
  have S : ∀ k, k < r.length → stabS r k = (k + 1) % r.length := fun k hk => by
    obtain ⟨s1, s2, -⟩ := stabS_lt (rest_node h hr hk).1
    have hne : stabS r k ≠ k := fun e => by
      rw [e] at s2
      exact (safe_order h (getD_mem hk)).2.1 s2
    have := next_only hL (k := k) (s := stabS r k) (by simpa using hk) (by simpa using s1) hne (fun x hx => by
      have hx' : x < r.length := by simpa using hx
      rw [ids_at_getD hk, ids_at_getD hx', ids_at_getD s1, s2]
      exact rest_between h hr hk hx')
    rw [hlen] at this
    exact this
  refine ext_nd (by rw [idealR_len, hlen]) fun j hj => ?_
  rw [idealR_at (by rw [hlen]; exact hj)]
  unfold idealN
  rw [hlen]
  have hp : 0 < r.length := by omega
  obtain ⟨l1, l2, -, -⟩ := rest_node h hr hj
  obtain ⟨s1, s2, -⟩ := stabS_lt l1
  have hsj := S j hj
  have e1 : a0 (r.getD j default) = (r.map Nd.id).getD ((j + 1) % r.length) 0 := by rw [← s2, hsj, ids_at_getD (Nat.mod_lt _ hp)]
  have e2 : a1 (r.getD j default) = (r.map Nd.id).getD ((j + 2) % r.length) 0 := by
    rw [l2, hsj]
    have hj' : (j + 1) % r.length < r.length := Nat.mod_lt _ hp
    obtain ⟨s3, s4, -⟩ := stabS_lt (rest_node h hr hj').1
    rw [← s4, S _ hj', mod_succ j _, ids_at_getD (Nat.mod_lt _ hp)]
  have e3 : (r.getD j default).before = (r.map Nd.id).getD ((j + r.length - 1) % r.length) 0 := by
    have hq : (j + r.length - 1) % r.length < r.length := Nat.mod_lt _ hp
    have hq1 : ((j + r.length - 1) % r.length + 1) % r.length = j := by
      rw [Nat.mod_add_mod, show j + r.length - 1 + 1 = j + r.length by omega, Nat.add_mod_right, Nat.mod_eq_of_lt hj]
    have := rest_before h hr hq
    rw [S _ hq, hq1] at this
    rw [this, ids_at_getD hq]
  have e4 := after2 (valid_node hv (getD_mem hj)).2.2.1
  rw [e1, e2] at e4
  rw [ids_at_getD hj, ← e3, ← e4]
/-- Rounds change every safe ring but the ideal one. -/
theorem round_rest {r : List Nd} (h : ringSafe r = true) : roundK r = r ↔ r = idealR (r.map Nd.id) := by
  constructor
  · exact rest_ideal h
  · intro e
    have := ideal_round (nodesOk_ids (safe_valid h)) (by simpa using safe_len h)
    rw [← e] at this
    exact this

def rCalm (r : List Nd) : List Nd := if ringSafe r then idealR (r.map Nd.id) else []
def rIdeal (r : List Nd) : Bool := ringValid r && decide (3 ≤ r.length) && decide (r = idealR (r.map Nd.id))

end Go.Proofs.Ytnoamohpkngbdaa
