/-
  Plain predicates on memory: a slice of integers that reads as a list; rows of the call's own.
-/
import Derived.Test.YtkefnmmpipeppaaPlain
import Derived.Deep.QuietTactic
import Derived.Laws.AppendOwnNone
import Derived.OneCell
namespace Go.Proofs.Ytkefnmmpipeppaa
open Go.RowKit

theorem ret_bool {a b : Bool} (h : a = b) : Ending.returned (.bool a) = .returned (.bool b) := by rw [h]

theorem ret_int {k : IntKind} {a b : Int} (h : a = b) : Ending.returned (.int k a) = .returned (.int k b) := by rw [h]

theorem Calls.quiet_left {P : Program} {f : FuncId} {args : Array Value} {w : World} {n : Nat} {v : Value} (h : Calls P f args (w.drewN n) fun e w' => e = .returned v ∧ w.drewN n = w') :
    Calls P f args (w.drewN n) fun e w'' => e = .returned v ∧ ∃ m, w'' = w.drewN m := h.mono fun _ _ ⟨he, hm⟩ => ⟨he, n, hm.symm⟩

theorem ownsRow_below {B : Nat} {w w' : World} {base size n : Nat} {e : TypeId} {v : Value} {xs : List Value} (h : w.ownsRow base e size v n xs) (hb : Below B w w') (hB : w.heap.size ≤ B) : w'.ownsRow base e size v n xs := by
  refine ⟨h.1, ?_⟩
  rcases h.2 with hn | ⟨g, cap, cur, rfl, hb', hg, rest⟩
  · exact .inl hn
  · exact .inr ⟨g, cap, cur, rfl, hb', (hb.block g (Nat.lt_of_lt_of_le (Array.getElem?_eq_some_iff.1 hg).1 hB)).trans hg, rest⟩

theorem below_drewN {B : Nat} {a w : World} (h : Below B a w) (n : Nat) : Below B a (w.drewN n) := ⟨h.os, h.tape, h.output, h.size, h.block⟩

def IntsAt (w : World) (v : Value) (xs : List Int) : Prop :=
  ∃ p cap, v = .slice p xs.length cap ∧ xs.length ≤ cap ∧ cap ≤ maxLen ∧
    ((xs = [] ∧ (p = none → cap = 0)) ∨ ∃ b o, p = some ⟨b, o, none⟩ ∧ b < w.heap.size ∧ ∀ i, i < xs.length → w.cell? ⟨b, o + i, none⟩ = some (.int .i64 (xs.getD i 0)))

theorem IntsAt.below {B : Nat} {w w' : World} {v : Value} {xs : List Int} (h : IntsAt w v xs) (hb : Below B w w') (hB : w.heap.size ≤ B) : IntsAt w' v xs := by
  obtain ⟨p, cap, h1, h2, h3, h4⟩ := h
  refine ⟨p, cap, h1, h2, h3, ?_⟩
  rcases h4 with h4 | ⟨b, o, rfl, hlt, hc⟩
  · exact .inl h4
  · exact .inr ⟨b, o, rfl, Nat.lt_of_lt_of_le hlt hb.size, fun i hi => (hb.cell (p := ⟨b, o + i, none⟩) (Nat.lt_of_lt_of_le hlt hB)).trans (hc i hi)⟩

theorem intsAt_new (w : World) (t : TypeId) (xs : List Int) (cells : Array Value) (hc : cells = (xs.map (Value.int .i64)).toArray) (hm : xs.length ≤ 1000) : IntsAt (w.alloc (.cells cells t)) (.slice (some ⟨w.heap.size, 0, none⟩) xs.length xs.length) xs := by
  refine ⟨_, _, rfl, Nat.le_refl _, by unfold maxLen; omega, .inr ⟨_, _, rfl, by simp, fun i hi => ?_⟩⟩
  rw [Nat.zero_add, World.cell?_alloc_new, hc]
  simp [hi]

theorem intsAt_own {w : World} {B : Nat} {e : TypeId} {v : Value} {xs : List Int} (h : w.ownsRow B e 1 v xs.length (xs.map (Value.int .i64))) : IntsAt w v xs := by
  rcases h.2 with ⟨rfl, hn⟩ | ⟨g, cap, cur, rfl, hb, hg, hc, hm, hs, ht⟩
  · have : xs = [] := List.length_eq_zero_iff.1 hn
    subst this
    exact ⟨none, 0, rfl, Nat.le_refl _, by unfold maxLen; omega, .inl ⟨rfl, fun _ => rfl⟩⟩
  · refine ⟨_, cap, rfl, hc, hm, .inr ⟨g, 0, rfl, (Array.getElem?_eq_some_iff.1 hg).1, fun i hi => ?_⟩⟩
    have h1 : (cur.toList.take (xs.length * 1))[i]? = some (.int .i64 (xs.getD i 0)) := by rw [ht]; simp [hi]
    rw [List.getElem?_take_of_lt (by omega)] at h1
    rw [Nat.zero_add]
    simp only [World.cell?, hg]
    simpa using h1

theorem intsAt_newN (W : World) (t : TypeId) (xs : List Int) (cells : Array Value) (N : Nat) (hN : N = W.heap.size) (hc : cells = (xs.map (Value.int .i64)).toArray) (hm : xs.length ≤ 1000) : IntsAt (W.alloc (.cells cells t)) (.slice (some ⟨N, 0, none⟩) xs.length xs.length) xs := by
  subst hN
  exact intsAt_new W t xs cells hc hm

/-- What an append reads: m elements, their cells 'news'. -/
def SrcIs (w : World) (size : Nat) (x : Value) (m : Nat) (news : List Value) : Prop :=
  news.length = m * size ∧ (∀ u ∈ news, u.oneCell' = true) ∧ ((x = .slice none 0 0 ∧ m = 0) ∨ ∃ ad c, x = .slice (some ad) m c ∧ ∀ j u, news[j]? = some u → w.cell? (ad.add j) = some u)

theorem IntsAt.src {w : World} {v : Value} {xs : List Int} (h : IntsAt w v xs) : SrcIs w 1 v xs.length (xs.map (Value.int .i64)) := by
  obtain ⟨p, cap, rfl, h2, h3, h4⟩ := h
  refine ⟨by simp, fun u hu => by obtain ⟨_, _, rfl⟩ := List.mem_map.1 hu; rfl, ?_⟩
  rcases h4 with ⟨rfl, h5⟩ | ⟨b, o, rfl, hlt, hc⟩
  · cases p with
    | none => rw [h5 rfl]; exact .inl ⟨rfl, rfl⟩
    | some ad => exact .inr ⟨ad, cap, rfl, fun j u hj => by simp at hj⟩
  · refine .inr ⟨_, cap, rfl, fun j u hj => ?_⟩
    have hj' : j < xs.length := by
      rcases Nat.lt_or_ge j xs.length with h | h
      · exact h
      · rw [List.getElem?_eq_none (by simpa using h)] at hj; cases hj
    have := hc j hj'
    rw [Addr.add_lit, this]
    simp [hj'] at hj ⊢
    exact hj

theorem wpList_append_src {P : Program} {w : World} {ops : Array Oper} {rest : List Oper} {o : Oper} {a : Act} {Q : Exit → Act → World → Prop} (hgd : o.guard = none) (s x : Operand) (t : TypeId)
    (ho : o.op = .call { callee := .builtin .append, args := #[s, x], argTypes := #[t, t] })
    (base : Nat) (e : TypeId) (i : TypeInfo) (z : Value) (size bytes : Nat) (ht : P.underlying t = some (.slice e)) (hi : P.info? e = some i) (hz : i.zero = some z)
    (hsize : i.size = size) (hby : i.bytes = bytes) (hzs : z.cells.size = size) (hsz : 0 < size)
    (v : Value) (n : Nat) (xs : List Value) (hs : a.eval s = v) (hown : w.ownsRow base e size v n xs)
    (u : Value) (m : Nat) (news : List Value) (hx : a.eval x = u) (hsrc : SrcIs w size u m news)
    (h63 : n + m ≤ maxLen) (hbytes : (n + m) * bytes ≤ 140737488355328) (hbase : base ≤ w.heap.size)
    (h : ∀ v' w', w'.ownsRow base e size v' (n + m) (xs ++ news) → w.grownBy w' v.ownBlock → (v' = .slice none 0 0 ↔ v = .slice none 0 0 ∧ m = 0) → wpList P ops Q rest (a.put o.dst v') w') : wpList P ops Q (o :: rest) a w := by
  obtain ⟨hl, h1, hsrc⟩ := hsrc
  rcases hsrc with ⟨rfl, rfl⟩ | ⟨ad, c, rfl, hc⟩
  · have hn : news = [] := List.length_eq_zero_iff.1 (by simpa using hl)
    subst hn
    refine wpList_append_own_none hgd s x t ho base e i size ht hi v n xs hs hown hx (h v w (by simpa using hown) ⟨rfl, rfl, rfl, Nat.le_refl _, fun _ _ _ => rfl⟩ (by simp))
  · exact wpList_append_own w hgd s x t ho base e i z size bytes ht hi hz hsize hby hzs hsz v n xs hs hown ad m c news hx hl hc h1 h63 hbytes hbase h

theorem ownsRow_cell {w : World} {B size n : Nat} {e : TypeId} {v : Value} {xs : List Value} (h : w.ownsRow B e size v n xs) {j : Nat} {u : Value} (hj : xs[j]? = some u) :
    ∃ g cap, v = .slice (some ⟨g, 0, none⟩) n cap ∧ n ≤ cap ∧ cap ≤ maxLen ∧ B ≤ g ∧ g < w.heap.size ∧ w.cell? ⟨g, j, none⟩ = some u ∧ w.frozen? ⟨g, j, none⟩ = false := by
  rcases h.2 with ⟨rfl, hn⟩ | ⟨g, cap, cur, rfl, hb, hg, hc, hm, hs, ht⟩
  · have := h.1
    rw [hn, Nat.zero_mul] at this
    rw [List.length_eq_zero_iff.1 this] at hj
    cases hj
  · refine ⟨g, cap, rfl, hc, hm, hb, (Array.getElem?_eq_some_iff.1 hg).1, ?_, by simp [World.frozen?, hg]⟩
    have hjl : j < n * size := by
      rcases Nat.lt_or_ge j (n * size) with h' | h'
      · exact h'
      · rw [List.getElem?_eq_none (by rw [h.1]; exact h')] at hj; cases hj
    rw [← ht, List.getElem?_take_of_lt hjl] at hj
    simp only [World.cell?, hg]
    simpa using hj

theorem ownsRow_mono {w : World} {B B' size n : Nat} {e : TypeId} {v : Value} {xs : List Value} (h : w.ownsRow B e size v n xs) (hB : B' ≤ B) : w.ownsRow B' e size v n xs := by
  refine ⟨h.1, ?_⟩
  rcases h.2 with hn | ⟨g, cap, cur, rfl, hb', rest⟩
  · exact .inl hn
  · exact .inr ⟨g, cap, cur, rfl, Nat.le_trans hB hb', rest⟩

theorem SrcIs.below {w w' : World} {size m B : Nat} {x : Value} {news : List Value} (h : SrcIs w size x m news) (hb : Below B w w') (hB : w.heap.size ≤ B) : SrcIs w' size x m news := by
  obtain ⟨h1, h2, h3⟩ := h
  refine ⟨h1, h2, ?_⟩
  rcases h3 with h3 | ⟨ad, c, rfl, hc⟩
  · exact .inl h3
  · refine .inr ⟨ad, c, rfl, fun j u hj => ?_⟩
    have := hc j u hj
    rw [hb.cell (Nat.lt_of_lt_of_le (World.block_lt_of_cell? w _ this) hB)]
    exact this

theorem own_form {w : World} {B size n : Nat} {e : TypeId} {v : Value} {xs : List Value} (h : w.ownsRow B e size v n xs) (hv : v ≠ .slice none 0 0) :
    ∃ g cap, v = .slice (some ⟨g, 0, none⟩) n cap ∧ n ≤ cap ∧ cap ≤ maxLen ∧ B ≤ g ∧ g < w.heap.size := by
  rcases h.2 with ⟨rfl, hn⟩ | ⟨g, cap, cur, rfl, hb, hg, hc, hm, hs, ht⟩
  · exact absurd rfl hv
  · exact ⟨g, cap, rfl, hc, hm, hb, (Array.getElem?_eq_some_iff.1 hg).1⟩

theorem srcIs_new (W : World) (c0 c1 c2 : Value) (t : TypeId) (N : Nat) (hN : N = W.heap.size) (h0 : c0.oneCell' = true) (h1 : c1.oneCell' = true) (h2 : c2.oneCell' = true) :
    SrcIs (W.alloc (.cells #[c0, c1, c2] t)) 3 (.slice (some ⟨N, 0, none⟩) 1 1) 1 [c0, c1, c2] := by
  subst hN
  refine ⟨rfl, fun u hu => by simp at hu; rcases hu with rfl | rfl | rfl <;> assumption, .inr ⟨_, 1, rfl, fun j u hj => ?_⟩⟩
  rw [Addr.add_lit, Nat.zero_add, World.cell?_alloc_new]
  simpa using hj

/-- Rows of different element types lie in different blocks. -/
theorem own_ne {w : World} {B B' size size' n n' : Nat} {e e' : TypeId} {v v' : Value} {xs xs' : List Value} (h : w.ownsRow B e size v n xs) (h' : w.ownsRow B' e' size' v' n' xs') (he : e ≠ e') : v.ownBlock = none ∨ v.ownBlock ≠ v'.ownBlock := by
  rcases h.2 with ⟨rfl, hn⟩ | ⟨g, cap, cur, rfl, hb, hg, -⟩
  · exact .inl rfl
  · rcases h'.2 with ⟨rfl, hn⟩ | ⟨g', cap', cur', rfl, hb', hg', -⟩
    · exact .inr (by simp [Value.ownBlock])
    · refine .inr fun e1 => ?_
      simp [Value.ownBlock] at e1
      subst e1
      rw [hg] at hg'
      simp at hg'
      exact he hg'.2

theorem heap_setCell_own (w : World) (g j : Nat) (u : Value) (cur : Array Value) (e : TypeId) (fr : Nat × Nat) (h : w.heap[g]? = some (.cells cur e fr)) : (w.setCell ⟨g, j, none⟩ u).heap[g]? = some (.cells (cur.setIfInBounds j u) e fr) := by
  simp [World.setCell, Array.getElem?_modify, h]

/-- A store into an owned row. -/
theorem ownsRow_set {w : World} {B size n g cap : Nat} {e : TypeId} {xs : List Value} (h : w.ownsRow B e size (.slice (some ⟨g, 0, none⟩) n cap) n xs) (j : Nat) (u : Value) :
    (w.setCell ⟨g, j, none⟩ u).ownsRow B e size (.slice (some ⟨g, 0, none⟩) n cap) n (xs.set j u) := by
  refine ⟨by rw [List.length_set]; exact h.1, ?_⟩
  rcases h.2 with ⟨h0, -⟩ | ⟨g', cap', cur, e1, hb, hg, hc, hm, hs, ht⟩
  · cases h0
  · cases e1
    refine .inr ⟨g, cap, cur.setIfInBounds j u, rfl, hb, heap_setCell_own w g j u cur e _ hg, hc, hm, by simpa using hs, ?_⟩
    rw [← ht, Array.toList_setIfInBounds, List.take_set]

theorem List.set_eq_of_getElem? {α : Type} {l : List α} {i : Nat} {a : α} (h : l[i]? = some a) : l.set i a = l := by
  obtain ⟨hi, rfl⟩ := List.getElem?_eq_some_iff.1 h
  exact List.set_getElem_self hi

/-- What lay in w0 from block B on lies in w as it lay. -/
def Keeps (B : Nat) (w0 w : World) : Prop := w0.heap.size ≤ w.heap.size ∧ ∀ q, B ≤ q → q < w0.heap.size → w.heap[q]? = w0.heap[q]?

theorem Keeps.refl (B : Nat) (w : World) : Keeps B w w := ⟨Nat.le_refl _, fun _ _ _ => rfl⟩

theorem Keeps.of_below {B C : Nat} {w0 w : World} (h : Below C w0 w) (hC : w0.heap.size ≤ C) : Keeps B w0 w := ⟨h.size, fun q _ hq => h.block q (by omega)⟩

theorem Keeps.setCell {B : Nat} {w0 w : World} (h : Keeps B w0 w) {p : Addr} (hp : p.block < B) (u : Value) : Keeps B w0 (w.setCell p u) :=
  ⟨by have := h.1; simp [World.setCell]; omega, fun q hq hl => (Below.heap_setCell w p u q (by omega)).trans (h.2 q hq hl)⟩

theorem ownsRow_keeps {B B' size n : Nat} {w w' : World} {e : TypeId} {v : Value} {xs : List Value} (h : w.ownsRow B e size v n xs) (hb : Keeps B' w w') (hB : B' ≤ B) : w'.ownsRow B e size v n xs := by
  refine ⟨h.1, ?_⟩
  rcases h.2 with hn | ⟨g, cap, cur, rfl, hb', hg, rest⟩
  · exact .inl hn
  · exact .inr ⟨g, cap, cur, rfl, hb', (hb.2 g (Nat.le_trans hB hb') (Array.getElem?_eq_some_iff.1 hg).1).trans hg, rest⟩

/-- A slice literal of integers, laid last. -/
theorem own_new (w : World) (xs : List Int) (t : TypeId) (cells : Array Value) (hc : cells = (xs.map (Value.int .i64)).toArray) (hm : xs.length ≤ 1000) :
    (w.alloc (.cells cells t)).ownsRow w.heap.size t 1 (.slice (some ⟨w.heap.size, 0, none⟩) xs.length xs.length) xs.length (xs.map (Value.int .i64)) := by
  refine ⟨by simp, .inr ⟨w.heap.size, xs.length, cells, rfl, Nat.le_refl _, heap_alloc_new w _, Nat.le_refl _, by unfold maxLen; omega, by rw [hc]; simp, by rw [hc, Nat.mul_one]; exact List.take_of_length_le (by simp)⟩⟩

/-- Behind 'append([]T{}, xs...)' in world w1: the new row. -/
theorem appendedE {w1 w2 : World} {M size : Nat} {t : TypeId} {v' : Value} {l : Nat} {L : List Value} (hM : M = w1.heap.size)
    (hown : w2.ownsRow M t size v' (0 + l) ([] ++ L)) (hgrow : (w1.alloc (.cells #[] t)).grownBy w2 (Value.slice (some ⟨M, 0, none⟩) 0 0).ownBlock)
    (hnil : v' = .slice none 0 0 ↔ Value.slice (some ⟨M, 0, none⟩) 0 0 = .slice none 0 0 ∧ l = 0) :
    ∃ g cg, v' = .slice (some ⟨g, 0, none⟩) l cg ∧ M ≤ g ∧ l ≤ cg ∧ cg ≤ maxLen ∧ w2.ownsRow M t size (.slice (some ⟨g, 0, none⟩) l cg) l L ∧ Below M w1 w2 := by
  subst hM
  rw [Nat.zero_add, List.nil_append] at hown
  obtain ⟨g, cg, rfl, h1, h2, h3, h4⟩ := own_form hown (fun e => by have := hnil.1 e; simp at this)
  exact ⟨g, cg, rfl, h3, h1, h2, hown, ((Below.refl _ _).alloc (Nat.le_refl _) _).grown hgrow (by simp) (fun q hq => by simp [Value.ownBlock] at hq; omega)⟩

theorem list_of {α : Type} (d : α) (P : Nat → α → Prop) : ∀ n : Nat, (∀ i, i < n → ∃ a, P i a) → ∃ l : List α, l.length = n ∧ ∀ i, i < n → P i (l.getD i d)
  | 0, _ => ⟨[], rfl, fun i hi => by omega⟩
  | n + 1, h => by
    obtain ⟨l, hl, hp⟩ := list_of d P n (fun i hi => h i (by omega))
    obtain ⟨a, ha⟩ := h n (by omega)
    refine ⟨l ++ [a], by simp [hl], fun i hi => ?_⟩
    by_cases e : i < n
    · have : (l ++ [a]).getD i d = l.getD i d := by simp [hl, e, List.getElem?_append]
      rw [this]; exact hp i e
    · have e' : i = n := by omega
      subst e'
      have : (l ++ [a]).getD i d = a := by simp [hl]
      rw [this]; exact ha

end Go.Proofs.Ytkefnmmpipeppaa
