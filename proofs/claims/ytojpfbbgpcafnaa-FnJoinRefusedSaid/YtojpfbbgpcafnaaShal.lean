/-
  Plain predicates on memory: rings whose nodes' successors are shared; parts of rings.
-/
import Derived.Test.YtojpfbbgpcafnaaMem
import Derived.Deep.RegionHeldLaw
import Derived.Laws.AppendOwn
import Derived.Tactics
namespace Go.Proofs.Ytojpfbbgpcafnaa
open Go.RowKit

theorem flatN_take : ∀ (r : List Nd) (vs : List Value) (k : Nat), vs.length = r.length → flatN (r.take k) (vs.take k) = (flatN r vs).take (k * 3)
  | [], [], _, _ => by simp [flatN]
  | [], _ :: _, _, h => by simp at h
  | _ :: _, [], _, h => by simp at h
  | m :: r, u :: vs, 0, _ => by simp [flatN]
  | m :: r, u :: vs, k + 1, h => by
    have := flatN_take r vs k (by simpa using h)
    simp [flatN, this, Nat.add_mul]
theorem flatN_drop : ∀ (r : List Nd) (vs : List Value) (k : Nat), vs.length = r.length → flatN (r.drop k) (vs.drop k) = (flatN r vs).drop (k * 3)
  | [], [], _, _ => by simp [flatN]
  | [], _ :: _, _, h => by simp at h
  | _ :: _, [], _, h => by simp at h
  | m :: r, u :: vs, 0, _ => by simp [flatN]
  | m :: r, u :: vs, k + 1, h => by
    have := flatN_drop r vs k (by simpa using h)
    simp [flatN, this, Nat.add_mul]
theorem flatN_app : ∀ (r : List Nd) (vs : List Value) (r' : List Nd) (vs' : List Value), vs.length = r.length → flatN (r ++ r') (vs ++ vs') = flatN r vs ++ flatN r' vs'
  | [], [], _, _, _ => by simp [flatN]
  | [], _ :: _, _, _, h => by simp at h
  | _ :: _, [], _, _, h => by simp at h
  | m :: r, u :: vs, r', vs', h => by
    have := flatN_app r vs r' vs' (by simpa using h)
    simp [flatN, this]

/-- A row of nodes of the call's own; their successors may lie anywhere. -/
def ShOwn (w : World) (B : Nat) (v : Value) (r : List Nd) : Prop :=
  ∃ vs : List Value, vs.length = r.length ∧ w.ownsRow B 31 3 v r.length (flatN r vs) ∧ ∀ i, i < r.length → IntsAt w (vs.getD i undef) (r.getD i default).after
theorem ShOwn.at {w : World} {B : Nat} {v : Value} {r : List Nd} (h : ShOwn w B v r) : RingAt w v r := by
  obtain ⟨vs, hl, ho, ha⟩ := h
  rcases ho.2 with ⟨rfl, hn⟩ | ⟨g, cap, cur, rfl, hb, hg, hc, hm, hs, ht⟩
  · have : r = [] := List.length_eq_zero_iff.1 hn
    subst this
    exact ⟨none, 0, rfl, Nat.le_refl _, by unfold maxLen; omega, .inl ⟨rfl, fun _ => rfl⟩⟩
  · refine ⟨_, cap, rfl, hc, hm, .inr ⟨g, 0, rfl, (Array.getElem?_eq_some_iff.1 hg).1, fun i hi => ?_⟩⟩
    obtain ⟨h1, h2, h3⟩ := flatN_get r vs hl i hi
    obtain ⟨g1, c1, e1, -, -, -, -, k1, -⟩ := ownsRow_cell ho h1
    obtain ⟨g2, c2, e2, -, -, -, -, k2, -⟩ := ownsRow_cell ho h2
    obtain ⟨g3, c3, e3, -, -, -, -, k3, -⟩ := ownsRow_cell ho h3
    cases e1; cases e2; cases e3
    rw [Nat.zero_add]
    exact ⟨k1, k2, _, k3, ha i hi⟩
theorem ShOwn.below {w w' : World} {B B' : Nat} {v : Value} {r : List Nd} (h : ShOwn w B v r) (hb : Below B' w w') (hB : w.heap.size ≤ B') : ShOwn w' B v r := by
  obtain ⟨vs, hl, ho, ha⟩ := h
  exact ⟨vs, hl, ownsRow_below ho hb hB, fun i hi => (ha i hi).below hb hB⟩

/-- What a ring's node cells hold, and the first and last parts of them. -/
structure RingSrc (w : World) (b o : Nat) (r : List Nd) (vs : List Value) : Prop where
  len : vs.length = r.length
  ints : ∀ i, i < r.length → IntsAt w (vs.getD i undef) (r.getD i default).after
  one : ∀ u ∈ flatN r vs, u.oneCell' = true
  cell : ∀ j u, (flatN r vs)[j]? = some u → w.cell? ⟨b, o + j, none⟩ = some u
  lt : b < w.heap.size
theorem RingAt.srcs {w : World} {v : Value} {r : List Nd} (h : RingAt w v r) (h0 : 0 < r.length) : ∃ b o cap vs, v = .slice (some ⟨b, o, none⟩) r.length cap ∧ r.length ≤ cap ∧ cap ≤ maxLen ∧ RingSrc w b o r vs := by
  obtain ⟨vs, hl, ha, hn, h1, h2⟩ := h.src
  obtain ⟨p, cap, rfl, hc, hm, h4⟩ := h
  rcases h4 with ⟨rfl, -⟩ | ⟨b, o, rfl, hlt, -⟩
  · simp at h0
  · rcases h2 with ⟨h3, -⟩ | ⟨ad, c, e, hcell⟩
    · cases h3
    · cases e
      exact ⟨b, o, cap, vs, rfl, hc, hm, hl, ha, h1, fun j u hj => by have := hcell j u hj; rw [Addr.add_lit] at this; exact this, hlt⟩
theorem RingSrc.below {w w' : World} {b o B : Nat} {r : List Nd} {vs : List Value} (h : RingSrc w b o r vs) (hb : Below B w w') (hB : w.heap.size ≤ B) : RingSrc w' b o r vs :=
  ⟨h.len, fun i hi => (h.ints i hi).below hb hB, h.one, fun j u hj => (hb.cell (p := ⟨b, o + j, none⟩) (by have := h.lt; show b < B; omega)).trans (h.cell j u hj), Nat.lt_of_lt_of_le h.lt hb.size⟩

theorem RingSrc.take {w : World} {b o : Nat} {r : List Nd} {vs : List Value} (h : RingSrc w b o r vs) (k : Nat) (hk : k ≤ r.length) :
    ((flatN r vs).take (k * 3)).length = k * 3 ∧ (∀ j u, ((flatN r vs).take (k * 3))[j]? = some u → w.cell? ((⟨b, o, none⟩ : Addr).add j) = some u) ∧ ∀ u ∈ (flatN r vs).take (k * 3), u.oneCell' = true := by
  refine ⟨by rw [List.length_take, flatN_length r vs h.len]; omega, fun j u hj => ?_, fun u hu => h.one u (List.mem_of_mem_take hu)⟩
  rw [Addr.add_lit]
  refine h.cell j u ?_
  by_cases e : j < k * 3
  · rwa [List.getElem?_take_of_lt e] at hj
  · rw [List.getElem?_eq_none (by rw [List.length_take]; omega)] at hj; cases hj
theorem RingSrc.drop {w : World} {b o : Nat} {r : List Nd} {vs : List Value} (h : RingSrc w b o r vs) (k : Nat) :
    ((flatN r vs).drop (k * 3)).length = (r.length - k) * 3 ∧ (∀ j u, ((flatN r vs).drop (k * 3))[j]? = some u → w.cell? ((⟨b, o + k * 3, none⟩ : Addr).add j) = some u) ∧ ∀ u ∈ (flatN r vs).drop (k * 3), u.oneCell' = true := by
  refine ⟨by rw [List.length_drop, flatN_length r vs h.len, Nat.sub_mul], fun j u hj => ?_, fun u hu => h.one u (List.mem_of_mem_drop hu)⟩
  rw [Addr.add_lit, Nat.add_assoc]
  refine h.cell _ u ?_
  rwa [List.getElem?_drop] at hj
/-- The last part of a ring's cells, where the slice expression has laid it: at its end the address stays. -/
theorem drop_addr (b o k cap : Nat) (r : List Nd) (vs : List Value) (hc : r.length ≤ cap) : ∃ O, (if cap = k then some (⟨b, o, none⟩ : Addr) else some ⟨b, o + k * 3, none⟩) = some ⟨b, O, none⟩ ∧
    ∀ w, RingSrc w b o r vs → ((flatN r vs).drop (k * 3)).length = (r.length - k) * 3 ∧ (∀ j u, ((flatN r vs).drop (k * 3))[j]? = some u → w.cell? ((⟨b, O, none⟩ : Addr).add j) = some u) ∧ ∀ u ∈ (flatN r vs).drop (k * 3), u.oneCell' = true := by
  by_cases e : cap = k
  · refine ⟨o, by rw [if_pos e], fun w h => ?_⟩
    obtain ⟨h1, -, h3⟩ := h.drop k
    refine ⟨h1, fun j u hj => ?_, h3⟩
    rw [List.getElem?_eq_none (by rw [h1]; omega)] at hj; cases hj
  · exact ⟨o + k * 3, by rw [if_neg e], fun w h => h.drop k⟩
theorem ints_drop {w : World} {b o : Nat} {r : List Nd} {vs : List Value} (h : RingSrc w b o r vs) (k : Nat) : ∀ i, i < (r.drop k).length → IntsAt w ((vs.drop k).getD i undef) ((r.drop k).getD i default).after := by
  intro i hi
  rw [List.length_drop] at hi
  have := h.ints (k + i) (by omega)
  have e1 : (vs.drop k).getD i undef = vs.getD (k + i) undef := by simp [List.getD_eq_getElem?_getD, List.getElem?_drop]
  have e2 : (r.drop k).getD i default = r.getD (k + i) default := by simp [List.getD_eq_getElem?_getD, List.getElem?_drop]
  rw [e1, e2]; exact this
theorem ints_take {w : World} {b o : Nat} {r : List Nd} {vs : List Value} (h : RingSrc w b o r vs) (k : Nat) : ∀ i, i < (r.take k).length → IntsAt w ((vs.take k).getD i undef) ((r.take k).getD i default).after := by
  intro i hi
  rw [List.length_take] at hi
  have := h.ints i (by omega)
  have e1 : (vs.take k).getD i undef = vs.getD i undef := by simp [List.getD_eq_getElem?_getD, show i < k by omega]
  have e2 : (r.take k).getD i default = r.getD i default := by simp [List.getD_eq_getElem?_getD, show i < k by omega]
  rw [e1, e2]; exact this
theorem ints_app {w : World} {r r' : List Nd} {vs vs' : List Value} (hl : vs.length = r.length) (h : ∀ i, i < r.length → IntsAt w (vs.getD i undef) (r.getD i default).after) (h' : ∀ i, i < r'.length → IntsAt w (vs'.getD i undef) (r'.getD i default).after) :
    ∀ i, i < (r ++ r').length → IntsAt w ((vs ++ vs').getD i undef) ((r ++ r').getD i default).after := by
  intro i hi
  rw [List.length_append] at hi
  by_cases e : i < r.length
  · have e1 : (vs ++ vs').getD i undef = vs.getD i undef := by simp [List.getD_eq_getElem?_getD, List.getElem?_append, hl, e]
    have e2 : (r ++ r').getD i default = r.getD i default := by simp [List.getD_eq_getElem?_getD, List.getElem?_append, e]
    rw [e1, e2]; exact h i e
  · have e1 : (vs ++ vs').getD i undef = vs'.getD (i - r.length) undef := by simp [List.getD_eq_getElem?_getD, List.getElem?_append, hl, e]
    have e2 : (r ++ r').getD i default = r'.getD (i - r.length) default := by simp [List.getD_eq_getElem?_getD, List.getElem?_append, e]
    rw [e1, e2]; exact h' _ (by omega)

/-- An append to a row of the call's own, as a step of a region that draws its order. -/
theorem step_append_any {P : Program} {w : World} {ops : Array Oper} {o : Oper} {a : Act} {K : Act → World → Prop} {Q : Exit → Act → World → Prop} {E : Prop} (hgd : o.guard = none) (s x : Operand) (t : TypeId)
    (ho : o.op = .call { callee := .builtin .append, args := #[s, x], argTypes := #[t, t] })
    (base : Nat) (e : TypeId) (i : TypeInfo) (z : Value) (size bytes : Nat) (ht : P.underlying t = some (.slice e)) (hi : P.info? e = some i) (hz : i.zero = some z)
    (hsize : i.size = size) (hby : i.bytes = bytes) (hzs : z.cells.size = size) (hsz : 0 < size)
    (v : Value) (n : Nat) (xs : List Value) (hs : a.eval s = v) (hown : w.ownsRow base e size v n xs)
    (ad : Addr) (m c : Nat) (news : List Value) (hx : a.eval x = .slice (some ad) m c) (hnews : news.length = m * size ∧ (∀ j u, news[j]? = some u → w.cell? (ad.add j) = some u) ∧ ∀ u ∈ news, u.oneCell' = true)
    (h63 : n + m ≤ maxLen) (hbytes : (n + m) * bytes ≤ 140737488355328) (hbase : base ≤ w.heap.size)
    (h : ∀ v' w', w'.ownsRow base e size v' (n + m) (xs ++ news) → w.grownBy w' v.ownBlock → (v' = .slice none 0 0 ↔ v = .slice none 0 0 ∧ m = 0) → K (a.put o.dst v') w') :
    if Region.wanted o (yielded ops a.tmps) = true then Oper.wp P o a w K Q else E := by
  have hw : Region.wanted o (yielded ops a.tmps) = true := by simp [Region.wanted, hgd]
  rw [if_pos hw]
  exact wp_append_own w s x t ho base e i z size bytes ht hi hz hsize hby hzs hsz v n xs hs hown ad m c news hx hnews.1 hnews.2.1 hnews.2.2 h63 hbytes hbase h
theorem list_append_any {P : Program} {w : World} {ops : Array Oper} {rest : List Oper} {o : Oper} {a : Act} {Q : Exit → Act → World → Prop} (hgd : o.guard = none) (s x : Operand) (t : TypeId)
    (ho : o.op = .call { callee := .builtin .append, args := #[s, x], argTypes := #[t, t] })
    (base : Nat) (e : TypeId) (i : TypeInfo) (z : Value) (size bytes : Nat) (ht : P.underlying t = some (.slice e)) (hi : P.info? e = some i) (hz : i.zero = some z)
    (hsize : i.size = size) (hby : i.bytes = bytes) (hzs : z.cells.size = size) (hsz : 0 < size)
    (v : Value) (n : Nat) (xs : List Value) (hs : a.eval s = v) (hown : w.ownsRow base e size v n xs)
    (ad : Addr) (m c : Nat) (news : List Value) (hx : a.eval x = .slice (some ad) m c) (hnews : news.length = m * size ∧ (∀ j u, news[j]? = some u → w.cell? (ad.add j) = some u) ∧ ∀ u ∈ news, u.oneCell' = true)
    (h63 : n + m ≤ maxLen) (hbytes : (n + m) * bytes ≤ 140737488355328) (hbase : base ≤ w.heap.size)
    (h : ∀ v' w', w'.ownsRow base e size v' (n + m) (xs ++ news) → w.grownBy w' v.ownBlock → (v' = .slice none 0 0 ↔ v = .slice none 0 0 ∧ m = 0) → wpList P ops Q rest (a.put o.dst v') w') : wpList P ops Q (o :: rest) a w :=
  wpList_append_own w hgd s x t ho base e i z size bytes ht hi hz hsize hby hzs hsz v n xs hs hown ad m c news hx hnews.1 hnews.2.1 hnews.2.2 h63 hbytes hbase h

end Go.Proofs.Ytojpfbbgpcafnaa
