/-
  Plain predicates on memory: a slice of integers that reads as a list, a slice of nodes that reads as a ring.
-/
import Derived.Test.YtojpfbbgpcafnaaPlain
import Derived.Deep.QuietTactic
import Derived.Laws.AppendOwnNone
import Derived.OneCell
namespace Go.Proofs.Ytojpfbbgpcafnaa
open Go.RowKit

theorem ret_bool {a b : Bool} (h : a = b) : Ending.returned (.bool a) = .returned (.bool b) := by rw [h]
theorem ret_int {k : IntKind} {a b : Int} (h : a = b) : Ending.returned (.int k a) = .returned (.int k b) := by rw [h]

theorem Calls.quiet_left {P : Program} {f : FuncId} {args : Array Value} {w : World} {n : Nat} {v : Value} (h : Calls P f args (w.drewN n) fun e w' => e = .returned v ∧ w.drewN n = w') :
    Calls P f args (w.drewN n) fun e w'' => e = .returned v ∧ ∃ m, w'' = w.drewN m := h.mono fun _ _ ⟨he, hm⟩ => ⟨he, n, hm.symm⟩

theorem ownsRow_below {B : Nat} {w w' : World} {base size n : Nat} {e : TypeId} {v : Value} {xs : List Value} (h : w.ownsRow base e size v n xs) (hb : Below B w w') (hB : w.heap.size ≤ B) : w'.ownsRow base e size v n xs := by
  refine ⟨h.1, ?_⟩
  rcases h.2 with hn | ⟨g, cap, cur, rfl, hb', hg, rest⟩
  · exact .inl hn
  · exact .inr ⟨g, cap, cur, rfl, hb', (hb.block g (Nat.lt_of_lt_of_le (Array.getElem?_eq_some_iff.1 hg).1 hB)).trans hg, rest⟩
theorem below_drewN {B : Nat} {a w : World} (h : Below B a w) (n : Nat) : Below B a (w.drewN n) := ⟨h.os, h.tape, h.output, h.size, h.block⟩

def IntsAt (w : World) (v : Value) (xs : List Int) : Prop :=
  ∃ p cap, v = .slice p xs.length cap ∧ xs.length ≤ cap ∧ cap ≤ maxLen ∧
    ((xs = [] ∧ (p = none → cap = 0)) ∨ ∃ b o, p = some ⟨b, o, none⟩ ∧ b < w.heap.size ∧ ∀ i, i < xs.length → w.cell? ⟨b, o + i, none⟩ = some (.int .i64 (xs.getD i 0)))

theorem IntsAt.below {B : Nat} {w w' : World} {v : Value} {xs : List Int} (h : IntsAt w v xs) (hb : Below B w w') (hB : w.heap.size ≤ B) : IntsAt w' v xs := by
  obtain ⟨p, cap, h1, h2, h3, h4⟩ := h
  refine ⟨p, cap, h1, h2, h3, ?_⟩
  rcases h4 with h4 | ⟨b, o, rfl, hlt, hc⟩
  · exact .inl h4
  · exact .inr ⟨b, o, rfl, Nat.lt_of_lt_of_le hlt hb.size, fun i hi => (hb.cell (p := ⟨b, o + i, none⟩) (Nat.lt_of_lt_of_le hlt hB)).trans (hc i hi)⟩

theorem intsAt_new (w : World) (t : TypeId) (xs : List Int) (cells : Array Value) (hc : cells = (xs.map (Value.int .i64)).toArray) (hm : xs.length ≤ 1000) : IntsAt (w.alloc (.cells cells t)) (.slice (some ⟨w.heap.size, 0, none⟩) xs.length xs.length) xs := by
  refine ⟨_, _, rfl, Nat.le_refl _, by unfold maxLen; omega, .inr ⟨_, _, rfl, by simp, fun i hi => ?_⟩⟩
  rw [Nat.zero_add, World.cell?_alloc_new, hc]
  simp [hi]

theorem intsAt_own {w : World} {B : Nat} {e : TypeId} {v : Value} {xs : List Int} (h : w.ownsRow B e 1 v xs.length (xs.map (Value.int .i64))) : IntsAt w v xs := by
  rcases h.2 with ⟨rfl, hn⟩ | ⟨g, cap, cur, rfl, hb, hg, hc, hm, hs, ht⟩
  · have : xs = [] := List.length_eq_zero_iff.1 hn
    subst this
    exact ⟨none, 0, rfl, Nat.le_refl _, by unfold maxLen; omega, .inl ⟨rfl, fun _ => rfl⟩⟩
  · refine ⟨_, cap, rfl, hc, hm, .inr ⟨g, 0, rfl, (Array.getElem?_eq_some_iff.1 hg).1, fun i hi => ?_⟩⟩
    have h1 : (cur.toList.take (xs.length * 1))[i]? = some (.int .i64 (xs.getD i 0)) := by rw [ht]; simp [hi]
    rw [List.getElem?_take_of_lt (by omega)] at h1
    rw [Nat.zero_add]
    simp only [World.cell?, hg]
    simpa using h1

theorem intsAt_newN (W : World) (t : TypeId) (xs : List Int) (cells : Array Value) (N : Nat) (hN : N = W.heap.size) (hc : cells = (xs.map (Value.int .i64)).toArray) (hm : xs.length ≤ 1000) : IntsAt (W.alloc (.cells cells t)) (.slice (some ⟨N, 0, none⟩) xs.length xs.length) xs := by
  subst hN
  exact intsAt_new W t xs cells hc hm

/-- A node in three cells. -/
def NdAt (w : World) (b o : Nat) (n : Nd) : Prop :=
  w.cell? ⟨b, o, none⟩ = some (.int .i64 n.id) ∧ w.cell? ⟨b, o + 1, none⟩ = some (.int .i64 n.before) ∧ ∃ va, w.cell? ⟨b, o + 2, none⟩ = some va ∧ IntsAt w va n.after

def RingAt (w : World) (v : Value) (r : List Nd) : Prop :=
  ∃ p cap, v = .slice p r.length cap ∧ r.length ≤ cap ∧ cap ≤ maxLen ∧
    ((r = [] ∧ (p = none → cap = 0)) ∨ ∃ b o, p = some ⟨b, o, none⟩ ∧ b < w.heap.size ∧ ∀ i, i < r.length → NdAt w b (o + i * 3) (r.getD i default))

theorem NdAt.below {B : Nat} {w w' : World} {b o : Nat} {n : Nd} (h : NdAt w b o n) (hlt : b < w.heap.size) (hb : Below B w w') (hB : w.heap.size ≤ B) : NdAt w' b o n := by
  obtain ⟨h1, h2, va, h3, h4⟩ := h
  have hl := Nat.lt_of_lt_of_le hlt hB
  exact ⟨(hb.cell (p := ⟨b, o, none⟩) hl).trans h1, (hb.cell (p := ⟨b, o + 1, none⟩) hl).trans h2, va, (hb.cell (p := ⟨b, o + 2, none⟩) hl).trans h3, h4.below hb hB⟩

theorem RingAt.below {B : Nat} {w w' : World} {v : Value} {r : List Nd} (h : RingAt w v r) (hb : Below B w w') (hB : w.heap.size ≤ B) : RingAt w' v r := by
  obtain ⟨p, cap, h1, h2, h3, h4⟩ := h
  refine ⟨p, cap, h1, h2, h3, ?_⟩
  rcases h4 with h4 | ⟨b, o, rfl, hlt, hc⟩
  · exact .inl h4
  · exact .inr ⟨b, o, rfl, Nat.lt_of_lt_of_le hlt hb.size, fun i hi => (hc i hi).below hlt hb hB⟩

/-- What an append reads: m elements, their cells 'news'. -/
def SrcIs (w : World) (size : Nat) (x : Value) (m : Nat) (news : List Value) : Prop :=
  news.length = m * size ∧ (∀ u ∈ news, u.oneCell' = true) ∧ ((x = .slice none 0 0 ∧ m = 0) ∨ ∃ ad c, x = .slice (some ad) m c ∧ ∀ j u, news[j]? = some u → w.cell? (ad.add j) = some u)

theorem IntsAt.src {w : World} {v : Value} {xs : List Int} (h : IntsAt w v xs) : SrcIs w 1 v xs.length (xs.map (Value.int .i64)) := by
  obtain ⟨p, cap, rfl, h2, h3, h4⟩ := h
  refine ⟨by simp, fun u hu => by obtain ⟨_, _, rfl⟩ := List.mem_map.1 hu; rfl, ?_⟩
  rcases h4 with ⟨rfl, h5⟩ | ⟨b, o, rfl, hlt, hc⟩
  · cases p with
    | none => rw [h5 rfl]; exact .inl ⟨rfl, rfl⟩
    | some ad => exact .inr ⟨ad, cap, rfl, fun j u hj => by simp at hj⟩
  · refine .inr ⟨_, cap, rfl, fun j u hj => ?_⟩
    have hj' : j < xs.length := by
      rcases Nat.lt_or_ge j xs.length with h | h
      · exact h
      · rw [List.getElem?_eq_none (by simpa using h)] at hj; cases hj
    have := hc j hj'
    rw [Addr.add_lit, this]
    simp [hj'] at hj ⊢
    exact hj

theorem wpList_append_src {P : Program} {w : World} {ops : Array Oper} {rest : List Oper} {o : Oper} {a : Act} {Q : Exit → Act → World → Prop} (hgd : o.guard = none) (s x : Operand) (t : TypeId)
    (ho : o.op = .call { callee := .builtin .append, args := #[s, x], argTypes := #[t, t] })
    (base : Nat) (e : TypeId) (i : TypeInfo) (z : Value) (size bytes : Nat) (ht : P.underlying t = some (.slice e)) (hi : P.info? e = some i) (hz : i.zero = some z)
    (hsize : i.size = size) (hby : i.bytes = bytes) (hzs : z.cells.size = size) (hsz : 0 < size)
    (v : Value) (n : Nat) (xs : List Value) (hs : a.eval s = v) (hown : w.ownsRow base e size v n xs)
    (u : Value) (m : Nat) (news : List Value) (hx : a.eval x = u) (hsrc : SrcIs w size u m news)
    (h63 : n + m ≤ maxLen) (hbytes : (n + m) * bytes ≤ 140737488355328) (hbase : base ≤ w.heap.size)
    (h : ∀ v' w', w'.ownsRow base e size v' (n + m) (xs ++ news) → w.grownBy w' v.ownBlock → (v' = .slice none 0 0 ↔ v = .slice none 0 0 ∧ m = 0) → wpList P ops Q rest (a.put o.dst v') w') : wpList P ops Q (o :: rest) a w := by
  obtain ⟨hl, h1, hsrc⟩ := hsrc
  rcases hsrc with ⟨rfl, rfl⟩ | ⟨ad, c, rfl, hc⟩
  · have hn : news = [] := List.length_eq_zero_iff.1 (by simpa using hl)
    subst hn
    refine wpList_append_own_none hgd s x t ho base e i size ht hi v n xs hs hown hx (h v w (by simpa using hown) ⟨rfl, rfl, rfl, Nat.le_refl _, fun _ _ _ => rfl⟩ (by simp))
  · exact wpList_append_own w hgd s x t ho base e i z size bytes ht hi hz hsize hby hzs hsz v n xs hs hown ad m c news hx hl hc h1 h63 hbytes hbase h

theorem ownsRow_cell {w : World} {B size n : Nat} {e : TypeId} {v : Value} {xs : List Value} (h : w.ownsRow B e size v n xs) {j : Nat} {u : Value} (hj : xs[j]? = some u) :
    ∃ g cap, v = .slice (some ⟨g, 0, none⟩) n cap ∧ n ≤ cap ∧ cap ≤ maxLen ∧ B ≤ g ∧ g < w.heap.size ∧ w.cell? ⟨g, j, none⟩ = some u ∧ w.frozen? ⟨g, j, none⟩ = false := by
  rcases h.2 with ⟨rfl, hn⟩ | ⟨g, cap, cur, rfl, hb, hg, hc, hm, hs, ht⟩
  · have := h.1
    rw [hn, Nat.zero_mul] at this
    rw [List.length_eq_zero_iff.1 this] at hj
    cases hj
  · refine ⟨g, cap, rfl, hc, hm, hb, (Array.getElem?_eq_some_iff.1 hg).1, ?_, by simp [World.frozen?, hg]⟩
    have hjl : j < n * size := by
      rcases Nat.lt_or_ge j (n * size) with h' | h'
      · exact h'
      · rw [List.getElem?_eq_none (by rw [h.1]; exact h')] at hj; cases hj
    rw [← ht, List.getElem?_take_of_lt hjl] at hj
    simp only [World.cell?, hg]
    simpa using hj

/-- The cells of nodes, one after the other. -/
def flatN : List Nd → List Value → List Value
  | n :: r, v :: vs => .int .i64 n.id :: .int .i64 n.before :: v :: flatN r vs
  | _, _ => []
theorem flatN_length : ∀ (r : List Nd) (vs : List Value), vs.length = r.length → (flatN r vs).length = r.length * 3
  | [], [], _ => rfl
  | [], _ :: _, h => by simp at h
  | _ :: _, [], h => by simp at h
  | n :: r, v :: vs, h => by have := flatN_length r vs (by simpa using h); simp [flatN, this]; omega
theorem flatN_append : ∀ (r : List Nd) (vs : List Value) (n : Nd) (v : Value), vs.length = r.length → flatN (r ++ [n]) (vs ++ [v]) = flatN r vs ++ [.int .i64 n.id, .int .i64 n.before, v]
  | [], [], _, _, _ => rfl
  | [], _ :: _, _, _, h => by simp at h
  | _ :: _, [], _, _, h => by simp at h
  | m :: r, u :: vs, n, v, h => by have := flatN_append r vs n v (by simpa using h); simp [flatN, this]
theorem flatN_get : ∀ (r : List Nd) (vs : List Value), vs.length = r.length → ∀ i, i < r.length →
    (flatN r vs)[i * 3]? = some (.int .i64 (r.getD i default).id) ∧ (flatN r vs)[i * 3 + 1]? = some (.int .i64 (r.getD i default).before) ∧ (flatN r vs)[i * 3 + 2]? = some (vs.getD i undef)
  | [], _, _, i, h => by simp at h
  | _ :: _, [], h, _, _ => by simp at h
  | n :: r, v :: vs, h, 0, _ => by simp [flatN]
  | n :: r, v :: vs, h, i + 1, hi => by
    have := flatN_get r vs (by simpa using h) i (by simpa using hi)
    simpa [flatN, Nat.add_mul, Nat.add_right_comm] using this

/-- A ring in memory of the call's own, from block B on: one block for the nodes, one for each node's successors. -/
def RingOwn (w : World) (B : Nat) (v : Value) (r : List Nd) : Prop :=
  ∃ vs : List Value, vs.length = r.length ∧ w.ownsRow B 31 3 v r.length (flatN r vs) ∧
    (∀ i, i < r.length → w.ownsRow B 3 1 (vs.getD i undef) (r.getD i default).after.length ((r.getD i default).after.map (Value.int .i64))) ∧
    (∀ i j, i < j → j < r.length → ∀ q, (vs.getD i undef).ownBlock = some q → (vs.getD j undef).ownBlock ≠ some q)

theorem RingOwn.at {w : World} {B : Nat} {v : Value} {r : List Nd} (h : RingOwn w B v r) : RingAt w v r := by
  obtain ⟨vs, hl, ho, ha, -⟩ := h
  rcases ho.2 with ⟨rfl, hn⟩ | ⟨g, cap, cur, rfl, hb, hg, hc, hm, hs, ht⟩
  · have : r = [] := List.length_eq_zero_iff.1 hn
    subst this
    exact ⟨none, 0, rfl, Nat.le_refl _, by unfold maxLen; omega, .inl ⟨rfl, fun _ => rfl⟩⟩
  · refine ⟨_, cap, rfl, hc, hm, .inr ⟨g, 0, rfl, (Array.getElem?_eq_some_iff.1 hg).1, fun i hi => ?_⟩⟩
    obtain ⟨h1, h2, h3⟩ := flatN_get r vs hl i hi
    obtain ⟨g1, c1, e1, -, -, -, -, k1, -⟩ := ownsRow_cell ho h1
    obtain ⟨g2, c2, e2, -, -, -, -, k2, -⟩ := ownsRow_cell ho h2
    obtain ⟨g3, c3, e3, -, -, -, -, k3, -⟩ := ownsRow_cell ho h3
    cases e1; cases e2; cases e3
    rw [Nat.zero_add]
    exact ⟨k1, k2, _, k3, intsAt_own (ha i hi)⟩

theorem RingOwn.below {w w' : World} {B B' : Nat} {v : Value} {r : List Nd} (h : RingOwn w B v r) (hb : Below B' w w') (hB : w.heap.size ≤ B') : RingOwn w' B v r := by
  obtain ⟨vs, hl, ho, ha, hd⟩ := h
  exact ⟨vs, hl, ownsRow_below ho hb hB, fun i hi => ownsRow_below (ha i hi) hb hB, hd⟩
theorem ownsRow_mono {w : World} {B B' size n : Nat} {e : TypeId} {v : Value} {xs : List Value} (h : w.ownsRow B e size v n xs) (hB : B' ≤ B) : w.ownsRow B' e size v n xs := by
  refine ⟨h.1, ?_⟩
  rcases h.2 with hn | ⟨g, cap, cur, rfl, hb', rest⟩
  · exact .inl hn
  · exact .inr ⟨g, cap, cur, rfl, Nat.le_trans hB hb', rest⟩
theorem RingOwn.mono {w : World} {B B' : Nat} {v : Value} {r : List Nd} (h : RingOwn w B v r) (hB : B' ≤ B) : RingOwn w B' v r := by
  obtain ⟨vs, hl, ho, ha, hd⟩ := h
  exact ⟨vs, hl, ownsRow_mono ho hB, fun i hi => ownsRow_mono (ha i hi) hB, hd⟩
theorem RingOwn.nil (w : World) (B : Nat) : RingOwn w B (.slice none 0 0) [] := ⟨[], rfl, World.ownsRow_nil _ _ _ _, fun i hi => by simp at hi, fun i j _ hj => by simp at hj⟩

theorem SrcIs.below {w w' : World} {size m B : Nat} {x : Value} {news : List Value} (h : SrcIs w size x m news) (hb : Below B w w') (hB : w.heap.size ≤ B) : SrcIs w' size x m news := by
  obtain ⟨h1, h2, h3⟩ := h
  refine ⟨h1, h2, ?_⟩
  rcases h3 with h3 | ⟨ad, c, rfl, hc⟩
  · exact .inl h3
  · refine .inr ⟨ad, c, rfl, fun j u hj => ?_⟩
    have := hc j u hj
    rw [hb.cell (Nat.lt_of_lt_of_le (World.block_lt_of_cell? w _ this) hB)]
    exact this

theorem own_form {w : World} {B size n : Nat} {e : TypeId} {v : Value} {xs : List Value} (h : w.ownsRow B e size v n xs) (hv : v ≠ .slice none 0 0) :
    ∃ g cap, v = .slice (some ⟨g, 0, none⟩) n cap ∧ n ≤ cap ∧ cap ≤ maxLen ∧ B ≤ g ∧ g < w.heap.size := by
  rcases h.2 with ⟨rfl, hn⟩ | ⟨g, cap, cur, rfl, hb, hg, hc, hm, hs, ht⟩
  · exact absurd rfl hv
  · exact ⟨g, cap, rfl, hc, hm, hb, (Array.getElem?_eq_some_iff.1 hg).1⟩

theorem srcIs_new (W : World) (c0 c1 c2 : Value) (t : TypeId) (N : Nat) (hN : N = W.heap.size) (h0 : c0.oneCell' = true) (h1 : c1.oneCell' = true) (h2 : c2.oneCell' = true) :
    SrcIs (W.alloc (.cells #[c0, c1, c2] t)) 3 (.slice (some ⟨N, 0, none⟩) 1 1) 1 [c0, c1, c2] := by
  subst hN
  refine ⟨rfl, fun u hu => by simp at hu; rcases hu with rfl | rfl | rfl <;> assumption, .inr ⟨_, 1, rfl, fun j u hj => ?_⟩⟩
  rw [Addr.add_lit, Nat.zero_add, World.cell?_alloc_new]
  simpa using hj

/-- Rows of different element types lie in different blocks. -/
theorem own_ne {w : World} {B B' size size' n n' : Nat} {e e' : TypeId} {v v' : Value} {xs xs' : List Value} (h : w.ownsRow B e size v n xs) (h' : w.ownsRow B' e' size' v' n' xs') (he : e ≠ e') : v.ownBlock = none ∨ v.ownBlock ≠ v'.ownBlock := by
  rcases h.2 with ⟨rfl, hn⟩ | ⟨g, cap, cur, rfl, hb, hg, -⟩
  · exact .inl rfl
  · rcases h'.2 with ⟨rfl, hn⟩ | ⟨g', cap', cur', rfl, hb', hg', -⟩
    · exact .inr (by simp [Value.ownBlock])
    · refine .inr fun e1 => ?_
      simp [Value.ownBlock] at e1
      subst e1
      rw [hg] at hg'
      simp at hg'
      exact he hg'.2

/-- One node more. -/
theorem RingOwn.push {wa w2 : World} {B C : Nat} {v v2 va : Value} {r : List Nd} {vs : List Value} {n : Nd} (hvl : vs.length = r.length)
    (hov : wa.ownsRow B 31 3 v r.length (flatN r vs))
    (hoa : ∀ i, i < r.length → wa.ownsRow B 3 1 (vs.getD i undef) (r.getD i default).after.length ((r.getD i default).after.map (Value.int .i64)))
    (hod : ∀ i j, i < j → j < r.length → ∀ q, (vs.getD i undef).ownBlock = some q → (vs.getD j undef).ownBlock ≠ some q)
    (hlt : ∀ i, i < r.length → ∀ q, (vs.getD i undef).ownBlock = some q → q < C) (hBC : B ≤ C)
    (hva : wa.ownsRow C 3 1 va n.after.length (n.after.map (Value.int .i64)))
    (ho2 : w2.ownsRow B 31 3 v2 (r.length + 1) (flatN r vs ++ [.int .i64 n.id, .int .i64 n.before, va])) (hg : wa.grownBy w2 v.ownBlock) : RingOwn w2 B v2 (r ++ [n]) := by
  refine ⟨vs ++ [va], by simp [hvl], by rw [flatN_append r vs n va hvl]; simpa using ho2, fun i hi => ?_, fun i j hij hj q hq => ?_⟩
  · by_cases h : i < r.length
    · have e1 : (vs ++ [va]).getD i undef = vs.getD i undef := by simp [List.getElem?_append, hvl, h]
      have e2 : (r ++ [n]).getD i default = r.getD i default := by simp [List.getElem?_append, h]
      rw [e1, e2]
      exact (hoa i h).kept hg (own_ne (hoa i h) hov (by decide))
    · have h' : i = r.length := by simp at hi; omega
      subst h'
      have e1 : (vs ++ [va]).getD r.length undef = va := by simp [hvl]
      have e2 : (r ++ [n]).getD r.length default = n := by simp
      rw [e1, e2]
      exact ownsRow_mono (hva.kept hg (own_ne hva hov (by decide))) hBC
  · have hi : i < r.length := by simp at hj; omega
    have e1 : (vs ++ [va]).getD i undef = vs.getD i undef := by simp [List.getElem?_append, hvl, hi]
    rw [e1] at hq
    by_cases h : j < r.length
    · have e2 : (vs ++ [va]).getD j undef = vs.getD j undef := by simp [List.getElem?_append, hvl, h]
      rw [e2]
      exact hod i j hij h q hq
    · have h' : j = r.length := by simp at hj; omega
      subst h'
      have e2 : (vs ++ [va]).getD r.length undef = va := by simp [hvl]
      rw [e2]
      intro e
      have := (hva.lt q e).1
      have := hlt i hi q hq
      omega

theorem heap_setCell_own (w : World) (g j : Nat) (u : Value) (cur : Array Value) (e : TypeId) (fr : Nat × Nat) (h : w.heap[g]? = some (.cells cur e fr)) : (w.setCell ⟨g, j, none⟩ u).heap[g]? = some (.cells (cur.setIfInBounds j u) e fr) := by
  simp [World.setCell, Array.getElem?_modify, h]

/-- A store into an owned row. -/
theorem ownsRow_set {w : World} {B size n g cap : Nat} {e : TypeId} {xs : List Value} (h : w.ownsRow B e size (.slice (some ⟨g, 0, none⟩) n cap) n xs) (j : Nat) (u : Value) :
    (w.setCell ⟨g, j, none⟩ u).ownsRow B e size (.slice (some ⟨g, 0, none⟩) n cap) n (xs.set j u) := by
  refine ⟨by rw [List.length_set]; exact h.1, ?_⟩
  rcases h.2 with ⟨h0, -⟩ | ⟨g', cap', cur, e1, hb, hg, hc, hm, hs, ht⟩
  · cases h0
  · cases e1
    refine .inr ⟨g, cap, cur.setIfInBounds j u, rfl, hb, heap_setCell_own w g j u cur e _ hg, hc, hm, by simpa using hs, ?_⟩
    rw [← ht, Array.toList_setIfInBounds, List.take_set]

theorem List.set_eq_of_getElem? {α : Type} {l : List α} {i : Nat} {a : α} (h : l[i]? = some a) : l.set i a = l := by
  obtain ⟨hi, rfl⟩ := List.getElem?_eq_some_iff.1 h
  exact List.set_getElem_self hi

/-- The cells of a ring with another node at a place. -/
theorem flatN_set : ∀ (r : List Nd) (vs : List Value) (k : Nat) (n : Nd) (v : Value), vs.length = r.length → k < r.length →
    flatN (r.set k n) (vs.set k v) = (((flatN r vs).set (k * 3) (.int .i64 n.id)).set (k * 3 + 1) (.int .i64 n.before)).set (k * 3 + 2) v
  | [], _, _, _, _, _, h => by simp at h
  | _ :: _, [], _, _, _, h, _ => by simp at h
  | m :: r, u :: vs, 0, n, v, _, _ => by simp [flatN]
  | m :: r, u :: vs, k + 1, n, v, h, hk => by
    have := flatN_set r vs k n v (by simpa using h) (by simpa using hk)
    simp [flatN, this, Nat.add_mul, Nat.add_right_comm]

theorem RingOwn.form {w : World} {B : Nat} {v : Value} {r : List Nd} (h : RingOwn w B v r) (h0 : 0 < r.length) :
    ∃ g cap, v = .slice (some ⟨g, 0, none⟩) r.length cap ∧ r.length ≤ cap ∧ cap ≤ maxLen ∧ B ≤ g ∧ g < w.heap.size := by
  obtain ⟨vs, hl, ho, -⟩ := h
  refine own_form ho fun e => ?_
  rcases ho.2 with ⟨-, hn⟩ | ⟨g, cap, cur, rfl, -⟩
  · omega
  · cases e

/-- The three cells of a node of an owned ring. -/
theorem RingOwn.cells {w : World} {B g cap : Nat} {r : List Nd} (h : RingOwn w B (.slice (some ⟨g, 0, none⟩) r.length cap) r) {k : Nat} (hk : k < r.length) :
    ∃ va, w.cell? ⟨g, k * 3, none⟩ = some (.int .i64 (r.getD k default).id) ∧ w.cell? ⟨g, k * 3 + 1, none⟩ = some (.int .i64 (r.getD k default).before) ∧ w.cell? ⟨g, k * 3 + 2, none⟩ = some va ∧
      (∀ j, w.frozen? ⟨g, j, none⟩ = false) ∧ g < w.heap.size ∧ B ≤ g := by
  obtain ⟨vs, hl, ho, ha, hd⟩ := h
  obtain ⟨h1, h2, h3⟩ := flatN_get r vs hl k hk
  obtain ⟨g1, c1, e1, -, -, hB, hlt, k1, -⟩ := ownsRow_cell ho h1
  obtain ⟨g2, c2, e2, -, -, -, -, k2, -⟩ := ownsRow_cell ho h2
  obtain ⟨g3, c3, e3, -, -, -, -, k3, -⟩ := ownsRow_cell ho h3
  cases e1; cases e2; cases e3
  refine ⟨_, k1, k2, k3, fun j => ?_, hlt, hB⟩
  rcases ho.2 with ⟨h0, -⟩ | ⟨g', cap', cur, e1, -, hg, -⟩
  · cases h0
  · cases e1
    simp [World.frozen?, hg]

/-- What lay in w0 from block B on lies in w as it lay. -/
def Keeps (B : Nat) (w0 w : World) : Prop := w0.heap.size ≤ w.heap.size ∧ ∀ q, B ≤ q → q < w0.heap.size → w.heap[q]? = w0.heap[q]?
theorem Keeps.refl (B : Nat) (w : World) : Keeps B w w := ⟨Nat.le_refl _, fun _ _ _ => rfl⟩
theorem Keeps.of_below {B C : Nat} {w0 w : World} (h : Below C w0 w) (hC : w0.heap.size ≤ C) : Keeps B w0 w := ⟨h.size, fun q _ hq => h.block q (by omega)⟩
theorem Keeps.setCell {B : Nat} {w0 w : World} (h : Keeps B w0 w) {p : Addr} (hp : p.block < B) (u : Value) : Keeps B w0 (w.setCell p u) :=
  ⟨by have := h.1; simp [World.setCell]; omega, fun q hq hl => (Below.heap_setCell w p u q (by omega)).trans (h.2 q hq hl)⟩
theorem ownsRow_keeps {B B' size n : Nat} {w w' : World} {e : TypeId} {v : Value} {xs : List Value} (h : w.ownsRow B e size v n xs) (hb : Keeps B' w w') (hB : B' ≤ B) : w'.ownsRow B e size v n xs := by
  refine ⟨h.1, ?_⟩
  rcases h.2 with hn | ⟨g, cap, cur, rfl, hb', hg, rest⟩
  · exact .inl hn
  · exact .inr ⟨g, cap, cur, rfl, hb', (hb.2 g (Nat.le_trans hB hb') (Array.getElem?_eq_some_iff.1 hg).1).trans hg, rest⟩
theorem RingOwn.keeps {w w' : World} {B : Nat} {v : Value} {r : List Nd} (h : RingOwn w B v r) (hb : Keeps B w w') : RingOwn w' B v r := by
  obtain ⟨vs, hl, ho, ha, hd⟩ := h
  exact ⟨vs, hl, ownsRow_keeps ho hb (Nat.le_refl _), fun i hi => ownsRow_keeps (ha i hi) hb (Nat.le_refl _), hd⟩

theorem RingOwn.core {w0 w w' : World} {B C g cap : Nat} {va : Value} {r : List Nd} {vs : List Value} {k : Nat} {n : Nd} (hl : vs.length = r.length) (hk : k < r.length)
    (ha : ∀ i, i < r.length → w0.ownsRow B 3 1 (vs.getD i undef) (r.getD i default).after.length ((r.getD i default).after.map (Value.int .i64)))
    (hd : ∀ i j, i < j → j < r.length → ∀ q, (vs.getD i undef).ownBlock = some q → (vs.getD j undef).ownBlock ≠ some q)
    (hb : Keeps B w0 w) (hC : w0.heap.size ≤ C) (hBC : B ≤ C)
    (ho' : w'.ownsRow B 31 3 (.slice (some ⟨g, 0, none⟩) r.length cap) r.length (flatN (r.set k n) (vs.set k va)))
    (keep : ∀ {v : Value} {D m : Nat} {xs : List Value}, w.ownsRow D 3 1 v m xs → w'.ownsRow D 3 1 v m xs)
    (hva : (w.ownsRow C 3 1 va n.after.length (n.after.map (Value.int .i64))) ∨ (va = vs.getD k undef ∧ n.after = (r.getD k default).after)) :
    RingOwn w' B (.slice (some ⟨g, 0, none⟩) (r.set k n).length cap) (r.set k n) := by
  have hlt : ∀ i, i < r.length → ∀ q, (vs.getD i undef).ownBlock = some q → q < C := fun i hi q hq => Nat.lt_of_lt_of_le ((ha i hi).lt q hq).2 hC
  have ha' : ∀ i, i < r.length → w.ownsRow B 3 1 (vs.getD i undef) (r.getD i default).after.length ((r.getD i default).after.map (Value.int .i64)) := fun i hi => ownsRow_keeps (ha i hi) hb (Nat.le_refl _)
  have hne : ∀ j, j < r.length → j ≠ k → ∀ q, va.ownBlock = some q → (vs.getD j undef).ownBlock ≠ some q := fun j hj hjk q hq e => by
    rcases hva with hva | ⟨rfl, -⟩
    · have := (hva.lt q hq).1
      have := hlt j hj q e
      omega
    · rcases Nat.lt_or_ge j k with h | h
      · exact hd j k h hk q e hq
      · exact hd k j (by omega) hj q hq e
  refine ⟨vs.set k va, by simp [hl], by rw [List.length_set]; exact ho', fun i hi => ?_, fun i j hij hj q hq => ?_⟩
  · rw [List.length_set] at hi
    by_cases e : i = k
    · subst e
      have e1 : (vs.set i va).getD i undef = va := by simp [hl, hi]
      have e2 : (r.set i n).getD i default = n := by simp [hi]
      rw [e1, e2]
      rcases hva with hva | ⟨rfl, h2⟩
      · exact keep (ownsRow_mono hva hBC)
      · rw [h2]; exact keep (ha' i hi)
    · have e1 : (vs.set k va).getD i undef = vs.getD i undef := by simp [Ne.symm e]
      have e2 : (r.set k n).getD i default = r.getD i default := by simp [Ne.symm e]
      rw [e1, e2]
      exact keep (ha' i hi)
  · rw [List.length_set] at hj
    by_cases ei : i = k
    · subst ei
      have e1 : (vs.set i va).getD i undef = va := by simp [hl, hk]
      have e2 : (vs.set i va).getD j undef = vs.getD j undef := by simp [show i ≠ j by omega]
      rw [e1] at hq
      rw [e2]
      exact hne j hj (by omega) q hq
    · have e1 : (vs.set k va).getD i undef = vs.getD i undef := by simp [Ne.symm ei]
      rw [e1] at hq
      by_cases ej : j = k
      · subst ej
        have e2 : (vs.set j va).getD j undef = va := by simp [hl, hk]
        rw [e2]
        intro e
        exact hne i (by omega) ei q e hq
      · have e2 : (vs.set k va).getD j undef = vs.getD j undef := by simp [Ne.symm ej]
        rw [e2]
        exact hd i j hij hj q hq

theorem own_far {w : World} {B B' g cap n m : Nat} {xs ys : List Value} (ho : w.ownsRow B 31 3 (.slice (some ⟨g, 0, none⟩) n cap) n xs) {v : Value} (hv : w.ownsRow B' 3 1 v m ys) : v.ownBlock ≠ some g := fun e => by
  rcases own_ne hv ho (by decide) with h0 | h0
  · rw [h0] at e; cases e
  · exact h0 (by rw [e]; rfl)

/-- A whole node is stored. w0: the world in which the ring was read; since then memory from C on alone has turned. -/
theorem RingOwn.set {w0 w : World} {B C g cap : Nat} {va : Value} {r : List Nd} {k : Nat} {n : Nd} (h : RingOwn w0 B (.slice (some ⟨g, 0, none⟩) r.length cap) r) (hk : k < r.length)
    (hb : Keeps B w0 w) (hC : w0.heap.size ≤ C) (hBC : B ≤ C) (hva : w.ownsRow C 3 1 va n.after.length (n.after.map (Value.int .i64))) :
    RingOwn (((w.setCell ⟨g, k * 3, none⟩ (.int .i64 n.id)).setCell ⟨g, k * 3 + 1, none⟩ (.int .i64 n.before)).setCell ⟨g, k * 3 + 2, none⟩ va) B (.slice (some ⟨g, 0, none⟩) (r.set k n).length cap) (r.set k n) := by
  obtain ⟨vs, hl, ho0, ha, hd⟩ := h
  have ho := ownsRow_keeps ho0 hb (Nat.le_refl _)
  refine RingOwn.core hl hk ha hd hb hC hBC ?_ (fun hv => ?_) (.inl hva)
  · rw [flatN_set r vs k n va hl hk]
    exact ownsRow_set (ownsRow_set (ownsRow_set ho (k * 3) (.int .i64 n.id)) (k * 3 + 1) (.int .i64 n.before)) (k * 3 + 2) va
  · exact ownsRow_setCell_other (ownsRow_setCell_other (ownsRow_setCell_other hv (own_far ho hv) _) (own_far ho hv) _) (own_far ho hv) _

/-- A node's successors are stored. -/
theorem RingOwn.setAfter {w0 w : World} {B C g cap : Nat} {va : Value} {r : List Nd} {k : Nat} {A : List Int} (h : RingOwn w0 B (.slice (some ⟨g, 0, none⟩) r.length cap) r) (hk : k < r.length)
    (hb : Keeps B w0 w) (hC : w0.heap.size ≤ C) (hBC : B ≤ C) (hva : w.ownsRow C 3 1 va A.length (A.map (Value.int .i64))) :
    RingOwn (w.setCell ⟨g, k * 3 + 2, none⟩ va) B (.slice (some ⟨g, 0, none⟩) (r.set k { r.getD k default with after := A }).length cap) (r.set k { r.getD k default with after := A }) := by
  obtain ⟨vs, hl, ho0, ha, hd⟩ := h
  have ho := ownsRow_keeps ho0 hb (Nat.le_refl _)
  refine RingOwn.core hl hk ha hd hb hC hBC ?_ (fun hv => ?_) (.inl hva)
  · rw [flatN_set r vs k _ va hl hk]
    obtain ⟨h1, h2, -⟩ := flatN_get r vs hl k hk
    have e1 : (flatN r vs).set (k * 3) (.int .i64 (r.getD k default).id) = flatN r vs := List.set_eq_of_getElem? h1
    have e2 : (flatN r vs).set (k * 3 + 1) (.int .i64 (r.getD k default).before) = flatN r vs := List.set_eq_of_getElem? h2
    show (w.setCell ⟨g, k * 3 + 2, none⟩ va).ownsRow B _ 3 _ _ ((((flatN r vs).set (k * 3) (.int .i64 (r.getD k default).id)).set (k * 3 + 1) (.int .i64 (r.getD k default).before)).set (k * 3 + 2) va)
    rw [e1, e2]
    exact ownsRow_set ho (k * 3 + 2) va
  · exact ownsRow_setCell_other hv (own_far ho hv) _

/-- A node's predecessor is stored. -/
theorem RingOwn.setBefore {w : World} {B g cap : Nat} {r : List Nd} {k : Nat} {bf : Int} (h : RingOwn w B (.slice (some ⟨g, 0, none⟩) r.length cap) r) (hk : k < r.length) :
    RingOwn (w.setCell ⟨g, k * 3 + 1, none⟩ (.int .i64 bf)) B (.slice (some ⟨g, 0, none⟩) (r.set k { r.getD k default with before := bf }).length cap) (r.set k { r.getD k default with before := bf }) := by
  obtain ⟨vs, hl, ho, ha, hd⟩ := h
  have hBg : B ≤ w.heap.size := by
    obtain ⟨h1, -, -⟩ := flatN_get r vs hl k hk
    obtain ⟨g1, c1, e1, -, -, hB, hlt, -⟩ := ownsRow_cell ho h1
    omega
  refine RingOwn.core (va := vs.getD k undef) hl hk ha hd (Keeps.refl _ w) (Nat.le_refl _) hBg ?_ (fun hv => ?_) (.inr ⟨rfl, rfl⟩)
  · rw [flatN_set r vs k _ _ hl hk]
    obtain ⟨h1, h2, h3⟩ := flatN_get r vs hl k hk
    have e1 : (flatN r vs).set (k * 3) (.int .i64 (r.getD k default).id) = flatN r vs := List.set_eq_of_getElem? h1
    have e3 : ((flatN r vs).set (k * 3 + 1) (.int .i64 bf)).set (k * 3 + 2) (vs.getD k undef) = (flatN r vs).set (k * 3 + 1) (.int .i64 bf) := List.set_eq_of_getElem? (by rw [List.getElem?_set_ne (by omega)]; exact h3)
    show (w.setCell ⟨g, k * 3 + 1, none⟩ _).ownsRow B _ 3 _ _ ((((flatN r vs).set (k * 3) (.int .i64 (r.getD k default).id)).set (k * 3 + 1) (.int .i64 bf)).set (k * 3 + 2) (vs.getD k undef))
    rw [e1, e3]
    exact ownsRow_set ho (k * 3 + 1) _
  · exact ownsRow_setCell_other hv (own_far ho hv) _

/-- A slice literal of integers, laid last. -/
theorem own_new (w : World) (xs : List Int) (t : TypeId) (cells : Array Value) (hc : cells = (xs.map (Value.int .i64)).toArray) (hm : xs.length ≤ 1000) :
    (w.alloc (.cells cells t)).ownsRow w.heap.size t 1 (.slice (some ⟨w.heap.size, 0, none⟩) xs.length xs.length) xs.length (xs.map (Value.int .i64)) := by
  refine ⟨by simp, .inr ⟨w.heap.size, xs.length, cells, rfl, Nat.le_refl _, heap_alloc_new w _, Nat.le_refl _, by unfold maxLen; omega, by rw [hc]; simp, by rw [hc, Nat.mul_one]; exact List.take_of_length_le (by simp)⟩⟩

/-- Behind 'append([]T{}, xs...)' in world w1: the new row. -/
theorem appendedE {w1 w2 : World} {M size : Nat} {t : TypeId} {v' : Value} {l : Nat} {L : List Value} (hM : M = w1.heap.size)
    (hown : w2.ownsRow M t size v' (0 + l) ([] ++ L)) (hgrow : (w1.alloc (.cells #[] t)).grownBy w2 (Value.slice (some ⟨M, 0, none⟩) 0 0).ownBlock)
    (hnil : v' = .slice none 0 0 ↔ Value.slice (some ⟨M, 0, none⟩) 0 0 = .slice none 0 0 ∧ l = 0) :
    ∃ g cg, v' = .slice (some ⟨g, 0, none⟩) l cg ∧ M ≤ g ∧ l ≤ cg ∧ cg ≤ maxLen ∧ w2.ownsRow M t size (.slice (some ⟨g, 0, none⟩) l cg) l L ∧ Below M w1 w2 := by
  subst hM
  rw [Nat.zero_add, List.nil_append] at hown
  obtain ⟨g, cg, rfl, h1, h2, h3, h4⟩ := own_form hown (fun e => by have := hnil.1 e; simp at this)
  exact ⟨g, cg, rfl, h3, h1, h2, hown, ((Below.refl _ _).alloc (Nat.le_refl _) _).grown hgrow (by simp) (fun q hq => by simp [Value.ownBlock] at hq; omega)⟩

theorem list_of {α : Type} (d : α) (P : Nat → α → Prop) : ∀ n : Nat, (∀ i, i < n → ∃ a, P i a) → ∃ l : List α, l.length = n ∧ ∀ i, i < n → P i (l.getD i d)
  | 0, _ => ⟨[], rfl, fun i hi => by omega⟩
  | n + 1, h => by
    obtain ⟨l, hl, hp⟩ := list_of d P n (fun i hi => h i (by omega))
    obtain ⟨a, ha⟩ := h n (by omega)
    refine ⟨l ++ [a], by simp [hl], fun i hi => ?_⟩
    by_cases e : i < n
    · have : (l ++ [a]).getD i d = l.getD i d := by simp [hl, e, List.getElem?_append]
      rw [this]; exact hp i e
    · have e' : i = n := by omega
      subst e'
      have : (l ++ [a]).getD i d = a := by simp [hl]
      rw [this]; exact ha

theorem flatN_setV : ∀ (r : List Nd) (vs : List Value) (k : Nat) (v : Value), vs.length = r.length → k < r.length → flatN r (vs.set k v) = (flatN r vs).set (k * 3 + 2) v
  | [], _, _, _, _, h => by simp at h
  | _ :: _, [], _, _, h, _ => by simp at h
  | m :: r, u :: vs, 0, v, _, _ => by simp [flatN]
  | m :: r, u :: vs, k + 1, v, h, hk => by
    have := flatN_setV r vs k v (by simpa using h) (by simpa using hk)
    simp [flatN, this, Nat.add_mul, Nat.add_right_comm]
theorem flatN_one : ∀ (r : List Nd) (vs : List Value), vs.length = r.length → (∀ i, i < r.length → (vs.getD i undef).oneCell' = true) → ∀ u ∈ flatN r vs, u.oneCell' = true
  | [], _, _, _, u, h => by simp [flatN] at h
  | _ :: _, [], h, _, _, _ => by simp at h
  | m :: r, v :: vs, h, h1, u, hu => by
    simp [flatN] at hu
    rcases hu with rfl | rfl | rfl | hu
    · rfl
    · rfl
    · simpa using h1 0 (by simp)
    · exact flatN_one r vs (by simpa using h) (fun i hi => by simpa using h1 (i + 1) (by simpa using hi)) u hu

/-- What a ring's cells hold, as an append reads them. -/
theorem RingAt.src {w : World} {v : Value} {r : List Nd} (h : RingAt w v r) : ∃ vs : List Value, vs.length = r.length ∧ (∀ i, i < r.length → IntsAt w (vs.getD i undef) (r.getD i default).after) ∧ SrcIs w 3 v r.length (flatN r vs) := by
  obtain ⟨p, cap, rfl, hc, hm, h4⟩ := h
  rcases h4 with ⟨rfl, h5⟩ | ⟨b, o, rfl, hlt, hcell⟩
  · refine ⟨[], rfl, fun i hi => by simp at hi, rfl, fun u hu => by simp [flatN] at hu, ?_⟩
    cases p with
    | none => rw [h5 rfl]; exact .inl ⟨rfl, rfl⟩
    | some ad => exact .inr ⟨ad, cap, rfl, fun j u hj => by simp [flatN] at hj⟩
  · obtain ⟨vs, hl, hvs⟩ := list_of undef (fun i va => w.cell? ⟨b, o + i * 3 + 2, none⟩ = some va ∧ IntsAt w va (r.getD i default).after) r.length (fun i hi => by
      obtain ⟨-, -, va, h3, h4⟩ := hcell i hi
      exact ⟨va, h3, h4⟩)
    refine ⟨vs, hl, fun i hi => (hvs i hi).2, flatN_length r vs hl, flatN_one r vs hl (fun i hi => ?_), .inr ⟨_, cap, rfl, fun j u hj => ?_⟩⟩
    · obtain ⟨pa, ca, e, -⟩ := (hvs i hi).2
      rw [e]; rfl
    · have hj' : j < r.length * 3 := by
        rcases Nat.lt_or_ge j (r.length * 3) with h | h
        · exact h
        · rw [List.getElem?_eq_none (by rw [flatN_length r vs hl]; exact h)] at hj; cases hj
      rw [Addr.add_lit]
      obtain ⟨f1, f2, f3⟩ := flatN_get r vs hl (j / 3) (by omega)
      obtain ⟨c1, c2, -⟩ := hcell (j / 3) (by omega)
      have c3 := (hvs (j / 3) (by omega)).1
      have e : j = j / 3 * 3 ∨ j = j / 3 * 3 + 1 ∨ j = j / 3 * 3 + 2 := by omega
      rcases e with e | e | e
      · rw [e, f1] at hj
        rw [e, c1]; exact hj
      · rw [e, f2] at hj
        rw [e, ← Nat.add_assoc, c2]; exact hj
      · rw [e, f3] at hj
        rw [e, ← Nat.add_assoc, c3]; exact hj

end Go.Proofs.Ytojpfbbgpcafnaa
