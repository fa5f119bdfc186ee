/-
  Contracts: RingNew of the reference; drawn nodes.
-/
import Derived.Test.YtnoamohpkngbdaaDraw3
namespace Go.Proofs.Ytnoamohpkngbdaa
open Go.RowKit

def rNewOk (L : List Int) : Bool := ndB L && decide (3 ≤ L.length)
def rNew (L : List Int) : List Nd := if rNewOk L then idealR L else []

set_option maxHeartbeats 1000000 in
theorem sRingNew_any (v : Value) (L : List Int) (w : World) (hv : IntsAt w v L) :
    Calls Try.prog 17 #[v] w fun e w' => ∃ u, e = .returned (.tuple #[u, .bool (rNewOk L)]) ∧ RingOwn w' w.heap.size u (rNew L) ∧ Below w.heap.size w w' := by
  have HV := Lib.hid hv
  obtain ⟨p, cap, rfl, hc, hm, -⟩ := hv
  unfold maxLen at hm
  cases hn : ndB L
  · have HN := Lib.hid hn
    have HR := Lib.hid (show rNewOk L = false by unfold rNewOk; rw [hn]; rfl)
    clear hn
    go_enter Try.func17, Try.ntmps17
    go_wp2_with (first | (go_at_call 43; refine (sNodesValid_any _ L _ HV.out).mono ?_; rw [HN.out]; rintro e w1 ⟨rfl, hb1⟩))
    go_ret2
    unfold rNew
    rw [HR.out]
    exact ⟨_, rfl, (RingOwn.made w1 _ rfl).mono hb1.size, hb1.alloc hb1.size _⟩
  · have HN := Lib.hid hn
    have hl10 : L.length ≤ 10 := (ndB_iff.1 hn).2.1
    clear hn
    by_cases h3 : 3 ≤ L.length
    · have HR := Lib.hid (show rNewOk L = true by unfold rNewOk; rw [HN.out, decide_eq_true h3]; rfl)
      go_enter Try.func17, Try.ntmps17
      go_wp2_with (first | (go_at_call 43; refine (sNodesValid_any _ L _ HV.out).mono ?_; rw [HN.out]; rintro e w1 ⟨rfl, hb1⟩) | (go_at_call 44; refine (l3Ideal_any _ L _ (HV.out.below hb1 (Nat.le_refl _)) (by omega)).mono ?_; rintro e w2 ⟨u, rfl, hO, hb2⟩))
      go_ret2
      unfold rNew
      rw [HR.out]
      exact ⟨_, rfl, hO.mono hb1.size, hb1.trans (hb2.mono hb1.size)⟩
    · have HR := Lib.hid (show rNewOk L = false by unfold rNewOk; rw [HN.out, decide_eq_false h3]; rfl)
      have h3' : L.length < 3 := by omega
      go_enter Try.func17, Try.ntmps17
      go_wp2_with (first | (go_at_call 43; refine (sNodesValid_any _ L _ HV.out).mono ?_; rw [HN.out]; rintro e w1 ⟨rfl, hb1⟩))
      go_ret2
      unfold rNew
      rw [HR.out]
      exact ⟨_, rfl, (RingOwn.made w1 _ rfl).mono hb1.size, hb1.alloc hb1.size _⟩

/-- A row of integers of the call's own, never nil. -/
def IntsOwn (w : World) (B : Nat) (v : Value) (xs : List Int) : Prop := w.ownsRow B 3 1 v xs.length (xs.map (Value.int .i64)) ∧ v ≠ .slice none 0 0
theorem IntsOwn.at {w : World} {B : Nat} {v : Value} {xs : List Int} (h : IntsOwn w B v xs) : IntsAt w v xs := intsAt_own h.1
theorem IntsOwn.below {w w' : World} {B C : Nat} {v : Value} {xs : List Int} (h : IntsOwn w B v xs) (hb : Below C w w') (hC : w.heap.size ≤ C) : IntsOwn w' B v xs := ⟨ownsRow_below h.1 hb hC, h.2⟩
theorem IntsOwn.grow {w w' : World} {S : Nat} {v : Value} {xs : List Int} (h : IntsOwn w (S + 1) v xs) (hg : w.grownBy w' (some S)) : IntsOwn w' (S + 1) v xs := ⟨ownsRow_keeps h.1 (keeps_grow hg) (Nat.le_refl _), h.2⟩
theorem IntsOwn.form {w : World} {B : Nat} {v : Value} {xs : List Int} (h : IntsOwn w B v xs) : ∃ g cap, v = .slice (some ⟨g, 0, none⟩) xs.length cap ∧ xs.length ≤ cap ∧ cap ≤ maxLen ∧ B ≤ g ∧ g < w.heap.size ∧ (∀ i, i < xs.length → w.cell? ⟨g, i, none⟩ = some (.int .i64 (xs.getD i 0))) := by
  obtain ⟨g, cap, rfl, h1, h2, h3, h4⟩ := own_form h.1 h.2
  refine ⟨g, cap, rfl, h1, h2, h3, h4, fun i hi => ?_⟩
  obtain ⟨g', c', e, -, -, -, -, k, -⟩ := ownsRow_cell h.1 (j := i) (u := .int .i64 (xs.getD i 0)) (by simp [hi])
  cases e
  exact k
theorem ints_news {w : World} {g k : Nat} {xs : List Int} (h : ∀ i, i < xs.length → w.cell? ⟨g, i, none⟩ = some (.int .i64 (xs.getD i 0))) (hk : k ≤ xs.length) :
    ((xs.take k).map (Value.int .i64)).length = k * 1 ∧ (∀ j u, ((xs.take k).map (Value.int .i64))[j]? = some u → w.cell? ((⟨g, 0, none⟩ : Addr).add j) = some u) ∧ ∀ u ∈ (xs.take k).map (Value.int .i64), u.oneCell' = true := by
  refine ⟨by simp; omega, fun j u hj => ?_, fun u hu => by obtain ⟨_, _, rfl⟩ := List.mem_map.1 hu; rfl⟩
  rw [Addr.add_lit, Nat.zero_add]
  have hj' : j < k := by
    rcases Nat.lt_or_ge j k with h' | h'
    · exact h'
    · rw [List.getElem?_eq_none (by simp; omega)] at hj; cases hj
  rw [h j (by omega)]
  simpa [show j < xs.length by omega, hj'] using hj
theorem ints_news_drop {w : World} {g k : Nat} {xs : List Int} (h : ∀ i, i < xs.length → w.cell? ⟨g, i, none⟩ = some (.int .i64 (xs.getD i 0))) (cap : Nat) (hc : xs.length ≤ cap) :
    ∃ O, (if cap = k then some (⟨g, 0, none⟩ : Addr) else some ⟨g, k, none⟩) = some ⟨g, O, none⟩ ∧
    (((xs.drop k).map (Value.int .i64)).length = (xs.length - k) * 1 ∧ (∀ j u, ((xs.drop k).map (Value.int .i64))[j]? = some u → w.cell? ((⟨g, O, none⟩ : Addr).add j) = some u) ∧ ∀ u ∈ (xs.drop k).map (Value.int .i64), u.oneCell' = true) := by
  have hl : ((xs.drop k).map (Value.int .i64)).length = (xs.length - k) * 1 := by simp
  have h1 : ∀ u ∈ (xs.drop k).map (Value.int .i64), u.oneCell' = true := fun u hu => by obtain ⟨_, _, rfl⟩ := List.mem_map.1 hu; rfl
  by_cases e : cap = k
  · refine ⟨0, by rw [if_pos e], hl, fun j u hj => ?_, h1⟩
    rw [List.getElem?_eq_none (by rw [hl]; omega)] at hj; cases hj
  · refine ⟨k, by rw [if_neg e], hl, fun j u hj => ?_, h1⟩
    rw [Addr.add_lit]
    have hj' : k + j < xs.length := by
      rcases Nat.lt_or_ge (k + j) xs.length with h' | h'
      · exact h'
      · rw [List.getElem?_eq_none (by simp; omega)] at hj; cases hj
    rw [h _ hj']
    simpa [List.getElem?_drop, hj'] using hj

end Go.Proofs.Ytnoamohpkngbdaa
