/-
  Plain predicates on memory: the reader of a code; worlds in which one block alone has turned. Plain laws on drawn nodes.
-/
import Derived.Test.YtkefnmmpipeppaaMemI
import Derived.Test.YtkefnmmpipeppaaPlain
namespace Go.Proofs.Ytkefnmmpipeppaa
open Go.RowKit

theorem grow_refl (w : World) (S : Nat) : w.grownBy w (some S) := ⟨rfl, rfl, rfl, Nat.le_refl _, fun _ _ _ => rfl⟩
theorem grow_trans {a b c : World} {S : Nat} (h : a.grownBy b (some S)) (h' : b.grownBy c (some S)) : a.grownBy c (some S) :=
  ⟨h'.os.trans h.os, h'.tape.trans h.tape, h'.output.trans h.output, Nat.le_trans h.size h'.size, fun k hk hn => (h'.block k (Nat.lt_of_lt_of_le hk h.size) hn).trans (h.block k hk hn)⟩
theorem grow_below {w w' : World} {B S : Nat} (h : Below B w w') (hB : w.heap.size ≤ B) : w.grownBy w' (some S) :=
  ⟨h.os, h.tape, h.output, h.size, fun k hk _ => h.block k (Nat.lt_of_lt_of_le hk hB)⟩
theorem grow_set (w : World) (S j : Nat) (u : Value) : w.grownBy (w.setCell ⟨S, j, none⟩ u) (some S) :=
  ⟨rfl, rfl, rfl, by simp [World.setCell], fun k _ hn => Below.heap_setCell w ⟨S, j, none⟩ u k (fun e => hn (by rw [e]))⟩
theorem below_grow {w w' : World} {B S : Nat} (h : w.grownBy w' (some S)) (hB : B ≤ S) (hB' : B ≤ w.heap.size) : Below B w w' :=
  ⟨h.os, h.tape, h.output, h.size, fun k hk => h.block k (by omega) (fun e => by cases e; omega)⟩
theorem keeps_grow {w w' : World} {S : Nat} (h : w.grownBy w' (some S)) : Keeps (S + 1) w w' :=
  ⟨h.size, fun q hq hl => h.block q hl (fun e => by cases e; omega)⟩
theorem grow_cell {w w' : World} {S b o : Nat} (h : w.grownBy w' (some S)) (hb : b < w.heap.size) (hne : b ≠ S) : w'.cell? ⟨b, o, none⟩ = w.cell? ⟨b, o, none⟩ := by
  have := h.block b hb (fun e => by cases e; exact hne rfl)
  simp [World.cell?, this]

/-- A reader lies in block S; it has read p times. -/
def RdAt (w : World) (S p : Nat) : Prop :=
  ∃ pb n cap, w.cell? ⟨S, 0, none⟩ = some (.slice pb n cap) ∧ w.cell? ⟨S, 1, none⟩ = some (.int .i64 p) ∧ (∀ j, w.frozen? ⟨S, j, none⟩ = false) ∧ n ≤ 2000 ∧ n ≤ cap ∧ cap ≤ maxLen ∧ S < w.heap.size ∧
    (n = 0 ∨ ∃ b o, pb = some ⟨b, o, none⟩ ∧ b < S ∧ ∀ i, i < n → ∃ x : Nat, x ≤ 255 ∧ w.cell? ⟨b, o + i, none⟩ = some (.int .u8 x))
theorem RdAt.lt {w : World} {S p : Nat} (h : RdAt w S p) : S < w.heap.size := by obtain ⟨_, _, _, _, _, _, _, _, _, h, _⟩ := h; exact h
theorem RdAt.below {w w' : World} {S p B : Nat} (h : RdAt w S p) (hb : Below B w w') (hB : w.heap.size ≤ B) : RdAt w' S p := by
  obtain ⟨pb, n, cap, h1, h2, h3, h4, h5, h6, h7, h8⟩ := h
  refine ⟨pb, n, cap, (hb.cell (p := ⟨S, 0, none⟩) (by show S < B; omega)).trans h1, (hb.cell (p := ⟨S, 1, none⟩) (by show S < B; omega)).trans h2, fun j => (hb.frozen (p := ⟨S, j, none⟩) (by show S < B; omega)).trans (h3 j), h4, h5, h6, Nat.lt_of_lt_of_le h7 hb.size, ?_⟩
  rcases h8 with h8 | ⟨b, o, rfl, hlt, hc⟩
  · exact .inl h8
  · refine .inr ⟨b, o, rfl, hlt, fun i hi => ?_⟩
    obtain ⟨x, hx, hc'⟩ := hc i hi
    exact ⟨x, hx, (hb.cell (p := ⟨b, o + i, none⟩) (by show b < B; omega)).trans hc'⟩
/-- Read once more. -/
theorem RdAt.next {w : World} {S p : Nat} (h : RdAt w S p) {w' : World} (hw : w' = w.setCell ⟨S, 1, none⟩ (.int .i64 ((p : Int) + 1))) : RdAt w' S (p + 1) := by
  obtain ⟨pb, n, cap, h1, h2, h3, h4, h5, h6, h7, h8⟩ := h
  subst hw
  refine ⟨pb, n, cap, ?_, ?_, fun j => ?_, h4, h5, h6, by simpa [World.setCell] using h7, ?_⟩
  · rw [World.cell?_setCell_other _ _ _ _ (by simp)]; exact h1
  · rw [World.cell?_setCell_same _ _ _ h2]
    rfl
  · rw [World.frozen?_setCell]; exact h3 j
  · rcases h8 with h8 | ⟨b, o, rfl, hlt, hc⟩
    · exact .inl h8
    · refine .inr ⟨b, o, rfl, hlt, fun i hi => ?_⟩
      obtain ⟨x, hx, hc'⟩ := hc i hi
      refine ⟨x, hx, ?_⟩
      rw [World.cell?_setCell_other _ _ _ _ (fun e => by have e2 := congrArg Addr.block e; simp at e2; omega)]; exact hc'

/-- There is a free position. -/
theorem free_pos : ∀ (n : Nat) (l : List Int), l.length < n → ∃ y : Nat, y < n ∧ (y : Int) ∉ l
  | 0, _, h => by omega
  | n + 1, l, h => by
    by_cases hn : (n : Int) ∈ l
    · obtain ⟨y, hy, hm⟩ := free_pos n (l.erase n) (by rw [List.length_erase_of_mem hn]; have := List.length_pos_of_mem hn; omega)
      exact ⟨y, by omega, fun h' => hm ((List.mem_erase_of_ne (by omega)).2 h')⟩
    · exact ⟨n, by omega, hn⟩
theorem free_dist (l : List Int) (hl : l.length < 64) (p : Int) : ∃ d : Nat, (p + d) % 64 ∉ l := by
  obtain ⟨y, hy, hm⟩ := free_pos 64 l hl
  refine ⟨((y - p + 64) % 64).toNat, ?_⟩
  have : (p + (((y - p + 64) % 64).toNat : Int)) % 64 = y := by omega
  rw [this]; exact hm

/-- Ascending positions. -/
def Asc (l : List Int) : Prop := l.Pairwise (· < ·) ∧ ∀ x ∈ l, okP x = true
theorem Asc.nodes {l : List Int} (h : Asc l) (hl : l.length ≤ 10) : nodesOk l := by
  refine ⟨hl, fun i hi => ?_, fun i j hij hj => ?_⟩
  · have : l.getD i 0 = l[i] := by simp [hi]
    rw [this]; exact h.2 _ (List.getElem_mem hi)
  · have := List.pairwise_iff_getElem.1 h.1 i j (by omega) hj hij
    simpa [show i < l.length by omega, hj] using this
theorem nodesOk_asc {l : List Int} (h : nodesOk l) : Asc l := by
  obtain ⟨-, h2, h3⟩ := h
  refine ⟨List.pairwise_iff_getElem.2 fun i j hi hj hij => ?_, fun x hx => ?_⟩
  · have := h3 i j hij hj
    simpa [hi, hj] using this
  · obtain ⟨i, hi, rfl⟩ := List.getElem_of_mem hx
    have := h2 i hi
    simpa [hi] using this
/-- A new position is put in where the smaller ones end. -/
theorem Asc.insert {l : List Int} (h : Asc l) {p : Int} (hp : okP p = true) (hn : p ∉ l) {k : Nat} (hk : k ≤ l.length) (h1 : ∀ i, i < k → l.getD i 0 < p) (h2 : k < l.length → ¬ l.getD k 0 < p) : Asc (l.take k ++ p :: l.drop k) := by
  have hm : ∀ x, x ∈ l.take k ++ p :: l.drop k → x = p ∨ x ∈ l := fun x hx => by
    rcases List.mem_append.1 hx with hx | hx
    · exact .inr (List.mem_of_mem_take hx)
    · rcases List.mem_cons.1 hx with hx | hx
      · exact .inl hx
      · exact .inr (List.mem_of_mem_drop hx)
  have hT : ∀ a, a ∈ l.take k → a < p := fun a ha => by
    obtain ⟨i, hi, e⟩ := List.getElem_of_mem ha
    rw [List.length_take] at hi
    rw [List.getElem_take] at e
    have := h1 i (by omega)
    have e2 : l.getD i 0 = a := by rw [← e]; simp [show i < l.length by omega]
    rw [e2] at this; exact this
  have hD : ∀ a, a ∈ l.drop k → p < a := fun a ha => by
    obtain ⟨i, hi, e⟩ := List.getElem_of_mem ha
    rw [List.length_drop] at hi
    rw [List.getElem_drop] at e
    have hkl : k < l.length := by omega
    have h3 := h2 hkl
    have e2 : l.getD (k + i) 0 = a := by rw [← e]; simp [show k + i < l.length by omega]
    have h4 : l.getD k 0 ≤ a := by
      cases i with
      | zero => rw [← e2]; exact Int.le_refl _
      | succ i =>
        have := List.pairwise_iff_getElem.1 h.1 k (k + (i + 1)) hkl (by omega) (by omega)
        rw [← e2]
        have e3 : l.getD k 0 = l[k] := by simp [hkl]
        have e4 : l.getD (k + (i + 1)) 0 = l[k + (i + 1)]'(by omega) := by simp [show k + (i + 1) < l.length by omega]
        rw [e3, e4]; omega
    have hne : a ≠ p := fun e5 => hn (by rw [← e5]; exact List.mem_of_mem_drop ha)
    omega
  refine ⟨List.pairwise_append.2 ⟨h.1.sublist (List.take_sublist _ _), List.pairwise_cons.2 ⟨fun a ha => hD a ha, h.1.sublist (List.drop_sublist _ _)⟩, fun a ha b hb => ?_⟩, fun x hx => ?_⟩
  · have h3 := hT a ha
    rcases List.mem_cons.1 hb with rfl | hb
    · exact h3
    · have := hD b hb; omega
  · rcases hm x hx with rfl | hx
    · exact hp
    · exact h.2 x hx

end Go.Proofs.Ytkefnmmpipeppaa
