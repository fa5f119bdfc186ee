/-
  Contracts: slices.DeleteFunc at nodes of an owned ring.
-/
import Derived.Test.YtadplndoopkdgaaISteps
import Derived.Test.YtadplndoopkdgaaRead
import Derived.Lib.SliceRun
namespace Go.Proofs.Ytadplndoopkdgaa
open Go.RowKit

theorem failF_any (n : Nd) (va : Value) (id : Int) (B : Nat) (w : World) (ha : IntsAt w va n.after) (hB : w.cell? ⟨B, 0, none⟩ = some (.int .i64 id)) :
    Calls Try.prog 82 #[.agg #[.int .i64 n.id, .int .i64 n.before, va], .pointer (some ⟨B, 0, none⟩)] w fun e w' => e = .returned (.bool (n.id == id)) ∧ Below w.heap.size w w' := by
  obtain ⟨pa, capa, rfl, -, -, -⟩ := ha
  have hlt : B < w.heap.size := World.block_lt_of_cell? w _ hB
  have hb := (Below.refl w.heap.size w).alloc (Nat.le_refl _) (.cells #[.int .i64 n.id, .int .i64 n.before, .slice pa n.after.length capa] 31)
  go_enter Try.func82, Try.ntmps82
  go_wp2
  go_ret
  exact ⟨rfl, hb⟩

set_option maxHeartbeats 1000000 in
theorem idxFail_any (v : Value) (r : List Nd) (B : Nat) (id : Int) (w : World) (hv : RingAt w v r) (hB : w.cell? ⟨B, 0, none⟩ = some (.int .i64 id)) :
    Calls Try.prog 84 #[v, .func (.func 82) #[] #[.pointer (some ⟨B, 0, none⟩)]] w fun e w' => e = .returned (.int .i64 (idx (fun n => n.id == id) r)) ∧ Below w.heap.size w w' := by
  obtain ⟨p, cap, rfl, hc, hm, h4⟩ := hv
  unfold maxLen at hm
  go_enter Try.func84, Try.ntmps84
  go_wp2
  go_loopw [5, 8] (fun _ s8 wr => ∃ k : Nat, k ≤ r.length ∧ s8 = .int .i64 k ∧ Hid (∀ j, j < k → (fun n => n.id == id) (r.getD j default) = false) ∧ Below w.heap.size w wr) (fun _ s _ => r.length - (intOf s).toNat)
  case atStart => exact ⟨0, Nat.zero_le _, rfl, Lib.hid fun j hj => by omega, Below.refl _ _⟩
  case round =>
    obtain ⟨k, hk, rfl, HA, hbel⟩ := hrel
    by_cases hlt : k < r.length
    · rcases h4 with ⟨rfl, -⟩ | ⟨b, o, rfl, hb, hcell⟩
      · simp at hlt
      obtain ⟨h1, h2, va, h3, hia⟩ := (hcell k hlt).below hb hbel (Nat.le_refl _)
      obtain ⟨n, hn⟩ : ∃ x, r.getD k default = x := ⟨_, rfl⟩
      rw [hn] at h1 h2 hia
      have HN := Lib.hid hn
      have HI := Lib.hid hia
      obtain ⟨pa, capa, rfl, -, -, -⟩ := hia
      have hsz : w.heap.size ≤ wr.heap.size := hbel.size
      clear hcell hn
      go_wp2_with (first | (go_at_call 82; refine (failF_any n _ id B _ HI.out ((hbel.cell (p := ⟨B, 0, none⟩) (World.block_lt_of_cell? w _ hB)).trans hB)).mono ?_; rintro e w1 ⟨rfl, hb1⟩))
      · have hf : (fun n => n.id == id) n = true := by assumption
        go_ret
        exact ⟨ret_int (idx_hit hlt (by rw [HN.out]; exact hf) HA.out).symm, hbel.trans (hb1.mono hsz)⟩
      · have hf : (fun n => n.id == id) n = false := by assumption
        go_roundw
        case rel =>
          refine ⟨k + 1, by omega, by go_num, Lib.hid fun j hj => ?_, hbel.trans (hb1.mono hsz)⟩
          by_cases e : j = k
          · subst e; rw [HN.out]; exact hf
          · exact HA.out j (by omega)
        case measure => simp [intOf]; omega
    · obtain rfl : k = r.length := by omega
      go_wp2
      go_ret
      exact ⟨ret_int (idx_miss HA.out).symm, hbel⟩

/-- A row whose elements behind k have moved down by one, m of them so far. -/
def shT {α : Type} (d : α) (l : List α) (k : Nat) : Nat → List α
  | 0 => l
  | m + 1 => (shT d l k m).set (k + m) (l.getD (k + m + 1) d)
theorem shT_len {α : Type} (d : α) (l : List α) (k : Nat) : ∀ m, (shT d l k m).length = l.length
  | 0 => rfl
  | m + 1 => by rw [shT, List.length_set, shT_len d l k m]
theorem shT_up {α : Type} (d : α) (l : List α) (k : Nat) : ∀ m i, k + m ≤ i → (shT d l k m).getD i d = l.getD i d
  | 0, _, _ => rfl
  | m + 1, i, h => by
    have := shT_up d l k m i (by omega)
    rw [← this]
    simp [shT, List.getD_eq_getElem?_getD, show ¬ k + m = i by omega]
theorem shT_at {α : Type} (d : α) (l : List α) (k : Nat) : ∀ m i, k + m < l.length → i < k + m → (shT d l k m).getD i d = if i < k then l.getD i d else l.getD (i + 1) d
  | 0, i, _, h => by rw [if_pos (by omega)]; rfl
  | m + 1, i, hl, h => by
    by_cases e : i = k + m
    · subst e
      rw [if_neg (by omega)]
      have hlen := shT_len d l k m
      simp [shT, List.getD_eq_getElem?_getD, show k + m < (shT d l k m).length by omega]
    · have := shT_at d l k m i (by omega) (by omega)
      rw [← this]
      simp [shT, List.getD_eq_getElem?_getD, show ¬ k + m = i from fun h => e h.symm]
theorem shT_end {α : Type} (d : α) (l : List α) {k n : Nat} (hl : l.length = n + 1) (hk : k ≤ n) : (shT d l k (n - k)).take n = l.eraseIdx k := by
  have hle := shT_len d l k (n - k)
  apply List.ext_getElem
  · rw [List.length_take, hle, hl, List.length_eraseIdx_of_lt (by omega)]; omega
  · intro i h1 h2
    rw [List.length_take, hle, hl] at h1
    have ha := shT_at d l k (n - k) i (by omega) (by omega)
    rw [List.getElem_take, List.getElem_eraseIdx]
    have e1 : (shT d l k (n - k)).getD i d = (shT d l k (n - k))[i]'(by omega) := by simp [show i < (shT d l k (n - k)).length by omega]
    rw [← e1, ha]
    split
    · simp [show i < l.length by omega]
    · simp [show i + 1 < l.length by omega]

theorem flatN_sh (r : List Nd) (vs : List Value) (k m : Nat) (hl : vs.length = r.length) (hm : k + m + 1 < r.length + 1) :
    flatN (shT default r k (m + 1)) (shT undef vs k (m + 1)) = (((flatN (shT default r k m) (shT undef vs k m)).set ((k + m) * 3) (.int .i64 (r.getD (k + m + 1) default).id)).set ((k + m) * 3 + 1) (.int .i64 (r.getD (k + m + 1) default).before)).set ((k + m) * 3 + 2) (vs.getD (k + m + 1) undef) :=
  flatN_set (shT default r k m) (shT undef vs k m) (k + m) (r.getD (k + m + 1) default) (vs.getD (k + m + 1) undef) (by rw [shT_len, shT_len, hl]) (by rw [shT_len]; omega)

theorem ownsRow_cut {w : World} {B size n m g cap : Nat} {e : TypeId} {xs : List Value} (h : w.ownsRow B e size (.slice (some ⟨g, 0, none⟩) n cap) n xs) (hm : m ≤ n) : w.ownsRow B e size (.slice (some ⟨g, 0, none⟩) m cap) m (xs.take (m * size)) := by
  have hmul : m * size ≤ n * size := Nat.mul_le_mul_right _ hm
  refine ⟨by rw [List.length_take, h.1]; omega, ?_⟩
  rcases h.2 with ⟨h0, -⟩ | ⟨g', cap', cur, e1, hb, hg, hc, hmx, hs, ht⟩
  · cases h0
  · cases e1
    exact .inr ⟨g, cap, cur, rfl, hb, hg, by omega, hmx, hs, by rw [← ht, List.take_take, Nat.min_eq_left hmul]⟩

theorem ownsRow_grow {w w' : World} {B size n S : Nat} {e : TypeId} {v : Value} {xs : List Value} (h : w.ownsRow B e size v n xs) (hg : w.grownBy w' (some S)) (hn : v.ownBlock ≠ some S) : w'.ownsRow B e size v n xs := by
  refine ⟨h.1, ?_⟩
  rcases h.2 with hz | ⟨g, cap, cur, rfl, hb, hh, rest⟩
  · exact .inl hz
  · exact .inr ⟨g, cap, cur, rfl, hb, (hg.block g (Array.getElem?_eq_some_iff.1 hh).1 (fun e => hn (by cases e; rfl))).trans hh, rest⟩

theorem clear_node (w : World) (g o c : Nat) (hc : ∀ j, j < 3 → (w.cell? ⟨g, o + j, none⟩).isSome = true) (hf : ∀ q, w.frozen? ⟨g, q, none⟩ = false) :
    (Builtin.clear_ #[23] 0 #[.slice (some ⟨g, o, none⟩) 1 c]).run Try.prog w = .ok (.tuple #[]) (((w.setCell ⟨g, o, none⟩ (.int .i64 0)).setCell ⟨g, o + 1, none⟩ (.int .i64 0)).setCell ⟨g, o + 2, none⟩ (.slice none 0 0)) := by
  have hv : ∀ w, (zeroValue 31).run Try.prog w = .ok (.agg #[.int .i64 0, .int .i64 0, .slice none 0 0]) w := fun _ => rfl
  have hst := run_storeCells_cells (P := Try.prog) g o [.int .i64 0, .int .i64 0, .slice none 0 0] 0 w (by simpa using hc) (by intro j _; exact hf _) (by intro v hv'; simp at hv'; rcases hv' with rfl | rfl | rfl <;> rfl)
  simp only [Nat.add_zero] at hst
  have hz : (Builtin.zeroCells (Value.agg #[.int .i64 0, .int .i64 0, .slice none 0 0]).cells 1).toList = [.int .i64 0, .int .i64 0, .slice none 0 0] := by
    apply List.ext_getElem
    · simp [Builtin.zeroCells, Value.cells]
    · intro i h1 h2
      have h3 : i < 3 := h2
      match i, h3 with
      | 0, _ => simp [Builtin.zeroCells, Value.cells]
      | 1, _ => simp [Builtin.zeroCells, Value.cells]
      | 2, _ => simp [Builtin.zeroCells, Value.cells]
  simp [Builtin.clear_, run_underlying Try.underlying23, hv, hz, hst]
  rfl

theorem row_cells {w : World} {B n g cap : Nat} {r : List Nd} {vs : List Value} (h : w.ownsRow B 31 3 (.slice (some ⟨g, 0, none⟩) n cap) n (flatN r vs)) (hl : vs.length = r.length) {i : Nat} (hi : i < r.length) :
    w.cell? ⟨g, i * 3, none⟩ = some (.int .i64 (r.getD i default).id) ∧ w.cell? ⟨g, i * 3 + 1, none⟩ = some (.int .i64 (r.getD i default).before) ∧ w.cell? ⟨g, i * 3 + 2, none⟩ = some (vs.getD i undef) ∧ (∀ q, w.frozen? ⟨g, q, none⟩ = false) ∧ g < w.heap.size ∧ B ≤ g := by
  obtain ⟨f1, f2, f3⟩ := flatN_get r vs hl i hi
  obtain ⟨g1, c1, e1, -, -, hB, hlt, k1, -⟩ := ownsRow_cell h f1
  obtain ⟨g2, c2, e2, -, -, -, -, k2, -⟩ := ownsRow_cell h f2
  obtain ⟨g3, c3, e3, -, -, -, -, k3, -⟩ := ownsRow_cell h f3
  cases e1; cases e2; cases e3
  refine ⟨k1, k2, k3, fun q => ?_, hlt, hB⟩
  rcases h.2 with ⟨h0, -⟩ | ⟨g', cap', cur, e1, -, hg, -⟩
  · cases h0
  · cases e1
    simp [World.frozen?, hg]

set_option maxHeartbeats 2000000 in
theorem deleteN_any (r : List Nd) (g cap k A B : Nat) (id : Int) (w : World) (hO : RingOwn w B (.slice (some ⟨g, 0, none⟩) r.length cap) r) (hv : ringValid r = true) (hk : k < r.length) (hid : (r.getD k default).id = id)
    (hA : w.cell? ⟨A, 0, none⟩ = some (.int .i64 id)) (hAg : A ≠ g) :
    Calls Try.prog 81 #[.slice (some ⟨g, 0, none⟩) r.length cap, .func (.func 82) #[] #[.pointer (some ⟨A, 0, none⟩)]] w fun e w' =>
      e = .returned (.slice (some ⟨g, 0, none⟩) (r.eraseIdx k).length cap) ∧ RingOwn w' B (.slice (some ⟨g, 0, none⟩) (r.eraseIdx k).length cap) (r.eraseIdx k) ∧ w.grownBy w' (some g) := by
  have hidx : idx (fun n => n.id == id) r = (k : Int) := by
    refine idx_hit (d := default) hk (by rw [hid]; simp) (fun j hj => ?_)
    have : (r.getD j default).id ≠ id := fun e => by have := valid_inj hv (by omega) hk (e.trans hid.symm); omega
    simpa using this
  have hno : ∀ j, k < j → j < r.length → ((r.getD j default).id == id) = false := fun j hj hl => by
    have : (r.getD j default).id ≠ id := fun e => by have := valid_inj hv hl hk (e.trans hid.symm); omega
    simpa using this
  have HNO := Lib.hid hno
  have HIDX := Lib.hid hidx
  have HAT := Lib.hid hO.at
  have h10 := ringValid_len hv
  obtain ⟨vs, hvl, ho, ha, hd⟩ := hO
  have HVL := Lib.hid hvl
  have HA := Lib.hid ha
  have HD := Lib.hid hd
  have hfar := fun i (hi : i < r.length) => own_far ho (ha i hi)
  have HFAR := Lib.hid hfar
  have hAl : A < w.heap.size := World.block_lt_of_cell? w _ hA
  obtain ⟨n, hn⟩ : ∃ n, r.length = n + 1 := ⟨r.length - 1, by omega⟩
  have HN := Lib.hid hn
  have hcap : r.length ≤ cap ∧ cap ≤ 9223372036854775807 := by
    rcases ho.2 with ⟨h0, -⟩ | ⟨g', cap', cur, e1, hb, hg, hc, hmx, -⟩
    · cases h0
    · cases e1; unfold maxLen at hmx; exact ⟨hc, by omega⟩
  obtain ⟨hc1, hc2⟩ := hcap
  have hgl : g < w.heap.size := by
    rcases ho.2 with ⟨h0, -⟩ | ⟨g', cap', cur, e1, hb, hg, -⟩
    · cases h0
    · cases e1; exact (Array.getElem?_eq_some_iff.1 hg).1
  have HOW := Lib.hid ho
  have hel : (r.eraseIdx k).length = n := by rw [List.length_eraseIdx_of_lt hk]; omega
  rw [hel]
  rw [hn] at hk hc1 HAT HOW ⊢
  clear hidx hno hvl ha hd hfar ho hv hid hn hel
  go_enter Try.func81, Try.ntmps81
  go_wp2_with (go_at_call 84; refine (idxFail_any _ r A id _ HAT.out hA).mono ?_; rw [HIDX.out]; rintro e w1 ⟨rfl, hb1⟩)
  go_loopg [5, 6, 7] (n + 1) (fun q s5 s6 _ wr => ∃ m : Nat, k + m ≤ n ∧ q = n + 1 - m ∧ s5 = .int .i64 ((k + m : Nat) : Int) ∧ s6 = .int .i64 ((k + m + 1 : Nat) : Int) ∧ w.grownBy wr (some g) ∧ Hid (wr.ownsRow B 31 3 (.slice (some ⟨g, 0, none⟩) (n + 1) cap) (n + 1) (flatN (shT default r k m) (shT undef vs k m))))
  case atStart => exact ⟨0, by omega, by omega, rfl, by go_num, grow_below hb1 (Nat.le_refl _), Lib.hid (ownsRow_below HOW.out hb1 (Nat.le_refl _))⟩
  case round =>
    obtain ⟨m, hm, rfl, rfl, rfl, hg, HO⟩ := hrel
    have HG := Lib.hid hg
    have hz := hg.size
    by_cases hlt : k + m < n
    · have hjl : k + m + 1 < r.length := by have := HN.out; omega
      have hlenS : (shT undef vs k m).length = (shT default r k m).length := by rw [shT_len, shT_len]; exact HVL.out
      have hlr : (shT default r k m).length = r.length := shT_len _ _ _ _
      obtain ⟨b0, b1, b2, bf, hgr, hBg⟩ := row_cells HO.out hlenS (i := k + m + 1) (by omega)
      obtain ⟨a0', a1', a2', -, -, -⟩ := row_cells HO.out hlenS (i := k + m) (by omega)
      rw [shT_up default r k m (k + m + 1) (by omega)] at b0 b1
      rw [shT_up undef vs k m (k + m + 1) (by omega)] at b2
      have hown := ownsRow_grow (HA.out (k + m + 1) hjl) hg (HFAR.out (k + m + 1) hjl)
      have hsh := flatN_sh r vs k m HVL.out (by omega)
      have hnn := HNO.out (k + m + 1) (by omega) hjl
      obtain ⟨nd, hnd⟩ : ∃ x, r.getD (k + m + 1) default = x := ⟨_, rfl⟩
      obtain ⟨va, hva⟩ : ∃ x, vs.getD (k + m + 1) undef = x := ⟨_, rfl⟩
      rw [hnd] at b0 b1 hown hsh hnn
      rw [hva] at b2 hown hsh
      have hia := intsAt_own hown
      have HIA := Lib.hid hia
      obtain ⟨pa, ca, hvf⟩ : ∃ p c, va = .slice p nd.after.length c := by obtain ⟨p, c, e, -⟩ := hia; exact ⟨p, c, e⟩
      subst hvf
      have HSH := Lib.hid hsh
      have hAw := (grow_cell (o := 0) hg hAl hAg).trans hA
      have HKM := Lib.hid (show True from trivial)
      obtain ⟨j, hj⟩ : ∃ j, k + m + 1 = j := ⟨_, rfl⟩
      obtain ⟨i, hi⟩ : ∃ i, k + m = i := ⟨_, rfl⟩
      rw [hj] at b0 b1 b2
      rw [hi] at a0' a1' a2'
      have HJ := Lib.hid hj
      have HI := Lib.hid hi
      have i0 : (0 : Int) ≤ (j : Int) := by omega
      have i1 : (j : Int) < ((n + 1 : Nat) : Int) := by omega
      have i2 : (0 : Int) ≤ (i : Int) := by omega
      have i3 : (i : Int) < ((n + 1 : Nat) : Int) := by omega
      have i1' : j < n + 1 := by omega
      have i3' : i < n + 1 := by omega
      have hbx := (Below.refl wr.heap.size wr).alloc (Nat.le_refl _) (.cells #[.int .i64 nd.id, .int .i64 nd.before, .slice pa nd.after.length ca] 31)
      have hgA : g ≠ A := Ne.symm hAg
      rw [hj, hi]
      clear hown hsh hia hnd hva hg hj hi hlt hjl hlenS hlr
      have HNN := Lib.hid hnn
      have hAx := (hbx.cell (p := ⟨A, 0, none⟩) (World.block_lt_of_cell? wr _ hAw)).trans hAw
      have HAX := Lib.hid hAx
      clear hnn hAx hAw HKM
      go_wp2_with fail
      refine (failF_any nd _ id A _ (HIA.out.below hbx (Nat.le_refl _)) HAX.out).mono ?_
      rw [HNN.out]
      rintro e w2 ⟨rfl, hb2⟩
      have b12 := hbx.trans (hb2.mono (by simp))
      have x0 : w2.cell? ⟨wr.heap.size, 0, none⟩ = some (.int .i64 nd.id) := (hb2.cell (p := ⟨wr.heap.size, 0, none⟩) (by simp)).trans (by simp)
      have x1 : w2.cell? ⟨wr.heap.size, 1, none⟩ = some (.int .i64 nd.before) := (hb2.cell (p := ⟨wr.heap.size, 1, none⟩) (by simp)).trans (by simp)
      have x2 : w2.cell? ⟨wr.heap.size, 2, none⟩ = some (.slice pa nd.after.length ca) := (hb2.cell (p := ⟨wr.heap.size, 2, none⟩) (by simp)).trans (by simp)
      have y0 := (b12.cell (p := ⟨g, i * 3, none⟩) hgr).trans a0'
      have y1 := (b12.cell (p := ⟨g, i * 3 + 1, none⟩) hgr).trans a1'
      have y2 := (b12.cell (p := ⟨g, i * 3 + 2, none⟩) hgr).trans a2'
      have yf : ∀ q, w2.frozen? ⟨g, q, none⟩ = false := fun q => (b12.frozen (p := ⟨g, q, none⟩) hgr).trans (bf q)
      have hg12 : wr.grownBy w2 (some g) := grow_below b12 (Nat.le_refl _)
      have hO2 := ownsRow_below HO.out b12 (Nat.le_refl _)
      have hO3 := ownsRow_set (ownsRow_set (ownsRow_set hO2 (i * 3) (.int .i64 nd.id)) (i * 3 + 1) (.int .i64 nd.before)) (i * 3 + 2) (.slice pa nd.after.length ca)
      rw [← HI.out, ← HSH.out] at hO3
      have HO3 := Lib.hid hO3
      have hg3 := ((grow_trans (grow_trans HG.out hg12) (grow_set w2 g (i * 3) (.int .i64 nd.id))))
      have hg4 := grow_trans (grow_trans hg3 (grow_set _ g (i * 3 + 1) (.int .i64 nd.before))) (grow_set _ g (i * 3 + 2) (.slice pa nd.after.length ca))
      have HG4 := Lib.hid hg4
      clear a0' a1' a2' b0 b1 b2 bf hO2 hO3 hg12 hg3 hg4
      go_wp2
      go_roundg (n + 1 - (m + 1))
      case rel =>
        have e1 := HI.out
        have e2 := HJ.out
        subst e1
        refine ⟨m + 1, by omega, rfl, by go_num, ?_, HG4.out, HO3⟩
        rw [← e2]; go_num
      case measure => omega
    · have hkn : k + m = n := by omega
      have hlenS : (shT undef vs k m).length = (shT default r k m).length := by rw [shT_len, shT_len]; exact HVL.out
      have hlr : (shT default r k m).length = r.length := shT_len _ _ _ _
      obtain ⟨a0', a1', a2', bf, hgr, hBg⟩ := row_cells HO.out hlenS (i := n) (by have := HN.out; omega)
      have hnc : ¬ cap = n := by omega
      have i2 : (0 : Int) ≤ (n : Int) := by omega
      have i3 : (n : Int) ≤ (cap : Int) := by omega
      have i4 : (n : Int) ≤ ((n + 1 : Nat) : Int) := by omega
      have h1n : n + 1 - n = 1 := by omega
      obtain ⟨va, hva⟩ : ∃ x, (shT undef vs k m).getD n undef = x := ⟨_, rfl⟩
      rw [hva] at a2'
      obtain ⟨y1, hy1⟩ : ∃ x, ((shT default r k m).getD n default).id = x := ⟨_, rfl⟩
      obtain ⟨y2, hy2⟩ : ∃ x, ((shT default r k m).getD n default).before = x := ⟨_, rfl⟩
      rw [hy1] at a0'
      rw [hy2] at a1'
      have HKN := Lib.hid hkn
      rw [hkn]
      clear hva hy1 hy2 hg hlt hlenS hlr hkn
      have hcl := clear_node wr g (n * 3) (cap - n) (fun j hj => by
        match j, hj with
        | 0, _ => rw [Nat.add_zero, a0']; rfl
        | 1, _ => rw [a1']; rfl
        | 2, _ => rw [a2']; rfl) bf
      clear a0' a1' a2' bf
      have hg3 := grow_set wr g (n * 3) (.int .i64 0)
      have hg4 := grow_trans (grow_trans (grow_trans HG.out hg3) (grow_set _ g (n * 3 + 1) (.int .i64 0))) (grow_set _ g (n * 3 + 2) (.slice none 0 0))
      have hO1 := ownsRow_cut (m := n) (ownsRow_set (ownsRow_set (ownsRow_set HO.out (n * 3) (.int .i64 0)) (n * 3 + 1) (.int .i64 0)) (n * 3 + 2) (.slice none 0 0)) (by omega)
      have HG4 := Lib.hid hg4
      have HO1 := Lib.hid hO1
      clear hg3 hg4 hO1
      go_wp2
      go_ret
      refine ⟨rfl, ?_, HG4.out⟩
      have hrl := HN.out
      have hvl := HVL.out
      have hel : (r.eraseIdx k).length = n := by rw [List.length_eraseIdx_of_lt (by omega)]; omega
      have hmk : m = n - k := by have := HKN.out; omega
      have hfl : ((((flatN (shT default r k m) (shT undef vs k m)).set (n * 3) (.int .i64 0)).set (n * 3 + 1) (.int .i64 0)).set (n * 3 + 2) (.slice none 0 0)).take (n * 3) = flatN (r.eraseIdx k) (vs.eraseIdx k) := by
        have e1 : ((((flatN (shT default r k m) (shT undef vs k m)).set (n * 3) (.int .i64 0)).set (n * 3 + 1) (.int .i64 0)).set (n * 3 + 2) (.slice none 0 0)).take (n * 3) = (flatN (shT default r k m) (shT undef vs k m)).take (n * 3) := by
          rw [List.take_set_of_le (by omega), List.take_set_of_le (by omega), List.take_set_of_le (by omega)]
        rw [e1, ← flatN_take _ _ n (by rw [shT_len, shT_len, hvl]), hmk, shT_end default r hrl (by omega), shT_end undef vs (by omega) (by omega)]
      have G : ∀ i, (vs.eraseIdx k).getD i undef = vs.getD (if i < k then i else i + 1) undef := fun i => by
        simp only [List.getD_eq_getElem?_getD, List.getElem?_eraseIdx]
        split <;> rfl
      have G2 : ∀ i, (r.eraseIdx k).getD i default = r.getD (if i < k then i else i + 1) default := fun i => by
        simp only [List.getD_eq_getElem?_getD, List.getElem?_eraseIdx]
        split <;> rfl
      rw [hfl] at HO1
      refine ⟨vs.eraseIdx k, by rw [List.length_eraseIdx_of_lt (by omega), hel]; omega, by rw [hel]; exact HO1.out, fun i hi => ?_, fun i j hij hj q hq => ?_⟩
      · rw [hel] at hi
        rw [G, G2]
        exact ownsRow_grow (HA.out _ (by split <;> omega)) HG4.out (HFAR.out _ (by split <;> omega))
      · rw [hel] at hj
        rw [G] at hq ⊢
        exact HD.out _ _ (by split <;> split <;> omega) (by split <;> omega) q hq

end Go.Proofs.Ytadplndoopkdgaa
