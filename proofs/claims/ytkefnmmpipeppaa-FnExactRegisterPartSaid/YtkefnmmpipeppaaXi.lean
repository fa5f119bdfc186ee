/-
  Contracts: copies, equality and marks of lists of integers, in the exact laws.
-/
import Derived.Test.YtkefnmmpipeppaaSy
import Derived.Test.YtkefnmmpipeppaaDri
namespace Go.Proofs.Ytkefnmmpipeppaa
open Go.RowKit

/-- The cells of a made slice of integers. -/
def mk1 (n : Nat) : Array Value := madeCells (Value.int .i64 0).cells (n * 1)

theorem mk1_list (n : Nat) : (mk1 n).toList = (List.replicate n (0 : Int)).map (Value.int .i64) := by
  apply List.ext_getElem
  · simp [mk1, madeCells]
  · intro i h1 h2
    simp [mk1, madeCells, Value.cells, Nat.mod_one]

theorem own_made {w : World} {e : TypeId} {n size : Nat} {cells : Array Value} {xs : List Value} (hx : cells.toList = xs) (hl : xs.length = n * size) (hm : n ≤ maxLen) :
    (w.alloc (.cells cells e)).ownsRow w.heap.size e size (.slice (some ⟨w.heap.size, 0, none⟩) n n) n xs := by
  have hs : cells.size = n * size := by rw [← Array.length_toList, hx, hl]
  exact ⟨hl, .inr ⟨w.heap.size, n, cells, rfl, Nat.le_refl _, heap_alloc_new w _, Nat.le_refl _, hm, hs, by rw [hx]; exact List.take_of_length_le (by rw [hl]; exact Nat.le_refl _)⟩⟩

theorem take_set_repl {xs : List Int} {k n : Nat} (hn : xs.length = n) (hk : k < n) :
    (xs.take k ++ List.replicate (n - k) 0).set k (xs.getD k 0) = xs.take (k + 1) ++ List.replicate (n - (k + 1)) 0 := by
  subst hn
  rw [List.take_succ_eq_append_getElem hk, List.set_append_right _ _ (by simp; omega)]
  have e : k - (xs.take k).length = 0 := by simp; omega
  rw [e, show xs.length - k = (xs.length - (k + 1)) + 1 by omega, List.replicate_succ, List.set_cons_zero, List.append_assoc]
  simp [hk]

theorem ownsRow_at {w : World} {B size n g cap : Nat} {e : TypeId} {xs : List Value} (h : w.ownsRow B e size (.slice (some ⟨g, 0, none⟩) n cap) n xs) {j : Nat} (hj : j < xs.length) :
    ∃ old, w.cell? ⟨g, j, none⟩ = some old ∧ w.frozen? ⟨g, j, none⟩ = false ∧ g < w.heap.size := by
  obtain ⟨g', c', e1, -, -, -, hg, hc, hf⟩ := ownsRow_cell h (List.getElem?_eq_getElem hj)
  cases e1
  exact ⟨_, hc, hf, hg⟩

set_option maxHeartbeats 1000000 in
theorem toIntS_any (v : Value) (xs : List Int) (w : World) (hv : IntsAt w v xs) (hl : xs.length ≤ 1048576) :
    Calls Try.prog 19 #[v] w fun e w' => ∃ u, e = .returned u ∧ w'.ownsRow w.heap.size 3 1 u xs.length (xs.map (Value.int .i64)) ∧ Below w.heap.size w w' := by
  obtain ⟨p, cap, rfl, hc, hm, h4⟩ := hv
  unfold maxLen at hm
  obtain ⟨i0, hi, hz0, hz1, hz2⟩ := info_parts Try.infoInt
  have hmk : ∀ w : World, (Instr.makeSlice 24 (.int .i64 (xs.length : Int)) (.int .i64 (xs.length : Int))).run Try.prog w = .ok (.slice (some ⟨w.heap.size, 0, none⟩) xs.length xs.length) (w.alloc (.cells (mk1 xs.length) 3)) := fun w => by
    have := run_make (P := Try.prog) w 24 3 i0 _ Try.underlying24 hi hz0 .i64 .i64 (xs.length : Int) (xs.length : Int) (by omega) (Int.le_refl _) (by rw [hz2]; omega) (by omega)
    rw [hz1] at this
    simpa [mk1] using this
  have ho0 : ∀ w : World, (w.alloc (.cells (mk1 xs.length) 3)).ownsRow w.heap.size 3 1 (.slice (some ⟨w.heap.size, 0, none⟩) xs.length xs.length) xs.length ((List.replicate xs.length (0 : Int)).map (Value.int .i64)) :=
    fun w => own_made (mk1_list _) (by simp) (by unfold maxLen; omega)
  have HO0 := Lib.hid (ho0 w)
  clear ho0 hz0 hz1 hz2 hi i0
  have hB0 := (Below.refl w.heap.size w).alloc (Nat.le_refl _) (.cells (mk1 xs.length) 3)
  go_enter Try.func19, Try.ntmps19
  go_wp2
  clear hmk
  go_loopw [4] (fun s wr => ∃ k : Nat, k ≤ xs.length ∧ s = .int .i64 k ∧ wr.ownsRow w.heap.size 3 1 (.slice (some ⟨w.heap.size, 0, none⟩) xs.length xs.length) xs.length ((xs.take k ++ List.replicate (xs.length - k) 0).map (Value.int .i64)) ∧ Below w.heap.size w wr) (fun s _ => xs.length - (intOf s).toNat)
  case atStart => exact ⟨0, Nat.zero_le _, rfl, by simpa using HO0.out, hB0⟩
  case round =>
    obtain ⟨k, hk, rfl, hown, hbel⟩ := hrel
    by_cases hlt : k < xs.length
    · rcases h4 with ⟨rfl, -⟩ | ⟨b, o, rfl, hb, hcell⟩
      · simp at hlt
      have h1 := (hbel.cell (p := ⟨b, o + k, none⟩) hb).trans (hcell k hlt)
      have hst := take_set_repl rfl hlt
      obtain ⟨n, hn⟩ : ∃ x, xs.getD k 0 = x := ⟨_, rfl⟩
      rw [hn] at h1 hst
      have HS := Lib.hid hst
      obtain ⟨old, hc2, hf2, hg⟩ := ownsRow_at hown (j := k) (by simp; omega)
      have HOW := Lib.hid hown
      clear hcell hn hst hown
      go_wp2
      go_roundw
      case rel =>
        refine ⟨k + 1, by omega, by go_num, ?_, hbel.setCell (by simp) _⟩
        rw [← HS.out, List.map_set]
        exact ownsRow_set HOW.out k (.int .i64 n)
      case measure => simp [intOf]; omega
    · obtain rfl : k = xs.length := by omega
      have hown' : wr.ownsRow w.heap.size 3 1 (.slice (some ⟨w.heap.size, 0, none⟩) xs.length xs.length) xs.length (xs.map (Value.int .i64)) := by simpa using hown
      have HH := Lib.hid hown'
      clear hown hown'
      go_wp2
      go_ret
      exact ⟨_, rfl, HH.out, hbel⟩

theorem own_slice {w : World} {B n : Nat} {e : TypeId} {size : Nat} {u : Value} {xs : List Value} (h : w.ownsRow B e size u n xs) : ∃ p c, u = .slice p n c := by
  rcases h.2 with ⟨rfl, h0⟩ | ⟨g, cap, cur, rfl, -⟩
  · exact ⟨none, 0, by rw [h0]⟩
  · exact ⟨_, cap, rfl⟩

/-- Equal so far. -/
theorem list_ne {xs ys : List Int} {k : Nat} (h : xs.getD k 0 ≠ ys.getD k 0) : xs ≠ ys := fun e => h (by rw [e])

theorem list_eq {xs ys : List Int} (hl : xs.length = ys.length) (h : ∀ j, j < xs.length → xs.getD j 0 = ys.getD j 0) : xs = ys := by
  apply List.ext_getElem hl
  intro i h1 h2
  have := h i h1
  simpa [h1, h2] using this

set_option maxHeartbeats 1000000 in
theorem eqIntS_any (v u : Value) (xs ys : List Int) (w : World) (hv : IntsAt w v xs) (hu : IntsAt w u ys) :
    Calls Try.prog 22 #[v, u] w fun e w' => e = .returned (.bool (decide (xs = ys))) ∧ Below w.heap.size w w' := by
  obtain ⟨p, cap, rfl, hc, hm, h4⟩ := hv
  obtain ⟨p', cap', rfl, hc', hm', h4'⟩ := hu
  unfold maxLen at hm hm'
  by_cases hl : xs.length = ys.length
  · have HL := Lib.hid hl
    have hne : ((xs.length : Int) != ys.length) = false := by simp [hl]
    clear hl
    go_enter Try.func22, Try.ntmps22
    go_wp2
    go_loopw [4, 5] (fun _ s wr => ∃ k : Nat, k ≤ xs.length ∧ s = .int .i64 k ∧ Hid (∀ j, j < k → xs.getD j 0 = ys.getD j 0) ∧ ∃ n, wr = w.drewN n) (fun _ s _ => xs.length - (intOf s).toNat)
    case atStart => exact ⟨0, Nat.zero_le _, rfl, Lib.hid fun j hj => by omega, 0, rfl⟩
    case round =>
      obtain ⟨k, hk, rfl, HA, nd, rfl⟩ := hrel
      by_cases hlt : k < xs.length
      · rcases h4 with ⟨rfl, -⟩ | ⟨b, o, rfl, hb, hcell⟩
        · simp at hlt
        rcases h4' with ⟨rfl, -⟩ | ⟨b', o', rfl, hb', hcell'⟩
        · have := HL.out; simp at this; simp [this] at hlt
        have hlt' : k < ys.length := by have := HL.out; omega
        have h1 := hcell k hlt
        have h1' := hcell' k hlt'
        obtain ⟨x, hx⟩ : ∃ y, xs.getD k 0 = y := ⟨_, rfl⟩
        obtain ⟨y, hy⟩ : ∃ z, ys.getD k 0 = z := ⟨_, rfl⟩
        rw [hx] at h1
        rw [hy] at h1'
        have HX := Lib.hid hx
        have HY := Lib.hid hy
        have i0 : (0 : Int) ≤ (k : Int) := by omega
        have i1 : (k : Int) < (xs.length : Int) := by omega
        have i2 : (k : Int) < (ys.length : Int) := by omega
        clear hcell hcell' hx hy
        cases hxy : (x != y)
        · go_wp2_with fail
          go_quiet (fail)
          go_wp2
          go_roundw
          case rel =>
            refine ⟨k + 1, by omega, by go_num, Lib.hid fun j hj => ?_, _, rfl⟩
            by_cases e : j = k
            · subst e; rw [HX.out, HY.out]; simpa using hxy
            · exact HA.out j (by omega)
          case measure => simp [intOf]; omega
        · go_wp2_with fail
          go_quiet (fail)
          go_wp2
          go_ret
          exact ⟨ret_bool (by rw [eq_comm, decide_eq_false_iff_not]; exact list_ne (k := k) (by rw [HX.out, HY.out]; simpa using hxy)), below_drewN (below_drewN (Below.refl _ _) _) _⟩
      · obtain rfl : k = xs.length := by omega
        go_wp2
        go_ret
        exact ⟨ret_bool (by rw [eq_comm, decide_eq_true_eq]; exact list_eq HL.out HA.out), below_drewN (Below.refl _ _) _⟩
  · have hne : ((xs.length : Int) != ys.length) = true := by simp; omega
    have HL := Lib.hid (show xs ≠ ys from fun e => hl (by rw [e]))
    clear hl
    go_enter Try.func22, Try.ntmps22
    go_wp2
    go_ret
    exact ⟨ret_bool (by rw [eq_comm, decide_eq_false_iff_not]; exact HL.out), Below.refl _ _⟩

/-- n marks from k on. -/
def marks (k : Int) (n : Nat) : List Int := (List.range n).map fun i : Nat => k + (i : Int)

theorem marks_length (k : Int) (n : Nat) : (marks k n).length = n := by simp [marks]
theorem marks_get {k : Int} {n j : Nat} (h : j < n) : (marks k n).getD j 0 = k + j := by simp [marks, h]
theorem marks_set {xs : List Int} {k : Int} {i : Nat} (h : i < xs.length) : (marks k i ++ xs.drop i).set i (k + i) = marks k (i + 1) ++ xs.drop (i + 1) := by
  rw [List.set_append_right _ _ (by rw [marks_length]; omega), marks_length, Nat.sub_self, List.drop_eq_getElem_cons h, List.set_cons_zero]
  simp [marks, List.range_succ]

set_option maxHeartbeats 1000000 in
theorem markIntS_any (p : Option Addr) (c : Nat) (xs : List Int) (k0 : Int) (B : Nat) (w : World) (hv : w.ownsRow B 3 1 (.slice p xs.length c) xs.length (xs.map (Value.int .i64))) (h0 : 0 ≤ k0) (h1 : k0 + xs.length ≤ 1000000000000000) :
    Calls Try.prog 24 #[.slice p xs.length c, .int .i64 k0] w fun e w' => e = .returned (.int .i64 (k0 + xs.length)) ∧ w'.ownsRow B 3 1 (.slice p xs.length c) xs.length ((marks k0 xs.length).map (Value.int .i64)) ∧ w.grownBy w' (Value.slice p xs.length c).ownBlock := by
  rcases hv.2 with ⟨e0, hn⟩ | ⟨g, cap, cur, e0, hBg, hgh, hcap, hcm, -⟩
  · have : xs = [] := List.length_eq_zero_iff.1 hn
    subst this
    simp at e0
    obtain ⟨rfl, rfl⟩ := e0
    go_enter Try.func24, Try.ntmps24
    go_wp2
    refine wp_loop_rounds 1 ?_
    rw [rounds_succ]
    go_wp2
    go_ret
    exact ⟨by simp, by simpa [marks] using hv, ⟨rfl, rfl, rfl, Nat.le_refl _, fun _ _ _ => rfl⟩⟩
  · cases e0
    unfold maxLen at hcm
    have HV := Lib.hid hv
    clear hv hgh
    go_enter Try.func24, Try.ntmps24
    go_wp2
    go_loopw [1, 5] (fun s1 s5 wr => ∃ i : Nat, i ≤ xs.length ∧ s5 = .int .i64 i ∧ s1 = .int .i64 (k0 + i) ∧ wr.ownsRow B 3 1 (.slice (some ⟨g, 0, none⟩) xs.length c) xs.length ((marks k0 i ++ xs.drop i).map (Value.int .i64)) ∧ w.grownBy wr (some g)) (fun _ s _ => xs.length - (intOf s).toNat)
    case atStart => exact ⟨0, Nat.zero_le _, rfl, by simp, by simpa [marks] using HV.out, ⟨rfl, rfl, rfl, Nat.le_refl _, fun _ _ _ => rfl⟩⟩
    case round =>
      obtain ⟨i, hi, rfl, rfl, hown, hgr⟩ := hrel
      by_cases hlt : i < xs.length
      · obtain ⟨old, hc2, hf2, hg⟩ := ownsRow_at hown (j := i) (by simp [marks_length]; omega)
        have HOW := Lib.hid hown
        clear hown
        go_wp2
        go_roundw
        case rel =>
          refine ⟨i + 1, by omega, by go_num, by go_num, ?_, ⟨hgr.os, hgr.tape, hgr.output, by have := hgr.size; simp [World.setCell]; omega, fun q hq hne => ?_⟩⟩
          · rw [← marks_set hlt, List.map_set]
            exact ownsRow_set HOW.out i (.int .i64 (k0 + i))
          · rw [Below.heap_setCell _ _ _ _ (fun e => hne (by rw [e]))]
            exact hgr.block q hq hne
        case measure => simp [intOf]; omega
      · obtain rfl : i = xs.length := by omega
        have hown' : wr.ownsRow B 3 1 (.slice (some ⟨g, 0, none⟩) xs.length c) xs.length ((marks k0 xs.length).map (Value.int .i64)) := by simpa using hown
        have HH := Lib.hid hown'
        clear hown hown'
        go_wp2
        go_ret
        exact ⟨rfl, HH.out, hgr⟩

theorem Keeps.grown {C : Nat} {w a b : World} {row : Option Nat} (h : Keeps C w a) (hg : a.grownBy b row) (hr : ∀ q, row = some q → q < C) : Keeps C w b :=
  ⟨Nat.le_trans h.1 hg.size, fun q hq hl => (hg.block q (Nat.lt_of_lt_of_le hl h.1) (fun e => by have := hr q e.symm; omega)).trans (h.2 q hq hl)⟩

end Go.Proofs.Ytkefnmmpipeppaa
