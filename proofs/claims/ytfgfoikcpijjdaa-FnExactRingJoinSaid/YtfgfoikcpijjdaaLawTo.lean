/-
  Contracts: arguments of the exact laws, copied.
-/
import Derived.Test.YtfgfoikcpijjdaaLawSz
import Derived.Test.YtfgfoikcpijjdaaCopy
namespace Go.Proofs.Ytfgfoikcpijjdaa
open Go.RowKit

/-- The cells of a made slice of integers. -/
def mk1 (n : Nat) : Array Value := madeCells (Value.int .i64 0).cells (n * 1)
theorem mk1_list (n : Nat) : (mk1 n).toList = (List.replicate n (0 : Int)).map (Value.int .i64) := by
  apply List.ext_getElem
  · simp [mk1, madeCells]
  · intro i h1 h2
    simp [mk1, madeCells, Value.cells, Nat.mod_one]
/-- The cells of a made slice of nodes. -/
def mk3 (n : Nat) : Array Value := madeCells (Value.agg #[.int .i64 0, .int .i64 0, .slice none 0 0]).cells (n * 3)
theorem mk3_list (n : Nat) : (mk3 n).toList = flatN (List.replicate n default) (List.replicate n (.slice none 0 0)) := by
  have hfl := flatN_length (List.replicate n default) (List.replicate n (.slice none 0 0)) (by simp)
  apply List.ext_getElem
  · rw [hfl]; simp [mk3, madeCells]
  · intro i h1 h2
    have hi : i < n * 3 := by simpa [mk3, madeCells] using h1
    obtain ⟨f1, f2, f3⟩ := flatN_get (List.replicate n default) (List.replicate n (.slice none 0 0)) (by simp) (i / 3) (by simp; omega)
    have e : i = i / 3 * 3 ∨ i = i / 3 * 3 + 1 ∨ i = i / 3 * 3 + 2 := by omega
    have hg : (mk3 n).toList[i] = #[Value.int .i64 0, .int .i64 0, .slice none 0 0][i % 3]! := by simp [mk3, madeCells, Value.cells]
    rw [hg]
    rcases e with e | e | e
    · have e3 : i % 3 = 0 := by omega
      rw [e3]
      have := f1
      rw [← e, List.getElem?_eq_getElem h2] at this
      simp only [Option.some.injEq] at this
      rw [this]
      simp [show i / 3 < n by omega]
      rfl
    · have e3 : i % 3 = 1 := by omega
      rw [e3]
      have := f2
      rw [← e, List.getElem?_eq_getElem h2] at this
      simp only [Option.some.injEq] at this
      rw [this]
      simp [show i / 3 < n by omega]
      rfl
    · have e3 : i % 3 = 2 := by omega
      rw [e3]
      have := f3
      rw [← e, List.getElem?_eq_getElem h2] at this
      simp only [Option.some.injEq] at this
      rw [this]
      simp [show i / 3 < n by omega]

theorem own_made {w : World} {e : TypeId} {n size : Nat} {cells : Array Value} {xs : List Value} (hx : cells.toList = xs) (hl : xs.length = n * size) (hm : n ≤ maxLen) :
    (w.alloc (.cells cells e)).ownsRow w.heap.size e size (.slice (some ⟨w.heap.size, 0, none⟩) n n) n xs := by
  have hs : cells.size = n * size := by rw [← Array.length_toList, hx, hl]
  exact ⟨hl, .inr ⟨w.heap.size, n, cells, rfl, Nat.le_refl _, heap_alloc_new w _, Nat.le_refl _, hm, hs, by rw [hx]; exact List.take_of_length_le (by rw [hl]; exact Nat.le_refl _)⟩⟩

theorem take_set_repl {xs : List Int} {k n : Nat} (hn : xs.length = n) (hk : k < n) :
    (xs.take k ++ List.replicate (n - k) 0).set k (xs.getD k 0) = xs.take (k + 1) ++ List.replicate (n - (k + 1)) 0 := by
  subst hn
  rw [List.take_succ_eq_append_getElem hk, List.set_append_right _ _ (by simp; omega)]
  have e : k - (xs.take k).length = 0 := by simp; omega
  rw [e, show xs.length - k = (xs.length - (k + 1)) + 1 by omega, List.replicate_succ, List.set_cons_zero, List.append_assoc]
  simp [hk]

theorem ownsRow_at {w : World} {B size n g cap : Nat} {e : TypeId} {xs : List Value} (h : w.ownsRow B e size (.slice (some ⟨g, 0, none⟩) n cap) n xs) {j : Nat} (hj : j < xs.length) :
    ∃ old, w.cell? ⟨g, j, none⟩ = some old ∧ w.frozen? ⟨g, j, none⟩ = false ∧ g < w.heap.size := by
  obtain ⟨g', c', e1, -, -, -, hg, hc, hf⟩ := ownsRow_cell h (List.getElem?_eq_getElem hj)
  cases e1
  exact ⟨_, hc, hf, hg⟩

set_option maxHeartbeats 1000000 in
theorem toIntS_any (v : Value) (xs : List Int) (w : World) (hv : IntsAt w v xs) (hl : xs.length ≤ 1048576) :
    Calls Try.prog 78 #[v] w fun e w' => ∃ u, e = .returned u ∧ w'.ownsRow w.heap.size 3 1 u xs.length (xs.map (Value.int .i64)) ∧ Below w.heap.size w w' := by
  obtain ⟨p, cap, rfl, hc, hm, h4⟩ := hv
  unfold maxLen at hm
  obtain ⟨i0, hi, hz0, hz1, hz2⟩ := info_parts Try.infoInt
  have hmk : ∀ w : World, (Instr.makeSlice 36 (.int .i64 (xs.length : Int)) (.int .i64 (xs.length : Int))).run Try.prog w = .ok (.slice (some ⟨w.heap.size, 0, none⟩) xs.length xs.length) (w.alloc (.cells (mk1 xs.length) 3)) := fun w => by
    have := run_make (P := Try.prog) w 36 3 i0 _ Try.underlying36 hi hz0 .i64 .i64 (xs.length : Int) (xs.length : Int) (by omega) (Int.le_refl _) (by rw [hz2]; omega) (by omega)
    rw [hz1] at this
    simpa [mk1] using this
  have ho0 : ∀ w : World, (w.alloc (.cells (mk1 xs.length) 3)).ownsRow w.heap.size 3 1 (.slice (some ⟨w.heap.size, 0, none⟩) xs.length xs.length) xs.length ((List.replicate xs.length (0 : Int)).map (Value.int .i64)) :=
    fun w => own_made (mk1_list _) (by simp) (by unfold maxLen; omega)
  have HO0 := Lib.hid (ho0 w)
  clear ho0 hz0 hz1 hz2 hi i0
  have hB0 := (Below.refl w.heap.size w).alloc (Nat.le_refl _) (.cells (mk1 xs.length) 3)
  go_enter Try.func78, Try.ntmps78
  go_wp2
  clear hmk
  go_loopw [4] (fun s wr => ∃ k : Nat, k ≤ xs.length ∧ s = .int .i64 k ∧ wr.ownsRow w.heap.size 3 1 (.slice (some ⟨w.heap.size, 0, none⟩) xs.length xs.length) xs.length ((xs.take k ++ List.replicate (xs.length - k) 0).map (Value.int .i64)) ∧ Below w.heap.size w wr) (fun s _ => xs.length - (intOf s).toNat)
  case atStart => exact ⟨0, Nat.zero_le _, rfl, by simpa using HO0.out, hB0⟩
  case round =>
    obtain ⟨k, hk, rfl, hown, hbel⟩ := hrel
    by_cases hlt : k < xs.length
    · rcases h4 with ⟨rfl, -⟩ | ⟨b, o, rfl, hb, hcell⟩
      · simp at hlt
      have h1 := (hbel.cell (p := ⟨b, o + k, none⟩) hb).trans (hcell k hlt)
      have hst := take_set_repl rfl hlt
      obtain ⟨n, hn⟩ : ∃ x, xs.getD k 0 = x := ⟨_, rfl⟩
      rw [hn] at h1 hst
      have HS := Lib.hid hst
      obtain ⟨old, hc2, hf2, hg⟩ := ownsRow_at hown (j := k) (by simp; omega)
      have HOW := Lib.hid hown
      clear hcell hn hst hown
      go_wp2
      go_roundw
      case rel =>
        refine ⟨k + 1, by omega, by go_num, ?_, hbel.setCell (by simp) _⟩
        rw [← HS.out, List.map_set]
        exact ownsRow_set HOW.out k (.int .i64 n)
      case measure => simp [intOf]; omega
    · obtain rfl : k = xs.length := by omega
      have hown' : wr.ownsRow w.heap.size 3 1 (.slice (some ⟨w.heap.size, 0, none⟩) xs.length xs.length) xs.length (xs.map (Value.int .i64)) := by simpa using hown
      have HH := Lib.hid hown'
      clear hown hown'
      go_wp2
      go_ret
      exact ⟨_, rfl, HH.out, hbel⟩

theorem own_slice {w : World} {B n : Nat} {e : TypeId} {size : Nat} {u : Value} {xs : List Value} (h : w.ownsRow B e size u n xs) : ∃ p c, u = .slice p n c := by
  rcases h.2 with ⟨rfl, h0⟩ | ⟨g, cap, cur, rfl, -⟩
  · exact ⟨none, 0, by rw [h0]⟩
  · exact ⟨_, cap, rfl⟩

/-- A box of three cells, laid before (block number N). -/
theorem boxN {w w1 : World} {c0 c1 c2 : Value} {t : TypeId} {N : Nat} (hN : N = w.heap.size) (h : Below (N + 1) (w.alloc (.cells #[c0, c1, c2] t)) w1) :
    w1.cell? ⟨N, 0, none⟩ = some c0 ∧ w1.cell? ⟨N, 1, none⟩ = some c1 ∧ w1.cell? ⟨N, 2, none⟩ = some c2 ∧ (∀ j, w1.frozen? ⟨N, j, none⟩ = false) ∧ N < w1.heap.size := by
  subst hN
  have hbox : w1.heap[w.heap.size]? = some (.cells #[c0, c1, c2] t) := by rw [h.block _ (by omega)]; exact heap_alloc_new w _
  refine ⟨by simp [World.cell?, hbox], by simp [World.cell?, hbox], by simp [World.cell?, hbox], fun j => by simp [World.frozen?, hbox], ?_⟩
  have := h.size
  simp at this
  omega

set_option maxHeartbeats 1000000 in
theorem toNode_any (n : Nd) (va : Value) (w : World) (ha : IntsAt w va n.after) (hl : n.after.length ≤ 1048576) :
    Calls Try.prog 41 #[.agg #[.int .i64 n.id, .int .i64 n.before, va]] w fun e w' => ∃ u, e = .returned (.agg #[.int .i64 n.id, .int .i64 n.before, u]) ∧ w'.ownsRow w.heap.size 3 1 u n.after.length (n.after.map (Value.int .i64)) ∧ Below w.heap.size w w' := by
  have HA := Lib.hid ha
  obtain ⟨pa, capa, rfl, -, -, -⟩ := ha
  have hB1 := (Below.refl w.heap.size w).alloc (Nat.le_refl _) (.cells #[.int .i64 n.id, .int .i64 n.before, .slice pa n.after.length capa] 38)
  have hB2 := hB1.alloc (by simp) (.cells #[.int .i64 0, .int .i64 0, .slice none 0 0] 41)
  have hB3 := hB2.alloc (by simp; omega) (.cells #[.int .i64 n.id, .int .i64 n.before, .slice none 0 0] 41)
  go_enter Try.func41, Try.ntmps41
  go_wp2_with (go_at_call 78; refine (toIntS_any _ n.after _ (by exact HA.out.below hB3 (Nat.le_refl _)) hl).mono ?_; rintro e w1 ⟨u, rfl, hown, hb1⟩; obtain ⟨p1, c1, rfl⟩ := own_slice hown; obtain ⟨b0, b1, b2, b3, b4⟩ := boxN (N := w.heap.size + 1 + 1) (by simp) (hb1.mono (by simp)); obtain ⟨d0, d1, d2, d3, d4⟩ := boxN (N := w.heap.size + 1) (by simp) (((Below.refl (w.heap.size + 1 + 1) _).alloc (by simp) _).trans (hb1.mono (by simp))))
  have hown2 := ownsRow_setCell_below (a := ⟨w.heap.size + 1, 2, none⟩) (ownsRow_setCell_below (a := ⟨w.heap.size + 1, 1, none⟩) (ownsRow_setCell_below (a := ⟨w.heap.size + 1, 0, none⟩) (ownsRow_setCell_below (a := ⟨w.heap.size + 1 + 1, 2, none⟩) hown (by simp) (.slice p1 n.after.length c1)) (by simp <;> omega) (.int .i64 n.id)) (by simp <;> omega) (.int .i64 n.before)) (by simp <;> omega) (.slice p1 n.after.length c1)
  have hBf := (((((hB3.trans (hb1.mono hB3.size)).setCell (p := ⟨w.heap.size + 1 + 1, 2, none⟩) (by simp; omega) (.slice p1 n.after.length c1)).setCell (p := ⟨w.heap.size + 1, 0, none⟩) (by simp) (.int .i64 n.id)).setCell (p := ⟨w.heap.size + 1, 1, none⟩) (by simp) (.int .i64 n.before)).setCell (p := ⟨w.heap.size + 1, 2, none⟩) (by simp) (.slice p1 n.after.length c1))
  refine bodyPost_ret (v := .agg #[.int .i64 n.id, .int .i64 n.before, .slice p1 n.after.length c1]) ?_ rfl ⟨_, rfl, ownsRow_mono hown2 (by simp; omega), hBf⟩
  simp [results, Try.results41, go_sem, d0, d1, d2]

theorem ringOwn_made (w : World) (n : Nat) (hn : n ≤ maxLen) : RingOwn (w.alloc (.cells (mk3 n) 41)) w.heap.size (.slice (some ⟨w.heap.size, 0, none⟩) n n) (List.replicate n default) := by
  refine ⟨List.replicate n (.slice none 0 0), by simp, ?_, fun i hi => ?_, fun i j hij hj q hq => ?_⟩
  · have := own_made (w := w) (e := 41) (n := n) (size := 3) (mk3_list n) (by rw [flatN_length _ _ (by simp)]; simp) hn
    simpa using this
  · simp at hi
    have e1 : (List.replicate n (Value.slice none 0 0)).getD i undef = .slice none 0 0 := by simp [hi]
    have e2 : (List.replicate n (default : Nd)).getD i default = default := by simp [hi]
    rw [e1, e2]
    exact World.ownsRow_nil _ _ _ _
  · simp at hj
    have e1 : (List.replicate n (Value.slice none 0 0)).getD i undef = .slice none 0 0 := by simp [show i < n by omega]
    rw [e1] at hq
    cases hq

theorem take_set_repl_nd {r : List Nd} {k n : Nat} (hn : r.length = n) (hk : k < n) :
    (r.take k ++ List.replicate (n - k) default).set k (r.getD k default) = r.take (k + 1) ++ List.replicate (n - (k + 1)) default := by
  subst hn
  rw [List.take_succ_eq_append_getElem hk, List.set_append_right _ _ (by simp; omega)]
  have e : k - (r.take k).length = 0 := by simp; omega
  rw [e, show r.length - k = (r.length - (k + 1)) + 1 by omega, List.replicate_succ, List.set_cons_zero, List.append_assoc]
  simp [hk]

set_option maxHeartbeats 1000000 in
theorem toNodeS_any (v : Value) (r : List Nd) (w : World) (hv : RingAt w v r) (hl : r.length ≤ 1048576) (hl2 : ∀ j, j < r.length → (r.getD j default).after.length ≤ 1048576) :
    Calls Try.prog 14 #[v] w fun e w' => ∃ u, e = .returned u ∧ RingOwn w' w.heap.size u r ∧ Below w.heap.size w w' := by
  obtain ⟨p, cap, rfl, hc, hm, h4⟩ := hv
  unfold maxLen at hm
  have HL2 := Lib.hid hl2
  clear hl2
  obtain ⟨n0, ni, nz0, nz1, nz2⟩ := info_parts Try.infoNode
  have hmk : ∀ w : World, (Instr.makeSlice 24 (.int .i64 (r.length : Int)) (.int .i64 (r.length : Int))).run Try.prog w = .ok (.slice (some ⟨w.heap.size, 0, none⟩) r.length r.length) (w.alloc (.cells (mk3 r.length) 41)) := fun w => by
    have := run_make (P := Try.prog) w 24 41 n0 _ Try.underlying24 ni nz0 .i64 .i64 (r.length : Int) (r.length : Int) (by omega) (Int.le_refl _) (by rw [nz2]; omega) (by omega)
    rw [nz1] at this
    simpa [mk3] using this
  have HO0 := Lib.hid (ringOwn_made w r.length (by unfold maxLen; omega))
  clear nz0 nz1 nz2 ni n0
  have hB0 := (Below.refl w.heap.size w).alloc (Nat.le_refl _) (.cells (mk3 r.length) 41)
  go_enter Try.func14, Try.ntmps14
  go_wp2
  clear hmk
  go_loopw [4] (fun s wr => ∃ k : Nat, k ≤ r.length ∧ s = .int .i64 k ∧ RingOwn wr w.heap.size (.slice (some ⟨w.heap.size, 0, none⟩) r.length r.length) (r.take k ++ List.replicate (r.length - k) default) ∧ Below w.heap.size w wr) (fun s _ => r.length - (intOf s).toNat)
  case atStart => exact ⟨0, Nat.zero_le _, rfl, by simpa using HO0.out, hB0⟩
  case round =>
    obtain ⟨k, hk, rfl, hown, hbel⟩ := hrel
    by_cases hlt : k < r.length
    · rcases h4 with ⟨rfl, -⟩ | ⟨b, o, rfl, hb, hcell⟩
      · simp at hlt
      obtain ⟨h1, h2, va, h3, hia⟩ := (hcell k hlt).below hb hbel (Nat.le_refl _)
      have hst := take_set_repl_nd rfl hlt
      have hal := HL2.out k hlt
      obtain ⟨n, hn⟩ : ∃ x, r.getD k default = x := ⟨_, rfl⟩
      rw [hn] at h1 h2 hia hst hal
      have HI := Lib.hid hia
      obtain ⟨pa, capa, rfl, -, -, -⟩ := hia
      obtain ⟨X, hX⟩ : ∃ X, r.take k ++ List.replicate (r.length - k) default = X := ⟨_, rfl⟩
      have hXl : X.length = r.length := by rw [← hX]; simp; omega
      rw [hX] at hst hown
      have hown' : RingOwn wr w.heap.size (.slice (some ⟨w.heap.size, 0, none⟩) X.length r.length) X := by rw [hXl]; exact hown
      obtain ⟨vq, q0, q1, q2, q3, q4, -⟩ := hown'.cells (k := k) (by omega)
      have HS := Lib.hid hst
      have HOW := Lib.hid hown'
      have HXL := Lib.hid hXl
      have hsz : w.heap.size ≤ wr.heap.size := hbel.size
      clear hcell hn hst hown hown' hX hXl
      go_wp2_with (go_at_call 41; refine (toNode_any n _ _ HI.out hal).mono ?_; rintro e w1 ⟨u, rfl, hown1, hb1⟩; obtain ⟨p1, c1, rfl⟩ := own_slice hown1; have x0 := (hb1.cell (p := ⟨w.heap.size, k * 3, none⟩) q4).trans q0; have x1 := (hb1.cell (p := ⟨w.heap.size, k * 3 + 1, none⟩) q4).trans q1; have x2 := (hb1.cell (p := ⟨w.heap.size, k * 3 + 2, none⟩) q4).trans q2; have x3 : ∀ j, w1.frozen? ⟨w.heap.size, j, none⟩ = false := fun j => (hb1.frozen (p := ⟨w.heap.size, j, none⟩) q4).trans (q3 j))
      go_roundw
      case rel =>
        have hfin := RingOwn.set (n := n) (k := k) HOW.out (by rw [HXL.out]; exact hlt) (Keeps.of_below hb1 (Nat.le_refl _)) (Nat.le_refl _) hsz hown1
        rw [HS.out, List.length_append, List.length_take, List.length_replicate] at hfin
        rw [show min (k + 1) r.length + (r.length - (k + 1)) = r.length by omega] at hfin
        exact ⟨k + 1, by omega, by go_num, hfin, ((((hbel.trans (hb1.mono hsz)).setCell (by simp) _).setCell (by simp) _).setCell (by simp) _)⟩
      case measure => simp [intOf]; omega
    · obtain rfl : k = r.length := by omega
      have hown' : RingOwn wr w.heap.size (.slice (some ⟨w.heap.size, 0, none⟩) r.length r.length) r := by simpa using hown
      have HH := Lib.hid hown'
      clear hown hown'
      go_wp2
      go_ret
      exact ⟨_, rfl, HH.out, hbel⟩

end Go.Proofs.Ytfgfoikcpijjdaa
