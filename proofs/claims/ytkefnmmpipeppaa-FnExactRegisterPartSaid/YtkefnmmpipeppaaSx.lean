/-
  Contracts: sizes, copies, equality of replicas, in the exact laws.
-/
import Derived.Test.YtkefnmmpipeppaaSd
namespace Go.Proofs.Ytkefnmmpipeppaa
open Go.RowKit

set_option maxHeartbeats 400000 in
theorem szReplicaS_any (v : Value) (xs : List Tr) (w : World) (hv : TrsAt w v xs) :
    Calls Try.prog 17 #[v, .int .i64 1048576] w fun e w' => (∃ s, e = .returned (.int .i64 s) ∧ (s < 0 ∨ xs.length ≤ 1048576)) ∧ w = w' := by
  obtain ⟨p, cap, rfl, hc, hm⟩ := hv.form
  by_cases h : 1048576 < xs.length
  · have h' : (1048576 : Int) < xs.length := by omega
    go_enter Try.func17, Try.ntmps17
    go_wp2
    go_ret
    exact ⟨⟨_, rfl, .inl (by decide)⟩, rfl⟩
  · have h' : (xs.length : Int) ≤ 1048576 := by omega
    go_enter Try.func17, Try.ntmps17
    go_wp2
    go_ret
    exact ⟨⟨_, rfl, .inr (by omega)⟩, rfl⟩

/-- The cells of a made slice of structs. -/
def mkT (n : Nat) : Array Value := madeCells (Value.agg #[.int .i64 0, .int .i64 0, .int .i64 0]).cells (n * 3)
theorem mkT_list (n : Nat) : (mkT n).toList = flatT (List.replicate n default) := by
  have hfl := flatT_length (List.replicate n default)
  apply List.ext_getElem
  · rw [hfl]; simp [mkT, madeCells]
  · intro i h1 h2
    have hi : i < n * 3 := by simpa [mkT, madeCells] using h1
    obtain ⟨f1, f2, f3⟩ := flatT_get (List.replicate n default) (i / 3) (by simp; omega)
    have e : i = i / 3 * 3 ∨ i = i / 3 * 3 + 1 ∨ i = i / 3 * 3 + 2 := by omega
    have hg : (mkT n).toList[i] = #[Value.int .i64 0, .int .i64 0, .int .i64 0][i % 3]! := by simp [mkT, madeCells, Value.cells]
    rw [hg]
    rcases e with e | e | e
    · have e3 : i % 3 = 0 := by omega
      rw [e3]
      have := f1
      rw [← e, List.getElem?_eq_getElem h2] at this
      simp only [Option.some.injEq] at this
      rw [this]
      simp [show i / 3 < n by omega]
      rfl
    · have e3 : i % 3 = 1 := by omega
      rw [e3]
      have := f2
      rw [← e, List.getElem?_eq_getElem h2] at this
      simp only [Option.some.injEq] at this
      rw [this]
      simp [show i / 3 < n by omega]
      rfl
    · have e3 : i % 3 = 2 := by omega
      rw [e3]
      have := f3
      rw [← e, List.getElem?_eq_getElem h2] at this
      simp only [Option.some.injEq] at this
      rw [this]
      simp [show i / 3 < n by omega]
      rfl
theorem trs_made (w : World) (n : Nat) (T : TypeId) (hm : n ≤ maxLen) : TrsOwn (w.alloc (.cells (mkT n) T)) w.heap.size T (.slice (some ⟨w.heap.size, 0, none⟩) n n) (List.replicate n default) := by
  unfold TrsOwn
  rw [List.length_replicate]
  have hl : (flatT (List.replicate n default)).length = n * 3 := by rw [flatT_length]; simp
  have hs : (mkT n).size = n * 3 := by rw [← Array.length_toList, mkT_list, hl]
  exact ⟨hl, .inr ⟨w.heap.size, n, mkT n, rfl, Nat.le_refl _, heap_alloc_new w _, Nat.le_refl _, hm, hs, by rw [mkT_list]; exact List.take_of_length_le (by rw [hl]; exact Nat.le_refl _)⟩⟩
theorem take_set_tr {r : List Tr} {k n : Nat} (hn : r.length = n) (hk : k < n) :
    (r.take k ++ List.replicate (n - k) default).set k (r.getD k default) = r.take (k + 1) ++ List.replicate (n - (k + 1)) default := by
  subst hn
  rw [List.take_succ_eq_append_getElem hk, List.set_append_right _ _ (by simp; omega)]
  have e : k - (r.take k).length = 0 := by simp; omega
  rw [e, show r.length - k = (r.length - (k + 1)) + 1 by omega, List.replicate_succ, List.set_cons_zero, List.append_assoc]
  simp [hk]

theorem toReplica_any (n : Tr) (w : World) :
    Calls Try.prog 20 #[.agg #[.int .i64 n.a, .int .i64 n.b, .int .i64 n.c]] w fun e w' => e = .returned (.agg #[.int .i64 n.a, .int .i64 n.b, .int .i64 n.c]) ∧ Below w.heap.size w w' := by
  have hB1 := (Below.refl w.heap.size w).alloc (Nat.le_refl _) (.cells #[.int .i64 n.a, .int .i64 n.b, .int .i64 n.c] 37)
  have hB2 := hB1.alloc (by simp) (.cells #[.int .i64 n.a, .int .i64 n.b, .int .i64 n.c] 26)
  have hB3 := hB2.alloc (by simp; omega) (.cells #[.int .i64 n.a, .int .i64 n.b, .int .i64 n.c] 26)
  go_enter Try.func20, Try.ntmps20
  go_wp2
  refine bodyPost_ret (v := .agg #[.int .i64 n.a, .int .i64 n.b, .int .i64 n.c]) ?_ rfl ⟨rfl, ?_⟩
  · simp [results, Try.results20, go_sem]
  · exact hB3

set_option maxHeartbeats 1000000 in
theorem toReplicaS_any (v : Value) (r : List Tr) (w : World) (hv : TrsAt w v r) (hl : r.length ≤ 1048576) :
    Calls Try.prog 18 #[v] w fun e w' => ∃ u, e = .returned u ∧ TrsOwn w' w.heap.size 26 u r ∧ Below w.heap.size w w' := by
  have HV := Lib.hid hv
  obtain ⟨p, cap, rfl, hc, hm⟩ := hv.form
  clear hv
  obtain ⟨n0, ni, nz0, nz1, nz2⟩ := info_parts Try.infoReplica
  have hmk : ∀ w : World, (Instr.makeSlice 23 (.int .i64 (r.length : Int)) (.int .i64 (r.length : Int))).run Try.prog w = .ok (.slice (some ⟨w.heap.size, 0, none⟩) r.length r.length) (w.alloc (.cells (mkT r.length) 26)) := fun w => by
    have := run_make (P := Try.prog) w 23 26 n0 _ Try.underlying23 ni nz0 .i64 .i64 (r.length : Int) (r.length : Int) (by omega) (Int.le_refl _) (by rw [nz2]; omega) (by omega)
    rw [nz1] at this
    simpa [mkT] using this
  have HO0 := Lib.hid (trs_made w r.length 26 (by unfold maxLen; omega))
  clear nz0 nz1 nz2 ni n0
  have hB0 := (Below.refl w.heap.size w).alloc (Nat.le_refl _) (.cells (mkT r.length) 26)
  go_enter Try.func18, Try.ntmps18
  go_wp2
  clear hmk
  go_loopw [4] (fun s wr => ∃ k : Nat, k ≤ r.length ∧ s = .int .i64 k ∧ TrsOwn wr w.heap.size 26 (.slice (some ⟨w.heap.size, 0, none⟩) r.length r.length) (r.take k ++ List.replicate (r.length - k) default) ∧ Below w.heap.size w wr) (fun s _ => r.length - (intOf s).toNat)
  case atStart => exact ⟨0, Nat.zero_le _, rfl, by simpa using HO0.out, hB0⟩
  case round =>
    obtain ⟨k, hk, rfl, hown, hbel⟩ := hrel
    by_cases hlt : k < r.length
    · obtain ⟨b, o, rfl, hb, k0, k1, k2⟩ := (HV.out.below hbel (Nat.le_refl _)).tr hlt
      have hst := take_set_tr rfl hlt
      obtain ⟨n, hn⟩ : ∃ n, r.getD k default = n := ⟨_, rfl⟩
      rw [hn] at k0 k1 k2 hst
      obtain ⟨X, hX⟩ : ∃ X, r.take k ++ List.replicate (r.length - k) default = X := ⟨_, rfl⟩
      have hXl : X.length = r.length := by rw [← hX]; simp; omega
      rw [hX] at hst hown
      have hown' : TrsOwn wr w.heap.size 26 (.slice (some ⟨w.heap.size, 0, none⟩) X.length r.length) X := by rw [hXl]; exact hown
      obtain ⟨q0, q1, q2, q3, q4, -⟩ := hown'.cells (k := k) (by omega)
      have HS := Lib.hid hst
      have HOW := Lib.hid hown'
      have HXL := Lib.hid hXl
      have hsz : w.heap.size ≤ wr.heap.size := hbel.size
      clear hn hst hown hown' hX hXl
      go_wp2_with (go_at_call 20; refine (toReplica_any n _).mono ?_; rintro e w1 ⟨rfl, hb1⟩; have x0 := (hb1.cell (p := ⟨w.heap.size, k * 3, none⟩) q4).trans q0; have x1 := (hb1.cell (p := ⟨w.heap.size, k * 3 + 1, none⟩) q4).trans q1; have x2 := (hb1.cell (p := ⟨w.heap.size, k * 3 + 2, none⟩) q4).trans q2; have x3 : ∀ j, w1.frozen? ⟨w.heap.size, j, none⟩ = false := fun j => (hb1.frozen (p := ⟨w.heap.size, j, none⟩) q4).trans (q3 j))
      go_roundw
      case rel =>
        have hfin := TrsOwn.set (HOW.out.below hb1 (Nat.le_refl _)) (k := k) (by rw [HXL.out]; exact hlt) n
        rw [HS.out, HXL.out] at hfin
        exact ⟨k + 1, by omega, by go_num, hfin, ((((hbel.trans (hb1.mono hsz)).setCell (by simp) _).setCell (by simp) _).setCell (by simp) _)⟩
      case measure => simp [intOf]; omega
    · obtain rfl : k = r.length := by omega
      have hown' : TrsOwn wr w.heap.size 26 (.slice (some ⟨w.heap.size, 0, none⟩) r.length r.length) r := by simpa using hown
      have HH := Lib.hid hown'
      clear hown hown'
      go_wp2
      go_ret
      exact ⟨_, rfl, HH.out, hbel⟩

set_option maxHeartbeats 1000000 in
theorem eqReplica_any (n m : Tr) (w : World) :
    Calls Try.prog 45 #[.agg #[.int .i64 n.a, .int .i64 n.b, .int .i64 n.c], .agg #[.int .i64 m.a, .int .i64 m.b, .int .i64 m.c]] w fun e w' => e = .returned (.bool (decide (n = m))) ∧ Below w.heap.size w w' := by
  have hB0 := (((Below.refl w.heap.size w).alloc (Nat.le_refl _) (.cells #[.int .i64 n.a, .int .i64 n.b, .int .i64 n.c] 26)).alloc (by simp) (.cells #[.int .i64 m.a, .int .i64 m.b, .int .i64 m.c] 26))
  have HE := Lib.hid (show decide (n = m) = (decide (n.a = m.a) && decide (n.b = m.b) && decide (n.c = m.c)) by
    rw [Bool.eq_iff_iff]; cases n; cases m; simp [and_assoc])
  rw [HE.out]
  cases h1 : (n.a != m.a)
  · have H1 := Lib.hid (show decide (n.a = m.a) = true by simpa using h1)
    rw [H1.out]
    cases h2 : (n.b != m.b)
    · have H2 := Lib.hid (show decide (n.b = m.b) = true by simpa using h2)
      rw [H2.out]
      cases h3 : (n.c != m.c)
      · have H3 := Lib.hid (show decide (n.c = m.c) = true by simpa using h3)
        rw [H3.out]
        go_enter Try.func45, Try.ntmps45
        go_wp2
        go_ret
        exact ⟨rfl, hB0⟩
      · have H3 := Lib.hid (show decide (n.c = m.c) = false by simpa using h3)
        rw [H3.out]
        go_enter Try.func45, Try.ntmps45
        go_wp2
        go_ret
        exact ⟨rfl, hB0⟩
    · have H2 := Lib.hid (show decide (n.b = m.b) = false by simpa using h2)
      rw [H2.out]
      go_enter Try.func45, Try.ntmps45
      go_wp2
      go_ret
      exact ⟨rfl, hB0⟩
  · have H1 := Lib.hid (show decide (n.a = m.a) = false by simpa using h1)
    rw [H1.out]
    go_enter Try.func45, Try.ntmps45
    go_wp2
    go_ret
    exact ⟨rfl, hB0⟩

set_option maxHeartbeats 1000000 in
theorem eqReplicaS_any (v u : Value) (r s : List Tr) (w : World) (hv : TrsAt w v r) (hu : TrsAt w u s) :
    Calls Try.prog 21 #[v, u] w fun e w' => e = .returned (.bool (decide (r = s))) ∧ Below w.heap.size w w' := by
  have HV := Lib.hid hv
  have HU := Lib.hid hu
  obtain ⟨p, cap, rfl, hc1, hc2⟩ := hv.form
  obtain ⟨q, cap', rfl, hc1', hc2'⟩ := hu.form
  clear hv hu
  by_cases hl : r.length = s.length
  · have HL := Lib.hid hl
    have hne : ((r.length : Int) != s.length) = false := by simp [hl]
    clear hl
    go_enter Try.func21, Try.ntmps21
    go_wp2
    go_loopw [4, 5] (fun _ q wr => ∃ k : Nat, k ≤ r.length ∧ q = .int .i64 k ∧ Hid (∀ j, j < k → r.getD j default = s.getD j default) ∧ Below w.heap.size w wr) (fun _ q _ => r.length - (intOf q).toNat)
    case atStart => exact ⟨0, Nat.zero_le _, rfl, Lib.hid fun j hj => by omega, Below.refl _ _⟩
    case round =>
      obtain ⟨k, hk, rfl, HA, hbel⟩ := hrel
      by_cases hlt : k < r.length
      · obtain ⟨b, o, rfl, hb, x0, x1, x2⟩ := (HV.out.below hbel (Nat.le_refl _)).tr hlt
        obtain ⟨b', o', rfl, hb', y0, y1, y2⟩ := (HU.out.below hbel (Nat.le_refl _)).tr (k := k) (by have := HL.out; omega)
        obtain ⟨n, hn⟩ : ∃ y, r.getD k default = y := ⟨_, rfl⟩
        obtain ⟨m, hmm⟩ : ∃ y, s.getD k default = y := ⟨_, rfl⟩
        rw [hn] at x0 x1 x2
        rw [hmm] at y0 y1 y2
        have HX := Lib.hid hn
        have HY := Lib.hid hmm
        have i0 : (0 : Int) ≤ (k : Int) := by omega
        have i1 : (k : Int) < (r.length : Int) := by omega
        have i2 : (k : Int) < (s.length : Int) := by have := HL.out; omega
        have hsz : w.heap.size ≤ wr.heap.size := hbel.size
        clear hn hmm
        cases hxy : decide (n = m)
        all_goals
          have HXY := Lib.hid hxy
          clear hxy
          go_wp2_with fail
          go_region_held3 (fun w' => w'.cell? ⟨b, o + k * 3, none⟩ = some (.int .i64 n.a) ∧ w'.cell? ⟨b, o + k * 3 + 1, none⟩ = some (.int .i64 n.b) ∧ w'.cell? ⟨b, o + k * 3 + 2, none⟩ = some (.int .i64 n.c) ∧ w'.cell? ⟨b', o' + k * 3, none⟩ = some (.int .i64 m.a) ∧ w'.cell? ⟨b', o' + k * 3 + 1, none⟩ = some (.int .i64 m.b) ∧ w'.cell? ⟨b', o' + k * 3 + 2, none⟩ = some (.int .i64 m.c)) (go_keep)
            (first
              | (go_at_call 45; refine (eqReplica_any n m _).mono ?_; rw [HXY.out]; rintro e w1 ⟨rfl, hb1⟩; have hcc : ∀ b' o', b' < wr.heap.size → w1.cell? ⟨b', o', none⟩ = wr.cell? ⟨b', o', none⟩ := fun b' o' h => hb1.cell (p := ⟨b', o', none⟩) h))
          have hb1' : Below wr.heap.size wr w1 := (Below.refl _ wr).drew.trans hb1
          clear hcc
          go_wp2
        · go_ret
          exact ⟨ret_bool (by rw [eq_comm, decide_eq_false_iff_not]; intro e; have := HXY.out; rw [decide_eq_false_iff_not] at this; exact this (by rw [← HX.out, ← HY.out, e])), hbel.trans (hb1'.mono hsz)⟩
        · go_roundw
          case rel =>
            refine ⟨k + 1, by omega, by go_num, Lib.hid fun j hj => ?_, hbel.trans (hb1'.mono hsz)⟩
            by_cases e : j = k
            · subst e; rw [HX.out, HY.out]; have := HXY.out; simpa using this
            · exact HA.out j (by omega)
          case measure => simp [intOf]; omega
      · obtain rfl : k = r.length := by omega
        go_wp2
        go_ret
        exact ⟨ret_bool (by rw [eq_comm, decide_eq_true_eq]; exact eq_of_tr HL.out HA.out), hbel⟩
  · have hne : ((r.length : Int) != s.length) = true := by simp; omega
    have HL := Lib.hid (show r ≠ s from fun e => hl (by rw [e]))
    clear hl
    go_enter Try.func21, Try.ntmps21
    go_wp2
    go_ret
    exact ⟨ret_bool (by rw [eq_comm, decide_eq_false_iff_not]; exact HL.out), Below.refl _ _⟩

end Go.Proofs.Ytkefnmmpipeppaa
