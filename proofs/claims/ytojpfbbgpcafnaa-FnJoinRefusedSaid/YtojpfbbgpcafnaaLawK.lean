/-
  Contracts: the comparing functions of the laws.
-/
import Derived.Test.YtojpfbbgpcafnaaBase
import Derived.Test.YtojpfbbgpcafnaaPlain
namespace Go.Proofs.Ytojpfbbgpcafnaa
open Go.RowKit

theorem ints_neK {xs ys : List Int} {k : Nat} (h : xs.getD k 0 ≠ ys.getD k 0) : xs ≠ ys := fun e => h (by rw [e])

set_option maxHeartbeats 1000000 in
theorem sameInts_any (v u : Value) (xs ys : List Int) (w : World) (hv : IntsAt w v xs) (hu : IntsAt w u ys) :
    Calls Try.prog 29 #[v, u] w fun e w' => e = .returned (.bool (decide (xs = ys))) ∧ ∃ n, w' = w.drewN n := by
  obtain ⟨p, cap, rfl, hc, hm, h4⟩ := hv
  obtain ⟨p', cap', rfl, hc', hm', h4'⟩ := hu
  unfold maxLen at hm hm'
  by_cases hl : xs.length = ys.length
  · have HL := Lib.hid hl
    have hne : ((xs.length : Int) != ys.length) = false := by simp [hl]
    clear hl
    go_enter Try.func29, Try.ntmps29
    go_wp2
    go_loopw [4, 5] (fun _ s wr => ∃ k : Nat, k ≤ xs.length ∧ s = .int .i64 k ∧ Hid (∀ j, j < k → xs.getD j 0 = ys.getD j 0) ∧ ∃ n, wr = w.drewN n) (fun _ s _ => xs.length - (intOf s).toNat)
    case atStart => exact ⟨0, Nat.zero_le _, rfl, Lib.hid fun j hj => by omega, 0, rfl⟩
    case round =>
      obtain ⟨k, hk, rfl, HA, nd, rfl⟩ := hrel
      by_cases hlt : k < xs.length
      · rcases h4 with ⟨rfl, -⟩ | ⟨b, o, rfl, hb, hcell⟩
        · simp at hlt
        rcases h4' with ⟨rfl, -⟩ | ⟨b', o', rfl, hb', hcell'⟩
        · have := HL.out; simp at this; simp [this] at hlt
        have hlt' : k < ys.length := by have := HL.out; omega
        have h1 := hcell k hlt
        have h1' := hcell' k hlt'
        obtain ⟨x, hx⟩ : ∃ y, xs.getD k 0 = y := ⟨_, rfl⟩
        obtain ⟨y, hy⟩ : ∃ z, ys.getD k 0 = z := ⟨_, rfl⟩
        rw [hx] at h1
        rw [hy] at h1'
        have HX := Lib.hid hx
        have HY := Lib.hid hy
        have i0 : (0 : Int) ≤ (k : Int) := by omega
        have i1 : (k : Int) < (xs.length : Int) := by omega
        have i2 : (k : Int) < (ys.length : Int) := by omega
        clear hcell hcell' hx hy
        cases hxy : (x != y)
        · go_wp2_with fail
          go_quiet (fail)
          go_wp2
          go_roundw
          case rel =>
            refine ⟨k + 1, by omega, by go_num, Lib.hid fun j hj => ?_, _, rfl⟩
            by_cases e : j = k
            · subst e; rw [HX.out, HY.out]; simpa using hxy
            · exact HA.out j (by omega)
          case measure => simp [intOf]; omega
        · go_wp2_with fail
          go_quiet (fail)
          go_wp2
          go_ret
          exact ⟨ret_bool (by rw [eq_comm, decide_eq_false_iff_not]; exact ints_neK (k := k) (by rw [HX.out, HY.out]; simpa using hxy)), _, World.drewN_drewN ..⟩
      · obtain rfl : k = xs.length := by omega
        go_wp2
        go_ret
        exact ⟨ret_bool (by rw [eq_comm, decide_eq_true_eq]; exact ints_eq' HL.out HA.out), _, rfl⟩
  · have hne : ((xs.length : Int) != ys.length) = true := by simp; omega
    have HL := Lib.hid (show xs ≠ ys from fun e => hl (by rw [e]))
    clear hl
    go_enter Try.func29, Try.ntmps29
    go_wp2
    go_ret
    exact ⟨ret_bool (by rw [eq_comm, decide_eq_false_iff_not]; exact HL.out), 0, rfl⟩

theorem sameInts_drew (v u : Value) (xs ys : List Int) (w : World) (N : Nat) (hv : IntsAt w v xs) (hu : IntsAt w u ys) :
    Calls Try.prog 29 #[v, u] (w.drewN N) fun e w' => e = .returned (.bool (decide (xs = ys))) ∧ ∃ m, w' = w.drewN m :=
  (sameInts_any v u xs ys _ (hv.below (below_drewN (Below.refl _ _) N) (Nat.le_refl _)) (hu.below (below_drewN (Below.refl _ _) N) (Nat.le_refl _))).mono fun _ _ ⟨he, n, hn⟩ => ⟨he, N + n, by rw [hn]; exact World.drewN_drewN ..⟩

set_option maxHeartbeats 1000000 in
theorem sameNode_any (n m : Nd) (va vb : Value) (w : World) (ha : IntsAt w va n.after) (hb : IntsAt w vb m.after) :
    Calls Try.prog 37 #[.agg #[.int .i64 n.id, .int .i64 n.before, va], .agg #[.int .i64 m.id, .int .i64 m.before, vb]] w fun e w' => e = .returned (.bool (decide (n = m))) ∧ Below w.heap.size w w' := by
  have HA := Lib.hid ha
  have HB := Lib.hid hb
  obtain ⟨pa, capa, rfl, -, -, -⟩ := ha
  obtain ⟨pb, capb, rfl, -, -, -⟩ := hb
  have hB0 := (((Below.refl w.heap.size w).alloc (Nat.le_refl _) (.cells #[.int .i64 n.id, .int .i64 n.before, .slice pa n.after.length capa] 31)).alloc (by simp) (.cells #[.int .i64 m.id, .int .i64 m.before, .slice pb m.after.length capb] 31))
  have HE := Lib.hid (show decide (n = m) = (decide (n.id = m.id) && decide (n.before = m.before) && decide (n.after = m.after)) by
    rw [Bool.eq_iff_iff]; cases n; cases m; simp [and_assoc])
  rw [HE.out]
  cases h1 : (n.id == m.id)
  · have H1 := Lib.hid (show decide (n.id = m.id) = false by simpa using h1)
    rw [H1.out]
    go_enter Try.func37, Try.ntmps37
    go_wp2
    go_ret
    exact ⟨rfl, hB0⟩
  · cases h2 : (n.before == m.before)
    · have H1 := Lib.hid (show decide (n.id = m.id) = true by simpa using h1)
      have H2 := Lib.hid (show decide (n.before = m.before) = false by simpa using h2)
      rw [H1.out, H2.out]
      go_enter Try.func37, Try.ntmps37
      go_wp2
      go_ret
      exact ⟨rfl, hB0⟩
    · have H1 := Lib.hid (show decide (n.id = m.id) = true by simpa using h1)
      have H2 := Lib.hid (show decide (n.before = m.before) = true by simpa using h2)
      rw [H1.out, H2.out]
      go_enter Try.func37, Try.ntmps37
      go_wp2_with (go_at_call 29; refine (sameInts_any _ _ n.after m.after _ (by exact HA.out.below hB0 (Nat.le_refl _)) (by exact HB.out.below hB0 (Nat.le_refl _))).mono ?_; rintro e w1 ⟨rfl, nd, rfl⟩)
      go_ret
      exact ⟨rfl, below_drewN hB0 _⟩

set_option maxHeartbeats 1000000 in
theorem sameRing_any (v u : Value) (r s : List Nd) (w : World) (hv : RingAt w v r) (hu : RingAt w u s) :
    Calls Try.prog 16 #[v, u] w fun e w' => e = .returned (.bool (decide (r = s))) ∧ Below w.heap.size w w' := by
  obtain ⟨p, cap, rfl, hc, hm, h4⟩ := hv
  obtain ⟨p', cap', rfl, hc', hm', h4'⟩ := hu
  unfold maxLen at hm hm'
  by_cases hl : r.length = s.length
  · have HL := Lib.hid hl
    have hne : ((r.length : Int) != s.length) = false := by simp [hl]
    clear hl
    go_enter Try.func16, Try.ntmps16
    go_wp2
    go_loopw [4, 5] (fun _ q wr => ∃ k : Nat, k ≤ r.length ∧ q = .int .i64 k ∧ Hid (∀ j, j < k → r.getD j default = s.getD j default) ∧ Below w.heap.size w wr) (fun _ q _ => r.length - (intOf q).toNat)
    case atStart => exact ⟨0, Nat.zero_le _, rfl, Lib.hid fun j hj => by omega, Below.refl _ _⟩
    case round =>
      obtain ⟨k, hk, rfl, HA, hbel⟩ := hrel
      by_cases hlt : k < r.length
      · rcases h4 with ⟨rfl, -⟩ | ⟨b, o, rfl, hb, hcell⟩
        · simp at hlt
        rcases h4' with ⟨rfl, -⟩ | ⟨b', o', rfl, hb', hcell'⟩
        · have := HL.out; simp at this; simp [this] at hlt
        have hlt' : k < s.length := by have := HL.out; omega
        obtain ⟨x1, x2, va, x3, hia⟩ := (hcell k hlt).below hb hbel (Nat.le_refl _)
        obtain ⟨y1, y2, vb, y3, hib⟩ := (hcell' k hlt').below hb' hbel (Nat.le_refl _)
        obtain ⟨n, hn⟩ : ∃ y, r.getD k default = y := ⟨_, rfl⟩
        obtain ⟨m, hmm⟩ : ∃ y, s.getD k default = y := ⟨_, rfl⟩
        rw [hn] at x1 x2 hia
        rw [hmm] at y1 y2 hib
        have HX := Lib.hid hn
        have HY := Lib.hid hmm
        have HIA := Lib.hid hia
        have HIB := Lib.hid hib
        obtain ⟨pa, capa, rfl, -, -, -⟩ := hia
        obtain ⟨pb, capb, rfl, -, -, -⟩ := hib
        have i0 : (0 : Int) ≤ (k : Int) := by omega
        have i1 : (k : Int) < (r.length : Int) := by omega
        have i2 : (k : Int) < (s.length : Int) := by omega
        have hsz : w.heap.size ≤ wr.heap.size := hbel.size
        have hbw : b < wr.heap.size := Nat.lt_of_lt_of_le hb hsz
        have hbw' : b' < wr.heap.size := Nat.lt_of_lt_of_le hb' hsz
        clear hcell hcell' hn hmm
        cases hxy : decide (n = m)
        all_goals
          have HXY := Lib.hid hxy
          clear hxy
          go_wp2_with fail
          go_region_held3 (fun w' => w'.cell? ⟨b, o + k * 3, none⟩ = some (.int .i64 n.id) ∧ w'.cell? ⟨b, o + k * 3 + 1, none⟩ = some (.int .i64 n.before) ∧ w'.cell? ⟨b, o + k * 3 + 2, none⟩ = some (.slice pa n.after.length capa) ∧ w'.cell? ⟨b', o' + k * 3, none⟩ = some (.int .i64 m.id) ∧ w'.cell? ⟨b', o' + k * 3 + 1, none⟩ = some (.int .i64 m.before) ∧ w'.cell? ⟨b', o' + k * 3 + 2, none⟩ = some (.slice pb m.after.length capb)) (go_keep)
            (first
              | (go_at_call 37; refine (sameNode_any n m _ _ _ (by exact HIA.out) (by exact HIB.out)).mono ?_; rw [HXY.out]; rintro e w1 ⟨rfl, hb1⟩; have hcc : ∀ b' o', b' < wr.heap.size → w1.cell? ⟨b', o', none⟩ = wr.cell? ⟨b', o', none⟩ := fun b' o' h => hb1.cell (p := ⟨b', o', none⟩) h))
          have hb1' : Below wr.heap.size wr w1 := (Below.refl _ wr).drew.trans hb1
          clear hcc
          go_wp2
        · go_ret
          exact ⟨ret_bool (by rw [eq_comm, decide_eq_false_iff_not]; exact ring_ne' (k := k) (by rw [HX.out, HY.out]; have := HXY.out; simpa using this)), hbel.trans (hb1'.mono hsz)⟩
        · go_roundw
          case rel =>
            refine ⟨k + 1, by omega, by go_num, Lib.hid fun j hj => ?_, hbel.trans (hb1'.mono hsz)⟩
            by_cases e : j = k
            · subst e; rw [HX.out, HY.out]; have := HXY.out; simpa using this
            · exact HA.out j (by omega)
          case measure => simp [intOf]; omega
      · obtain rfl : k = r.length := by omega
        go_wp2
        go_ret
        exact ⟨ret_bool (by rw [eq_comm, decide_eq_true_eq]; exact ring_eq' HL.out HA.out), hbel⟩
  · have hne : ((r.length : Int) != s.length) = true := by simp; omega
    have HL := Lib.hid (show r ≠ s from fun e => hl (by rw [e]))
    clear hl
    go_enter Try.func16, Try.ntmps16
    go_wp2
    go_ret
    exact ⟨ret_bool (by rw [eq_comm, decide_eq_false_iff_not]; exact HL.out), Below.refl _ _⟩

theorem field0 (a b c : Value) (w : World) : (Instr.field 31 (.agg #[a, b, c]) 0).run Try.prog w = .ok a w := rfl
theorem field1 (a b c : Value) (w : World) : (Instr.field 31 (.agg #[a, b, c]) 1).run Try.prog w = .ok b w := rfl
theorem field2 (a b c : Value) (w : World) : (Instr.field 31 (.agg #[a, b, c]) 2).run Try.prog w = .ok c w := rfl

def NodePost (n : Nd) (w : World) (e : Ending) (w' : World) : Prop := ∃ va, e = .returned (.agg #[.int .i64 n.id, .int .i64 n.before, va]) ∧ IntsAt w' va n.after ∧ Below w.heap.size w w'

set_option maxHeartbeats 1000000 in
theorem nodeAtL_any (v : Value) (r : List Nd) (id : Int) (w : World) (hv : RingAt w v r) :
    Calls Try.prog 30 #[v, .int .i64 id] w (NodePost (ndOf r id) w) := by
  have hB0 := (Below.refl w.heap.size w).alloc (Nat.le_refl _) (.cells #[.int .i64 0, .int .i64 0, .slice none 0 0] 31)
  obtain ⟨p, cap, rfl, hc, hm, h4⟩ := hv
  unfold maxLen at hm
  go_enter Try.func30, Try.ntmps30
  go_wp2
  go_loop [5] (fun i => ∃ k : Nat, k ≤ r.length ∧ i = .int .i64 k ∧ Hid (∀ j, j < k → (r.getD j default).id ≠ id)) (fun i => r.length - (intOf i).toNat)
  case atStart => exact ⟨0, Nat.zero_le _, rfl, Lib.hid fun j hj => by omega⟩
  case round =>
    obtain ⟨k, hk, rfl, HA⟩ := hrel
    by_cases hlt : k < r.length
    · rcases h4 with ⟨rfl, -⟩ | ⟨b, o, rfl, hb, hcell⟩
      · simp at hlt
      obtain ⟨g1, g2, va, g3, hia⟩ := hcell k hlt
      have h1 := (hB0.cell (p := ⟨b, o + k * 3, none⟩) hb).trans g1
      have h2 := (hB0.cell (p := ⟨b, o + k * 3 + 1, none⟩) hb).trans g2
      have h3 := (hB0.cell (p := ⟨b, o + k * 3 + 2, none⟩) hb).trans g3
      obtain ⟨n, hn⟩ : ∃ x, r.getD k default = x := ⟨_, rfl⟩
      rw [hn] at h1 h2 hia g1 g2
      have HN := Lib.hid hn
      have HIA := Lib.hid hia
      obtain ⟨pa, capa, rfl, -, -, -⟩ := hia
      clear hcell hn g1 g2 g3
      go_wp2
      · have hf : (n.id == id) = true := by assumption
        have HF := Lib.hid (show ndOf r id = n by rw [← HN.out]; exact ndOf_hit (fnd_hit hlt (by rw [HN.out]; simpa using hf) HA.out))
        refine bodyPost_ret (v := .agg #[.int .i64 n.id, .int .i64 n.before, .slice pa n.after.length capa]) (by simp [results, Try.results30, go_sem]) rfl ?_
        rw [HF.out]
        have hB3 := (Below.refl w.heap.size w).alloc (Nat.le_refl _) (.cells #[.int .i64 n.id, .int .i64 n.before, .slice pa n.after.length capa] 31)
        exact ⟨_, rfl, HIA.out.below hB3 (Nat.le_refl _), hB3⟩
      · have hf : (n.id == id) = false := by assumption
        go_round
        case rel =>
          refine ⟨k + 1, by omega, by go_num, Lib.hid fun j hj => ?_⟩
          by_cases e : j = k
          · subst e; rw [HN.out]; simpa using hf
          · exact HA.out j (by omega)
        case measure => simp [intOf]; omega
    · obtain rfl : k = r.length := by omega
      go_wp2
      have HF := Lib.hid (show ndOf r id = noNd from ndOf_no (fnd_dead_iff.1 (by rw [fnd_miss HA.out]; omega)))
      refine bodyPost_ret (v := .agg #[.int .i64 (-1), .int .i64 0, .slice (some ⟨w.heap.size + 1, 0, none⟩) 2 2]) (by simp [results, Try.results30, go_sem]) rfl ?_
      rw [HF.out]
      have hB3 := (Below.refl w.heap.size w).alloc (Nat.le_refl _) (.cells #[.int .i64 (-1), .int .i64 0, .slice (some ⟨w.heap.size + 1, 0, none⟩) 2 2] 31)
      have hI := intsAt_newN (w.alloc (.cells #[.int .i64 (-1), .int .i64 0, .slice (some ⟨w.heap.size + 1, 0, none⟩) 2 2] 31)) 3 [-1, -1] _ (w.heap.size + 1) (by simp) rfl (by simp)
      exact ⟨_, rfl, hI, hB3.alloc (by simp) _⟩

theorem nodeAtL_live (v : Value) (r : List Nd) (id : Int) (w : World) (hv : RingAt w v r) (hl : live r id = true) :
    Calls Try.prog 30 #[v, .int .i64 id] w fun e w' => ∃ va, e = .returned (.agg #[.int .i64 id, .int .i64 (ndOf r id).before, va]) ∧ IntsAt w' va (ndOf r id).after ∧ Below w.heap.size w w' :=
  (nodeAtL_any v r id w hv).mono fun _ _ ⟨va, he, h⟩ => ⟨va, by rw [he, (ndOf_live hl).1], h⟩
theorem nodeAtL_dead (v : Value) (r : List Nd) (id : Int) (w : World) (hv : RingAt w v r) (hl : live r id = false) :
    Calls Try.prog 30 #[v, .int .i64 id] w fun e w' => ∃ va, e = .returned (.agg #[.int .i64 (-1), .int .i64 0, va]) ∧ IntsAt w' va [-1, -1] ∧ Below w.heap.size w w' :=
  (nodeAtL_any v r id w hv).mono fun _ _ ⟨va, he, h⟩ => ⟨va, by rw [he, ndOf_no hl]; rfl, by rw [ndOf_no hl] at h; exact h⟩

theorem three_le {r : List Nd} (h : ringSafe r = true) : 3 ≤ (prin r).length := by
  unfold ringSafe safeB at h
  simp at h
  exact h.2.2
theorem own_slice {w : World} {B size n : Nat} {e : TypeId} {v : Value} {xs : List Value} (h : w.ownsRow B e size v n xs) : ∃ p c, v = .slice p n c := by
  rcases h.2 with ⟨rfl, rfl⟩ | ⟨g, cap, cur, rfl, -⟩
  · exact ⟨_, _, rfl⟩
  · exact ⟨_, _, rfl⟩

end Go.Proofs.Ytojpfbbgpcafnaa
