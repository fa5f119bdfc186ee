/-
  Contracts: positions and nodes, as the lookups need them.
-/
import Derived.Test.YtagpkemlndkcjaaMemI
import Derived.Test.YtagpkemlndkcjaaBase
import Derived.Test.YtagpkemlndkcjaaRead
import Derived.Test.YtagpkemlndkcjaaDrawA
import Derived.Test.YtagpkemlndkcjaaDraw1
import Derived.Test.YtagpkemlndkcjaaPLk
import Derived.Deep.RegionHeld3
import Derived.BigQuiet
namespace Go.Proofs.Ytagpkemlndkcjaa
open Go.RowKit

theorem posAll1 (a : Int) : posAll [a] = okP a := by simp [posAll, allBelow]
theorem posAll2 (a b : Int) : posAll [a, b] = (okP a && okP b) := by simp [posAll, allBelow]
theorem posAll3 (a b c : Int) : posAll [a, b, c] = (okP a && okP b && okP c) := by simp [posAll, allBelow]
theorem okP_iff {a : Int} : okP a = true ↔ 0 ≤ a ∧ a < 64 := by simp [okP]
set_option maxHeartbeats 400000 in
theorem up_any (a b : Int) (ha : okP a = true) (hb : okP b = true) (w : World) :
    Calls Try.prog 21 #[.int .i64 a, .int .i64 b] w fun e w' => e = .returned (.int .i64 (dist a b)) ∧ w = w' := by
  rw [okP_iff] at ha hb
  obtain ⟨a1, a2⟩ := ha
  obtain ⟨b1, b2⟩ := hb
  go_enter Try.func21, Try.ntmps21
  go_wp2
  go_outline
  go_ret
  exact ⟨ret_int (by unfold dist; rfl), rfl⟩

set_option maxHeartbeats 400000 in
theorem iDistance_any (a b : Int) (w : World) :
    Calls Try.prog 9 #[.int .i64 a, .int .i64 b] w fun e w' => e = .returned (.int .i64 (if okP a && okP b then dist a b else -1)) ∧ Below w.heap.size w w' := by
  have hB := (Below.refl w.heap.size w).alloc (Nat.le_refl _) (.cells #[.int .i64 a, .int .i64 b] 3)
  have H2 := Lib.hid (posAll2 a b)
  cases hp : okP a && okP b
  all_goals
    rw [hp] at H2
    go_enter Try.func9, Try.ntmps9
    go_wp2_with (first | (go_at_call 20; refine (positions_any _ [a, b] _ (intsAt_new _ _ [a, b] _ rfl (by simp))).mono ?_; rw [H2.out]; rintro e w' ⟨rfl, rfl⟩) | (go_at_call 21; refine (up_any _ _ (by simp at hp; exact hp.1) (by simp at hp; exact hp.2) _).mono ?_; rintro e w' ⟨rfl, rfl⟩))
    go_ret
    exact ⟨by simp, hB⟩

set_option maxHeartbeats 400000 in
theorem sBetween_any (a x b : Int) (w : World) :
    Calls Try.prog 35 #[.int .i64 a, .int .i64 x, .int .i64 b] w fun e w' => e = .returned (.bool (btw a x b)) ∧ w = w' := by
  unfold btw
  by_cases h : a < b
  · by_cases h2 : a < x
    all_goals
      go_enter Try.func35, Try.ntmps35
      go_wp2
      go_ret
      exact ⟨ret_bool (by simp [*]; try omega), rfl⟩
  · by_cases h2 : a < x
    all_goals
      go_enter Try.func35, Try.ntmps35
      go_wp2
      go_ret
      exact ⟨ret_bool (by simp [*]; try omega), rfl⟩

theorem cbtw_dist {a x b : Int} (h : (okP a && okP x && okP b) = true) : cbtw a x b = (!(x == a) && !(x == b) && ((a == b) || decide (dist a x < dist a b))) := by
  have h1 := h
  simp only [Bool.and_eq_true, okP_iff] at h1
  unfold cbtw btw dist
  rw [h, Bool.true_and, Bool.eq_iff_iff]
  by_cases hab : a < b
  · simp [hab]; omega
  · simp [hab]; omega

set_option maxHeartbeats 400000 in
theorem iBetween_any (a x b : Int) (w : World) :
    Calls Try.prog 43 #[.int .i64 a, .int .i64 x, .int .i64 b] w fun e w' => e = .returned (.bool (cbtw a x b)) ∧ Below w.heap.size w w' := by
  have hB := (Below.refl w.heap.size w).alloc (Nat.le_refl _) (.cells #[.int .i64 a, .int .i64 x, .int .i64 b] 3)
  have H3 := Lib.hid (posAll3 a x b)
  cases hp : okP a && okP x && okP b
  · rw [hp] at H3
    have HP := Lib.hid hp
    clear hp
    go_enter Try.func43, Try.ntmps43
    go_wp2_with (first | (go_at_call 20; refine (positions_any _ [a, x, b] _ (intsAt_new _ _ [a, x, b] _ rfl (by simp))).mono ?_; rw [H3.out]; rintro e w' ⟨rfl, rfl⟩))
    go_ret
    exact ⟨ret_bool (by unfold cbtw; rw [HP.out]; rfl), hB⟩
  · rw [hp] at H3
    have HP := Lib.hid hp
    clear hp
    have h1 := HP.out
    simp at h1
    obtain ⟨⟨h1, h2⟩, h3⟩ := h1
    have HD1 := Lib.hid (show (if okP a && okP x then dist a x else -1) = dist a x by simp [h1, h2])
    have HD2 := Lib.hid (show (if okP a && okP b then dist a b else -1) = dist a b by simp [h1, h3])
    rw [okP_iff] at h1 h2 h3
    cases h4 : (x == a) <;> cases h5 : (x == b) <;> cases h6 : (a == b)
    all_goals
      go_enter Try.func43, Try.ntmps43
      go_wp2_with (first | (go_at_call 20; refine (positions_any _ [a, x, b] _ (intsAt_new _ _ [a, x, b] _ rfl (by simp))).mono ?_; rw [H3.out]; rintro e w' ⟨rfl, rfl⟩) | (go_at_call_of 9 (Value.int IntKind.i64 x); refine (iDistance_any a x _).mono ?_; rw [HD1.out]; rintro e w1 ⟨rfl, hb1⟩) | (go_at_call 9; refine (iDistance_any a b _).mono ?_; rw [HD2.out]; rintro e w2 ⟨rfl, hb2⟩))
      go_ret
      exact ⟨ret_bool (by rw [cbtw_dist HP.out]; simp [h4, h5, h6]), by first | exact hB | exact (hB.trans (hb1.mono (by simp))).trans (hb2.mono (by have := hb1.size; simp at this; omega))⟩

def ndAt (xs : List Int) (k : Nat) : Bool := okP (xs.getD k 0) && (decide (k = 0) || decide (xs.getD (k - 1) 0 < xs.getD k 0))
def ndB (xs : List Int) : Bool := decide (1 ≤ xs.length) && decide (xs.length ≤ 10) && allBelow (ndAt xs) xs.length
theorem ndB_iff {xs : List Int} : ndB xs = true ↔ 1 ≤ xs.length ∧ nodesOk xs := by
  unfold ndB nodesOk ndAt
  simp only [Bool.and_eq_true, decide_eq_true_eq, allBelow_of, Bool.or_eq_true]
  constructor
  · rintro ⟨⟨h1, h2⟩, h3⟩
    refine ⟨h1, h2, fun i hi => (h3 i hi).1, ?_⟩
    intro i j
    induction j with
    | zero => intro h; omega
    | succ j ih =>
      intro hij hj
      have h4 : xs.getD j 0 < xs.getD (j + 1) 0 := by
        rcases (h3 (j + 1) hj).2 with h | h
        · omega
        · simpa using h
      by_cases e : i = j
      · subst e; exact h4
      · have := ih (by omega) (by omega)
        omega
  · rintro ⟨h1, h2, h3, h4⟩
    refine ⟨⟨h1, h2⟩, fun i hi => ⟨h3 i hi, ?_⟩⟩
    by_cases e : i = 0
    · exact .inl e
    · exact .inr (h4 (i - 1) i (by omega) hi)

set_option maxHeartbeats 1000000 in
theorem l1Nodes_any (v : Value) (xs : List Int) (w : World) (hv : IntsAt w v xs) :
    Calls Try.prog 44 #[v] w fun e w' => e = .returned (.bool (allBelow (ndAt xs) xs.length)) ∧ Below w.heap.size w w' := by
  obtain ⟨p, cap, rfl, hc, hm, h4⟩ := hv
  unfold maxLen at hm
  go_enter Try.func44, Try.ntmps44
  go_wp2
  go_loopg [2, 3] (xs.length) (fun m _ i wr => ∃ k : Nat, k ≤ xs.length ∧ m = xs.length - k ∧ i = .int .i64 k ∧ Hid (allBelow (ndAt xs) k = true) ∧ Below w.heap.size w wr)
  case atStart => exact ⟨0, Nat.zero_le _, rfl, rfl, Lib.hid rfl, Below.refl _ _⟩
  case round =>
    obtain ⟨k, hk, rfl, rfl, HA, hbel⟩ := hrel
    by_cases hlt : k < xs.length
    · rcases h4 with ⟨rfl, -⟩ | ⟨b, o, rfl, hb, hcell⟩
      · simp at hlt
      have h1 := (hbel.cell (p := ⟨b, o + k, none⟩) hb).trans (hcell k hlt)
      have h0 : 0 < k → wr.cell? ⟨b, o + (k - 1), none⟩ = some (.int .i64 (xs.getD (k - 1) 0)) := fun _ => (hbel.cell (p := ⟨b, o + (k - 1), none⟩) hb).trans (hcell (k - 1) (by omega))
      obtain ⟨x, hx⟩ : ∃ y, xs.getD k 0 = y := ⟨_, rfl⟩
      obtain ⟨y, hy⟩ : ∃ y, xs.getD (k - 1) 0 = y := ⟨_, rfl⟩
      have HR := Lib.hid (show ndAt xs k = (okP x && (decide (k = 0) || decide (y < x))) by unfold ndAt; rw [hx, hy])
      rw [hx] at h1
      rw [hy] at h0
      clear hcell hx hy
      go_wp2_with fail
      go_cut [31] (fun s wx => ∃ c, s = .bool c ∧ Hid (c = !ndAt xs k) ∧ ∃ nq, wx = wr.drewN nq)
      case first =>
        refine wp_region_quiet_lit (by kernel_rfl) (by kernel_rfl) ?_
        repeat (any_goals (first | go_big_quiet_step ((go_at_call 16; exact Calls.quiet_left (l1Point_any _ _))) | quiet_step ((go_at_call 16; exact Calls.quiet_left (l1Point_any _ _))) | (refine wpQuiet_step (fun K hK => ?_); go_simp; split <;> (refine hK _ ?_; clear hK K))))
        all_goals
          refine wpQuiet_nil ?_
          intro _ hw'
          obtain ⟨nq, hw''⟩ := hw'
          subst hw''
          go_wp2
          go_meet
          refine ⟨_, rfl, Lib.hid ?_, nq, rfl⟩
          rw [HR.out]
          first | (simp [*]; done) | (simp [*]; omega) | (simp [*]; rw [Bool.eq_iff_iff]; simp; omega)
      case rest =>
        obtain ⟨c, rfl, hcc, nq, rfl⟩ := hcut
        have HB2 := Lib.hid (below_drewN hbel nq)
        cases c
        rotate_left
        · go_wp2
          go_ret
          exact ⟨ret_bool (by rw [allBelow_false hlt (by have := hcc.out; simpa using this)]), HB2.out⟩
        · go_wp2
          go_roundg (xs.length - (k + 1))
          case rel => exact ⟨k + 1, by omega, rfl, by go_num, Lib.hid (allBelow_succ HA.out (by have := hcc.out; simpa using this)), HB2.out⟩
          case measure => omega
    · obtain rfl : k = xs.length := by omega
      go_wp2
      go_ret
      exact ⟨ret_bool (by rw [HA.out]), hbel⟩

set_option maxHeartbeats 400000 in
theorem sNodesValid_any (v : Value) (xs : List Int) (w : World) (hv : IntsAt w v xs) :
    Calls Try.prog 30 #[v] w fun e w' => e = .returned (.bool (ndB xs)) ∧ Below w.heap.size w w' := by
  have HV := Lib.hid hv
  obtain ⟨p, cap, rfl, hc, hm, -⟩ := hv
  unfold maxLen at hm
  have hi : inR (xs.length : Int) 1 10 = (decide (1 ≤ xs.length) && decide (xs.length ≤ 10)) := by unfold inR; congr 1 <;> (rw [decide_eq_decide]; omega)
  cases hc2 : (decide (1 ≤ xs.length) && decide (xs.length ≤ 10))
  · rw [hc2] at hi
    have HI := Lib.hid hi
    have HC := Lib.hid hc2
    clear hi hc2
    go_enter Try.func30, Try.ntmps30
    go_wp2_with (first | (go_at_call 32; refine (l6In_any _ _ _ _).mono ?_; rw [HI.out]; rintro e w' ⟨rfl, rfl⟩))
    go_ret
    exact ⟨ret_bool (by unfold ndB; rw [HC.out]; rfl), Below.refl _ _⟩
  · rw [hc2] at hi
    have HI := Lib.hid hi
    have HC := Lib.hid hc2
    clear hi hc2
    go_enter Try.func30, Try.ntmps30
    go_wp2_with (first | (go_at_call 32; refine (l6In_any _ _ _ _).mono ?_; rw [HI.out]; rintro e w' ⟨rfl, rfl⟩) | (go_at_call 44; refine (l1Nodes_any _ xs _ HV.out).mono ?_; rintro e w1 ⟨rfl, hb1⟩))
    go_ret
    exact ⟨ret_bool (by unfold ndB; rw [HC.out]; rfl), hb1⟩

/-- A row of integers of the call's own, never nil. -/
def IntsOwn (w : World) (B : Nat) (v : Value) (xs : List Int) : Prop := w.ownsRow B 3 1 v xs.length (xs.map (Value.int .i64)) ∧ v ≠ .slice none 0 0

theorem IntsOwn.at {w : World} {B : Nat} {v : Value} {xs : List Int} (h : IntsOwn w B v xs) : IntsAt w v xs := intsAt_own h.1
theorem IntsOwn.below {w w' : World} {B C : Nat} {v : Value} {xs : List Int} (h : IntsOwn w B v xs) (hb : Below C w w') (hC : w.heap.size ≤ C) : IntsOwn w' B v xs := ⟨ownsRow_below h.1 hb hC, h.2⟩
theorem IntsOwn.grow {w w' : World} {S : Nat} {v : Value} {xs : List Int} (h : IntsOwn w (S + 1) v xs) (hg : w.grownBy w' (some S)) : IntsOwn w' (S + 1) v xs := ⟨ownsRow_keeps h.1 (keeps_grow hg) (Nat.le_refl _), h.2⟩
theorem IntsOwn.form {w : World} {B : Nat} {v : Value} {xs : List Int} (h : IntsOwn w B v xs) : ∃ g cap, v = .slice (some ⟨g, 0, none⟩) xs.length cap ∧ xs.length ≤ cap ∧ cap ≤ maxLen ∧ B ≤ g ∧ g < w.heap.size ∧ (∀ i, i < xs.length → w.cell? ⟨g, i, none⟩ = some (.int .i64 (xs.getD i 0))) := by
  obtain ⟨g, cap, rfl, h1, h2, h3, h4⟩ := own_form h.1 h.2
  refine ⟨g, cap, rfl, h1, h2, h3, h4, fun i hi => ?_⟩
  obtain ⟨g', c', e, -, -, -, -, k, -⟩ := ownsRow_cell h.1 (j := i) (u := .int .i64 (xs.getD i 0)) (by simp [hi])
  cases e
  exact k

theorem ints_news {w : World} {g k : Nat} {xs : List Int} (h : ∀ i, i < xs.length → w.cell? ⟨g, i, none⟩ = some (.int .i64 (xs.getD i 0))) (hk : k ≤ xs.length) :
    ((xs.take k).map (Value.int .i64)).length = k * 1 ∧ (∀ j u, ((xs.take k).map (Value.int .i64))[j]? = some u → w.cell? ((⟨g, 0, none⟩ : Addr).add j) = some u) ∧ ∀ u ∈ (xs.take k).map (Value.int .i64), u.oneCell' = true := by
  refine ⟨by simp; omega, fun j u hj => ?_, fun u hu => by obtain ⟨_, _, rfl⟩ := List.mem_map.1 hu; rfl⟩
  rw [Addr.add_lit, Nat.zero_add]
  have hj' : j < k := by
    rcases Nat.lt_or_ge j k with h' | h'
    · exact h'
    · rw [List.getElem?_eq_none (by simp; omega)] at hj; cases hj
  rw [h j (by omega)]
  simpa [show j < xs.length by omega, hj'] using hj

theorem ints_news_drop {w : World} {g k : Nat} {xs : List Int} (h : ∀ i, i < xs.length → w.cell? ⟨g, i, none⟩ = some (.int .i64 (xs.getD i 0))) (cap : Nat) (hc : xs.length ≤ cap) :
    ∃ O, (if cap = k then some (⟨g, 0, none⟩ : Addr) else some ⟨g, k, none⟩) = some ⟨g, O, none⟩ ∧
    (((xs.drop k).map (Value.int .i64)).length = (xs.length - k) * 1 ∧ (∀ j u, ((xs.drop k).map (Value.int .i64))[j]? = some u → w.cell? ((⟨g, O, none⟩ : Addr).add j) = some u) ∧ ∀ u ∈ (xs.drop k).map (Value.int .i64), u.oneCell' = true) := by
  have hl : ((xs.drop k).map (Value.int .i64)).length = (xs.length - k) * 1 := by simp
  have h1 : ∀ u ∈ (xs.drop k).map (Value.int .i64), u.oneCell' = true := fun u hu => by obtain ⟨_, _, rfl⟩ := List.mem_map.1 hu; rfl
  by_cases e : cap = k
  · refine ⟨0, by rw [if_pos e], hl, fun j u hj => ?_, h1⟩
    rw [List.getElem?_eq_none (by rw [hl]; omega)] at hj; cases hj
  · refine ⟨k, by rw [if_neg e], hl, fun j u hj => ?_, h1⟩
    rw [Addr.add_lit]
    have hj' : k + j < xs.length := by
      rcases Nat.lt_or_ge (k + j) xs.length with h' | h'
      · exact h'
      · rw [List.getElem?_eq_none (by simp; omega)] at hj; cases hj
    rw [h _ hj']
    simpa [List.getElem?_drop, hj'] using hj

theorem inRange_any (n lo hi : Int) (w : World) :
    Calls Try.prog 36 #[.int .i64 n, .int .i64 lo, .int .i64 hi] w fun e w' => e = .returned (.bool (inR n lo hi)) ∧ w = w' := by
  unfold inR
  by_cases h : lo ≤ n
  all_goals
    go_enter Try.func36, Try.ntmps36
    go_wp2
    go_ret
    simp
    try omega

theorem posok_is (x : Int) (c : Bool) (h : okP x = c) (w : World) :
    Calls Try.prog 12 #[.int .i64 x] w fun e w' => e = .returned (.bool c) ∧ w = w' := by
  subst h; exact posok_any x w

set_option maxHeartbeats 1000000 in
theorem ascPos_any (v : Value) (xs : List Int) (w : World) (hv : IntsAt w v xs) :
    Calls Try.prog 37 #[v] w fun e w' => e = .returned (.bool (allBelow (ndAt xs) xs.length)) ∧ Below w.heap.size w w' := by
  obtain ⟨p, cap, rfl, hc, hm, h4⟩ := hv
  unfold maxLen at hm
  go_enter Try.func37, Try.ntmps37
  go_wp2
  go_loopg [2, 3, 4, 7] (xs.length) (fun m _ _ _ i wr => ∃ k : Nat, k ≤ xs.length ∧ m = xs.length - k ∧ i = .int .i64 k ∧ Hid (allBelow (ndAt xs) k = true) ∧ Below w.heap.size w wr)
  case atStart => exact ⟨0, Nat.zero_le _, rfl, rfl, Lib.hid rfl, Below.refl _ _⟩
  case round =>
    obtain ⟨k, hk, rfl, rfl, HA, hbel⟩ := hrel
    by_cases hlt : k < xs.length
    · rcases h4 with ⟨rfl, -⟩ | ⟨b, o, rfl, hb, hcell⟩
      · simp at hlt
      have h1 := (hbel.cell (p := ⟨b, o + k, none⟩) hb).trans (hcell k hlt)
      have h0 : 0 < k → wr.cell? ⟨b, o + (k - 1), none⟩ = some (.int .i64 (xs.getD (k - 1) 0)) := fun _ => (hbel.cell (p := ⟨b, o + (k - 1), none⟩) hb).trans (hcell (k - 1) (by omega))
      obtain ⟨x, hx⟩ : ∃ y, xs.getD k 0 = y := ⟨_, rfl⟩
      obtain ⟨y, hy⟩ : ∃ y, xs.getD (k - 1) 0 = y := ⟨_, rfl⟩
      have HR := Lib.hid (show ndAt xs k = (okP x && (decide (k = 0) || decide (y < x))) by unfold ndAt; rw [hx, hy])
      have HB := Lib.hid hbel
      rw [hx] at h1
      rw [hy] at h0
      have i0 : (0 : Int) ≤ (k : Int) := by omega
      have i1 : (k : Int) < (xs.length : Int) := by omega
      clear hcell hx hy hbel
      cases ho : okP x
      · have HO := Lib.hid ho
        have HF := Lib.hid (show ndAt xs k = false by rw [HR.out, ho]; rfl)
        clear ho h0
        go_wp2_with (go_at_call 12; refine (posok_is x _ HO.out _).mono ?_; rintro e w' ⟨rfl, rfl⟩)
        go_ret
        exact ⟨ret_bool (by rw [allBelow_false hlt HF.out]), HB.out⟩
      have HO := Lib.hid ho
      clear ho
      rcases Nat.eq_zero_or_pos k with hk0 | hk0
      · subst hk0
        rw [Nat.add_zero] at h1
        have HT := Lib.hid (show ndAt xs 0 = true by rw [HR.out, HO.out]; rfl)
        clear h0
        go_wp2_with (go_at_call 12; refine (posok_is x _ HO.out _).mono ?_; rintro e w' ⟨rfl, rfl⟩)
        go_roundg (xs.length - (0 + 1))
        case rel => exact ⟨0 + 1, by omega, rfl, by go_num, Lib.hid (allBelow_succ HA.out HT.out), HB.out⟩
        case measure => omega
      · have h2 := h0 hk0
        obtain ⟨j, hkj⟩ : ∃ j, k = j + 1 := ⟨k - 1, by omega⟩
        have i2 : IntKind.i64.wrap ((k : Int) - 1) = (j : Int) := by
          have : (k : Int) - 1 = (j : Int) := by omega
          rw [this]; exact IntWalk.i64_in _ (by omega)
        have i3 : (j : Int) < (xs.length : Int) := by omega
        have i4 : (0 : Int) ≤ (j : Int) := by omega
        rw [show k - 1 = j by omega] at h2
        have HKJ := Lib.hid hkj
        clear h0 hkj
        obtain hge | hge : decide (y ≥ x) = true ∨ decide (y ≥ x) = false := by cases decide (y ≥ x) <;> simp
        · have HF := Lib.hid (show ndAt xs k = false by
            have h : ¬ y < x := by simp at hge; omega
            have h' : ¬ k = 0 := by omega
            rw [HR.out]; simp [h, h'])
          have hge' : x ≤ y := by simpa using hge
          clear hge
          go_wp2_with (go_at_call 12; refine (posok_is x _ HO.out _).mono ?_; rintro e w' ⟨rfl, rfl⟩)
          go_ret
          exact ⟨ret_bool (by rw [allBelow_false hlt HF.out]), HB.out⟩
        · have HT := Lib.hid (show ndAt xs k = true by
            have h : y < x := by simp at hge; omega
            rw [HR.out, HO.out]; simp [h])
          have hge' : ¬ x ≤ y := by simpa using hge
          clear hge
          go_wp2_with (go_at_call 12; refine (posok_is x _ HO.out _).mono ?_; rintro e w' ⟨rfl, rfl⟩)
          go_roundg (xs.length - (k + 1))
          case rel => exact ⟨k + 1, by omega, rfl, by go_num, Lib.hid (allBelow_succ HA.out HT.out), HB.out⟩
          case measure => omega
    · obtain rfl : k = xs.length := by omega
      go_wp2
      go_ret
      exact ⟨ret_bool (by rw [HA.out]), hbel⟩

set_option maxHeartbeats 400000 in
theorem iNodesValid_any (v : Value) (xs : List Int) (w : World) (hv : IntsAt w v xs) :
    Calls Try.prog 19 #[v] w fun e w' => e = .returned (.bool (ndB xs)) ∧ Below w.heap.size w w' := by
  have HV := Lib.hid hv
  obtain ⟨p, cap, rfl, hc, hm, -⟩ := hv
  unfold maxLen at hm
  have hi : inR (xs.length : Int) 1 10 = (decide (1 ≤ xs.length) && decide (xs.length ≤ 10)) := by unfold inR; congr 1 <;> (rw [decide_eq_decide]; omega)
  cases hc2 : (decide (1 ≤ xs.length) && decide (xs.length ≤ 10))
  · rw [hc2] at hi
    have HI := Lib.hid hi
    have HC := Lib.hid hc2
    clear hi hc2
    go_enter Try.func19, Try.ntmps19
    go_wp2_with (first | (go_at_call 36; refine (inRange_any _ _ _ _).mono ?_; rw [HI.out]; rintro e w' ⟨rfl, rfl⟩))
    go_ret
    exact ⟨ret_bool (by unfold ndB; rw [HC.out]; rfl), Below.refl _ _⟩
  · rw [hc2] at hi
    have HI := Lib.hid hi
    have HC := Lib.hid hc2
    clear hi hc2
    go_enter Try.func19, Try.ntmps19
    go_wp2_with (first | (go_at_call 36; refine (inRange_any _ _ _ _).mono ?_; rw [HI.out]; rintro e w' ⟨rfl, rfl⟩) | (go_at_call 37; refine (ascPos_any _ xs _ HV.out).mono ?_; rintro e w1 ⟨rfl, hb1⟩))
    go_ret
    exact ⟨ret_bool (by unfold ndB; rw [HC.out]; rfl), hb1⟩

set_option maxHeartbeats 1000000 in
theorem iNodesNext_any (v : Value) (L : List Int) (key : Int) (w : World) (hv : IntsAt w v L) (hn : ndB L = true) (hk : okP key = true) :
    Calls Try.prog 28 #[v, .int .i64 key] w fun e w' => e = .returned (.int .i64 (nextV L key)) ∧ Below w.heap.size w w' := by
  have HV := Lib.hid hv
  have HN := Lib.hid hn
  have HK := Lib.hid hk
  have hl1 := (ndB_iff.1 hn).1
  have hl10 := (ndB_iff.1 hn).2.1
  obtain ⟨p, cap, rfl, hc, hm, h4⟩ := hv
  unfold maxLen at hm
  clear hn hk
  go_enter Try.func28, Try.ntmps28
  go_wp2_with (first | (go_at_call 19; refine (iNodesValid_any _ L _ HV.out).mono ?_; rw [HN.out]; rintro e w1 ⟨rfl, hb1⟩) | (go_at_call 12; refine (posok_is key _ HK.out _).mono ?_; rintro e w' ⟨rfl, rfl⟩))
  go_loopg [4, 6, 17] L.length (fun m _ _ i wr => ∃ k : Nat, k ≤ L.length ∧ m = L.length - k ∧ i = .int .i64 k ∧ Hid (∀ j, j < k → decide (key ≤ L.getD j 0) = false) ∧ Below w.heap.size w wr)
  case atStart => exact ⟨0, Nat.zero_le _, rfl, rfl, Lib.hid fun j hj => by omega, hb1⟩
  case round =>
    obtain ⟨k, hk, rfl, rfl, HA, hbel⟩ := hrel
    rcases h4 with ⟨rfl, -⟩ | ⟨b, o, rfl, hb, hcell⟩
    · simp at hl1
    have h00 := (hbel.cell (p := ⟨b, o + 0, none⟩) hb).trans (hcell 0 (by omega))
    rw [Nat.add_zero] at h00
    by_cases hlt : k < L.length
    · have h1 := (hbel.cell (p := ⟨b, o + k, none⟩) hb).trans (hcell k hlt)
      obtain ⟨x, hx⟩ : ∃ y, L.getD k 0 = y := ⟨_, rfl⟩
      rw [hx] at h1
      have HX := Lib.hid hx
      have HB := Lib.hid hbel
      have i0 : (0 : Int) ≤ (k : Int) := by omega
      have i1 : (k : Int) < (L.length : Int) := by omega
      clear hcell hx hbel h00
      obtain hge | hge : decide (key ≤ x) = true ∨ decide (key ≤ x) = false := by cases decide (key ≤ x) <;> simp
      · have HR := Lib.hid (show nextV L key = x by
          unfold nextV
          rw [idx_hit (d := 0) hlt (by rw [HX.out]; exact hge) HA.out]
          exact HX.out)
        have hge' : key ≤ x := by simpa using hge
        clear hge
        go_wp2
        go_ret
        exact ⟨ret_int HR.out.symm, HB.out⟩
      · have HG := Lib.hid hge
        have hge' : ¬ key ≤ x := by simpa using hge
        clear hge
        go_wp2
        go_roundg (L.length - (k + 1))
        case rel =>
          refine ⟨k + 1, by omega, rfl, by go_num, Lib.hid fun j hj => ?_, HB.out⟩
          by_cases e : j = k
          · subst e; rw [HX.out]; exact HG.out
          · exact HA.out j (by omega)
        case measure => omega
    · obtain rfl : k = L.length := by omega
      obtain ⟨x, hx⟩ : ∃ y, L.getD 0 0 = y := ⟨_, rfl⟩
      rw [hx] at h00
      have HR := Lib.hid (show nextV L key = x by
        unfold nextV
        rw [idx_miss (d := 0) HA.out]
        exact hx)
      clear hcell hx
      go_wp2
      go_ret
      exact ⟨ret_int HR.out.symm, hbel⟩

set_option maxHeartbeats 1000000 in
theorem iNodesBefore_any (v : Value) (L : List Int) (key : Int) (w : World) (hv : IntsAt w v L) (hn : ndB L = true) (hk : okP key = true) :
    Calls Try.prog 8 #[v, .int .i64 key] w fun e w' => e = .returned (.int .i64 (befFrom L key L.length)) ∧ Below w.heap.size w w' := by
  have HV := Lib.hid hv
  have HN := Lib.hid hn
  have HK := Lib.hid hk
  have hl1 := (ndB_iff.1 hn).1
  have hl10 := (ndB_iff.1 hn).2.1
  obtain ⟨p, cap, rfl, hc, hm, h4⟩ := hv
  unfold maxLen at hm
  clear hn hk
  go_enter Try.func8, Try.ntmps8
  go_wp2_with (first | (go_at_call 19; refine (iNodesValid_any _ L _ HV.out).mono ?_; rw [HN.out]; rintro e w1 ⟨rfl, hb1⟩) | (go_at_call 12; refine (posok_is key _ HK.out _).mono ?_; rintro e w' ⟨rfl, rfl⟩))
  go_loopg [4, 5] (L.length + 1) (fun m _ i wr => ∃ k : Nat, k ≤ L.length ∧ m = k + 1 ∧ i = .int .i64 ((k : Int) - 1) ∧ Hid (befFrom L key L.length = befFrom L key k) ∧ Below w.heap.size w wr)
  case atStart => exact ⟨L.length, Nat.le_refl _, rfl, rfl, Lib.hid rfl, hb1⟩
  case round =>
    obtain ⟨k, hk, rfl, rfl, HA, hbel⟩ := hrel
    rcases h4 with ⟨rfl, -⟩ | ⟨b, o, rfl, hb, hcell⟩
    · simp at hl1
    obtain ⟨l, hl⟩ : ∃ l, L.length = l + 1 := ⟨L.length - 1, by omega⟩
    have hlast := (hbel.cell (p := ⟨b, o + l, none⟩) hb).trans (hcell l (by omega))
    have HB := Lib.hid hbel
    have HL := Lib.hid hl
    have q0 : IntKind.i64.wrap ((L.length : Int) - 1) = (l : Int) := by
      have : (L.length : Int) - 1 = (l : Int) := by omega
      rw [this]; exact IntWalk.i64_in _ (by omega)
    have q0' : (L.length : Int) - 1 = (l : Int) := by omega
    have l0 : (0 : Int) ≤ (l : Int) := by omega
    have l1 : (l : Int) < (L.length : Int) := by omega
    rcases Nat.eq_zero_or_pos k with h0 | h0
    · subst h0
      obtain ⟨x, hx⟩ : ∃ y, L.getD l 0 = y := ⟨_, rfl⟩
      rw [hx] at hlast
      have HR := Lib.hid (show befFrom L key L.length = x by
        rw [HA.out]
        show L.getD (L.length - 1) 0 = x
        rw [HL.out]; exact hx)
      have hneg : ¬ (0 : Int) ≤ ((0 : Nat) : Int) - 1 := by omega
      clear hcell hx hbel hl
      go_wp2
      go_ret
      exact ⟨ret_int HR.out.symm, HB.out⟩
    · obtain ⟨j, hkj⟩ : ∃ j, k = j + 1 := ⟨k - 1, by omega⟩
      have h1 := (hbel.cell (p := ⟨b, o + j, none⟩) hb).trans (hcell j (by omega))
      obtain ⟨x, hx⟩ : ∃ y, L.getD j 0 = y := ⟨_, rfl⟩
      rw [hx] at h1
      have HX := Lib.hid hx
      have e1 : (k : Int) - 1 = (j : Int) := by omega
      have hjl : j < L.length := by omega
      rw [e1]
      have i0 : (0 : Int) ≤ (j : Int) := by omega
      have i1 : (j : Int) < (L.length : Int) := by omega
      have q1 : IntKind.i64.wrap ((j : Int) - 1) = (j : Int) - 1 := IntWalk.i64_in _ (by omega)
      have HKJ := Lib.hid hkj
      clear hcell hx hbel hl e1 hkj hlast
      obtain hge | hge : decide (x < key) = true ∨ decide (x < key) = false := by cases decide (x < key) <;> simp
      · have hlt : x < key := by simpa using hge
        have HR := Lib.hid (show befFrom L key L.length = x by
          rw [HA.out, HKJ.out]
          show (if L.getD j 0 < key then L.getD j 0 else befFrom L key j) = x
          rw [HX.out, if_pos hlt])
        clear hge q0 q0'
        go_wp2
        go_ret
        exact ⟨ret_int HR.out.symm, HB.out⟩
      · have hlt : ¬ x < key := by simpa using hge
        have HR := Lib.hid (show befFrom L key L.length = befFrom L key j by
          rw [HA.out, HKJ.out]
          show (if L.getD j 0 < key then L.getD j 0 else befFrom L key j) = _
          rw [HX.out, if_neg hlt])
        clear hge q0 q0'
        go_wp2
        go_roundg (j + 1)
        case rel => exact ⟨j, by omega, rfl, rfl, Lib.hid HR.out, HB.out⟩
        case measure => have := HKJ.out; omega

theorem iDistance_is (a b d : Int) (ha : okP a = true) (hb : okP b = true) (hd : dist a b = d) (w : World) :
    Calls Try.prog 9 #[.int .i64 a, .int .i64 b] w fun e w' => e = .returned (.int .i64 d) ∧ Below w.heap.size w w' := by
  have := iDistance_any a b w
  rw [ha, hb] at this
  simp only [Bool.and_self, if_true, hd] at this
  exact this

theorem iBetween_is (a x b : Int) (c : Bool) (h : cbtw a x b = c) (w : World) :
    Calls Try.prog 43 #[.int .i64 a, .int .i64 x, .int .i64 b] w fun e w' => e = .returned (.bool c) ∧ Below w.heap.size w w' := by
  subst h; exact iBetween_any a x b w

end Go.Proofs.Ytagpkemlndkcjaa
