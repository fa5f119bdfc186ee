/-
  Contracts: NodesValid, RingIds, RingNew, RingIdeal of the program.
-/
import Derived.Test.YtnoamohpkngbdaaDraw2
import Derived.Test.YtnoamohpkngbdaaISame
import Derived.Test.YtnoamohpkngbdaaIIds
import Derived.Test.YtnoamohpkngbdaaIRv
import Derived.Test.YtnoamohpkngbdaaIPr
import Derived.Deep.RegionLaw
import Derived.Deep.RegionLawGrows
namespace Go.Proofs.Ytnoamohpkngbdaa
open Go.RowKit

theorem inRange_any (n lo hi : Int) (w : World) :
    Calls Try.prog 68 #[.int .i64 n, .int .i64 lo, .int .i64 hi] w fun e w' => e = .returned (.bool (inR n lo hi)) ∧ w = w' := by
  unfold inR
  by_cases h : lo ≤ n
  all_goals
    go_enter Try.func68, Try.ntmps68
    go_wp2
    go_ret
    simp
    try omega

theorem posok_is (x : Int) (c : Bool) (h : okP x = c) (w : World) :
    Calls Try.prog 52 #[.int .i64 x] w fun e w' => e = .returned (.bool c) ∧ w = w' := by
  subst h; exact posok_any x w

set_option maxHeartbeats 1000000 in
theorem ascPos_any (v : Value) (xs : List Int) (w : World) (hv : IntsAt w v xs) :
    Calls Try.prog 69 #[v] w fun e w' => e = .returned (.bool (allBelow (ndAt xs) xs.length)) ∧ Below w.heap.size w w' := by
  obtain ⟨p, cap, rfl, hc, hm, h4⟩ := hv
  unfold maxLen at hm
  go_enter Try.func69, Try.ntmps69
  go_wp2
  go_loopg [2, 3, 4, 7] (xs.length) (fun m _ _ _ i wr => ∃ k : Nat, k ≤ xs.length ∧ m = xs.length - k ∧ i = .int .i64 k ∧ Hid (allBelow (ndAt xs) k = true) ∧ Below w.heap.size w wr)
  case atStart => exact ⟨0, Nat.zero_le _, rfl, rfl, Lib.hid rfl, Below.refl _ _⟩
  case round =>
    obtain ⟨k, hk, rfl, rfl, HA, hbel⟩ := hrel
    by_cases hlt : k < xs.length
    · rcases h4 with ⟨rfl, -⟩ | ⟨b, o, rfl, hb, hcell⟩
      · simp at hlt
      have h1 := (hbel.cell (p := ⟨b, o + k, none⟩) hb).trans (hcell k hlt)
      have h0 : 0 < k → wr.cell? ⟨b, o + (k - 1), none⟩ = some (.int .i64 (xs.getD (k - 1) 0)) := fun _ => (hbel.cell (p := ⟨b, o + (k - 1), none⟩) hb).trans (hcell (k - 1) (by omega))
      obtain ⟨x, hx⟩ : ∃ y, xs.getD k 0 = y := ⟨_, rfl⟩
      obtain ⟨y, hy⟩ : ∃ y, xs.getD (k - 1) 0 = y := ⟨_, rfl⟩
      have HR := Lib.hid (show ndAt xs k = (okP x && (decide (k = 0) || decide (y < x))) by unfold ndAt; rw [hx, hy])
      have HB := Lib.hid hbel
      rw [hx] at h1
      rw [hy] at h0
      have i0 : (0 : Int) ≤ (k : Int) := by omega
      have i1 : (k : Int) < (xs.length : Int) := by omega
      clear hcell hx hy hbel
      cases ho : okP x
      · have HO := Lib.hid ho
        have HF := Lib.hid (show ndAt xs k = false by rw [HR.out, ho]; rfl)
        clear ho h0
        go_wp2_with (go_at_call 52; refine (posok_is x _ HO.out _).mono ?_; rintro e w' ⟨rfl, rfl⟩)
        go_ret
        exact ⟨ret_bool (by rw [allBelow_false hlt HF.out]), HB.out⟩
      have HO := Lib.hid ho
      clear ho
      rcases Nat.eq_zero_or_pos k with hk0 | hk0
      · subst hk0
        rw [Nat.add_zero] at h1
        have HT := Lib.hid (show ndAt xs 0 = true by rw [HR.out, HO.out]; rfl)
        clear h0
        go_wp2_with (go_at_call 52; refine (posok_is x _ HO.out _).mono ?_; rintro e w' ⟨rfl, rfl⟩)
        go_roundg (xs.length - (0 + 1))
        case rel => exact ⟨0 + 1, by omega, rfl, by go_num, Lib.hid (allBelow_succ HA.out HT.out), HB.out⟩
        case measure => omega
      · have h2 := h0 hk0
        obtain ⟨j, hkj⟩ : ∃ j, k = j + 1 := ⟨k - 1, by omega⟩
        have i2 : IntKind.i64.wrap ((k : Int) - 1) = (j : Int) := by
          have : (k : Int) - 1 = (j : Int) := by omega
          rw [this]; exact IntWalk.i64_in _ (by omega)
        have i3 : (j : Int) < (xs.length : Int) := by omega
        have i4 : (0 : Int) ≤ (j : Int) := by omega
        rw [show k - 1 = j by omega] at h2
        have HKJ := Lib.hid hkj
        clear h0 hkj
        obtain hge | hge : decide (y ≥ x) = true ∨ decide (y ≥ x) = false := by cases decide (y ≥ x) <;> simp
        · have HF := Lib.hid (show ndAt xs k = false by
            have h : ¬ y < x := by simp at hge; omega
            have h' : ¬ k = 0 := by omega
            rw [HR.out]; simp [h, h'])
          have hge' : x ≤ y := by simpa using hge
          clear hge
          go_wp2_with (go_at_call 52; refine (posok_is x _ HO.out _).mono ?_; rintro e w' ⟨rfl, rfl⟩)
          go_ret
          exact ⟨ret_bool (by rw [allBelow_false hlt HF.out]), HB.out⟩
        · have HT := Lib.hid (show ndAt xs k = true by
            have h : y < x := by simp at hge; omega
            rw [HR.out, HO.out]; simp [h])
          have hge' : ¬ x ≤ y := by simpa using hge
          clear hge
          go_wp2_with (go_at_call 52; refine (posok_is x _ HO.out _).mono ?_; rintro e w' ⟨rfl, rfl⟩)
          go_roundg (xs.length - (k + 1))
          case rel => exact ⟨k + 1, by omega, rfl, by go_num, Lib.hid (allBelow_succ HA.out HT.out), HB.out⟩
          case measure => omega
    · obtain rfl : k = xs.length := by omega
      go_wp2
      go_ret
      exact ⟨ret_bool (by rw [HA.out]), hbel⟩

set_option maxHeartbeats 400000 in
theorem iNodesValid_any (v : Value) (xs : List Int) (w : World) (hv : IntsAt w v xs) :
    Calls Try.prog 42 #[v] w fun e w' => e = .returned (.bool (ndB xs)) ∧ Below w.heap.size w w' := by
  have HV := Lib.hid hv
  obtain ⟨p, cap, rfl, hc, hm, -⟩ := hv
  unfold maxLen at hm
  have hi : inR (xs.length : Int) 1 10 = (decide (1 ≤ xs.length) && decide (xs.length ≤ 10)) := by unfold inR; congr 1 <;> (rw [decide_eq_decide]; omega)
  cases hc2 : (decide (1 ≤ xs.length) && decide (xs.length ≤ 10))
  · rw [hc2] at hi
    have HI := Lib.hid hi
    have HC := Lib.hid hc2
    clear hi hc2
    go_enter Try.func42, Try.ntmps42
    go_wp2_with (first | (go_at_call 68; refine (inRange_any _ _ _ _).mono ?_; rw [HI.out]; rintro e w' ⟨rfl, rfl⟩))
    go_ret
    exact ⟨ret_bool (by unfold ndB; rw [HC.out]; rfl), Below.refl _ _⟩
  · rw [hc2] at hi
    have HI := Lib.hid hi
    have HC := Lib.hid hc2
    clear hi hc2
    go_enter Try.func42, Try.ntmps42
    go_wp2_with (first | (go_at_call 68; refine (inRange_any _ _ _ _).mono ?_; rw [HI.out]; rintro e w' ⟨rfl, rfl⟩) | (go_at_call 69; refine (ascPos_any _ xs _ HV.out).mono ?_; rintro e w1 ⟨rfl, hb1⟩))
    go_ret
    exact ⟨ret_bool (by unfold ndB; rw [HC.out]; rfl), hb1⟩

/-- Behind the inner loop's round j of RingNew. -/
def NewRow (N0 : Nat) (x0 x1 x2 x3 : Int) (wr w2 : World) (j : Nat) (va : Value) : Prop :=
  w2.cell? ⟨N0, 0, none⟩ = some (.int .i64 x0) ∧ w2.cell? ⟨N0, 1, none⟩ = some (.int .i64 x1) ∧ w2.cell? ⟨N0, 2, none⟩ = some va ∧ (∀ q, w2.frozen? ⟨N0, q, none⟩ = false) ∧
    w2.ownsRow (N0 + 1) 3 1 va j (([x2, x3].take j).map (Value.int .i64)) ∧ Below N0 wr w2 ∧ N0 < w2.heap.size

theorem newsInt (W : World) (c : Value) (t : TypeId) (N : Nat) (hN : N = W.heap.size) (h0 : c.oneCell' = true) :
    ([c] : List Value).length = 1 * 1 ∧ (∀ j u, ([c] : List Value)[j]? = some u → (W.alloc (.cells #[c] t)).cell? ((⟨N, 0, none⟩ : Addr).add j) = some u) ∧ ∀ u ∈ ([c] : List Value), u.oneCell' = true :=
  ⟨rfl, cell_one_newN W c t N hN, fun u hu => by simp at hu; rw [hu]; exact h0⟩
theorem NewRow.grown {N0 j : Nat} {x0 x1 x2 x3 y : Int} {wo w2 A w5 : World} {va v' : Value} (h : NewRow N0 x0 x1 x2 x3 wo w2 j va) (hA : Below w2.heap.size w2 A) (hy : [x2, x3].take (j + 1) = [x2, x3].take j ++ [y])
    (hown : w5.ownsRow (N0 + 1) 3 1 v' (j + 1) (([x2, x3].take j).map (Value.int .i64) ++ [.int .i64 y])) (hg : A.grownBy w5 va.ownBlock) (hBo : N0 = wo.heap.size) :
    w5.cell? ⟨N0, 2, none⟩ = some va ∧ (∀ q, w5.frozen? ⟨N0, q, none⟩ = false) ∧ NewRow N0 x0 x1 x2 x3 wo (w5.setCell ⟨N0, 2, none⟩ v') (j + 1) v' := by
  obtain ⟨m0, m1, m2, mf, mown, mbel, mlt⟩ := h
  have hne : va.ownBlock ≠ some N0 := fun e => by have := (mown.lt N0 e).1; omega
  have hb : w5.heap[N0]? = w2.heap[N0]? := (hg.block N0 (Nat.lt_of_lt_of_le mlt hA.size) (fun e => hne e.symm)).trans (hA.block N0 mlt)
  have hc : ∀ q, w5.cell? ⟨N0, q, none⟩ = w2.cell? ⟨N0, q, none⟩ := fun q => World.cell?_of_block hb
  have hf : ∀ q, w5.frozen? ⟨N0, q, none⟩ = false := fun q => (World.frozen?_of_block (a := ⟨N0, q, none⟩) hb).trans (mf q)
  have hA0 : Below N0 w2 A := hA.mono (by omega)
  have h5 : Below N0 wo w5 := (mbel.trans hA0).grown hg (by have := hA.size; omega) (fun q hq => by have := (mown.lt q hq).1; omega)
  have hl5 : N0 < w5.heap.size := by have := hg.size; have := hA.size; omega
  refine ⟨(hc 2).trans m2, hf, ?_, ?_, ?_, fun q => (World.frozen?_setCell _ _ _ _).trans (hf q), ?_, h5.setCell (p := ⟨N0, 2, none⟩) (Nat.le_refl _) v', by simpa [World.setCell] using hl5⟩
  · rw [World.cell?_setCell_other _ _ _ _ (by simp)]; exact (hc 0).trans m0
  · rw [World.cell?_setCell_other _ _ _ _ (by simp)]; exact (hc 1).trans m1
  · exact World.cell?_setCell_same _ _ _ (by rw [(hc 2), m2])
  · rw [hy, List.map_append]
    exact ownsRow_setCell_other hown (fun e => by have := (hown.lt N0 e).1; omega) _

set_option maxHeartbeats 4000000 in
theorem iRingNew_any (v : Value) (L : List Int) (w : World) (hv : IntsAt w v L) :
    Calls Try.prog 16 #[v] w fun e w' => ∃ u, e = .returned (.tuple #[u, .bool (rNewOk L)]) ∧ RingOwn w' w.heap.size u (rNew L) ∧ Below w.heap.size w w' := by
  have HV := Lib.hid hv
  unfold rNew
  cases hnd : ndB L
  · have HN := Lib.hid hnd
    have hno : rNewOk L = false := by unfold rNewOk; rw [hnd]; rfl
    rw [hno]
    obtain ⟨p, cap, rfl, hc, hm, h4⟩ := hv
    unfold maxLen at hm
    clear hnd hno
    go_enter Try.func16, Try.ntmps16
    go_wp2_with (first | (go_at_call 42; refine (iNodesValid_any _ L _ HV.out).mono ?_; rw [HN.out]; rintro e w1 ⟨rfl, hb1⟩))
    go_ret2
    exact ⟨_, rfl, RingOwn.nil _ _, hb1⟩
  have HN := Lib.hid hnd
  have hnode := (ndB_iff.1 hnd).2
  have hl10 := hnode.1
  by_cases hl3 : L.length < 3
  · have hno : rNewOk L = false := by unfold rNewOk; rw [hnd, decide_eq_false (by omega)]; rfl
    rw [hno]
    obtain ⟨p, cap, rfl, hc, hm, h4⟩ := hv
    unfold maxLen at hm
    clear hnd hno hnode
    go_enter Try.func16, Try.ntmps16
    go_wp2_with (first | (go_at_call 42; refine (iNodesValid_any _ L _ HV.out).mono ?_; rw [HN.out]; rintro e w1 ⟨rfl, hb1⟩))
    go_ret2
    exact ⟨_, rfl, RingOwn.nil _ _, hb1⟩
  have hno : rNewOk L = true := by unfold rNewOk; rw [hnd, decide_eq_true (by omega)]; rfl
  rw [hno]
  obtain ⟨p, cap, rfl, hc, hm, h4⟩ := hv
  unfold maxLen at hm
  obtain ⟨n0, ni, nz0, nz1, nz2⟩ := info_parts Try.infoNode
  obtain ⟨i0, hi, hz0, hz1, hz2⟩ := info_parts Try.infoInt
  obtain ⟨n, hn⟩ : ∃ n, L.length = n := ⟨_, rfl⟩
  have h3n : 3 ≤ n := by omega
  have h10n : n ≤ 10 := by omega
  have HLn := Lib.hid hn
  rw [hn] at hc
  rw [hn]
  clear hnd hno hnode hl3 hl10 hn
  go_enter Try.func16, Try.ntmps16
  go_wp2_with (first | (go_at_call 42; refine (iNodesValid_any _ L _ (by have := HV.out; rw [HLn.out] at this; exact this)).mono ?_; rw [HN.out]; rintro e w1 ⟨rfl, hb1⟩))
  have hz1w := hb1.size
  go_loopg [4, 6, 7, 8, 9, 22] n (fun m s4 _ _ _ _ s22 wr => ∃ k : Nat, k ≤ n ∧ m = n - k ∧ s22 = .int .i64 k ∧ Hid (RingOwn wr w.heap.size s4 ((idealR L).take k)) ∧ Below w.heap.size w wr)
  case atStart =>
    refine ⟨0, Nat.zero_le _, rfl, rfl, Lib.hid ?_, hb1⟩
    rw [List.take_zero]
    exact RingOwn.nil _ _
  case round =>
    obtain ⟨wo, rfl⟩ : ∃ x, x = wr := ⟨_, rfl⟩
    obtain ⟨k, hk, rfl, rfl, HO, hbel⟩ := hrel
    have hz := hbel.size
    by_cases hlt : k < n
    · rcases h4 with ⟨rfl, -⟩ | ⟨b, o, rfl, hb, hcell⟩
      · have := HLn.out; simp at this; omega
      have hp : 0 < n := by omega
      have hbw : b < wo.heap.size := Nat.lt_of_lt_of_le hb hz
      have e1 : ((k : Int) + (n : Int) - 1).tmod (n : Int) = (((k + n - 1) % n : Nat) : Int) := by
        have : (k : Int) + (n : Int) - 1 = ((k + n - 1 : Nat) : Int) := by omega
        rw [this]; rfl
      have e1' : ((k : Int) + (n : Int) - 1) % (n : Int) = (((k + n - 1) % n : Nat) : Int) := by
        have : (k : Int) + (n : Int) - 1 = ((k + n - 1 : Nat) : Int) := by omega
        rw [this]; rfl
      have e2 : ((k : Int) + 1).tmod (n : Int) = (((k + 1) % n : Nat) : Int) := rfl
      have e3 : ((k : Int) + 2).tmod (n : Int) = (((k + 2) % n : Nat) : Int) := rfl
      have hlL : k < L.length := by have := HLn.out; omega
      have hj1 : (k + n - 1) % n < n := Nat.mod_lt _ hp
      have hj2 : (k + 1) % n < n := Nat.mod_lt _ hp
      have hj3 : (k + 2) % n < n := Nat.mod_lt _ hp
      have c0 := (hbel.cell (p := ⟨b, o + k, none⟩) hb).trans (hcell k hlL)
      have c1 := (hbel.cell (p := ⟨b, o + (k + n - 1) % n, none⟩) hb).trans (hcell ((k + n - 1) % n) (by rw [HLn.out]; exact hj1))
      have c2 := (hbel.cell (p := ⟨b, o + (k + 1) % n, none⟩) hb).trans (hcell ((k + 1) % n) (by rw [HLn.out]; exact hj2))
      have c3 := (hbel.cell (p := ⟨b, o + (k + 2) % n, none⟩) hb).trans (hcell ((k + 2) % n) (by rw [HLn.out]; exact hj3))
      have HT := ideal_take hlL
      unfold idealN at HT
      rw [HLn.out] at HT
      clear hcell
      generalize (k + n - 1) % n = j1 at *
      generalize (k + 1) % n = j2 at *
      generalize (k + 2) % n = j3 at *
      generalize L.getD k 0 = x0 at *
      generalize L.getD j1 0 = x1 at *
      generalize L.getD j2 0 = x2 at *
      generalize L.getD j3 0 = x3 at *
      have HT' := Lib.hid HT
      obtain ⟨R, hR⟩ : ∃ R, (idealR L).take k = R := ⟨_, rfl⟩
      have hRl : R.length = k := by rw [← hR, List.length_take, idealR_len]; omega
      rw [hR] at HO HT'
      have HRl := Lib.hid hRl
      have hRk : R.length ≤ 1000 := by omega
      clear HT hR hRl hlL
      have q1 : IntKind.i64.wrap ((k : Int) + (n : Int)) = (k : Int) + (n : Int) := IntWalk.i64_in _ (by omega)
      have q2 : IntKind.i64.wrap ((k : Int) + (n : Int) - 1) = (k : Int) + (n : Int) - 1 := IntWalk.i64_in _ (by omega)
      have q3 : IntKind.i64.wrap ((k : Int) + 1) = (k : Int) + 1 := IntWalk.i64_in _ (by omega)
      have q4 : IntKind.i64.wrap ((k : Int) + 2) = (k : Int) + 2 := IntWalk.i64_in _ (by omega)
      have i00 : (0 : Int) ≤ (k : Int) := by omega
      have i01 : (k : Int) < (n : Int) := by omega
      have i10 : (0 : Int) ≤ (j1 : Int) := by omega
      have i11 : (j1 : Int) < (n : Int) := by omega
      have i20 : (0 : Int) ≤ (j2 : Int) := by omega
      have i21 : (j2 : Int) < (n : Int) := by omega
      have i30 : (0 : Int) ≤ (j3 : Int) := by omega
      have i31 : (j3 : Int) < (n : Int) := by omega
      have hn0 : (n : Int) ≠ 0 := by omega
      have hn0n : n ≠ 0 := by omega
      have hn0' : ((n : Int) == 0) = false := beq_eq_false_iff_ne.2 hn0
      obtain ⟨vs, hvl, hov, hoa, hod⟩ := HO.out
      have HVL := Lib.hid hvl
      have HOV := Lib.hid hov
      have HOA := Lib.hid hoa
      have HOD := Lib.hid hod
      have C2 := Lib.hid c2
      have C3 := Lib.hid c3
      clear hvl hov hoa hod c2 c3
      go_wp2_with fail
      go_loopg [9] 2 (fun m s9 w2 => ∃ va, (m = 2 ∧ s9 = .int .i64 1 ∧ NewRow wo.heap.size x0 x1 x2 x3 wo w2 0 va) ∨ (m = 1 ∧ s9 = .int .i64 2 ∧ NewRow wo.heap.size x0 x1 x2 x3 wo w2 1 va) ∨ (m = 0 ∧ s9 = .int .i64 3 ∧ NewRow wo.heap.size x0 x1 x2 x3 wo w2 2 va))
      case atStart => exact ⟨.slice none 0 0, .inl ⟨rfl, rfl, by simp, by simp, by simp, fun q => by simp, World.ownsRow_nil _ _ _ _, (Below.refl _ _).alloc (Nat.le_refl _) _, by simp⟩⟩
      case round =>
        obtain ⟨va, hcase⟩ := hrel
        rcases hcase with ⟨rfl, rfl, hN⟩ | ⟨rfl, rfl, hN⟩ | ⟨rfl, rfl, hN⟩
        · have HNR := Lib.hid hN
          obtain ⟨m0, m1, m2, mf, mown, mbel, mlt⟩ := hN
          have d2 := (mbel.cell (p := ⟨b, o + j2, none⟩) hbw).trans C2.out
          clear m0 m1 mbel
          go_wp2_with fail
          go_region_law ((refine step_append_any (by rfl) (.tmp 43) (.tmp 52) 23 (by rfl) (wo.heap.size + 1) 3 i0 (.int .i64 0) 1 8 Try.underlying23 hi hz0 hz1 hz2 (by rfl) (by decide) va 0 [] (by rfl) (by exact mown.alloc _) ⟨wr.heap.size, 0, none⟩ 1 1 [.int .i64 x2] (by rfl) (by exact newsInt wr (.int .i64 x2) _ _ rfl rfl) (by unfold maxLen; omega) (by omega) (by simp; omega) ?_; intro v5 w5 hown5 hgrow5 hnil5; obtain ⟨g5', cg5, rfl, -⟩ := own_form hown5 (fun e => by have := (hnil5.1 e).2; omega); have g5 : (wr.alloc (.cells #[.int .i64 x2] 3)).grownBy w5 va.ownBlock := ⟨hgrow5.os, hgrow5.tape, hgrow5.output, hgrow5.size, hgrow5.block⟩; obtain ⟨s2, sf, sn⟩ := HNR.out.grown ((Below.refl wr.heap.size wr).alloc (Nat.le_refl _) _) (y := x2) rfl hown5 g5 rfl; have SN := Lib.hid sn; clear hown5 hgrow5 hnil5 g5 sn))
          all_goals
            go_wp2
            go_roundg 1
            case rel => exact ⟨_, .inr (.inl ⟨rfl, rfl, SN.out⟩)⟩
            case measure => omega
        · have HNR := Lib.hid hN
          obtain ⟨m0, m1, m2, mf, mown, mbel, mlt⟩ := hN
          have d3 := (mbel.cell (p := ⟨b, o + j3, none⟩) hbw).trans C3.out
          clear m0 m1 mbel
          go_wp2_with fail
          go_region_law ((refine step_append_any (by rfl) (.tmp 43) (.tmp 52) 23 (by rfl) (wo.heap.size + 1) 3 i0 (.int .i64 0) 1 8 Try.underlying23 hi hz0 hz1 hz2 (by rfl) (by decide) va 1 [.int .i64 x2] (by rfl) (by exact mown.alloc _) ⟨wr.heap.size, 0, none⟩ 1 1 [.int .i64 x3] (by rfl) (by exact newsInt wr (.int .i64 x3) _ _ rfl rfl) (by unfold maxLen; omega) (by omega) (by simp; omega) ?_; intro v5 w5 hown5 hgrow5 hnil5; obtain ⟨g5', cg5, rfl, -⟩ := own_form hown5 (fun e => by have := (hnil5.1 e).2; omega); have g5 : (wr.alloc (.cells #[.int .i64 x3] 3)).grownBy w5 va.ownBlock := ⟨hgrow5.os, hgrow5.tape, hgrow5.output, hgrow5.size, hgrow5.block⟩; obtain ⟨s2, sf, sn⟩ := HNR.out.grown ((Below.refl wr.heap.size wr).alloc (Nat.le_refl _) _) (y := x3) rfl hown5 g5 rfl; have SN := Lib.hid sn; clear hown5 hgrow5 hnil5 g5 sn))
          all_goals
            go_wp2
            go_roundg 0
            case rel => exact ⟨_, .inr (.inr ⟨rfl, rfl, SN.out⟩)⟩
            case measure => omega
        · obtain ⟨m0, m1, m2, mf, mown, mbel, mlt⟩ := hN
          obtain ⟨gv, cv, rfl, -⟩ := own_form mown (fun e => by
            rcases mown.2 with ⟨-, h0⟩ | ⟨g, cap, cur, e2, -⟩
            · omega
            · rw [e2] at e; cases e)
          have hov2 := ownsRow_below HOV.out mbel (Nat.le_refl _)
          have HOA2 := Lib.hid (fun i (hi : i < R.length) => ownsRow_below (HOA.out i hi) mbel (Nat.le_refl _))
          have HMO := Lib.hid mown
          have hbel2 := hbel.trans (mbel.mono hz)
          have hz2w := hbel2.size
          clear mown e1 e1' e2 e3 q1 q2 q3 q4
          go_wp2_with (at_builtin; (refine wpList_append_own _ rfl _ _ 25 rfl w.heap.size 35 n0 (.agg #[.int .i64 0, .int .i64 0, .slice none 0 0]) 3 40 Try.underlying25 ni nz0 nz1 nz2 rfl (by decide) _ R.length (flatN R vs) rfl (hov2.alloc _) ⟨wr.heap.size, 0, none⟩ 1 1 [.int .i64 x0, .int .i64 x1, .slice (some ⟨gv, 0, none⟩) 2 cv] rfl rfl (newsNode wr _ _ _ _ _ rfl rfl rfl rfl).2.1 (newsNode wr _ _ _ 35 _ rfl rfl rfl rfl).2.2 (by unfold maxLen; omega) (by omega) (by simp; omega) ?_); intro v9 w9 hown9 hgrow9 _)
          have g9 : (wr.alloc (.cells #[.int .i64 x0, .int .i64 x1, .slice (some ⟨gv, 0, none⟩) 2 cv] 35)).grownBy w9 _ := hgrow9
          have hO9 := RingOwn.push (n := ⟨x0, x1, [x2, x3]⟩) HVL.out (hov2.alloc _) (fun i hi => (HOA2.out i hi).alloc _) HOD.out (fun i hi q hq => Nat.lt_of_lt_of_le ((HOA.out i hi).lt q hq).2 (Nat.le_succ _)) (by omega) (HMO.out.alloc _) hown9 g9
          have hb9 := (hbel2.alloc hz2w (.cells #[.int .i64 x0, .int .i64 x1, .slice (some ⟨gv, 0, none⟩) 2 cv] 35)).grown g9 (by simp; omega) (fun q hq => (HOV.out.lt q hq).1)
          go_roundg (n - (k + 1))
          case rel => exact ⟨k + 1, by omega, rfl, by go_num, Lib.hid (by rw [HT'.out]; exact hO9), hb9⟩
          case measure => omega
    · have hkn : k = n := by omega
      subst hkn
      have hall : (idealR L).take k = idealR L := List.take_of_length_le (by rw [idealR_len, HLn.out]; exact Nat.le_refl _)
      rw [hall] at HO
      go_wp2
      go_ret2
      exact ⟨_, rfl, HO.out, hbel⟩

end Go.Proofs.Ytnoamohpkngbdaa
