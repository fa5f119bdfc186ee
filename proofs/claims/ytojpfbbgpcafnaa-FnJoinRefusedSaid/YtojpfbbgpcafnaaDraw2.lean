/-
  Contracts: NodesValid, l3Ideal and RingNew of the reference.
-/
import Derived.Test.YtojpfbbgpcafnaaDraw1
import Derived.Test.YtojpfbbgpcafnaaSJoin
import Derived.Test.YtojpfbbgpcafnaaPlain
import Derived.Test.YtojpfbbgpcafnaaSStabR
namespace Go.Proofs.Ytojpfbbgpcafnaa
open Go.RowKit

def ndAt (xs : List Int) (k : Nat) : Bool := okP (xs.getD k 0) && (decide (k = 0) || decide (xs.getD (k - 1) 0 < xs.getD k 0))
def ndB (xs : List Int) : Bool := decide (1 ≤ xs.length) && decide (xs.length ≤ 10) && allBelow (ndAt xs) xs.length
theorem ndB_iff {xs : List Int} : ndB xs = true ↔ 1 ≤ xs.length ∧ nodesOk xs := by
  unfold ndB nodesOk ndAt
  simp only [Bool.and_eq_true, decide_eq_true_eq, allBelow_of, Bool.or_eq_true]
  constructor
  · rintro ⟨⟨h1, h2⟩, h3⟩
    refine ⟨h1, h2, fun i hi => (h3 i hi).1, ?_⟩
    intro i j
    induction j with
    | zero => intro h; omega
    | succ j ih =>
      intro hij hj
      have h4 : xs.getD j 0 < xs.getD (j + 1) 0 := by
        rcases (h3 (j + 1) hj).2 with h | h
        · omega
        · simpa using h
      by_cases e : i = j
      · subst e; exact h4
      · have := ih (by omega) (by omega)
        omega
  · rintro ⟨h1, h2, h3, h4⟩
    refine ⟨⟨h1, h2⟩, fun i hi => ⟨h3 i hi, ?_⟩⟩
    by_cases e : i = 0
    · exact .inl e
    · exact .inr (h4 (i - 1) i (by omega) hi)

set_option maxHeartbeats 1000000 in
theorem l1Nodes_any (v : Value) (xs : List Int) (w : World) (hv : IntsAt w v xs) :
    Calls Try.prog 124 #[v] w fun e w' => e = .returned (.bool (allBelow (ndAt xs) xs.length)) ∧ Below w.heap.size w w' := by
  obtain ⟨p, cap, rfl, hc, hm, h4⟩ := hv
  unfold maxLen at hm
  go_enter Try.func124, Try.ntmps124
  go_wp2
  go_loopg [2, 3] (xs.length) (fun m _ i wr => ∃ k : Nat, k ≤ xs.length ∧ m = xs.length - k ∧ i = .int .i64 k ∧ Hid (allBelow (ndAt xs) k = true) ∧ Below w.heap.size w wr)
  case atStart => exact ⟨0, Nat.zero_le _, rfl, rfl, Lib.hid rfl, Below.refl _ _⟩
  case round =>
    obtain ⟨k, hk, rfl, rfl, HA, hbel⟩ := hrel
    by_cases hlt : k < xs.length
    · rcases h4 with ⟨rfl, -⟩ | ⟨b, o, rfl, hb, hcell⟩
      · simp at hlt
      have h1 := (hbel.cell (p := ⟨b, o + k, none⟩) hb).trans (hcell k hlt)
      have h0 : 0 < k → wr.cell? ⟨b, o + (k - 1), none⟩ = some (.int .i64 (xs.getD (k - 1) 0)) := fun _ => (hbel.cell (p := ⟨b, o + (k - 1), none⟩) hb).trans (hcell (k - 1) (by omega))
      obtain ⟨x, hx⟩ : ∃ y, xs.getD k 0 = y := ⟨_, rfl⟩
      obtain ⟨y, hy⟩ : ∃ y, xs.getD (k - 1) 0 = y := ⟨_, rfl⟩
      have HR := Lib.hid (show ndAt xs k = (okP x && (decide (k = 0) || decide (y < x))) by unfold ndAt; rw [hx, hy])
      rw [hx] at h1
      rw [hy] at h0
      clear hcell hx hy
      go_wp2_with fail
      go_cut [31] (fun s wx => ∃ c, s = .bool c ∧ Hid (c = !ndAt xs k) ∧ ∃ nq, wx = wr.drewN nq)
      case first =>
        refine wp_region_quiet_lit (by kernel_rfl) (by kernel_rfl) ?_
        repeat (any_goals (first | go_big_quiet_step ((go_at_call 78; exact Calls.quiet_left (l1Point_any _ _))) | quiet_step ((go_at_call 78; exact Calls.quiet_left (l1Point_any _ _))) | (refine wpQuiet_step (fun K hK => ?_); go_simp; split <;> (refine hK _ ?_; clear hK K))))
        all_goals
          refine wpQuiet_nil ?_
          intro _ hw'
          obtain ⟨nq, hw''⟩ := hw'
          subst hw''
          go_wp2
          go_meet
          refine ⟨_, rfl, Lib.hid ?_, nq, rfl⟩
          rw [HR.out]
          first | (simp [*]; done) | (simp [*]; omega) | (simp [*]; rw [Bool.eq_iff_iff]; simp; omega)
      case rest =>
        obtain ⟨c, rfl, hcc, nq, rfl⟩ := hcut
        have HB2 := Lib.hid (below_drewN hbel nq)
        cases c
        rotate_left
        · go_wp2
          go_ret
          exact ⟨ret_bool (by rw [allBelow_false hlt (by have := hcc.out; simpa using this)]), HB2.out⟩
        · go_wp2
          go_roundg (xs.length - (k + 1))
          case rel => exact ⟨k + 1, by omega, rfl, by go_num, Lib.hid (allBelow_succ HA.out (by have := hcc.out; simpa using this)), HB2.out⟩
          case measure => omega
    · obtain rfl : k = xs.length := by omega
      go_wp2
      go_ret
      exact ⟨ret_bool (by rw [HA.out]), hbel⟩

set_option maxHeartbeats 400000 in
theorem sNodesValid_any (v : Value) (xs : List Int) (w : World) (hv : IntsAt w v xs) :
    Calls Try.prog 115 #[v] w fun e w' => e = .returned (.bool (ndB xs)) ∧ Below w.heap.size w w' := by
  have HV := Lib.hid hv
  obtain ⟨p, cap, rfl, hc, hm, -⟩ := hv
  unfold maxLen at hm
  have hi : inR (xs.length : Int) 1 10 = (decide (1 ≤ xs.length) && decide (xs.length ≤ 10)) := by unfold inR; congr 1 <;> (rw [decide_eq_decide]; omega)
  cases hc2 : (decide (1 ≤ xs.length) && decide (xs.length ≤ 10))
  · rw [hc2] at hi
    have HI := Lib.hid hi
    have HC := Lib.hid hc2
    clear hi hc2
    go_enter Try.func115, Try.ntmps115
    go_wp2_with (first | (go_at_call 103; refine (l6In_any _ _ _ _).mono ?_; rw [HI.out]; rintro e w' ⟨rfl, rfl⟩))
    go_ret
    exact ⟨ret_bool (by unfold ndB; rw [HC.out]; rfl), Below.refl _ _⟩
  · rw [hc2] at hi
    have HI := Lib.hid hi
    have HC := Lib.hid hc2
    clear hi hc2
    go_enter Try.func115, Try.ntmps115
    go_wp2_with (first | (go_at_call 103; refine (l6In_any _ _ _ _).mono ?_; rw [HI.out]; rintro e w' ⟨rfl, rfl⟩) | (go_at_call 124; refine (l1Nodes_any _ xs _ HV.out).mono ?_; rintro e w1 ⟨rfl, hb1⟩))
    go_ret
    exact ⟨ret_bool (by unfold ndB; rw [HC.out]; rfl), hb1⟩

theorem ideal_take {L : List Int} {k : Nat} (h : k < L.length) : (idealR L).take (k + 1) = (idealR L).take k ++ [idealN L k] := by
  have hl : k < (idealR L).length := by rw [idealR_len]; exact h
  rw [List.take_succ_eq_append_getElem hl]
  have := idealR_at h
  simp only [List.getD_eq_getElem?_getD, List.getElem?_eq_getElem hl, Option.getD_some] at this
  rw [this]

theorem newsNode (W : World) (c0 c1 c2 : Value) (t : TypeId) (N : Nat) (hN : N = W.heap.size) (h0 : c0.oneCell' = true) (h1 : c1.oneCell' = true) (h2 : c2.oneCell' = true) :
    ([c0, c1, c2] : List Value).length = 1 * 3 ∧ (∀ j u, ([c0, c1, c2] : List Value)[j]? = some u → (W.alloc (.cells #[c0, c1, c2] t)).cell? ((⟨N, 0, none⟩ : Addr).add j) = some u) ∧ ∀ u ∈ ([c0, c1, c2] : List Value), u.oneCell' = true := by
  obtain ⟨a, b, c⟩ := srcIs_new W c0 c1 c2 t N hN h0 h1 h2
  rcases c with ⟨h, -⟩ | ⟨ad, c, h, h'⟩
  · cases h
  · cases h; exact ⟨a, h', b⟩

set_option maxHeartbeats 4000000 in
theorem l3Ideal_any (v : Value) (L : List Int) (w : World) (hv : IntsAt w v L) (hbig : L.length ≤ 1000) :
    Calls Try.prog 116 #[v] w fun e w' => ∃ u, e = .returned u ∧ RingOwn w' w.heap.size u (idealR L) ∧ Below w.heap.size w w' := by
  obtain ⟨p, cap, rfl, hc, hm, h4⟩ := hv
  unfold maxLen at hm
  obtain ⟨n0, ni, nz0, nz1, nz2⟩ := info_parts Try.infoNode
  go_enter Try.func116, Try.ntmps116
  go_wp2
  go_loopg [3, 5] (L.length) (fun m s3 s5 wr => ∃ k : Nat, k ≤ L.length ∧ m = L.length - k ∧ s5 = .int .i64 k ∧ Hid (RingOwn wr w.heap.size s3 ((idealR L).take k)) ∧ Below w.heap.size w wr)
  case atStart =>
    refine ⟨0, Nat.zero_le _, rfl, rfl, Lib.hid ?_, (Below.refl _ _).alloc (Nat.le_refl _) _⟩
    rw [List.take_zero]
    exact RingOwn.made w _ rfl
  case round =>
    obtain ⟨k, hk, rfl, rfl, HO, hbel⟩ := hrel
    have hz := hbel.size
    by_cases hlt : k < L.length
    · rcases h4 with ⟨rfl, -⟩ | ⟨b, o, rfl, hb, hcell⟩
      · simp at hlt
      obtain ⟨n, hn⟩ : ∃ n, L.length = n := ⟨_, rfl⟩
      have hp : 0 < n := by omega
      have hbw : b < wr.heap.size := Nat.lt_of_lt_of_le hb hz
      have e1 : ((k : Int) + (n : Int) - 1).tmod (n : Int) = (((k + n - 1) % n : Nat) : Int) := by
        have : (k : Int) + (n : Int) - 1 = ((k + n - 1 : Nat) : Int) := by omega
        rw [this]; rfl
      have e2 : ((k : Int) + 1).tmod (n : Int) = (((k + 1) % n : Nat) : Int) := rfl
      have e3 : ((k : Int) + 2).tmod (n : Int) = (((k + 2) % n : Nat) : Int) := rfl
      have c0 := (hbel.cell (p := ⟨b, o + k, none⟩) hb).trans (hcell k hlt)
      have c1 := (hbel.cell (p := ⟨b, o + (k + n - 1) % n, none⟩) hb).trans (hcell ((k + n - 1) % n) (by rw [hn]; exact Nat.mod_lt _ hp))
      have c2 := (hbel.cell (p := ⟨b, o + (k + 1) % n, none⟩) hb).trans (hcell ((k + 1) % n) (by rw [hn]; exact Nat.mod_lt _ hp))
      have c3 := (hbel.cell (p := ⟨b, o + (k + 2) % n, none⟩) hb).trans (hcell ((k + 2) % n) (by rw [hn]; exact Nat.mod_lt _ hp))
      have hj1 : (k + n - 1) % n < n := Nat.mod_lt _ hp
      have hj2 : (k + 1) % n < n := Nat.mod_lt _ hp
      have hj3 : (k + 2) % n < n := Nat.mod_lt _ hp
      have HT := ideal_take hlt
      unfold idealN at HT
      rw [hn] at HT
      have HL := Lib.hid hn
      clear hcell
      rw [hn] at hlt hc
      generalize (k + n - 1) % n = j1 at *
      generalize (k + 1) % n = j2 at *
      generalize (k + 2) % n = j3 at *
      generalize L.getD k 0 = x0 at *
      generalize L.getD j1 0 = x1 at *
      generalize L.getD j2 0 = x2 at *
      generalize L.getD j3 0 = x3 at *
      have HT' := Lib.hid HT
      obtain ⟨R, hR⟩ : ∃ R, (idealR L).take k = R := ⟨_, rfl⟩
      have hRl : R.length = k := by rw [← hR, List.length_take, idealR_len]; have := HL.out; omega
      rw [hR] at HO HT'
      have HRl := Lib.hid hRl
      clear HT hR hRl hn
      rw [HL.out] at hbig ⊢
      have q1 : IntKind.i64.wrap ((k : Int) + (n : Int)) = (k : Int) + (n : Int) := IntWalk.i64_in _ (by omega)
      have q2 : IntKind.i64.wrap ((k : Int) + (n : Int) - 1) = (k : Int) + (n : Int) - 1 := IntWalk.i64_in _ (by omega)
      have q3 : IntKind.i64.wrap ((k : Int) + 1) = (k : Int) + 1 := IntWalk.i64_in _ (by omega)
      have q4 : IntKind.i64.wrap ((k : Int) + 2) = (k : Int) + 2 := IntWalk.i64_in _ (by omega)
      have i0 : (0 : Int) ≤ (k : Int) := by omega
      have i0' : (k : Int) < (n : Int) := by omega
      have i1 : (0 : Int) ≤ (j1 : Int) := by omega
      have i1' : (j1 : Int) < (n : Int) := by omega
      have i2 : (0 : Int) ≤ (j2 : Int) := by omega
      have i2' : (j2 : Int) < (n : Int) := by omega
      have i3 : (0 : Int) ≤ (j3 : Int) := by omega
      have i3' : (j3 : Int) < (n : Int) := by omega
      have hRk : R.length ≤ 1000 := by have := HRl.out; omega
      obtain ⟨vs, hvl, hov, hoa, hod⟩ := HO.out
      have HVL := Lib.hid hvl
      have HOV := Lib.hid hov
      have HOA := Lib.hid hoa
      have HOD := Lib.hid hod
      have hBx := ((Below.refl wr.heap.size wr).alloc (Nat.le_refl _) (.cells #[.int .i64 x2, .int .i64 x3] 3)).alloc (by simp) (.cells #[.int .i64 x0, .int .i64 x1, .slice (some ⟨wr.heap.size, 0, none⟩) 2 2] 31)
      have HVA := Lib.hid (show (wr.alloc (.cells #[.int .i64 x2, .int .i64 x3] 3)).ownsRow wr.heap.size 3 1 (.slice (some ⟨wr.heap.size, 0, none⟩) 2 2) 2 ([x2, x3].map (Value.int .i64)) from own_new wr [x2, x3] 3 _ rfl (by simp))
      have hn0 : (n : Int) ≠ 0 := by omega
      clear hvl hov hoa hod
      go_wp2_with fail
      go_region_held_law (fun w' => w'.cell? ⟨b, o + k, none⟩ = some (.int .i64 x0) ∧ w'.cell? ⟨b, o + j1, none⟩ = some (.int .i64 x1) ∧ w'.cell? ⟨b, o + j2, none⟩ = some (.int .i64 x2) ∧ w'.cell? ⟨b, o + j3, none⟩ = some (.int .i64 x3)) (first | go_keep | (exact ⟨(hb3.cell (p := ⟨b, o + k, none⟩) hb).trans ((hbel.cell (p := ⟨b, o + k, none⟩) hb).symm.trans c0), (hb3.cell (p := ⟨b, o + j1, none⟩) hb).trans ((hbel.cell (p := ⟨b, o + j1, none⟩) hb).symm.trans c1), (hb3.cell (p := ⟨b, o + j2, none⟩) hb).trans ((hbel.cell (p := ⟨b, o + j2, none⟩) hb).symm.trans c2), (hb3.cell (p := ⟨b, o + j3, none⟩) hb).trans ((hbel.cell (p := ⟨b, o + j3, none⟩) hb).symm.trans c3)⟩))
        ((refine step_append_any (by rfl) (.tmp 14) (.tmp 44) 23 (by rfl) w.heap.size 31 n0 (.agg #[.int .i64 0, .int .i64 0, .slice none 0 0]) 3 40 Try.underlying23 ni nz0 nz1 nz2 (by rfl) (by decide) u3 R.length (flatN R vs) (by rfl) (by exact (HOV.out.alloc (.cells #[.int .i64 x2, .int .i64 x3] 3)).alloc (.cells #[.int .i64 x0, .int .i64 x1, .slice (some ⟨wr.heap.size, 0, none⟩) 2 2] 31)) ⟨wr.heap.size + 1, 0, none⟩ 1 1 [.int .i64 x0, .int .i64 x1, .slice (some ⟨wr.heap.size, 0, none⟩) 2 2] (by rfl) (by exact newsNode (wr.alloc (.cells #[.int .i64 x2, .int .i64 x3] 3)) _ _ _ _ _ (by simp) rfl rfl rfl) (by unfold maxLen; omega) (by omega) (by simp; omega) ?_; intro v2 w2 hown2 hgrow2 hnil2; have g1 : ((wr.alloc (.cells #[.int .i64 x2, .int .i64 x3] 3)).alloc (.cells #[.int .i64 x0, .int .i64 x1, .slice (some ⟨wr.heap.size, 0, none⟩) 2 2] 31)).grownBy w2 u3.ownBlock := ⟨hgrow2.os, hgrow2.tape, hgrow2.output, hgrow2.size, hgrow2.block⟩; have hO2 := Lib.hid (RingOwn.push (n := ⟨x0, x1, [x2, x3]⟩) HVL.out ((HOV.out.alloc _).alloc _) (fun i hi => ownsRow_below (HOA.out i hi) hBx (Nat.le_refl _)) HOD.out (fun i hi q hq => ((HOA.out i hi).lt q hq).2) hz (HVA.out.alloc _) hown2 g1); have hb3 := (hbel.trans (hBx.mono hz)).grown g1 (by simp; omega) (fun q hq => (HOV.out.lt q hq).1); clear hown2 hnil2))
      all_goals
        clear e1 e2 e3 q1 q2 q3 q4 i0 i0' i1 i1' i2 i2' i3 i3'
        go_wp2
        have hLn := HL.out
        subst hLn
        go_roundg (L.length - (k + 1))
        case rel => exact ⟨k + 1, by omega, rfl, by go_num, Lib.hid (by rw [HT'.out]; exact hO2.out), hb3⟩
        case measure => omega
    · obtain rfl : k = L.length := by omega
      have hall : (idealR L).take L.length = idealR L := List.take_of_length_le (by rw [idealR_len]; exact Nat.le_refl _)
      rw [hall] at HO
      go_wp2
      go_ret
      exact ⟨_, rfl, HO.out, hbel⟩

def rNewOk (L : List Int) : Bool := ndB L && decide (3 ≤ L.length)
def rNew (L : List Int) : List Nd := if rNewOk L then idealR L else []

set_option maxHeartbeats 1000000 in
theorem sRingNew_any (v : Value) (L : List Int) (w : World) (hv : IntsAt w v L) :
    Calls Try.prog 104 #[v] w fun e w' => ∃ u, e = .returned (.tuple #[u, .bool (rNewOk L)]) ∧ RingOwn w' w.heap.size u (rNew L) ∧ Below w.heap.size w w' := by
  have HV := Lib.hid hv
  obtain ⟨p, cap, rfl, hc, hm, -⟩ := hv
  unfold maxLen at hm
  cases hn : ndB L
  · have HN := Lib.hid hn
    have HR := Lib.hid (show rNewOk L = false by unfold rNewOk; rw [hn]; rfl)
    clear hn
    go_enter Try.func104, Try.ntmps104
    go_wp2_with (first | (go_at_call 115; refine (sNodesValid_any _ L _ HV.out).mono ?_; rw [HN.out]; rintro e w1 ⟨rfl, hb1⟩))
    go_ret2
    unfold rNew
    rw [HR.out]
    exact ⟨_, rfl, (RingOwn.made w1 _ rfl).mono hb1.size, hb1.alloc hb1.size _⟩
  · have HN := Lib.hid hn
    have hl10 : L.length ≤ 10 := (ndB_iff.1 hn).2.1
    clear hn
    by_cases h3 : 3 ≤ L.length
    · have HR := Lib.hid (show rNewOk L = true by unfold rNewOk; rw [HN.out, decide_eq_true h3]; rfl)
      go_enter Try.func104, Try.ntmps104
      go_wp2_with (first | (go_at_call 115; refine (sNodesValid_any _ L _ HV.out).mono ?_; rw [HN.out]; rintro e w1 ⟨rfl, hb1⟩) | (go_at_call 116; refine (l3Ideal_any _ L _ (HV.out.below hb1 (Nat.le_refl _)) (by omega)).mono ?_; rintro e w2 ⟨u, rfl, hO, hb2⟩))
      go_ret2
      unfold rNew
      rw [HR.out]
      exact ⟨_, rfl, hO.mono hb1.size, hb1.trans (hb2.mono hb1.size)⟩
    · have HR := Lib.hid (show rNewOk L = false by unfold rNewOk; rw [HN.out, decide_eq_false h3]; rfl)
      have h3' : L.length < 3 := by omega
      go_enter Try.func104, Try.ntmps104
      go_wp2_with (first | (go_at_call 115; refine (sNodesValid_any _ L _ HV.out).mono ?_; rw [HN.out]; rintro e w1 ⟨rfl, hb1⟩))
      go_ret2
      unfold rNew
      rw [HR.out]
      exact ⟨_, rfl, (RingOwn.made w1 _ rfl).mono hb1.size, hb1.alloc hb1.size _⟩

/-- A row of integers of the call's own, never nil. -/
def IntsOwn (w : World) (B : Nat) (v : Value) (xs : List Int) : Prop := w.ownsRow B 3 1 v xs.length (xs.map (Value.int .i64)) ∧ v ≠ .slice none 0 0
theorem IntsOwn.at {w : World} {B : Nat} {v : Value} {xs : List Int} (h : IntsOwn w B v xs) : IntsAt w v xs := intsAt_own h.1
theorem IntsOwn.below {w w' : World} {B C : Nat} {v : Value} {xs : List Int} (h : IntsOwn w B v xs) (hb : Below C w w') (hC : w.heap.size ≤ C) : IntsOwn w' B v xs := ⟨ownsRow_below h.1 hb hC, h.2⟩
theorem IntsOwn.grow {w w' : World} {S : Nat} {v : Value} {xs : List Int} (h : IntsOwn w (S + 1) v xs) (hg : w.grownBy w' (some S)) : IntsOwn w' (S + 1) v xs := ⟨ownsRow_keeps h.1 (keeps_grow hg) (Nat.le_refl _), h.2⟩
theorem IntsOwn.form {w : World} {B : Nat} {v : Value} {xs : List Int} (h : IntsOwn w B v xs) : ∃ g cap, v = .slice (some ⟨g, 0, none⟩) xs.length cap ∧ xs.length ≤ cap ∧ cap ≤ maxLen ∧ B ≤ g ∧ g < w.heap.size ∧ (∀ i, i < xs.length → w.cell? ⟨g, i, none⟩ = some (.int .i64 (xs.getD i 0))) := by
  obtain ⟨g, cap, rfl, h1, h2, h3, h4⟩ := own_form h.1 h.2
  refine ⟨g, cap, rfl, h1, h2, h3, h4, fun i hi => ?_⟩
  obtain ⟨g', c', e, -, -, -, -, k, -⟩ := ownsRow_cell h.1 (j := i) (u := .int .i64 (xs.getD i 0)) (by simp [hi])
  cases e
  exact k
theorem ints_news {w : World} {g k : Nat} {xs : List Int} (h : ∀ i, i < xs.length → w.cell? ⟨g, i, none⟩ = some (.int .i64 (xs.getD i 0))) (hk : k ≤ xs.length) :
    ((xs.take k).map (Value.int .i64)).length = k * 1 ∧ (∀ j u, ((xs.take k).map (Value.int .i64))[j]? = some u → w.cell? ((⟨g, 0, none⟩ : Addr).add j) = some u) ∧ ∀ u ∈ (xs.take k).map (Value.int .i64), u.oneCell' = true := by
  refine ⟨by simp; omega, fun j u hj => ?_, fun u hu => by obtain ⟨_, _, rfl⟩ := List.mem_map.1 hu; rfl⟩
  rw [Addr.add_lit, Nat.zero_add]
  have hj' : j < k := by
    rcases Nat.lt_or_ge j k with h' | h'
    · exact h'
    · rw [List.getElem?_eq_none (by simp; omega)] at hj; cases hj
  rw [h j (by omega)]
  simpa [show j < xs.length by omega, hj'] using hj
theorem ints_news_drop {w : World} {g k : Nat} {xs : List Int} (h : ∀ i, i < xs.length → w.cell? ⟨g, i, none⟩ = some (.int .i64 (xs.getD i 0))) (cap : Nat) (hc : xs.length ≤ cap) :
    ∃ O, (if cap = k then some (⟨g, 0, none⟩ : Addr) else some ⟨g, k, none⟩) = some ⟨g, O, none⟩ ∧
    (((xs.drop k).map (Value.int .i64)).length = (xs.length - k) * 1 ∧ (∀ j u, ((xs.drop k).map (Value.int .i64))[j]? = some u → w.cell? ((⟨g, O, none⟩ : Addr).add j) = some u) ∧ ∀ u ∈ (xs.drop k).map (Value.int .i64), u.oneCell' = true) := by
  have hl : ((xs.drop k).map (Value.int .i64)).length = (xs.length - k) * 1 := by simp
  have h1 : ∀ u ∈ (xs.drop k).map (Value.int .i64), u.oneCell' = true := fun u hu => by obtain ⟨_, _, rfl⟩ := List.mem_map.1 hu; rfl
  by_cases e : cap = k
  · refine ⟨0, by rw [if_pos e], hl, fun j u hj => ?_, h1⟩
    rw [List.getElem?_eq_none (by rw [hl]; omega)] at hj; cases hj
  · refine ⟨k, by rw [if_neg e], hl, fun j u hj => ?_, h1⟩
    rw [Addr.add_lit]
    have hj' : k + j < xs.length := by
      rcases Nat.lt_or_ge (k + j) xs.length with h' | h'
      · exact h'
      · rw [List.getElem?_eq_none (by simp; omega)] at hj; cases hj
    rw [h _ hj']
    simpa [List.getElem?_drop, hj'] using hj

end Go.Proofs.Ytojpfbbgpcafnaa
