/-
  Contracts: hand, granted, LeaseHand of the program.
-/
import Derived.Test.YtdcjacgaakpejaaDoorLsI
import Derived.Test.YtdcjacgaakpejaaDoorLsS
import Derived.Test.YtdcjacgaakpejaaDoorLsB
namespace Go.Proofs.YtdcjacgaakpejaaDoor
open Go.RowKit

/-- What the two package variables hold. -/
structure Laid (w : World) (a0 a1 : Addr) : Prop where
  g0 : w.cell? ⟨0, 0, none⟩ = some (.iface 92 (.pointer (some a0)))
  g1 : w.cell? ⟨1, 0, none⟩ = some (.iface 92 (.pointer (some a1)))
  ne : a0 ≠ a1
  b0 : ∃ c t, w.heap[a0.block]? = some (.cells c t (0, 0))
  b1 : ∃ c t, w.heap[a1.block]? = some (.cells c t (0, 0))
theorem Laid.below {w w' : World} {B : Nat} {a0 a1 : Addr} (h : Laid w a0 a1) (hb : Below B w w') (hB : w.heap.size ≤ B) : Laid w' a0 a1 := by
  obtain ⟨h0, h1, ne, ⟨c, t, h2⟩, ⟨c', t', h3⟩⟩ := h
  have l0 := World.block_lt_of_cell? w _ h0
  have l1 := World.block_lt_of_cell? w _ h1
  have l2 := (Array.getElem?_eq_some_iff.1 h2).1
  have l3 := (Array.getElem?_eq_some_iff.1 h3).1
  exact ⟨(hb.cell (p := ⟨0, 0, none⟩) (Nat.lt_of_lt_of_le l0 hB)).trans h0, (hb.cell (p := ⟨1, 0, none⟩) (Nat.lt_of_lt_of_le l1 hB)).trans h1, ne, ⟨c, t, (hb.block _ (Nat.lt_of_lt_of_le l2 hB)).trans h2⟩, ⟨c', t', (hb.block _ (Nat.lt_of_lt_of_le l3 hB)).trans h3⟩⟩

/-- What hand answers. -/
def HandPost (u : Value) (er : Value) (w : World) (e : Ending) (w' : World) : Prop := e = .returned (.tuple #[u, er]) ∧ Below w.heap.size w w'
def HandRow (B : Nat) (xs : List Tr) (w : World) (e : Ending) (w' : World) : Prop := ∃ u, e = .returned (.tuple #[u, .nilIface]) ∧ TrsOwn w' B 35 u xs ∧ Below w.heap.size w w'

set_option maxHeartbeats 2000000 in
theorem hand_args (v : Value) (xs : List Tr) (fr at' to' un : Int) (a0 a1 : Addr) (w : World) (hv : TrsAt w v xs) (hL : Laid w a0 a1) (hno : lsArgs xs fr at' to' un = false) :
    Calls Tryd.prog 29 #[v, .int .i64 fr, .int .i64 at', .int .i64 to', .int .i64 un] w (HandPost (.slice none 0 0) (.iface 92 (.pointer (some a0))) w) := by
  have HV := Lib.hid hv
  have HL := Lib.hid hL
  obtain ⟨p, cap, rfl, hc1, hc2⟩ := hv.form
  clear hv hL
  unfold lsArgs at hno
  cases h1 : lsValid xs
  · have H1 := Lib.hid h1
    clear h1 hno
    go_enter Tryd.func29, Tryd.ntmps29
    go_wp2_with (go_at_call 21; refine (iLeasesValid_any _ xs _ (by exact HV.out)).mono ?_; rw [H1.out]; rintro e w1 ⟨rfl, hb1⟩; have k0 := (HL.out.below hb1 (Nat.le_refl _)).g0)
    go_quiet (fail)
    go_wp2
    go_ret2
    exact ⟨rfl, below_drewN hb1 _⟩
  have H1 := Lib.hid h1
  cases h2 : (okP fr && okP at' && okP to')
  · have H2 := Lib.hid ((posAll3 fr at' to').trans h2)
    clear h1 h2 hno
    go_enter Tryd.func29, Tryd.ntmps29
    go_wp2_with (first | (go_at_call 21; refine (iLeasesValid_any _ xs _ (by exact HV.out)).mono ?_; rw [H1.out]; rintro e w1 ⟨rfl, hb1⟩; have hbx := hb1.alloc hb1.size (.cells #[.int .i64 fr, .int .i64 at', .int .i64 to'] 3)) | (go_at_call 40; refine (positionsB_any _ [fr, at', to'] _ H2.out _ (by exact intsAt_newN _ _ [fr, at', to'] _ _ rfl rfl (by simp))).mono ?_; rintro e w2 ⟨rfl, hb2⟩; have hb12 := hbx.trans (hb2.mono hbx.size); have k0 := (HL.out.below hb12 (Nat.le_refl _)).g0))
    go_quiet (fail)
    go_wp2
    go_ret2
    exact ⟨rfl, below_drewN hb12 _⟩
  have H2 := Lib.hid ((posAll3 fr at' to').trans h2)
  have h3 : okT un = false := by
    rw [h1] at hno
    have h2' : (okP fr = true ∧ okP at' = true) ∧ okP to' = true := by simpa using h2
    simpa [h2'.1.1, h2'.1.2, h2'.2] using hno
  have H3 := Lib.hid ((timAll1 un).trans h3)
  clear h1 h2 h3 hno
  go_enter Tryd.func29, Tryd.ntmps29
  go_wp2_with (first | (go_at_call 21; refine (iLeasesValid_any _ xs _ (by exact HV.out)).mono ?_; rw [H1.out]; rintro e w1 ⟨rfl, hb1⟩; have hbx := hb1.alloc hb1.size (.cells #[.int .i64 fr, .int .i64 at', .int .i64 to'] 3)) | (go_at_call 40; refine (positionsB_any _ [fr, at', to'] _ H2.out _ (by exact intsAt_newN _ _ [fr, at', to'] _ _ rfl rfl (by simp))).mono ?_; rintro e w2 ⟨rfl, hb2⟩; have hb12 := hbx.trans (hb2.mono hbx.size); have hby := hb12.alloc hb12.size (.cells #[.int .i64 un] 3)) | (go_at_call 41; refine (timesB_any _ [un] _ H3.out _ (by exact intsAt_newN _ _ [un] _ _ rfl rfl (by simp))).mono ?_; rintro e w3 ⟨rfl, hb3⟩; have hb13 := hby.trans (hb3.mono hby.size); have k0 := (HL.out.below hb13 (Nat.le_refl _)).g0))
  go_quiet (fail)
  go_wp2
  go_ret2
  exact ⟨rfl, below_drewN hb13 _⟩

theorem cell_alloc_w {w : World} {b o : Nat} {v : Value} (h : w.cell? ⟨b, o, none⟩ = some v) (x : Obj) : (w.alloc x).cell? ⟨b, o, none⟩ = some v :=
  (World.cell?_alloc_past _ b o (World.block_lt_of_cell? w _ h)).trans h
theorem lsArgs_open {xs : List Tr} {fr at' to' un : Int} (h : lsArgs xs fr at' to' un = true) : lsValid xs = true ∧ okP fr = true ∧ okP at' = true ∧ okP to' = true ∧ okT un = true := by
  unfold lsArgs at h
  simp only [Bool.and_eq_true] at h
  exact ⟨h.1.1.1.1, h.1.1.1.2, h.1.1.2, h.1.2, h.2⟩
theorem lsValid_pos {xs : List Tr} (h : lsValid xs = true) : 0 < xs.length := by unfold lsValid inR at h; simp at h; omega
theorem lsValid_len {xs : List Tr} (h : lsValid xs = true) : xs.length ≤ 12 := by unfold lsValid inR at h; simp at h; omega
theorem lsValid_iff {xs : List Tr} : lsValid xs = true ↔ (1 ≤ xs.length ∧ xs.length ≤ 12) ∧ (∀ j, j < xs.length → okP (xs.getD j default).a = true ∧ okP (xs.getD j default).b = true ∧ okT (xs.getD j default).c = true) ∧ ∀ i j, i < j → j < xs.length → (xs.getD i default).a < (xs.getD j default).a := by
  unfold lsValid lsAll lsAt
  simp only [Bool.and_eq_true, Bool.or_eq_true, decide_eq_true_eq, allBelow_of]
  constructor
  · rintro ⟨h1, h2⟩
    refine ⟨by unfold inR at h1; simp at h1; omega, fun j hj => ⟨(h2 j hj).1.1.1, (h2 j hj).1.1.2, (h2 j hj).1.2⟩, ?_⟩
    intro i j
    induction j with
    | zero => intro h; omega
    | succ j ih =>
      intro hij hj
      have h3 : (xs.getD j default).a < (xs.getD (j + 1) default).a := by
        rcases (h2 (j + 1) hj).2 with h | h
        · omega
        · simpa using h
      by_cases e : i = j
      · subst e; exact h3
      · have := ih (by omega) (by omega)
        omega
  · rintro ⟨h1, h2, h3⟩
    refine ⟨by unfold inR; simp; omega, fun j hj => ⟨⟨⟨(h2 j hj).1, (h2 j hj).2.1⟩, (h2 j hj).2.2⟩, ?_⟩⟩
    by_cases e : j = 0
    · exact .inl e
    · exact .inr (h3 (j - 1) j (by omega) hj)

set_option maxHeartbeats 2000000 in
theorem hand_owner (v : Value) (xs : List Tr) (fr at' to' un : Int) (a0 a1 : Addr) (w : World) (hv : TrsAt w v xs) (hL : Laid w a0 a1) (hyes : lsArgs xs fr at' to' un = true)
    (hown : (((xs.getD (atL xs at') default).b != fr) = true)) :
    Calls Tryd.prog 29 #[v, .int .i64 fr, .int .i64 at', .int .i64 to', .int .i64 un] w (HandPost (.slice none 0 0) (.iface 92 (.pointer (some a1))) w) := by
  obtain ⟨h1, h2, h3, h4, h5⟩ := lsArgs_open hyes
  have hpos := lsValid_pos h1
  have hlen := lsValid_len h1
  have hk := atL_lt hpos at'
  have H1 := Lib.hid h1
  have H2 := Lib.hid (show posAll [fr, at', to'] = true by rw [posAll3, h2, h3, h4]; rfl)
  have H3 := Lib.hid (show timAll [un] = true by rw [timAll1, h5])
  have HPOS := Lib.hid hpos
  obtain ⟨hat0, hat1⟩ := okP_iff.1 h3
  obtain ⟨J, hJ⟩ : ∃ J, atL xs at' = J := ⟨_, rfl⟩
  obtain ⟨n, hn⟩ : ∃ n, xs.getD J default = n := ⟨_, rfl⟩
  rw [hJ] at hk
  have HJ := Lib.hid hJ
  have HN := Lib.hid hn
  rw [hJ, hn] at hown
  have HV := Lib.hid hv
  have HL := Lib.hid hL
  obtain ⟨p, cap, rfl, hc1, hc2⟩ := hv.form
  have hj0 : (0 : Int) ≤ (J : Int) := by omega
  have hj1 : (J : Int) < (xs.length : Int) := by omega
  clear h1 h2 h3 h4 h5 hJ hn hv hL hyes
  go_enter Tryd.func29, Tryd.ntmps29
  go_wp2_with (first | (go_at_call 21; refine (iLeasesValid_any _ xs _ (by exact HV.out)).mono ?_; rw [H1.out]; rintro e w1 ⟨rfl, hb1⟩; have hbx := hb1.alloc hb1.size (.cells #[.int .i64 fr, .int .i64 at', .int .i64 to'] 3)) | (go_at_call 40; refine (positionsB_any _ [fr, at', to'] _ H2.out _ (by exact intsAt_newN _ _ [fr, at', to'] _ _ rfl rfl (by simp))).mono ?_; rintro e w2 ⟨rfl, hb2⟩; have hb12 := hbx.trans (hb2.mono hbx.size); have hby := hb12.alloc hb12.size (.cells #[.int .i64 un] 3)) | (go_at_call 41; refine (timesB_any _ [un] _ H3.out _ (by exact intsAt_newN _ _ [un] _ _ rfl rfl (by simp))).mono ?_; rintro e w3 ⟨rfl, hb3⟩; have hb13 := hby.trans (hb3.mono hby.size)) | (go_at_call 38; refine (leaseAt_any _ xs at' _ (by exact HV.out.below hb13 (Nat.le_refl _))).mono ?_; rw [HJ.out]; rintro e w4 ⟨rfl, hb4⟩; have hb14 := hb13.trans (hb4.mono hb13.size); have hz4 := hb14.size; obtain ⟨b, o, rfl, hbl, q0, q1, q2⟩ := (HV.out.below hb14 (Nat.le_refl _)).tr hk; rw [HN.out] at q0 q1 q2; have k1 := (HL.out.below hb14 (Nat.le_refl _)).g1)| (fail))
  go_quiet (fail)
  go_wp2
  go_ret2
  exact ⟨rfl, below_drewN hb14 _⟩

set_option maxHeartbeats 2000000 in
theorem hand_full (v : Value) (xs : List Tr) (fr at' to' un : Int) (a0 a1 : Addr) (w : World) (hv : TrsAt w v xs) (hL : Laid w a0 a1) (hyes : lsArgs xs fr at' to' un = true)
    (hown : (((xs.getD (atL xs at') default).b != fr) = false) ∧ (((xs.getD (atL xs at') default).a == at') = false)) (hfull : 12 ≤ xs.length) :
    Calls Tryd.prog 29 #[v, .int .i64 fr, .int .i64 at', .int .i64 to', .int .i64 un] w (HandPost (.slice none 0 0) (.iface 92 (.pointer (some a1))) w) := by
  have hq : ((xs.length : Int) == 12) = true := by rw [beq_iff_eq]; have := lsValid_len (lsArgs_open hyes).1; omega
  obtain ⟨h1, h2, h3, h4, h5⟩ := lsArgs_open hyes
  have hpos := lsValid_pos h1
  have hlen := lsValid_len h1
  have hk := atL_lt hpos at'
  have H1 := Lib.hid h1
  have H2 := Lib.hid (show posAll [fr, at', to'] = true by rw [posAll3, h2, h3, h4]; rfl)
  have H3 := Lib.hid (show timAll [un] = true by rw [timAll1, h5])
  have HPOS := Lib.hid hpos
  obtain ⟨hat0, hat1⟩ := okP_iff.1 h3
  obtain ⟨J, hJ⟩ : ∃ J, atL xs at' = J := ⟨_, rfl⟩
  obtain ⟨n, hn⟩ : ∃ n, xs.getD J default = n := ⟨_, rfl⟩
  rw [hJ] at hk
  have HJ := Lib.hid hJ
  have HN := Lib.hid hn
  rw [hJ, hn] at hown
  have HV := Lib.hid hv
  have HL := Lib.hid hL
  obtain ⟨p, cap, rfl, hc1, hc2⟩ := hv.form
  have hj0 : (0 : Int) ≤ (J : Int) := by omega
  have hj1 : (J : Int) < (xs.length : Int) := by omega
  clear h1 h2 h3 h4 h5 hJ hn hv hL hyes
  go_enter Tryd.func29, Tryd.ntmps29
  go_wp2_with (first | (go_at_call 21; refine (iLeasesValid_any _ xs _ (by exact HV.out)).mono ?_; rw [H1.out]; rintro e w1 ⟨rfl, hb1⟩; have hbx := hb1.alloc hb1.size (.cells #[.int .i64 fr, .int .i64 at', .int .i64 to'] 3)) | (go_at_call 40; refine (positionsB_any _ [fr, at', to'] _ H2.out _ (by exact intsAt_newN _ _ [fr, at', to'] _ _ rfl rfl (by simp))).mono ?_; rintro e w2 ⟨rfl, hb2⟩; have hb12 := hbx.trans (hb2.mono hbx.size); have hby := hb12.alloc hb12.size (.cells #[.int .i64 un] 3)) | (go_at_call 41; refine (timesB_any _ [un] _ H3.out _ (by exact intsAt_newN _ _ [un] _ _ rfl rfl (by simp))).mono ?_; rintro e w3 ⟨rfl, hb3⟩; have hb13 := hby.trans (hb3.mono hby.size)) | (go_at_call 38; refine (leaseAt_any _ xs at' _ (by exact HV.out.below hb13 (Nat.le_refl _))).mono ?_; rw [HJ.out]; rintro e w4 ⟨rfl, hb4⟩; have hb14 := hb13.trans (hb4.mono hb13.size); have hz4 := hb14.size; obtain ⟨b, o, rfl, hbl, q0, q1, q2⟩ := (HV.out.below hb14 (Nat.le_refl _)).tr hk; rw [HN.out] at q0 q1 q2; have k1 := (HL.out.below hb14 (Nat.le_refl _)).g1)| (go_at_call 43; refine (cloneLs_any _ xs _ (by exact HV.out.below hb14 (Nat.le_refl _)) (by omega)).mono ?_; rintro e w5 ⟨u5, rfl, hO5, hb5⟩; obtain ⟨g, cg, rfl, hg1, hg2, hg3, hg4⟩ := hO5.form HPOS.out; unfold maxLen at hg2; obtain ⟨r0, r1, r2, rf, rg, -⟩ := hO5.cells hk; rw [HN.out] at r0 r1 r2; have hb15 := hb14.trans (hb5.mono hz4); have hz5 := hb15.size; have k5 := (HL.out.below hb15 (Nat.le_refl _)).g1; have HO5 := Lib.hid hO5; clear hO5; have gne : g ≠ w5.heap.size := Nat.ne_of_lt hg4; have gne' : w5.heap.size ≠ g := Ne.symm gne; have hx15 := hb15.alloc hz5 (.cells #[.int .i64 at', .int .i64 to', .int .i64 un] 35); have kx := (cell_alloc_w k5 (.cells #[.int .i64 at', .int .i64 to', .int .i64 un] 35)); have x0 := (cell_alloc_w r0 (.cells #[.int .i64 at', .int .i64 to', .int .i64 un] 35)); have x1 := (cell_alloc_w r1 (.cells #[.int .i64 at', .int .i64 to', .int .i64 un] 35)); have x2 := (cell_alloc_w r2 (.cells #[.int .i64 at', .int .i64 to', .int .i64 un] 35))))
  go_quiet (fail)
  go_wp2
  go_ret2
  exact ⟨rfl, below_drewN hx15 _⟩

set_option maxHeartbeats 2000000 in
theorem hand_set (v : Value) (xs : List Tr) (fr at' to' un : Int) (a0 a1 : Addr) (w : World) (hv : TrsAt w v xs) (hL : Laid w a0 a1) (hyes : lsArgs xs fr at' to' un = true)
    (hown : (((xs.getD (atL xs at') default).b != fr) = false) ∧ (((xs.getD (atL xs at') default).a == at') = true)) :
    Calls Tryd.prog 29 #[v, .int .i64 fr, .int .i64 at', .int .i64 to', .int .i64 un] w (HandRow w.heap.size (xs.set (atL xs at') ⟨at', to', un⟩) w) := by
  obtain ⟨h1, h2, h3, h4, h5⟩ := lsArgs_open hyes
  have hpos := lsValid_pos h1
  have hlen := lsValid_len h1
  have hk := atL_lt hpos at'
  have H1 := Lib.hid h1
  have H2 := Lib.hid (show posAll [fr, at', to'] = true by rw [posAll3, h2, h3, h4]; rfl)
  have H3 := Lib.hid (show timAll [un] = true by rw [timAll1, h5])
  have HPOS := Lib.hid hpos
  obtain ⟨hat0, hat1⟩ := okP_iff.1 h3
  obtain ⟨J, hJ⟩ : ∃ J, atL xs at' = J := ⟨_, rfl⟩
  obtain ⟨n, hn⟩ : ∃ n, xs.getD J default = n := ⟨_, rfl⟩
  rw [hJ] at hk
  have HJ := Lib.hid hJ
  have HN := Lib.hid hn
  rw [hJ, hn] at hown
  have HV := Lib.hid hv
  have HL := Lib.hid hL
  obtain ⟨p, cap, rfl, hc1, hc2⟩ := hv.form
  have hj0 : (0 : Int) ≤ (J : Int) := by omega
  have hj1 : (J : Int) < (xs.length : Int) := by omega
  clear h1 h2 h3 h4 h5 hJ hn hv hL hyes
  go_enter Tryd.func29, Tryd.ntmps29
  go_wp2_with (first | (go_at_call 21; refine (iLeasesValid_any _ xs _ (by exact HV.out)).mono ?_; rw [H1.out]; rintro e w1 ⟨rfl, hb1⟩; have hbx := hb1.alloc hb1.size (.cells #[.int .i64 fr, .int .i64 at', .int .i64 to'] 3)) | (go_at_call 40; refine (positionsB_any _ [fr, at', to'] _ H2.out _ (by exact intsAt_newN _ _ [fr, at', to'] _ _ rfl rfl (by simp))).mono ?_; rintro e w2 ⟨rfl, hb2⟩; have hb12 := hbx.trans (hb2.mono hbx.size); have hby := hb12.alloc hb12.size (.cells #[.int .i64 un] 3)) | (go_at_call 41; refine (timesB_any _ [un] _ H3.out _ (by exact intsAt_newN _ _ [un] _ _ rfl rfl (by simp))).mono ?_; rintro e w3 ⟨rfl, hb3⟩; have hb13 := hby.trans (hb3.mono hby.size)) | (go_at_call 38; refine (leaseAt_any _ xs at' _ (by exact HV.out.below hb13 (Nat.le_refl _))).mono ?_; rw [HJ.out]; rintro e w4 ⟨rfl, hb4⟩; have hb14 := hb13.trans (hb4.mono hb13.size); have hz4 := hb14.size; obtain ⟨b, o, rfl, hbl, q0, q1, q2⟩ := (HV.out.below hb14 (Nat.le_refl _)).tr hk; rw [HN.out] at q0 q1 q2; have k1 := (HL.out.below hb14 (Nat.le_refl _)).g1)| (go_at_call 43; refine (cloneLs_any _ xs _ (by exact HV.out.below hb14 (Nat.le_refl _)) (by omega)).mono ?_; rintro e w5 ⟨u5, rfl, hO5, hb5⟩; obtain ⟨g, cg, rfl, hg1, hg2, hg3, hg4⟩ := hO5.form HPOS.out; unfold maxLen at hg2; obtain ⟨r0, r1, r2, rf, rg, -⟩ := hO5.cells hk; rw [HN.out] at r0 r1 r2; have hb15 := hb14.trans (hb5.mono hz4); have hz5 := hb15.size; have k5 := (HL.out.below hb15 (Nat.le_refl _)).g1; have HO5 := Lib.hid hO5; clear hO5; have gne : g ≠ w5.heap.size := Nat.ne_of_lt hg4; have gne' : w5.heap.size ≠ g := Ne.symm gne; have hx15 := hb15.alloc hz5 (.cells #[.int .i64 at', .int .i64 to', .int .i64 un] 35); have kx := (cell_alloc_w k5 (.cells #[.int .i64 at', .int .i64 to', .int .i64 un] 35)); have x0 := (cell_alloc_w r0 (.cells #[.int .i64 at', .int .i64 to', .int .i64 un] 35)); have x1 := (cell_alloc_w r1 (.cells #[.int .i64 at', .int .i64 to', .int .i64 un] 35)); have x2 := (cell_alloc_w r2 (.cells #[.int .i64 at', .int .i64 to', .int .i64 un] 35))))
  go_ret2
  rw [HJ.out]
  refine ⟨_, rfl, ?_, ?_⟩
  · exact ((HO5.out.mono hz4).set hk ⟨at', to', un⟩).below ((Below.refl _ _).alloc (Nat.le_refl _) _) (Nat.le_refl _)
  · have hge : w.heap.size ≤ g := Nat.le_trans hz4 hg3
    have hq := ((hb15.setCell (p := ⟨g, J * 3, none⟩) hge (.int .i64 at')).setCell (p := ⟨g, J * 3 + 1, none⟩) hge (.int .i64 to')).setCell (p := ⟨g, J * 3 + 2, none⟩) hge (.int .i64 un)
    exact hq.alloc hq.size _

set_option maxHeartbeats 2000000 in
theorem hand_ins (v : Value) (xs : List Tr) (fr at' to' un : Int) (a0 a1 : Addr) (w : World) (hv : TrsAt w v xs) (hL : Laid w a0 a1) (hyes : lsArgs xs fr at' to' un = true)
    (hown : (((xs.getD (atL xs at') default).b != fr) = false) ∧ (((xs.getD (atL xs at') default).a == at') = false)) (hroom : xs.length < 12) :
    Calls Tryd.prog 29 #[v, .int .i64 fr, .int .i64 at', .int .i64 to', .int .i64 un] w (HandRow w.heap.size (xs.take (ltE xs at') ++ ⟨at', to', un⟩ :: xs.drop (ltE xs at')) w) := by
  have hq : ((xs.length : Int) == 12) = false := by rw [beq_eq_false_iff_ne]; omega
  have HVAL := Lib.hid (lsArgs_open hyes).1
  have hmf : ∀ (fn : Fn) (first cap : Array Value) (w : World), (Instr.makeFunc fn first cap).run Tryd.prog w = .ok (.func fn first cap) w := fun _ _ _ _ => rfl
  obtain ⟨h1, h2, h3, h4, h5⟩ := lsArgs_open hyes
  have hpos := lsValid_pos h1
  have hlen := lsValid_len h1
  have hk := atL_lt hpos at'
  have H1 := Lib.hid h1
  have H2 := Lib.hid (show posAll [fr, at', to'] = true by rw [posAll3, h2, h3, h4]; rfl)
  have H3 := Lib.hid (show timAll [un] = true by rw [timAll1, h5])
  have HPOS := Lib.hid hpos
  obtain ⟨hat0, hat1⟩ := okP_iff.1 h3
  obtain ⟨J, hJ⟩ : ∃ J, atL xs at' = J := ⟨_, rfl⟩
  obtain ⟨n, hn⟩ : ∃ n, xs.getD J default = n := ⟨_, rfl⟩
  rw [hJ] at hk
  have HJ := Lib.hid hJ
  have HN := Lib.hid hn
  rw [hJ, hn] at hown
  have HV := Lib.hid hv
  have HL := Lib.hid hL
  obtain ⟨p, cap, rfl, hc1, hc2⟩ := hv.form
  have hj0 : (0 : Int) ≤ (J : Int) := by omega
  have hj1 : (J : Int) < (xs.length : Int) := by omega
  clear h1 h2 h3 h4 h5 hJ hn hv hL hyes
  go_enter Tryd.func29, Tryd.ntmps29
  go_wp2_with (first | (go_at_call 21; refine (iLeasesValid_any _ xs _ (by exact HV.out)).mono ?_; rw [H1.out]; rintro e w1 ⟨rfl, hb1⟩; have hbx := hb1.alloc hb1.size (.cells #[.int .i64 fr, .int .i64 at', .int .i64 to'] 3)) | (go_at_call 40; refine (positionsB_any _ [fr, at', to'] _ H2.out _ (by exact intsAt_newN _ _ [fr, at', to'] _ _ rfl rfl (by simp))).mono ?_; rintro e w2 ⟨rfl, hb2⟩; have hb12 := hbx.trans (hb2.mono hbx.size); have hby := hb12.alloc hb12.size (.cells #[.int .i64 un] 3)) | (go_at_call 41; refine (timesB_any _ [un] _ H3.out _ (by exact intsAt_newN _ _ [un] _ _ rfl rfl (by simp))).mono ?_; rintro e w3 ⟨rfl, hb3⟩; have hb13 := hby.trans (hb3.mono hby.size)) | (go_at_call 38; refine (leaseAt_any _ xs at' _ (by exact HV.out.below hb13 (Nat.le_refl _))).mono ?_; rw [HJ.out]; rintro e w4 ⟨rfl, hb4⟩; have hb14 := hb13.trans (hb4.mono hb13.size); have hz4 := hb14.size; obtain ⟨b, o, rfl, hbl, q0, q1, q2⟩ := (HV.out.below hb14 (Nat.le_refl _)).tr hk; rw [HN.out] at q0 q1 q2; have k1 := (HL.out.below hb14 (Nat.le_refl _)).g1)| (go_at_call 43; refine (cloneLs_any _ xs _ (by exact HV.out.below hb14 (Nat.le_refl _)) (by omega)).mono ?_; rintro e w5 ⟨u5, rfl, hO5, hb5⟩; obtain ⟨g, cg, rfl, hg1, hg2, hg3, hg4⟩ := hO5.form HPOS.out; unfold maxLen at hg2; obtain ⟨r0, r1, r2, rf, rg, -⟩ := hO5.cells hk; rw [HN.out] at r0 r1 r2; have hb15 := hb14.trans (hb5.mono hz4); have hz5 := hb15.size; have k5 := (HL.out.below hb15 (Nat.le_refl _)).g1; have HO5 := Lib.hid hO5; clear hO5; have gne : g ≠ w5.heap.size := Nat.ne_of_lt hg4; have gne' : w5.heap.size ≠ g := Ne.symm gne; have hx15 := hb15.alloc hz5 (.cells #[.int .i64 at', .int .i64 to', .int .i64 un] 35); have kx := (cell_alloc_w k5 (.cells #[.int .i64 at', .int .i64 to', .int .i64 un] 35)); have x0 := (cell_alloc_w r0 (.cells #[.int .i64 at', .int .i64 to', .int .i64 un] 35)); have x1 := (cell_alloc_w r1 (.cells #[.int .i64 at', .int .i64 to', .int .i64 un] 35)); have x2 := (cell_alloc_w r2 (.cells #[.int .i64 at', .int .i64 to', .int .i64 un] 35))))
  have hOx := HO5.out.below ((Below.refl w5.heap.size w5).alloc (Nat.le_refl _) (.cells #[.int .i64 at', .int .i64 to', .int .i64 un] 35)) (Nat.le_refl _)
  obtain ⟨-, hval2, hval3⟩ := lsValid_iff.1 HVAL.out
  have HJE := Lib.hid (ltE_le at' xs)
  have HIDS := Lib.hid (show ∀ j, j < xs.length → 0 ≤ (xs.getD j default).a ∧ (xs.getD j default).a ≤ 63 from fun j hj => by have := okP_iff.1 (hval2 j hj).1; omega)
  have HMO := Lib.hid (show ∀ a b, a ≤ b → b < xs.length → (xs.getD a default).a ≤ (xs.getD b default).a from fun a b hab hb => by
    by_cases e : a = b
    · rw [e]; exact Int.le_refl _
    · have := hval3 a b (by omega) hb
      omega)
  clear hval2 hval3
  refine (bsearchL_any _ xs at' _ (by exact hOx.at) hlen ⟨hat0, by omega⟩ HIDS.out HMO.out).mono ?_
  rintro e w6 ⟨cb, rfl, hb6⟩
  obtain ⟨t0, t1, t2, tf, tl, hbt⟩ := box_tr hb6
  have hb56 := ((Below.refl w5.heap.size w5).alloc (Nat.le_refl _) (.cells #[.int .i64 at', .int .i64 to', .int .i64 un] 35)).trans (hb6.mono (by simp))
  have HO6 := Lib.hid (hOx.below hb6 (Nat.le_refl _))
  have hb16 := hb15.trans (hb56.mono hz5)
  have hg6 : g < w6.heap.size := by omega
  obtain ⟨K, hK⟩ : ∃ K, ltE xs at' = K := ⟨_, rfl⟩
  have HKE := Lib.hid (show K ≤ xs.length by rw [← hK]; exact HJE.out)
  have HK := Lib.hid hK
  rw [hK]
  have HI : Calls Tryd.prog 46 #[.slice (some ⟨g, 0, none⟩) xs.length cg, .int .i64 K, .slice (some ⟨w6.heap.size, 0, none⟩) 1 1] (w6.alloc (.cells #[.int .i64 at', .int .i64 to', .int .i64 un] 35)) fun e w' =>
      ∃ v', e = .returned v' ∧ TrsOwn w' w4.heap.size 35 v' (xs.take K ++ ⟨at', to', un⟩ :: xs.drop K) ∧ (w6.alloc (.cells #[.int .i64 at', .int .i64 to', .int .i64 un] 35)).grownBy w' (some g) :=
    insL_any w4.heap.size g cg K w6.heap.size 3 35 xs ⟨at', to', un⟩ _ (HO6.out.below ((Below.refl w6.heap.size w6).alloc (Nat.le_refl _) _) (Nat.le_refl _)) HPOS.out HKE.out hlen (by simp) (by simp) (by simp) (by omega) (by simp) (by unfold World.shape?; rw [heap_alloc_new]; rfl) (fun j => by simp)
  have HII := Lib.hid HI
  clear HI HIDS HMO
  go_wp2_with (go_at_call 46; refine (HII.out).mono ?_; rintro e w7 ⟨v7, rfl, hO7, hg7⟩)
  go_ret2
  have hx6 := hb16.alloc hb16.size (.cells #[.int .i64 at', .int .i64 to', .int .i64 un] 35)
  rw [← HK.out] at hO7
  exact ⟨_, rfl, hO7.mono hz4, hx6.trans (below_grow hg7 (Nat.le_trans hz4 hg3) hx6.size)⟩

theorem granted_args (bv av : Value) (a0 a1 : Addr) (w : World) (hL : Laid w a0 a1) :
    Calls Tryd.prog 30 #[bv, av, .iface 92 (.pointer (some a0))] w fun e w' => e = .returned (.tuple #[.slice none 0 0, .bool false]) ∧ w' = w := by
  have k0 := hL.g0
  clear hL
  go_enter Tryd.func30, Tryd.ntmps30
  go_wp2_with (go_at_call 47; refine (is_same a0 _).mono ?_; rintro e w1 ⟨rfl, rfl⟩)
  go_ret2
  exact ⟨rfl, rfl⟩

theorem granted_no (v : Value) (xs : List Tr) (av : Value) (a0 a1 : Addr) (w : World) (hL : Laid w a0 a1) (hv : TrsAt w v xs) (hl : xs.length ≤ 1048576) :
    Calls Tryd.prog 30 #[v, av, .iface 92 (.pointer (some a1))] w fun e w' => ∃ u, e = .returned (.tuple #[u, .bool false]) ∧ TrsOwn w' w.heap.size 35 u xs ∧ Below w.heap.size w w' := by
  obtain ⟨k0, k1, ne, ⟨c0, t0, b0⟩, ⟨c1, t1, b1⟩⟩ := hL
  have HV := Lib.hid hv
  have H0 := Lib.hid b0
  have H1 := Lib.hid b1
  have NE := Lib.hid ne
  clear hv b0 b1 ne
  go_enter Tryd.func30, Tryd.ntmps30
  go_wp2_with fail
  refine (is_other a1 a0 c1 c0 t1 t0 _ (Ne.symm NE.out) H1.out H0.out).mono ?_
  rintro e w1 ⟨rfl, rfl⟩
  go_wp2_with fail
  refine (is_same a1 _).mono ?_
  rintro e w1 ⟨rfl, rfl⟩
  go_wp2_with fail
  refine (cloneLs_any _ xs _ HV.out hl).mono ?_
  rintro e w2 ⟨u, rfl, hO, hb⟩
  go_wp2
  go_ret2
  exact ⟨_, rfl, hO, hb⟩

theorem granted_yes (bv av : Value) (a0 a1 : Addr) (w : World) (hL : Laid w a0 a1) :
    Calls Tryd.prog 30 #[bv, av, .nilIface] w fun e w' => e = .returned (.tuple #[av, .bool true]) ∧ w' = w := by
  obtain ⟨k0, k1, -, -, -⟩ := hL
  go_enter Tryd.func30, Tryd.ntmps30
  go_wp2_with fail
  refine (is_nil a0 _).mono ?_
  rintro e w1 ⟨rfl, rfl⟩
  go_wp2_with fail
  refine (is_nil a1 _).mono ?_
  rintro e w1 ⟨rfl, rfl⟩
  go_wp2
  go_ret2
  exact ⟨rfl, rfl⟩

def LHPost (xs : List Tr) (c : Bool) (w : World) (e : Ending) (w' : World) : Prop := ∃ u, e = .returned (.tuple #[u, .bool c]) ∧ TrsOwn w' w.heap.size 35 u xs ∧ Below w.heap.size w w'

theorem lh_no (v : Value) (xs : List Tr) (fr at' to' un : Int) (a0 a1 : Addr) (w : World) (hv : TrsAt w v xs) (hL : Laid w a0 a1) (hl : xs.length ≤ 1048576)
    (h : Calls Tryd.prog 29 #[v, .int .i64 fr, .int .i64 at', .int .i64 to', .int .i64 un] w (HandPost (.slice none 0 0) (.iface 92 (.pointer (some a1))) w)) :
    Calls Tryd.prog 13 #[v, .int .i64 fr, .int .i64 at', .int .i64 to', .int .i64 un] w (LHPost xs false w) := by
  have H := Lib.hid h
  have HV := Lib.hid hv
  have HL := Lib.hid hL
  clear h hv hL
  go_enter Tryd.func13, Tryd.ntmps13
  go_wp2_with fail
  refine H.out.mono ?_
  rintro e w1 ⟨rfl, hb1⟩
  go_wp2_with fail
  refine (granted_no v xs _ a0 a1 _ (HL.out.below hb1 (Nat.le_refl _)) (HV.out.below hb1 (Nat.le_refl _)) hl).mono ?_
  rintro e w2 ⟨u, rfl, hO, hb2⟩
  go_wp2
  go_ret2
  exact ⟨_, rfl, hO.mono hb1.size, hb1.trans (hb2.mono hb1.size)⟩
theorem lh_yes (v : Value) (ys : List Tr) (fr at' to' un : Int) (a0 a1 : Addr) (w : World) (hL : Laid w a0 a1)
    (h : Calls Tryd.prog 29 #[v, .int .i64 fr, .int .i64 at', .int .i64 to', .int .i64 un] w (HandRow w.heap.size ys w)) :
    Calls Tryd.prog 13 #[v, .int .i64 fr, .int .i64 at', .int .i64 to', .int .i64 un] w (LHPost ys true w) := by
  have H := Lib.hid h
  have HL := Lib.hid hL
  clear h hL
  go_enter Tryd.func13, Tryd.ntmps13
  go_wp2_with fail
  refine H.out.mono ?_
  rintro e w1 ⟨u, rfl, hO, hb1⟩
  go_wp2_with fail
  refine (granted_yes v _ a0 a1 _ (HL.out.below hb1 (Nat.le_refl _))).mono ?_
  rintro e w2 ⟨rfl, rfl⟩
  go_wp2
  go_ret2
  exact ⟨_, rfl, hO, hb1⟩
theorem lh_args (v : Value) (fr at' to' un : Int) (a0 a1 : Addr) (w : World) (hL : Laid w a0 a1)
    (h : Calls Tryd.prog 29 #[v, .int .i64 fr, .int .i64 at', .int .i64 to', .int .i64 un] w (HandPost (.slice none 0 0) (.iface 92 (.pointer (some a0))) w)) :
    Calls Tryd.prog 13 #[v, .int .i64 fr, .int .i64 at', .int .i64 to', .int .i64 un] w (LHPost [] false w) := by
  have H := Lib.hid h
  have HL := Lib.hid hL
  clear h hL
  go_enter Tryd.func13, Tryd.ntmps13
  go_wp2_with fail
  refine H.out.mono ?_
  rintro e w1 ⟨rfl, hb1⟩
  go_wp2_with fail
  refine (granted_args v _ a0 a1 _ (HL.out.below hb1 (Nat.le_refl _))).mono ?_
  rintro e w2 ⟨rfl, rfl⟩
  go_wp2
  go_ret2
  exact ⟨_, rfl, TrsOwn.nil _ _ _, hb1⟩

theorem iLeaseHand_any (v : Value) (xs : List Tr) (fr at' to' un : Int) (a0 a1 : Addr) (w : World) (hv : TrsAt w v xs) (hL : Laid w a0 a1) :
    Calls Tryd.prog 13 #[v, .int .i64 fr, .int .i64 at', .int .i64 to', .int .i64 un] w (LHPost (handR xs fr at' to' un) (handOk xs fr at' to' un) w) := by
  unfold handR handOk
  cases hA : lsArgs xs fr at' to' un
  · simp only [Bool.false_and, Bool.false_eq_true, if_false]
    exact lh_args v fr at' to' un a0 a1 w hL (hand_args v xs fr at' to' un a0 a1 w hv hL hA)
  have hlen := lsValid_len (lsArgs_open hA).1
  by_cases hb : (xs.getD (atL xs at') default).b = fr
  · by_cases ha : (xs.getD (atL xs at') default).a = at'
    · simp only [hb, ha, decide_true, Bool.true_and, Bool.true_or, if_true]
      exact lh_yes v _ fr at' to' un a0 a1 w hL (hand_set v xs fr at' to' un a0 a1 w hv hL hA ⟨bne_eq_false_iff_eq.2 hb, beq_iff_eq.2 ha⟩)
    · by_cases hl : xs.length < 12
      · simp only [hb, ha, hl, decide_true, decide_false, Bool.true_and, Bool.false_or, if_true, if_false]
        exact lh_yes v _ fr at' to' un a0 a1 w hL (hand_ins v xs fr at' to' un a0 a1 w hv hL hA ⟨bne_eq_false_iff_eq.2 hb, beq_eq_false_iff_ne.2 ha⟩ hl)
      · simp only [hb, ha, hl, decide_true, decide_false, Bool.true_and, Bool.false_or, if_true, if_false]
        exact lh_no v xs fr at' to' un a0 a1 w hv hL (by omega) (hand_full v xs fr at' to' un a0 a1 w hv hL hA ⟨bne_eq_false_iff_eq.2 hb, beq_eq_false_iff_ne.2 ha⟩ (by omega))
  · simp only [hb, decide_false, Bool.and_false, Bool.false_and, if_true, if_false]
    exact lh_no v xs fr at' to' un a0 a1 w hv hL (by omega) (hand_owner v xs fr at' to' un a0 a1 w hv hL hA (bne_iff_ne.2 hb))

end Go.Proofs.YtdcjacgaakpejaaDoor
