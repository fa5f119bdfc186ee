/-
  Contracts: LeaseHand of the reference.
-/
import Derived.Test.YtdcjacgaakpejaaDoorLsH
import Derived.Test.YtdcjacgaakpejaaDoorStepA
namespace Go.Proofs.YtdcjacgaakpejaaDoor
open Go.RowKit

theorem made_tr (w : World) (B : Nat) (T : TypeId) (hB : B ≤ w.heap.size) : TrsOwn (w.alloc (.cells #[] T)) B T (.slice (some ⟨w.heap.size, 0, none⟩) 0 0) [] :=
  World.ownsRow_made (base := B) (e := T) (size := 3) w #[] 0 hB (by unfold maxLen; omega) rfl
theorem box_n {w w1 : World} {o : Obj} (h : Below (w.heap.size + 1) (w.alloc o) w1) : Below (w.alloc o).heap.size (w.alloc o) w1 := by rw [World.size_alloc]; exact h
theorem made_trN (w : World) (M : Nat) (T : TypeId) (hM : M = w.heap.size) : w.alloc (.cells #[] T) |>.ownsRow M T 3 (.slice (some ⟨M, 0, none⟩) 0 0) 0 [] := by
  subst hM
  exact World.ownsRow_made (base := w.heap.size) (e := T) (size := 3) w #[] 0 (Nat.le_refl _) (by unfold maxLen; omega) rfl
theorem trs_take {w : World} {b o n cap k : Nat} {xs : List Tr} (h : TrsAt w (.slice (some ⟨b, o, none⟩) n cap) xs) (hk : k ≤ xs.length) :
    ((flatT xs).take (k * 3)).length = k * 3 ∧ (∀ j u, ((flatT xs).take (k * 3))[j]? = some u → w.cell? ((⟨b, o, none⟩ : Addr).add j) = some u) ∧ ∀ u ∈ (flatT xs).take (k * 3), u.oneCell' = true := by
  refine ⟨by rw [List.length_take, flatT_length]; omega, fun j u hj => ?_, fun u hu => flatT_one xs u (List.mem_of_mem_take hu)⟩
  obtain ⟨-, -, h3⟩ := h.src
  by_cases e : j < k * 3
  · rw [List.getElem?_take_of_lt e] at hj
    rcases h3 with ⟨h4, -⟩ | ⟨ad, c, h4, h5⟩
    · cases h4
    · cases h4; exact h5 j u hj
  · rw [List.getElem?_eq_none (by rw [List.length_take]; omega)] at hj; cases hj
theorem trs_drop (b o k cap : Nat) (xs : List Tr) (hc : xs.length ≤ cap) : ∃ O, (if cap = k then some (⟨b, o, none⟩ : Addr) else some ⟨b, o + k * 3, none⟩) = some ⟨b, O, none⟩ ∧
    ∀ w n, TrsAt w (.slice (some ⟨b, o, none⟩) n cap) xs → ((flatT xs).drop (k * 3)).length = (xs.length - k) * 3 ∧ (∀ j u, ((flatT xs).drop (k * 3))[j]? = some u → w.cell? ((⟨b, O, none⟩ : Addr).add j) = some u) ∧ ∀ u ∈ (flatT xs).drop (k * 3), u.oneCell' = true := by
  have hl : ((flatT xs).drop (k * 3)).length = (xs.length - k) * 3 := by rw [List.length_drop, flatT_length, Nat.sub_mul]
  by_cases e : cap = k
  · refine ⟨o, by rw [if_pos e], fun w n h => ⟨hl, fun j u hj => ?_, fun u hu => flatT_one xs u (List.mem_of_mem_drop hu)⟩⟩
    rw [List.getElem?_eq_none (by rw [hl]; omega)] at hj; cases hj
  · refine ⟨o + k * 3, by rw [if_neg e], fun w n h => ⟨hl, fun j u hj => ?_, fun u hu => flatT_one xs u (List.mem_of_mem_drop hu)⟩⟩
    obtain ⟨-, -, h3⟩ := h.src
    rw [List.getElem?_drop] at hj
    rcases h3 with ⟨h4, -⟩ | ⟨ad, c, h4, h5⟩
    · cases h4
    · cases h4
      have := h5 _ u hj
      rw [Addr.add_lit] at this ⊢
      rw [Nat.add_assoc]; exact this
def Tri3 (w : World) (b : Nat) (x y z : Value) : Prop := w.cell? ⟨b, 0, none⟩ = some x ∧ w.cell? ⟨b, 1, none⟩ = some y ∧ w.cell? ⟨b, 2, none⟩ = some z
theorem tri_news {w : World} {b : Nat} {x y z : Int} (h : Tri3 w b (.int .i64 x) (.int .i64 y) (.int .i64 z)) :
    ([Value.int .i64 x, .int .i64 y, .int .i64 z] : List Value).length = 1 * 3 ∧ (∀ j u, [Value.int .i64 x, .int .i64 y, .int .i64 z][j]? = some u → w.cell? ((⟨b, 0, none⟩ : Addr).add j) = some u) ∧ ∀ u ∈ [Value.int .i64 x, .int .i64 y, .int .i64 z], u.oneCell' = true := by
  refine ⟨rfl, fun j u hj => ?_, fun u hu => by simp at hu; rcases hu with rfl | rfl | rfl <;> rfl⟩
  rw [Addr.add_lit, Nat.zero_add]
  match j, hj with
  | 0, hj => cases hj; exact h.1
  | 1, hj => cases hj; exact h.2.1
  | 2, hj => cases hj; exact h.2.2
  | j + 3, hj => cases hj
theorem tri_new (w : World) (x y z : Value) (t : TypeId) : Tri3 (w.alloc (.cells #[x, y, z] t)) w.heap.size x y z := ⟨by simp, by simp, by simp⟩
theorem tri_kept {W w' : World} {N b : Nat} {x y z : Value} (h : W.grownBy w' (some N)) (hb : b < W.heap.size) (hne : b ≠ N) (k : Tri3 W b x y z) : Tri3 w' b x y z :=
  ⟨(grow_cell h hb hne).trans k.1, (grow_cell h hb hne).trans k.2.1, (grow_cell h hb hne).trans k.2.2⟩
theorem tri_old (w : World) (o : Obj) {b : Nat} {x y z : Value} (k : Tri3 w b x y z) : Tri3 (w.alloc o) b x y z := ⟨cell_alloc_w k.1 o, cell_alloc_w k.2.1 o, cell_alloc_w k.2.2 o⟩
theorem box_keep {w w' : World} {gb : Nat} {x y z : Value} (hb : Below w.heap.size w w') (gl : gb < w.heap.size) (g0 : w.cell? ⟨gb, 0, none⟩ = some x) (g1 : w.cell? ⟨gb, 1, none⟩ = some y) (g2 : w.cell? ⟨gb, 2, none⟩ = some z) :
    w'.cell? ⟨gb, 0, none⟩ = some x ∧ w'.cell? ⟨gb, 1, none⟩ = some y ∧ w'.cell? ⟨gb, 2, none⟩ = some z :=
  ⟨(hb.cell (p := ⟨gb, 0, none⟩) gl).trans g0, (hb.cell (p := ⟨gb, 1, none⟩) gl).trans g1, (hb.cell (p := ⟨gb, 2, none⟩) gl).trans g2⟩

set_option maxRecDepth 100000 in
set_option maxHeartbeats 2000000 in
theorem sHand_args (v : Value) (xs : List Tr) (fr at' to' un : Int) (w : World) (hv : TrsAt w v xs) (hno : lsArgs xs fr at' to' un = false) :
    Calls Tryd.prog 11 #[v, .int .i64 fr, .int .i64 at', .int .i64 to', .int .i64 un] w (LHPost [] false w) := by
  have HV := Lib.hid hv
  obtain ⟨p, cap, rfl, hc1, hc2⟩ := hv.form
  clear hv
  unfold lsArgs at hno
  cases h1 : lsValid xs
  · have H1 := Lib.hid h1
    clear h1 hno
    go_enter Tryd.func11, Tryd.ntmps11
    go_wp2_with (first | (go_at_call 23; refine (sLeasesValid_any _ xs _ (by exact HV.out)).mono ?_; rw [H1.out]; rintro e w1 ⟨rfl, hb1⟩) | (go_at_call_of 24 (Value.int IntKind.i64 fr); refine (l1Point_any fr _).mono ?_; rw [H2.out]; rintro e w' ⟨rfl, rfl⟩) | (go_at_call_of 24 (Value.int IntKind.i64 at'); refine (l1Point_any at' _).mono ?_; rw [H3.out]; rintro e w' ⟨rfl, rfl⟩) | (go_at_call 24; refine (l1Point_any to' _).mono ?_; rw [H4.out]; rintro e w' ⟨rfl, rfl⟩) | (go_at_call 25; refine (l12Time_any un _).mono ?_; rw [H5.out]; rintro e w' ⟨rfl, rfl⟩))
    go_ret2
    exact ⟨_, rfl, made_tr w1 w.heap.size 35 hb1.size, hb1.alloc hb1.size _⟩
  rw [h1, Bool.true_and] at hno
  have H1 := Lib.hid h1
  clear h1
  cases h2 : okP fr
  · have H2 := Lib.hid h2
    clear h2 hno
    go_enter Tryd.func11, Tryd.ntmps11
    go_wp2_with (first | (go_at_call 23; refine (sLeasesValid_any _ xs _ (by exact HV.out)).mono ?_; rw [H1.out]; rintro e w1 ⟨rfl, hb1⟩) | (go_at_call_of 24 (Value.int IntKind.i64 fr); refine (l1Point_any fr _).mono ?_; rw [H2.out]; rintro e w' ⟨rfl, rfl⟩) | (go_at_call_of 24 (Value.int IntKind.i64 at'); refine (l1Point_any at' _).mono ?_; rw [H3.out]; rintro e w' ⟨rfl, rfl⟩) | (go_at_call 24; refine (l1Point_any to' _).mono ?_; rw [H4.out]; rintro e w' ⟨rfl, rfl⟩) | (go_at_call 25; refine (l12Time_any un _).mono ?_; rw [H5.out]; rintro e w' ⟨rfl, rfl⟩))
    go_ret2
    exact ⟨_, rfl, made_tr w1 w.heap.size 35 hb1.size, hb1.alloc hb1.size _⟩
  rw [h2, Bool.true_and] at hno
  have H2 := Lib.hid h2
  clear h2
  cases h3 : okP at'
  · have H3 := Lib.hid h3
    clear h3 hno
    go_enter Tryd.func11, Tryd.ntmps11
    go_wp2_with (first | (go_at_call 23; refine (sLeasesValid_any _ xs _ (by exact HV.out)).mono ?_; rw [H1.out]; rintro e w1 ⟨rfl, hb1⟩) | (go_at_call_of 24 (Value.int IntKind.i64 fr); refine (l1Point_any fr _).mono ?_; rw [H2.out]; rintro e w' ⟨rfl, rfl⟩) | (go_at_call_of 24 (Value.int IntKind.i64 at'); refine (l1Point_any at' _).mono ?_; rw [H3.out]; rintro e w' ⟨rfl, rfl⟩) | (go_at_call 24; refine (l1Point_any to' _).mono ?_; rw [H4.out]; rintro e w' ⟨rfl, rfl⟩) | (go_at_call 25; refine (l12Time_any un _).mono ?_; rw [H5.out]; rintro e w' ⟨rfl, rfl⟩))
    go_ret2
    exact ⟨_, rfl, made_tr w1 w.heap.size 35 hb1.size, hb1.alloc hb1.size _⟩
  rw [h3, Bool.true_and] at hno
  have H3 := Lib.hid h3
  clear h3
  cases h4 : okP to'
  · have H4 := Lib.hid h4
    clear h4 hno
    go_enter Tryd.func11, Tryd.ntmps11
    go_wp2_with (first | (go_at_call 23; refine (sLeasesValid_any _ xs _ (by exact HV.out)).mono ?_; rw [H1.out]; rintro e w1 ⟨rfl, hb1⟩) | (go_at_call_of 24 (Value.int IntKind.i64 fr); refine (l1Point_any fr _).mono ?_; rw [H2.out]; rintro e w' ⟨rfl, rfl⟩) | (go_at_call_of 24 (Value.int IntKind.i64 at'); refine (l1Point_any at' _).mono ?_; rw [H3.out]; rintro e w' ⟨rfl, rfl⟩) | (go_at_call 24; refine (l1Point_any to' _).mono ?_; rw [H4.out]; rintro e w' ⟨rfl, rfl⟩) | (go_at_call 25; refine (l12Time_any un _).mono ?_; rw [H5.out]; rintro e w' ⟨rfl, rfl⟩))
    go_ret2
    exact ⟨_, rfl, made_tr w1 w.heap.size 35 hb1.size, hb1.alloc hb1.size _⟩
  rw [h4, Bool.true_and] at hno
  have H4 := Lib.hid h4
  have H5 := Lib.hid hno
  clear h4 hno
  go_enter Tryd.func11, Tryd.ntmps11
  go_wp2_with (first | (go_at_call 23; refine (sLeasesValid_any _ xs _ (by exact HV.out)).mono ?_; rw [H1.out]; rintro e w1 ⟨rfl, hb1⟩) | (go_at_call_of 24 (Value.int IntKind.i64 fr); refine (l1Point_any fr _).mono ?_; rw [H2.out]; rintro e w' ⟨rfl, rfl⟩) | (go_at_call_of 24 (Value.int IntKind.i64 at'); refine (l1Point_any at' _).mono ?_; rw [H3.out]; rintro e w' ⟨rfl, rfl⟩) | (go_at_call 24; refine (l1Point_any to' _).mono ?_; rw [H4.out]; rintro e w' ⟨rfl, rfl⟩) | (go_at_call 25; refine (l12Time_any un _).mono ?_; rw [H5.out]; rintro e w' ⟨rfl, rfl⟩))
  go_ret2
  exact ⟨_, rfl, made_tr w1 w.heap.size 35 hb1.size, hb1.alloc hb1.size _⟩


set_option maxRecDepth 100000 in
set_option maxHeartbeats 2000000 in
theorem sHand_owner (v : Value) (xs : List Tr) (fr at' to' un : Int) (w : World) (hv : TrsAt w v xs) (hyes : lsArgs xs fr at' to' un = true)
    (hown : ((xs.getD (atL xs at') default).b != fr) = true) :
    Calls Tryd.prog 11 #[v, .int .i64 fr, .int .i64 at', .int .i64 to', .int .i64 un] w (LHPost xs false w) := by
  obtain ⟨h1, h2, h3, h4, h5⟩ := lsArgs_open hyes
  have hpos := lsValid_pos h1
  have hlen := lsValid_len h1
  have hk := atL_lt hpos at'
  have H1 := Lib.hid h1
  have H2 := Lib.hid h2
  have H3 := Lib.hid h3
  have H4 := Lib.hid h4
  have H5 := Lib.hid h5
  obtain ⟨J, hJ⟩ : ∃ J, atL xs at' = J := ⟨_, rfl⟩
  obtain ⟨n, hn⟩ : ∃ n, xs.getD J default = n := ⟨_, rfl⟩
  rw [hJ] at hk
  have HJ := Lib.hid hJ
  have HN := Lib.hid hn
  rw [hJ, hn] at hown
  have HV := Lib.hid hv
  obtain ⟨i0, hi, hz0, hz1, hz2⟩ := info_parts Tryd.infoLease
  obtain ⟨p, cap, rfl, hc1, hc2⟩ := hv.form
  have hj0 : (0 : Int) ≤ (J : Int) := by omega
  have hj1 : (J : Int) < (xs.length : Int) := by omega
  clear h1 h2 h3 h4 h5 hJ hn hv hyes
  go_enter Tryd.func11, Tryd.ntmps11
  go_wp2_with (first | (go_at_call 23; refine (sLeasesValid_any _ xs _ (by exact HV.out)).mono ?_; rw [H1.out]; rintro e w1 ⟨rfl, hb1⟩) | (go_at_call_of 24 (Value.int IntKind.i64 fr); refine (l1Point_any fr _).mono ?_; rw [H2.out]; rintro e w' ⟨rfl, rfl⟩) | (go_at_call_of 24 (Value.int IntKind.i64 at'); refine (l1Point_any at' _).mono ?_; rw [H3.out]; rintro e w' ⟨rfl, rfl⟩) | (go_at_call 24; refine (l1Point_any to' _).mono ?_; rw [H4.out]; rintro e w' ⟨rfl, rfl⟩) | (go_at_call 25; refine (l12Time_any un _).mono ?_; rw [H5.out]; rintro e w' ⟨rfl, rfl⟩) | (go_at_call 26; refine (l12At_any _ xs at' _ (by exact HV.out.below hb1 (Nat.le_refl _))).mono ?_; rw [HJ.out]; rintro e w' ⟨rfl, rfl⟩; have hz1' := hb1.size; obtain ⟨b, o, rfl, hbl, q0, q1, q2⟩ := (HV.out.below hb1 (Nat.le_refl _)).tr hk; rw [HN.out] at q0 q1 q2; have x0 := (cell_alloc_w q0 (.cells #[.int .i64 at', .int .i64 to', .int .i64 un] 35)); have x1 := (cell_alloc_w q1 (.cells #[.int .i64 at', .int .i64 to', .int .i64 un] 35)); have x2 := (cell_alloc_w q2 (.cells #[.int .i64 at', .int .i64 to', .int .i64 un] 35)); have hbx := hb1.alloc hz1' (.cells #[.int .i64 at', .int .i64 to', .int .i64 un] 35); have HSX := Lib.hid (HV.out.below hbx (Nat.le_refl _)); have hzx := hbx.size)| (at_builtin; refine wpList_append_src rfl (.tmp 53) (.tmp 54) 24 rfl (w1.heap.size + 1) 35 i0 (.agg #[.int .i64 0, .int .i64 0, .int .i64 0]) 3 24 Tryd.underlying24 hi hz0 hz1 hz2 rfl (by decide) _ _ _ rfl (made_trN (w1.alloc (.cells #[.int .i64 at', .int .i64 to', .int .i64 un] 35)) (w1.heap.size + 1) 35 (by simp)) (.slice (some ⟨b, o, none⟩) xs.length cap) xs.length (flatT xs) rfl (HSX.out.src.below ((Below.refl _ _).alloc (Nat.le_refl _) (.cells #[] 35)) (Nat.le_refl _)) (by unfold maxLen; omega) (by omega) (by simp) ?_; intro v2 w2 hown2 hgrow2 hnil2; obtain ⟨g, cg, rfl, hg1, hg2, hg3, hg4, hBW⟩ := appendedE (w1 := w1.alloc (.cells #[.int .i64 at', .int .i64 to', .int .i64 un] 35)) (by simp) hown2 hgrow2 hnil2))
  go_ret2
  exact ⟨_, rfl, ownsRow_mono hg4 (by omega), hbx.trans (hBW.mono (by omega))⟩

set_option maxRecDepth 100000 in
set_option maxHeartbeats 2000000 in
theorem sHand_full (v : Value) (xs : List Tr) (fr at' to' un : Int) (w : World) (hv : TrsAt w v xs) (hyes : lsArgs xs fr at' to' un = true)
    (hown : ((xs.getD (atL xs at') default).b != fr) = false ∧ ((xs.getD (atL xs at') default).a == at') = false) (hfull : 12 ≤ xs.length) :
    Calls Tryd.prog 11 #[v, .int .i64 fr, .int .i64 at', .int .i64 to', .int .i64 un] w (LHPost xs false w) := by
  obtain ⟨h1, h2, h3, h4, h5⟩ := lsArgs_open hyes
  have hpos := lsValid_pos h1
  have hlen := lsValid_len h1
  have hk := atL_lt hpos at'
  have H1 := Lib.hid h1
  have H2 := Lib.hid h2
  have H3 := Lib.hid h3
  have H4 := Lib.hid h4
  have H5 := Lib.hid h5
  obtain ⟨J, hJ⟩ : ∃ J, atL xs at' = J := ⟨_, rfl⟩
  obtain ⟨n, hn⟩ : ∃ n, xs.getD J default = n := ⟨_, rfl⟩
  rw [hJ] at hk
  have HJ := Lib.hid hJ
  have HN := Lib.hid hn
  rw [hJ, hn] at hown
  have HV := Lib.hid hv
  obtain ⟨i0, hi, hz0, hz1, hz2⟩ := info_parts Tryd.infoLease
  obtain ⟨p, cap, rfl, hc1, hc2⟩ := hv.form
  have hj0 : (0 : Int) ≤ (J : Int) := by omega
  have hj1 : (J : Int) < (xs.length : Int) := by omega
  clear h1 h2 h3 h4 h5 hJ hn hv hyes
  go_enter Tryd.func11, Tryd.ntmps11
  go_wp2_with (first | (go_at_call 23; refine (sLeasesValid_any _ xs _ (by exact HV.out)).mono ?_; rw [H1.out]; rintro e w1 ⟨rfl, hb1⟩) | (go_at_call_of 24 (Value.int IntKind.i64 fr); refine (l1Point_any fr _).mono ?_; rw [H2.out]; rintro e w' ⟨rfl, rfl⟩) | (go_at_call_of 24 (Value.int IntKind.i64 at'); refine (l1Point_any at' _).mono ?_; rw [H3.out]; rintro e w' ⟨rfl, rfl⟩) | (go_at_call 24; refine (l1Point_any to' _).mono ?_; rw [H4.out]; rintro e w' ⟨rfl, rfl⟩) | (go_at_call 25; refine (l12Time_any un _).mono ?_; rw [H5.out]; rintro e w' ⟨rfl, rfl⟩) | (go_at_call 26; refine (l12At_any _ xs at' _ (by exact HV.out.below hb1 (Nat.le_refl _))).mono ?_; rw [HJ.out]; rintro e w' ⟨rfl, rfl⟩; have hz1' := hb1.size; obtain ⟨b, o, rfl, hbl, q0, q1, q2⟩ := (HV.out.below hb1 (Nat.le_refl _)).tr hk; rw [HN.out] at q0 q1 q2; have x0 := (cell_alloc_w q0 (.cells #[.int .i64 at', .int .i64 to', .int .i64 un] 35)); have x1 := (cell_alloc_w q1 (.cells #[.int .i64 at', .int .i64 to', .int .i64 un] 35)); have x2 := (cell_alloc_w q2 (.cells #[.int .i64 at', .int .i64 to', .int .i64 un] 35)); have hbx := hb1.alloc hz1' (.cells #[.int .i64 at', .int .i64 to', .int .i64 un] 35); have HSX := Lib.hid (HV.out.below hbx (Nat.le_refl _)); have hzx := hbx.size)| (at_builtin; refine wpList_append_src rfl (.tmp 72) (.tmp 73) 24 rfl (w1.heap.size + 1) 35 i0 (.agg #[.int .i64 0, .int .i64 0, .int .i64 0]) 3 24 Tryd.underlying24 hi hz0 hz1 hz2 rfl (by decide) _ _ _ rfl (made_trN (w1.alloc (.cells #[.int .i64 at', .int .i64 to', .int .i64 un] 35)) (w1.heap.size + 1) 35 (by simp)) (.slice (some ⟨b, o, none⟩) xs.length cap) xs.length (flatT xs) rfl (HSX.out.src.below ((Below.refl _ _).alloc (Nat.le_refl _) (.cells #[] 35)) (Nat.le_refl _)) (by unfold maxLen; omega) (by omega) (by simp) ?_; intro v2 w2 hown2 hgrow2 hnil2; obtain ⟨g, cg, rfl, hg1, hg2, hg3, hg4, hBW⟩ := appendedE (w1 := w1.alloc (.cells #[.int .i64 at', .int .i64 to', .int .i64 un] 35)) (by simp) hown2 hgrow2 hnil2))
  go_ret2
  exact ⟨_, rfl, ownsRow_mono hg4 (by omega), hbx.trans (hBW.mono (by omega))⟩

set_option maxRecDepth 100000 in
set_option maxHeartbeats 2000000 in
theorem l12Set_any (v : Value) (xs : List Tr) (k : Nat) (x : Tr) (w : World) (hv : TrsAt w v xs) (hk : k < xs.length) (hl : xs.length ≤ 1048576) :
    Calls Tryd.prog 27 #[v, .int .i64 k, .agg #[.int .i64 x.a, .int .i64 x.b, .int .i64 x.c]] w fun e w' => ∃ u, e = .returned u ∧ TrsOwn w' w.heap.size 35 u (xs.set k x) ∧ Below w.heap.size w w' := by
  have hb0 := (Below.refl w.heap.size w).alloc (Nat.le_refl _) (.cells #[.int .i64 x.a, .int .i64 x.b, .int .i64 x.c] 35)
  have hz0' := hb0.size
  have HSX := Lib.hid (hv.below hb0 (Nat.le_refl _))
  obtain ⟨i0, hi, hz0, hz1, hz2⟩ := info_parts Tryd.infoLease
  obtain ⟨p, cap, rfl, hc1, hc2⟩ := hv.form
  obtain ⟨b, o, rfl, -, -, -, -⟩ := hv.tr hk
  have hj0 : (0 : Int) ≤ (k : Int) := by omega
  have hj1 : (k : Int) < (xs.length : Int) := by omega
  have hpos : 0 < xs.length := by omega
  clear hv
  go_enter Tryd.func27, Tryd.ntmps27
  go_wp2_with (at_builtin; refine wpList_append_src rfl (.tmp 8) (.tmp 9) 24 rfl (w.heap.size + 1) 35 i0 (.agg #[.int .i64 0, .int .i64 0, .int .i64 0]) 3 24 Tryd.underlying24 hi hz0 hz1 hz2 rfl (by decide) _ _ _ rfl (made_trN (w.alloc (.cells #[.int .i64 x.a, .int .i64 x.b, .int .i64 x.c] 35)) (w.heap.size + 1) 35 (by simp)) (.slice (some ⟨b, o, none⟩) xs.length cap) xs.length (flatT xs) rfl (HSX.out.src.below ((Below.refl _ _).alloc (Nat.le_refl _) (.cells #[] 35)) (Nat.le_refl _)) (by unfold maxLen; omega) (by omega) (by simp) ?_; intro v2 w2 hown2 hgrow2 hnil2; obtain ⟨g, cg, rfl, hg1, hg2, hg3, hg4, hBW⟩ := appendedE (w1 := w.alloc (.cells #[.int .i64 x.a, .int .i64 x.b, .int .i64 x.c] 35)) (by simp) hown2 hgrow2 hnil2; have HO := Lib.hid (show TrsOwn w2 (w.heap.size + 1) 35 (.slice (some ⟨g, 0, none⟩) xs.length cg) xs from hg4); obtain ⟨r0, r1, r2, rf, -, -⟩ := HO.out.cells hk; unfold maxLen at hg3; obtain ⟨t0, t1, t2, -, -, -⟩ := box_tr (box_n hBW); clear hown2 hgrow2 hnil2 hg4)
  go_ret
  refine ⟨_, rfl, (HO.out.mono (by omega)).set hk x, ?_⟩
  have hge : w.heap.size ≤ g := by omega
  have hq := hb0.trans (hBW.mono (by omega))
  exact ((hq.setCell (p := ⟨g, k * 3, none⟩) hge _).setCell (p := ⟨g, k * 3 + 1, none⟩) hge _).setCell (p := ⟨g, k * 3 + 2, none⟩) hge _

set_option maxRecDepth 100000 in
set_option maxHeartbeats 2000000 in
theorem sHand_set (v : Value) (xs : List Tr) (fr at' to' un : Int) (w : World) (hv : TrsAt w v xs) (hyes : lsArgs xs fr at' to' un = true)
    (hown : ((xs.getD (atL xs at') default).b != fr) = false ∧ ((xs.getD (atL xs at') default).a == at') = true) :
    Calls Tryd.prog 11 #[v, .int .i64 fr, .int .i64 at', .int .i64 to', .int .i64 un] w (LHPost (xs.set (atL xs at') ⟨at', to', un⟩) true w) := by
  obtain ⟨h1, h2, h3, h4, h5⟩ := lsArgs_open hyes
  have hpos := lsValid_pos h1
  have hlen := lsValid_len h1
  have hk := atL_lt hpos at'
  have H1 := Lib.hid h1
  have H2 := Lib.hid h2
  have H3 := Lib.hid h3
  have H4 := Lib.hid h4
  have H5 := Lib.hid h5
  obtain ⟨J, hJ⟩ : ∃ J, atL xs at' = J := ⟨_, rfl⟩
  obtain ⟨n, hn⟩ : ∃ n, xs.getD J default = n := ⟨_, rfl⟩
  rw [hJ] at hk
  have HJ := Lib.hid hJ
  have HN := Lib.hid hn
  rw [hJ, hn] at hown
  have HV := Lib.hid hv
  obtain ⟨i0, hi, hz0, hz1, hz2⟩ := info_parts Tryd.infoLease
  obtain ⟨p, cap, rfl, hc1, hc2⟩ := hv.form
  have hj0 : (0 : Int) ≤ (J : Int) := by omega
  have hj1 : (J : Int) < (xs.length : Int) := by omega
  clear h1 h2 h3 h4 h5 hJ hn hv hyes
  go_enter Tryd.func11, Tryd.ntmps11
  go_wp2_with (first | (go_at_call 23; refine (sLeasesValid_any _ xs _ (by exact HV.out)).mono ?_; rw [H1.out]; rintro e w1 ⟨rfl, hb1⟩) | (go_at_call_of 24 (Value.int IntKind.i64 fr); refine (l1Point_any fr _).mono ?_; rw [H2.out]; rintro e w' ⟨rfl, rfl⟩) | (go_at_call_of 24 (Value.int IntKind.i64 at'); refine (l1Point_any at' _).mono ?_; rw [H3.out]; rintro e w' ⟨rfl, rfl⟩) | (go_at_call 24; refine (l1Point_any to' _).mono ?_; rw [H4.out]; rintro e w' ⟨rfl, rfl⟩) | (go_at_call 25; refine (l12Time_any un _).mono ?_; rw [H5.out]; rintro e w' ⟨rfl, rfl⟩) | (go_at_call 26; refine (l12At_any _ xs at' _ (by exact HV.out.below hb1 (Nat.le_refl _))).mono ?_; rw [HJ.out]; rintro e w' ⟨rfl, rfl⟩; have hz1' := hb1.size; obtain ⟨b, o, rfl, hbl, q0, q1, q2⟩ := (HV.out.below hb1 (Nat.le_refl _)).tr hk; rw [HN.out] at q0 q1 q2; have x0 := (cell_alloc_w q0 (.cells #[.int .i64 at', .int .i64 to', .int .i64 un] 35)); have x1 := (cell_alloc_w q1 (.cells #[.int .i64 at', .int .i64 to', .int .i64 un] 35)); have x2 := (cell_alloc_w q2 (.cells #[.int .i64 at', .int .i64 to', .int .i64 un] 35)); have hbx := hb1.alloc hz1' (.cells #[.int .i64 at', .int .i64 to', .int .i64 un] 35); have HSX := Lib.hid (HV.out.below hbx (Nat.le_refl _)); have hzx := hbx.size)| (go_at_call 27; refine (l12Set_any _ xs J ⟨at', to', un⟩ _ (by exact HSX.out) hk (by omega)).mono ?_; rintro e w2 ⟨u, rfl, hO2, hb2⟩))
  go_ret2
  rw [HJ.out]
  exact ⟨_, rfl, hO2.mono hzx, hbx.trans (hb2.mono hzx)⟩

end Go.Proofs.YtdcjacgaakpejaaDoor
