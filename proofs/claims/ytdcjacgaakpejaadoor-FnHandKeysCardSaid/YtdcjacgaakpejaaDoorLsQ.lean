/-
  Contracts: LeaseHand of the reference: the insertion.
-/
import Derived.Test.YtdcjacgaakpejaaDoorLsP
namespace Go.Proofs.YtdcjacgaakpejaaDoor
open Go.RowKit

theorem ins_tr {w : World} {B C k : Nat} {v : Value} {xs : List Tr} {x : Tr} {at' : Int} (hk : k ≤ xs.length) (he : ltE xs at' = k) (hB : B ≤ C)
    (h : w.ownsRow C 35 3 v (0 + k + 1 + (xs.length - k)) ([] ++ (flatT xs).take (k * 3) ++ [.int .i64 x.a, .int .i64 x.b, .int .i64 x.c] ++ (flatT xs).drop (k * 3))) :
    TrsOwn w B 35 v (xs.take (ltE xs at') ++ x :: xs.drop (ltE xs at')) := by
  rw [he]
  have hl : (xs.take k ++ x :: xs.drop k).length = 0 + k + 1 + (xs.length - k) := by simp only [List.length_append, List.length_cons, List.length_take, List.length_drop]; omega
  have hf : flatT (xs.take k ++ x :: xs.drop k) = [] ++ (flatT xs).take (k * 3) ++ [.int .i64 x.a, .int .i64 x.b, .int .i64 x.c] ++ (flatT xs).drop (k * 3) := by
    have e1 : flatT (x :: xs.drop k) = [.int .i64 x.a, .int .i64 x.b, .int .i64 x.c] ++ flatT (xs.drop k) := rfl
    rw [flatT_append, flatT_take, e1, flatT_drop, List.nil_append, List.append_assoc]
  unfold TrsOwn
  rw [hl, hf]
  exact ownsRow_mono h hB

theorem get_set2 (l : List Value) (d : Nat) (v b : Value) (h : 12 ≤ l.length) :
    ((((l.set d v).set 10 v).set 11 b).toArray).getD 10 undef = v ∧ ((((l.set d v).set 10 v).set 11 b).toArray).getD 11 undef = b := by
  constructor
  · simp [Array.getD]; intro h'; omega
  · simp [Array.getD]; intro h'; omega

set_option maxRecDepth 100000 in
set_option maxHeartbeats 8000000 in
theorem sHand_ins (v : Value) (xs : List Tr) (fr at' to' un : Int) (w : World) (hv : TrsAt w v xs) (hyes : lsArgs xs fr at' to' un = true)
    (hown : ((xs.getD (atL xs at') default).b != fr) = false ∧ ((xs.getD (atL xs at') default).a == at') = false) (hroom : xs.length < 12) :
    Calls Tryd.prog 11 #[v, .int .i64 fr, .int .i64 at', .int .i64 to', .int .i64 un] w (LHPost (xs.take (ltE xs at') ++ ⟨at', to', un⟩ :: xs.drop (ltE xs at')) true w) := by
  obtain ⟨h1, h2, h3, h4, h5⟩ := lsArgs_open hyes
  have hpos := lsValid_pos h1
  have hlen := lsValid_len h1
  have hk := atL_lt hpos at'
  have H1 := Lib.hid h1
  have H2 := Lib.hid h2
  have H3 := Lib.hid h3
  have H4 := Lib.hid h4
  have H5 := Lib.hid h5
  obtain ⟨J, hJ⟩ : ∃ J, atL xs at' = J := ⟨_, rfl⟩
  obtain ⟨n, hn⟩ : ∃ n, xs.getD J default = n := ⟨_, rfl⟩
  rw [hJ] at hk
  have HJ := Lib.hid hJ
  have HN := Lib.hid hn
  rw [hJ, hn] at hown
  have HV := Lib.hid hv
  obtain ⟨i0, hi, hz0, hz1, hz2⟩ := info_parts Tryd.infoLease
  obtain ⟨p, cap, rfl, hc1, hc2⟩ := hv.form
  have hj0 : (0 : Int) ≤ (J : Int) := by omega
  have hj1 : (J : Int) < (xs.length : Int) := by omega
  clear h1 h2 h3 h4 h5 hJ hn hv hyes
  go_enter Tryd.func11, Tryd.ntmps11
  go_wp2_with (first | (go_at_call 23; refine (sLeasesValid_any _ xs _ (by exact HV.out)).mono ?_; rw [H1.out]; rintro e w1 ⟨rfl, hb1⟩) | (go_at_call_of 24 (Value.int IntKind.i64 fr); refine (l1Point_any fr _).mono ?_; rw [H2.out]; rintro e w' ⟨rfl, rfl⟩) | (go_at_call_of 24 (Value.int IntKind.i64 at'); refine (l1Point_any at' _).mono ?_; rw [H3.out]; rintro e w' ⟨rfl, rfl⟩) | (go_at_call 24; refine (l1Point_any to' _).mono ?_; rw [H4.out]; rintro e w' ⟨rfl, rfl⟩) | (go_at_call 25; refine (l12Time_any un _).mono ?_; rw [H5.out]; rintro e w' ⟨rfl, rfl⟩) | (go_at_call 26; refine (l12At_any _ xs at' _ (by exact HV.out.below hb1 (Nat.le_refl _))).mono ?_; rw [HJ.out]; rintro e w' ⟨rfl, rfl⟩; have hz1' := hb1.size; obtain ⟨b, o, rfl, hbl, q0, q1, q2⟩ := (HV.out.below hb1 (Nat.le_refl _)).tr hk; rw [HN.out] at q0 q1 q2; have x0 := (cell_alloc_w q0 (.cells #[.int .i64 at', .int .i64 to', .int .i64 un] 35)); have x1 := (cell_alloc_w q1 (.cells #[.int .i64 at', .int .i64 to', .int .i64 un] 35)); have x2 := (cell_alloc_w q2 (.cells #[.int .i64 at', .int .i64 to', .int .i64 un] 35)); have hbx := hb1.alloc hz1' (.cells #[.int .i64 at', .int .i64 to', .int .i64 un] 35); have HSX := Lib.hid (HV.out.below hbx (Nat.le_refl _)); have hzx := hbx.size)| (fail))
  obtain ⟨g0, g1, g2, -, gl, -⟩ := box_tr (Below.refl _ (w1.alloc (.cells #[.int .i64 at', .int .i64 to', .int .i64 un] 35)))
  obtain ⟨gb, hgb⟩ : ∃ gb, w1.heap.size = gb := ⟨_, rfl⟩
  rw [hgb] at g0 g1 g2 gl ⊢
  obtain ⟨wr, hwr⟩ : ∃ wr, w1.alloc (.cells #[.int .i64 at', .int .i64 to', .int .i64 un] 35) = wr := ⟨_, rfl⟩
  rw [hwr] at g0 g1 g2 gl hbx ⊢
  have HSW := Lib.hid (HV.out.below hbx (Nat.le_refl _))
  have hbw := hbx
  have hpos' : 0 < xs.length := hpos
  clear hwr hbx HSX hzx x0 x1 x2 q0 q1 q2 hgb
  go_loop [12] (fun s => ∃ k : Nat, k ≤ xs.length ∧ s = .int .i64 k ∧ Hid (∀ j, j < k → (xs.getD j default).a < at')) (fun s => xs.length - (intOf s).toNat)
  case atStart => exact ⟨0, Nat.zero_le _, rfl, Lib.hid fun j hj => by omega⟩
  case round =>
    obtain ⟨k, hkl, rfl, HA⟩ := hrel
    by_cases hlt : k < xs.length
    · obtain ⟨b', o', e, -, h1, h2, h3⟩ := HSW.out.tr hlt
      cases e
      obtain ⟨m, hm⟩ : ∃ x, xs.getD k default = x := ⟨_, rfl⟩
      rw [hm] at h1 h2 h3
      have HM := Lib.hid hm
      clear hm
      by_cases hf : m.a < at'
      · have hd : decide (m.a < at') = true := decide_eq_true hf
        go_wp2
        go_round
        case rel =>
          refine ⟨k + 1, by omega, by go_num, Lib.hid fun j hj => ?_⟩
          by_cases e : j = k
          · subst e; rw [HM.out]; exact hf
          · exact HA.out j (by omega)
        case measure => simp [intOf]; omega
      · have HKE := Lib.hid (ltE_is (r := xs) (key := at') (k := k) hkl HA.out (fun _ => by rw [HM.out]; omega))
        have hd : decide (m.a < at') = false := decide_eq_false hf
        obtain ⟨O, hOe, hnd⟩ := trs_drop b o k cap xs hc1
        have HND := Lib.hid hnd
        have hND := HND
        have Ba := (Below.refl wr.heap.size wr).alloc (Nat.le_refl _) (.cells #[] 35)
        have Bb := Ba.alloc (by simp) (.cells #[.int .i64 at', .int .i64 to', .int .i64 un] 35)
        have Bc := ((Below.refl wr.heap.size wr).alloc (Nat.le_refl _) (.cells #[.int .i64 at', .int .i64 to', .int .i64 un] 35)).alloc (by simp) (.cells #[] 35)
        have ma := made_trN wr wr.heap.size 35 rfl
        have mc := ownsRow_mono (made_trN (wr.alloc (.cells #[.int .i64 at', .int .i64 to', .int .i64 un] 35)) (wr.heap.size + 1) 35 (by simp)) (Nat.le_succ wr.heap.size)
        have Ma := Lib.hid ma
        have Mb := Lib.hid (ma.alloc (.cells #[.int .i64 at', .int .i64 to', .int .i64 un] 35))
        have Mc := Lib.hid mc
        have kkA := box_keep Ba gl g0 g1 g2
        have kkB := box_keep Bb gl g0 g1 g2
        have kkC := box_keep ((Below.refl wr.heap.size wr).alloc (Nat.le_refl _) (.cells #[.int .i64 at', .int .i64 to', .int .i64 un] 35)) gl g0 g1 g2
        have kkD := box_keep Bc gl g0 g1 g2
        have kkW := box_keep (Below.refl wr.heap.size wr) gl g0 g1 g2
        have j0 : (0 : Int) ≤ (k : Int) := by omega
        have j1 : (k : Int) ≤ (cap : Int) := by omega
        have j2 : (k : Int) ≤ (xs.length : Int) := by omega
        clear hnd ma mc
        go_wp2_with fail
        go_region_held_law (fun w' => w'.cell? ⟨gb, 0, none⟩ = some (.int .i64 at') ∧ w'.cell? ⟨gb, 1, none⟩ = some (.int .i64 to') ∧ w'.cell? ⟨gb, 2, none⟩ = some (.int .i64 un)) (first | go_keep | (exact kk1x) | (exact kk3) | (exact kk2) | (exact kk1) | (exact kkB) | (exact kkC) | (exact kkA) | (exact kkD) | (exact kkW)) (first | (refine step_append_any (by rfl) (.tmp 97) (.tmp 100) 24 (by rfl) wr.heap.size 35 i0 (.agg #[.int .i64 0, .int .i64 0, .int .i64 0]) 3 24 Tryd.underlying24 hi hz0 hz1 hz2 (by rfl) (by decide) v2 (0 + k + 1) ([] ++ ((flatT xs).take (k * 3)) ++ [.int .i64 at', .int .i64 to', .int .i64 un]) (by rfl) (by exact hO3.out) ⟨b, O, none⟩ (xs.length - k) (cap - k) ((flatT xs).drop (k * 3)) (by rfl) (by exact (hND.out _ _ (HV.out.below hb2w (Nat.le_refl _)))) (by unfold maxLen; omega) (by omega) (by first | omega | (simp; omega) | simp) ?_; intro v3 w5 hown3 hgrow3 hnil3; have hO5 := Lib.hid hown3; have hb3 := hb2.grown hgrow3 hz4 (fun q hq => (hO3.out.lt q hq).1); have kk3 := box_keep hb3 gl g0 g1 g2; clear hown3 hnil3) | (have _ := hQc; refine step_append_any (by rfl) (.tmp 94) (.tmp 96) 24 (by rfl) wr.heap.size 35 i0 (.agg #[.int .i64 0, .int .i64 0, .int .i64 0]) 3 24 Tryd.underlying24 hi hz0 hz1 hz2 (by rfl) (by decide) v1 (0 + k) ([] ++ ((flatT xs).take (k * 3))) (by rfl) (by exact hO1.out) ⟨wr.heap.size + 1, 0, none⟩ 1 1 [.int .i64 at', .int .i64 to', .int .i64 un] (by rfl) (by exact tri_news hQc) (by unfold maxLen; omega) (by omega) (by first | omega | (simp; omega) | simp) ?_; intro v2 w4 hown2 hgrow2 hnil2; have g2x : (w3).grownBy w4 v1.ownBlock := ⟨hgrow2.os, hgrow2.tape, hgrow2.output, hgrow2.size, hgrow2.block⟩; have hO3 := Lib.hid hown2; have hb2 := (hb1).grown g2x (by first | exact hz3 | (simp; omega)) (fun q hq => (hO1.out.lt q hq).1); have hz4 := hb2.size; have hb2w := hbw.trans (hb2.mono hbw.size); have kk2 := box_keep hb2 gl g0 g1 g2; clear hown2 hnil2) | (have _ := hQd; refine step_append_any (by rfl) (.tmp 94) (.tmp 96) 24 (by rfl) wr.heap.size 35 i0 (.agg #[.int .i64 0, .int .i64 0, .int .i64 0]) 3 24 Tryd.underlying24 hi hz0 hz1 hz2 (by rfl) (by decide) v1 (0 + k) ([] ++ ((flatT xs).take (k * 3))) (by rfl) (by exact hO1.out) ⟨wr.heap.size, 0, none⟩ 1 1 [.int .i64 at', .int .i64 to', .int .i64 un] (by rfl) (by exact tri_news hQd) (by unfold maxLen; omega) (by omega) (by first | omega | (simp; omega) | simp) ?_; intro v2 w4 hown2 hgrow2 hnil2; have g2x : (w3).grownBy w4 v1.ownBlock := ⟨hgrow2.os, hgrow2.tape, hgrow2.output, hgrow2.size, hgrow2.block⟩; have hO3 := Lib.hid hown2; have hb2 := (hb1).grown g2x (by first | exact hz3 | (simp; omega)) (fun q hq => (hO1.out.lt q hq).1); have hz4 := hb2.size; have hb2w := hbw.trans (hb2.mono hbw.size); have kk2 := box_keep hb2 gl g0 g1 g2; clear hown2 hnil2) | (refine step_append_any (by rfl) (.tmp 94) (.tmp 96) 24 (by rfl) wr.heap.size 35 i0 (.agg #[.int .i64 0, .int .i64 0, .int .i64 0]) 3 24 Tryd.underlying24 hi hz0 hz1 hz2 (by rfl) (by decide) v1 (0 + k) ([] ++ ((flatT xs).take (k * 3))) (by rfl) (by exact hO1.out.alloc (.cells #[.int .i64 at', .int .i64 to', .int .i64 un] 35)) ⟨w3.heap.size, 0, none⟩ 1 1 [.int .i64 at', .int .i64 to', .int .i64 un] (by rfl) (by exact tri_news (b := w3.heap.size) (tri_new w3 (.int .i64 at') (.int .i64 to') (.int .i64 un) 35)) (by unfold maxLen; omega) (by omega) (by first | omega | (simp; omega) | simp) ?_; intro v2 w4 hown2 hgrow2 hnil2; have g2x : (w3.alloc (.cells #[.int .i64 at', .int .i64 to', .int .i64 un] 35)).grownBy w4 v1.ownBlock := ⟨hgrow2.os, hgrow2.tape, hgrow2.output, hgrow2.size, hgrow2.block⟩; have hO3 := Lib.hid hown2; have hb2 := (hb1.alloc hz3 (.cells #[.int .i64 at', .int .i64 to', .int .i64 un] 35)).grown g2x (by first | exact hz3 | (simp; omega)) (fun q hq => (hO1.out.lt q hq).1); have hz4 := hb2.size; have hb2w := hbw.trans (hb2.mono hbw.size); have kk2 := box_keep hb2 gl g0 g1 g2; clear hown2 hnil2) | (refine step_append_any (by rfl) (.tmp 90) (.tmp 93) 24 (by rfl) wr.heap.size 35 i0 (.agg #[.int .i64 0, .int .i64 0, .int .i64 0]) 3 24 Tryd.underlying24 hi hz0 hz1 hz2 (by rfl) (by decide) (.slice (some ⟨wr.heap.size, 0, none⟩) 0 0) 0 [] (by rfl) (by exact Ma.out) ⟨b, o, none⟩ k cap ((flatT xs).take (k * 3)) (by rfl) (by exact trs_take (w := wr.alloc (.cells #[] 35)) (HV.out.below (hbw.trans (Ba.mono hbw.size)) (Nat.le_refl _)) hkl) (by unfold maxLen; omega) (by omega) (by first | omega | (simp; omega) | simp) ?_; intro v1 w3 hown1 hgrow1 hnil1; have g1x : (wr.alloc (.cells #[] 35)).grownBy w3 (some (wr.heap.size)) := ⟨hgrow1.os, hgrow1.tape, hgrow1.output, hgrow1.size, hgrow1.block⟩; have hO1 := Lib.hid hown1; have hb1 := Ba.grown g1x (by first | (simp; done) | (simp; omega)) (fun q hq => by cases hq; omega); have hz3 := hb1.size; have kk1 := box_keep hb1 gl g0 g1 g2; have kk1x := box_keep (hb1.alloc hz3 (.cells #[.int .i64 at', .int .i64 to', .int .i64 un] 35)) gl g0 g1 g2; have tokA := True.intro; clear hown1 hnil1) | (refine step_append_any (by rfl) (.tmp 90) (.tmp 93) 24 (by rfl) wr.heap.size 35 i0 (.agg #[.int .i64 0, .int .i64 0, .int .i64 0]) 3 24 Tryd.underlying24 hi hz0 hz1 hz2 (by rfl) (by decide) (.slice (some ⟨wr.heap.size, 0, none⟩) 0 0) 0 [] (by rfl) (by exact Mb.out) ⟨b, o, none⟩ k cap ((flatT xs).take (k * 3)) (by rfl) (by exact trs_take (w := (wr.alloc (.cells #[] 35)).alloc (.cells #[.int .i64 at', .int .i64 to', .int .i64 un] 35)) (HV.out.below (hbw.trans (Bb.mono hbw.size)) (Nat.le_refl _)) hkl) (by unfold maxLen; omega) (by omega) (by first | omega | (simp; omega) | simp) ?_; intro v1 w3 hown1 hgrow1 hnil1; have g1x : ((wr.alloc (.cells #[] 35)).alloc (.cells #[.int .i64 at', .int .i64 to', .int .i64 un] 35)).grownBy w3 (some (wr.heap.size)) := ⟨hgrow1.os, hgrow1.tape, hgrow1.output, hgrow1.size, hgrow1.block⟩; have hO1 := Lib.hid hown1; have hb1 := Bb.grown g1x (by first | (simp; done) | (simp; omega)) (fun q hq => by cases hq; omega); have hz3 := hb1.size; have kk1 := box_keep hb1 gl g0 g1 g2; have kk1x := box_keep (hb1.alloc hz3 (.cells #[.int .i64 at', .int .i64 to', .int .i64 un] 35)) gl g0 g1 g2; have hQc := tri_kept g1x (by simp) (by first | omega | (simp; done) | (simp; omega)) (tri_new (wr.alloc (.cells #[] 35)) (.int .i64 at') (.int .i64 to') (.int .i64 un) 35); rw [World.size_alloc] at hQc; clear hown1 hnil1) | (refine step_append_any (by rfl) (.tmp 90) (.tmp 93) 24 (by rfl) wr.heap.size 35 i0 (.agg #[.int .i64 0, .int .i64 0, .int .i64 0]) 3 24 Tryd.underlying24 hi hz0 hz1 hz2 (by rfl) (by decide) (.slice (some ⟨wr.heap.size + 1, 0, none⟩) 0 0) 0 [] (by rfl) (by exact Mc.out) ⟨b, o, none⟩ k cap ((flatT xs).take (k * 3)) (by rfl) (by exact trs_take (w := (wr.alloc (.cells #[.int .i64 at', .int .i64 to', .int .i64 un] 35)).alloc (.cells #[] 35)) (HV.out.below (hbw.trans (Bc.mono hbw.size)) (Nat.le_refl _)) hkl) (by unfold maxLen; omega) (by omega) (by first | omega | (simp; omega) | simp) ?_; intro v1 w3 hown1 hgrow1 hnil1; have g1x : ((wr.alloc (.cells #[.int .i64 at', .int .i64 to', .int .i64 un] 35)).alloc (.cells #[] 35)).grownBy w3 (some (wr.heap.size + 1)) := ⟨hgrow1.os, hgrow1.tape, hgrow1.output, hgrow1.size, hgrow1.block⟩; have hO1 := Lib.hid hown1; have hb1 := Bc.grown g1x (by first | (simp; done) | (simp; omega)) (fun q hq => by cases hq; omega); have hz3 := hb1.size; have kk1 := box_keep hb1 gl g0 g1 g2; have kk1x := box_keep (hb1.alloc hz3 (.cells #[.int .i64 at', .int .i64 to', .int .i64 un] 35)) gl g0 g1 g2; have hQd := tri_kept g1x (by first | (simp; done) | (simp; omega)) (by first | omega | (simp; done) | (simp; omega)) (tri_old (wr.alloc (.cells #[.int .i64 at', .int .i64 to', .int .i64 un] 35)) (.cells #[] 35) (tri_new wr (.int .i64 at') (.int .i64 to') (.int .i64 un) 35)); clear hown1 hnil1))
        all_goals
          clear j0 j1 j2
          go_wp2
          go_ret2
          refine ⟨v3, ?_, ins_tr hkl HKE.out hbw.size hO5.out, hbw.trans (hb3.mono hbw.size)⟩; dsimp only; rw [(get_set2 _ _ v3 (.bool true) (by simp)).1, (get_set2 _ _ v3 (.bool true) (by simp)).2]
    · have HKE := Lib.hid (ltE_is (r := xs) (key := at') (k := k) hkl HA.out (fun h => absurd h hlt))
      obtain ⟨O, hOe, hnd⟩ := trs_drop b o k cap xs hc1
      have HND := Lib.hid hnd
      have hND := HND
      have Ba := (Below.refl wr.heap.size wr).alloc (Nat.le_refl _) (.cells #[] 35)
      have Bb := Ba.alloc (by simp) (.cells #[.int .i64 at', .int .i64 to', .int .i64 un] 35)
      have Bc := ((Below.refl wr.heap.size wr).alloc (Nat.le_refl _) (.cells #[.int .i64 at', .int .i64 to', .int .i64 un] 35)).alloc (by simp) (.cells #[] 35)
      have ma := made_trN wr wr.heap.size 35 rfl
      have mc := ownsRow_mono (made_trN (wr.alloc (.cells #[.int .i64 at', .int .i64 to', .int .i64 un] 35)) (wr.heap.size + 1) 35 (by simp)) (Nat.le_succ wr.heap.size)
      have Ma := Lib.hid ma
      have Mb := Lib.hid (ma.alloc (.cells #[.int .i64 at', .int .i64 to', .int .i64 un] 35))
      have Mc := Lib.hid mc
      have kkA := box_keep Ba gl g0 g1 g2
      have kkB := box_keep Bb gl g0 g1 g2
      have kkC := box_keep ((Below.refl wr.heap.size wr).alloc (Nat.le_refl _) (.cells #[.int .i64 at', .int .i64 to', .int .i64 un] 35)) gl g0 g1 g2
      have kkD := box_keep Bc gl g0 g1 g2
      have kkW := box_keep (Below.refl wr.heap.size wr) gl g0 g1 g2
      have j0 : (0 : Int) ≤ (k : Int) := by omega
      have j1 : (k : Int) ≤ (cap : Int) := by omega
      have j2 : (k : Int) ≤ (xs.length : Int) := by omega
      clear hnd ma mc
      go_wp2_with fail
      go_region_held_law (fun w' => w'.cell? ⟨gb, 0, none⟩ = some (.int .i64 at') ∧ w'.cell? ⟨gb, 1, none⟩ = some (.int .i64 to') ∧ w'.cell? ⟨gb, 2, none⟩ = some (.int .i64 un)) (first | go_keep | (exact kk1x) | (exact kk3) | (exact kk2) | (exact kk1) | (exact kkB) | (exact kkC) | (exact kkA) | (exact kkD) | (exact kkW)) (first | (refine step_append_any (by rfl) (.tmp 97) (.tmp 100) 24 (by rfl) wr.heap.size 35 i0 (.agg #[.int .i64 0, .int .i64 0, .int .i64 0]) 3 24 Tryd.underlying24 hi hz0 hz1 hz2 (by rfl) (by decide) v2 (0 + k + 1) ([] ++ ((flatT xs).take (k * 3)) ++ [.int .i64 at', .int .i64 to', .int .i64 un]) (by rfl) (by exact hO3.out) ⟨b, O, none⟩ (xs.length - k) (cap - k) ((flatT xs).drop (k * 3)) (by rfl) (by exact (hND.out _ _ (HV.out.below hb2w (Nat.le_refl _)))) (by unfold maxLen; omega) (by omega) (by first | omega | (simp; omega) | simp) ?_; intro v3 w5 hown3 hgrow3 hnil3; have hO5 := Lib.hid hown3; have hb3 := hb2.grown hgrow3 hz4 (fun q hq => (hO3.out.lt q hq).1); have kk3 := box_keep hb3 gl g0 g1 g2; clear hown3 hnil3) | (have _ := hQc; refine step_append_any (by rfl) (.tmp 94) (.tmp 96) 24 (by rfl) wr.heap.size 35 i0 (.agg #[.int .i64 0, .int .i64 0, .int .i64 0]) 3 24 Tryd.underlying24 hi hz0 hz1 hz2 (by rfl) (by decide) v1 (0 + k) ([] ++ ((flatT xs).take (k * 3))) (by rfl) (by exact hO1.out) ⟨wr.heap.size + 1, 0, none⟩ 1 1 [.int .i64 at', .int .i64 to', .int .i64 un] (by rfl) (by exact tri_news hQc) (by unfold maxLen; omega) (by omega) (by first | omega | (simp; omega) | simp) ?_; intro v2 w4 hown2 hgrow2 hnil2; have g2x : (w3).grownBy w4 v1.ownBlock := ⟨hgrow2.os, hgrow2.tape, hgrow2.output, hgrow2.size, hgrow2.block⟩; have hO3 := Lib.hid hown2; have hb2 := (hb1).grown g2x (by first | exact hz3 | (simp; omega)) (fun q hq => (hO1.out.lt q hq).1); have hz4 := hb2.size; have hb2w := hbw.trans (hb2.mono hbw.size); have kk2 := box_keep hb2 gl g0 g1 g2; clear hown2 hnil2) | (have _ := hQd; refine step_append_any (by rfl) (.tmp 94) (.tmp 96) 24 (by rfl) wr.heap.size 35 i0 (.agg #[.int .i64 0, .int .i64 0, .int .i64 0]) 3 24 Tryd.underlying24 hi hz0 hz1 hz2 (by rfl) (by decide) v1 (0 + k) ([] ++ ((flatT xs).take (k * 3))) (by rfl) (by exact hO1.out) ⟨wr.heap.size, 0, none⟩ 1 1 [.int .i64 at', .int .i64 to', .int .i64 un] (by rfl) (by exact tri_news hQd) (by unfold maxLen; omega) (by omega) (by first | omega | (simp; omega) | simp) ?_; intro v2 w4 hown2 hgrow2 hnil2; have g2x : (w3).grownBy w4 v1.ownBlock := ⟨hgrow2.os, hgrow2.tape, hgrow2.output, hgrow2.size, hgrow2.block⟩; have hO3 := Lib.hid hown2; have hb2 := (hb1).grown g2x (by first | exact hz3 | (simp; omega)) (fun q hq => (hO1.out.lt q hq).1); have hz4 := hb2.size; have hb2w := hbw.trans (hb2.mono hbw.size); have kk2 := box_keep hb2 gl g0 g1 g2; clear hown2 hnil2) | (refine step_append_any (by rfl) (.tmp 94) (.tmp 96) 24 (by rfl) wr.heap.size 35 i0 (.agg #[.int .i64 0, .int .i64 0, .int .i64 0]) 3 24 Tryd.underlying24 hi hz0 hz1 hz2 (by rfl) (by decide) v1 (0 + k) ([] ++ ((flatT xs).take (k * 3))) (by rfl) (by exact hO1.out.alloc (.cells #[.int .i64 at', .int .i64 to', .int .i64 un] 35)) ⟨w3.heap.size, 0, none⟩ 1 1 [.int .i64 at', .int .i64 to', .int .i64 un] (by rfl) (by exact tri_news (b := w3.heap.size) (tri_new w3 (.int .i64 at') (.int .i64 to') (.int .i64 un) 35)) (by unfold maxLen; omega) (by omega) (by first | omega | (simp; omega) | simp) ?_; intro v2 w4 hown2 hgrow2 hnil2; have g2x : (w3.alloc (.cells #[.int .i64 at', .int .i64 to', .int .i64 un] 35)).grownBy w4 v1.ownBlock := ⟨hgrow2.os, hgrow2.tape, hgrow2.output, hgrow2.size, hgrow2.block⟩; have hO3 := Lib.hid hown2; have hb2 := (hb1.alloc hz3 (.cells #[.int .i64 at', .int .i64 to', .int .i64 un] 35)).grown g2x (by first | exact hz3 | (simp; omega)) (fun q hq => (hO1.out.lt q hq).1); have hz4 := hb2.size; have hb2w := hbw.trans (hb2.mono hbw.size); have kk2 := box_keep hb2 gl g0 g1 g2; clear hown2 hnil2) | (refine step_append_any (by rfl) (.tmp 90) (.tmp 93) 24 (by rfl) wr.heap.size 35 i0 (.agg #[.int .i64 0, .int .i64 0, .int .i64 0]) 3 24 Tryd.underlying24 hi hz0 hz1 hz2 (by rfl) (by decide) (.slice (some ⟨wr.heap.size, 0, none⟩) 0 0) 0 [] (by rfl) (by exact Ma.out) ⟨b, o, none⟩ k cap ((flatT xs).take (k * 3)) (by rfl) (by exact trs_take (w := wr.alloc (.cells #[] 35)) (HV.out.below (hbw.trans (Ba.mono hbw.size)) (Nat.le_refl _)) hkl) (by unfold maxLen; omega) (by omega) (by first | omega | (simp; omega) | simp) ?_; intro v1 w3 hown1 hgrow1 hnil1; have g1x : (wr.alloc (.cells #[] 35)).grownBy w3 (some (wr.heap.size)) := ⟨hgrow1.os, hgrow1.tape, hgrow1.output, hgrow1.size, hgrow1.block⟩; have hO1 := Lib.hid hown1; have hb1 := Ba.grown g1x (by first | (simp; done) | (simp; omega)) (fun q hq => by cases hq; omega); have hz3 := hb1.size; have kk1 := box_keep hb1 gl g0 g1 g2; have kk1x := box_keep (hb1.alloc hz3 (.cells #[.int .i64 at', .int .i64 to', .int .i64 un] 35)) gl g0 g1 g2; have tokA := True.intro; clear hown1 hnil1) | (refine step_append_any (by rfl) (.tmp 90) (.tmp 93) 24 (by rfl) wr.heap.size 35 i0 (.agg #[.int .i64 0, .int .i64 0, .int .i64 0]) 3 24 Tryd.underlying24 hi hz0 hz1 hz2 (by rfl) (by decide) (.slice (some ⟨wr.heap.size, 0, none⟩) 0 0) 0 [] (by rfl) (by exact Mb.out) ⟨b, o, none⟩ k cap ((flatT xs).take (k * 3)) (by rfl) (by exact trs_take (w := (wr.alloc (.cells #[] 35)).alloc (.cells #[.int .i64 at', .int .i64 to', .int .i64 un] 35)) (HV.out.below (hbw.trans (Bb.mono hbw.size)) (Nat.le_refl _)) hkl) (by unfold maxLen; omega) (by omega) (by first | omega | (simp; omega) | simp) ?_; intro v1 w3 hown1 hgrow1 hnil1; have g1x : ((wr.alloc (.cells #[] 35)).alloc (.cells #[.int .i64 at', .int .i64 to', .int .i64 un] 35)).grownBy w3 (some (wr.heap.size)) := ⟨hgrow1.os, hgrow1.tape, hgrow1.output, hgrow1.size, hgrow1.block⟩; have hO1 := Lib.hid hown1; have hb1 := Bb.grown g1x (by first | (simp; done) | (simp; omega)) (fun q hq => by cases hq; omega); have hz3 := hb1.size; have kk1 := box_keep hb1 gl g0 g1 g2; have kk1x := box_keep (hb1.alloc hz3 (.cells #[.int .i64 at', .int .i64 to', .int .i64 un] 35)) gl g0 g1 g2; have hQc := tri_kept g1x (by simp) (by first | omega | (simp; done) | (simp; omega)) (tri_new (wr.alloc (.cells #[] 35)) (.int .i64 at') (.int .i64 to') (.int .i64 un) 35); rw [World.size_alloc] at hQc; clear hown1 hnil1) | (refine step_append_any (by rfl) (.tmp 90) (.tmp 93) 24 (by rfl) wr.heap.size 35 i0 (.agg #[.int .i64 0, .int .i64 0, .int .i64 0]) 3 24 Tryd.underlying24 hi hz0 hz1 hz2 (by rfl) (by decide) (.slice (some ⟨wr.heap.size + 1, 0, none⟩) 0 0) 0 [] (by rfl) (by exact Mc.out) ⟨b, o, none⟩ k cap ((flatT xs).take (k * 3)) (by rfl) (by exact trs_take (w := (wr.alloc (.cells #[.int .i64 at', .int .i64 to', .int .i64 un] 35)).alloc (.cells #[] 35)) (HV.out.below (hbw.trans (Bc.mono hbw.size)) (Nat.le_refl _)) hkl) (by unfold maxLen; omega) (by omega) (by first | omega | (simp; omega) | simp) ?_; intro v1 w3 hown1 hgrow1 hnil1; have g1x : ((wr.alloc (.cells #[.int .i64 at', .int .i64 to', .int .i64 un] 35)).alloc (.cells #[] 35)).grownBy w3 (some (wr.heap.size + 1)) := ⟨hgrow1.os, hgrow1.tape, hgrow1.output, hgrow1.size, hgrow1.block⟩; have hO1 := Lib.hid hown1; have hb1 := Bc.grown g1x (by first | (simp; done) | (simp; omega)) (fun q hq => by cases hq; omega); have hz3 := hb1.size; have kk1 := box_keep hb1 gl g0 g1 g2; have kk1x := box_keep (hb1.alloc hz3 (.cells #[.int .i64 at', .int .i64 to', .int .i64 un] 35)) gl g0 g1 g2; have hQd := tri_kept g1x (by first | (simp; done) | (simp; omega)) (by first | omega | (simp; done) | (simp; omega)) (tri_old (wr.alloc (.cells #[.int .i64 at', .int .i64 to', .int .i64 un] 35)) (.cells #[] 35) (tri_new wr (.int .i64 at') (.int .i64 to') (.int .i64 un) 35)); clear hown1 hnil1))
      all_goals
        clear j0 j1 j2
        go_wp2
        go_ret2
        refine ⟨v3, ?_, ins_tr hkl HKE.out hbw.size hO5.out, hbw.trans (hb3.mono hbw.size)⟩; dsimp only; rw [(get_set2 _ _ v3 (.bool true) (by simp)).1, (get_set2 _ _ v3 (.bool true) (by simp)).2]

theorem sLeaseHand_any (v : Value) (xs : List Tr) (fr at' to' un : Int) (w : World) (hv : TrsAt w v xs) :
    Calls Tryd.prog 11 #[v, .int .i64 fr, .int .i64 at', .int .i64 to', .int .i64 un] w (LHPost (handR xs fr at' to' un) (handOk xs fr at' to' un) w) := by
  unfold handR handOk
  cases hA : lsArgs xs fr at' to' un
  · simp only [Bool.false_and, Bool.false_eq_true, if_false]
    exact sHand_args v xs fr at' to' un w hv hA
  by_cases hb : (xs.getD (atL xs at') default).b = fr
  · by_cases ha : (xs.getD (atL xs at') default).a = at'
    · simp only [hb, ha, decide_true, Bool.true_and, Bool.true_or, if_true]
      exact sHand_set v xs fr at' to' un w hv hA ⟨bne_eq_false_iff_eq.2 hb, beq_iff_eq.2 ha⟩
    · by_cases hl : xs.length < 12
      · simp only [hb, ha, hl, decide_true, decide_false, Bool.true_and, Bool.false_or, if_true, if_false]
        exact sHand_ins v xs fr at' to' un w hv hA ⟨bne_eq_false_iff_eq.2 hb, beq_eq_false_iff_ne.2 ha⟩ hl
      · simp only [hb, ha, hl, decide_true, decide_false, Bool.true_and, Bool.false_or, if_true, if_false]
        exact sHand_full v xs fr at' to' un w hv hA ⟨bne_eq_false_iff_eq.2 hb, beq_eq_false_iff_ne.2 ha⟩ (by omega)
  · simp only [hb, decide_false, Bool.and_false, Bool.false_and, if_true, if_false]
    exact sHand_owner v xs fr at' to' un w hv hA (bne_iff_ne.2 hb)

end Go.Proofs.YtdcjacgaakpejaaDoor
