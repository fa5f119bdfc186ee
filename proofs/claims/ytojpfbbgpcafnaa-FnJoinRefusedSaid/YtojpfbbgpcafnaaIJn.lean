/-
  Contracts: the step join of the program, on a ring that is held behind a pointer.
-/
import Derived.Test.YtojpfbbgpcafnaaIIns
import Derived.Test.YtojpfbbgpcafnaaICloser
import Derived.Test.YtojpfbbgpcafnaaIRDrop
import Derived.Test.YtojpfbbgpcafnaaIBox
import Derived.Deep.RegionHeld3
namespace Go.Proofs.Ytojpfbbgpcafnaa
open Go.RowKit

theorem ins_get {α : Type} (xs : List α) {J : Nat} (hJ : J ≤ xs.length) (x d : α) (i : Nat) : (xs.take J ++ x :: xs.drop J).getD i d = if i < J then xs.getD i d else if i = J then x else xs.getD (i - 1) d := by
  have hl : (xs.take J).length = J := by simp [hJ]
  simp only [List.getD_eq_getElem?_getD]
  by_cases h1 : i < J
  · rw [if_pos h1, List.getElem?_append_left (by omega), List.getElem?_take_of_lt h1]
  · rw [if_neg h1, List.getElem?_append_right (by omega), hl]
    by_cases h2 : i = J
    · subst h2; simp
    · rw [if_neg h2]
      obtain ⟨m, rfl⟩ : ∃ m, i = J + 1 + m := ⟨i - J - 1, by omega⟩
      rw [show J + 1 + m - J = m + 1 by omega, List.getElem?_cons_succ, List.getElem?_drop, show J + 1 + m - 1 = J + m by omega]

/-- One node more in an owned ring. w0: the world in which the ring was read; since then memory that is new has turned; behind w the row of nodes alone. -/
theorem RingOwn.insert {w0 w w' : World} {B C g cap J : Nat} {r : List Nd} {vs : List Value} {v' u : Value} {n : Nd} (hl : vs.length = r.length)
    (hO : w.ownsRow B 31 3 (.slice (some ⟨g, 0, none⟩) r.length cap) r.length (flatN r vs))
    (ha0 : ∀ i, i < r.length → w0.ownsRow B 3 1 (vs.getD i undef) (r.getD i default).after.length ((r.getD i default).after.map (Value.int .i64)))
    (hd : ∀ i j, i < j → j < r.length → ∀ q, (vs.getD i undef).ownBlock = some q → (vs.getD j undef).ownBlock ≠ some q) (hb : Keeps B w0 w) (hJ : J ≤ r.length)
    (hC : w0.heap.size ≤ C) (hBC : B ≤ C)
    (hu : w.ownsRow C 3 1 u n.after.length (n.after.map (Value.int .i64))) (hg : w.grownBy w' (some g))
    (hO' : w'.ownsRow B 31 3 v' (r.length + 1) ((flatN r vs).take (J * 3) ++ [.int .i64 n.id, .int .i64 n.before, u] ++ (flatN r vs).drop (J * 3))) :
    RingOwn w' B v' (r.take J ++ n :: r.drop J) := by
  have ha := fun i hi => ownsRow_keeps (ha0 i hi) hb (Nat.le_refl _)
  have hlt : ∀ i, i < r.length → ∀ q, (vs.getD i undef).ownBlock = some q → q < C := fun i hi q hq => Nat.lt_of_lt_of_le ((ha0 i hi).lt q hq).2 hC
  have hvl : (vs.take J).length = (r.take J).length := by simp [hl]
  have hlen : (r.take J ++ n :: r.drop J).length = r.length + 1 := by simp; omega
  have keep : ∀ {D m : Nat} {v : Value} {xs : List Value}, w.ownsRow D 3 1 v m xs → w'.ownsRow D 3 1 v m xs := fun {D m v xs} hv => by
    have hne := own_far hO hv
    refine ⟨hv.1, ?_⟩
    rcases hv.2 with hn | ⟨q, c, cur, rfl, hb', hq, rest⟩
    · exact .inl hn
    · exact .inr ⟨q, c, cur, rfl, hb', (hg.block q (Array.getElem?_eq_some_iff.1 hq).1 (fun e => by cases e; exact hne rfl)).trans hq, rest⟩
  refine ⟨vs.take J ++ u :: vs.drop J, by simp [hl], ?_, fun i hi => ?_, fun i j hij hj q hq => ?_⟩
  · have e1 : flatN (n :: r.drop J) (u :: vs.drop J) = [.int .i64 n.id, .int .i64 n.before, u] ++ flatN (r.drop J) (vs.drop J) := rfl
    rw [hlen, flatN_app _ _ _ _ hvl, flatN_take _ _ _ hl, e1, flatN_drop _ _ _ hl, ← List.append_assoc]
    exact hO'
  · rw [hlen] at hi
    rw [ins_get vs (by omega), ins_get r hJ]
    by_cases h1 : i < J
    · rw [if_pos h1, if_pos h1]; exact keep (ha i (by omega))
    · rw [if_neg h1, if_neg h1]
      by_cases h2 : i = J
      · rw [if_pos h2, if_pos h2]; exact keep (ownsRow_mono hu hBC)
      · rw [if_neg h2, if_neg h2]; exact keep (ha (i - 1) (by omega))
  · rw [hlen] at hj
    rw [ins_get vs (by omega)] at hq ⊢
    have hug : ∀ q, u.ownBlock = some q → C ≤ q := fun q hq => (hu.lt q hq).1
    intro e
    by_cases i1 : i < J
    · rw [if_pos i1] at hq
      by_cases j1 : j < J
      · rw [if_pos j1] at e; exact hd i j hij (by omega) q hq e
      · rw [if_neg j1] at e
        by_cases j2 : j = J
        · rw [if_pos j2] at e
          have := hug q e
          have := hlt i (by omega) q hq
          omega
        · rw [if_neg j2] at e; exact hd i (j - 1) (by omega) (by omega) q hq e
    · rw [if_neg i1] at hq
      rw [if_neg (by omega), if_neg (by omega)] at e
      by_cases i2 : i = J
      · rw [if_pos i2] at hq
        have := hug q hq
        have := hlt (j - 1) (by omega) q e
        omega
      · rw [if_neg i2] at hq
        exact hd (i - 1) (j - 1) (by omega) (by omega) q hq e

theorem insert_any (B g cap n J vb kA : Nat) (tA : TypeId) (xs news : List Value) (w : World) (hO : w.ownsRow B 31 3 (.slice (some ⟨g, 0, none⟩) n cap) n xs) (hn : 0 < n) (hJ : J ≤ n) (h10 : n ≤ 10)
    (hnl : news.length = 3) (hnews : ∀ j u, news[j]? = some u → w.cell? ⟨vb, j, none⟩ = some u) (h1n : ∀ u ∈ news, u.oneCell' = true) (h1x : ∀ u ∈ xs, u.oneCell' = true) (hne : vb ≠ g) (hvl : vb < w.heap.size)
    (hsa : w.shape? vb = some (tA, kA)) (hfa : ∀ j, w.frozen? ⟨vb, j, none⟩ = false) :
    Calls Try.prog 102 #[.slice (some ⟨g, 0, none⟩) n cap, .int .i64 J, .slice (some ⟨vb, 0, none⟩) 1 1] w (InsPostT 31 B g n J xs news w) := by
  have hB : B ≤ w.heap.size := by
    obtain ⟨hb, hl⟩ := hO.lt g rfl
    omega
  by_cases e : J = n
  · subst e
    exact insertEnd_any B g cap J vb xs news w hO hn h10 hnl hnews h1n
  · by_cases hc : n < cap
    · exact insertShift_any B g cap n J vb kA tA xs news w hO (by omega) hc (by omega) hnl hnews h1n h1x hne hsa hfa
    · exact insertGrow_any B g cap n J vb xs news w hO (by omega) (by omega) (by omega) hnl hnews h1n h1x hvl hB

theorem insN_any (B C g cap J vb kA : Nat) (tA : TypeId) (r : List Nd) (n : Nd) (u : Value) (w0 w : World) (h : RingOwn w0 B (.slice (some ⟨g, 0, none⟩) r.length cap) r) (hb : Keeps B w0 w) (hn : 0 < r.length) (hJ : J ≤ r.length) (h10 : r.length ≤ 10)
    (hC : w0.heap.size ≤ C) (hBC : B ≤ C) (hu : w.ownsRow C 3 1 u n.after.length (n.after.map (Value.int .i64))) (hu1 : u.oneCell' = true)
    (hc0 : w.cell? ⟨vb, 0, none⟩ = some (.int .i64 n.id)) (hc1 : w.cell? ⟨vb, 1, none⟩ = some (.int .i64 n.before)) (hc2 : w.cell? ⟨vb, 2, none⟩ = some u) (hne : vb ≠ g) (hvl : vb < w.heap.size)
    (hsa : w.shape? vb = some (tA, kA)) (hfa : ∀ j, w.frozen? ⟨vb, j, none⟩ = false) :
    Calls Try.prog 102 #[.slice (some ⟨g, 0, none⟩) r.length cap, .int .i64 J, .slice (some ⟨vb, 0, none⟩) 1 1] w fun e w' =>
      ∃ v', e = .returned v' ∧ RingOwn w' B v' (r.take J ++ n :: r.drop J) ∧ w.grownBy w' (some g) := by
  obtain ⟨vs, hl, ho0, ha, hd⟩ := h
  have ho := ownsRow_keeps ho0 hb (Nat.le_refl _)
  refine (insert_any B g cap r.length J vb kA tA (flatN r vs) [.int .i64 n.id, .int .i64 n.before, u] w ho hn hJ h10 rfl (fun j x hj => ?_) (fun x hx => ?_) ?_ hne hvl hsa hfa).mono ?_
  · match j, hj with
    | 0, hj => cases hj; exact hc0
    | 1, hj => cases hj; exact hc1
    | 2, hj => cases hj; exact hc2
    | j + 3, hj => cases hj
  · simp at hx
    rcases hx with rfl | rfl | rfl
    · rfl
    · rfl
    · exact hu1
  · refine flatN_one r vs hl (fun i hi => ?_)
    rcases (ha i hi).2 with ⟨e, -⟩ | ⟨q, c, cur, e, -⟩ <;> rw [e] <;> rfl
  · rintro e w' ⟨v', rfl, hO', hg⟩
    exact ⟨v', rfl, RingOwn.insert hl ho ha hd hb hJ hC hBC hu hg hO', hg⟩

/-- What is known behind slices.Insert in join, ahead of the store. -/
def InsEnd (w : World) (B S : Nat) (old : Value) (r : List Nd) (e : Ending) (w' : World) : Prop :=
  ∃ g' n' c', e = .returned (.slice (some ⟨g', 0, none⟩) n' c') ∧ w'.cell? ⟨S, 0, none⟩ = some old ∧ w'.frozen? ⟨S, 0, none⟩ = false ∧ Hid ((w'.setCell ⟨S, 0, none⟩ (.slice (some ⟨g', 0, none⟩) n' c')).cell? ⟨S, 0, none⟩ = some (.slice (some ⟨g', 0, none⟩) n' c') ∧ RingOwn (w'.setCell ⟨S, 0, none⟩ (.slice (some ⟨g', 0, none⟩) n' c')) B (.slice (some ⟨g', 0, none⟩) n' c') r ∧ Below B w (w'.setCell ⟨S, 0, none⟩ (.slice (some ⟨g', 0, none⟩) n' c')))
theorem insEnd_of {w w1 w' : World} {B S g : Nat} {old v' : Value} {r : List Nd} (hp : 0 < r.length) (hO : RingOwn w' B v' r) (hg : w1.grownBy w' (some g)) (hb : Below B w w1) (hBg : B ≤ g) (hB1 : B ≤ w1.heap.size) (hBS : B ≤ S) (hSg : S ≠ g) (hSl : S < w1.heap.size)
    (hT : boxT w1 S) (hc : w1.cell? ⟨S, 0, none⟩ = some old) (hf : w1.frozen? ⟨S, 0, none⟩ = false) : InsEnd w B S old r (.returned v') w' := by
  have hc' := (grow_cell (o := 0) hg hSl hSg).trans hc
  obtain ⟨g', c', rfl, -⟩ := hO.form hp
  exact ⟨g', r.length, c', rfl, hc', (World.frozen?_of_block (a := ⟨S, 0, none⟩) (hg.block S hSl (fun e => by cases e; exact hSg rfl))).trans hf,
    Lib.hid ⟨World.cell?_setCell_same _ _ _ (by rw [hc']), hO.storeS (hT.grown hg hSg), (hb.trans (below_grow hg hBg hB1)).setCell (p := ⟨S, 0, none⟩) hBS _⟩⟩

set_option maxHeartbeats 4000000 in
set_option maxRecDepth 100000 in
theorem iJoin_no (S g cap : Nat) (r : List Nd) (id at' : Int) (B : Nat) (w : World) (hO : RingOwn w B (.slice (some ⟨g, 0, none⟩) r.length cap) r) (hs : Shape r) (hpos : 0 < r.length)
    (hS : w.cell? ⟨S, 0, none⟩ = some (.slice (some ⟨g, 0, none⟩) r.length cap)) (hSg : S ≠ g) (hid : okP id = true) (hat : okP at' = true)
    (hno : stepB true r at' (fun k => joinOk r id at' k) = false) :
    Calls Try.prog 77 #[.pointer (some ⟨S, 0, none⟩), .int .i64 id, .int .i64 at'] w fun e w' => e = .returned (.bool false) ∧ Below w.heap.size w w' := by
  have HO := Lib.hid hO
  have HS := Lib.hid hs
  have hSl : S < w.heap.size := World.block_lt_of_cell? w _ hS
  have _hgS : g ≠ S := Ne.symm hSg
  have hl10 := hs.1
  rcases fnd_cases r at' with ⟨hf, -⟩ | ⟨k, hk, hf, hidk, -⟩
  · have HF := Lib.hid hf
    rcases fnd_cases r id with ⟨hx, -⟩ | ⟨j, hj, hx, -, -⟩
    · have HX := Lib.hid hx
      clear hf hO hs hx hno
      go_enter Try.func77, Try.ntmps77
      go_wp2_with fail
      refine (nodeAt_no _ r at' _ (by exact HO.out.at) HF.out).mono ?_
      rintro e w1 ⟨rfl, hb1⟩
      have m1 := (hb1.cell (p := ⟨S, 0, none⟩) hSl).trans hS
      go_wp2_with fail
      refine (nodeAt_no _ r id _ (by exact (HO.out.below hb1 (Nat.le_refl _)).at) HX.out).mono ?_
      rintro e w2 ⟨rfl, hb2⟩
      go_wp2
      go_ret
      exact ⟨rfl, hb1.trans (hb2.mono hb1.size)⟩
    · have HX := Lib.hid hx
      clear hf hO hs hx hno
      go_enter Try.func77, Try.ntmps77
      go_wp2_with fail
      refine (nodeAt_no _ r at' _ (by exact HO.out.at) HF.out).mono ?_
      rintro e w1 ⟨rfl, hb1⟩
      have m1 := (hb1.cell (p := ⟨S, 0, none⟩) hSl).trans hS
      go_wp2_with fail
      refine (nodeAt_own r id g cap j _ (by exact (HO.out.below hb1 (Nat.le_refl _)).at) hj HX.out).mono ?_
      rintro e w2 ⟨rfl, hb2⟩
      go_wp2
      go_ret
      exact ⟨rfl, hb1.trans (hb2.mono hb1.size)⟩
  · rw [stepB_hit rfl hf] at hno
    obtain ⟨bk, ck, hck, hck', hBg, hgl, hbk, c0, c1, c2, d0, d1, cf⟩ := hO.node hk (hs.2 k hk).1
    obtain ⟨s0, hs0⟩ : ∃ x, a0 (r.getD k default) = x := ⟨_, rfl⟩
    have q3 : okP s0 = true := by rw [← hs0]; exact hs.a0ok hk
    have hno' : (decide (fnd r id < 0) && decide (r.length < 10) && btw at' id s0) = false := by rw [← hs0]; exact hno
    rw [hs0] at d0
    have HF := Lib.hid hf
    rcases fnd_cases r id with ⟨hx, -⟩ | ⟨j, hj, hx, -, -⟩
    · have HX := Lib.hid hx
      by_cases hl : r.length < 10
      · have hbt : btw at' id s0 = false := by rw [hx] at hno'; simpa [hl] using hno'
        have hq : ((r.length : Int) == 10) = false := by rw [beq_eq_false_iff_ne]; omega
        have HB := Lib.hid ((cbtw_ok hat hid q3).trans hbt)
        clear hf hO hs hx hno hs0 hno' hbt c0 c1 d1 hidk cf
        go_enter Try.func77, Try.ntmps77
        go_wp2_with fail
        refine (nodeAt_own r at' g cap k _ (by exact HO.out.at) hk HF.out).mono ?_
        rintro e w1 ⟨rfl, hb1⟩
        have m1 := (hb1.cell (p := ⟨S, 0, none⟩) hSl).trans hS
        go_wp2_with fail
        refine (nodeAt_no _ r id _ (by exact (HO.out.below hb1 (Nat.le_refl _)).at) HX.out).mono ?_
        rintro e w2 ⟨rfl, hb2⟩
        have hb12 := hb1.trans (hb2.mono hb1.size)
        have m2 := (hb12.cell (p := ⟨S, 0, none⟩) hSl).trans hS
        have n0 := (hb12.cell (p := ⟨g, k * 3 + 2, none⟩) hgl).trans c2
        have n1 := (hb12.cell (p := ⟨bk, 0, none⟩) hbk).trans d0
        go_wp2_with (go_at_call 39; refine (iBetween_is _ _ _ _ HB.out _).mono ?_; rintro e w3 ⟨rfl, hb3⟩)
        go_ret
        exact ⟨rfl, hb12.trans (hb3.mono hb12.size)⟩
      · have hq : ((r.length : Int) == 10) = true := by rw [beq_iff_eq]; omega
        clear hf hO hs hx hno hs0 hno' c0 c1 d1 hidk cf
        go_enter Try.func77, Try.ntmps77
        go_wp2_with fail
        refine (nodeAt_own r at' g cap k _ (by exact HO.out.at) hk HF.out).mono ?_
        rintro e w1 ⟨rfl, hb1⟩
        have m1 := (hb1.cell (p := ⟨S, 0, none⟩) hSl).trans hS
        go_wp2_with fail
        refine (nodeAt_no _ r id _ (by exact (HO.out.below hb1 (Nat.le_refl _)).at) HX.out).mono ?_
        rintro e w2 ⟨rfl, hb2⟩
        have hb12 := hb1.trans (hb2.mono hb1.size)
        have m2 := (hb12.cell (p := ⟨S, 0, none⟩) hSl).trans hS
        go_wp2
        go_ret
        exact ⟨rfl, hb12⟩
    · have HX := Lib.hid hx
      clear hf hO hs hx hno hs0 hno' c0 c1 d1 hidk cf
      go_enter Try.func77, Try.ntmps77
      go_wp2_with fail
      refine (nodeAt_own r at' g cap k _ (by exact HO.out.at) hk HF.out).mono ?_
      rintro e w1 ⟨rfl, hb1⟩
      have m1 := (hb1.cell (p := ⟨S, 0, none⟩) hSl).trans hS
      go_wp2_with fail
      refine (nodeAt_own r id g cap j _ (by exact (HO.out.below hb1 (Nat.le_refl _)).at) hj HX.out).mono ?_
      rintro e w2 ⟨rfl, hb2⟩
      go_wp2
      go_ret
      exact ⟨rfl, hb1.trans (hb2.mono hb1.size)⟩

set_option maxHeartbeats 4000000 in
set_option maxRecDepth 100000 in
theorem iJoin_yes (S g cap : Nat) (r : List Nd) (id at' : Int) (B k : Nat) (w : World) (hO : RingOwn w B (.slice (some ⟨g, 0, none⟩) r.length cap) r) (hs : ringValid r = true) (hpos : 0 < r.length)
    (hS : w.cell? ⟨S, 0, none⟩ = some (.slice (some ⟨g, 0, none⟩) r.length cap)) (hSg : S ≠ g) (hid : okP id = true) (hat : okP at' = true) (hBw : B ≤ w.heap.size) (hBS : B ≤ S) (hfr : w.frozen? ⟨S, 0, none⟩ = false) (hT : boxT w S)
    (hk : k < r.length) (hf : fnd r at' = (k : Int)) (hx : fnd r id = -1) (hl : r.length < 10) (hbt : btw at' id (a0 (r.getD k default)) = true) :
    Calls Try.prog 77 #[.pointer (some ⟨S, 0, none⟩), .int .i64 id, .int .i64 at'] w fun e w' => e = .returned (.bool true) ∧ Below B w w' ∧
      (∃ u, w'.cell? ⟨S, 0, none⟩ = some u ∧ RingOwn w' B u (joinK r id at' k)) := by
  have hsh := shape_valid hs
  have HO := Lib.hid hO
  have HV := Lib.hid hs
  have HS := Lib.hid hsh
  have HT := Lib.hid hT
  have hSl : S < w.heap.size := World.block_lt_of_cell? w _ hS
  have _hgS : g ≠ S := Ne.symm hSg
  have hl10 := hsh.1
  obtain ⟨bk, ck, hck, hck', hBg, hgl, hbk, c0, c1, c2, d0, d1, cf⟩ := hO.node hk (hsh.2 k hk).1
  obtain ⟨s0, hs0⟩ : ∃ x, a0 (r.getD k default) = x := ⟨_, rfl⟩
  have q3 : okP s0 = true := by rw [← hs0]; exact hsh.a0ok hk
  rw [hs0] at d0 hbt
  have HF := Lib.hid hf
  have HX := Lib.hid hx
  have HB := Lib.hid ((cbtw_ok hat hid q3).trans hbt)
  have hidb := okP_iff.1 hid
  obtain ⟨hid0, hid1⟩ := hidb
  have HIDS := Lib.hid (show ∀ j, j < r.length → 0 ≤ (r.getD j default).id ∧ (r.getD j default).id ≤ 63 from fun j hj => by have := okP_iff.1 (hsh.2 j hj).2.2; omega)
  have HMO := Lib.hid (show ∀ a b, a ≤ b → b < r.length → (r.getD a default).id ≤ (r.getD b default).id from fun a b hab hb => by
    by_cases e : a = b
    · rw [e]; exact Int.le_refl _
    · have := (ringValid_iff.1 hs).2.2 a b (by omega) hb
      omega)
  obtain ⟨A, hA⟩ : ∃ A, (r.getD k default).after = A := ⟨_, rfl⟩
  have hA2 : A.length = 2 := by rw [← hA]; exact (hsh.2 k hk).1
  have hKA : IntsAt w (.slice (some ⟨bk, 0, none⟩) 2 ck) A := by
    have hat' := hO.at
    obtain ⟨p, c, e, -, -, h4⟩ := hat'
    rcases h4 with ⟨e0, -⟩ | ⟨b, o, e1, hb, hcell⟩
    · rw [e0] at hpos; simp at hpos
    · cases e
      cases e1
      obtain ⟨-, -, va, h3, hia⟩ := hcell k hk
      rw [Nat.zero_add, c2] at h3
      cases h3
      rw [← hA]; exact hia
  have HKA := Lib.hid hKA
  have HA := Lib.hid hA
  have hq : ((r.length : Int) == 10) = false := by rw [beq_eq_false_iff_ne]; omega
  have HA2 := Lib.hid hA2
  clear hA2
  have hmf : ∀ (fn : Fn) (first cap : Array Value) (w : World), (Instr.makeFunc fn first cap).run Try.prog w = .ok (.func fn first cap) w := fun _ _ _ _ => rfl
  clear hf hx hs hsh hs0 hbt q3 c0 c1 d1 cf hid hat hO hT hKA hA
  go_enter Try.func77, Try.ntmps77
  go_wp2_with fail
  refine (nodeAt_own r at' g cap k _ (by exact HO.out.at) hk HF.out).mono ?_
  rintro e w1 ⟨rfl, hb1⟩
  have m1 := (hb1.cell (p := ⟨S, 0, none⟩) hSl).trans hS
  go_wp2_with fail
  refine (nodeAt_no _ r id _ (by exact (HO.out.below hb1 (Nat.le_refl _)).at) HX.out).mono ?_
  rintro e w2 ⟨rfl, hb2⟩
  have hb12 := hb1.trans (hb2.mono hb1.size)
  have m2 := (hb12.cell (p := ⟨S, 0, none⟩) hSl).trans hS
  have n0 := (hb12.cell (p := ⟨g, k * 3 + 2, none⟩) hgl).trans c2
  have n1 := (hb12.cell (p := ⟨bk, 0, none⟩) hbk).trans d0
  go_wp2_with (go_at_call 39; refine (iBetween_is _ _ _ _ HB.out _).mono ?_; rintro e w3 ⟨rfl, hb3⟩; have hb13 := hb12.trans (hb3.mono hb12.size); have n3 := (hb13.cell (p := ⟨g, k * 3 + 2, none⟩) hgl).trans c2; have m3 := (hb13.cell (p := ⟨S, 0, none⟩) hSl).trans hS)
  go_wp2_with (go_at_call 83; refine (cloneInts_any _ A _ (by exact HKA.out.below hb13 (Nat.le_refl _)) (by have := HA2.out; omega)).mono ?_; rintro e w4 ⟨u4, rfl, hu4, hb4⟩; obtain ⟨p4, c4, hu4e⟩ : ∃ p4 c4, u4 = .slice p4 A.length c4 := (by rcases hu4.2 with ⟨rfl, h⟩ | ⟨g, cap, cur, rfl, -⟩; exact ⟨none, 0, by rw [h]⟩; exact ⟨_, cap, rfl⟩); subst hu4e; have hz3 := hb13.size; have hb14 := hb13.trans (hb4.mono hz3); have hz4 := hb14.size; have m5 : (w4.alloc (.cells #[.int .i64 id, .int .i64 at', .slice p4 A.length c4] 31)).cell? ⟨S, 0, none⟩ = some (.slice (some ⟨g, 0, none⟩) r.length cap) := (World.cell?_alloc_past _ S 0 (by omega)).trans ((hb14.cell (p := ⟨S, 0, none⟩) hSl).trans hS))
  have hbA := (Below.refl w4.heap.size w4).alloc (Nat.le_refl _) (.cells #[.int .i64 id, .int .i64 at', .slice p4 A.length c4] 31)
  have hb1A := hb14.trans (hbA.mono hz4)
  refine (bsearch_any _ r id _ (by exact (HO.out.below hb1A (Nat.le_refl _)).at) hl10 ⟨hid0, by omega⟩ HIDS.out HMO.out).mono ?_
  rintro e w5 ⟨J, cb, rfl, hJ, hJb, hb5⟩
  have HJ := Lib.hid (ltN_is hJ hJb.1 (fun h => by have := hJb.2 J (Nat.le_refl _) h; omega))
  clear hJb
  have hz1A : w.heap.size + 2 ≤ w5.heap.size + 1 := by have := hb5.size; simp at this; omega
  have hb15 := hb1A.trans (hb5.mono hb1A.size)
  have s5 := (hb15.cell (p := ⟨S, 0, none⟩) hSl).trans hS
  have s5a : (w5.alloc (.cells #[.int .i64 id, .int .i64 at', .slice p4 A.length c4] 31)).cell? ⟨S, 0, none⟩ = some (.slice (some ⟨g, 0, none⟩) r.length cap) := (World.cell?_alloc_past _ S 0 (Nat.lt_of_lt_of_le hSl hb15.size)).trans s5
  have b0 : w5.cell? ⟨w4.heap.size, 0, none⟩ = some (.int .i64 id) := (hb5.cell (p := ⟨w4.heap.size, 0, none⟩) (by simp)).trans (by simp)
  have b1 : w5.cell? ⟨w4.heap.size, 1, none⟩ = some (.int .i64 at') := (hb5.cell (p := ⟨w4.heap.size, 1, none⟩) (by simp)).trans (by simp)
  have b2 : w5.cell? ⟨w4.heap.size, 2, none⟩ = some (.slice p4 A.length c4) := (hb5.cell (p := ⟨w4.heap.size, 2, none⟩) (by simp)).trans (by simp)
  have HI : ∀ W : World, W.heap = (w5.alloc (.cells #[.int .i64 id, .int .i64 at', .slice p4 A.length c4] 31)).heap → W.os = w5.os → W.tape = w5.tape → W.output = w5.output →
      Calls Try.prog 102 #[.slice (some ⟨g, 0, none⟩) r.length cap, .int .i64 J, .slice (some ⟨w5.heap.size, 0, none⟩) 1 1] W (InsEnd w B S (.slice (some ⟨g, 0, none⟩) r.length cap) (joinK r id at' k)) := by
    intro W hW h1 h2 h3
    have hbW0 := (Below.refl w5.heap.size w5).alloc (Nat.le_refl _) (.cells #[.int .i64 id, .int .i64 at', .slice p4 A.length c4] 31)
    have hbW : Below w5.heap.size w5 W := ⟨h1, h2, h3, by rw [hW]; exact hbW0.size, fun b hb => by rw [hW]; exact hbW0.block b hb⟩
    have hbWw := hb15.trans (hbW.mono hb15.size)
    have hlast : W.heap[w5.heap.size]? = some (.cells #[.int .i64 id, .int .i64 at', .slice p4 A.length c4] 31) := by rw [hW]; exact heap_alloc_new _ _
    have hWl : w5.heap.size < W.heap.size := (Array.getElem?_eq_some_iff.1 hlast).1
    have hu5 : W.ownsRow w3.heap.size 3 1 (.slice p4 A.length c4) A.length (A.map (Value.int .i64)) := by
      have hb4W := (hbA.trans (hb5.mono hbA.size)).trans (hbW.mono (hbA.trans (hb5.mono hbA.size)).size)
      exact ownsRow_below hu4 hb4W (Nat.le_refl _)
    have hw5 : w.heap.size ≤ w5.heap.size := hb15.size
    refine (insN_any B w3.heap.size g cap J w5.heap.size 3 31 r ⟨id, at', A⟩ (.slice p4 A.length c4) w W HO.out (Keeps.of_below hbWw (Nat.le_refl _)) hpos hJ hl10 hz3 (by omega) hu5 rfl
      (by simp [World.cell?, hlast]) (by simp [World.cell?, hlast]) (by simp [World.cell?, hlast]) (by omega) hWl (by simp [World.shape?, hlast]) (fun j => by simp [World.frozen?, hlast])).mono ?_
    rintro e w6 ⟨v', rfl, hO6, hg6⟩
    have e1 : r.take J ++ ⟨id, at', A⟩ :: r.drop J = joinK r id at' k := by unfold joinK; rw [HJ.out, HA.out]
    rw [e1] at hO6
    exact insEnd_of (by unfold joinK; simp only [List.length_append, List.length_cons]; omega) hO6 hg6 (hbWw.mono hBw) hBg (by omega) hBS hSg (by omega) (by
      obtain ⟨cur, fl, h⟩ := HT.out
      exact ⟨cur, fl, (hbWw.block S hSl).trans h⟩) ((hbWw.cell (p := ⟨S, 0, none⟩) hSl).trans hS) ((hbWw.frozen (p := ⟨S, 0, none⟩) hSl).trans hfr)
  have HII := Lib.hid HI
  clear HI hz1A hb15 hb1A hbA hu4 hb14 hb4 hb13 hb12 hb1 hb2 hb3 hb5 hz3 hz4 n0 n1 n3 m1 m2 m3 m5 c2 d0
  go_wp2
  go_region_with ((go_at_call 102; refine (HII.out (w5.alloc (.cells #[.int .i64 id, .int .i64 at', .slice p4 A.length c4] 31)).drew rfl rfl rfl rfl).mono ?_; rintro e w6 ⟨g6, n6, c6, rfl, k1, k2, KK⟩))
  all_goals
    go_wp2
    go_ret
    exact ⟨rfl, KK.out.2.2, _, KK.out.1, KK.out.2.1⟩

end Go.Proofs.Ytojpfbbgpcafnaa
