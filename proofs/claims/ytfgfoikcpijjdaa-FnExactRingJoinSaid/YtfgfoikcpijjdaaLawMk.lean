/-
  Contracts: marking what was handed back, and looking whether the marks are still there.
-/
import Derived.Test.YtfgfoikcpijjdaaLawTo
namespace Go.Proofs.Ytfgfoikcpijjdaa
open Go.RowKit

/-- n marks from k on. -/
def marks (k : Int) (n : Nat) : List Int := (List.range n).map fun i : Nat => k + (i : Int)
theorem marks_length (k : Int) (n : Nat) : (marks k n).length = n := by simp [marks]
theorem marks_get {k : Int} {n j : Nat} (h : j < n) : (marks k n).getD j 0 = k + j := by simp [marks, h]
def markNd (n : Nd) (k : Int) : Nd := ⟨k, k + 1, marks (k + 2) n.after.length⟩
def markR : List Nd → Int → List Nd
  | [], _ => []
  | n :: r, k => markNd n k :: markR r (k + 2 + n.after.length)
def cnt : List Nd → Int
  | [] => 0
  | n :: r => 2 + n.after.length + cnt r
theorem markR_length : ∀ (r : List Nd) (k : Int), (markR r k).length = r.length
  | [], _ => rfl
  | n :: r, k => by simp [markR, markR_length r]
theorem cnt_nonneg : ∀ r : List Nd, 0 ≤ cnt r
  | [] => Int.le_refl _
  | n :: r => by have := cnt_nonneg r; unfold cnt; omega
theorem cnt_append : ∀ r s : List Nd, cnt (r ++ s) = cnt r + cnt s
  | [], s => by simp [cnt]
  | n :: r, s => by simp [cnt, cnt_append r s]; omega
theorem cnt_succ {r : List Nd} {i : Nat} (h : i < r.length) : cnt (r.take (i + 1)) = cnt (r.take i) + 2 + (r.getD i default).after.length := by
  rw [List.take_succ_eq_append_getElem h, cnt_append]
  simp [cnt, h]
  omega
theorem cnt_take_le (r : List Nd) (i : Nat) : cnt (r.take i) ≤ cnt r := by
  have h := cnt_append (r.take i) (r.drop i)
  rw [List.take_append_drop] at h
  have := cnt_nonneg (r.drop i)
  omega
theorem markR_append : ∀ (r s : List Nd) (k : Int), markR (r ++ s) k = markR r k ++ markR s (k + cnt r)
  | [], s, k => by simp [markR, cnt]
  | n :: r, s, k => by
    simp [markR, cnt, markR_append r s]
    congr 1
    omega
theorem mark_step {r : List Nd} {i : Nat} (k : Int) (h : i < r.length) :
    (markR (r.take i) k ++ r.drop i).set i (markNd (r.getD i default) (k + cnt (r.take i))) = markR (r.take (i + 1)) k ++ r.drop (i + 1) := by
  have hl : (markR (r.take i) k).length = i := by rw [markR_length]; simp; omega
  rw [List.set_append_right _ _ (by omega), hl, Nat.sub_self, List.drop_eq_getElem_cons h, List.set_cons_zero, List.take_succ_eq_append_getElem h, markR_append, List.append_assoc]
  simp [markR, h]
theorem markR_getD {r : List Nd} {i : Nat} (k : Int) (h : i < r.length) : (markR r k).getD i default = markNd (r.getD i default) (k + cnt (r.take i)) := by
  have h1 : r = r.take i ++ r.drop i := (List.take_append_drop i r).symm
  have hl : (markR (r.take i) k).length = i := by rw [markR_length]; simp; omega
  have h2 : markR r k = markR (r.take i) k ++ markR (r.drop i) (k + cnt (r.take i)) := by rw [← markR_append, ← h1]
  rw [h2, List.drop_eq_getElem_cons h]
  simp [markR, h, hl]
theorem mark_rest {r : List Nd} {i : Nat} (k : Int) (h : i < r.length) : (markR (r.take i) k ++ r.drop i).getD i default = r.getD i default := by
  have hl : (markR (r.take i) k).length = i := by rw [markR_length]; simp; omega
  simp [List.getElem?_append, hl, h]
theorem marks_set {xs : List Int} {k : Int} {i : Nat} (h : i < xs.length) : (marks k i ++ xs.drop i).set i (k + i) = marks k (i + 1) ++ xs.drop (i + 1) := by
  rw [List.set_append_right _ _ (by rw [marks_length]; omega), marks_length, Nat.sub_self, List.drop_eq_getElem_cons h, List.set_cons_zero]
  simp [marks, List.range_succ]

set_option maxHeartbeats 1000000 in
theorem markIntS_any (p : Option Addr) (c : Nat) (xs : List Int) (k0 : Int) (B : Nat) (w : World) (hv : w.ownsRow B 3 1 (.slice p xs.length c) xs.length (xs.map (Value.int .i64))) (h0 : 0 ≤ k0) (h1 : k0 + xs.length ≤ 1000000000000000) :
    Calls Try.prog 46 #[.slice p xs.length c, .int .i64 k0] w fun e w' => e = .returned (.int .i64 (k0 + xs.length)) ∧ w'.ownsRow B 3 1 (.slice p xs.length c) xs.length ((marks k0 xs.length).map (Value.int .i64)) ∧ w.grownBy w' (Value.slice p xs.length c).ownBlock := by
  rcases hv.2 with ⟨e0, hn⟩ | ⟨g, cap, cur, e0, hBg, hgh, hcap, hcm, -⟩
  · have : xs = [] := List.length_eq_zero_iff.1 hn
    subst this
    simp at e0
    obtain ⟨rfl, rfl⟩ := e0
    go_enter Try.func46, Try.ntmps46
    go_wp2
    refine wp_loop_rounds 1 ?_
    rw [rounds_succ]
    go_wp2
    go_ret
    exact ⟨by simp, by simpa [marks] using hv, ⟨rfl, rfl, rfl, Nat.le_refl _, fun _ _ _ => rfl⟩⟩
  · cases e0
    unfold maxLen at hcm
    have HV := Lib.hid hv
    clear hv hgh
    go_enter Try.func46, Try.ntmps46
    go_wp2
    go_loopw [1, 5] (fun s1 s5 wr => ∃ i : Nat, i ≤ xs.length ∧ s5 = .int .i64 i ∧ s1 = .int .i64 (k0 + i) ∧ wr.ownsRow B 3 1 (.slice (some ⟨g, 0, none⟩) xs.length c) xs.length ((marks k0 i ++ xs.drop i).map (Value.int .i64)) ∧ w.grownBy wr (some g)) (fun _ s _ => xs.length - (intOf s).toNat)
    case atStart => exact ⟨0, Nat.zero_le _, rfl, by simp, by simpa [marks] using HV.out, ⟨rfl, rfl, rfl, Nat.le_refl _, fun _ _ _ => rfl⟩⟩
    case round =>
      obtain ⟨i, hi, rfl, rfl, hown, hgr⟩ := hrel
      by_cases hlt : i < xs.length
      · obtain ⟨old, hc2, hf2, hg⟩ := ownsRow_at hown (j := i) (by simp [marks_length]; omega)
        have HOW := Lib.hid hown
        clear hown
        go_wp2
        go_roundw
        case rel =>
          refine ⟨i + 1, by omega, by go_num, by go_num, ?_, ⟨hgr.os, hgr.tape, hgr.output, by have := hgr.size; simp [World.setCell]; omega, fun q hq hne => ?_⟩⟩
          · rw [← marks_set hlt, List.map_set]
            exact ownsRow_set HOW.out i (.int .i64 (k0 + i))
          · rw [Below.heap_setCell _ _ _ _ (fun e => hne (by rw [e]))]
            exact hgr.block q hq hne
        case measure => simp [intOf]; omega
      · obtain rfl : i = xs.length := by omega
        have hown' : wr.ownsRow B 3 1 (.slice (some ⟨g, 0, none⟩) xs.length c) xs.length ((marks k0 xs.length).map (Value.int .i64)) := by simpa using hown
        have HH := Lib.hid hown'
        clear hown hown'
        go_wp2
        go_ret
        exact ⟨rfl, HH.out, hgr⟩

theorem Keeps.grown {C : Nat} {w a b : World} {row : Option Nat} (h : Keeps C w a) (hg : a.grownBy b row) (hr : ∀ q, row = some q → q < C) : Keeps C w b :=
  ⟨Nat.le_trans h.1 hg.size, fun q hq hl => (hg.block q (Nat.lt_of_lt_of_le hl h.1) (fun e => by have := hr q e.symm; omega)).trans (h.2 q hq hl)⟩

/-- An owned ring, its successors' slices named. -/
def RV (w : World) (B : Nat) (v : Value) (r : List Nd) (vs : List Value) : Prop :=
  vs.length = r.length ∧ w.ownsRow B 41 3 v r.length (flatN r vs) ∧
    (∀ i, i < r.length → w.ownsRow B 3 1 (vs.getD i undef) (r.getD i default).after.length ((r.getD i default).after.map (Value.int .i64))) ∧
    (∀ i j, i < j → j < r.length → ∀ q, (vs.getD i undef).ownBlock = some q → (vs.getD j undef).ownBlock ≠ some q)

/-- A node is marked: its two numbers by stores, its successors by a call. -/
theorem RV.mark {w w1 : World} {B g cap : Nat} {X : List Nd} {vs : List Value} {i : Nat} {k : Int} (h : RV w B (.slice (some ⟨g, 0, none⟩) X.length cap) X vs) (hi : i < X.length)
    (hown : w1.ownsRow B 3 1 (vs.getD i undef) (X.getD i default).after.length ((marks (k + 2) (X.getD i default).after.length).map (Value.int .i64)))
    (hg : ((w.setCell ⟨g, i * 3, none⟩ (.int .i64 k)).setCell ⟨g, i * 3 + 1, none⟩ (.int .i64 (k + 1))).grownBy w1 (vs.getD i undef).ownBlock) :
    RV w1 B (.slice (some ⟨g, 0, none⟩) X.length cap) (X.set i (markNd (X.getD i default) k)) vs := by
  obtain ⟨hl, ho, ha, hd⟩ := h
  have ho1 := ownsRow_set (ownsRow_set ho (i * 3) (.int .i64 k)) (i * 3 + 1) (.int .i64 (k + 1))
  have keep : ∀ {v : Value} {D m : Nat} {xs : List Value}, w.ownsRow D 3 1 v m xs → ((w.setCell ⟨g, i * 3, none⟩ (.int .i64 k)).setCell ⟨g, i * 3 + 1, none⟩ (.int .i64 (k + 1))).ownsRow D 3 1 v m xs := fun hv =>
    ownsRow_setCell_other (ownsRow_setCell_other hv (own_far ho hv) _) (own_far ho hv) _
  refine ⟨by simp [hl], ?_, fun j hj => ?_, fun a b hab hb q hq => hd a b hab (by simpa using hb) q hq⟩
  · have e1 : vs.set i (vs.getD i undef) = vs := List.set_eq_of_getElem? (by simp [hl, hi])
    have e2 : flatN (X.set i (markNd (X.getD i default) k)) vs = ((flatN X vs).set (i * 3) (.int .i64 k)).set (i * 3 + 1) (.int .i64 (k + 1)) := by
      have h1 := flatN_set X vs i (markNd (X.getD i default) k) (vs.getD i undef) hl hi
      rw [e1] at h1
      obtain ⟨-, -, f3⟩ := flatN_get X vs hl i hi
      rw [h1]
      exact List.set_eq_of_getElem? (by rw [List.getElem?_set_ne (by omega), List.getElem?_set_ne (by omega)]; exact f3)
    rw [e2, List.length_set]
    refine ho1.kept hg ?_
    rcases own_ne ho1 (keep (ha i hi)) (by decide) with h0 | h0
    · exact .inl h0
    · exact .inr h0
  · rw [List.length_set] at hj
    by_cases e : j = i
    · subst e
      have e3 : (X.set j (markNd (X.getD j default) k)).getD j default = markNd (X.getD j default) k := by simp [hi]
      rw [e3]
      show w1.ownsRow B _ 1 _ (marks (k + 2) (X.getD j default).after.length).length _
      rw [marks_length]
      exact hown
    · have e3 : (X.set i (markNd (X.getD i default) k)).getD j default = X.getD j default := by simp [Ne.symm e]
      rw [e3]
      refine (keep (ha j hj)).kept hg ?_
      cases hb : (vs.getD j undef).ownBlock with
      | none => exact .inl rfl
      | some q =>
        refine .inr fun e4 => ?_
        rcases Nat.lt_or_ge j i with hlt | hge
        · exact hd j i hlt hi q hb e4.symm
        · exact hd i j (by omega) hj q e4.symm hb

set_option maxHeartbeats 2000000 in
/-- w0: the world in which the ring was read, C its blocks' bound. -/
theorem markNodeS_any (v : Value) (r : List Nd) (k0 : Int) (B C : Nat) (w : World) (hv : RingOwn w B v r) (hC : ∀ {vs : List Value}, RV w B v r vs → (∀ q, v.ownBlock = some q → q < C) ∧ ∀ i, i < r.length → ∀ q, (vs.getD i undef).ownBlock = some q → q < C)
    (h0 : 0 ≤ k0) (h1 : k0 + cnt r ≤ 1000000000000000) :
    Calls Try.prog 17 #[v, .int .i64 k0] w fun e w' => e = .returned (.int .i64 (k0 + cnt r)) ∧ RingOwn w' B v (markR r k0) ∧ Below B w w' ∧ Keeps C w w' := by
  obtain ⟨vs, hvs⟩ : ∃ vs, RV w B v r vs := hv
  obtain ⟨hCg, hCv⟩ := hC hvs
  have hvs' := hvs
  obtain ⟨hl, ho, ha, hd⟩ := hvs'
  rcases ho.2 with ⟨rfl, hn⟩ | ⟨g, cap, cur, rfl, hBg, hgh, hcap, hcm, -⟩
  · have : r = [] := List.length_eq_zero_iff.1 hn
    subst this
    go_enter Try.func17, Try.ntmps17
    go_wp2
    refine wp_loop_rounds 1 ?_
    rw [rounds_succ]
    go_wp2
    go_ret
    exact ⟨by simp [cnt], RingOwn.nil _ _, Below.refl _ _, Keeps.refl _ _⟩
  · unfold maxLen at hcm
    have hgC : g < C := hCg g rfl
    have HVS := Lib.hid hvs
    have HCV := Lib.hid hCv
    clear hvs hC hCg hCv hl ho ha hd hgh
    go_enter Try.func17, Try.ntmps17
    go_wp2
    go_loopw [1, 5] (fun s1 s5 wr => ∃ i : Nat, i ≤ r.length ∧ s5 = .int .i64 i ∧ s1 = .int .i64 (k0 + cnt (r.take i)) ∧ RV wr B (.slice (some ⟨g, 0, none⟩) r.length cap) (markR (r.take i) k0 ++ r.drop i) vs ∧ Below B w wr ∧ Keeps C w wr) (fun _ s _ => r.length - (intOf s).toNat)
    case atStart => exact ⟨0, Nat.zero_le _, rfl, by simp [cnt], by simpa [markR] using HVS.out, Below.refl _ _, Keeps.refl _ _⟩
    case round =>
      obtain ⟨i, hi, rfl, rfl, hrv, hbel, hkp⟩ := hrel
      by_cases hlt : i < r.length
      · have hms := mark_step k0 hlt
        have hmr := mark_rest k0 hlt
        have hcs := cnt_succ hlt
        have hct := cnt_take_le r (i + 1)
        have hcn := cnt_nonneg (r.take i)
        obtain ⟨n, hn⟩ : ∃ n, r.getD i default = n := ⟨_, rfl⟩
        obtain ⟨X, hX⟩ : ∃ X, markR (r.take i) k0 ++ r.drop i = X := ⟨_, rfl⟩
        obtain ⟨k, hk⟩ : ∃ k, k0 + cnt (r.take i) = k := ⟨_, rfl⟩
        rw [hn, hX, hk] at hms
        rw [hn, hX] at hmr
        rw [hX] at hrv
        rw [hn] at hcs
        have hXl : X.length = r.length := by rw [← hX]; simp [markR_length]; omega
        have hk0 : 0 ≤ k := by omega
        have hk1 : k + 2 + n.after.length ≤ 1000000000000000 := by omega
        have hkn : k0 + cnt (r.take (i + 1)) = k + 2 + n.after.length := by omega
        have hrv' : RV wr B (.slice (some ⟨g, 0, none⟩) X.length cap) X vs := by rw [hXl]; exact hrv
        obtain ⟨va, q0, q1, q2, q3, q4, -⟩ := RingOwn.cells (k := i) (show RingOwn wr B (.slice (some ⟨g, 0, none⟩) X.length cap) X from ⟨vs, hrv'⟩) (by omega)
        have hai := hrv'.2.2.1 i (by omega)
        have hvc := flatN_get X vs hrv'.1 i (by omega)
        obtain ⟨g', cap', e1, -, -, -, -, q2', -⟩ := ownsRow_cell hrv'.2.1 hvc.2.2
        cases e1
        obtain ⟨va', hva'⟩ : ∃ x, vs.getD i undef = x := ⟨_, rfl⟩
        have hq := HCV.out i hlt
        rw [hva'] at hai q2' hq
        rw [hmr] at hai
        obtain ⟨pp, cc, rfl⟩ := own_slice hai
        have hfar : (Value.slice pp n.after.length cc).ownBlock ≠ some g := own_far hrv'.2.1 hai
        have hB1 : B ≤ g := hBg
        have hai2 := ownsRow_setCell_other (ownsRow_setCell_other hai hfar (a := ⟨g, i * 3, none⟩) (.int .i64 k)) hfar (a := ⟨g, i * 3 + 1, none⟩) (.int .i64 (k + 1))
        have HRV := Lib.hid hrv'
        have HXL := Lib.hid hXl
        have HMS := Lib.hid hms
        have HMR := Lib.hid hmr
        have HKN := Lib.hid hkn
        have HVA := Lib.hid hva'
        have HK := Lib.hid hk
        have HBlk := Lib.hid (show ∀ q, (Value.slice pp n.after.length cc).ownBlock = some q → B ≤ q from fun q hq => (hai.lt q hq).1)
        have HQ := Lib.hid hq
        rw [hk]
        clear hms hmr hcs hct hcn hn hX hk hXl hkn hrv hrv' hai hvc hva' hq q2 hfar
        go_wp2_with (go_at_call 46; refine (markIntS_any pp cc n.after (k + 1 + 1) B _ (by exact hai2) (by omega) (by omega)).mono ?_; rintro e w1 ⟨rfl, hown1, hg1⟩)
        go_roundw
        case rel =>
          have e2 : k + 1 + 1 = k + 2 := by omega
          rw [e2] at hown1
          have hm := RV.mark (k := k) HRV.out (by rw [HXL.out]; exact hlt) (by rw [HVA.out, HMR.out]; exact hown1) (by rw [HVA.out]; exact hg1)
          rw [HMR.out, HMS.out, HXL.out] at hm
          exact ⟨i + 1, by omega, by go_num, by rw [HKN.out, e2], hm, ((hbel.setCell (p := ⟨g, i * 3, none⟩) hB1 _).setCell (p := ⟨g, i * 3 + 1, none⟩) hB1 _).grown hg1 (by simp [World.setCell]; omega) HBlk.out, ((hkp.setCell (p := ⟨g, i * 3, none⟩) hgC _).setCell (p := ⟨g, i * 3 + 1, none⟩) hgC _).grown hg1 HQ.out⟩
        case measure => simp [intOf]; omega
      · obtain rfl : i = r.length := by omega
        have hrv' : RingOwn wr B (.slice (some ⟨g, 0, none⟩) r.length cap) (markR r k0) := ⟨vs, by simpa [markR_length] using hrv.1, by have := hrv.2.1; simpa [markR_length] using this, by have := hrv.2.2.1; simpa using this, by have := hrv.2.2.2; simpa using this⟩
        have HH := Lib.hid hrv'
        have hct : cnt (r.take r.length) = cnt r := by rw [List.take_length]
        rw [hct]
        clear hrv hrv' hct
        go_wp2
        go_ret
        exact ⟨rfl, HH.out, hbel, hkp⟩

end Go.Proofs.Ytfgfoikcpijjdaa
