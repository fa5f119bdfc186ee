/-
  Contracts: copies of rings, of the program.
-/
import Derived.Test.YtojpfbbgpcafnaaStepU
import Derived.Lib.SliceRun
namespace Go.Proofs.Ytojpfbbgpcafnaa
open Go.RowKit

set_option maxHeartbeats 400000 in
theorem cloneInts_any (v : Value) (xs : List Int) (w : World) (hv : IntsAt w v xs) (hl : xs.length ≤ 1048576) :
    Calls Try.prog 83 #[v] w fun e w' => ∃ u, e = .returned u ∧ w'.ownsRow w.heap.size 3 1 u xs.length (xs.map (Value.int .i64)) ∧ Below w.heap.size w w' := by
  have hsrc := hv.src
  obtain ⟨p, cap, rfl, hc, hm, h4⟩ := hv
  unfold maxLen at hm
  have qT : ∀ (w : World) (a : Option Addr) (n c n' c' : Nat), (binOp .eql 29 (.slice a n c) (.slice none n' c')).run Try.prog w = .ok (.bool a.isNone) w := fun w a n c n' c' => Lib.run_eql_slice_nil w _ _ a n c n' c' Try.underlying29
  obtain ⟨i0, hi, hz0, hz1, hz2⟩ := info_parts Try.infoInt
  have HS := Lib.hid hsrc
  clear hsrc
  cases p with
  | none =>
    rcases h4 with ⟨rfl, h5⟩ | ⟨b, o, h, -⟩
    · obtain rfl : cap = 0 := h5 rfl
      go_enter Try.func83, Try.ntmps83
      go_wp2
      go_ret
      exact ⟨_, rfl, World.ownsRow_nil _ _ _ _, Below.refl _ _⟩
    · cases h
  | some ad =>
    clear h4
    have hB0 := (Below.refl w.heap.size w).alloc (Nat.le_refl _) (.cells #[] 3)
    go_enter Try.func83, Try.ntmps83
    go_wp2_with (at_builtin; refine wpList_append_src rfl (.tmp 5) (.tmp 6) 29 rfl w.heap.size 3 i0 (.int .i64 0) 1 8 Try.underlying29 hi hz0 hz1 hz2 rfl (by decide) _ _ _ rfl (made0 w _ rfl) (.slice (some ad) xs.length cap) xs.length (xs.map (Value.int .i64)) rfl (HS.out.below hB0 (Nat.le_refl _)) (by unfold maxLen; omega) (by omega) (by simp) ?_; intro v' w1 hown' hgrow hnil; obtain ⟨g, cg, rfl, hg1, hg2, hg3, hg4, hBW⟩ := appendedN rfl hown' hgrow hnil)
    go_ret
    exact ⟨_, rfl, hg4, hBW⟩

set_option maxHeartbeats 400000 in
theorem cloneNodes_any (v : Value) (r : List Nd) (vs : List Value) (w : World) (hv : RingAt w v r) (hsrc : SrcIs w 3 v r.length (flatN r vs)) (hl : r.length ≤ 1048576) :
    Calls Try.prog 82 #[v] w fun e w' => ∃ u, e = .returned u ∧ w'.ownsRow w.heap.size 31 3 u r.length (flatN r vs) ∧ Below w.heap.size w w' := by
  obtain ⟨p, cap, rfl, hc, hm, h4⟩ := hv
  unfold maxLen at hm
  have qT : ∀ (w : World) (a : Option Addr) (n c n' c' : Nat), (binOp .eql 23 (.slice a n c) (.slice none n' c')).run Try.prog w = .ok (.bool a.isNone) w := fun w a n c n' c' => Lib.run_eql_slice_nil w _ _ a n c n' c' Try.underlying23
  obtain ⟨n0, ni, nz0, nz1, nz2⟩ := info_parts Try.infoNode
  have HS := Lib.hid hsrc
  have HF := Lib.hid hsrc.1
  clear hsrc
  cases p with
  | none =>
    rcases h4 with ⟨rfl, h5⟩ | ⟨b, o, h, -⟩
    · obtain rfl : cap = 0 := h5 rfl
      go_enter Try.func82, Try.ntmps82
      go_wp2
      go_ret
      exact ⟨_, rfl, by simpa [flatN] using World.ownsRow_nil w w.heap.size 31 3, Below.refl _ _⟩
    · cases h
  | some ad =>
    clear h4
    have hB0 := (Below.refl w.heap.size w).alloc (Nat.le_refl _) (.cells #[] 31)
    go_enter Try.func82, Try.ntmps82
    go_wp2_with (at_builtin; refine wpList_append_src rfl (.tmp 5) (.tmp 6) 23 rfl w.heap.size 31 n0 (.agg #[.int .i64 0, .int .i64 0, .slice none 0 0]) 3 40 Try.underlying23 ni nz0 nz1 nz2 rfl (by decide) _ _ _ rfl (World.ownsRow_made w #[] 0 (Nat.le_refl _) (by unfold maxLen; omega) rfl) (.slice (some ad) r.length cap) r.length (flatN r vs) rfl (HS.out.below hB0 (Nat.le_refl _)) (by unfold maxLen; omega) (by omega) (by simp) ?_; intro v' w1 hown' hgrow hnil; obtain ⟨g, cg, rfl, hg1, hg2, hg3, hg4, hBW⟩ := appendedE rfl hown' hgrow hnil)
    go_ret
    exact ⟨_, rfl, hg4, hBW⟩

/-- A copy of which the first k nodes have got successors of their own. -/
def Half (w0 w : World) (B : Nat) (u : Value) (r : List Nd) (k : Nat) : Prop :=
  ∃ vs : List Value, vs.length = r.length ∧ w.ownsRow B 31 3 u r.length (flatN r vs) ∧
    (∀ i, i < k → w.ownsRow B 3 1 (vs.getD i undef) (r.getD i default).after.length ((r.getD i default).after.map (Value.int .i64))) ∧
    (∀ i j, i < j → j < k → ∀ q, (vs.getD i undef).ownBlock = some q → (vs.getD j undef).ownBlock ≠ some q) ∧
    ∀ i, k ≤ i → i < r.length → IntsAt w0 (vs.getD i undef) (r.getD i default).after

theorem half_step {w0 wr w1 : World} {B g cap k : Nat} {va : Value} {r : List Nd} {vs : List Value} (hl : vs.length = r.length) (hk : k < r.length)
    (ho : wr.ownsRow B 31 3 (.slice (some ⟨g, 0, none⟩) r.length cap) r.length (flatN r vs))
    (ha : ∀ i, i < k → wr.ownsRow B 3 1 (vs.getD i undef) (r.getD i default).after.length ((r.getD i default).after.map (Value.int .i64)))
    (hd : ∀ i j, i < j → j < k → ∀ q, (vs.getD i undef).ownBlock = some q → (vs.getD j undef).ownBlock ≠ some q)
    (hr : ∀ i, k ≤ i → i < r.length → IntsAt w0 (vs.getD i undef) (r.getD i default).after) (hb : Below wr.heap.size wr w1) (hB : B ≤ wr.heap.size)
    (hva : w1.ownsRow wr.heap.size 3 1 va (r.getD k default).after.length ((r.getD k default).after.map (Value.int .i64))) :
    Half w0 (w1.setCell ⟨g, k * 3 + 2, none⟩ va) B (.slice (some ⟨g, 0, none⟩) r.length cap) r (k + 1) := by
  have ho1 := ownsRow_below ho hb (Nat.le_refl _)
  have hv : (vs.set k va).getD k undef = va := by simp [hl, hk]
  have hn : ∀ i, i ≠ k → (vs.set k va).getD i undef = vs.getD i undef := fun i hi => by simp [Ne.symm hi]
  refine ⟨vs.set k va, by simp [hl], ?_, fun i hi => ?_, fun i j hij hj q hq => ?_, fun i hi hir => ?_⟩
  · rw [flatN_setV r vs k va hl hk]
    exact ownsRow_set ho1 _ _
  · by_cases e : i = k
    · subst e
      rw [hv]
      exact ownsRow_mono (ownsRow_setCell_other hva (own_far ho1 hva) _) hB
    · rw [hn i e]
      have h1 := ownsRow_below (ha i (by omega)) hb (Nat.le_refl _)
      exact ownsRow_setCell_other h1 (own_far ho1 h1) _
  · rw [hn i (by omega)] at hq
    by_cases e : j = k
    · subst e
      rw [hv]
      intro e1
      have := (hva.lt q e1).1
      have := ((ha i hij).lt q hq).2
      omega
    · rw [hn j e]
      exact hd i j hij (by omega) q hq
  · rw [hn i (by omega)]
    exact hr i (by omega) hir

set_option maxHeartbeats 1000000 in
theorem copyRing_any (v : Value) (r : List Nd) (w : World) (hv : RingAt w v r) (hbig : r.length ≤ 1048576) (hbig2 : ∀ i, i < r.length → (r.getD i default).after.length ≤ 1048576) :
    Calls Try.prog 42 #[v] w fun e w' => ∃ u, e = .returned u ∧ RingOwn w' w.heap.size u r ∧ Below w.heap.size w w' := by
  obtain ⟨vs0, hl0, hi0, hs0⟩ := hv.src
  have HV := Lib.hid hv
  have HS := Lib.hid hs0
  have HI := Lib.hid hi0
  have HB2 := Lib.hid hbig2
  have HL0 := Lib.hid hl0
  clear hi0 hs0 hv hbig2 hl0
  go_enter Try.func42, Try.ntmps42
  go_wp2_with (go_at_call 82; refine (cloneNodes_any v r vs0 _ HV.out HS.out hbig).mono ?_; rintro e w0 ⟨u, rfl, hown, hb0⟩; obtain ⟨pu, cu, hu⟩ : ∃ pu cu, u = .slice pu r.length cu := (by rcases hown.2 with ⟨rfl, h⟩ | ⟨g, cap, cur, rfl, -⟩; exact ⟨none, 0, by rw [h]⟩; exact ⟨_, cap, rfl⟩); subst hu)
  go_loopw [4, 9] (fun _ s9 wr => ∃ k : Nat, k ≤ r.length ∧ s9 = .int .i64 k ∧ Half w wr w.heap.size (.slice pu r.length cu) r k ∧ Below w.heap.size w wr) (fun _ s _ => r.length - (intOf s).toNat)
  case atStart => exact ⟨0, Nat.zero_le _, rfl, ⟨vs0, HL0.out, hown, fun i hi => by omega, fun i j _ hj => by omega, fun i _ hi => HI.out i hi⟩, hb0⟩
  case round =>
    obtain ⟨k, hk, rfl, hhalf, hbel⟩ := hrel
    by_cases hlt : k < r.length
    · obtain ⟨vs, hl, ho, ha, hd, hr⟩ := hhalf
      obtain ⟨f1, f2, f3⟩ := flatN_get r vs hl k hlt
      obtain ⟨g, cap, e1, hc1, hc2, hBg, hgl, c3, fr3⟩ := ownsRow_cell ho f3
      cases e1
      unfold maxLen at hc2
      have hik := hr k (Nat.le_refl _) hlt
      obtain ⟨va, hva⟩ : ∃ x, vs.getD k undef = x := ⟨_, rfl⟩
      obtain ⟨af, haf⟩ : ∃ x, (r.getD k default).after = x := ⟨_, rfl⟩
      rw [hva] at hik c3
      rw [haf] at hik
      have hal := HB2.out k hlt
      rw [haf] at hal
      have HAF := Lib.hid haf
      clear haf
      have HIK := Lib.hid (hik.below hbel (Nat.le_refl _))
      obtain ⟨pa, capa, rfl, -, -, -⟩ := hik
      have hsz : w.heap.size ≤ wr.heap.size := hbel.size
      have H1 := Lib.hid hl
      have H3 := Lib.hid ha
      have H4 := Lib.hid hd
      have H5 := Lib.hid hr
      have H6 := Lib.hid ho
      clear hl ha hd hr f1 f2 f3 hva ho hown
      go_wp2_with (go_at_call 83; refine (cloneInts_any _ _ _ HIK.out hal).mono ?_; rintro e w1 ⟨u1, rfl, hown1, hb1⟩; obtain ⟨p1, c1, hu1⟩ : ∃ p1 c1, u1 = .slice p1 af.length c1 := (by rcases hown1.2 with ⟨rfl, h⟩ | ⟨g, cap, cur, rfl, -⟩; exact ⟨none, 0, by rw [h]⟩; exact ⟨_, cap, rfl⟩); subst hu1; have c3' := (hb1.cell (p := ⟨g, k * 3 + 2, none⟩) hgl).trans c3; have fr3' := (hb1.frozen (p := ⟨g, k * 3 + 2, none⟩) hgl).trans fr3)
      go_roundw
      case rel =>
        exact ⟨k + 1, by omega, by go_num, half_step H1.out hlt H6.out H3.out H4.out H5.out hb1 hsz (by rw [HAF.out]; exact hown1), ((hbel.trans (hb1.mono hsz)).setCell hBg _)⟩
      case measure => simp [intOf]; omega
    · obtain rfl : k = r.length := by omega
      obtain ⟨vs, hl, ho, ha, hd, hr⟩ := hhalf
      have HH := Lib.hid (show RingOwn wr w.heap.size (.slice pu r.length cu) r from ⟨vs, hl, ho, ha, hd⟩)
      clear hl ha hd hr
      go_wp2
      go_ret
      exact ⟨_, rfl, HH.out, hbel⟩

end Go.Proofs.Ytojpfbbgpcafnaa
