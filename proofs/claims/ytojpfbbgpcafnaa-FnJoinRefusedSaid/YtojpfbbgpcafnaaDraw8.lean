/-
  Contracts: a drawn ring that is often not safe.
-/
import Derived.Test.YtojpfbbgpcafnaaDraw6
import Derived.Test.YtojpfbbgpcafnaaOwn2
namespace Go.Proofs.Ytojpfbbgpcafnaa
open Go.RowKit

/-- Few nodes, few successors. -/
def Small (y : List Nd) : Prop := 1 ≤ y.length ∧ y.length ≤ 10 ∧ ∀ j, j < y.length → (y.getD j default).after.length ≤ 2
theorem Small.shape {r : List Nd} (h : ringSafe r = true) : Small r := ⟨ringSafe_pos h, (safe_shape h).1, fun j hj => by have := (safe_shape h).two hj; omega⟩
theorem Small.set {r : List Nd} (h : Small r) {k : Nat} {n : Nd} (hk : k < r.length) (hn : n.after.length ≤ 2) : Small (r.set k n) := by
  obtain ⟨h1, h2, h3⟩ := h
  refine ⟨by rw [List.length_set]; exact h1, by rw [List.length_set]; exact h2, fun j hj => ?_⟩
  rw [List.length_set] at hj
  rw [getD_set hk]
  split
  · exact hn
  · exact h3 j hj

theorem RingOwn.grown {w w' : World} {S B : Nat} {v : Value} {r : List Nd} (h : RingOwn w B v r) (hg : w.grownBy w' (some S)) (hB : S + 1 ≤ B) : RingOwn w' B v r :=
  h.keeps ⟨hg.size, fun q hq hl => hg.block q hl (fun e => by cases e; omega)⟩
theorem RdAt.store {w : World} {S p g o : Nat} {u : Value} (h : RdAt w S p) (hg : S < g) : RdAt (w.setCell ⟨g, o, none⟩ u) S p := by
  have hne : ∀ b o' : Nat, b ≠ g → (w.setCell ⟨g, o, none⟩ u).cell? ⟨b, o', none⟩ = w.cell? ⟨b, o', none⟩ := fun b o' hb => World.cell?_setCell_other _ _ _ _ (fun e => by have e2 := congrArg Addr.block e; simp at e2; omega)
  obtain ⟨pb, n, cap, h1, h2, h3, h4, h5, h6, h7, h8⟩ := h
  refine ⟨pb, n, cap, (hne S 0 (by omega)).trans h1, (hne S 1 (by omega)).trans h2, fun j => (World.frozen?_setCell _ _ _ _).trans (h3 j), h4, h5, h6, by simpa [World.setCell] using h7, ?_⟩
  rcases h8 with h8 | ⟨b, o', rfl, hlt, hc⟩
  · exact .inl h8
  · refine .inr ⟨b, o', rfl, hlt, fun i hi => ?_⟩
    obtain ⟨x, hx, hc'⟩ := hc i hi
    exact ⟨x, hx, (hne b (o' + i) (by omega)).trans hc'⟩
theorem grow_store {w w' : World} {S g o : Nat} {u : Value} (h : w.grownBy w' (some S)) (hg : w.heap.size ≤ g) : w.grownBy (w'.setCell ⟨g, o, none⟩ u) (some S) :=
  ⟨h.os, h.tape, h.output, by simpa [World.setCell] using h.size, fun k hk hn => (Below.heap_setCell w' ⟨g, o, none⟩ u k (by show k ≠ g; omega)).trans (h.block k hk hn)⟩

theorem grow_drew {w w' : World} {R : Option Nat} (h : w.drew.grownBy w' R) : w.grownBy w' R := ⟨h.os, h.tape, h.output, h.size, h.block⟩
theorem RingOwn.after {w : World} {B g cap : Nat} {r : List Nd} (h : RingOwn w B (.slice (some ⟨g, 0, none⟩) r.length cap) r) {k : Nat} (hk : k < r.length) (h2 : (r.getD k default).after.length = 2) :
    ∃ bk ck x y, 2 ≤ ck ∧ ck ≤ 9223372036854775807 ∧ B ≤ bk ∧ bk < w.heap.size ∧ bk ≠ g ∧ w.cell? ⟨g, k * 3 + 2, none⟩ = some (.slice (some ⟨bk, 0, none⟩) 2 ck) ∧
      w.cell? ⟨bk, 0, none⟩ = some (.int .i64 x) ∧ w.cell? ⟨bk, 1, none⟩ = some (.int .i64 y) ∧ ∀ j, w.frozen? ⟨bk, j, none⟩ = false := by
  obtain ⟨vs, hl, ho, ha, hd⟩ := h
  obtain ⟨f1, f2, f3⟩ := flatN_get r vs hl k hk
  obtain ⟨g3, cap3, e3, -, -, -, -, k3, -⟩ := ownsRow_cell ho f3
  cases e3
  have hak := ha k hk
  have hfar := own_far ho hak
  have e0 : ((r.getD k default).after.map (Value.int .i64))[0]? = some (.int .i64 (a0 (r.getD k default))) := by rw [after2 h2]; rfl
  have e1 : ((r.getD k default).after.map (Value.int .i64))[1]? = some (.int .i64 (a1 (r.getD k default))) := by rw [after2 h2]; rfl
  obtain ⟨bk, ck, hv, hc1, hc2, hB, hbk, d0, -⟩ := ownsRow_cell hak e0
  obtain ⟨bk', ck', hv', -, -, -, -, d1, -⟩ := ownsRow_cell hak e1
  rw [hv] at hv' k3 hfar
  cases hv'
  rw [h2] at hc1 k3
  unfold maxLen at hc2
  refine ⟨bk, ck, _, _, hc1, hc2, hB, hbk, fun e => hfar (by rw [e]; rfl), k3, d0, d1, fun j => ?_⟩
  rcases hak.2 with ⟨h0, -⟩ | ⟨g', cap', cur, h0, -, hg, -⟩
  · rw [hv] at h0; cases h0
  · rw [hv] at h0
    cases h0
    simp [World.frozen?, hg]

theorem RingOwn.open {w : World} {B g cap : Nat} {r : List Nd} (h : RingOwn w B (.slice (some ⟨g, 0, none⟩) r.length cap) r) (hg : g < w.heap.size) :
    ∃ vs, RingSrc w g 0 r vs ∧ (∀ i, i < r.length → w.ownsRow B 3 1 (vs.getD i undef) (r.getD i default).after.length ((r.getD i default).after.map (Value.int .i64))) ∧
      ∀ i j, i < j → j < r.length → ∀ q, (vs.getD i undef).ownBlock = some q → (vs.getD j undef).ownBlock ≠ some q := by
  obtain ⟨vs, hl, ho, ha, hd⟩ := h
  refine ⟨vs, ⟨hl, fun i hi => intsAt_own (ha i hi), flatN_one r vs hl (fun i hi => ?_), fun j u hj => ?_, hg⟩, ha, hd⟩
  · obtain ⟨pa, ca, e, -⟩ := intsAt_own (ha i hi)
    rw [e]; rfl
  · obtain ⟨g', c', e, -, -, -, -, k, -⟩ := ownsRow_cell ho hj
    cases e
    rw [Nat.zero_add]; exact k
theorem RingOwn.erased2 {w w' : World} {B C g : Nat} {v' : Value} {r : List Nd} {vs : List Value} {k : Nat} (hsrc : RingSrc w g 0 r vs) (hk : k < r.length)
    (ha : ∀ i, i < r.length → w.ownsRow B 3 1 (vs.getD i undef) (r.getD i default).after.length ((r.getD i default).after.map (Value.int .i64)))
    (hd : ∀ i j, i < j → j < r.length → ∀ q, (vs.getD i undef).ownBlock = some q → (vs.getD j undef).ownBlock ≠ some q)
    (hb : Below C w w') (hC : w.heap.size ≤ C) (hBC : B ≤ C)
    (ho : w'.ownsRow C 31 3 v' (0 + k + (r.length - (k + 1))) ([] ++ (flatN r vs).take (k * 3) ++ (flatN r vs).drop ((k + 1) * 3))) : RingOwn w' B v' (r.eraseIdx k) := by
  have hl := hsrc.len
  have G : ∀ i, (vs.eraseIdx k).getD i undef = vs.getD (if i < k then i else i + 1) undef := fun i => by
    simp only [List.getD_eq_getElem?_getD, List.getElem?_eraseIdx]
    split <;> rfl
  have G2 : ∀ i, (r.eraseIdx k).getD i default = r.getD (if i < k then i else i + 1) default := fun i => by
    simp only [List.getD_eq_getElem?_getD, List.getElem?_eraseIdx]
    split <;> rfl
  have hlen : (r.eraseIdx k).length = r.length - 1 := List.length_eraseIdx_of_lt hk
  refine ⟨vs.eraseIdx k, by rw [List.length_eraseIdx_of_lt (by omega), hlen, hl], ?_, fun i hi => ?_, fun i j hij hj q hq => ?_⟩
  · have hvl : (vs.take k).length = (r.take k).length := by simp [hl]
    have e : (r.eraseIdx k).length = 0 + k + (r.length - (k + 1)) := by omega
    rw [e, erase_split, List.eraseIdx_eq_take_drop_succ, flatN_app _ _ _ _ hvl, flatN_take _ _ _ hl, flatN_drop _ _ _ hl]
    exact ownsRow_mono ho hBC
  · rw [G, G2]
    exact ownsRow_below (ha _ (by split <;> omega)) hb hC
  · rw [G] at hq ⊢
    exact hd _ _ (by split <;> split <;> omega) (by split <;> omega) q hq

def SpoiltPost (S p : Nat) (w : World) (e : Ending) (w' : World) : Prop := ∃ u y p', e = .returned u ∧ RingOwn w' (S + 1) u y ∧ Small y ∧ p' ≤ p + 160 ∧ RdAt w' S p' ∧ w.grownBy w' (some S)

set_option maxRecDepth 100000 in
set_option maxHeartbeats 4000000 in
theorem l91Spoilt_any (S p : Nat) (w : World) (h : RdAt w S p) (hp : p ≤ 40000) :
    Calls Try.prog 40 #[.pointer (some ⟨S, 0, none⟩)] w (SpoiltPost S p w) := by
  go_enter Try.func40, Try.ntmps40
  go_wp2_with (first | (go_at_call 81; refine (l91Ring_any S p _ h (by omega)).mono ?_; rintro e w1 ⟨u1, r, p1, rfl, hO1, hs1, hp1, hr1, hg1⟩; have HS1 := Lib.hid hs1; have hx10 := (safe_shape hs1).1; have HL := Lib.hid (safe_shape hs1).len; have hpos := ringSafe_pos hs1; have HO1 := Lib.hid hO1; clear hs1 hO1) | (go_at_call 44; refine (l3Copy_any _ r _ (by exact HO1.out.at) (by omega) HL.out).mono ?_; rintro e w2 ⟨u2, rfl, hO2, hb2⟩; have hr2 := hr1.below hb2 (Nat.le_refl _); have hg2 := grow_trans hg1 (grow_below hb2 (Nat.le_refl _)); have HO2 := Lib.hid hO2; have hBw := hg1.size; have hBS := hr1.lt; clear hO2) | (go_at_call_of 74 (Value.int IntKind.i64 3); refine (pick_any S p1 3 _ hr2 (by omega) (by omega) (by omega)).mono ?_; rintro e w3 ⟨c3, hc3, rfl, hr3, hg3⟩; have HO3 := Lib.hid (HO2.out.grown hg3 hBS); have hg3' := grow_trans hg2 hg3; obtain ⟨g, cap, rfl, hg31, hg32, hgS, hgl⟩ := HO3.out.form hpos; unfold maxLen at hg32))
  · go_ret
    exact ⟨_, r, _, rfl, HO3.out.mono hBS, Small.shape HS1.out, by omega, hr3, hg3'⟩
  · go_upto_region 6 with (first | (have _ := hc4; go_at_call_of 74 (Value.int IntKind.i64 7); refine (pick_any S (p1 + 1 + 1) 7 _ hr4 (by omega) (by omega) (by omega)).mono ?_; rintro e w5 ⟨c5, hc5, rfl, hr5, hg5⟩; have HO5 := Lib.hid (HO4.out.grown hg5 hBS); have hg5' := grow_trans hg4' hg5) | (go_at_call 74; refine (pick_any S (p1 + 1) (r.length : Int) _ hr3 (by omega) (by omega) (by omega)).mono ?_; rintro e w4 ⟨k, hc4, rfl, hr4, hg4⟩; have HO4 := Lib.hid (HO3.out.grown hg4 hBS); have hg4' := grow_trans hg3' hg4; have hk : k < r.length := (by omega)))
    obtain ⟨va5, n50, n51, n52, n5f, n5g, -⟩ := HO5.out.cells hk
    have hgw : w.heap.size ≤ g := Nat.le_trans hBw (by have := HO5.out.cells hk; obtain ⟨-, -, -, -, -, -, hB⟩ := this; exact hB)
    have hgS' : S < g := by have := h.lt; omega
    obtain rfl | rfl | rfl | rfl | rfl | rfl | rfl : c5 = 0 ∨ c5 = 1 ∨ c5 = 2 ∨ c5 = 3 ∨ c5 = 4 ∨ c5 = 5 ∨ c5 = 6 := by omega
    · go_wp2_with (first | (go_at_call_of 74 (Value.int IntKind.i64 66); refine (pick_any S (p1 + 1 + 1 + 1) 66 _ hr5 (by omega) (by omega) (by omega)).mono ?_; rintro e w6 ⟨c6, hc6, rfl, hr6, hg6⟩; have HO6 := Lib.hid (HO5.out.grown hg6 hBS); have hg6' := grow_trans hg5' hg6; obtain ⟨va6, n60, n61, n62, n6f, n6g, -⟩ := HO6.out.cells hk))
      go_ret
      have hfin := (RingOwn.setBefore (bf := (c6 : Int) - 1) HO6.out hk).mono hBS
      rw [List.length_set] at hfin
      exact ⟨_, _, _, rfl, hfin, (Small.shape HS1.out).set hk (by show (r.getD k default).after.length ≤ 2; have := (safe_shape HS1.out).two hk; omega), by omega, hr6.store hgS', grow_store hg6' hgw⟩
    · obtain ⟨bk, ck, x, y, hck, hck', hBk, hbk, hne, q0, q1, q2, qf⟩ := HO5.out.after hk ((safe_shape HS1.out).two hk)
      clear n50 n51 n52
      have hne' : g ≠ bk := Ne.symm hne
      have hbS : bk ≠ S := by omega
      have hgS2 : g ≠ S := by omega
      have hgl5 : g < w5.heap.size := by have := hg4.size; have := hg5.size; omega
      have i0 : (0 : Int) ≤ (k : Int) := by omega
      have i1 : (k : Int) < (r.length : Int) := by omega
      go_wp2_with fail
      go_region_held3 (fun w' => w'.cell? ⟨g, k * 3 + 2, none⟩ = some (.slice (some ⟨bk, 0, none⟩) 2 ck)) (go_keep)
        (first
          | (go_at_call 75; refine (l91Point_any S (p1 + 1 + 1 + 1 + 1) _ (by exact hr6) (by omega)).mono ?_; rintro e w7 ⟨x7, p7, hx71, hx72, hp7, rfl, hr7, hg7⟩; have hg57 := grow_trans hg56 hg7; have s7 := (grow_cell (o := k * 3 + 2) hg57 hgl5 hgS2).trans q0; have hO7 := Lib.hid (HO5.out.grown hg57 hBS); have hcx : ∃ z, w7.cell? ⟨bk, c6, none⟩ = some (.int .i64 z) := (by rcases (show c6 = 0 ∨ c6 = 1 by omega) with rfl | rfl; exact ⟨_, (grow_cell hg57 hbk hbS).trans q1⟩; exact ⟨_, (grow_cell hg57 hbk hbS).trans q2⟩); obtain ⟨z7, hz7⟩ := hcx; have hf7 : ∀ j, w7.frozen? ⟨bk, j, none⟩ = false := (fun j => (World.frozen?_of_block (a := ⟨bk, j, none⟩) (hg57.block bk hbk (fun e => by cases e; exact hbS rfl))).trans (qf j)); have hbk7 := Nat.lt_of_lt_of_le hbk hg57.size)
          | (go_at_call 74; refine (pick_any S (p1 + 1 + 1 + 1) 2 _ (by exact hr5) (by omega) (by omega) (by omega)).mono ?_; rintro e w6 ⟨c6, hc6, rfl, hr6, hg6⟩; have hg56 := grow_drew hg6; have s6 := (grow_cell (o := k * 3 + 2) hg56 hgl5 hgS2).trans q0; have i6 : (0 : Int) ≤ (c6 : Int) := (by omega)))
      go_wp2
      go_ret
      have hg07 := grow_trans hg5' hg57
      have hfin := (RingOwn.setSucc (i := c6) (x := x7) hO7.out hk ((safe_shape HS1.out).two hk) s7).mono hBS
      rw [List.length_set] at hfin
      exact ⟨_, _, _, rfl, hfin, (Small.shape HS1.out).set hk (by show ((r.getD k default).after.set c6 x7).length ≤ 2; rw [List.length_set]; have := (safe_shape HS1.out).two hk; omega), by omega, hr7.store (by omega), grow_store hg07 (by omega)⟩
    · go_wp2_with (first | (go_at_call 75; refine (l91Point_any S (p1 + 1 + 1 + 1) _ hr5 (by omega)).mono ?_; rintro e w6 ⟨x6, p6, hx61, hx62, hp6, rfl, hr6, hg6⟩; have HO6 := Lib.hid (HO5.out.grown hg6 hBS); have hg6' := grow_trans hg5' hg6; obtain ⟨va6, n60, n61, n62, n6f, n6g, -⟩ := HO6.out.cells hk))
      go_ret
      have hfin := (RingOwn.setId (x := x6) HO6.out hk).mono hBS
      rw [List.length_set] at hfin
      exact ⟨_, _, _, rfl, hfin, (Small.shape HS1.out).set hk (by show (r.getD k default).after.length ≤ 2; have := (safe_shape HS1.out).two hk; omega), by omega, hr6.store hgS', grow_store hg6' hgw⟩
    · obtain ⟨bk, ck, x, y, hck, hck', hBk, hbk, hne, q0, q1, q2, qf⟩ := HO5.out.after hk ((safe_shape HS1.out).two hk)
      clear n50 n51 n52
      have hne' : g ≠ bk := Ne.symm hne
      have hbS : bk ≠ S := by omega
      have hgS2 : g ≠ S := by omega
      have hgl5 : g < w5.heap.size := by have := hg4.size; have := hg5.size; omega
      have i0 : (0 : Int) ≤ (k : Int) := by omega
      have i1 : (k : Int) < (r.length : Int) := by omega
      go_wp2_with fail
      go_region_with (first | (go_at_call 74; refine (pick_any S (p1 + 1 + 1 + 1) 2 _ (by exact hr5) (by omega) (by omega) (by omega)).mono ?_; rintro e w6 ⟨c6, hc6, rfl, hr6, hg6⟩; have hg56 := grow_drew hg6; have s6 := (grow_cell (o := k * 3 + 2) hg56 hgl5 hgS2).trans q0; have HO6 := Lib.hid (HO5.out.grown hg56 hBS); have hf6 : ∀ j, w6.frozen? ⟨g, j, none⟩ = false := (fun j => (World.frozen?_of_block (a := ⟨g, j, none⟩) (hg56.block g hgl5 (fun e => by cases e; exact hgS2 rfl))).trans (n5f j)); have hgl6 := Nat.lt_of_lt_of_le hgl5 hg56.size; have i6 : (0 : Int) ≤ (c6 : Int) := (by omega); have i7 : (c6 : Int) ≤ (ck : Int) := (by omega); have i8 : (c6 : Int) ≤ 2 := (by omega)))
      all_goals
        go_wp2
        go_ret
        have hg06 := grow_trans hg5' hg56
        have hfin := (RingOwn.cutSucc (c := c6) HO6.out hk ((safe_shape HS1.out).two hk) (by omega) s6).mono hBS
        rw [List.length_set] at hfin
        exact ⟨_, _, _, rfl, hfin, (Small.shape HS1.out).set hk (by show ((r.getD k default).after.take c6).length ≤ 2; rw [List.length_take]; omega), by omega, hr6.store (by omega), grow_store hg06 (by omega)⟩
    · have hB5 : w1.heap.size ≤ w5.heap.size := by have := hg2.size; have := hb2.size; have := hg3.size; have := hg4.size; have := hg5.size; omega
      have hgl5 : g < w5.heap.size := by have := hg4.size; have := hg5.size; omega
      obtain ⟨vs, hsrc, hva, hvd⟩ := HO5.out.open hgl5
      have SR := Lib.hid hsrc
      have HA := Lib.hid hva
      have HD := Lib.hid hvd
      obtain ⟨n0, ni, nz0, nz1, nz2⟩ := info_parts Try.infoNode
      have hA := (Below.refl w5.heap.size w5).alloc (Nat.le_refl _) (.cells #[] 31)
      have hM : (w5.alloc (.cells #[] 31)).ownsRow w5.heap.size 31 3 (.slice (some ⟨w5.heap.size, 0, none⟩) 0 0) 0 [] := by
        have := World.ownsRow_made (base := w5.heap.size) (e := 31) (size := 3) w5 #[] 0 (Nat.le_refl _) (by unfold maxLen; omega) rfl
        simpa using this
      have HM := Lib.hid hM
      obtain ⟨O, hO, hN⟩ := drop_addr g 0 (k + 1) cap r vs hg31
      have HN := Lib.hid hN
      have i0 : (0 : Int) ≤ (k : Int) := by omega
      have i1 : (k : Int) ≤ (cap : Int) := by omega
      have i2 : (k : Int) + 1 ≤ (cap : Int) := by omega
      have i3 : (k : Int) + 1 ≤ (r.length : Int) := by omega
      have i4 : (0 : Int) ≤ (k : Int) + 1 := by omega
      have i5 : IntKind.i64.wrap ((k : Int) + 1) = (k : Int) + 1 := IntWalk.i64_in _ (by omega)
      have i6 : ((k : Int) + 1).toNat = k + 1 := by omega
      rw [Nat.zero_add] at hO
      clear hsrc hva hvd hM hN n50 n51 n52
      go_wp2_with fail
      go_region_held_law (fun _ => True) (trivial) (first | ((refine step_append_any (by rfl) (.tmp 63) (.tmp 66) 23 (by rfl) w5.heap.size 31 n0 (.agg #[.int .i64 0, .int .i64 0, .slice none 0 0]) 3 40 Try.underlying23 ni nz0 nz1 nz2 (by rfl) (by decide) (.slice (some ⟨w5.heap.size, 0, none⟩) 0 0) 0 [] (by rfl) (by exact HM.out) ⟨g, 0, none⟩ k cap ((flatN r vs).take (k * 3)) (by rfl) (by exact (SR.out.below hA (Nat.le_refl _)).take k (by omega)) (by unfold maxLen; omega) (by omega) (by simp) ?_; intro v1 w6 hown1 hgrow1 hnil1; have hO1 := Lib.hid hown1; have g1 : (w5.alloc (.cells #[] 31)).grownBy w6 (some w5.heap.size) := ⟨hgrow1.os, hgrow1.tape, hgrow1.output, hgrow1.size, hgrow1.block⟩; have hb6 := hA.grown g1 (by simp) (fun q hq => Nat.le_of_eq (Option.some.inj hq)); have hz6 := hb6.size; clear hown1 hnil1)) | ((refine step_append_any (by rfl) (.tmp 67) (.tmp 71) 23 (by rfl) w5.heap.size 31 n0 (.agg #[.int .i64 0, .int .i64 0, .slice none 0 0]) 3 40 Try.underlying23 ni nz0 nz1 nz2 (by rfl) (by decide) v1 (0 + k) ([] ++ (flatN r vs).take (k * 3)) (by rfl) (by exact hO1.out) ⟨g, O, none⟩ (r.length - (k + 1)) (cap - (k + 1)) ((flatN r vs).drop ((k + 1) * 3)) (by rfl) (by exact HN.out _ (SR.out.below hb6 (Nat.le_refl _))) (by unfold maxLen; omega) (by omega) (by omega) ?_; intro v2 w7 hown2 hgrow2 hnil2; have hb7 := hb6.grown hgrow2 hz6 (fun q hq => (hO1.out.lt q hq).1); have hO2 := Lib.hid (RingOwn.erased2 SR.out hk HA.out HD.out hb7 (Nat.le_refl _) hB5 hown2); clear hown2 hnil2)))
      clear hO i0 i1 i2 i3 i4 i5 i6
      go_wp2
      go_ret
      exact ⟨_, _, _, rfl, hO2.out.mono hBS, ⟨by rw [List.length_eraseIdx_of_lt hk]; have := safe_len HS1.out; omega, (erase_two (safe_shape HS1.out) k).1, fun j hj => by have := (erase_two (safe_shape HS1.out) k).2 j hj; omega⟩, by omega, hr5.below hb7 (Nat.le_refl _), grow_trans hg5' (grow_below hb7 (Nat.le_refl _))⟩
    · obtain ⟨bk, ck, x, y, hck, hck', hBk, hbk, hne, q0, q1, q2, qf⟩ := HO5.out.after hk ((safe_shape HS1.out).two hk)
      clear n50 n51 n52
      have hne' : g ≠ bk := Ne.symm hne
      have hbS : bk ≠ S := by omega
      have hgS2 : g ≠ S := by omega
      have hgl5 : g < w5.heap.size := by have := hg4.size; have := hg5.size; omega
      have i0 : (0 : Int) ≤ (k : Int) := by omega
      have i1 : (k : Int) < (r.length : Int) := by omega
      go_wp2_with fail
      go_region_with (first | (go_at_call 74; refine (pick_any S (p1 + 1 + 1 + 1) (r.length : Int) _ (by exact hr5) (by omega) (by omega) (by omega)).mono ?_; rintro e w6 ⟨c6, hc6, rfl, hr6, hg6⟩; have hg56 := grow_drew hg6; have s6 := (grow_cell (o := k * 3 + 2) hg56 hgl5 hgS2).trans q0; have HO6 := Lib.hid (HO5.out.grown hg56 hBS); have hf6 : ∀ j, w6.frozen? ⟨bk, j, none⟩ = false := (fun j => (World.frozen?_of_block (a := ⟨bk, j, none⟩) (hg56.block bk hbk (fun e => by cases e; exact hbS rfl))).trans (qf j)); have hz6 := (grow_cell (o := 0) hg56 hbk hbS).trans q1; have hbk6 := Nat.lt_of_lt_of_le hbk hg56.size; have i6 : (0 : Int) ≤ (c6 : Int) := (by omega); obtain ⟨m6, hm6⟩ : ∃ m, (r.getD c6 default).id = m := ⟨_, rfl⟩; obtain ⟨vb6, m60, -, -, -, -, -⟩ := HO6.out.cells (k := c6) (by omega); rw [hm6] at m60; clear hm6))
      all_goals
        go_wp2
        go_ret
        have hg06 := grow_trans hg5' hg56
        have hfin := (RingOwn.setSucc (i := 0) (x := m6) HO6.out hk ((safe_shape HS1.out).two hk) s6).mono hBS
        rw [List.length_set] at hfin
        exact ⟨_, _, _, rfl, hfin, (Small.shape HS1.out).set hk (by show ((r.getD k default).after.set 0 m6).length ≤ 2; rw [List.length_set]; have := (safe_shape HS1.out).two hk; omega), by omega, hr6.store (by omega), grow_store hg06 (by omega)⟩
    · go_wp2_with (first | (go_at_call 74; refine (pick_any S (p1 + 1 + 1 + 1) (r.length : Int) _ hr5 (by omega) (by omega) (by omega)).mono ?_; rintro e w6 ⟨c6, hc6, rfl, hr6, hg6⟩; have HO6 := Lib.hid (HO5.out.grown hg6 hBS); have hg6' := grow_trans hg5' hg6; obtain ⟨va6, n60, n61, n62, n6f, n6g, -⟩ := HO6.out.cells hk; obtain ⟨vb6, m60, -, -, -, -, -⟩ := HO6.out.cells (k := c6) (by omega); obtain ⟨i6, hi6⟩ : ∃ i, (r.getD c6 default).id = i := ⟨_, rfl⟩; rw [hi6] at m60; clear hi6))
      go_ret
      have hfin := (RingOwn.setBefore (bf := i6) HO6.out hk).mono hBS
      rw [List.length_set] at hfin
      exact ⟨_, _, _, rfl, hfin, (Small.shape HS1.out).set hk (by show (r.getD k default).after.length ≤ 2; have := (safe_shape HS1.out).two hk; omega), by omega, hr6.store hgS', grow_store hg6' hgw⟩

end Go.Proofs.Ytojpfbbgpcafnaa
