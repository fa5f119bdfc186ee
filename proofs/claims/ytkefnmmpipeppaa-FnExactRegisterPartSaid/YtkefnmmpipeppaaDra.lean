/-
  Contracts: the reader of a code.
-/
import Derived.Test.YtkefnmmpipeppaaRb
import Derived.Test.YtkefnmmpipeppaaRead
namespace Go.Proofs.Ytkefnmmpipeppaa
open Go.RowKit

theorem emod_fit {x : Nat} {n : Int} (h1 : 1 ≤ n) : ∃ c : Nat, (x : Int) % n = (c : Int) ∧ (c : Int) < n :=
  ⟨((x : Int) % n).toNat, by have := Int.emod_nonneg (x : Int) (show n ≠ 0 by omega); omega, by have := Int.emod_nonneg (x : Int) (show n ≠ 0 by omega); have := Int.emod_lt_of_pos (x : Int) (show 0 < n by omega); omega⟩

theorem xor_i64 (a b : Nat) (ha : a < 4611686018427387904) (hb : b < 4611686018427387904) : bits .xor .i64 (a : Int) (b : Int) = ((a ^^^ b : Nat) : Int) := by
  have hx : a ^^^ b < 2 ^ 62 := Nat.xor_lt_two_pow (by omega) (by omega)
  have h1 : (BitVec.ofInt 64 (a : Int)).toNat = a := by
    rw [BitVec.ofInt_natCast, BitVec.toNat_ofNat]; exact Nat.mod_eq_of_lt (by omega)
  have h2 : (BitVec.ofInt 64 (b : Int)).toNat = b := by
    rw [BitVec.ofInt_natCast, BitVec.toNat_ofNat]; exact Nat.mod_eq_of_lt (by omega)
  show IntKind.i64.wrap ((BitVec.ofInt 64 (a : Int) ^^^ BitVec.ofInt 64 (b : Int)).toNat : Int) = _
  rw [BitVec.toNat_xor, h1, h2]
  exact IntWalk.i64_in _ (by omega)

set_option maxRecDepth 100000 in
set_option maxHeartbeats 4000000 in
theorem pick_any (S p : Nat) (n : Int) (w : World) (h : RdAt w S p) (hp : p ≤ 1000000) (hn : 1 ≤ n) (hn2 : n ≤ 1000000) :
    Calls Try.prog 35 #[.pointer (some ⟨S, 0, none⟩), .int .i64 n] w fun e w' => ∃ c : Nat, (c : Int) < n ∧ e = .returned (.int .i64 c) ∧ RdAt w' S (p + 1) ∧ w.grownBy w' (some S) := by
  have HN := Lib.hid (h.next rfl)
  have HG := Lib.hid (grow_set w S 1 (.int .i64 ((p : Int) + 1)))
  obtain ⟨pb, m, cap, h1, h2, h3, h4, h5, h6, h7, h8⟩ := h
  unfold maxLen at h6
  rcases Nat.eq_zero_or_pos m with h0 | h0
  · subst h0
    clear h8
    go_enter Try.func35, Try.ntmps35
    go_wp2
    go_ret
    exact ⟨0, by omega, rfl, HN.out, HG.out⟩
  rcases h8 with h8 | ⟨b, o, rfl, hlt, hc⟩
  · omega
  have hbS : b ≠ S := by omega
  have hSb : S ≠ b := by omega
  have hm0 : ((m : Int) == 0) = false := by simp; omega
  by_cases hpm : p < m
  · obtain ⟨x, hx, hcx⟩ := hc p hpm
    obtain ⟨c, hc1, hc2⟩ := emod_fit (x := x) hn
    have HC := Lib.hid hc1
    clear hc hc1
    go_enter Try.func35, Try.ntmps35
    go_wp2
    go_ret
    exact ⟨c, hc2, ret_int HC.out, HN.out, HG.out⟩
  · obtain ⟨x1, hx1, hcx1⟩ := hc (p % m) (Nat.mod_lt _ h0)
    obtain ⟨x2, hx2, hcx2⟩ := hc ((p * 7 + 3) % m) (Nat.mod_lt _ h0)
    have hj1 : p % m < m := Nat.mod_lt _ h0
    have hj2 : (p * 7 + 3) % m < m := Nat.mod_lt _ h0
    have e1 : (p : Int).tmod (m : Int) = ((p % m : Nat) : Int) := rfl
    have e2 : ((p : Int) * 7 + 3).tmod (m : Int) = (((p * 7 + 3) % m : Nat) : Int) := rfl
    have e3 : (p : Int).tdiv (m : Int) = ((p / m : Nat) : Int) := rfl
    have hq : p / m ≤ p := Nat.div_le_self _ _
    generalize p % m = j1 at *
    generalize (p * 7 + 3) % m = j2 at *
    generalize p / m = q at *
    have w1 : IntKind.i64.wrap ((p : Int) * 7) = (p : Int) * 7 := IntWalk.i64_in _ (by omega)
    have w2 : IntKind.i64.wrap ((p : Int) * 7 + 3) = (p : Int) * 7 + 3 := IntWalk.i64_in _ (by omega)
    have w3 : IntKind.i64.wrap ((x1 : Int) * 131) = (x1 : Int) * 131 := IntWalk.i64_in _ (by omega)
    have w4 : IntKind.i64.wrap ((x2 : Int) * 1117) = (x2 : Int) * 1117 := IntWalk.i64_in _ (by omega)
    have w5 : IntKind.i64.wrap ((x1 : Int) * 131 + (x2 : Int) * 1117) = (x1 : Int) * 131 + (x2 : Int) * 1117 := IntWalk.i64_in _ (by omega)
    have w6 : IntKind.i64.wrap ((p : Int) * 29) = (p : Int) * 29 := IntWalk.i64_in _ (by omega)
    have w7 : IntKind.i64.wrap ((x1 : Int) * 131 + (x2 : Int) * 1117 + (p : Int) * 29) = (x1 : Int) * 131 + (x2 : Int) * 1117 + (p : Int) * 29 := IntWalk.i64_in _ (by omega)
    have w8 : IntKind.i64.wrap ((q : Int) * 53) = (q : Int) * 53 := IntWalk.i64_in _ (by omega)
    have w9 : IntKind.i64.wrap ((x1 : Int) * 131 + (x2 : Int) * 1117 + (p : Int) * 29 + (q : Int) * 53) = (x1 : Int) * 131 + (x2 : Int) * 1117 + (p : Int) * 29 + (q : Int) * 53 := IntWalk.i64_in _ (by omega)
    have i1 : (0 : Int) ≤ (j1 : Int) := by omega
    have i2 : (j1 : Int) < (m : Int) := by omega
    have i3 : (0 : Int) ≤ (j2 : Int) := by omega
    have i4 : (j2 : Int) < (m : Int) := by omega
    clear hc
    go_enter Try.func35, Try.ntmps35
    go_wp2
    go_quiet (fail)
    clear e1 e2 e3 w1 w2 w3 w4 w5 w6 w7 w8 w9 i1 i2 i3 i4
    have hX : (x1 : Int) * 131 + (x2 : Int) * 1117 + (p : Int) * 29 + (q : Int) * 53 = ((x1 * 131 + x2 * 1117 + p * 29 + q * 53 : Nat) : Int) := by omega
    have hXb : x1 * 131 + x2 * 1117 + p * 29 + q * 53 < 100000000 := by omega
    have hY : bits .xor .i64 ((x1 : Int) * 131 + (x2 : Int) * 1117 + (p : Int) * 29 + (q : Int) * 53) (((x1 : Int) * 131 + (x2 : Int) * 1117 + (p : Int) * 29 + (q : Int) * 53) / 64) = (((x1 * 131 + x2 * 1117 + p * 29 + q * 53) ^^^ ((x1 * 131 + x2 * 1117 + p * 29 + q * 53) / 64) : Nat) : Int) := by
      rw [hX]
      exact xor_i64 (x1 * 131 + x2 * 1117 + p * 29 + q * 53) ((x1 * 131 + x2 * 1117 + p * 29 + q * 53) / 64) (by omega) (by omega)
    clear hX hXb
    generalize ((x1 * 131 + x2 * 1117 + p * 29 + q * 53) ^^^ ((x1 * 131 + x2 * 1117 + p * 29 + q * 53) / 64) : Nat) = Y at hY
    obtain ⟨c, hc1, hc2⟩ := emod_fit (x := Y) hn
    have HC := Lib.hid hc1
    clear hc1
    go_wp2
    go_ret
    have hd : w.grownBy ((w.setCell ⟨S, 1, none⟩ (.int .i64 ((p : Int) + 1))).drewN nq) (some S) := grow_trans HG.out (grow_below (below_drewN (Below.refl (w.setCell ⟨S, 1, none⟩ (.int .i64 ((p : Int) + 1))).heap.size _) nq) (Nat.le_refl _))
    exact ⟨c, hc2, ret_int HC.out, HN.out.below (below_drewN (Below.refl (w.setCell ⟨S, 1, none⟩ (.int .i64 ((p : Int) + 1))).heap.size _) nq) (Nat.le_refl _), hd⟩

/-- What a code is: bytes that can be read. -/
def CodeAt (w : World) (v : Value) : Prop :=
  ∃ pb n cap, v = .slice pb n cap ∧ n ≤ cap ∧ cap ≤ maxLen ∧ (n = 0 ∨ ∃ b o, pb = some ⟨b, o, none⟩ ∧ b < w.heap.size ∧ ∀ i, i < n → ∃ x : Nat, x ≤ 255 ∧ w.cell? ⟨b, o + i, none⟩ = some (.int .u8 x))

set_option maxHeartbeats 400000 in
theorem l6Open_any (v : Value) (w : World) (h : CodeAt w v) :
    Calls Try.prog 32 #[v] w fun e w' => e = .returned (.pointer (some ⟨w.heap.size, 0, none⟩)) ∧ RdAt w' w.heap.size 0 ∧ Below w.heap.size w w' := by
  obtain ⟨pb, n, cap, rfl, h1, h2, h3⟩ := h
  unfold maxLen at h2
  by_cases hn : 2000 < n
  · go_enter Try.func32, Try.ntmps32
    go_wp2
    go_ret
    refine ⟨rfl, ⟨pb, 2000, cap, by simp, by simp, fun j => by simp, Nat.le_refl _, by omega, by unfold maxLen; omega, by simp, ?_⟩, (Below.refl _ _).alloc (Nat.le_refl _) _⟩
    rcases h3 with h3 | ⟨b, o, rfl, hb, hc⟩
    · omega
    · refine .inr ⟨b, o, rfl, hb, fun i hi => ?_⟩
      obtain ⟨x, hx, hcx⟩ := hc i (by omega)
      exact ⟨x, hx, by rw [World.cell?_alloc_old _ _ _ (by simp; omega)]; exact hcx⟩
  · go_enter Try.func32, Try.ntmps32
    go_wp2
    go_ret
    refine ⟨rfl, ⟨pb, n, cap, by simp, by simp, fun j => by simp, by omega, h1, by unfold maxLen; omega, by simp, ?_⟩, (Below.refl _ _).alloc (Nat.le_refl _) _⟩
    rcases h3 with h3 | ⟨b, o, rfl, hb, hc⟩
    · exact .inl h3
    · refine .inr ⟨b, o, rfl, hb, fun i hi => ?_⟩
      obtain ⟨x, hx, hcx⟩ := hc i hi
      exact ⟨x, hx, by rw [World.cell?_alloc_old _ _ _ (by simp; omega)]; exact hcx⟩

set_option maxHeartbeats 400000 in
theorem l91Point_any (S p : Nat) (w : World) (h : RdAt w S p) (hp : p ≤ 100000) :
    Calls Try.prog 53 #[.pointer (some ⟨S, 0, none⟩)] w fun e w' => ∃ x p', -1 ≤ x ∧ x ≤ 64 ∧ p' ≤ p + 2 ∧ e = .returned (.int .i64 x) ∧ RdAt w' S p' ∧ w.grownBy w' (some S) := by
  go_enter Try.func53, Try.ntmps53
  go_wp2_with (first | (have _ := hc1; go_at_call_of 35 (Value.int IntKind.i64 2); refine (pick_any S (p + 1) 2 _ hr1 (by omega) (by omega) (by omega)).mono ?_; rintro e w2 ⟨c2, hc2, rfl, hr2, hg2⟩) | (have _ := hc1; go_at_call_of 35 (Value.int IntKind.i64 64); refine (pick_any S (p + 1) 64 _ hr1 (by omega) (by omega) (by omega)).mono ?_; rintro e w2 ⟨c2, hc2, rfl, hr2, hg2⟩) | (go_at_call 35; refine (pick_any S p 24 _ h (by omega) (by omega) (by omega)).mono ?_; rintro e w1 ⟨c1, hc1, rfl, hr1, hg1⟩))
  all_goals
    go_ret
    exact ⟨_, _, by omega, by omega, by omega, rfl, hr2, grow_trans hg1 hg2⟩

end Go.Proofs.Ytkefnmmpipeppaa
