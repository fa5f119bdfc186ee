/-
  Contracts: lookups of the reference.
-/
import Derived.Test.YtagpkemlndkcjaaLkD
namespace Go.Proofs.Ytagpkemlndkcjaa
open Go.RowKit

set_option maxHeartbeats 1000000 in
theorem l1Next_any (v : Value) (L : List Int) (key y : Int) (w : World) (hv : IntsAt w v L) (hl : 1 ≤ L.length) (hy : nextV L key = y) :
    Calls Try.prog 17 #[v, .int .i64 key] w fun e w' => e = .returned (.int .i64 y) ∧ w = w' := by
  have HY := Lib.hid hy
  obtain ⟨p, cap, rfl, hc, hm, h4⟩ := hv
  unfold maxLen at hm
  clear hy
  rcases h4 with ⟨rfl, -⟩ | ⟨b, o, rfl, hb, hcell⟩
  · simp at hl
  have h00 := hcell 0 (by omega)
  rw [Nat.add_zero] at h00
  go_enter Try.func17, Try.ntmps17
  go_wp2
  go_loop [5] (fun i => ∃ k : Nat, k ≤ L.length ∧ i = .int .i64 k ∧ Hid (∀ j, j < k → decide (key ≤ L.getD j 0) = false)) (fun i => L.length - (intOf i).toNat)
  case atStart => exact ⟨0, Nat.zero_le _, rfl, Lib.hid fun j hj => by omega⟩
  case round =>
    obtain ⟨k, hk, rfl, HA⟩ := hrel
    by_cases hlt : k < L.length
    · have h1 := hcell k hlt
      obtain ⟨x, hx⟩ : ∃ y, L.getD k 0 = y := ⟨_, rfl⟩
      rw [hx] at h1
      have HX := Lib.hid hx
      have i0 : (0 : Int) ≤ (k : Int) := by omega
      have i1 : (k : Int) < (L.length : Int) := by omega
      clear hcell hx h00
      obtain hge | hge : decide (key ≤ x) = true ∨ decide (key ≤ x) = false := by cases decide (key ≤ x) <;> simp
      · have HR := Lib.hid (show y = x by
          rw [← HY.out]
          unfold nextV
          rw [idx_hit (d := 0) hlt (by rw [HX.out]; exact hge) HA.out]
          exact HX.out)
        have hge' : key ≤ x := by simpa using hge
        clear hge
        go_wp2
        go_ret
        exact ⟨ret_int HR.out.symm, rfl⟩
      · have HG := Lib.hid hge
        have hge' : ¬ key ≤ x := by simpa using hge
        clear hge
        go_wp2
        go_round
        case rel =>
          refine ⟨k + 1, by omega, by go_num, Lib.hid fun j hj => ?_⟩
          by_cases e : j = k
          · subst e; rw [HX.out]; exact HG.out
          · exact HA.out j (by omega)
        case measure => simp [intOf]; omega
    · obtain rfl : k = L.length := by omega
      obtain ⟨x, hx⟩ : ∃ y, L.getD 0 0 = y := ⟨_, rfl⟩
      rw [hx] at h00
      have HR := Lib.hid (show y = x by
        rw [← HY.out]
        unfold nextV
        rw [idx_miss (d := 0) HA.out]
        exact hx)
      clear hcell hx
      go_wp2
      go_ret
      exact ⟨ret_int HR.out.symm, rfl⟩

theorem sHolds_any (a b k : Int) (c : Bool) (hc : holdsP a b k = c) (w : World) :
    Calls Try.prog 34 #[.int .i64 a, .int .i64 b, .int .i64 k] w fun e w' => e = .returned (.bool c) ∧ w = w' := by
  subst hc
  unfold holdsP
  cases h1 : (k == b)
  · have H1 := Lib.hid (show decide (k = b) = false by simpa using h1)
    rw [H1.out, Bool.false_or]
    cases h2 : btw a k b
    · have H2 := Lib.hid h2
      clear h2
      rw [Bool.false_or]
      go_enter Try.func34, Try.ntmps34
      go_wp2_with (go_at_call 35; refine (sBetween_any _ _ _ _).mono ?_; rw [H2.out]; rintro e w' ⟨rfl, rfl⟩)
      go_ret
      exact ⟨ret_bool (by rw [Bool.eq_iff_iff]; simp), rfl⟩
    · have H2 := Lib.hid h2
      clear h2
      rw [Bool.true_or]
      go_enter Try.func34, Try.ntmps34
      go_wp2_with (go_at_call 35; refine (sBetween_any _ _ _ _).mono ?_; rw [H2.out]; rintro e w' ⟨rfl, rfl⟩)
      go_ret
      exact ⟨rfl, rfl⟩
  · have H1 := Lib.hid (show decide (k = b) = true by simpa using h1)
    rw [H1.out, Bool.true_or, Bool.true_or]
    go_enter Try.func34, Try.ntmps34
    go_wp2
    go_ret
    exact ⟨rfl, rfl⟩

theorem l11Ok_any (v : Value) (L : List Int) (u : Int) (w : World) (hv : IntsAt w v L) :
    Calls Try.prog 15 #[v, .int .i64 u] w fun e w' => e = .returned (.bool (ndB L && decide (u ∈ L))) ∧ Below w.heap.size w w' := by
  have HV := Lib.hid hv
  clear hv
  cases h1 : ndB L
  · have H1 := Lib.hid h1
    clear h1
    rw [Bool.false_and]
    go_enter Try.func15, Try.ntmps15
    go_wp2_with (go_at_call 30; refine (sNodesValid_any _ L _ HV.out).mono ?_; rw [H1.out]; rintro e w1 ⟨rfl, hb1⟩)
    go_ret
    exact ⟨rfl, hb1⟩
  · have H1 := Lib.hid h1
    clear h1
    rw [Bool.true_and]
    go_enter Try.func15, Try.ntmps15
    go_wp2_with (first | (go_at_call 30; refine (sNodesValid_any _ L _ HV.out).mono ?_; rw [H1.out]; rintro e w1 ⟨rfl, hb1⟩) | (go_at_call 31; refine (l1Has_any _ L u _ (by exact HV.out.below hb1 (Nat.le_refl _))).mono ?_; rintro e w' ⟨rfl, rfl⟩))
    go_ret
    exact ⟨rfl, hb1⟩

/-- The first fingers. -/
def fingsL (L : List Int) (u : Int) (n : Nat) : List Int := (List.range n).map (fing L u)
theorem fingsL_length (L : List Int) (u : Int) (n : Nat) : (fingsL L u n).length = n := by simp [fingsL]
theorem fingsL_get {L : List Int} {u : Int} {n i : Nat} (h : i < n) : (fingsL L u n).getD i 0 = fing L u i := by simp [fingsL, h]
theorem fingsL_succ (L : List Int) (u : Int) (n : Nat) : fingsL L u (n + 1) = fingsL L u n ++ [fing L u n] := by simp [fingsL, List.range_succ]
theorem src_one (w : World) (q : Int) (t : TypeId) : SrcIs (w.alloc (.cells #[.int .i64 q] t)) 1 (.slice (some ⟨w.heap.size, 0, none⟩) 1 1) 1 [.int .i64 q] := by
  obtain ⟨h1, h2, h3⟩ := news_one (cell_one_new w (.int .i64 q) t)
  exact ⟨h1, h3, .inr ⟨⟨w.heap.size, 0, none⟩, 1, rfl, h2⟩⟩
theorem IntsOwn.snoc {w : World} {B : Nat} {v v' : Value} {xs : List Int} {x : Int} (h : w.ownsRow B 3 1 v' (xs.length + 1) (xs.map (Value.int .i64) ++ [.int .i64 x])) (hn : v' = .slice none 0 0 ↔ v = .slice none 0 0 ∧ 1 = 0) : IntsOwn w B v' (xs ++ [x]) := by
  refine ⟨?_, fun e => by have := hn.1 e; omega⟩
  rw [List.length_append, List.map_append]
  exact h
theorem ownsRow_len {w : World} {B n : Nat} {t : TypeId} {v : Value} {xs : List Int} (hl : xs.length = n) (h : w.ownsRow B t 1 v xs.length (xs.map (Value.int .i64))) : w.ownsRow B t 1 v n (xs.map (Value.int .i64)) := by rw [← hl]; exact h
theorem ints_made (w : World) : IntsOwn (w.alloc (.cells #[] 3)) w.heap.size (.slice (some ⟨w.heap.size, 0, none⟩) 0 0) [] := by
  refine ⟨?_, by simp⟩
  have := World.ownsRow_made (base := w.heap.size) (e := 3) (size := 1) w #[] 0 (Nat.le_refl _) (by unfold maxLen; omega) rfl
  simpa using this

set_option maxRecDepth 100000 in
set_option maxHeartbeats 2000000 in
theorem l11Fingers_any (v : Value) (L : List Int) (u : Int) (w : World) (hv : IntsAt w v L) (hl : 1 ≤ L.length) (hu : 0 ≤ u ∧ u < 64) :
    Calls Try.prog 33 #[v, .int .i64 u] w fun e w' => ∃ x, e = .returned x ∧ IntsOwn w' w.heap.size x (fingsL L u 6) ∧ Below w.heap.size w w' := by
  obtain ⟨i0, hi, hz0, hz1, hz2⟩ := info_parts Try.infoInt
  have HV := Lib.hid hv
  obtain ⟨u0, u1⟩ := hu
  clear hv
  have hbx := (Below.refl w.heap.size w).alloc (Nat.le_refl _) (.cells #[] 3)
  have HO0 := Lib.hid (ints_made w)
  go_enter Try.func33, Try.ntmps33
  go_wp2
  go_loopg [5, 6, 7] 6 (fun m s5 s6 s7 wr => ∃ (k : Nat) (s : Int), k ≤ 6 ∧ m = 6 - k ∧ s7 = .int .i64 k ∧ s6 = .int .i64 s ∧ (2 : Int) ^ k = s ∧ 1 ≤ s ∧ s ≤ 64 ∧ Hid (IntsOwn wr w.heap.size s5 (fingsL L u k)) ∧ Below w.heap.size w wr)
  case atStart => exact ⟨0, 1, by omega, rfl, rfl, rfl, rfl, by omega, by omega, by simpa [fingsL] using HO0, hbx⟩
  case round =>
    obtain ⟨k, s, hk, rfl, rfl, rfl, hs, hs1, hs2, HO, hbel⟩ := hrel
    by_cases hlt : k < 6
    · obtain ⟨y, hy⟩ : ∃ y, fing L u k = y := ⟨_, rfl⟩
      have hnx : nextV L ((u + s) % 64) = y := by rw [← hs]; exact hy
      have HNX := Lib.hid hnx
      have HFS := Lib.hid (show fingsL L u (k + 1) = fingsL L u k ++ [y] by rw [fingsL_succ, hy])
      have HS2 := Lib.hid (show (2 : Int) ^ (k + 1) = 2 * s by rw [Int.pow_succ, hs]; omega)
      have hs3 : s ≤ 32 := by
        rcases (show k = 0 ∨ k = 1 ∨ k = 2 ∨ k = 3 ∨ k = 4 ∨ k = 5 by omega) with rfl | rfl | rfl | rfl | rfl | rfl <;> (simp at hs; omega)
      have hlen := fingsL_length L u k
      obtain ⟨g, cap, rfl, gc1, gc2, gS, gl, -⟩ := HO.out.form
      rw [hlen] at HO gc1 ⊢
      have hlt' : (k : Int) < 6 := by omega
      have hsz := hbel.size
      clear hs hnx hy
      unfold maxLen at gc2
      go_wp2_with (first | (at_builtin; refine wpList_append_src rfl (.tmp 13) (.tmp 20) 23 rfl w.heap.size 3 i0 (.int .i64 0) 1 8 Try.underlying23 hi hz0 hz1 hz2 rfl (by decide) _ _ _ rfl ((ownsRow_len hlen HO.out.1).alloc _) _ _ _ rfl (src_one wr _ _) (by unfold maxLen; omega) (by omega) (by simp; omega) ?_; intro v7 w7 hown7 hgrow7 hnil7) | (go_at_call 17; refine (l1Next_any _ L ((u + s) % 64) y _ (by exact HV.out.below hbel (Nat.le_refl _)) hl HNX.out).mono ?_; rintro e w' ⟨rfl, rfl⟩))
      go_roundg (6 - (k + 1))
      case rel =>
        refine ⟨k + 1, 2 * s, by omega, rfl, by go_num, by go_num, HS2.out, by omega, by omega, Lib.hid ?_, ?_⟩
        · rw [HFS.out]; exact IntsOwn.snoc (by rw [hlen]; exact hown7) hnil7
        · exact (hbel.alloc hsz _).grown hgrow7 (by simp; omega) (fun q hq => by cases hq; exact gS)
      case measure => omega
    · obtain rfl : k = 6 := by omega
      go_wp2
      go_ret
      exact ⟨_, rfl, HO.out, hbel⟩

end Go.Proofs.Ytagpkemlndkcjaa
