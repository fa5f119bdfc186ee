/-
  Contracts: LookupNext of the program.
-/
import Derived.Test.YtagpkemlndkcjaaLkT
namespace Go.Proofs.Ytagpkemlndkcjaa
open Go.RowKit

def hasI (L : List Int) (x : Int) : Int := idx (fun y => x == y) L
set_option maxHeartbeats 1000000 in
theorem sIndex_any (v : Value) (xs : List Int) (x : Int) (w : World) (hv : IntsAt w v xs) :
    Calls Try.prog 40 #[v, .int .i64 x] w fun e w' => e = .returned (.int .i64 (hasI xs x)) ∧ w = w' := by
  unfold hasI
  obtain ⟨p, cap, rfl, hc, hm, h4⟩ := hv
  unfold maxLen at hm
  go_enter Try.func40, Try.ntmps40
  go_wp2
  go_loop [5, 8] (fun _ s8 => ∃ k : Nat, k ≤ xs.length ∧ s8 = .int .i64 k ∧ Hid (∀ j, j < k → (x == xs.getD j 0) = false)) (fun _ s => xs.length - (intOf s).toNat)
  case atStart => exact ⟨0, Nat.zero_le _, rfl, Lib.hid fun j hj => by omega⟩
  case round =>
    obtain ⟨k, hk, rfl, HA⟩ := hrel
    by_cases hlt : k < xs.length
    · rcases h4 with ⟨rfl, -⟩ | ⟨b, o, rfl, hb, hcell⟩
      · simp at hlt
      have h1 := hcell k hlt
      obtain ⟨n, hn⟩ : ∃ y, xs.getD k 0 = y := ⟨_, rfl⟩
      rw [hn] at h1
      have HN := Lib.hid hn
      clear hcell hn
      cases hok : (x == n)
      · have HO := Lib.hid hok
        go_wp2
        go_round
        case rel =>
          refine ⟨k + 1, by omega, by go_num, Lib.hid fun j hj => ?_⟩
          by_cases e : j = k
          · subst e; rw [HN.out]; exact HO.out
          · exact HA.out j (by omega)
        case measure => simp [intOf]; omega
      · have HO := Lib.hid hok
        go_wp2
        go_ret
        exact ⟨ret_int (idx_hit (d := 0) hlt (by rw [HN.out]; exact HO.out) HA.out).symm, rfl⟩
    · obtain rfl : k = xs.length := by omega
      go_wp2
      go_ret
      exact ⟨ret_int (idx_miss (d := 0) HA.out).symm, rfl⟩
theorem hasI_yes {L : List Int} {x : Int} (h : x ∈ L) : 0 ≤ hasI L x := by
  rcases first_or (fun j => x = L.getD j 0) L.length with ⟨k, hk, h1, h2⟩ | h1
  · unfold hasI
    rw [idx_hit (d := 0) hk (show (x == L.getD k 0) = true by simpa using h1) (fun j hj => show (x == L.getD j 0) = false by simpa using h2 j hj)]
    omega
  · obtain ⟨j, hj, e⟩ := mem_getI h
    exact absurd e.symm (h1 j hj)
theorem hasI_no {L : List Int} {x : Int} (h : x ∉ L) : hasI L x = -1 := by
  unfold hasI
  exact idx_miss (d := 0) (fun j hj => show (x == L.getD j 0) = false by rw [beq_eq_false_iff_ne]; intro e; exact h (by rw [e]; exact getD_memI hj))
theorem sContains_any (v : Value) (xs : List Int) (x : Int) (w : World) (hv : IntsAt w v xs) :
    Calls Try.prog 25 #[v, .int .i64 x] w fun e w' => e = .returned (.bool (decide (x ∈ xs))) ∧ w = w' := by
  have HV := Lib.hid hv
  clear hv
  by_cases h : x ∈ xs
  · have h1 := hasI_yes h
    obtain ⟨n, hn⟩ : ∃ n, hasI xs x = n := ⟨_, rfl⟩
    have HN := Lib.hid hn
    rw [hn] at h1
    rw [decide_eq_true h]
    clear hn h
    go_enter Try.func25, Try.ntmps25
    go_wp2_with (go_at_call 40; refine (sIndex_any _ xs x _ HV.out).mono ?_; rw [HN.out]; rintro e w' ⟨rfl, rfl⟩)
    go_ret
    exact ⟨rfl, rfl⟩
  · have HN := Lib.hid (hasI_no h)
    rw [decide_eq_false h]
    clear h
    go_enter Try.func25, Try.ntmps25
    go_wp2_with (go_at_call 40; refine (sIndex_any _ xs x _ HV.out).mono ?_; rw [HN.out]; rintro e w' ⟨rfl, rfl⟩)
    go_ret
    exact ⟨rfl, rfl⟩

theorem isNode_any (v : Value) (L : List Int) (u : Int) (c : Bool) (hc : (ndB L && decide (u ∈ L)) = c) (w : World) (hv : IntsAt w v L) :
    Calls Try.prog 11 #[v, .int .i64 u] w fun e w' => e = .returned (.bool c) ∧ Below w.heap.size w w' := by
  subst hc
  have HV := Lib.hid hv
  clear hv
  cases h1 : ndB L
  · have H1 := Lib.hid h1
    clear h1
    rw [Bool.false_and]
    go_enter Try.func11, Try.ntmps11
    go_wp2_with (go_at_call 19; refine (iNodesValid_any _ L _ HV.out).mono ?_; rw [H1.out]; rintro e w1 ⟨rfl, hb1⟩)
    go_ret
    exact ⟨rfl, hb1⟩
  · have H1 := Lib.hid h1
    clear h1
    rw [Bool.true_and]
    go_enter Try.func11, Try.ntmps11
    go_wp2_with (first | (go_at_call 19; refine (iNodesValid_any _ L _ HV.out).mono ?_; rw [H1.out]; rintro e w1 ⟨rfl, hb1⟩) | (go_at_call 25; refine (sContains_any _ L u _ (by exact HV.out.below hb1 (Nat.le_refl _))).mono ?_; rintro e w' ⟨rfl, rfl⟩))
    go_ret
    exact ⟨rfl, hb1⟩

theorem own_some {w : World} {B n : Nat} {v : Value} {xs : List Int} (hl : xs.length = n) (h0 : 0 < n) (h : w.ownsRow B 3 1 v n (xs.map (Value.int .i64))) : IntsOwn w B v xs := by
  refine ⟨by rw [hl]; exact h, fun e => ?_⟩
  rcases h.2 with ⟨-, h1⟩ | ⟨g, cap, cur, h', -⟩
  · omega
  · rw [e] at h'; cases h'
set_option maxRecDepth 100000 in
set_option maxHeartbeats 2000000 in
theorem fingersOf_any (v : Value) (L : List Int) (u : Int) (w : World) (hv : IntsAt w v L) (hn : ndB L = true) (hm : u ∈ L) :
    Calls Try.prog 41 #[v, .int .i64 u] w fun e w' => ∃ x, e = .returned x ∧ IntsOwn w' w.heap.size x (fingsL L u 6) ∧ Below w.heap.size w w' := by
  obtain ⟨i0, hi, hz0, hz1, hz2⟩ := info_parts Try.infoInt
  have HV := Lib.hid hv
  have HN := Lib.hid hn
  have HOK := Lib.hid (show (ndB L && decide (u ∈ L)) = true by simp [hn, hm])
  obtain ⟨u0, u1⟩ := nodes_mem (ndB_iff.1 hn).2 hm
  clear hv hn hm
  go_enter Try.func41, Try.ntmps41
  go_wp2_with (go_at_call 11; refine (isNode_any _ L u _ HOK.out _ HV.out).mono ?_; rintro e w1 ⟨rfl, hb1⟩)
  go_loopg [5, 6, 11] 6 (fun m s5 _ s7 wr => ∃ (k : Nat) (s : Int), k ≤ 6 ∧ m = 6 - k ∧ s7 = .int .i64 k ∧ (2 : Int) ^ k = s ∧ 1 ≤ s ∧ s ≤ 64 ∧ Hid (wr.ownsRow w.heap.size 3 1 s5 k ((fingsL L u k).map (Value.int .i64))) ∧ Below w.heap.size w wr)
  case atStart => exact ⟨0, 1, by omega, rfl, rfl, rfl, by omega, by omega, Lib.hid (World.ownsRow_nil _ _ _ _), hb1⟩
  case round =>
    obtain ⟨k, s, hk, rfl, rfl, hs, hs1, hs2, HO, hbel⟩ := hrel
    by_cases hlt : k < 6
    · obtain ⟨y, hy⟩ : ∃ y, fing L u k = y := ⟨_, rfl⟩
      have hnx : nextV L ((u + s) % 64) = y := by rw [← hs]; exact hy
      have HNX := Lib.hid hnx
      have HFS := Lib.hid (show fingsL L u (k + 1) = fingsL L u k ++ [y] by rw [fingsL_succ, hy])
      have HS2 := Lib.hid (show (2 : Int) ^ (k + 1) = 2 * s by rw [Int.pow_succ, hs]; omega)
      have hs3 : s ≤ 32 := by
        rcases (show k = 0 ∨ k = 1 ∨ k = 2 ∨ k = 3 ∨ k = 4 ∨ k = 5 by omega) with rfl | rfl | rfl | rfl | rfl | rfl <;> (simp at hs; omega)
      have e1 : wrap64 ((2 : Int) ^ k) = s := by rw [hs]; exact IntWalk.wrap64_in s (by omega)
      have e2 : wrap64 (u + s) = u + s := IntWalk.wrap64_in (u + s) (by omega)
      have e3 : (u + s).tmod 64 = (u + s) % 64 := Int.tmod_eq_emod_of_nonneg (by omega)
      have E1 := Lib.hid e1
      have E2 := Lib.hid e2
      have E3 := Lib.hid e3
      clear e1 e2 e3
      have hlt' : (k : Int) < 6 := by omega
      have hsz := hbel.size
      clear hs hnx hy
      go_wp2_with fail
      rw [E1.out, E2.out, E3.out]
      refine (iNodesNext_any _ L ((u + s) % 64) _ (by exact HV.out.below hbel (Nat.le_refl _)) HN.out (num_okP (by omega) (by omega))).mono ?_
      rw [HNX.out]
      rintro e w2 ⟨rfl, hb2⟩
      go_wp2_with (first | (at_builtin; refine wpList_append_src rfl (.tmp 14) (.tmp 22) 23 rfl w.heap.size 3 i0 (.int .i64 0) 1 8 Try.underlying23 hi hz0 hz1 hz2 rfl (by decide) _ k _ rfl ((ownsRow_below HO.out hb2 (Nat.le_refl _)).alloc _) _ _ _ rfl (src_one w2 _ _) (by unfold maxLen; omega) (by omega) (by have := hb2.size; simp; omega) ?_; intro v7 w7 hown7 hgrow7 hnil7))
      go_roundg (6 - (k + 1))
      case rel =>
        have hz2 := hb2.size
        refine ⟨k + 1, 2 * s, by omega, rfl, by go_num, HS2.out, by omega, by omega, Lib.hid ?_, ?_⟩
        · rw [HFS.out, List.map_append]; exact hown7
        · exact ((hbel.trans (hb2.mono hsz)).alloc (by omega) _).grown hgrow7 (by simp; omega) (fun q hq => (HO.out.lt q hq).1)
      case measure => omega
    · obtain rfl : k = 6 := by omega
      go_wp2
      go_ret
      exact ⟨_, rfl, own_some (fingsL_length L u 6) (by omega) HO.out, hbel⟩

theorem iHolds_any (a b k : Int) (c : Bool) (hc : holdsP a b k = c) (ha : okP a = true) (hb : okP b = true) (hk : okP k = true) (w : World) :
    Calls Try.prog 42 #[.int .i64 a, .int .i64 b, .int .i64 k] w fun e w' => e = .returned (.bool c) ∧ Below w.heap.size w w' := by
  have H3 := Lib.hid (show posAll [a, b, k] = true by rw [posAll3, ha, hb, hk]; rfl)
  have hB := (Below.refl w.heap.size w).alloc (Nat.le_refl _) (.cells #[.int .i64 a, .int .i64 b, .int .i64 k] 3)
  obtain ⟨q, hq⟩ : ∃ q, btw a k b = q := ⟨_, rfl⟩
  have HQ := Lib.hid (show cbtw a k b = q by unfold cbtw; rw [ha, hb, hk]; simpa using hq)
  have HC := Lib.hid (show ((q || decide (k = b)) || decide (a = b)) = c by rw [← hc, ← hq]; unfold holdsP; rw [Bool.or_comm (decide (k = b))])
  clear hc hq ha hb hk
  cases q
  · go_enter Try.func42, Try.ntmps42
    go_wp2_with (first | (go_at_call 20; refine (positions_any _ [a, b, k] _ (intsAt_new _ _ [a, b, k] _ rfl (by simp))).mono ?_; rw [H3.out]; rintro e w' ⟨rfl, rfl⟩) | (go_at_call 43; refine (iBetween_is a k b _ HQ.out _).mono ?_; rintro e w1 ⟨rfl, hb1⟩))
    all_goals
      go_ret
      exact ⟨ret_bool (by rw [← HC.out, Bool.eq_iff_iff]; first | done | simp_all), hB.trans (hb1.mono hB.size)⟩
  · go_enter Try.func42, Try.ntmps42
    go_wp2_with (first | (go_at_call 20; refine (positions_any _ [a, b, k] _ (intsAt_new _ _ [a, b, k] _ rfl (by simp))).mono ?_; rw [H3.out]; rintro e w' ⟨rfl, rfl⟩) | (go_at_call 43; refine (iBetween_is a k b _ HQ.out _).mono ?_; rintro e w1 ⟨rfl, hb1⟩))
    all_goals
      go_ret
      exact ⟨ret_bool (by rw [← HC.out]; simp), hB.trans (hb1.mono hB.size)⟩

set_option maxRecDepth 100000 in
set_option maxHeartbeats 4000000 in
theorem iLookupNext_any (v : Value) (L : List Int) (u key y : Int) (w : World) (hv : IntsAt w v L) (hn : ndB L = true) (hm : u ∈ L) (hk : okP key = true) (hy : stepL L u key = y) :
    Calls Try.prog 29 #[v, .int .i64 u, .int .i64 key] w fun e w' => e = .returned (.int .i64 y) ∧ Below w.heap.size w w' := by
  have HV := Lib.hid hv
  have HN := Lib.hid hn
  have HM := Lib.hid hm
  have HK := Lib.hid hk
  have HOK := Lib.hid (show (ndB L && decide (u ∈ L)) = true by simp [hn, hm])
  have hu := nodes_mem (ndB_iff.1 hn).2 hm
  have HU := Lib.hid (num_okP hu.1 hu.2)
  have HY := Lib.hid hy
  have hfm : ∀ i, i < 6 → okP (fing L u i) = true := fun i hi => by
    have := nodes_mem (ndB_iff.1 hn).2 (fing_spec (ndB_iff.1 hn).2 hm hi).1
    exact num_okP this.1 this.2
  have HFM := Lib.hid hfm
  clear hv hn hm hk hu hy hfm
  go_enter Try.func29, Try.ntmps29
  go_wp2_with (first | (go_at_call 11; refine (isNode_any _ L u _ HOK.out _ HV.out).mono ?_; rintro e w1 ⟨rfl, hb1⟩) | (go_at_call 12; refine (posok_is key _ HK.out _).mono ?_; rintro e w' ⟨rfl, rfl⟩))
  have hz1 := hb1.size
  refine (fingersOf_any v L u _ (HV.out.below hb1 (Nat.le_refl _)) HN.out HM.out).mono ?_
  rintro e w2 ⟨x, rfl, hF, hb2⟩
  have hb12 := hb1.trans (hb2.mono hz1)
  have hlen := fingsL_length L u 6
  obtain ⟨g, cap, rfl, gc1, gc2, gS, gl, -⟩ := hF.form
  rw [hlen] at hF gc1 ⊢
  unfold maxLen at gc2
  have HF := Lib.hid hF
  obtain ⟨f0, hf0⟩ : ∃ f, fing L u 0 = f := ⟨_, rfl⟩
  have c0 := HF.out.cellI (k := 0) (by omega) ((fingsL_get (by omega)).trans hf0)
  have HF0 := Lib.hid hf0
  have HP0 := Lib.hid (show okP f0 = true by rw [← hf0]; exact HFM.out 0 (by omega))
  clear hF hf0
  cases hh : holdsP u f0 key
  · have HH := Lib.hid hh
    have HD := Lib.hid (show downF L u key 5 = y by rw [← HY.out]; unfold stepL; rw [HF0.out, hh, if_neg Bool.false_ne_true])
    clear hh
    go_wp2_with (go_at_call 42; refine (iHolds_any u f0 key _ HH.out HU.out HP0.out HK.out _).mono ?_; rintro e w3 ⟨rfl, hb3⟩)
    have hb13 := hb12.trans (hb3.mono hb12.size)
    go_loopw [8] (fun s wr => ∃ k : Nat, k ≤ 5 ∧ s = .int .i64 k ∧ Hid (downF L u key k = y) ∧ Below w2.heap.size w2 wr) (fun s _ => (intOf s).toNat)
    case atStart => exact ⟨5, by omega, rfl, HD, hb3⟩
    case round =>
      obtain ⟨k, hk, rfl, HKY, hbel⟩ := hrel
      have HFr := Lib.hid (HF.out.below hbel (Nat.le_refl _))
      have hbw := hb12.trans (hbel.mono hb12.size)
      rcases Nat.eq_zero_or_pos k with rfl | hpos
      · have hy0 := Lib.hid (show f0 = y by rw [← HF0.out, ← HKY.out]; rfl)
        have cr := (hbel.cell (p := ⟨g, 0, none⟩) gl).trans c0
        clear c0
        go_wp2
        go_ret
        exact ⟨ret_int hy0.out, hbw⟩
      · obtain ⟨j, rfl⟩ : ∃ j, k = j + 1 := ⟨k - 1, by omega⟩
        obtain ⟨f, hf⟩ : ∃ f, fing L u (j + 1) = f := ⟨_, rfl⟩
        have ck := HFr.out.cellI (k := j + 1) (by omega) ((fingsL_get (by omega)).trans hf)
        have hk0 : (0 : Int) < ((j + 1 : Nat) : Int) := by omega
        have hk1 : (0 : Int) ≤ ((j + 1 : Nat) : Int) := by omega
        have hk2 : ((j + 1 : Nat) : Int) < 6 := by omega
        have HE := Lib.hid (show (if btw u f key then f else downF L u key j) = y by rw [← hf]; exact HKY.out)
        have HPf := Lib.hid (show okP f = true by rw [← hf]; exact HFM.out (j + 1) (by omega))
        clear hf c0
        cases hb : btw u f key
        · have HB := Lib.hid (show cbtw u f key = false by unfold cbtw; rw [hb, Bool.and_false])
          have HNX := Lib.hid (show downF L u key j = y by have := HE.out; rw [hb, if_neg Bool.false_ne_true] at this; exact this)
          clear hb
          go_wp2_with (go_at_call 43; refine (iBetween_is u f key _ HB.out _).mono ?_; rintro e w4 ⟨rfl, hb4⟩)
          go_roundw
          case rel => exact ⟨j, by omega, by go_num, HNX, hbel.trans (hb4.mono hbel.size)⟩
          case measure => simp [intOf]
        · have HB := Lib.hid (show cbtw u f key = true by unfold cbtw; rw [hb, HU.out, HPf.out, HK.out]; rfl)
          have HNX := Lib.hid (show f = y by have := HE.out; rw [hb, if_pos rfl] at this; exact this)
          clear hb
          go_wp2_with (go_at_call 43; refine (iBetween_is u f key _ HB.out _).mono ?_; rintro e w4 ⟨rfl, hb4⟩; have cr := (hb4.cell (p := ⟨g, j + 1, none⟩) (Nat.lt_of_lt_of_le gl hbel.size)).trans ck)
          go_ret
          exact ⟨ret_int HNX.out, hbw.trans (hb4.mono hbw.size)⟩
  · have HH := Lib.hid hh
    have HD := Lib.hid (show f0 = y by rw [← HY.out]; unfold stepL; rw [HF0.out, hh, if_pos rfl])
    clear hh
    go_wp2_with (go_at_call 42; refine (iHolds_any u f0 key _ HH.out HU.out HP0.out HK.out _).mono ?_; rintro e w3 ⟨rfl, hb3⟩; have cr := (hb3.cell (p := ⟨g, 0, none⟩) gl).trans c0)
    go_ret
    exact ⟨ret_int HD.out, hb12.trans (hb3.mono hb12.size)⟩

end Go.Proofs.Ytagpkemlndkcjaa
