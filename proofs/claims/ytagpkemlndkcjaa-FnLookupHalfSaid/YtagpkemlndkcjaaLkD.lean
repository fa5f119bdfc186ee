/-
  Contracts: drawn nodes, as the lookups need them.
-/
import Derived.Test.YtagpkemlndkcjaaLkV
import Derived.Test.YtagpkemlndkcjaaStepA
import Derived.Maps.AppendAt
import Derived.Deep.RegionHeldLaw
namespace Go.Proofs.Ytagpkemlndkcjaa
open Go.RowKit

theorem Try.infoInt : (Try.prog.info? 3).map (fun i => (i.zero, i.size, i.bytes)) = some (some (.int .i64 0), 1, 8) := by kernel_rfl
theorem cell_one_newN' (w : World) (x : Value) (t : TypeId) (N : Nat) (h : N = w.heap.size) : ∀ j u, [x][j]? = some u → (w.alloc (.cells #[x] t)).cell? ((⟨N, 0, none⟩ : Addr).add j) = some u := by
  subst h
  exact cell_one_new w x t

theorem one_at {w : World} {b : Nat} {x : Value} (h : w.cell? ⟨b, 0, none⟩ = some x) : ∀ j u, [x][j]? = some u → w.cell? ((⟨b, 0, none⟩ : Addr).add j) = some u := by
  intro j u hj
  match j, hj with
  | 0, hj => rw [Addr.add_lit]; simp at hj; rw [← hj]; exact h
  | j + 1, hj => simp at hj

theorem news_one {w : World} {b : Nat} {q : Int} (h : ∀ j u, [Value.int .i64 q][j]? = some u → w.cell? ((⟨b, 0, none⟩ : Addr).add j) = some u) :
    ([Value.int .i64 q] : List Value).length = 1 * 1 ∧ (∀ j u, [Value.int .i64 q][j]? = some u → w.cell? ((⟨b, 0, none⟩ : Addr).add j) = some u) ∧ ∀ u ∈ [Value.int .i64 q], u.oneCell' = true :=
  ⟨rfl, h, fun u hu => by simp at hu; subst hu; rfl⟩

theorem one_kept {W w' : World} {N b : Nat} (h : W.grownBy w' (some N)) (hb : b < W.heap.size) (hne : b ≠ N) : w'.cell? ⟨b, 0, none⟩ = W.cell? ⟨b, 0, none⟩ := grow_cell h hb hne
theorem q_b (w : World) (x : Value) (t t' : TypeId) : ((w.alloc (.cells #[] t')).alloc (.cells #[x] t)).cell? ⟨w.heap.size + 1, 0, none⟩ = some x := by
  have := cell_one_newN' (w.alloc (.cells #[] t')) x t (w.heap.size + 1) (by simp) 0 x rfl
  rw [Addr.add_lit] at this
  exact this

theorem q_c (w : World) (x : Value) (t t' : TypeId) : ((w.alloc (.cells #[x] t)).alloc (.cells #[] t')).cell? ⟨w.heap.size, 0, none⟩ = some x := by
  rw [((Below.refl (w.alloc (.cells #[x] t)).heap.size _).alloc (Nat.le_refl _) (.cells #[] t')).cell (by simp)]
  have := cell_one_newN' w x t w.heap.size rfl 0 x rfl
  rw [Addr.add_lit] at this
  exact this

theorem drop_addr_ints (g k cap : Nat) (xs : List Int) (hc : xs.length ≤ cap) :
    ∃ O, (if cap = k then some (⟨g, 0, none⟩ : Addr) else some ⟨g, k, none⟩) = some ⟨g, O, none⟩ ∧ ∀ w : World, (∀ i, i < xs.length → w.cell? ⟨g, i, none⟩ = some (.int .i64 (xs.getD i 0))) →
    (((xs.drop k).map (Value.int .i64)).length = (xs.length - k) * 1 ∧ (∀ j u, ((xs.drop k).map (Value.int .i64))[j]? = some u → w.cell? ((⟨g, O, none⟩ : Addr).add j) = some u) ∧ ∀ u ∈ (xs.drop k).map (Value.int .i64), u.oneCell' = true) := by
  by_cases e : cap = k
  · refine ⟨0, by rw [if_pos e], fun w h => ?_⟩
    obtain ⟨O, h1, h2⟩ := ints_news_drop (k := k) h cap hc
    rw [if_pos e] at h1
    cases h1
    exact h2
  · refine ⟨k, by rw [if_neg e], fun w h => ?_⟩
    obtain ⟨O, h1, h2⟩ := ints_news_drop (k := k) h cap hc
    rw [if_neg e] at h1
    cases h1
    exact h2

theorem v2_ne {w : World} {B n : Nat} {v : Value} {xs : List Value} {q : Value} (h : w.ownsRow B 3 1 v (n + 1) (xs ++ [q])) : v ≠ .slice none 0 0 := by
  intro e
  subst e
  rcases h.2 with ⟨-, hn⟩ | ⟨g, cap, cur, h', -⟩
  · omega
  · cases h'

theorem own_insert {w : World} {B k : Nat} {v : Value} {xs : List Int} {q : Int} (hk : k ≤ xs.length) (h : w.ownsRow B 3 1 v (0 + k + 1 + (xs.length - k)) ([] ++ (xs.take k).map (Value.int .i64) ++ [.int .i64 q] ++ (xs.drop k).map (Value.int .i64))) :
    w.ownsRow B 3 1 v (xs.take k ++ q :: xs.drop k).length ((xs.take k ++ q :: xs.drop k).map (Value.int .i64)) := by
  have hl : (xs.take k ++ q :: xs.drop k).length = 0 + k + 1 + (xs.length - k) := by simp; omega
  rw [hl]
  simpa using h

set_option maxHeartbeats 4000000 in
theorem l91Good_any (S p least : Nat) (w : World) (h : RdAt w S p) (hp : p ≤ 100000) (hl1 : 1 ≤ least) (hl2 : least ≤ 3) :
    Calls Try.prog 45 #[.pointer (some ⟨S, 0, none⟩), .int .i64 least] w fun e w' => ∃ u xs p', e = .returned u ∧ IntsOwn w' (S + 1) u xs ∧ Asc xs ∧ least ≤ xs.length ∧ xs.length ≤ 10 ∧ p' ≤ p + 11 ∧ RdAt w' S p' ∧ w.grownBy w' (some S) := by
  have hS := h.lt
  obtain ⟨i0, hi, hz0, hz1, hz2⟩ := info_parts Try.infoInt
  go_enter Try.func45, Try.ntmps45
  go_wp2_with (first | (go_at_call 39; refine (pick_any S p _ _ (by exact h.below ((Below.refl _ _).alloc (Nat.le_refl _) _) (Nat.le_refl _)) (by omega) (by omega) (by omega)).mono ?_; rintro e w1 ⟨c1, hc1, rfl, hr1, hg1⟩))
  have hn1 : least + c1 ≤ 10 := by omega
  have hzw1 := hg1.size
  simp at hzw1
  have hgw : w.grownBy w1 (some S) := grow_trans (grow_below ((Below.refl w.heap.size w).alloc (Nat.le_refl _) (.cells #[] 3)) (Nat.le_refl _)) hg1
  have hO0 : IntsOwn w1 (S + 1) (.slice (some ⟨w.heap.size, 0, none⟩) 0 0) [] := by
    have h0 : IntsOwn (w.alloc (.cells #[] 3)) (S + 1) (.slice (some ⟨w.heap.size, 0, none⟩) 0 0) [] := by
      refine ⟨?_, by simp⟩
      have := World.ownsRow_made (base := S + 1) (e := 3) (size := 1) w #[] 0 (by omega) (by unfold maxLen; omega) rfl
      simpa using this
    exact h0.grow hg1
  obtain ⟨n, hn⟩ : ∃ n, least + c1 = n := ⟨_, rfl⟩
  have HN := Lib.hid hn
  have hcast : (least : Int) + (c1 : Int) = (n : Int) := by omega
  rw [hcast]
  clear hcast
  go_loopg [5, 7, 8, 9] n (fun m s5 s7 _ _ wr => ∃ xs pp, Hid (Asc xs) ∧ m = n - xs.length ∧ xs.length ≤ n ∧ s7 = .int .i64 xs.length ∧ Hid (IntsOwn wr (S + 1) s5 xs) ∧ RdAt wr S pp ∧ pp ≤ p + 1 + xs.length ∧ Hid (w.grownBy wr (some S)))
  case atStart => exact ⟨[], p + 1, Lib.hid ⟨List.Pairwise.nil, fun x hx => by cases hx⟩, by simp, Nat.zero_le _, rfl, Lib.hid hO0, hr1, by simp, Lib.hid hgw⟩
  case round =>
    obtain ⟨xs, pp, HAsc, rfl, hxn, rfl, HO, hr, hpp, HG⟩ := hrel
    by_cases hlt : xs.length < n
    · go_wp2_with (first | (go_at_call 39; refine (pick_any S pp 64 _ hr (by omega) (by omega) (by omega)).mono ?_; rintro e w2 ⟨q0, hq0, rfl, hr2, hg2⟩; have HO2 := Lib.hid (HO.out.grow hg2); have HG2 := Lib.hid (grow_trans HG.out hg2)))
      obtain ⟨g, cap, rfl, hc1', hc2', hgS, hgw2, hcells⟩ := HO2.out.form
      have HCL := Lib.hid hcells
      clear hcells
      unfold maxLen at hc2'
      obtain ⟨d0, hd0⟩ := free_dist xs (by omega) (q0 : Int)
      go_loopg [8] d0 (fun d s8 wx => ∃ q : Int, s8 = .int .i64 q ∧ 0 ≤ q ∧ q < 64 ∧ Hid ((q + d) % 64 ∉ xs) ∧ wx = w2)
      case atStart => exact ⟨q0, rfl, by omega, by omega, Lib.hid hd0, rfl⟩
      case round =>
        obtain ⟨q, rfl, hq1, hq2, HQ, rfl⟩ := hrel
        cases hm : decide (q ∈ xs)
        rotate_left
        · have HM := Lib.hid hm
          have hd : gk ≠ 0 := fun e => by
            have := HQ.out
            rw [e] at this
            have e2 : (q + ((0 : Nat) : Int)) % 64 = q := by omega
            rw [e2] at this
            exact this (by simpa using hm)
          clear hm
          go_wp2_with (first | (go_at_call 31; refine (l1Has_any _ xs q _ HO2.out.at).mono ?_; rw [HM.out]; rintro e w' ⟨rfl, rfl⟩))
          go_roundg (gk - 1)
          case rel => exact ⟨_, rfl, by omega, by omega, Lib.hid (by have := HQ.out; have e : ((q + 1) % 64 + ((gk - 1 : Nat) : Int)) % 64 = (q + (gk : Int)) % 64 := by omega
                                                                     rw [e]; exact this), rfl⟩
          case measure => omega
        · have HM := Lib.hid hm
          have hqn : q ∉ xs := by simpa using hm
          have HQN := Lib.hid hqn
          clear hm hqn
          go_wp2_with (first | (go_at_call 31; refine (l1Has_any _ xs q _ HO2.out.at).mono ?_; rw [HM.out]; rintro e w' ⟨rfl, rfl⟩))
          go_loopg [9] xs.length (fun m s9 wx => ∃ k : Nat, k ≤ xs.length ∧ m = xs.length - k ∧ s9 = .int .i64 k ∧ Hid (∀ j, j < k → xs.getD j 0 < q) ∧ wx = wr)
          case atStart => exact ⟨0, Nat.zero_le _, rfl, rfl, Lib.hid fun j hj => by omega, rfl⟩
          case round =>
          obtain ⟨k, hk, rfl, rfl, HA, rfl⟩ := hrel
          have hce : k < xs.length → _ := fun h => HCL.out k h
          obtain ⟨x, hx⟩ : ∃ x, xs.getD k 0 = x := ⟨_, rfl⟩
          rw [hx] at hce
          have HX := Lib.hid hx
          clear hx
          by_cases hkl : k < xs.length
          rotate_left
          · have hstop := Lib.hid (show k < xs.length → ¬ xs.getD k 0 < q from fun h => absurd h hkl)
            clear hce
            obtain ⟨O, hOe, hnd⟩ := drop_addr_ints g k cap xs hc1'
            have hND := Lib.hid hnd
            have Ba := (Below.refl wr.heap.size wr).alloc (Nat.le_refl _) (.cells #[] 3)
            have Bb := Ba.alloc (by simp) (.cells #[.int .i64 q] 3)
            have Bc := ((Below.refl wr.heap.size wr).alloc (Nat.le_refl _) (.cells #[.int .i64 q] 3)).alloc (by simp) (.cells #[] 3)
            have ma : (wr.alloc (.cells #[] 3)).ownsRow wr.heap.size 3 1 (.slice (some ⟨wr.heap.size, 0, none⟩) 0 0) 0 [] := by
              have := World.ownsRow_made (base := wr.heap.size) (e := 3) (size := 1) wr #[] 0 (Nat.le_refl _) (by unfold maxLen; omega) rfl
              simpa using this
            have mc : ((wr.alloc (.cells #[.int .i64 q] 3)).alloc (.cells #[] 3)).ownsRow wr.heap.size 3 1 (.slice (some ⟨wr.heap.size + 1, 0, none⟩) 0 0) 0 [] := by
              have := World.ownsRow_made (base := wr.heap.size) (e := 3) (size := 1) (wr.alloc (.cells #[.int .i64 q] 3)) #[] 0 (by simp) (by unfold maxLen; omega) rfl
              simpa using this
            have Ma := Lib.hid ma
            have Mb := Lib.hid (ma.alloc (.cells #[.int .i64 q] 3))
            have Mc := Lib.hid mc
            have j0 : (0 : Int) ≤ (k : Int) := by omega
            have j1 : (k : Int) ≤ (cap : Int) := by omega
            have j2 : (k : Int) ≤ (xs.length : Int) := by omega
            clear hnd ma mc
            go_wp2_with fail
            go_region_held_law (fun _ => True) (trivial) (first | ((refine step_append_any (by rfl) (.tmp 51) (.tmp 54) 23 (by rfl) wr.heap.size 3 i0 (.int .i64 0) 1 8 Try.underlying23 hi hz0 hz1 hz2 (by rfl) (by decide) v2 (0 + k + 1) ([] ++ (xs.take k).map (Value.int .i64) ++ [.int .i64 q]) (by rfl) (by exact hO3.out) ⟨g, O, none⟩ (xs.length - k) (cap - k) ((xs.drop k).map (Value.int .i64)) (by rfl) (by exact (hND.out _ (fun i hi => (hb2.cell (p := ⟨g, i, none⟩) hgw2).trans (HCL.out i hi)))) (by unfold maxLen; omega) (by omega) (by first | omega | (simp; omega) | simp) ?_; intro v3 w5 hown3 hgrow3 hnil3; have hO5 := Lib.hid (own_insert hk hown3); have hb3 := hb2.grown hgrow3 hz4 (fun q hq => (hO3.out.lt q hq).1); have hNN := Lib.hid (show v3 ≠ .slice none 0 0 from fun e => absurd (hnil3.1 e).1 (v2_ne hO3.out)); clear hown3 hnil3)) | ((have _ := hQc; refine step_append_any (by rfl) (.tmp 48) (.tmp 50) 23 (by rfl) wr.heap.size 3 i0 (.int .i64 0) 1 8 Try.underlying23 hi hz0 hz1 hz2 (by rfl) (by decide) v1 (0 + k) ([] ++ (xs.take k).map (Value.int .i64)) (by rfl) (by exact hO1.out) ⟨wr.heap.size + 1, 0, none⟩ 1 1 [.int .i64 q] (by rfl) (by exact news_one (one_at hQc)) (by unfold maxLen; omega) (by omega) (by first | omega | (simp; omega) | simp) ?_; intro v2 w4 hown2 hgrow2 hnil2; have g2 : (w3).grownBy w4 v1.ownBlock := ⟨hgrow2.os, hgrow2.tape, hgrow2.output, hgrow2.size, hgrow2.block⟩; have hO3 := Lib.hid hown2; have hb2 := hb1.grown g2 (by first | exact hz3 | (simp; omega)) (fun q hq => (hO1.out.lt q hq).1); have hz4 := hb2.size; clear hown2 hnil2)) | ((have _ := hQd; refine step_append_any (by rfl) (.tmp 48) (.tmp 50) 23 (by rfl) wr.heap.size 3 i0 (.int .i64 0) 1 8 Try.underlying23 hi hz0 hz1 hz2 (by rfl) (by decide) v1 (0 + k) ([] ++ (xs.take k).map (Value.int .i64)) (by rfl) (by exact hO1.out) ⟨wr.heap.size, 0, none⟩ 1 1 [.int .i64 q] (by rfl) (by exact news_one (one_at hQd)) (by unfold maxLen; omega) (by omega) (by first | omega | (simp; omega) | simp) ?_; intro v2 w4 hown2 hgrow2 hnil2; have g2 : (w3).grownBy w4 v1.ownBlock := ⟨hgrow2.os, hgrow2.tape, hgrow2.output, hgrow2.size, hgrow2.block⟩; have hO3 := Lib.hid hown2; have hb2 := hb1.grown g2 (by first | exact hz3 | (simp; omega)) (fun q hq => (hO1.out.lt q hq).1); have hz4 := hb2.size; clear hown2 hnil2)) | ((refine step_append_any (by rfl) (.tmp 48) (.tmp 50) 23 (by rfl) wr.heap.size 3 i0 (.int .i64 0) 1 8 Try.underlying23 hi hz0 hz1 hz2 (by rfl) (by decide) v1 (0 + k) ([] ++ (xs.take k).map (Value.int .i64)) (by rfl) (by exact hO1.out.alloc (.cells #[.int .i64 q] 3)) ⟨w3.heap.size, 0, none⟩ 1 1 [.int .i64 q] (by rfl) (by exact news_one (cell_one_newN' _ _ _ _ rfl)) (by unfold maxLen; omega) (by omega) (by first | omega | (simp; omega) | simp) ?_; intro v2 w4 hown2 hgrow2 hnil2; have g2 : (w3.alloc (.cells #[.int .i64 q] 3)).grownBy w4 v1.ownBlock := ⟨hgrow2.os, hgrow2.tape, hgrow2.output, hgrow2.size, hgrow2.block⟩; have hO3 := Lib.hid hown2; have hb2 := (hb1.alloc hz3 (.cells #[.int .i64 q] 3)).grown g2 (by first | exact hz3 | (simp; omega)) (fun q hq => (hO1.out.lt q hq).1); have hz4 := hb2.size; clear hown2 hnil2)) | ((refine step_append_any (by rfl) (.tmp 44) (.tmp 47) 23 (by rfl) wr.heap.size 3 i0 (.int .i64 0) 1 8 Try.underlying23 hi hz0 hz1 hz2 (by rfl) (by decide) (.slice (some ⟨wr.heap.size, 0, none⟩) 0 0) 0 [] (by rfl) (by exact Ma.out) ⟨g, 0, none⟩ k cap ((xs.take k).map (Value.int .i64)) (by rfl) (by exact ints_news (fun i hi => (Ba.cell (p := ⟨g, i, none⟩) hgw2).trans (HCL.out i hi)) hk) (by unfold maxLen; omega) (by omega) (by first | omega | (simp; omega) | simp) ?_; intro v1 w3 hown1 hgrow1 hnil1; have g1 : (wr.alloc (.cells #[] 3)).grownBy w3 (some (wr.heap.size)) := ⟨hgrow1.os, hgrow1.tape, hgrow1.output, hgrow1.size, hgrow1.block⟩; have hO1 := Lib.hid hown1; have hb1 := Ba.grown g1 (by first | (simp; done) | (simp; omega)) (fun q hq => by cases hq; omega); have hz3 := hb1.size; have tokA := True.intro; clear hown1 hnil1)) | ((refine step_append_any (by rfl) (.tmp 44) (.tmp 47) 23 (by rfl) wr.heap.size 3 i0 (.int .i64 0) 1 8 Try.underlying23 hi hz0 hz1 hz2 (by rfl) (by decide) (.slice (some ⟨wr.heap.size, 0, none⟩) 0 0) 0 [] (by rfl) (by exact Mb.out) ⟨g, 0, none⟩ k cap ((xs.take k).map (Value.int .i64)) (by rfl) (by exact ints_news (fun i hi => (Bb.cell (p := ⟨g, i, none⟩) hgw2).trans (HCL.out i hi)) hk) (by unfold maxLen; omega) (by omega) (by first | omega | (simp; omega) | simp) ?_; intro v1 w3 hown1 hgrow1 hnil1; have g1 : ((wr.alloc (.cells #[] 3)).alloc (.cells #[.int .i64 q] 3)).grownBy w3 (some (wr.heap.size)) := ⟨hgrow1.os, hgrow1.tape, hgrow1.output, hgrow1.size, hgrow1.block⟩; have hO1 := Lib.hid hown1; have hb1 := Bb.grown g1 (by first | (simp; done) | (simp; omega)) (fun q hq => by cases hq; omega); have hz3 := hb1.size; have hQc : w3.cell? ⟨wr.heap.size + 1, 0, none⟩ = some (.int .i64 q) := (one_kept g1 (by simp) (by omega)).trans (q_b wr _ _ _); clear hown1 hnil1)) | ((refine step_append_any (by rfl) (.tmp 44) (.tmp 47) 23 (by rfl) wr.heap.size 3 i0 (.int .i64 0) 1 8 Try.underlying23 hi hz0 hz1 hz2 (by rfl) (by decide) (.slice (some ⟨wr.heap.size + 1, 0, none⟩) 0 0) 0 [] (by rfl) (by exact Mc.out) ⟨g, 0, none⟩ k cap ((xs.take k).map (Value.int .i64)) (by rfl) (by exact ints_news (fun i hi => (Bc.cell (p := ⟨g, i, none⟩) hgw2).trans (HCL.out i hi)) hk) (by unfold maxLen; omega) (by omega) (by first | omega | (simp; omega) | simp) ?_; intro v1 w3 hown1 hgrow1 hnil1; have g1 : ((wr.alloc (.cells #[.int .i64 q] 3)).alloc (.cells #[] 3)).grownBy w3 (some (wr.heap.size + 1)) := ⟨hgrow1.os, hgrow1.tape, hgrow1.output, hgrow1.size, hgrow1.block⟩; have hO1 := Lib.hid hown1; have hb1 := Bc.grown g1 (by first | (simp; done) | (simp; omega)) (fun q hq => by cases hq; omega); have hz3 := hb1.size; have hQd : w3.cell? ⟨wr.heap.size, 0, none⟩ = some (.int .i64 q) := (one_kept g1 (by simp; omega) (by omega)).trans (q_c wr _ _ _); clear hown1 hnil1)))
            all_goals
              clear j0 j1 j2
              have hlen : (xs.take k ++ q :: xs.drop k).length = xs.length + 1 := by simp; omega
              have HLEN := Lib.hid hlen
              clear hlen
              go_wp2
              go_roundg (n - (xs.length + 1))
              case rel => exact ⟨xs.take k ++ q :: xs.drop k, pp + 1, Lib.hid (HAsc.out.insert (by rw [okP_def]; omega) HQN.out hk HA.out (fun hk' => by have := hstop.out hk'; omega)), by rw [HLEN.out], by rw [HLEN.out]; omega, by rw [HLEN.out]; go_num, Lib.hid ⟨ownsRow_mono hO5.out (by omega), hNN.out⟩, hr2.below hb3 (Nat.le_refl _), by rw [HLEN.out]; omega, Lib.hid (grow_trans HG2.out (grow_below hb3 (Nat.le_refl _)))⟩
              case measure => omega
          have hce2 := hce hkl
          clear hce
          by_cases hxq : x < q
          · have hd : decide (x < q) = true := by simpa using hxq
            go_wp2_with fail
            go_roundg (xs.length - (k + 1))
            case rel => exact ⟨k + 1, by omega, rfl, by go_num, Lib.hid (fun j hj => by
              by_cases e : j = k
              · subst e; rw [HX.out]; exact hxq
              · exact HA.out j (by omega)), rfl⟩
            case measure => omega
          have hd : decide (x < q) = false := by simpa using hxq
          have hstop := Lib.hid (show k < xs.length → ¬ xs.getD k 0 < q from fun _ => by rw [HX.out]; exact hxq)
          obtain ⟨O, hOe, hnd⟩ := drop_addr_ints g k cap xs hc1'
          have hND := Lib.hid hnd
          have Ba := (Below.refl wr.heap.size wr).alloc (Nat.le_refl _) (.cells #[] 3)
          have Bb := Ba.alloc (by simp) (.cells #[.int .i64 q] 3)
          have Bc := ((Below.refl wr.heap.size wr).alloc (Nat.le_refl _) (.cells #[.int .i64 q] 3)).alloc (by simp) (.cells #[] 3)
          have ma : (wr.alloc (.cells #[] 3)).ownsRow wr.heap.size 3 1 (.slice (some ⟨wr.heap.size, 0, none⟩) 0 0) 0 [] := by
            have := World.ownsRow_made (base := wr.heap.size) (e := 3) (size := 1) wr #[] 0 (Nat.le_refl _) (by unfold maxLen; omega) rfl
            simpa using this
          have mc : ((wr.alloc (.cells #[.int .i64 q] 3)).alloc (.cells #[] 3)).ownsRow wr.heap.size 3 1 (.slice (some ⟨wr.heap.size + 1, 0, none⟩) 0 0) 0 [] := by
            have := World.ownsRow_made (base := wr.heap.size) (e := 3) (size := 1) (wr.alloc (.cells #[.int .i64 q] 3)) #[] 0 (by simp) (by unfold maxLen; omega) rfl
            simpa using this
          have Ma := Lib.hid ma
          have Mb := Lib.hid (ma.alloc (.cells #[.int .i64 q] 3))
          have Mc := Lib.hid mc
          have j0 : (0 : Int) ≤ (k : Int) := by omega
          have j1 : (k : Int) ≤ (cap : Int) := by omega
          have j2 : (k : Int) ≤ (xs.length : Int) := by omega
          clear hnd ma mc
          go_wp2_with fail
          go_region_held_law (fun _ => True) (trivial) (first | ((refine step_append_any (by rfl) (.tmp 51) (.tmp 54) 23 (by rfl) wr.heap.size 3 i0 (.int .i64 0) 1 8 Try.underlying23 hi hz0 hz1 hz2 (by rfl) (by decide) v2 (0 + k + 1) ([] ++ (xs.take k).map (Value.int .i64) ++ [.int .i64 q]) (by rfl) (by exact hO3.out) ⟨g, O, none⟩ (xs.length - k) (cap - k) ((xs.drop k).map (Value.int .i64)) (by rfl) (by exact (hND.out _ (fun i hi => (hb2.cell (p := ⟨g, i, none⟩) hgw2).trans (HCL.out i hi)))) (by unfold maxLen; omega) (by omega) (by first | omega | (simp; omega) | simp) ?_; intro v3 w5 hown3 hgrow3 hnil3; have hO5 := Lib.hid (own_insert hk hown3); have hb3 := hb2.grown hgrow3 hz4 (fun q hq => (hO3.out.lt q hq).1); have hNN := Lib.hid (show v3 ≠ .slice none 0 0 from fun e => absurd (hnil3.1 e).1 (v2_ne hO3.out)); clear hown3 hnil3)) | ((have _ := hQc; refine step_append_any (by rfl) (.tmp 48) (.tmp 50) 23 (by rfl) wr.heap.size 3 i0 (.int .i64 0) 1 8 Try.underlying23 hi hz0 hz1 hz2 (by rfl) (by decide) v1 (0 + k) ([] ++ (xs.take k).map (Value.int .i64)) (by rfl) (by exact hO1.out) ⟨wr.heap.size + 1, 0, none⟩ 1 1 [.int .i64 q] (by rfl) (by exact news_one (one_at hQc)) (by unfold maxLen; omega) (by omega) (by first | omega | (simp; omega) | simp) ?_; intro v2 w4 hown2 hgrow2 hnil2; have g2 : (w3).grownBy w4 v1.ownBlock := ⟨hgrow2.os, hgrow2.tape, hgrow2.output, hgrow2.size, hgrow2.block⟩; have hO3 := Lib.hid hown2; have hb2 := hb1.grown g2 (by first | exact hz3 | (simp; omega)) (fun q hq => (hO1.out.lt q hq).1); have hz4 := hb2.size; clear hown2 hnil2)) | ((have _ := hQd; refine step_append_any (by rfl) (.tmp 48) (.tmp 50) 23 (by rfl) wr.heap.size 3 i0 (.int .i64 0) 1 8 Try.underlying23 hi hz0 hz1 hz2 (by rfl) (by decide) v1 (0 + k) ([] ++ (xs.take k).map (Value.int .i64)) (by rfl) (by exact hO1.out) ⟨wr.heap.size, 0, none⟩ 1 1 [.int .i64 q] (by rfl) (by exact news_one (one_at hQd)) (by unfold maxLen; omega) (by omega) (by first | omega | (simp; omega) | simp) ?_; intro v2 w4 hown2 hgrow2 hnil2; have g2 : (w3).grownBy w4 v1.ownBlock := ⟨hgrow2.os, hgrow2.tape, hgrow2.output, hgrow2.size, hgrow2.block⟩; have hO3 := Lib.hid hown2; have hb2 := hb1.grown g2 (by first | exact hz3 | (simp; omega)) (fun q hq => (hO1.out.lt q hq).1); have hz4 := hb2.size; clear hown2 hnil2)) | ((refine step_append_any (by rfl) (.tmp 48) (.tmp 50) 23 (by rfl) wr.heap.size 3 i0 (.int .i64 0) 1 8 Try.underlying23 hi hz0 hz1 hz2 (by rfl) (by decide) v1 (0 + k) ([] ++ (xs.take k).map (Value.int .i64)) (by rfl) (by exact hO1.out.alloc (.cells #[.int .i64 q] 3)) ⟨w3.heap.size, 0, none⟩ 1 1 [.int .i64 q] (by rfl) (by exact news_one (cell_one_newN' _ _ _ _ rfl)) (by unfold maxLen; omega) (by omega) (by first | omega | (simp; omega) | simp) ?_; intro v2 w4 hown2 hgrow2 hnil2; have g2 : (w3.alloc (.cells #[.int .i64 q] 3)).grownBy w4 v1.ownBlock := ⟨hgrow2.os, hgrow2.tape, hgrow2.output, hgrow2.size, hgrow2.block⟩; have hO3 := Lib.hid hown2; have hb2 := (hb1.alloc hz3 (.cells #[.int .i64 q] 3)).grown g2 (by first | exact hz3 | (simp; omega)) (fun q hq => (hO1.out.lt q hq).1); have hz4 := hb2.size; clear hown2 hnil2)) | ((refine step_append_any (by rfl) (.tmp 44) (.tmp 47) 23 (by rfl) wr.heap.size 3 i0 (.int .i64 0) 1 8 Try.underlying23 hi hz0 hz1 hz2 (by rfl) (by decide) (.slice (some ⟨wr.heap.size, 0, none⟩) 0 0) 0 [] (by rfl) (by exact Ma.out) ⟨g, 0, none⟩ k cap ((xs.take k).map (Value.int .i64)) (by rfl) (by exact ints_news (fun i hi => (Ba.cell (p := ⟨g, i, none⟩) hgw2).trans (HCL.out i hi)) hk) (by unfold maxLen; omega) (by omega) (by first | omega | (simp; omega) | simp) ?_; intro v1 w3 hown1 hgrow1 hnil1; have g1 : (wr.alloc (.cells #[] 3)).grownBy w3 (some (wr.heap.size)) := ⟨hgrow1.os, hgrow1.tape, hgrow1.output, hgrow1.size, hgrow1.block⟩; have hO1 := Lib.hid hown1; have hb1 := Ba.grown g1 (by first | (simp; done) | (simp; omega)) (fun q hq => by cases hq; omega); have hz3 := hb1.size; have tokA := True.intro; clear hown1 hnil1)) | ((refine step_append_any (by rfl) (.tmp 44) (.tmp 47) 23 (by rfl) wr.heap.size 3 i0 (.int .i64 0) 1 8 Try.underlying23 hi hz0 hz1 hz2 (by rfl) (by decide) (.slice (some ⟨wr.heap.size, 0, none⟩) 0 0) 0 [] (by rfl) (by exact Mb.out) ⟨g, 0, none⟩ k cap ((xs.take k).map (Value.int .i64)) (by rfl) (by exact ints_news (fun i hi => (Bb.cell (p := ⟨g, i, none⟩) hgw2).trans (HCL.out i hi)) hk) (by unfold maxLen; omega) (by omega) (by first | omega | (simp; omega) | simp) ?_; intro v1 w3 hown1 hgrow1 hnil1; have g1 : ((wr.alloc (.cells #[] 3)).alloc (.cells #[.int .i64 q] 3)).grownBy w3 (some (wr.heap.size)) := ⟨hgrow1.os, hgrow1.tape, hgrow1.output, hgrow1.size, hgrow1.block⟩; have hO1 := Lib.hid hown1; have hb1 := Bb.grown g1 (by first | (simp; done) | (simp; omega)) (fun q hq => by cases hq; omega); have hz3 := hb1.size; have hQc : w3.cell? ⟨wr.heap.size + 1, 0, none⟩ = some (.int .i64 q) := (one_kept g1 (by simp) (by omega)).trans (q_b wr _ _ _); clear hown1 hnil1)) | ((refine step_append_any (by rfl) (.tmp 44) (.tmp 47) 23 (by rfl) wr.heap.size 3 i0 (.int .i64 0) 1 8 Try.underlying23 hi hz0 hz1 hz2 (by rfl) (by decide) (.slice (some ⟨wr.heap.size + 1, 0, none⟩) 0 0) 0 [] (by rfl) (by exact Mc.out) ⟨g, 0, none⟩ k cap ((xs.take k).map (Value.int .i64)) (by rfl) (by exact ints_news (fun i hi => (Bc.cell (p := ⟨g, i, none⟩) hgw2).trans (HCL.out i hi)) hk) (by unfold maxLen; omega) (by omega) (by first | omega | (simp; omega) | simp) ?_; intro v1 w3 hown1 hgrow1 hnil1; have g1 : ((wr.alloc (.cells #[.int .i64 q] 3)).alloc (.cells #[] 3)).grownBy w3 (some (wr.heap.size + 1)) := ⟨hgrow1.os, hgrow1.tape, hgrow1.output, hgrow1.size, hgrow1.block⟩; have hO1 := Lib.hid hown1; have hb1 := Bc.grown g1 (by first | (simp; done) | (simp; omega)) (fun q hq => by cases hq; omega); have hz3 := hb1.size; have hQd : w3.cell? ⟨wr.heap.size, 0, none⟩ = some (.int .i64 q) := (one_kept g1 (by simp; omega) (by omega)).trans (q_c wr _ _ _); clear hown1 hnil1)))
          all_goals
            clear j0 j1 j2
            have hlen : (xs.take k ++ q :: xs.drop k).length = xs.length + 1 := by simp; omega
            have HLEN := Lib.hid hlen
            clear hlen
            go_wp2
            go_roundg (n - (xs.length + 1))
            case rel => exact ⟨xs.take k ++ q :: xs.drop k, pp + 1, Lib.hid (HAsc.out.insert (by rw [okP_def]; omega) HQN.out hk HA.out (fun hk' => by have := hstop.out hk'; omega)), by rw [HLEN.out], by rw [HLEN.out]; omega, by rw [HLEN.out]; go_num, Lib.hid ⟨ownsRow_mono hO5.out (by omega), hNN.out⟩, hr2.below hb3 (Nat.le_refl _), by rw [HLEN.out]; omega, Lib.hid (grow_trans HG2.out (grow_below hb3 (Nat.le_refl _)))⟩
            case measure => omega
    · have hx : xs.length = n := by omega
      have HX := Lib.hid hx
      clear hx
      go_wp2
      go_ret
      exact ⟨_, xs, pp, rfl, HO.out, HAsc.out, by have := HX.out; have := HN.out; omega, by omega, by omega, hr, HG.out⟩

theorem RdAt.store {w : World} {S p g o : Nat} {u : Value} (h : RdAt w S p) (hg : S < g) : RdAt (w.setCell ⟨g, o, none⟩ u) S p := by
  have hne : ∀ b o' : Nat, b ≠ g → (w.setCell ⟨g, o, none⟩ u).cell? ⟨b, o', none⟩ = w.cell? ⟨b, o', none⟩ := fun b o' hb => World.cell?_setCell_other _ _ _ _ (fun e => by have e2 := congrArg Addr.block e; simp at e2; omega)
  obtain ⟨pb, n, cap, h1, h2, h3, h4, h5, h6, h7, h8⟩ := h
  refine ⟨pb, n, cap, (hne S 0 (by omega)).trans h1, (hne S 1 (by omega)).trans h2, fun j => (World.frozen?_setCell _ _ _ _).trans (h3 j), h4, h5, h6, by simpa [World.setCell] using h7, ?_⟩
  rcases h8 with h8 | ⟨b, o', rfl, hlt, hc⟩
  · exact .inl h8
  · refine .inr ⟨b, o', rfl, hlt, fun i hi => ?_⟩
    obtain ⟨x, hx, hc'⟩ := hc i hi
    exact ⟨x, hx, (hne b (o' + i) (by omega)).trans hc'⟩

theorem grow_store {w w' : World} {S g o : Nat} {u : Value} (h : w.grownBy w' (some S)) (hg : w.heap.size ≤ g) : w.grownBy (w'.setCell ⟨g, o, none⟩ u) (some S) :=
  ⟨h.os, h.tape, h.output, by simpa [World.setCell] using h.size, fun k hk hn => (Below.heap_setCell w' ⟨g, o, none⟩ u k (by show k ≠ g; omega)).trans (h.block k hk hn)⟩

theorem grow_drew {w w' : World} {R : Option Nat} (h : w.drew.grownBy w' R) : w.grownBy w' R := ⟨h.os, h.tape, h.output, h.size, h.block⟩
def NodesPost (S : Nat) (w : World) (e : Ending) (w' : World) : Prop := ∃ (u : Value) (xs : List Int), e = .returned u ∧ IntsAt w' u xs ∧ xs.length ≤ 20 ∧ Below S w w'
set_option maxHeartbeats 2000000 in
theorem l91Nodes_any (S p : Nat) (w : World) (h : RdAt w S p) (hp : p ≤ 50000) :
    Calls Try.prog 38 #[.pointer (some ⟨S, 0, none⟩)] w (NodesPost S w) := by
  have hSl := h.lt
  obtain ⟨i0, hi, hz0, hz1, hz2⟩ := info_parts Try.infoInt
  go_enter Try.func38, Try.ntmps38
  go_wp2_with fail
  refine (l91Good_any S p 1 _ h (by omega) (by omega) (by omega)).mono ?_
  rintro e w1 ⟨u1, xs, p1, rfl, hI1, hA, hl1, hl10, hp1, hr1, hg1⟩
  have hz1w := hg1.size
  go_wp2_with fail
  refine (pick_any S p1 20 _ hr1 (by omega) (by omega) (by omega)).mono ?_
  rintro e w2 ⟨c, hc, rfl, hr2, hg2⟩
  have hI2 := hI1.grow hg2
  obtain ⟨g, cap, rfl, gc1, gc2, gS, gl, gcell⟩ := hI2.form
  unfold maxLen at gc2
  have HI2 := Lib.hid hI2
  have hg12 := grow_trans hg1 hg2
  have hb2 : Below S w w2 := below_grow hg12 (Nat.le_refl _) (by omega)
  have hz2w := hg12.size
  clear hI1 hI2 hA
  rcases (show c = 0 ∨ c = 1 ∨ c = 2 ∨ 3 ≤ c by omega) with rfl | rfl | rfl | hc3
  · clear gcell
    go_wp2_with (first | (have _ := hr3; go_at_call 24; refine (l91Point_any S (p1 + 1 + 1) _ hr3 (by omega)).mono ?_; rintro e w4 ⟨x4, p4, hx41, hx42, hp4, rfl, hr4, hg4⟩; have hI4 := Lib.hid ((HI2.out.grow hg3).grow hg4); have hb4 := hb2.trans (below_grow (grow_trans hg3 hg4) (Nat.le_refl _) (by omega)); obtain ⟨g9, c9, e9, -, -, -, gl4, gc4⟩ := hI4.out.form; cases e9; have gk := gc4 k (by omega); have gfr : ∀ q, w4.frozen? ⟨g, q, none⟩ = false := (by rcases hI4.out.1.2 with ⟨h0, -⟩ | ⟨g', cap', cur, e1, -, hgg, -⟩; cases h0; cases e1; intro q; simp [World.frozen?, hgg])) | (go_at_call 39; refine (pick_any S (p1 + 1) (xs.length : Int) _ hr2 (by omega) (by omega) (by omega)).mono ?_; rintro e w3 ⟨k, hk, rfl, hr3, hg3⟩; have kk0 : (0 : Int) ≤ (k : Int) := (by omega)))
    go_ret
    have hfin := intsAt_own (xs := xs.set k x4) (by rw [List.length_set, List.map_set]; exact ownsRow_set hI4.out.1 k (.int .i64 x4))
    exact ⟨_, xs.set k x4, rfl, hfin, by rw [List.length_set]; omega, hb4.setCell (p := ⟨g, k, none⟩) (by show S ≤ g; omega) _⟩
  · clear gcell
    go_wp2_with (at_builtin; (refine wpList_append_src rfl _ _ 23 rfl (S + 1) 3 i0 (.int .i64 0) 1 8 Try.underlying23 hi hz0 hz1 hz2 rfl (by decide) _ _ _ rfl HI2.out.1 _ _ _ rfl HI2.out.at.src (by unfold maxLen; omega) (by omega) (by omega) ?_); intro v5 w5 hown5 hgrow5 _)
    go_ret
    refine ⟨_, xs ++ xs, rfl, intsAt_own (xs := xs ++ xs) (by rw [List.length_append, List.map_append]; exact hown5), by rw [List.length_append]; omega, hb2.grown hgrow5 (by omega) (fun q hq => by have := (HI2.out.1.lt q hq).1; omega)⟩
  · clear gcell
    go_wp2
    go_ret
    exact ⟨_, [], rfl, ⟨some ⟨g, 0, none⟩, cap, rfl, Nat.zero_le _, by unfold maxLen; omega, .inl ⟨rfl, fun h => by cases h⟩⟩, by simp, hb2⟩
  · have hn0 : ((c : Int) == 0) = false := beq_eq_false_iff_ne.2 (by omega)
    have hn1 : ((c : Int) == 1) = false := beq_eq_false_iff_ne.2 (by omega)
    have hn2 : ((c : Int) == 2) = false := beq_eq_false_iff_ne.2 (by omega)
    clear gcell
    go_wp2
    go_ret
    exact ⟨_, xs, rfl, HI2.out.at, by omega, hb2⟩

end Go.Proofs.Ytagpkemlndkcjaa
