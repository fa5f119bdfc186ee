/-
  Contracts: drawn sets of replicas; everyone.
-/
import Derived.Test.YtkefnmmpipeppaaDra
import Derived.Test.YtkefnmmpipeppaaSb
namespace Go.Proofs.Ytkefnmmpipeppaa
open Go.RowKit

theorem Try.infoInt : (Try.prog.info? 3).map (fun i => (i.zero, i.size, i.bytes)) = some (some (.int .i64 0), 1, 8) := by kernel_rfl
/-- A row of integers of the call's own, never nil. -/
def IntsOwn (w : World) (B : Nat) (v : Value) (xs : List Int) : Prop := w.ownsRow B 3 1 v xs.length (xs.map (Value.int .i64)) ∧ v ≠ .slice none 0 0
theorem IntsOwn.at {w : World} {B : Nat} {v : Value} {xs : List Int} (h : IntsOwn w B v xs) : IntsAt w v xs := intsAt_own h.1
theorem IntsOwn.below {w w' : World} {B C : Nat} {v : Value} {xs : List Int} (h : IntsOwn w B v xs) (hb : Below C w w') (hC : w.heap.size ≤ C) : IntsOwn w' B v xs := ⟨ownsRow_below h.1 hb hC, h.2⟩
theorem IntsOwn.mono {w : World} {B B' : Nat} {v : Value} {xs : List Int} (h : IntsOwn w B v xs) (hB : B' ≤ B) : IntsOwn w B' v xs := ⟨ownsRow_mono h.1 hB, h.2⟩
theorem IntsOwn.grow {w w' : World} {S B : Nat} {v : Value} {xs : List Int} (h : IntsOwn w B v xs) (hg : w.grownBy w' (some S)) (hB : S < B) : IntsOwn w' B v xs :=
  ⟨ownsRow_keeps h.1 (B' := B) ⟨hg.size, fun q hq hl => hg.block q hl (fun e => by cases e; omega)⟩ (Nat.le_refl _), h.2⟩
theorem IntsOwn.form {w : World} {B : Nat} {v : Value} {xs : List Int} (h : IntsOwn w B v xs) : ∃ g cap, v = .slice (some ⟨g, 0, none⟩) xs.length cap ∧ xs.length ≤ cap ∧ cap ≤ maxLen ∧ B ≤ g ∧ g < w.heap.size := own_form h.1 h.2
theorem IntsOwn.snoc {w : World} {B : Nat} {v v' : Value} {xs : List Int} {x : Int} (h : w.ownsRow B 3 1 v' (xs.length + 1) (xs.map (Value.int .i64) ++ [x].map (Value.int .i64))) (hn : v' = .slice none 0 0 ↔ v = .slice none 0 0 ∧ 1 = 0) : IntsOwn w B v' (xs ++ [x]) := by
  refine ⟨?_, fun e => by have := hn.1 e; omega⟩
  rw [List.map_append, List.length_append]
  exact h
theorem IntsOwn.made (w : World) (B : Nat) (hB : B ≤ w.heap.size) : IntsOwn (w.alloc (.cells #[] 3)) B (.slice (some ⟨w.heap.size, 0, none⟩) 0 0) [] :=
  ⟨ownsRow_mono (World.ownsRow_made (base := w.heap.size) (e := 3) (size := 1) w #[] 0 (Nat.le_refl _) (by unfold maxLen; omega) rfl) hB, by simp⟩
theorem src_one (w : World) (x : Int) (t : TypeId) : SrcIs (w.alloc (.cells #[.int .i64 x] t)) 1 (.slice (some ⟨w.heap.size, 0, none⟩) 1 1) 1 ([x].map (Value.int .i64)) :=
  (intsAt_new w t [x] #[.int .i64 x] rfl (by simp)).src
theorem grow_then {w a b : World} {S g : Nat} (h : w.grownBy a (some S)) (h' : a.grownBy b (some g)) (hg : w.heap.size ≤ g) : w.grownBy b (some S) :=
  ⟨h'.os.trans h.os, h'.tape.trans h.tape, h'.output.trans h.output, Nat.le_trans h.size h'.size, fun k hk hn => (h'.block k (Nat.lt_of_lt_of_le hk h.size) (fun e => by cases e; omega)).trans (h.block k hk hn)⟩
theorem below_then {w a b : World} {B g : Nat} (h : Below B w a) (h' : a.grownBy b (some g)) (hg : B ≤ g) (hB : B ≤ w.heap.size) : Below B w b :=
  h.trans (below_grow h' hg (Nat.le_trans hB h.size))
theorem RdAt.grown {w w' : World} {S p g : Nat} (h : RdAt w S p) (hg : w.grownBy w' (some g)) (hS : S < g) : RdAt w' S p := by
  obtain ⟨pb, n, cap, h1, h2, h3, h4, h5, h6, h7, h8⟩ := h
  have hbl : ∀ k, k ≤ S → w'.heap[k]? = w.heap[k]? := fun k hk => hg.block k (by omega) (fun e => by cases e; omega)
  have hc : ∀ k j, k ≤ S → w'.cell? ⟨k, j, none⟩ = w.cell? ⟨k, j, none⟩ := fun k j hk => by simp [World.cell?, hbl k hk]
  refine ⟨pb, n, cap, (hc S 0 (Nat.le_refl _)).trans h1, (hc S 1 (Nat.le_refl _)).trans h2, fun j => ?_, h4, h5, h6, Nat.lt_of_lt_of_le h7 hg.size, ?_⟩
  · have := h3 j
    simp [World.frozen?, hbl S (Nat.le_refl _)] at this ⊢
    exact this
  · rcases h8 with h8 | ⟨b, o, rfl, hlt, hx⟩
    · exact .inl h8
    · refine .inr ⟨b, o, rfl, hlt, fun i hi => ?_⟩
      obtain ⟨x, hx1, hx2⟩ := hx i hi
      exact ⟨x, hx1, (hc b _ (by omega)).trans hx2⟩
theorem Keeps.mono {B C : Nat} {w w' : World} (h : Keeps B w w') (hB : B ≤ C) : Keeps C w w' := ⟨h.1, fun q hq hl => h.2 q (Nat.le_trans hB hq) hl⟩
theorem Keeps.trans {B : Nat} {a b c : World} (h : Keeps B a b) (h' : Keeps B b c) : Keeps B a c := ⟨Nat.le_trans h.1 h'.1, fun q hq hl => (h'.2 q hq (Nat.lt_of_lt_of_le hl h.1)).trans (h.2 q hq hl)⟩
/-- What is read for as long as all above block S stays. -/
def LastI (S : Nat) (w : World) (v : Value) (xs : List Int) : Prop := ∀ w', Keeps (S + 1) w w' → IntsAt w' v xs
theorem LastI.at {S : Nat} {w : World} {v : Value} {xs : List Int} (h : LastI S w v xs) : IntsAt w v xs := h w (.refl _ _)
theorem LastI.grow {S : Nat} {w w' : World} {v : Value} {xs : List Int} (h : LastI S w v xs) (hg : w.grownBy w' (some S)) : LastI S w' v xs := fun w'' hg' => h w'' ((keeps_grow hg).trans hg')
theorem lastI_own {S B : Nat} {w : World} {v : Value} {xs : List Int} (h : IntsOwn w B v xs) (hB : S < B) : LastI S w v xs := fun _ hg => intsAt_own (ownsRow_keeps h.1 (B' := B) (hg.mono hB) (Nat.le_refl _))

set_option maxHeartbeats 1000000 in
theorem everyone_any (n : Nat) (w : World) (hn : n ≤ 1000) :
    Calls Try.prog 26 #[.int .i64 n] w fun e w' => ∃ z, e = .returned z ∧ IntsOwn w' w.heap.size z ((List.range n).map Int.ofNat) ∧ Below w.heap.size w w' := by
  obtain ⟨i0, hi, hz0, hz1, hz2⟩ := info_parts Try.infoInt
  have HO0 := Lib.hid (IntsOwn.made w w.heap.size (Nat.le_refl _))
  have HB0 := Lib.hid ((Below.refl w.heap.size w).alloc (Nat.le_refl _) (.cells #[] 3))
  go_enter Try.func26, Try.ntmps26
  go_wp2
  go_loopg [3, 4] n (fun m s3 s4 wr => ∃ xs : List Int, xs.length ≤ n ∧ m = n - xs.length ∧ s4 = .int .i64 xs.length ∧ Hid (xs = (List.range xs.length).map Int.ofNat) ∧ Hid (IntsOwn wr w.heap.size s3 xs) ∧ Hid (Below w.heap.size w wr))
  case atStart => exact ⟨[], Nat.zero_le _, rfl, rfl, Lib.hid rfl, HO0, HB0⟩
  case round =>
    obtain ⟨xs, hk, rfl, rfl, HE, HO, HB⟩ := hrel
    obtain ⟨g, cap, rfl, gc1, gc2, gS, gl⟩ := HO.out.form
    unfold maxLen at gc2
    by_cases hlt : xs.length < n
    · have hlt' : (xs.length : Int) < (n : Int) := by omega
      go_wp2_with (at_builtin; refine wpList_append_src rfl (.tmp 11) (.tmp 13) 24 rfl w.heap.size 3 i0 (.int .i64 0) 1 8 Try.underlying24 hi hz0 hz1 hz2 rfl (by decide) _ _ _ rfl ((HO.out.below ((Below.refl wr.heap.size wr).alloc (Nat.le_refl _) _) (Nat.le_refl _)).1) _ _ _ rfl (src_one wr _ _) (by unfold maxLen; omega) (by omega) (by simp; omega) ?_; intro v7 w7 hown7 hgrow7 hnil7)
      go_roundg (n - (xs.length + 1))
      case rel =>
        refine ⟨xs ++ [(xs.length : Int)], by simp; omega, by simp, by simp, Lib.hid ?_, Lib.hid (IntsOwn.snoc hown7 hnil7), Lib.hid (below_then (HB.out.alloc HB.out.size _) hgrow7 gS (Nat.le_refl _))⟩
        rw [List.length_append, List.length_singleton, List.range_succ, List.map_append, ← HE.out]
        rfl
      case measure => omega
    · obtain rfl : n = xs.length := by omega
      go_wp2
      go_ret
      exact ⟨_, rfl, by rw [← HE.out]; exact HO.out, HB.out⟩

def SomePost (S p n : Nat) (w : World) (e : Ending) (w' : World) : Prop := ∃ (u : Value) (ks : List Int) (p' : Nat), e = .returned u ∧ LastI S w' u ks ∧ ks.length ≤ n + 1 ∧ p' ≤ p + n + 2 ∧ RdAt w' S p' ∧ w.grownBy w' (some S)

set_option maxHeartbeats 1000000 in
theorem l91Some_any (S p n : Nat) (w : World) (h : RdAt w S p) (hp : p ≤ 10000) (hn : n ≤ 1000) :
    Calls Try.prog 34 #[.pointer (some ⟨S, 0, none⟩), .int .i64 n] w (SomePost S p n w) := by
  have hS := h.lt
  obtain ⟨i0, hi, hz0, hz1, hz2⟩ := info_parts Try.infoInt
  have hb0 := (Below.refl w.heap.size w).alloc (Nat.le_refl _) (.cells #[] 3)
  have HO0 := Lib.hid (IntsOwn.made w w.heap.size (Nat.le_refl _))
  have HG0 := Lib.hid (grow_below (S := S) hb0 (Nat.le_refl _))
  have hr0 := h.below hb0 (Nat.le_refl _)
  clear hb0
  go_enter Try.func34, Try.ntmps34
  go_wp2
  go_loopg [5, 6] n (fun m s5 s6 wr => ∃ (i : Nat) (xs : List Int) (pp : Nat), i ≤ n ∧ m = n - i ∧ s6 = .int .i64 i ∧ xs.length ≤ i ∧ Hid (IntsOwn wr w.heap.size s5 xs) ∧ RdAt wr S pp ∧ pp ≤ p + i ∧ Hid (w.grownBy wr (some S)))
  case atStart => exact ⟨0, [], p, Nat.zero_le _, rfl, rfl, Nat.zero_le _, HO0, hr0, Nat.le_refl _, HG0⟩
  case round =>
    obtain ⟨i, xs, pp, hk, rfl, rfl, hxi, HO, hr, hpp, HG⟩ := hrel
    obtain ⟨g, cap, rfl, gc1, gc2, gS, gl⟩ := HO.out.form
    unfold maxLen at gc2
    by_cases hlt : i < n
    · have hlt' : (i : Int) < (n : Int) := by omega
      go_wp2_with fail
      refine (pick_any S pp 3 _ hr (by omega) (by omega) (by omega)).mono ?_
      rintro e w3 ⟨c, hc, rfl, hr3, hg3⟩
      have HO3 := Lib.hid (HO.out.grow hg3 hS)
      have HG3 := Lib.hid (grow_trans HG.out hg3)
      have hs3 := hg3.size
      clear hg3
      rcases Nat.eq_zero_or_pos c with rfl | hpos
      · go_wp2
        go_roundg (n - (i + 1))
        case rel => exact ⟨i + 1, xs, pp + 1, by omega, rfl, by go_num, by omega, HO3, hr3, by omega, HG3⟩
        case measure => omega
      · have hpos' : (0 : Int) < (c : Int) := by omega
        go_wp2_with (at_builtin; refine wpList_append_src rfl (.tmp 16) (.tmp 18) 24 rfl w.heap.size 3 i0 (.int .i64 0) 1 8 Try.underlying24 hi hz0 hz1 hz2 rfl (by decide) _ _ _ rfl ((HO3.out.below ((Below.refl w3.heap.size w3).alloc (Nat.le_refl _) _) (Nat.le_refl _)).1) _ _ _ rfl (src_one w3 _ _) (by unfold maxLen; omega) (by omega) (by simp; omega) ?_; intro v7 w7 hown7 hgrow7 hnil7)
        go_roundg (n - (i + 1))
        case rel => exact ⟨i + 1, xs ++ [(i : Int)], pp + 1, by omega, rfl, by go_num, by simp; omega, Lib.hid (IntsOwn.snoc hown7 hnil7), (hr3.below ((Below.refl w3.heap.size w3).alloc (Nat.le_refl _) _) (Nat.le_refl _)).grown (g := g) hgrow7 (by omega), by omega, Lib.hid (grow_then (grow_trans HG3.out (grow_below ((Below.refl w3.heap.size w3).alloc (Nat.le_refl _) _) (Nat.le_refl _))) hgrow7 gS)⟩
        case measure => omega
    · obtain rfl : i = n := by omega
      go_wp2_with fail
      refine (pick_any S pp 20 _ hr (by omega) (by omega) (by omega)).mono ?_
      rintro e w3 ⟨c, hc, rfl, hr3, hg3⟩
      have HO3 := Lib.hid (HO.out.grow hg3 hS)
      have HG3 := Lib.hid (grow_trans HG.out hg3)
      have hs3 := hg3.size
      clear hg3
      rcases Nat.eq_zero_or_pos c with rfl | hpos
      · go_wp2_with (first | (go_at_call 35; refine (pick_any S (pp + 1) 7 _ hr3 (by omega) (by omega) (by omega)).mono ?_; rintro e w4 ⟨c4, hc4, rfl, hr4, hg4⟩; have HO4 := Lib.hid (HO3.out.grow hg4 hS); have HG4 := Lib.hid (grow_trans HG3.out hg4); have hs4 := hg4.size) | (at_builtin; refine wpList_append_src rfl (.tmp 23) (.tmp 27) 24 rfl w.heap.size 3 i0 (.int .i64 0) 1 8 Try.underlying24 hi hz0 hz1 hz2 rfl (by decide) _ _ _ rfl ((HO4.out.below ((Below.refl w4.heap.size w4).alloc (Nat.le_refl _) _) (Nat.le_refl _)).1) _ _ _ rfl (src_one w4 _ _) (by unfold maxLen; omega) (by omega) (by simp; omega) ?_; intro v7 w7 hown7 hgrow7 hnil7))
        go_ret
        exact ⟨_, xs ++ [(c4 : Int) - 1], pp + 1 + 1, rfl, lastI_own (IntsOwn.snoc hown7 hnil7) hS, by simp; omega, by omega, (hr4.below ((Below.refl w4.heap.size w4).alloc (Nat.le_refl _) _) (Nat.le_refl _)).grown (g := g) hgrow7 (by omega), grow_then (grow_trans HG4.out (grow_below ((Below.refl w4.heap.size w4).alloc (Nat.le_refl _) _) (Nat.le_refl _))) hgrow7 gS⟩
      · have hne : ((c : Int) == 0) = false := beq_eq_false_iff_ne.2 (by omega)
        go_wp2
        go_ret
        exact ⟨_, xs, pp + 1, rfl, lastI_own HO3.out hS, by omega, by omega, hr3, HG3.out⟩
end Go.Proofs.Ytkefnmmpipeppaa
