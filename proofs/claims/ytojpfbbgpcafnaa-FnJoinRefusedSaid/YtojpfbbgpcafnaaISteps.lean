/-
  Contracts: the steps of the program, on a ring that is held behind a pointer.
-/
import Derived.Test.YtojpfbbgpcafnaaOwn2
import Derived.Test.YtojpfbbgpcafnaaISafe
import Derived.Test.YtojpfbbgpcafnaaICopy
import Derived.Test.YtojpfbbgpcafnaaStepU
namespace Go.Proofs.Ytojpfbbgpcafnaa
open Go.RowKit

set_option maxHeartbeats 2000000 in
theorem iDrop_any (S g cap : Nat) (r : List Nd) (id x : Int) (B : Nat) (w : World) (hO : RingOwn w B (.slice (some ⟨g, 0, none⟩) r.length cap) r) (hs : Shape r)
    (hS : w.cell? ⟨S, 0, none⟩ = some (.slice (some ⟨g, 0, none⟩) r.length cap)) (hSg : S ≠ g) (hBw : B ≤ w.heap.size) :
    Calls Try.prog 63 #[.pointer (some ⟨S, 0, none⟩), .int .i64 id, .int .i64 x] w fun e w' => e = .returned (.bool (stepB true r id fun k => dropOk r k)) ∧ Below B w w' ∧
      (stepB true r id (fun k => dropOk r k) = true → ∃ u, w'.cell? ⟨S, 0, none⟩ = some u ∧ RingOwn w' B u (stepR true r id fun k => dropK r k)) := by
  have HO := Lib.hid hO
  have HS := Lib.hid hs
  have hSl : S < w.heap.size := World.block_lt_of_cell? w _ hS
  have _hgS : g ≠ S := Ne.symm hSg
  rcases fnd_cases r id with ⟨hf, -⟩ | ⟨k, hk, hf, -, -⟩
  · rw [stepB_miss hf]
    have HF := Lib.hid hf
    clear hf hO hs
    go_enter Try.func63, Try.ntmps63
    go_wp2_with (go_at_call 53; refine (nodeAt_no _ r id _ HO.out.at HF.out).mono ?_; rintro e w1 ⟨rfl, hb1⟩)
    go_quiet (fail)
    go_wp2
    go_ret
    exact ⟨rfl, below_drewN (hb1.mono hBw) nq, fun h => by cases h⟩
  · rw [stepB_hit rfl hf, stepR_hit rfl hf]
    obtain ⟨bk, ck, hck, hck', hBg, hgl, hbk, c0, c1, c2, d0, d1, cf⟩ := hO.node hk (hs.2 k hk).1
    obtain ⟨x0, x1⟩ := hs.a1b hk
    obtain ⟨s0, hs0⟩ : ∃ x, a0 (r.getD k default) = x := ⟨_, rfl⟩
    obtain ⟨s1, hs1⟩ : ∃ x, a1 (r.getD k default) = x := ⟨_, rfl⟩
    have HD := Lib.hid (show dropOk r k = decide (fnd r s0 < 0) by rw [← hs0]; rfl)
    have HK := Lib.hid (show dropK r k = if dropOk r k then setAfter r k [s1, (s1 + 1) % 64] else r by rw [← hs1]; rfl)
    rw [hs0] at d0
    rw [hs1] at d1 x0 x1
    have HF := Lib.hid hf
    clear hf hO hs hs0 hs1 c0 c1
    have hw1 : IntKind.i64.wrap (s1 + 1) = s1 + 1 := IntWalk.i64_in _ (by omega)
    have HW := Lib.hid hw1
    clear hw1
    rcases fnd_cases r s0 with ⟨hf, -⟩ | ⟨j, hj, hf, -, -⟩
    · have HX := Lib.hid hf
      have HY := Lib.hid (show dropOk r k = true by rw [HD.out, hf]; rfl)
      clear hf
      go_enter Try.func63, Try.ntmps63
      go_wp2_with (go_at_call 53; refine (nodeAt_own r id g cap k _ HO.out.at hk HF.out).mono ?_; rintro e w1 ⟨rfl, hb1⟩)
      have e1 : w1.cell? ⟨S, 0, none⟩ = some (.slice (some ⟨g, 0, none⟩) r.length cap) := (hb1.cell (p := ⟨S, 0, none⟩) hSl).trans hS
      have e2 : w1.cell? ⟨g, k * 3 + 2, none⟩ = some (.slice (some ⟨bk, 0, none⟩) 2 ck) := (hb1.cell (p := ⟨g, k * 3 + 2, none⟩) hgl).trans c2
      have e3 : w1.cell? ⟨bk, 0, none⟩ = some (.int .i64 s0) := (hb1.cell (p := ⟨bk, 0, none⟩) hbk).trans d0
      have e4 : w1.cell? ⟨bk, 1, none⟩ = some (.int .i64 s1) := (hb1.cell (p := ⟨bk, 1, none⟩) hbk).trans d1
      have e5 : ∀ j, w1.frozen? ⟨g, j, none⟩ = false := fun j => (hb1.frozen (p := ⟨g, j, none⟩) hgl).trans (cf j)
      have l1 : S < w1.heap.size := Nat.lt_of_lt_of_le hSl hb1.size
      have l2 : g < w1.heap.size := Nat.lt_of_lt_of_le hgl hb1.size
      have l3 : bk < w1.heap.size := Nat.lt_of_lt_of_le hbk hb1.size
      go_region_held3 (fun w' => w'.cell? ⟨S, 0, none⟩ = some (.slice (some ⟨g, 0, none⟩) r.length cap) ∧ w'.cell? ⟨g, k * 3 + 2, none⟩ = some (.slice (some ⟨bk, 0, none⟩) 2 ck) ∧ w'.cell? ⟨bk, 0, none⟩ = some (.int .i64 s0)) (go_keep)
        (first
          | (go_at_call 53; refine (nodeAt_no _ r s0 _ (by exact (HO.out.below hb1 (Nat.le_refl _)).at) HX.out).mono ?_; rintro e w2 ⟨rfl, hb2⟩; have hcc : ∀ b' o', b' < w1.heap.size → w2.cell? ⟨b', o', none⟩ = w1.cell? ⟨b', o', none⟩ := fun b' o' h => hb2.cell (p := ⟨b', o', none⟩) h))
      have m1 := (hcc S 0 l1).trans e1
      have m2 := (hcc g (k * 3 + 2) l2).trans e2
      have m4 := (hcc bk 1 l3).trans e4
      have m5 : ∀ j, w2.frozen? ⟨g, j, none⟩ = false := fun j => (hb2.frozen (p := ⟨g, j, none⟩) l2).trans (e5 j)
      have n2 : g < w2.heap.size := Nat.lt_of_lt_of_le l2 hb2.size
      have n3 : bk < w2.heap.size := Nat.lt_of_lt_of_le l3 hb2.size
      have n1 : S < w2.heap.size := Nat.lt_of_lt_of_le l1 hb2.size
      have HCC := Lib.hid hcc
      clear hcc e1 e2 e3 e4 e5 c2 d0 d1 cf hS
      have hw1 := HW.out
      go_wp2_with fail
      go_region
      clear hw1
      go_wp2
      go_ret
      have hb2' : Below w1.heap.size w1 w2 := (Below.refl _ w1).drew.trans hb2
      have hBw2 : Below B w w2 := (hb1.mono hBw).trans (hb2'.mono (Nat.le_trans hBw hb1.size))
      have hsl := ((Below.refl w2.heap.size w2).alloc (Nat.le_refl _) (.cells #[.int .i64 s1, .int .i64 ((s1 + 1) % 64)] 3)).drew
      have hO2 := (HO.out.below hb1 (Nat.le_refl _)).below hb2' (Nat.le_refl _)
      have hva : ((w2.alloc (.cells #[.int .i64 s1, .int .i64 ((s1 + 1) % 64)] 3)).drew).ownsRow w2.heap.size 3 1 (.slice (some ⟨w2.heap.size, 0, none⟩) 2 2) [s1, (s1 + 1) % 64].length ([s1, (s1 + 1) % 64].map (Value.int .i64)) :=
        own_new w2 [s1, (s1 + 1) % 64] 3 _ rfl (by simp)
      have hfin := RingOwn.setAfter (k := k) (A := [s1, (s1 + 1) % 64]) hO2 hk (Keeps.of_below hsl (Nat.le_refl _)) (Nat.le_refl _) (Nat.le_trans hBw (Nat.le_trans hb1.size hb2.size)) hva
      have hBf := (hBw2.trans (hsl.mono (Nat.le_trans hBw (Nat.le_trans hb1.size hb2.size)))).setCell (p := ⟨g, k * 3 + 2, none⟩) hBg (.slice (some ⟨w2.heap.size, 0, none⟩) 2 2)
      have hSf : (((w2.alloc (.cells #[.int .i64 s1, .int .i64 ((s1 + 1) % 64)] 3)).drew).setCell ⟨g, k * 3 + 2, none⟩ (.slice (some ⟨w2.heap.size, 0, none⟩) 2 2)).cell? ⟨S, 0, none⟩ = some (.slice (some ⟨g, 0, none⟩) r.length cap) := by
        rw [World.cell?_setCell_other _ _ _ _ (by simp)]
        exact (hsl.cell (p := ⟨S, 0, none⟩) n1).trans m1
      have hw : ((w2.alloc (.cells #[.int .i64 s1, .int .i64 ((s1 + 1) % 64)] 3)).drew).setCell ⟨g, k * 3 + 2, none⟩ (.slice (some ⟨w2.heap.size, 0, none⟩) 2 2) = ((w2.setCell ⟨g, k * 3 + 2, none⟩ (.slice (some ⟨w2.heap.size, 0, none⟩) 2 2)).alloc (.cells #[.int .i64 s1, .int .i64 ((s1 + 1) % 64)] 3)).drew := by
        rw [World.setCell_drew, World.setCell_alloc_past _ _ _ _ n2]
      rw [hw] at hfin hBf hSf
      rw [HY.out, HK.out, HY.out, if_pos rfl]
      exact ⟨rfl, hBf, fun _ => ⟨_, hSf, by rw [setAfter]; simpa using hfin⟩⟩
    · have HX := Lib.hid hf
      have HY := Lib.hid (show dropOk r k = false by rw [HD.out, hf]; simp)
      clear hf
      go_enter Try.func63, Try.ntmps63
      go_wp2_with (go_at_call 53; refine (nodeAt_own r id g cap k _ HO.out.at hk HF.out).mono ?_; rintro e w1 ⟨rfl, hb1⟩)
      have e1 : w1.cell? ⟨S, 0, none⟩ = some (.slice (some ⟨g, 0, none⟩) r.length cap) := (hb1.cell (p := ⟨S, 0, none⟩) hSl).trans hS
      have e2 : w1.cell? ⟨g, k * 3 + 2, none⟩ = some (.slice (some ⟨bk, 0, none⟩) 2 ck) := (hb1.cell (p := ⟨g, k * 3 + 2, none⟩) hgl).trans c2
      have e3 : w1.cell? ⟨bk, 0, none⟩ = some (.int .i64 s0) := (hb1.cell (p := ⟨bk, 0, none⟩) hbk).trans d0
      have l1 : S < w1.heap.size := Nat.lt_of_lt_of_le hSl hb1.size
      have l2 : g < w1.heap.size := Nat.lt_of_lt_of_le hgl hb1.size
      have l3 : bk < w1.heap.size := Nat.lt_of_lt_of_le hbk hb1.size
      go_region_held3 (fun w' => w'.cell? ⟨S, 0, none⟩ = some (.slice (some ⟨g, 0, none⟩) r.length cap) ∧ w'.cell? ⟨g, k * 3 + 2, none⟩ = some (.slice (some ⟨bk, 0, none⟩) 2 ck) ∧ w'.cell? ⟨bk, 0, none⟩ = some (.int .i64 s0)) (go_keep)
        (first
          | (go_at_call 53; refine (nodeAt_own r s0 g cap j _ (by exact (HO.out.below hb1 (Nat.le_refl _)).at) hj HX.out).mono ?_; rintro e w2 ⟨rfl, hb2⟩; have hcc : ∀ b' o', b' < w1.heap.size → w2.cell? ⟨b', o', none⟩ = w1.cell? ⟨b', o', none⟩ := fun b' o' h => hb2.cell (p := ⟨b', o', none⟩) h))
      go_wp2
      go_ret
      have hb2' : Below w1.heap.size w1 w2 := (Below.refl _ w1).drew.trans hb2
      rw [HY.out]
      exact ⟨rfl, (hb1.mono hBw).trans (hb2'.mono (Nat.le_trans hBw hb1.size)), fun h => by cases h⟩

end Go.Proofs.Ytojpfbbgpcafnaa
