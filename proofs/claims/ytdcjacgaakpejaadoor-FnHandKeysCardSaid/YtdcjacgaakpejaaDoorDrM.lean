/-
  Contracts: DrawLeaseHand.
-/
import Derived.Test.YtdcjacgaakpejaaDoorDrL
namespace Go.Proofs.YtdcjacgaakpejaaDoor
open Go.RowKit

def DHPost (w : World) (e : Ending) (w' : World) : Prop := ∃ (u : Value) (xs : List Tr) (fr at' to' un : Int), e = .returned (.tuple #[u, .int .i64 fr, .int .i64 at', .int .i64 to', .int .i64 un]) ∧ TrsAt w' u xs ∧ Below w.heap.size w w'

theorem results_tmp5 {fn : Func} {t u v x y : Tmp} (h : fn.results = #[.tmp t, .tmp u, .tmp v, .tmp x, .tmp y]) (tmps : Array Value) (P : Program) (w : World) :
    (results fn tmps).run P w = .ok (.tuple #[tmps.getD t undef, tmps.getD u undef, tmps.getD v undef, tmps.getD x undef, tmps.getD y undef]) w := by
  simp [results, h]

set_option maxRecDepth 100000 in
set_option maxHeartbeats 8000000 in
theorem drawLeaseHand_any (v : Value) (w : World) (h : CodeAt w v) : Calls Tryd.prog 17 #[v] w (DHPost w) := by
  go_enter Tryd.func17, Tryd.ntmps17
  go_wp2_with fail
  refine (l6Open_any _ _ h).mono ?_
  rintro e w1 ⟨rfl, hr1, hb1⟩
  go_wp2_with fail
  refine (l91Leases_any w.heap.size _ hr1).mono ?_
  rintro e w2 ⟨u, xs, p2, rfl, hu, hl12, hp2, hr2, hg2⟩
  obtain ⟨S, hS⟩ : ∃ S, w.heap.size = S := ⟨_, rfl⟩
  rw [hS] at hr1 hb1 hu hr2 hg2 ⊢
  have HU := Lib.hid hu
  have hb2 : Below S w w2 := hb1.trans (below_grow hg2 (Nat.le_refl _) (by have := hr1.lt; omega))
  obtain ⟨pu, cu, rfl, hc1, hc2⟩ := hu.at.form
  have hS2 : S < w2.heap.size := hr2.lt
  clear hu hr1 hb1 hg2
  go_wp2_with fail
  refine (l91Point_any S p2 _ hr2 (by omega)).mono ?_
  rintro e w3 ⟨at0, p3, ha1, ha2, hp3, rfl, hr3, hg3⟩
  go_wp2_with fail
  refine (pick_any S p3 5 _ hr3 (by omega) (by omega) (by omega)).mono ?_
  rintro e w4 ⟨c4, hc4, rfl, hr4, hg4⟩
  have hg24 := grow_trans hg3 hg4
  clear hg3 hg4 hr2 hr3
  obtain ⟨at1, rfl⟩ : ∃ y, y = at0 := ⟨_, rfl⟩
  have hatp : ∀ (W : World) (P : Nat) (a : Int), P ≤ 1010 → RdAt W S P → w2.grownBy W (some S) → True := fun _ _ _ _ _ _ => trivial
  clear hatp
  by_cases hA : c4 = 0
  · subst hA
    by_cases hl0 : xs = []
    · subst hl0
      obtain ⟨P, hPe⟩ : ∃ P, p3 + 1 = P := ⟨_, rfl⟩
      rw [hPe] at hr4
      have hP : P ≤ 1010 := by omega
      have hr5 := hr4
      have hg25 := hg24
      clear hr4 hg24 hPe
      go_wp2_with fail
      refine (pick_any S P 5 _ hr5 (by omega) (by omega) (by omega)).mono ?_
      rintro e w6 ⟨c6, hc6, rfl, hr6, hg6⟩
      go_wp2_with fail
      refine (pick_any S (P + 1) 4 _ hr6 (by omega) (by omega) (by omega)).mono ?_
      rintro e w7 ⟨c7, hc7, rfl, hr7, hg7⟩
      have hg27 := grow_trans (grow_trans hg25 hg6) hg7
      clear hg25 hg6 hg7 hr5 hr6
      rcases Nat.eq_zero_or_pos c7 with rfl | hp7
      · go_wp2_with fail
        refine (pick_any S (P + 1 + 1) 6 _ hr7 (by omega) (by omega) (by omega)).mono ?_
        rintro e w9 ⟨c9, hc9, rfl, hr9, hg9⟩
        go_wp2_with fail
        refine (pick_any S (P + 1 + 1 + 1) 16 _ hr9 (by omega) (by omega) (by omega)).mono ?_
        rintro e w10 ⟨c10, hc10, rfl, hr10, hg10⟩
        have hgA := grow_trans (grow_trans hg27 hg9) hg10
        rcases Nat.eq_zero_or_pos c10 with rfl | hp10
        · go_wp2_with fail
          refine (l91Point_any S (P + 1 + 1 + 1 + 1) _ hr10 (by omega)).mono ?_
          rintro e w11 ⟨x, p', -, -, hp', rfl, hr11, hg11⟩
          go_wp2_with fail
          refine (l91Time_any S p' _ hr11 (by omega)).mono ?_
          rintro e w12 ⟨y, p'', -, -, -, rfl, -, hg12⟩
          have hgB := grow_trans (grow_trans hgA hg11) hg12
          go_wp2
          ((try simp only [Exit.inBlock, Exit.then]); refine bodyPost_ret (results_tmp5 rfl _ _ _) rfl ?_)
          exact ⟨_, ([] : List Tr), _, _, _, _, rfl, HU.out _ hgB, by rw [hS]; exact hb2.trans (below_grow hgB (Nat.le_refl _) (by omega))⟩
        · have hn10 : ((c10 : Int) == 0) = false := beq_eq_false_iff_ne.2 (by omega)
          go_wp2_with fail
          refine (l91Time_any S (P + 1 + 1 + 1 + 1) _ hr10 (by omega)).mono ?_
          rintro e w12 ⟨y, p'', -, -, -, rfl, -, hg12⟩
          have hgB := grow_trans hgA hg12
          go_wp2
          ((try simp only [Exit.inBlock, Exit.then]); refine bodyPost_ret (results_tmp5 rfl _ _ _) rfl ?_)
          exact ⟨_, ([] : List Tr), _, _, _, _, rfl, HU.out _ hgB, by rw [hS]; exact hb2.trans (below_grow hgB (Nat.le_refl _) (by omega))⟩

      · have hgt : (0 : Int) < (c7 : Int) := by omega
        cases hv : lsValid ([] : List Tr)
        · have HVS := Lib.hid hv
          clear hv
          go_wp2_with (go_at_call 23; refine (sLeasesValid_any _ ([] : List Tr) _ (by exact HU.out _ hg27)).mono ?_; rw [HVS.out]; rintro e w8 ⟨rfl, hb8⟩)
          have hg28 := grow_trans hg27 (grow_below hb8 (Nat.le_refl _))
          have hr8 := hr7.below hb8 (Nat.le_refl _)
          refine (pick_any S (P + 1 + 1) 6 _ hr8 (by omega) (by omega) (by omega)).mono ?_
          rintro e w9 ⟨c9, hc9, rfl, hr9, hg9⟩
          go_wp2_with fail
          refine (pick_any S (P + 1 + 1 + 1) 16 _ hr9 (by omega) (by omega) (by omega)).mono ?_
          rintro e w10 ⟨c10, hc10, rfl, hr10, hg10⟩
          have hgA := grow_trans (grow_trans hg28 hg9) hg10
          rcases Nat.eq_zero_or_pos c10 with rfl | hp10
          · go_wp2_with fail
            refine (l91Point_any S (P + 1 + 1 + 1 + 1) _ hr10 (by omega)).mono ?_
            rintro e w11 ⟨x, p', -, -, hp', rfl, hr11, hg11⟩
            go_wp2_with fail
            refine (l91Time_any S p' _ hr11 (by omega)).mono ?_
            rintro e w12 ⟨y, p'', -, -, -, rfl, -, hg12⟩
            have hgB := grow_trans (grow_trans hgA hg11) hg12
            go_wp2
            ((try simp only [Exit.inBlock, Exit.then]); refine bodyPost_ret (results_tmp5 rfl _ _ _) rfl ?_)
            exact ⟨_, ([] : List Tr), _, _, _, _, rfl, HU.out _ hgB, by rw [hS]; exact hb2.trans (below_grow hgB (Nat.le_refl _) (by omega))⟩
          · have hn10 : ((c10 : Int) == 0) = false := beq_eq_false_iff_ne.2 (by omega)
            go_wp2_with fail
            refine (l91Time_any S (P + 1 + 1 + 1 + 1) _ hr10 (by omega)).mono ?_
            rintro e w12 ⟨y, p'', -, -, -, rfl, -, hg12⟩
            have hgB := grow_trans hgA hg12
            go_wp2
            ((try simp only [Exit.inBlock, Exit.then]); refine bodyPost_ret (results_tmp5 rfl _ _ _) rfl ?_)
            exact ⟨_, ([] : List Tr), _, _, _, _, rfl, HU.out _ hgB, by rw [hS]; exact hb2.trans (below_grow hgB (Nat.le_refl _) (by omega))⟩

        · exact absurd hv (by simp [lsValid, inR])
    · have hlp : 0 < xs.length := by cases xs; exact absurd rfl hl0; simp
      have hlp' : (0 : Int) < (xs.length : Int) := by omega
      go_wp2_with fail
      refine (pick_any S (p3 + 1) (xs.length : Int) _ hr4 (by omega) (by omega) (by omega)).mono ?_
      rintro e w5 ⟨c5, hc5, rfl, hr5, hg5⟩
      have hg25 := grow_trans hg24 hg5
      obtain ⟨b5, o5, e5, -, x0, -, -⟩ := (HU.out w5 hg25).tr (k := c5) (by omega)
      subst e5
      obtain ⟨at1, hat⟩ : ∃ y, (xs.getD c5 default).a = y := ⟨_, rfl⟩
      rw [hat] at x0
      have k0 : (0 : Int) ≤ (c5 : Int) := by omega
      obtain ⟨P, hPe⟩ : ∃ P, p3 + 1 + 1 = P := ⟨_, rfl⟩
      rw [hPe] at hr5
      have hP : P ≤ 1010 := by omega
      clear hr4 hg24 hPe hat hg5
      go_wp2_with fail
      refine (pick_any S P 5 _ hr5 (by omega) (by omega) (by omega)).mono ?_
      rintro e w6 ⟨c6, hc6, rfl, hr6, hg6⟩
      go_wp2_with fail
      refine (pick_any S (P + 1) 4 _ hr6 (by omega) (by omega) (by omega)).mono ?_
      rintro e w7 ⟨c7, hc7, rfl, hr7, hg7⟩
      have hg27 := grow_trans (grow_trans hg25 hg6) hg7
      clear hg25 hg6 hg7 hr5 hr6
      rcases Nat.eq_zero_or_pos c7 with rfl | hp7
      · go_wp2_with fail
        refine (pick_any S (P + 1 + 1) 6 _ hr7 (by omega) (by omega) (by omega)).mono ?_
        rintro e w9 ⟨c9, hc9, rfl, hr9, hg9⟩
        go_wp2_with fail
        refine (pick_any S (P + 1 + 1 + 1) 16 _ hr9 (by omega) (by omega) (by omega)).mono ?_
        rintro e w10 ⟨c10, hc10, rfl, hr10, hg10⟩
        have hgA := grow_trans (grow_trans hg27 hg9) hg10
        rcases Nat.eq_zero_or_pos c10 with rfl | hp10
        · go_wp2_with fail
          refine (l91Point_any S (P + 1 + 1 + 1 + 1) _ hr10 (by omega)).mono ?_
          rintro e w11 ⟨x, p', -, -, hp', rfl, hr11, hg11⟩
          go_wp2_with fail
          refine (l91Time_any S p' _ hr11 (by omega)).mono ?_
          rintro e w12 ⟨y, p'', -, -, -, rfl, -, hg12⟩
          have hgB := grow_trans (grow_trans hgA hg11) hg12
          go_wp2
          ((try simp only [Exit.inBlock, Exit.then]); refine bodyPost_ret (results_tmp5 rfl _ _ _) rfl ?_)
          exact ⟨_, xs, _, _, _, _, rfl, HU.out _ hgB, by rw [hS]; exact hb2.trans (below_grow hgB (Nat.le_refl _) (by omega))⟩
        · have hn10 : ((c10 : Int) == 0) = false := beq_eq_false_iff_ne.2 (by omega)
          go_wp2_with fail
          refine (l91Time_any S (P + 1 + 1 + 1 + 1) _ hr10 (by omega)).mono ?_
          rintro e w12 ⟨y, p'', -, -, -, rfl, -, hg12⟩
          have hgB := grow_trans hgA hg12
          go_wp2
          ((try simp only [Exit.inBlock, Exit.then]); refine bodyPost_ret (results_tmp5 rfl _ _ _) rfl ?_)
          exact ⟨_, xs, _, _, _, _, rfl, HU.out _ hgB, by rw [hS]; exact hb2.trans (below_grow hgB (Nat.le_refl _) (by omega))⟩

      · have hgt : (0 : Int) < (c7 : Int) := by omega
        cases hv : lsValid xs
        · have HVS := Lib.hid hv
          clear hv
          go_wp2_with (go_at_call 23; refine (sLeasesValid_any _ xs _ (by exact HU.out _ hg27)).mono ?_; rw [HVS.out]; rintro e w8 ⟨rfl, hb8⟩)
          have hg28 := grow_trans hg27 (grow_below hb8 (Nat.le_refl _))
          have hr8 := hr7.below hb8 (Nat.le_refl _)
          refine (pick_any S (P + 1 + 1) 6 _ hr8 (by omega) (by omega) (by omega)).mono ?_
          rintro e w9 ⟨c9, hc9, rfl, hr9, hg9⟩
          go_wp2_with fail
          refine (pick_any S (P + 1 + 1 + 1) 16 _ hr9 (by omega) (by omega) (by omega)).mono ?_
          rintro e w10 ⟨c10, hc10, rfl, hr10, hg10⟩
          have hgA := grow_trans (grow_trans hg28 hg9) hg10
          rcases Nat.eq_zero_or_pos c10 with rfl | hp10
          · go_wp2_with fail
            refine (l91Point_any S (P + 1 + 1 + 1 + 1) _ hr10 (by omega)).mono ?_
            rintro e w11 ⟨x, p', -, -, hp', rfl, hr11, hg11⟩
            go_wp2_with fail
            refine (l91Time_any S p' _ hr11 (by omega)).mono ?_
            rintro e w12 ⟨y, p'', -, -, -, rfl, -, hg12⟩
            have hgB := grow_trans (grow_trans hgA hg11) hg12
            go_wp2
            ((try simp only [Exit.inBlock, Exit.then]); refine bodyPost_ret (results_tmp5 rfl _ _ _) rfl ?_)
            exact ⟨_, xs, _, _, _, _, rfl, HU.out _ hgB, by rw [hS]; exact hb2.trans (below_grow hgB (Nat.le_refl _) (by omega))⟩
          · have hn10 : ((c10 : Int) == 0) = false := beq_eq_false_iff_ne.2 (by omega)
            go_wp2_with fail
            refine (l91Time_any S (P + 1 + 1 + 1 + 1) _ hr10 (by omega)).mono ?_
            rintro e w12 ⟨y, p'', -, -, -, rfl, -, hg12⟩
            have hgB := grow_trans hgA hg12
            go_wp2
            ((try simp only [Exit.inBlock, Exit.then]); refine bodyPost_ret (results_tmp5 rfl _ _ _) rfl ?_)
            exact ⟨_, xs, _, _, _, _, rfl, HU.out _ hgB, by rw [hS]; exact hb2.trans (below_grow hgB (Nat.le_refl _) (by omega))⟩

        · have HVS := Lib.hid hv
          clear hv
          cases ho : okP at1
          · have HOK := Lib.hid ho
            clear ho
            go_wp2_with (first | (go_at_call 23; refine (sLeasesValid_any _ xs _ (by exact HU.out _ hg27)).mono ?_; rw [HVS.out]; rintro e w8 ⟨rfl, hb8⟩) | (go_at_call 24; refine (l1Point_any _ _).mono ?_; rw [HOK.out]; rintro e w' ⟨rfl, rfl⟩))
            have hg28 := grow_trans hg27 (grow_below hb8 (Nat.le_refl _))
            have hr8 := hr7.below hb8 (Nat.le_refl _)
            refine (pick_any S (P + 1 + 1) 6 _ hr8 (by omega) (by omega) (by omega)).mono ?_
            rintro e w9 ⟨c9, hc9, rfl, hr9, hg9⟩
            go_wp2_with fail
            refine (pick_any S (P + 1 + 1 + 1) 16 _ hr9 (by omega) (by omega) (by omega)).mono ?_
            rintro e w10 ⟨c10, hc10, rfl, hr10, hg10⟩
            have hgA := grow_trans (grow_trans hg28 hg9) hg10
            rcases Nat.eq_zero_or_pos c10 with rfl | hp10
            · go_wp2_with fail
              refine (l91Point_any S (P + 1 + 1 + 1 + 1) _ hr10 (by omega)).mono ?_
              rintro e w11 ⟨x, p', -, -, hp', rfl, hr11, hg11⟩
              go_wp2_with fail
              refine (l91Time_any S p' _ hr11 (by omega)).mono ?_
              rintro e w12 ⟨y, p'', -, -, -, rfl, -, hg12⟩
              have hgB := grow_trans (grow_trans hgA hg11) hg12
              go_wp2
              ((try simp only [Exit.inBlock, Exit.then]); refine bodyPost_ret (results_tmp5 rfl _ _ _) rfl ?_)
              exact ⟨_, xs, _, _, _, _, rfl, HU.out _ hgB, by rw [hS]; exact hb2.trans (below_grow hgB (Nat.le_refl _) (by omega))⟩
            · have hn10 : ((c10 : Int) == 0) = false := beq_eq_false_iff_ne.2 (by omega)
              go_wp2_with fail
              refine (l91Time_any S (P + 1 + 1 + 1 + 1) _ hr10 (by omega)).mono ?_
              rintro e w12 ⟨y, p'', -, -, -, rfl, -, hg12⟩
              have hgB := grow_trans hgA hg12
              go_wp2
              ((try simp only [Exit.inBlock, Exit.then]); refine bodyPost_ret (results_tmp5 rfl _ _ _) rfl ?_)
              exact ⟨_, xs, _, _, _, _, rfl, HU.out _ hgB, by rw [hS]; exact hb2.trans (below_grow hgB (Nat.le_refl _) (by omega))⟩

          · have HOK := Lib.hid ho
            clear ho
            have hlv := lsValid_pos HVS.out
            have hak := atL_lt hlv at1
            have ha0 : (0 : Int) ≤ (atL xs at1 : Int) := by omega
            have ha1 : (atL xs at1 : Int) < (xs.length : Int) := by omega
            go_wp2_with (first | (go_at_call 23; refine (sLeasesValid_any _ xs _ (by exact HU.out _ hg27)).mono ?_; rw [HVS.out]; rintro e w8 ⟨rfl, hb8⟩; have hg28 := grow_trans hg27 (grow_below hb8 (Nat.le_refl _)); obtain ⟨b8, o8, e8, -, -, y1, -⟩ := (HU.out _ hg28).tr hak; cases e8) | (go_at_call 26; refine (l12At_any _ xs at1 _ (by exact HU.out _ hg28)).mono ?_; rintro e w' ⟨rfl, rfl⟩) | (go_at_call 24; refine (l1Point_any _ _).mono ?_; rw [HOK.out]; rintro e w' ⟨rfl, rfl⟩))
            have hr8 := hr7.below hb8 (Nat.le_refl _)
            refine (pick_any S (P + 1 + 1) 6 _ hr8 (by omega) (by omega) (by omega)).mono ?_
            rintro e w9 ⟨c9, hc9, rfl, hr9, hg9⟩
            go_wp2_with fail
            refine (pick_any S (P + 1 + 1 + 1) 16 _ hr9 (by omega) (by omega) (by omega)).mono ?_
            rintro e w10 ⟨c10, hc10, rfl, hr10, hg10⟩
            have hgA := grow_trans (grow_trans hg28 hg9) hg10
            rcases Nat.eq_zero_or_pos c10 with rfl | hp10
            · go_wp2_with fail
              refine (l91Point_any S (P + 1 + 1 + 1 + 1) _ hr10 (by omega)).mono ?_
              rintro e w11 ⟨x, p', -, -, hp', rfl, hr11, hg11⟩
              go_wp2_with fail
              refine (l91Time_any S p' _ hr11 (by omega)).mono ?_
              rintro e w12 ⟨y, p'', -, -, -, rfl, -, hg12⟩
              have hgB := grow_trans (grow_trans hgA hg11) hg12
              go_wp2
              ((try simp only [Exit.inBlock, Exit.then]); refine bodyPost_ret (results_tmp5 rfl _ _ _) rfl ?_)
              exact ⟨_, xs, _, _, _, _, rfl, HU.out _ hgB, by rw [hS]; exact hb2.trans (below_grow hgB (Nat.le_refl _) (by omega))⟩
            · have hn10 : ((c10 : Int) == 0) = false := beq_eq_false_iff_ne.2 (by omega)
              go_wp2_with fail
              refine (l91Time_any S (P + 1 + 1 + 1 + 1) _ hr10 (by omega)).mono ?_
              rintro e w12 ⟨y, p'', -, -, -, rfl, -, hg12⟩
              have hgB := grow_trans hgA hg12
              go_wp2
              ((try simp only [Exit.inBlock, Exit.then]); refine bodyPost_ret (results_tmp5 rfl _ _ _) rfl ?_)
              exact ⟨_, xs, _, _, _, _, rfl, HU.out _ hgB, by rw [hS]; exact hb2.trans (below_grow hgB (Nat.le_refl _) (by omega))⟩

  · have hne : ((c4 : Int) == 0) = false := beq_eq_false_iff_ne.2 (by omega)
    obtain ⟨P, hPe⟩ : ∃ P, p3 + 1 = P := ⟨_, rfl⟩
    rw [hPe] at hr4
    have hP : P ≤ 1010 := by omega
    have hr5 := hr4
    have hg25 := hg24
    clear hr4 hg24 hPe
    go_wp2_with fail
    refine (pick_any S P 5 _ hr5 (by omega) (by omega) (by omega)).mono ?_
    rintro e w6 ⟨c6, hc6, rfl, hr6, hg6⟩
    go_wp2_with fail
    refine (pick_any S (P + 1) 4 _ hr6 (by omega) (by omega) (by omega)).mono ?_
    rintro e w7 ⟨c7, hc7, rfl, hr7, hg7⟩
    have hg27 := grow_trans (grow_trans hg25 hg6) hg7
    clear hg25 hg6 hg7 hr5 hr6
    rcases Nat.eq_zero_or_pos c7 with rfl | hp7
    · go_wp2_with fail
      refine (pick_any S (P + 1 + 1) 6 _ hr7 (by omega) (by omega) (by omega)).mono ?_
      rintro e w9 ⟨c9, hc9, rfl, hr9, hg9⟩
      go_wp2_with fail
      refine (pick_any S (P + 1 + 1 + 1) 16 _ hr9 (by omega) (by omega) (by omega)).mono ?_
      rintro e w10 ⟨c10, hc10, rfl, hr10, hg10⟩
      have hgA := grow_trans (grow_trans hg27 hg9) hg10
      rcases Nat.eq_zero_or_pos c10 with rfl | hp10
      · go_wp2_with fail
        refine (l91Point_any S (P + 1 + 1 + 1 + 1) _ hr10 (by omega)).mono ?_
        rintro e w11 ⟨x, p', -, -, hp', rfl, hr11, hg11⟩
        go_wp2_with fail
        refine (l91Time_any S p' _ hr11 (by omega)).mono ?_
        rintro e w12 ⟨y, p'', -, -, -, rfl, -, hg12⟩
        have hgB := grow_trans (grow_trans hgA hg11) hg12
        go_wp2
        ((try simp only [Exit.inBlock, Exit.then]); refine bodyPost_ret (results_tmp5 rfl _ _ _) rfl ?_)
        exact ⟨_, xs, _, _, _, _, rfl, HU.out _ hgB, by rw [hS]; exact hb2.trans (below_grow hgB (Nat.le_refl _) (by omega))⟩
      · have hn10 : ((c10 : Int) == 0) = false := beq_eq_false_iff_ne.2 (by omega)
        go_wp2_with fail
        refine (l91Time_any S (P + 1 + 1 + 1 + 1) _ hr10 (by omega)).mono ?_
        rintro e w12 ⟨y, p'', -, -, -, rfl, -, hg12⟩
        have hgB := grow_trans hgA hg12
        go_wp2
        ((try simp only [Exit.inBlock, Exit.then]); refine bodyPost_ret (results_tmp5 rfl _ _ _) rfl ?_)
        exact ⟨_, xs, _, _, _, _, rfl, HU.out _ hgB, by rw [hS]; exact hb2.trans (below_grow hgB (Nat.le_refl _) (by omega))⟩

    · have hgt : (0 : Int) < (c7 : Int) := by omega
      cases hv : lsValid xs
      · have HVS := Lib.hid hv
        clear hv
        go_wp2_with (go_at_call 23; refine (sLeasesValid_any _ xs _ (by exact HU.out _ hg27)).mono ?_; rw [HVS.out]; rintro e w8 ⟨rfl, hb8⟩)
        have hg28 := grow_trans hg27 (grow_below hb8 (Nat.le_refl _))
        have hr8 := hr7.below hb8 (Nat.le_refl _)
        refine (pick_any S (P + 1 + 1) 6 _ hr8 (by omega) (by omega) (by omega)).mono ?_
        rintro e w9 ⟨c9, hc9, rfl, hr9, hg9⟩
        go_wp2_with fail
        refine (pick_any S (P + 1 + 1 + 1) 16 _ hr9 (by omega) (by omega) (by omega)).mono ?_
        rintro e w10 ⟨c10, hc10, rfl, hr10, hg10⟩
        have hgA := grow_trans (grow_trans hg28 hg9) hg10
        rcases Nat.eq_zero_or_pos c10 with rfl | hp10
        · go_wp2_with fail
          refine (l91Point_any S (P + 1 + 1 + 1 + 1) _ hr10 (by omega)).mono ?_
          rintro e w11 ⟨x, p', -, -, hp', rfl, hr11, hg11⟩
          go_wp2_with fail
          refine (l91Time_any S p' _ hr11 (by omega)).mono ?_
          rintro e w12 ⟨y, p'', -, -, -, rfl, -, hg12⟩
          have hgB := grow_trans (grow_trans hgA hg11) hg12
          go_wp2
          ((try simp only [Exit.inBlock, Exit.then]); refine bodyPost_ret (results_tmp5 rfl _ _ _) rfl ?_)
          exact ⟨_, xs, _, _, _, _, rfl, HU.out _ hgB, by rw [hS]; exact hb2.trans (below_grow hgB (Nat.le_refl _) (by omega))⟩
        · have hn10 : ((c10 : Int) == 0) = false := beq_eq_false_iff_ne.2 (by omega)
          go_wp2_with fail
          refine (l91Time_any S (P + 1 + 1 + 1 + 1) _ hr10 (by omega)).mono ?_
          rintro e w12 ⟨y, p'', -, -, -, rfl, -, hg12⟩
          have hgB := grow_trans hgA hg12
          go_wp2
          ((try simp only [Exit.inBlock, Exit.then]); refine bodyPost_ret (results_tmp5 rfl _ _ _) rfl ?_)
          exact ⟨_, xs, _, _, _, _, rfl, HU.out _ hgB, by rw [hS]; exact hb2.trans (below_grow hgB (Nat.le_refl _) (by omega))⟩

      · have HVS := Lib.hid hv
        clear hv
        cases ho : okP at1
        · have HOK := Lib.hid ho
          clear ho
          go_wp2_with (first | (go_at_call 23; refine (sLeasesValid_any _ xs _ (by exact HU.out _ hg27)).mono ?_; rw [HVS.out]; rintro e w8 ⟨rfl, hb8⟩) | (go_at_call 24; refine (l1Point_any _ _).mono ?_; rw [HOK.out]; rintro e w' ⟨rfl, rfl⟩))
          have hg28 := grow_trans hg27 (grow_below hb8 (Nat.le_refl _))
          have hr8 := hr7.below hb8 (Nat.le_refl _)
          refine (pick_any S (P + 1 + 1) 6 _ hr8 (by omega) (by omega) (by omega)).mono ?_
          rintro e w9 ⟨c9, hc9, rfl, hr9, hg9⟩
          go_wp2_with fail
          refine (pick_any S (P + 1 + 1 + 1) 16 _ hr9 (by omega) (by omega) (by omega)).mono ?_
          rintro e w10 ⟨c10, hc10, rfl, hr10, hg10⟩
          have hgA := grow_trans (grow_trans hg28 hg9) hg10
          rcases Nat.eq_zero_or_pos c10 with rfl | hp10
          · go_wp2_with fail
            refine (l91Point_any S (P + 1 + 1 + 1 + 1) _ hr10 (by omega)).mono ?_
            rintro e w11 ⟨x, p', -, -, hp', rfl, hr11, hg11⟩
            go_wp2_with fail
            refine (l91Time_any S p' _ hr11 (by omega)).mono ?_
            rintro e w12 ⟨y, p'', -, -, -, rfl, -, hg12⟩
            have hgB := grow_trans (grow_trans hgA hg11) hg12
            go_wp2
            ((try simp only [Exit.inBlock, Exit.then]); refine bodyPost_ret (results_tmp5 rfl _ _ _) rfl ?_)
            exact ⟨_, xs, _, _, _, _, rfl, HU.out _ hgB, by rw [hS]; exact hb2.trans (below_grow hgB (Nat.le_refl _) (by omega))⟩
          · have hn10 : ((c10 : Int) == 0) = false := beq_eq_false_iff_ne.2 (by omega)
            go_wp2_with fail
            refine (l91Time_any S (P + 1 + 1 + 1 + 1) _ hr10 (by omega)).mono ?_
            rintro e w12 ⟨y, p'', -, -, -, rfl, -, hg12⟩
            have hgB := grow_trans hgA hg12
            go_wp2
            ((try simp only [Exit.inBlock, Exit.then]); refine bodyPost_ret (results_tmp5 rfl _ _ _) rfl ?_)
            exact ⟨_, xs, _, _, _, _, rfl, HU.out _ hgB, by rw [hS]; exact hb2.trans (below_grow hgB (Nat.le_refl _) (by omega))⟩

        · have HOK := Lib.hid ho
          clear ho
          have hlv := lsValid_pos HVS.out
          have hak := atL_lt hlv at1
          have ha0 : (0 : Int) ≤ (atL xs at1 : Int) := by omega
          have ha1 : (atL xs at1 : Int) < (xs.length : Int) := by omega
          go_wp2_with (first | (go_at_call 23; refine (sLeasesValid_any _ xs _ (by exact HU.out _ hg27)).mono ?_; rw [HVS.out]; rintro e w8 ⟨rfl, hb8⟩; have hg28 := grow_trans hg27 (grow_below hb8 (Nat.le_refl _)); obtain ⟨b8, o8, e8, -, -, y1, -⟩ := (HU.out _ hg28).tr hak; cases e8) | (go_at_call 26; refine (l12At_any _ xs at1 _ (by exact HU.out _ hg28)).mono ?_; rintro e w' ⟨rfl, rfl⟩) | (go_at_call 24; refine (l1Point_any _ _).mono ?_; rw [HOK.out]; rintro e w' ⟨rfl, rfl⟩))
          have hr8 := hr7.below hb8 (Nat.le_refl _)
          refine (pick_any S (P + 1 + 1) 6 _ hr8 (by omega) (by omega) (by omega)).mono ?_
          rintro e w9 ⟨c9, hc9, rfl, hr9, hg9⟩
          go_wp2_with fail
          refine (pick_any S (P + 1 + 1 + 1) 16 _ hr9 (by omega) (by omega) (by omega)).mono ?_
          rintro e w10 ⟨c10, hc10, rfl, hr10, hg10⟩
          have hgA := grow_trans (grow_trans hg28 hg9) hg10
          rcases Nat.eq_zero_or_pos c10 with rfl | hp10
          · go_wp2_with fail
            refine (l91Point_any S (P + 1 + 1 + 1 + 1) _ hr10 (by omega)).mono ?_
            rintro e w11 ⟨x, p', -, -, hp', rfl, hr11, hg11⟩
            go_wp2_with fail
            refine (l91Time_any S p' _ hr11 (by omega)).mono ?_
            rintro e w12 ⟨y, p'', -, -, -, rfl, -, hg12⟩
            have hgB := grow_trans (grow_trans hgA hg11) hg12
            go_wp2
            ((try simp only [Exit.inBlock, Exit.then]); refine bodyPost_ret (results_tmp5 rfl _ _ _) rfl ?_)
            exact ⟨_, xs, _, _, _, _, rfl, HU.out _ hgB, by rw [hS]; exact hb2.trans (below_grow hgB (Nat.le_refl _) (by omega))⟩
          · have hn10 : ((c10 : Int) == 0) = false := beq_eq_false_iff_ne.2 (by omega)
            go_wp2_with fail
            refine (l91Time_any S (P + 1 + 1 + 1 + 1) _ hr10 (by omega)).mono ?_
            rintro e w12 ⟨y, p'', -, -, -, rfl, -, hg12⟩
            have hgB := grow_trans hgA hg12
            go_wp2
            ((try simp only [Exit.inBlock, Exit.then]); refine bodyPost_ret (results_tmp5 rfl _ _ _) rfl ?_)
            exact ⟨_, xs, _, _, _, _, rfl, HU.out _ hgB, by rw [hS]; exact hb2.trans (below_grow hgB (Nat.le_refl _) (by omega))⟩


end Go.Proofs.YtdcjacgaakpejaaDoor
