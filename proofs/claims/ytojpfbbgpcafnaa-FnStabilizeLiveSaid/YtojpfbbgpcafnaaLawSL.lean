/-
  Walks: the law FnStabilizeLive.
-/
import Derived.Test.YtojpfbbgpcafnaaLawN2
import Derived.Test.YtojpfbbgpcafnaaDrawT
import Derived.Test.YtojpfbbgpcafnaaPlain
import Derived.Test.YtojpfbbgpcafnaaIRound
namespace Go.Proofs.Ytojpfbbgpcafnaa
open Go.RowKit

set_option maxRecDepth 100000 in
set_option maxHeartbeats 4000000 in
theorem lawStabilizeLive_any (v : Value) (w : World) (h : CodeAt w v) :
    Calls Try.prog 7 #[v] w fun e w' => e = .returned (.bool true) ∧ Below w.heap.size w w' := by
  have H := Lib.hid h
  obtain ⟨pb, n, cap, rfl, hn1, hn2, -⟩ := h
  unfold maxLen at hn2
  by_cases hbig : 1048576 < n
  · go_enter Try.func7, Try.ntmps7
    go_wp2
    go_ret
    exact ⟨rfl, Below.refl _ _⟩
  have hbig' : n ≤ 1048576 := by omega
  clear hbig
  have hf0 := field0
  have hf1 := field1
  have hf2 := field2
  go_enter Try.func7, Try.ntmps7
  go_wp2_with fail
  refine (drawRingStabilize_any _ _ H.out).mono ?_
  rintro e w1 ⟨u, y, id, rfl, hat, hsm, hb1⟩
  have HAT := Lib.hid hat
  have hz1 := hb1.size
  have hy10 := hsm.2.1
  have hy1 := hsm.1
  obtain ⟨p, cp, rfl⟩ := hat.form
  clear hsm hat
  cases hok : rStabOk y id
  · have HK := Lib.hid hok
    clear hok
    go_wp2_with (first | (have _ := hb4; go_at_call 16; refine (sameRing_any _ _ (rStab y id) (rStab y id) _ (HA.out.below hb4 (Nat.le_refl _)) (HB.out.below hb4 (Nat.le_refl _))).mono ?_; rw [decide_eq_true rfl]; rintro e w5 ⟨rfl, hb5⟩) | (go_at_call 16; refine (sameRing_any _ _ (rStab y id) (rStab y id) _ HA.out HB.out).mono ?_; rw [decide_eq_true rfl]; rintro e w4 ⟨rfl, hb4⟩) | (go_at_call 22; refine (iRingStabilize_any _ y id _ HAT.out).mono ?_; rw [HK.out]; rintro e w2 ⟨ua, rfl, hA, hb2⟩; have HA0 := Lib.hid hA.at; clear hA) | (go_at_call 28; refine (sRingStabilize_any _ y id _ (HAT.out.below hb2 (Nat.le_refl _))).mono ?_; rw [HK.out]; rintro e w3 ⟨ub, rfl, hB, hb3⟩; have HB := Lib.hid hB.at; have HA := Lib.hid (HA0.out.below hb3 (Nat.le_refl _)); have hbD := hb1.trans ((hb2.trans (hb3.mono hb2.size)).mono hz1); clear hB))
    go_ret
    exact ⟨rfl, hbD.trans ((hb4.trans (hb5.mono hb4.size)).mono hbD.size)⟩
  have HK := Lib.hid hok
  clear hok
  obtain ⟨g1, g2⟩ := law_stab_live HK.out
  have hv := safe_valid (law_stab_others HK.out).1.1
  obtain ⟨i1, b1, x0, x1, e1⟩ := ndOf_form hv id
  rw [e1] at g1 g2
  have g1' : live (rStab y id) x0 = true := g1
  obtain ⟨i3, b3, z0, z1, e3⟩ := ndOf_form hv x0
  have g2' : live (rStab y id) (ndOf (rStab y id) x0).before = true := g2
  have hi3 := (ndOf_live g1').1
  rw [e3] at g2' hi3
  have hi3' : i3 = x0 := hi3
  subst hi3'
  obtain ⟨hp0, hp1⟩ := okP_def.1 (live_ok hv g1')
  obtain ⟨hq0, hq1⟩ := okP_def.1 (live_ok hv (show live (rStab y id) b3 = true from g2'))
  have HG2 := Lib.hid (show live (rStab y id) b3 = true from g2')
  have HE1 := Lib.hid e1
  have HE3 := Lib.hid e3
  clear hv e1 e3 g1 g1' g2 g2' hi3
  go_wp2_with (first | (go_at_call 16; refine (sameRing_any _ _ (rStab y id) (rStab y id) _ HA1.out HB.out).mono ?_; rw [decide_eq_true rfl]; rintro e w4 ⟨rfl, hb4⟩; have HA := Lib.hid (HA1.out.below hb4 (Nat.le_refl _)); have hbC := (hb2.trans (hb3.mono hb2.size)).trans (hb4.mono (hb2.trans (hb3.mono hb2.size)).size); have HC := Lib.hid (HAT.out.below hbC (Nat.le_refl _)); have hbD := hb1.trans (hbC.mono hz1)) | (go_at_call 22; refine (iRingStabilize_any _ y id _ HAT.out).mono ?_; rw [HK.out]; rintro e w2 ⟨ua, rfl, hA, hb2⟩; have HA0 := Lib.hid hA.at; obtain ⟨pa, ca, ea⟩ := hA.at.form; subst ea; clear hA) | (go_at_call 28; refine (sRingStabilize_any _ y id _ (HAT.out.below hb2 (Nat.le_refl _))).mono ?_; rw [HK.out]; rintro e w3 ⟨ub, rfl, hB, hb3⟩; have HB := Lib.hid hB.at; have HA1 := Lib.hid (HA0.out.below hb3 (Nat.le_refl _)); clear hB))
  refine (nodeAtL_two _ (rStab y id) id i1 b1 i3 x1 _ HA.out HE1.out).mono ?_
  rintro e w5 ⟨n1, o1, c1, rfl, u1, u2, u3, u4, u5, hb5⟩
  go_wp2_with fail
  refine (nodeAtL_two _ (rStab y id) i3 i3 b3 z0 z1 _ (HA.out.below hb5 (Nat.le_refl _)) HE3.out).mono ?_
  rintro e w6 ⟨n2, o2, c2, rfl, v1, v2, v3, v4, v5, hb6⟩
  have hb56 := hb5.trans (hb6.mono hb5.size)
  have hb7 := hb56.alloc hb56.size (.cells #[.int .i64 i3, .int .i64 b3, .slice (some ⟨n2, o2, none⟩) 2 c2] 31)
  go_wp2_with (go_at_call 30; refine (nodeAtL_live _ (rStab y id) b3 _ (by exact HA.out.below hb7 (Nat.le_refl _)) HG2.out).mono ?_; rintro e w8 ⟨vb, rfl, -, hb8⟩)
  go_ret
  exact ⟨ret_bool (by simp [*]), hbD.trans ((hb7.trans (hb8.mono hb7.size)).mono hbD.size)⟩

end Go.Proofs.Ytojpfbbgpcafnaa
