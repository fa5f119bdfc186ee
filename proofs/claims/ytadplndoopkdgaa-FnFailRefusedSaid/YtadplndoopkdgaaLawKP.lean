/-
  Contracts: whether the principals are kept, as the laws ask it.
-/
import Derived.Test.YtadplndoopkdgaaLawK
import Derived.Test.YtadplndoopkdgaaHas
import Derived.Test.YtadplndoopkdgaaIPr
namespace Go.Proofs.Ytadplndoopkdgaa
open Go.RowKit

set_option maxHeartbeats 1000000 in
theorem keepsP_any (v u : Value) (a b : List Nd) (w : World) (hv : RingAt w v a) (hu : RingAt w u b) (ha : ringSafe a = true) (hb : ringSafe b = true) (hk : Keep a b) :
    Calls Try.prog 36 #[v, u] w fun e w' => e = .returned (.bool true) ∧ Below w.heap.size w w' := by
  have HV := Lib.hid hv
  have HU := Lib.hid hu
  have HA := Lib.hid (safe_valid ha)
  have HB := Lib.hid (safe_valid hb)
  have HK := Lib.hid hk
  have ha10 := (shape_valid (safe_valid ha)).1
  have hf0 := field0
  clear hv hu ha hb hk
  go_enter Try.func36, Try.ntmps36
  go_wp2_with (first | (have _ := m1; go_at_call 69; refine (iRingPrincipals_any _ b _ (HU.out.below m1 (Nat.le_refl _)) HB.out).mono ?_; rintro e w2 ⟨u2, rfl, hO2, hb2⟩; have HI2 := Lib.hid (intsAt_own hO2); clear hO2; have m2 := m1.trans (hb2.mono m1.size)) | (go_at_call 69; refine (iRingPrincipals_any _ a _ HV.out HA.out).mono ?_; rintro e w1 ⟨u1, rfl, hO1, m1⟩; have HI1 := Lib.hid (intsAt_own hO1); obtain ⟨p1, c1, e1⟩ := own_slice hO1; subst e1; clear hO1))
  have HL := Lib.hid (show IntsAt w2 (.slice p1 (prin a).length c1) (prin a) from HI1.out.below hb2 (Nat.le_refl _))
  have HU2 := Lib.hid (HU.out.below m2 (Nat.le_refl _))
  have hla : (prin a).length ≤ 10 := by
    have := prinTo_length a a.length
    rw [prinTo_all] at this; omega
  go_loopg [4, 7] (prin a).length (fun m _ i wr => ∃ k : Nat, k ≤ (prin a).length ∧ m = (prin a).length - k ∧ i = .int .i64 k ∧ Below w2.heap.size w2 wr)
  case atStart => exact ⟨0, Nat.zero_le _, rfl, rfl, Below.refl _ _⟩
  case round =>
    obtain ⟨k, hk, rfl, rfl, hwr⟩ := hrel
    have HW := Lib.hid hwr
    by_cases hlt : k < (prin a).length
    · obtain ⟨b1, o1, rfl, -, hc1, hc2, hbl, hcell⟩ := (HL.out.below hwr (Nat.le_refl _)).openAt (by omega)
      have h1 := hcell k hlt
      have hm := getD_memI hlt
      have HR := Lib.hid (HU2.out.below hwr (Nat.le_refl _))
      have HI := Lib.hid (HI2.out.below hwr (Nat.le_refl _))
      obtain ⟨x, hx⟩ : ∃ x, (prin a).getD k 0 = x := ⟨_, rfl⟩
      rw [hx] at h1 hm
      have hx0 := okP_def.1 (live_ok HA.out (mem_prin.1 hm).1)
      obtain ⟨hx00, hx01⟩ := hx0
      have i0 : (0 : Int) ≤ (k : Int) := by omega
      have i1 : (k : Int) < ((prin a).length : Int) := by omega
      cases hl : live b x
      · have HL0 := Lib.hid hl
        clear hcell hm hx hwr hl
        go_wp2_with (first | (go_at_call 18; refine (nodeAtL_dead _ b x _ (by exact HR.out) HL0.out).mono ?_; rintro e w4 ⟨va, rfl, -, m4⟩))
        go_roundg ((prin a).length - (k + 1))
        case rel => exact ⟨k + 1, by omega, rfl, by go_num, HW.out.trans (m4.mono HW.out.size)⟩
        case measure => omega
      · have HL0 := Lib.hid hl
        have HM := Lib.hid (show decide (x ∈ prin b) = true from decide_eq_true (HK.out x hm hl))
        clear hcell hm hx hwr hl
        go_wp2_with (first | (go_at_call 70; refine (hasInt_is _ (prin b) x true HM.out _ (HI.out.below m4 (Nat.le_refl _))).mono ?_; rintro e w5 ⟨rfl, rfl⟩) | (go_at_call 18; refine (nodeAtL_live _ b x _ (by exact HR.out) HL0.out).mono ?_; rintro e w4 ⟨va, rfl, -, m4⟩; have h4 := (m4.cell (p := ⟨b1, o1 + k, none⟩) hbl).trans h1))
        go_roundg ((prin a).length - (k + 1))
        case rel => exact ⟨k + 1, by omega, rfl, by go_num, HW.out.trans (m4.mono HW.out.size)⟩
        case measure => omega
    · obtain rfl : k = (prin a).length := by omega
      go_wp2
      go_ret
      exact ⟨rfl, m2.trans (HW.out.mono m2.size)⟩

end Go.Proofs.Ytadplndoopkdgaa
