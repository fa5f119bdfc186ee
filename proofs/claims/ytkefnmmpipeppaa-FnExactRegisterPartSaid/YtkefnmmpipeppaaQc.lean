/-
  Contracts: is a register valid, and a majority asked?
-/
import Derived.Test.YtkefnmmpipeppaaQb
namespace Go.Proofs.Ytkefnmmpipeppaa
open Go.RowKit

theorem regB_len {rs : List Tr} (h : regB rs = true) : 1 ≤ rs.length ∧ rs.length ≤ 5 := by
  unfold regB inR at h
  simp at h
  omega
set_option maxHeartbeats 1000000 in
theorem iAsked_any (v u : Value) (rs : List Tr) (ks : List Int) (w : World) (hv : TrsAt w v rs) (hu : IntsAt w u ks) (hl : ks.length ≤ 1048576) :
    Calls Try.prog 46 #[v, u] w fun e w' => e = .returned (.bool (regB rs && majB rs.length ks)) ∧ Below w.heap.size w w' := by
  have HV := Lib.hid hv
  have HU := Lib.hid hu
  clear hu
  obtain ⟨p, cap, rfl, hc, hm, h4⟩ := hv
  clear h4
  cases hr : regB rs
  · have HR := Lib.hid hr
    clear hr
    go_enter Try.func46, Try.ntmps46
    go_wp2_with (go_at_call 16; refine (iReg_any _ rs _ HV.out).mono ?_; rw [HR.out]; rintro e w1 ⟨rfl, hb1⟩)
    go_ret
    exact ⟨rfl, hb1⟩
  · have HR := Lib.hid hr
    have hn := regB_len hr
    clear hr
    cases hj : majB rs.length ks
    all_goals
      have HJ := Lib.hid hj
      clear hj
      go_enter Try.func46, Try.ntmps46
      go_wp2_with fail
      refine (iReg_any _ rs _ HV.out).mono ?_
      rw [HR.out]
      rintro e w1 ⟨rfl, hb1⟩
      go_wp2_with fail
      refine (iMaj_any _ ks _ _ (HU.out.below hb1 (Nat.le_refl _)) (by omega) (by omega) hl).mono ?_
      rw [HJ.out]
      rintro e w2 ⟨rfl, hb2⟩
      go_wp2
      go_ret
      exact ⟨rfl, hb1.trans (hb2.mono hb1.size)⟩
end Go.Proofs.Ytkefnmmpipeppaa
