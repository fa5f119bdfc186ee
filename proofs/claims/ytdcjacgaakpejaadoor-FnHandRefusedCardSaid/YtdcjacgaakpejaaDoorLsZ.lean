/-
  Walks: the exact law of LeaseHand.
-/
import Derived.Test.YtdcjacgaakpejaaDoorLsY
import Derived.Test.YtdcjacgaakpejaaDoorLsQ
namespace Go.Proofs.YtdcjacgaakpejaaDoor
open Go.RowKit

theorem handR_len (xs : List Tr) (fr at' to' un : Int) : (handR xs fr at' to' un).length ≤ 13 := by
  unfold handR
  cases h : lsArgs xs fr at' to' un
  · simp
  · have h12 : xs.length ≤ 12 := by
      unfold lsArgs lsValid inR at h
      simp at h
      omega
    simp only [if_true]
    repeat' split
    · simp; omega
    · have := ltE_le at' xs
      simp; omega
    · omega
    · omega

set_option maxHeartbeats 4000000 in
theorem exactHand_any (v : Value) (r : List Tr) (fr at' to' un : Int) (a0 a1 : Addr) (w : World) (hv : TrsAt w v r) (hL : Laid w a0 a1) :
    Calls Tryd.prog 3 #[v, .int .i64 fr, .int .i64 at', .int .i64 to', .int .i64 un] w fun e w' => e = .returned (.bool true) ∧ Below w.heap.size w w' := by
  have HV := Lib.hid hv
  have HL := Lib.hid hL
  clear hv hL
  go_enter Tryd.func3, Tryd.ntmps3
  go_wp2_with fail
  refine (szLeaseS_any _ r _ HV.out).mono ?_
  rintro e w' ⟨⟨s, rfl, hs⟩, rfl⟩
  by_cases hs0 : s < 0
  · go_wp2
    go_ret
    exact ⟨rfl, Below.refl _ _⟩
  have hsz : r.length ≤ 1048576 := by rcases hs with h | h; exact absurd h hs0; exact h
  have hs0' : 0 ≤ s := by omega
  have hRl := handR_len r fr at' to' un
  obtain ⟨R, hR⟩ : ∃ R, handR r fr at' to' un = R := ⟨_, rfl⟩
  obtain ⟨c, hc⟩ : ∃ c, handOk r fr at' to' un = c := ⟨_, rfl⟩
  rw [hR] at hRl
  have HR := Lib.hid hR
  have HC := Lib.hid hc
  have hcr : 1 + 3 * (r.length : Int) ≤ 1000000000000000 := by omega
  have hcR : 1 + 3 * (R.length : Int) ≤ 1000000000000000 := by omega
  clear hs hs0 hR hc
  go_wp2_with fail
  refine (toLeaseS_any _ r _ HV.out hsz).mono ?_
  rintro e wa ⟨ua, rfl, hOa, hba⟩
  go_wp2_with fail
  refine (sLeaseHand_any _ r fr at' to' un _ hOa.at).mono ?_
  rw [HR.out, HC.out]
  rintro e w2 ⟨uw, rfl, hW, hb2⟩
  have hbB := hba.trans (hb2.mono hba.size)
  clear hOa
  go_wp2_with fail
  refine (toLeaseS_any _ r _ (HV.out.below hbB (Nat.le_refl _)) hsz).mono ?_
  rintro e w3 ⟨ux, rfl, hX, hb3⟩
  have hbC := hbB.trans (hb3.mono hbB.size)
  go_wp2_with fail
  refine (iLeaseHand_any _ r fr at' to' un a0 a1 _ hX.at (HL.out.below hbC (Nat.le_refl _))).mono ?_
  rw [HR.out, HC.out]
  rintro e w4 ⟨ug, rfl, hG, hb4⟩
  have hbD := hbC.trans (hb4.mono hbC.size)
  have b24 : Below w2.heap.size w2 w4 := hb3.trans (hb4.mono hb3.size)
  go_wp2_with fail
  refine (eqLeaseS_any _ _ _ _ _ hG.at (hW.below b24 (Nat.le_refl _)).at).mono ?_
  rw [decide_eq_true rfl]
  rintro e w5 ⟨rfl, hb5⟩
  have hbE := hbD.trans (hb5.mono hbD.size)
  have b35 : Below w3.heap.size w3 w5 := hb4.trans (hb5.mono hb4.size)
  have b25 : Below w2.heap.size w2 w5 := b24.trans (hb5.mono b24.size)
  have hcc : (c != c) = false := by simp
  go_wp2_with fail
  refine (toLeaseS_any _ r _ (HV.out.below hbE (Nat.le_refl _)) hsz).mono ?_
  rintro e wb ⟨ub, rfl, hOb, hbb⟩
  have hbF := hbE.trans (hbb.mono hbE.size)
  have b3b : Below w3.heap.size w3 wb := b35.trans (hbb.mono b35.size)
  have b2b : Below w2.heap.size w2 wb := b25.trans (hbb.mono b25.size)
  have b4b : Below w4.heap.size w4 wb := hb5.trans (hbb.mono hb5.size)
  go_wp2_with fail
  refine (eqLeaseS_any _ _ r r _ (hX.below b3b (Nat.le_refl _)).at hOb.at).mono ?_
  rw [decide_eq_true rfl]
  rintro e w6 ⟨rfl, hb6⟩
  have hbG := hbF.trans (hb6.mono hbF.size)
  have b36 : Below w3.heap.size w3 w6 := b3b.trans (hb6.mono b3b.size)
  have b26 : Below w2.heap.size w2 w6 := b2b.trans (hb6.mono b2b.size)
  have b46 : Below w4.heap.size w4 w6 := b4b.trans (hb6.mono b4b.size)
  clear hOb
  go_wp2_with fail
  refine (markLeaseS_any _ r 1 w2.heap.size w3.heap.size _ (hX.below b36 (Nat.le_refl _)) (fun q hq => (World.ownsRow.lt hX q hq).2) (by decide) hcr).mono ?_
  rintro e w7 ⟨rfl, -, hb7, hk7⟩
  have hwB : w.heap.size ≤ w2.heap.size := hbB.size
  have hbH := hbG.trans (hb7.mono hwB)
  have b27 : Below w2.heap.size w2 w7 := b26.trans hb7
  have hG7 := (hG.below b46 (Nat.le_refl _)).keeps hk7
  have hn1 : 0 ≤ 1 + 3 * (r.length : Int) := by omega
  go_wp2_with fail
  refine (eqLeaseS_any _ _ _ _ _ hG7.at ((hW.below b27 (Nat.le_refl _))).at).mono ?_
  rw [decide_eq_true rfl]
  rintro e w8 ⟨rfl, hb8⟩
  have hbI := hbH.trans (hb8.mono hbH.size)
  have b28 : Below w2.heap.size w2 w8 := b27.trans (hb8.mono b27.size)
  have hG8 := hG7.below hb8 (Nat.le_refl _)
  go_wp2_with fail
  refine (markLeaseS_any _ _ 1 w3.heap.size w8.heap.size _ hG8 (fun q hq => (World.ownsRow.lt hG8 q hq).2) (by decide) hcR).mono ?_
  rintro e w9 ⟨rfl, hM, hb9, -⟩
  have h23 : w2.heap.size ≤ w3.heap.size := hb3.size
  have hbJ := hbI.trans (hb9.mono (Nat.le_trans hwB h23))
  have b29 : Below w2.heap.size w2 w9 := b28.trans (hb9.mono h23)
  go_wp2_with fail
  refine (heldLeaseS_any _ R.length 1 _ hM.at (by decide) hcR).mono ?_
  rintro e w' ⟨rfl, rfl⟩
  have hn2 : 0 ≤ 1 + 3 * (R.length : Int) := by omega
  obtain ⟨cR, hcRe⟩ : ∃ x, 1 + 3 * (R.length : Int) = x := ⟨_, rfl⟩
  rw [hcRe] at hn2 ⊢
  have HCR := Lib.hid hcRe
  clear hcRe
  go_wp2_with fail
  refine (toLeaseS_any _ r _ (HV.out.below hbJ (Nat.le_refl _)) hsz).mono ?_
  rintro e wc ⟨uc, rfl, hOc, hbc⟩
  have hbK := hbJ.trans (hbc.mono hbJ.size)
  have b9c : Below w9.heap.size w9 wc := hbc
  go_wp2_with fail
  refine (iLeaseHand_any _ r fr at' to' un a0 a1 _ hOc.at (HL.out.below hbK (Nat.le_refl _))).mono ?_
  rw [HR.out, HC.out]
  rintro e wd ⟨uh, rfl, hH, hbd⟩
  have hbL := hbK.trans (hbd.mono hbK.size)
  have b9d : Below w9.heap.size w9 wd := b9c.trans (hbd.mono b9c.size)
  have b2d : Below w2.heap.size w2 wd := b29.trans (b9d.mono b29.size)
  go_wp2_with fail
  refine (eqLeaseS_any _ _ _ _ _ hH.at (hW.below b2d (Nat.le_refl _)).at).mono ?_
  rw [decide_eq_true rfl]
  rintro e we ⟨rfl, hbe⟩
  have hbM := hbL.trans (hbe.mono hbL.size)
  have b9e : Below w9.heap.size w9 we := b9d.trans (hbe.mono b9d.size)
  go_wp2_with fail
  refine (heldLeaseS_any _ R.length 1 _ (hM.below b9e (Nat.le_refl _)).at (by decide) (by exact hcR)).mono ?_
  rw [HCR.out]
  rintro e w' ⟨rfl, rfl⟩
  go_wp2
  go_ret
  exact ⟨rfl, hbM⟩

end Go.Proofs.YtdcjacgaakpejaaDoor
