/-
  Contracts: LeaseOf, holder, LeaseKeys, sameLeases.
-/
import Derived.Test.YtdcjacgaakpejaaDoorLsA
namespace Go.Proofs.YtdcjacgaakpejaaDoor
open Go.RowKit

theorem box_tr {w w1 : World} {x y z : Value} {t : TypeId} (h : Below (w.alloc (.cells #[x, y, z] t)).heap.size (w.alloc (.cells #[x, y, z] t)) w1) :
    w1.cell? ⟨w.heap.size, 0, none⟩ = some x ∧ w1.cell? ⟨w.heap.size, 1, none⟩ = some y ∧ w1.cell? ⟨w.heap.size, 2, none⟩ = some z ∧ (∀ j, w1.frozen? ⟨w.heap.size, j, none⟩ = false) ∧ w.heap.size < w1.heap.size ∧ Below w.heap.size w w1 :=
  have hl : w.heap.size < (w.alloc (.cells #[x, y, z] t)).heap.size := by simp
  ⟨(h.cell (p := ⟨w.heap.size, 0, none⟩) hl).trans (by simp), (h.cell (p := ⟨w.heap.size, 1, none⟩) hl).trans (by simp), (h.cell (p := ⟨w.heap.size, 2, none⟩) hl).trans (by simp),
    fun j => (h.frozen (p := ⟨w.heap.size, j, none⟩) hl).trans (by simp), Nat.lt_of_lt_of_le hl h.size, ((Below.refl _ w).alloc (Nat.le_refl _) _).trans (h.mono (by simp))⟩

def TupT (x : Tr) (c : Bool) (w : World) (e : Ending) (w' : World) : Prop := e = .returned (.tuple #[.agg #[.int .i64 x.a, .int .i64 x.b, .int .i64 x.c], .bool c]) ∧ Below w.heap.size w w'

set_option maxHeartbeats 1000000 in
theorem leaseOf_any (v : Value) (xs : List Tr) (key : Int) (w : World) (hv : TrsAt w v xs) :
    Calls Tryd.prog 19 #[v, .int .i64 key] w (TupT (leaseOf xs key) (lsValid xs && okP key) w) := by
  have hb := (Below.refl w.heap.size w).alloc (Nat.le_refl _) (.cells #[.int .i64 0, .int .i64 0, .int .i64 0] 35)
  have HV := Lib.hid (hv.below hb (Nat.le_refl _))
  obtain ⟨p, cap, rfl, hc1, hc2⟩ := hv.form
  clear hv
  cases h1 : lsValid xs
  · have H1 := Lib.hid h1
    have HR := Lib.hid (show leaseOf xs key = default by unfold leaseOf; rw [h1]; rfl)
    rw [HR.out]
    clear h1
    go_enter Tryd.func19, Tryd.ntmps19
    go_wp2_with (go_at_call 21; refine (iLeasesValid_any _ xs _ (by exact HV.out)).mono ?_; rw [H1.out]; rintro e w1 ⟨rfl, hb1⟩; obtain ⟨k0, k1, k2, kf, kl, hbB⟩ := box_tr hb1)
    exact bodyPost_ret (v := .tuple #[.agg #[.int .i64 0, .int .i64 0, .int .i64 0], .bool false]) (by simp [results, Tryd.results19, go_sem, *]) rfl ⟨rfl, (((hbB.setCell (p := ⟨w.heap.size, 0, none⟩) (Nat.le_refl _) _).setCell (p := ⟨w.heap.size, 1, none⟩) (Nat.le_refl _) _).setCell (p := ⟨w.heap.size, 2, none⟩) (Nat.le_refl _) _)⟩
  · have H1 := Lib.hid h1
    clear h1
    cases h2 : okP key
    · have H2 := Lib.hid h2
      have HR := Lib.hid (show leaseOf xs key = default by unfold leaseOf; rw [h2, Bool.and_false]; rfl)
      rw [HR.out]
      clear h2
      go_enter Tryd.func19, Tryd.ntmps19
      go_wp2_with (first | (go_at_call 21; refine (iLeasesValid_any _ xs _ (by exact HV.out)).mono ?_; rw [H1.out]; rintro e w1 ⟨rfl, hb1⟩; obtain ⟨k0, k1, k2, kf, kl, hbB⟩ := box_tr hb1) | (go_at_call 37; refine (posok_any _ _).mono ?_; rw [H2.out]; rintro e w2 ⟨rfl, rfl⟩))
      exact bodyPost_ret (v := .tuple #[.agg #[.int .i64 0, .int .i64 0, .int .i64 0], .bool false]) (by simp [results, Tryd.results19, go_sem, *]) rfl ⟨rfl, (((hbB.setCell (p := ⟨w.heap.size, 0, none⟩) (Nat.le_refl _) _).setCell (p := ⟨w.heap.size, 1, none⟩) (Nat.le_refl _) _).setCell (p := ⟨w.heap.size, 2, none⟩) (Nat.le_refl _) _)⟩
    · have H2 := Lib.hid h2
      have hpos : 0 < xs.length := by
        have h := H1.out
        unfold lsValid inR at h
        simp at h
        omega
      have hk := atL_lt hpos key
      have HR := Lib.hid (show leaseOf xs key = xs.getD (atL xs key) default by unfold leaseOf; rw [H1.out, h2]; rfl)
      obtain ⟨J, hJ⟩ : ∃ J, atL xs key = J := ⟨_, rfl⟩
      rw [hJ] at hk HR
      have HJ := Lib.hid hJ
      obtain ⟨n, hn⟩ : ∃ n, xs.getD J default = n := ⟨_, rfl⟩
      have HN := Lib.hid hn
      rw [HR.out, hn]
      have hj0 : (0 : Int) ≤ (J : Int) := by omega
      have hj1 : (J : Int) < (xs.length : Int) := by omega
      clear h2 hJ hn
      go_enter Tryd.func19, Tryd.ntmps19
      go_wp2_with (first | (go_at_call 21; refine (iLeasesValid_any _ xs _ (by exact HV.out)).mono ?_; rw [H1.out]; rintro e w1 ⟨rfl, hb1⟩) | (go_at_call 37; refine (posok_any _ _).mono ?_; rw [H2.out]; rintro e w2 ⟨rfl, rfl⟩) | (go_at_call 38; refine (leaseAt_any _ xs key _ (by exact HV.out.below hb1 (Nat.le_refl _))).mono ?_; rw [HJ.out]; rintro e w2 ⟨rfl, hb2⟩; have hb12 := hb1.trans (hb2.mono hb1.size); obtain ⟨k0, k1, k2, kf, kl, hbB⟩ := box_tr hb12; obtain ⟨b, o, rfl, hbl, q0, q1, q2⟩ := (HV.out.below hb12 (Nat.le_refl _)).tr hk; rw [HN.out] at q0 q1 q2))
      refine bodyPost_ret (v := .tuple #[.agg #[.int .i64 n.a, .int .i64 n.b, .int .i64 n.c], .bool true]) (by simp [results, Tryd.results19, go_sem, *]) rfl ⟨rfl, ?_⟩
      exact (((hbB.setCell (p := ⟨w.heap.size, 0, none⟩) (Nat.le_refl _) _).setCell (p := ⟨w.heap.size, 1, none⟩) (Nat.le_refl _) _).setCell (p := ⟨w.heap.size, 2, none⟩) (Nat.le_refl _) _)

set_option maxHeartbeats 1000000 in
theorem holder_any (v : Value) (xs : List Tr) (key : Int) (w : World) (hv : TrsAt w v xs) :
    Calls Tryd.prog 20 #[v, .int .i64 key] w fun e w' => e = .returned (.tuple #[.int .i64 (leaseOf xs key).b, .int .i64 (leaseOf xs key).c]) ∧ Below w.heap.size w w' := by
  have HV := Lib.hid hv
  obtain ⟨p, cap, rfl, hc1, hc2⟩ := hv.form
  obtain ⟨n, hn⟩ : ∃ n, leaseOf xs key = n := ⟨_, rfl⟩
  have HN := Lib.hid hn
  obtain ⟨c, hc⟩ : ∃ c, (lsValid xs && okP key) = c := ⟨_, rfl⟩
  have HC := Lib.hid hc
  rw [hn]
  clear hv hn hc
  go_enter Tryd.func20, Tryd.ntmps20
  go_wp2_with (go_at_call 19; refine (leaseOf_any _ xs key _ HV.out).mono ?_; rw [HN.out, HC.out]; rintro e w1 ⟨rfl, hb1⟩)
  have hbx := hb1.alloc hb1.size (.cells #[.int .i64 n.a, .int .i64 n.b, .int .i64 n.c] 35)
  go_quiet (fail)
  go_wp2
  go_ret2
  exact ⟨rfl, below_drewN hbx _⟩

set_option maxHeartbeats 1000000 in
theorem leaseKeys_any (v : Value) (xs : List Tr) (o : Int) (w : World) (hv : TrsAt w v xs) :
    Calls Tryd.prog 22 #[v, .int .i64 o] w fun e w' => e = .returned (.int .i64 (leaseKeys xs o)) ∧ Below w.heap.size w w' := by
  have HV := Lib.hid hv
  obtain ⟨p, cap, rfl, hc1, hc2⟩ := hv.form
  clear hv
  cases h1 : lsValid xs
  · have H1 := Lib.hid h1
    have HR := Lib.hid (show leaseKeys xs o = -1 by unfold leaseKeys; rw [h1]; rfl)
    rw [HR.out]
    clear h1
    go_enter Tryd.func22, Tryd.ntmps22
    go_wp2_with (go_at_call 21; refine (iLeasesValid_any _ xs _ (by exact HV.out)).mono ?_; rw [H1.out]; rintro e w1 ⟨rfl, hb1⟩)
    go_ret
    exact ⟨rfl, hb1⟩
  · have H1 := Lib.hid h1
    clear h1
    cases h2 : okP o
    · have H2 := Lib.hid h2
      have HR := Lib.hid (show leaseKeys xs o = -1 by unfold leaseKeys; rw [h2, Bool.and_false]; rfl)
      rw [HR.out]
      clear h2
      go_enter Tryd.func22, Tryd.ntmps22
      go_wp2_with (first | (go_at_call 21; refine (iLeasesValid_any _ xs _ (by exact HV.out)).mono ?_; rw [H1.out]; rintro e w1 ⟨rfl, hb1⟩) | (go_at_call 37; refine (posok_any _ _).mono ?_; rw [H2.out]; rintro e w2 ⟨rfl, rfl⟩))
      go_ret
      exact ⟨rfl, hb1⟩
    · have H2 := Lib.hid h2
      have hpos : 0 < xs.length := by
        have h := H1.out
        unfold lsValid inR at h
        simp at h
        omega
      have HR := Lib.hid (show leaseKeys xs o = (keysTo xs o 64 : Int) by unfold leaseKeys; rw [H1.out, h2]; rfl)
      rw [HR.out]
      have HPOS := Lib.hid hpos
      clear h2 hpos
      go_enter Tryd.func22, Tryd.ntmps22
      go_wp2_with (first | (go_at_call 21; refine (iLeasesValid_any _ xs _ (by exact HV.out)).mono ?_; rw [H1.out]; rintro e w1 ⟨rfl, hb1⟩) | (go_at_call 37; refine (posok_any _ _).mono ?_; rw [H2.out]; rintro e w2 ⟨rfl, rfl⟩))
      go_loopw [5, 15] (fun s5 s15 wr => ∃ k : Nat, k ≤ 64 ∧ s15 = .int .i64 k ∧ s5 = .int .i64 (keysTo xs o k) ∧ Below w.heap.size w wr) (fun _ s _ => 64 - (intOf s).toNat)
      case atStart => exact ⟨0, Nat.zero_le _, rfl, rfl, hb1⟩
      case round =>
        obtain ⟨k, hk, rfl, rfl, hbel⟩ := hrel
        have hsz := hbel.size
        by_cases hlt : k < 64
        · have hkl := keysTo_le xs o k
          obtain ⟨J, hJ⟩ : ∃ J, atL xs (k : Int) = J := ⟨_, rfl⟩
          have hJl := atL_lt HPOS.out (k : Int)
          obtain ⟨n, hn⟩ : ∃ n, xs.getD J default = n := ⟨_, rfl⟩
          have hS : keysTo xs o (k + 1) = keysTo xs o k + if n.b = o then 1 else 0 := by show keysTo xs o k + (if (holdL xs (k : Int)).b = o then 1 else 0) = _; unfold holdL; rw [hJ, hn]
          have HS := Lib.hid hS
          rw [hJ] at hJl
          have HJ := Lib.hid hJ
          have HN := Lib.hid hn
          generalize keysTo xs o k = c at *
          have hj0 : (0 : Int) ≤ (J : Int) := by omega
          have hj1 : (J : Int) < (xs.length : Int) := by omega
          clear hJ hn hS
          go_wp2_with (go_at_call 38; refine (leaseAt_any _ xs k _ (by exact HV.out.below hbel (Nat.le_refl _))).mono ?_; rw [HJ.out]; rintro e w2 ⟨rfl, hb2⟩; have hb12 := hbel.trans (hb2.mono hsz); obtain ⟨b, oo, rfl, hbl, q0, q1, q2⟩ := (HV.out.below hb12 (Nat.le_refl _)).tr hJl; rw [HN.out] at q0 q1 q2)
          · have hq : (n.b == o) = true := by assumption
            go_roundw
            case rel => exact ⟨k + 1, by omega, by go_num, by rw [HS.out, if_pos (by simpa using hq)]; go_num, hb12⟩
            case measure => simp [intOf]; omega
          · have hq : (n.b == o) = false := by assumption
            go_roundw
            case rel => exact ⟨k + 1, by omega, by go_num, by rw [HS.out, if_neg (by simpa using hq)]; rfl, hb12⟩
            case measure => simp [intOf]; omega
        · obtain rfl : k = 64 := by omega
          go_wp2
          go_ret
          exact ⟨rfl, hbel⟩

end Go.Proofs.YtdcjacgaakpejaaDoor
