/-
  Walks: the law FnLookupHalf.
-/
import Derived.Test.YtagpkemlndkcjaaLkQ
import Derived.Test.YtagpkemlndkcjaaLkE
import Derived.Test.YtagpkemlndkcjaaLkP
namespace Go.Proofs.Ytagpkemlndkcjaa
open Go.RowKit

theorem path_one {L : List Int} {id key : Int} {xs ys : List Int} (hx : PathAns L id key xs) (hy : PathAns L id key ys) : ys = xs := by
  cases h : ((ndB L && decide (id ∈ L)) && okP key)
  · rw [hx.2 h, hy.2 h]
  · exact whole_one (hy.1 h) (hx.1 h)
theorem path_whole {L : List Int} {id key : Int} {xs : List Int} (hx : PathAns L id key xs) (h0 : 0 < xs.length) : ndB L = true ∧ okP key = true ∧ WholeL L key id xs := by
  cases h : ((ndB L && decide (id ∈ L)) && okP key)
  · have := hx.2 h; subst this; simp at h0
  · have h' : (ndB L = true ∧ id ∈ L) ∧ okP key = true := by simpa using h
    exact ⟨h'.1.1, h'.2, hx.1 h⟩

theorem two_cells {w : World} {q : Option Addr} {c k : Nat} {ys : List Int} (h : IntsAt w (.slice q ys.length c) ys) (hk : k < ys.length) (_h1 : 1 ≤ k) :
    ∃ b o, q = some ⟨b, o, none⟩ ∧ w.cell? ⟨b, o + (k - 1), none⟩ = some (.int .i64 (ys.getD (k - 1) 0)) ∧ w.cell? ⟨b, o + k, none⟩ = some (.int .i64 (ys.getD k 0)) ∧ b < w.heap.size := by
  obtain ⟨p', c', e, -, -, h4⟩ := h
  cases e
  rcases h4 with ⟨rfl, -⟩ | ⟨b, o, rfl, hb, hc⟩
  · simp at hk
  · exact ⟨b, o, rfl, hc _ (by omega), hc _ hk, hb⟩
set_option maxHeartbeats 4000000 in
theorem lawLookupHalf_any (v : Value) (w : World) (h : CodeAt w v) :
    Calls Try.prog 3 #[v] w fun e w' => e = .returned (.bool true) ∧ Below w.heap.size w w' := by
  have H := Lib.hid h
  obtain ⟨pb, n, cap, rfl, hn1, hn2, -⟩ := h
  unfold maxLen at hn2
  by_cases hbig : 1048576 < n
  · go_enter Try.func3, Try.ntmps3
    go_wp2
    go_ret
    exact ⟨rfl, Below.refl _ _⟩
  have hbig' : n ≤ 1048576 := by omega
  clear hbig
  go_enter Try.func3, Try.ntmps3
  go_wp2_with fail
  refine (drawLookupPath_any _ _ H.out).mono ?_
  rintro e w1 ⟨u, L, id, key, rfl, hu, hb1⟩
  have HU := Lib.hid hu
  clear hu
  go_wp2_with fail
  refine (iLookupPath_any u L id key _ HU.out).mono ?_
  rintro e w2 ⟨x, xs, rfl, hA, ho2, hb2⟩
  have hb02 := hb1.trans (hb2.mono hb1.size)
  have HA := Lib.hid hA
  have hx2 := intsAt_own ho2
  clear hA ho2
  go_wp2_with fail
  refine (sLookupPath_any u L id key _ (HU.out.below hb2 (Nat.le_refl _))).mono ?_
  rintro e w3 ⟨y, ys, rfl, hA', hl65, ho3, hb3⟩
  obtain rfl : ys = xs := path_one HA.out hA'
  have hb03 := hb02.trans (hb3.mono hb02.size)
  have hb13 := hb2.trans (hb3.mono hb2.size)
  have HX := Lib.hid (hx2.below hb3 (Nat.le_refl _))
  have HY := Lib.hid ho3.at
  obtain ⟨px, cx, rfl⟩ : ∃ p c, x = .slice p ys.length c := by obtain ⟨p, c, e, -⟩ := hx2; exact ⟨p, c, e⟩
  clear hA' hx2 ho3
  go_wp2_with fail
  refine (sameInts_any _ _ ys ys _ HX.out HY.out).mono ?_
  rw [decide_eq_true rfl]
  rintro e w4 ⟨rfl, d4, hd4⟩
  have hb4 : Below w3.heap.size w3 w4 := by rw [hd4]; exact below_drewN (Below.refl _ _) _
  have hb04 := hb03.trans (hb4.mono hb03.size)
  have hb14 := hb13.trans (hb4.mono hb13.size)
  have HX4 := Lib.hid (HX.out.below hb4 (Nat.le_refl _))
  have HY4 := Lib.hid (HY.out.below hb4 (Nat.le_refl _))
  clear hd4
  by_cases h3 : ys.length < 3
  · have h3' : (ys.length : Int) < 3 := by omega
    go_wp2_with fail
    refine (sameInts_any _ _ ys ys _ HX4.out HY4.out).mono ?_
    rw [decide_eq_true rfl]
    rintro e w5 ⟨rfl, d5, hd5⟩
    have hb5 : Below w4.heap.size w4 w5 := by rw [hd5]; exact below_drewN (Below.refl _ _) _
    clear hd5
    go_wp2
    go_ret
    exact ⟨rfl, hb04.trans (hb5.mono hb04.size)⟩
  · have h3' : ¬ ((ys.length : Int) < 3) := by omega
    obtain ⟨hn, hk, hW⟩ := path_whole HA.out (show 0 < ys.length by omega)
    have HN := Lib.hid hn
    have HK := Lib.hid hk
    have HW := Lib.hid hW
    obtain ⟨p, hp⟩ : ∃ p, befFrom L key L.length = p := ⟨_, rfl⟩
    have HP := Lib.hid hp
    clear hn hk hW hp
    go_wp2_with fail
    refine (iNodesBefore_any u L key _ (HU.out.below hb14 (Nat.le_refl _)) HN.out HK.out).mono ?_
    rw [HP.out]
    rintro e w5 ⟨rfl, hb5⟩
    have hb05 := hb04.trans (hb5.mono hb04.size)
    have HX5 := Lib.hid (HX4.out.below hb5 (Nat.le_refl _))
    have hpm := (bef_spec (ndB_iff.1 HN.out).2 (HW.out.1.mem 0 (by omega)) HK.out).1
    rw [HP.out] at hpm
    have hpr := nodes_mem (ndB_iff.1 HN.out).2 hpm
    have HPK := Lib.hid (num_okP hpr.1 hpr.2)
    clear hpm
    go_wp2
    go_loopw [9] (fun s wr => ∃ k : Nat, 1 ≤ k ∧ k ≤ ys.length ∧ s = .int .i64 k ∧ Below w5.heap.size w5 wr) (fun s _ => ys.length - (intOf s).toNat)
    case atStart => exact ⟨1, by omega, by omega, rfl, Below.refl _ _⟩
    case round =>
      obtain ⟨k, hk1, hkl, rfl, hbel⟩ := hrel
      by_cases hlt : k + 1 < ys.length
      · have hlt' : (k : Int) + 1 < (ys.length : Int) := by omega
        have hhalf := whole_half HW.out (ndB_iff.1 HN.out).2 HK.out hk1 hlt
        rw [HP.out] at hhalf
        obtain ⟨a, ha⟩ : ∃ a, ys.getD (k - 1) 0 = a := ⟨_, rfl⟩
        obtain ⟨b, hb⟩ : ∃ b, ys.getD k 0 = b := ⟨_, rfl⟩
        have har := nodes_mem (ndB_iff.1 HN.out).2 (HW.out.1.mem (k - 1) (by omega))
        have hbr := nodes_mem (ndB_iff.1 HN.out).2 (HW.out.1.mem k (by omega))
        obtain ⟨bb, oo, e5, ca, cb, hbb⟩ := two_cells (HX5.out.below hbel (Nat.le_refl _)) (show k < ys.length by omega) hk1
        cases e5
        rw [ha, hb] at hhalf
        rw [ha] at ca har
        rw [hb] at cb hbr
        have HAK := Lib.hid (num_okP har.1 har.2)
        have HBK := Lib.hid (num_okP hbr.1 hbr.2)
        obtain ⟨da, hda⟩ : ∃ d, dist a p = d := ⟨_, rfl⟩
        obtain ⟨db, hdb⟩ : ∃ d, dist b p = d := ⟨_, rfl⟩
        have hfa := dist_fit har hpr
        have hfb := dist_fit hbr hpr
        rw [hda, hdb] at hhalf
        rw [hda] at hfa
        rw [hdb] at hfb
        have HDA := Lib.hid hda
        have HDB := Lib.hid hdb
        have q0 : IntKind.i64.wrap ((k : Int) - 1) = ((k - 1 : Nat) : Int) := by
          have : (k : Int) - 1 = ((k - 1 : Nat) : Int) := by omega
          rw [this]; exact IntWalk.i64_in _ (by omega)
        have q1 : (k : Int) - 1 = ((k - 1 : Nat) : Int) := by omega
        have k0 : (0 : Int) ≤ ((k - 1 : Nat) : Int) := by omega
        have k1 : ((k - 1 : Nat) : Int) < (ys.length : Int) := by omega
        have k2 : (0 : Int) ≤ (k : Int) := by omega
        have k3 : (k : Int) < (ys.length : Int) := by omega
        clear ha hb hda hdb
        go_wp2_with fail
        refine (iDistance_is a p da HAK.out HPK.out HDA.out _).mono ?_
        rintro e w6 ⟨rfl, hb6⟩
        have cb6 := (hb6.cell (p := ⟨bb, oo + k, none⟩) hbb).trans cb
        clear ca cb
        go_wp2_with fail
        refine (iDistance_is b p db HBK.out HPK.out HDB.out _).mono ?_
        rintro e w7 ⟨rfl, hb7⟩
        have hbel7 := (hbel.trans (hb6.mono hbel.size)).trans (hb7.mono (hbel.trans (hb6.mono hbel.size)).size)
        clear q0 q1 k0 k1
        by_cases hd0 : 0 < db
        · have hd1 : ¬ da ≤ 2 * db := by omega
          clear hhalf
          go_wp2
          go_roundw
          case rel => exact ⟨k + 1, by omega, by omega, by go_num, hbel7⟩
          case measure => simp [intOf]; omega
        · clear hhalf
          go_wp2
          go_roundw
          case rel => exact ⟨k + 1, by omega, by omega, by go_num, hbel7⟩
          case measure => simp [intOf]; omega
      · have hlt' : ¬ ((k : Int) + 1 < (ys.length : Int)) := by omega
        go_wp2
        go_ret
        exact ⟨rfl, hb05.trans (hbel.mono hb05.size)⟩

end Go.Proofs.Ytagpkemlndkcjaa
