/-
  Contracts: what a node skips, and the principals, of the reference.
-/
import Derived.Test.YtojpfbbgpcafnaaFind
namespace Go.Proofs.Ytojpfbbgpcafnaa
open Go.RowKit

set_option maxHeartbeats 400000 in
theorem l3Skipped_any (i bf x : Int) (va : Value) (af : List Int) (w : World) (ha : IntsAt w va af) :
    Calls Try.prog 107 #[.agg #[.int .i64 i, .int .i64 bf, va], .int .i64 x] w fun e w' => e = .returned (.bool (skip ⟨i, bf, af⟩ x)) ∧ Below w.heap.size w w' := by
  obtain ⟨pa, capa, rfl, hca, hma, ha4⟩ := ha
  unfold maxLen at hma
  have HB := Lib.hid ((Below.refl w.heap.size w).alloc (Nat.le_refl _) (.cells #[.int .i64 i, .int .i64 bf, .slice pa af.length capa] 31))
  go_enter Try.func107, Try.ntmps107
  go_wp2
  go_loop [4, 5, 6] (fun _ s5 s6 => ∃ (k : Nat) (a : Int), k ≤ af.length ∧ s6 = .int .i64 k ∧ s5 = .int .i64 a ∧ Hid (skip ⟨i, bf, af⟩ x = skipFrom x a (af.drop k))) (fun _ _ s => af.length - (intOf s).toNat)
  case atStart => exact ⟨0, i, Nat.zero_le _, rfl, rfl, Lib.hid rfl⟩
  case round =>
    obtain ⟨k, a, hk, rfl, rfl, HS⟩ := hrel
    by_cases hlt : k < af.length
    · rcases ha4 with ⟨rfl, -⟩ | ⟨b, o, rfl, hb, hcell⟩
      · simp at hlt
      have h1 := hcell k hlt
      obtain ⟨t, ht⟩ : ∃ y, af.getD k 0 = y := ⟨_, rfl⟩
      have HD := Lib.hid (skipFrom_drop (x := x) (a := a) hlt)
      rw [ht] at h1 HD
      clear hcell ht
      go_wp2_with (go_at_call 80; refine (sBetween_any _ _ _ _).mono ?_; rintro e w' ⟨rfl, rfl⟩)
      · have hf : btw a x t = true := by assumption
        go_ret
        exact ⟨ret_bool (by rw [HS.out, HD.out, hf]; rfl), HB.out⟩
      · have hf : btw a x t = false := by assumption
        have HF := Lib.hid hf
        clear hf
        go_round
        case rel => exact ⟨k + 1, t, by omega, by go_num, rfl, Lib.hid (by rw [HS.out, HD.out, HF.out]; rfl)⟩
        case measure => simp [intOf]; omega
    · obtain rfl : k = af.length := by omega
      go_wp2
      go_ret
      exact ⟨ret_bool (by rw [HS.out, skipFrom_end]), HB.out⟩

theorem Try.infoInt : (Try.prog.info? 3).map (fun i => (i.zero, i.size, i.bytes)) = some (some (.int .i64 0), 1, 8) := by kernel_rfl

set_option maxHeartbeats 1000000 in
theorem l3Principals_any (v : Value) (r : List Nd) (w : World) (hv : RingAt w v r) (hbig : r.length ≤ 1048576) :
    Calls Try.prog 84 #[v] w fun e w' => ∃ u, e = .returned u ∧ w'.ownsRow w.heap.size 3 1 u (prin r).length ((prin r).map (Value.int .i64)) ∧ Below w.heap.size w w' := by
  obtain ⟨p, cap, rfl, hc, hm, h4⟩ := hv
  unfold maxLen at hm
  obtain ⟨i0, hi, hz0, hz1, hz2⟩ := info_parts Try.infoInt
  go_enter Try.func84, Try.ntmps84
  go_wp2
  go_loopw [3, 4, 5, 6] (fun s3 s4 _ _ wr => ∃ k : Nat, k ≤ r.length ∧ s4 = .int .i64 k ∧ wr.ownsRow w.heap.size 3 1 s3 (prinTo r k).length ((prinTo r k).map (Value.int .i64)) ∧ Below w.heap.size w wr) (fun _ s _ _ _ => r.length - (intOf s).toNat)
  case atStart =>
    refine ⟨0, Nat.zero_le _, rfl, ?_, (Below.refl _ _).alloc (Nat.le_refl _) _⟩
    rw [prinTo_zero]
    exact World.ownsRow_made _ _ _ (Nat.le_refl _) (by unfold maxLen; omega) rfl
  case round =>
    obtain ⟨k, hk, rfl, hown, hbel⟩ := hrel
    by_cases hlt : k < r.length
    · rcases h4 with ⟨rfl, -⟩ | ⟨b, o, rfl, hb, hcell⟩
      · simp at hlt
      obtain ⟨pi, hpi⟩ : ∃ x, (r.getD k default).id = x := ⟨_, rfl⟩
      have HPI := Lib.hid hpi
      obtain ⟨wo, rfl⟩ : ∃ wo : World, wo = wr := ⟨_, rfl⟩
      go_wp2
      go_loopw [5, 6] (fun s5 s6 wr => ∃ j : Nat, j ≤ r.length ∧ s6 = .int .i64 j ∧ s5 = .bool (anyTo (fun n => skip n pi) r j) ∧ Below wo.heap.size wo wr) (fun _ s _ => r.length - (intOf s).toNat)
      case atStart => exact ⟨0, Nat.zero_le _, rfl, by rw [anyTo_zero], Below.refl _ _⟩
      case round =>
        obtain ⟨j, hj, rfl, rfl, hbx⟩ := hrel
        have hww : w.heap.size ≤ wo.heap.size := hbel.size
        have hbwx : b < wr.heap.size := Nat.lt_of_lt_of_le hb (Nat.le_trans hww hbx.size)
        have hbel2 : Below w.heap.size w wr := hbel.trans (hbx.mono hww)
        have h1' := ((hcell k hlt).below hb hbel2 (Nat.le_refl _)).1
        rw [hpi] at h1'
        have hsz : w.heap.size ≤ wr.heap.size := hbel2.size
        by_cases hjl : j < r.length
        · obtain ⟨h1, h2, va, h3, hia⟩ := (hcell j hjl).below hb hbel2 (Nat.le_refl _)
          obtain ⟨af, haf⟩ : ∃ x, (r.getD j default).after = x := ⟨_, rfl⟩
          obtain ⟨i, hi'⟩ : ∃ x, (r.getD j default).id = x := ⟨_, rfl⟩
          obtain ⟨bf, hbf⟩ : ∃ x, (r.getD j default).before = x := ⟨_, rfl⟩
          have HS := Lib.hid (anyTo_succ (p := fun n => skip n pi) hjl)
          have hnd : r.getD j default = ⟨i, bf, af⟩ := by rw [← haf, ← hi', ← hbf]
          rw [hnd] at HS
          rw [hi'] at h1
          rw [hbf] at h2
          rw [haf] at hia
          have HIA := Lib.hid hia
          clear hcell hpi haf hi' hbf hnd hia
          cases hsk : anyTo (fun n => skip n pi) r j
          · go_upto_region 9 with fail
            go_region_held3 (fun w' => w'.cell? ⟨b, o + j * 3, none⟩ = some (.int .i64 i) ∧ w'.cell? ⟨b, o + j * 3 + 1, none⟩ = some (.int .i64 bf) ∧ w'.cell? ⟨b, o + j * 3 + 2, none⟩ = some va ∧ w'.cell? ⟨b, o + k * 3, none⟩ = some (.int .i64 pi)) (go_keep)
              (first
                | (go_at_call 107; refine (l3Skipped_any i bf pi va af _ (by exact HIA.out)).mono ?_; rintro e w1 ⟨rfl, hb1⟩; have hcc : ∀ o', w1.cell? ⟨b, o', none⟩ = wr.cell? ⟨b, o', none⟩ := fun o' => hb1.cell (p := ⟨b, o', none⟩) hbwx))
            rw [hsk, Bool.false_or] at HS
            go_wp2
            go_roundw
            case rel => exact ⟨j + 1, by omega, by go_num, by rw [HS.out], hbx.drew.trans (hb1.mono hbx.size)⟩
            case measure => simp [intOf]; omega
          · rw [hsk] at HS
            go_upto_region 9 with fail
            go_quiet (fail)
            go_wp2
            go_roundw
            case rel => exact ⟨j + 1, by omega, by go_num, by rw [HS.out]; rfl, (below_drewN hbx _)⟩
            case measure => simp [intOf]; omega
        · obtain rfl : j = r.length := by omega
          have hall := anyTo_all (p := fun n => skip n pi) (r := r)
          cases hsk : anyTo (fun n => skip n pi) r r.length
          · rw [hsk, ← hpi] at hall
            have HY := Lib.hid (prinTo_yes hlt hall.symm)
            rw [hpi] at HY
            have hown2 := ownsRow_below hown hbx (Nat.le_refl _)
            have hlen := prinTo_length r k
            clear hall hcell hpi hown
            go_wp2_with (at_builtin; (refine wpList_append_own _ rfl _ _ 29 rfl w.heap.size 3 i0 (.int .i64 0) 1 8 Try.underlying29 hi hz0 hz1 hz2 rfl (by decide) _ _ _ rfl (hown2.alloc _) ⟨wr.heap.size, 0, none⟩ 1 1 [.int .i64 pi] rfl rfl (cell_one_new _ _ _) (by simp [Value.oneCell']) (by unfold maxLen; omega) (by omega) (by simp; omega) ?_); intro v' w1 hown' hgrow _)
            go_roundw
            case rel =>
              refine ⟨k + 1, by omega, by go_num, ?_, ((hbel2.alloc hsz _).grown hgrow (by simp; omega) (fun q hq => (hown2.lt q hq).1))⟩
              rw [HY.out]
              simpa using hown'
            case measure => simp [intOf]; omega
          · rw [hsk, ← hpi] at hall
            have HN := Lib.hid (prinTo_no hlt hall.symm)
            clear hall hcell hpi
            go_wp2
            go_roundw
            case rel => exact ⟨k + 1, by omega, by go_num, by rw [HN.out]; exact ownsRow_below hown hbx (Nat.le_refl _), hbel2⟩
            case measure => simp [intOf]; omega
    · obtain rfl : k = r.length := by omega
      rw [prinTo_all] at hown
      go_wp2
      go_ret
      exact ⟨_, rfl, hown, hbel⟩

end Go.Proofs.Ytojpfbbgpcafnaa
