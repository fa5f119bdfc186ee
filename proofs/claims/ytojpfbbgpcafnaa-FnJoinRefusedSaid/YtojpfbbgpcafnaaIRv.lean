/-
  Contracts: RingValid of the program.
-/
import Derived.Test.YtojpfbbgpcafnaaBase
namespace Go.Proofs.Ytojpfbbgpcafnaa
open Go.RowKit

theorem irvHead_eq {r : List Nd} {k : Nat} {i bf pid : Int} {l : Nat} (h1 : (r.getD k default).id = i) (h2 : (r.getD k default).before = bf) (h3 : (r.getD k default).after.length = l) (h4 : (r.getD (k - 1) default).id = pid) :
    rvHead r k = (okP i && (decide (k = 0) || decide (pid < i)) && (decide (bf = -1) || okP bf) && decide (l = 2)) := by
  unfold rvHead; rw [h1, h2, h3, h4]
theorem iringValid_false {r : List Nd} {k : Nat} (hk : k < r.length) (h : rvAt r k = false) : ringValid r = false := by
  unfold ringValid; rw [allBelow_false hk h]; simp
theorem ringValid_big {r : List Nd} (h : 10 < r.length) : ringValid r = false := by unfold ringValid; simp; intro h'; omega
theorem iringValid_end {r : List Nd} (hl : r.length ≤ 10) (h : allBelow (rvAt r) r.length = true) : ringValid r = true := by unfold ringValid; rw [h]; simp [hl]

set_option maxHeartbeats 1000000 in
theorem iRingValid_any (v : Value) (r : List Nd) (w : World) (hv : RingAt w v r) :
    Calls Try.prog 48 #[v] w fun e w' => e = .returned (.bool (ringValid r)) ∧ Below w.heap.size w w' := by
  obtain ⟨p, cap, rfl, hc, hm, h4⟩ := hv
  unfold maxLen at hm
  by_cases hl10 : 10 < r.length
  · go_enter Try.func48, Try.ntmps48
    go_wp2
    go_ret
    exact ⟨ret_bool (ringValid_big hl10).symm, Below.refl _ _⟩
  have hl10' : r.length ≤ 10 := by omega
  clear hl10
  go_enter Try.func48, Try.ntmps48
  go_wp2
  go_loopw [2, 3, 4, 10] (fun _ _ _ s wr => ∃ k : Nat, k ≤ r.length ∧ s = .int .i64 k ∧ allBelow (rvAt r) k = true ∧ Below w.heap.size w wr) (fun _ _ _ s _ => r.length - (intOf s).toNat)
  case atStart => exact ⟨0, Nat.zero_le _, rfl, rfl, Below.refl _ _⟩
  case round =>
    obtain ⟨k, hk, rfl, hall, hbel⟩ := hrel
    have HA := Lib.hid hall
    clear hall
    by_cases hlt : k < r.length
    · rcases h4 with ⟨rfl, -⟩ | ⟨b, o, rfl, hb, hcell⟩
      · simp at hlt
      obtain ⟨h1, h2, va, h3, hia⟩ := (hcell k hlt).below hb hbel (Nat.le_refl _)
      obtain ⟨pid, hpid⟩ : ∃ x, (r.getD (k - 1) default).id = x := ⟨_, rfl⟩
      have hpv : 0 < k → wr.cell? ⟨b, o + (k - 1) * 3, none⟩ = some (.int .i64 pid) := fun h0 => hpid ▸ ((hcell (k - 1) (by omega)).below hb hbel (Nat.le_refl _)).1
      obtain ⟨af, haf⟩ : ∃ x, (r.getD k default).after = x := ⟨_, rfl⟩
      obtain ⟨l, hl⟩ : ∃ x, af.length = x := ⟨_, rfl⟩
      obtain ⟨i, hi⟩ : ∃ x, (r.getD k default).id = x := ⟨_, rfl⟩
      obtain ⟨bf, hbf⟩ : ∃ x, (r.getD k default).before = x := ⟨_, rfl⟩
      have HR := Lib.hid (irvHead_eq hi hbf (haf ▸ hl) hpid)
      obtain ⟨hd, hhd⟩ : ∃ x, (okP i && (decide (k = 0) || decide (pid < i)) && (decide (bf = -1) || okP bf)) = x := ⟨_, rfl⟩
      rw [hhd] at HR
      have HH := Lib.hid hhd
      clear hhd
      have HV := Lib.hid (show rvAt r k = (rvHead r k && posAll af) by unfold rvAt; rw [haf])
      rw [haf] at hia
      have HIA := Lib.hid hia
      obtain ⟨pa, capa, rfl, hca, hma, -⟩ := hia
      unfold maxLen at hma
      rw [hl] at h3 hca HIA
      rw [hi] at h1
      rw [hbf] at h2
      have hbw : b < wr.heap.size := Nat.lt_of_lt_of_le hb hbel.size
      clear hcell hl hpid hi hbf haf
      have HB2 := Lib.hid (hbel.alloc hbel.size (Obj.cells #[Value.int IntKind.i64 i, Value.int IntKind.i64 bf, Value.slice pa l capa] 31))
      go_upto_region 6 with fail
      go_cut [44] (fun s wx => ∃ c, s = .bool c ∧ Hid (c = !hd) ∧ ∃ nq, wx = (wr.alloc (Obj.cells #[Value.int IntKind.i64 i, Value.int IntKind.i64 bf, Value.slice pa l capa] 31)).drewN nq)
      case first =>
        refine wp_region_quiet_lit (by kernel_rfl) (by kernel_rfl) ?_
        repeat (any_goals (first | go_big_quiet_step ((go_at_call 52; exact Calls.quiet_left (posok_any _ _))) | quiet_step ((go_at_call 52; exact Calls.quiet_left (posok_any _ _))) | (refine wpQuiet_step (fun K hK => ?_); go_simp; split <;> (refine hK _ ?_; clear hK K))))
        all_goals
          refine wpQuiet_nil ?_
          intro _ hw'
          obtain ⟨nq, hw''⟩ := hw'
          subst hw''
          go_wp2
          go_meet
          refine ⟨_, rfl, Lib.hid ?_, nq, rfl⟩
          rw [← HH.out]
          cases h5 : okP bf <;> cases h6 : okP i <;> first | (simp [*] at *; done) | (simp [*]; done) | (simp [*]; omega) | (simp [*]; rw [Bool.eq_iff_iff]; simp; omega)
      case rest =>
        obtain ⟨c, rfl, hcc, nq, rfl⟩ := hcut
        cases c
        rotate_left
        · go_wp2
          go_ret
          exact ⟨ret_bool (iringValid_false hlt (by have := hcc.out; rw [HV.out, HR.out]; simp at this; simp [this])).symm, below_drewN HB2.out nq⟩
        · cases hl2 : ((l : Int) != 2)
          · have HL2 := Lib.hid hl2
            cases hpa : posAll af
            all_goals
              have HP := Lib.hid hpa
              clear hpa
              go_wp2_with (go_at_call 67; refine (positions_any _ af _ (by exact HIA.out.below (below_drewN (((Below.refl wr.heap.size wr)).alloc (Nat.le_refl _) _) nq) (Nat.le_refl _))).mono ?_; rw [HP.out]; rintro e w' ⟨rfl, rfl⟩)
            · go_ret
              exact ⟨ret_bool (iringValid_false hlt (by rw [HV.out, HP.out]; simp)).symm, below_drewN HB2.out nq⟩
            · go_roundw
              case rel => exact ⟨k + 1, by omega, by go_num, allBelow_succ HA.out (by have := hcc.out; have h2 := HL2.out; simp at this h2; rw [HV.out, HR.out, HP.out, this]; simp; omega), below_drewN HB2.out nq⟩
              case measure => simp [intOf]; omega
          · have HL2 := Lib.hid hl2
            go_wp2
            go_ret
            exact ⟨ret_bool (iringValid_false hlt (by have h2 := HL2.out; simp at h2; rw [HV.out, HR.out]; simp; intro _ h; omega)).symm, below_drewN HB2.out nq⟩
    · obtain rfl : k = r.length := by omega
      go_wp2
      go_ret
      exact ⟨ret_bool (iringValid_end hl10' HA.out).symm, hbel⟩

end Go.Proofs.Ytojpfbbgpcafnaa
