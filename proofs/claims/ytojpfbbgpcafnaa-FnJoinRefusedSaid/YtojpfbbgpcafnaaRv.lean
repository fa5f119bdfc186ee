/-
  Contracts: RingValid of the program and of the reference.
-/
import Derived.Test.YtojpfbbgpcafnaaBase
namespace Go.Proofs.Ytojpfbbgpcafnaa
open Go.RowKit

theorem rvHead_eq {r : List Nd} {k : Nat} {i bf pid : Int} {l : Nat} (h1 : (r.getD k default).id = i) (h2 : (r.getD k default).before = bf) (h3 : (r.getD k default).after.length = l) (h4 : (r.getD (k - 1) default).id = pid) :
    rvHead r k = (okP i && (decide (k = 0) || decide (pid < i)) && (decide (bf = -1) || okP bf) && decide (l = 2)) := by
  unfold rvHead; rw [h1, h2, h3, h4]
theorem ringValid_false {r : List Nd} {k : Nat} (hk : k < r.length) (h : rvAt r k = false) : ringValid r = false := by
  unfold ringValid; rw [allBelow_false hk h]; simp
theorem rvAt_head {r : List Nd} {k : Nat} (h : rvHead r k = false) : rvAt r k = false := by unfold rvAt; rw [h]; rfl
theorem rvAt_tail {r : List Nd} {k : Nat} (h : posAll (r.getD k default).after = false) : rvAt r k = false := by unfold rvAt; rw [h]; simp
theorem ringValid_end {r : List Nd} (h : allBelow (rvAt r) r.length = true) : ringValid r = decide ((r.length : Int) ≤ 10) := by unfold ringValid; rw [h]; simp; omega


set_option maxHeartbeats 1000000 in
theorem sRingValid_any (v : Value) (r : List Nd) (w : World) (hv : RingAt w v r) :
    Calls Try.prog 46 #[v] w fun e w' => e = .returned (.bool (ringValid r)) ∧ Below w.heap.size w w' := by
  obtain ⟨p, cap, rfl, hc, hm, h4⟩ := hv
  unfold maxLen at hm
  go_enter Try.func46, Try.ntmps46
  go_wp2
  go_loopw [3] (fun i wr => ∃ k : Nat, k ≤ r.length ∧ i = .int .i64 k ∧ allBelow (rvAt r) k = true ∧ Below w.heap.size w wr) (fun i _ => r.length - (intOf i).toNat)
  case atStart => exact ⟨0, Nat.zero_le _, rfl, rfl, Below.refl _ _⟩
  case round =>
    obtain ⟨k, hk, rfl, hall, hbel⟩ := hrel
    have HA := Lib.hid hall
    clear hall
    by_cases hlt : k < r.length
    · rcases h4 with ⟨rfl, -⟩ | ⟨b, o, rfl, hb, hcell⟩
      · simp at hlt
      obtain ⟨h1, h2, va, h3, hia⟩ := (hcell k hlt).below hb hbel (Nat.le_refl _)
      obtain ⟨pid, hpid⟩ : ∃ x, (r.getD (k - 1) default).id = x := ⟨_, rfl⟩
      have hpv : 0 < k → wr.cell? ⟨b, o + (k - 1) * 3, none⟩ = some (.int .i64 pid) := fun h0 => hpid ▸ ((hcell (k - 1) (by omega)).below hb hbel (Nat.le_refl _)).1
      have HIA := Lib.hid hia
      obtain ⟨pa, capa, rfl, hca, hma, ha4⟩ := hia
      unfold maxLen at hma
      obtain ⟨af, has⟩ : ∃ x, (r.getD k default).after = x := ⟨_, rfl⟩
      obtain ⟨l, hl⟩ : ∃ x, af.length = x := ⟨_, rfl⟩
      obtain ⟨i, hi⟩ : ∃ x, (r.getD k default).id = x := ⟨_, rfl⟩
      obtain ⟨bf, hbf⟩ : ∃ x, (r.getD k default).before = x := ⟨_, rfl⟩
      have HR := Lib.hid (rvHead_eq hi hbf (has ▸ hl) hpid)
      have HT := Lib.hid (show posAll af = false → rvAt r k = false from fun h => rvAt_tail (by rw [has]; exact h))
      have HT2 := Lib.hid (show rvHead r k = true → posAll af = true → rvAt r k = true from fun h h' => by unfold rvAt; rw [h, has, h']; rfl)
      rw [has, hl] at h3 hca
      rw [has] at ha4
      rw [hi] at h1
      rw [hbf] at h2
      have HL := Lib.hid hl
      have hbw : b < wr.heap.size := Nat.lt_of_lt_of_le hb hbel.size
      clear hcell hl hpid hi hbf has
      go_upto_region 5 with fail
      go_cut [51] (fun s wx => ∃ c, s = .bool c ∧ Hid (c = !rvHead r k) ∧ ∃ nq, wx = (wr.alloc (Obj.cells #[Value.int IntKind.i64 i, Value.int IntKind.i64 bf, Value.slice pa l capa] 31)).drewN nq)
      case first =>
        refine wp_region_quiet_lit (by kernel_rfl) (by kernel_rfl) ?_
        repeat (any_goals (first | go_big_quiet_step ((go_at_call 78; exact Calls.quiet_left (l1Point_any _ _))) | quiet_step ((go_at_call 78; exact Calls.quiet_left (l1Point_any _ _))) | (refine wpQuiet_step (fun K hK => ?_); go_simp; split <;> (refine hK _ ?_; clear hK K))))
        all_goals
          refine wpQuiet_nil ?_
          intro _ hw'
          obtain ⟨nq, hw''⟩ := hw'
          subst hw''
          go_wp2
          go_meet
          refine ⟨_, rfl, Lib.hid ?_, nq, rfl⟩
          (rw [HR.out]; first | (simp [*]; done) | (simp [*]; omega) | (simp [*]; rw [Bool.eq_iff_iff]; simp; omega))
      case rest =>
        obtain ⟨c, rfl, hcc, nq, rfl⟩ := hcut
        have HB2 := Lib.hid (below_drewN (hbel.alloc hbel.size (Obj.cells #[Value.int IntKind.i64 i, Value.int IntKind.i64 bf, Value.slice pa l capa] 31)) nq)
        cases c
        rotate_left
        · go_wp2
          go_ret
          exact ⟨ret_bool (ringValid_false hlt (rvAt_head (by have := hcc.out; simpa using this))).symm, HB2.out⟩
        · go_wp2
          go_loop [2, 5] (fun _ s => ∃ j : Nat, j ≤ l ∧ s = .int .i64 j ∧ allBelow (fun i => okP (af.getD i 0)) j = true) (fun _ s => l - (intOf s).toNat)
          case atStart => exact ⟨0, Nat.zero_le _, rfl, rfl⟩
          case round =>
            obtain ⟨j, hj, rfl, hall⟩ := hrel
            have HA' := Lib.hid hall
            clear hall
            by_cases hjl : j < l
            · rcases ha4 with ⟨rfl, -⟩ | ⟨b', o', rfl, hb', hcell'⟩
              · have := HL.out; simp at this; omega
              have hjl' : j < af.length := by have := HL.out; omega
              have hce := hcell' j hjl'
              have hgd : af.getD j 0 = af[j] := by simp [hjl']
              have HG := Lib.hid hgd
              clear hcell' hgd
              go_wp2_with (go_at_call 78; refine (l1Point_any _ _).mono ?_; rintro e w' ⟨rfl, rfl⟩)
              · have hf : (!okP af[j]) = true := by assumption
                go_ret
                exact ⟨ret_bool (ringValid_false hlt (HT.out (allBelow_false hjl' (by rw [HG.out]; simpa using hf)))).symm, HB2.out⟩
              · have hf : (!okP af[j]) = false := by assumption
                go_round
                case rel => exact ⟨j + 1, by omega, by go_num, allBelow_succ HA'.out (by rw [HG.out]; simpa using hf)⟩
                case measure => simp [intOf]; omega
            · have hjl' : j = af.length := by have := HL.out; omega
              have HJ := Lib.hid hjl'
              clear hjl'
              go_wp2
              go_roundw
              case rel => exact ⟨k + 1, by omega, by go_num, allBelow_succ HA.out (HT2.out (by have := hcc.out; simpa using this) (by unfold posAll; rw [← HJ.out]; exact HA'.out)), HB2.out⟩
              case measure => simp [intOf]; omega
    · obtain rfl : k = r.length := by omega
      go_wp2
      go_ret
      exact ⟨ret_bool (ringValid_end HA.out).symm, hbel⟩

end Go.Proofs.Ytojpfbbgpcafnaa
