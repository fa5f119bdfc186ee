/-
  Contracts: what a node skips, and the principals, of the program.
-/
import Derived.Test.YtojpfbbgpcafnaaINode
import Derived.Test.YtojpfbbgpcafnaaFind
import Derived.Test.YtojpfbbgpcafnaaIRv
import Derived.Test.YtojpfbbgpcafnaaCopy
namespace Go.Proofs.Ytojpfbbgpcafnaa
open Go.RowKit

set_option maxHeartbeats 400000 in
theorem iSkips_any (i bf x : Int) (va : Value) (af : List Int) (w : World) (ha : IntsAt w va af) :
    Calls Try.prog 99 #[.agg #[.int .i64 i, .int .i64 bf, va], .int .i64 x] w fun e w' => e = .returned (.bool (cskip ⟨i, bf, af⟩ x)) ∧ Below w.heap.size w w' := by
  obtain ⟨pa, capa, rfl, hca, hma, ha4⟩ := ha
  unfold maxLen at hma
  have hB0 := (Below.refl w.heap.size w).alloc (Nat.le_refl _) (.cells #[.int .i64 i, .int .i64 bf, .slice pa af.length capa] 31)
  go_enter Try.func99, Try.ntmps99
  go_wp2
  go_loopw [4, 5, 7, 13] (fun _ s5 _ s13 wr => ∃ (k : Nat) (a : Int), k ≤ af.length ∧ s13 = .int .i64 k ∧ s5 = .int .i64 a ∧ Hid (cskip ⟨i, bf, af⟩ x = cskipFrom x a (af.drop k)) ∧ Below w.heap.size w wr) (fun _ _ _ s _ => af.length - (intOf s).toNat)
  case atStart => exact ⟨0, i, Nat.zero_le _, rfl, rfl, Lib.hid rfl, hB0⟩
  case round =>
    obtain ⟨k, a, hk, rfl, rfl, HS, hbel⟩ := hrel
    by_cases hlt : k < af.length
    · rcases ha4 with ⟨rfl, -⟩ | ⟨b, o, rfl, hb, hcell⟩
      · simp at hlt
      have h1 := (hbel.cell (p := ⟨b, o + k, none⟩) hb).trans (hcell k hlt)
      obtain ⟨t, ht⟩ : ∃ y, af.getD k 0 = y := ⟨_, rfl⟩
      have HD := Lib.hid (cskipFrom_drop (x := x) (a := a) hlt)
      have hsz : w.heap.size ≤ wr.heap.size := hbel.size
      rw [ht] at h1 HD
      clear hcell ht
      go_wp2_with (go_at_call 39; refine (iBetween_any _ _ _ _).mono ?_; rintro e w1 ⟨rfl, hb1⟩)
      · have hf : cbtw a x t = true := by assumption
        go_ret
        exact ⟨ret_bool (by rw [HS.out, HD.out, hf]; rfl), hbel.trans (hb1.mono hsz)⟩
      · have hf : cbtw a x t = false := by assumption
        have HF := Lib.hid hf
        clear hf
        go_roundw
        case rel => exact ⟨k + 1, t, by omega, by go_num, rfl, Lib.hid (by rw [HS.out, HD.out, HF.out]; rfl), hbel.trans (hb1.mono hsz)⟩
        case measure => simp [intOf]; omega
    · obtain rfl : k = af.length := by omega
      go_wp2
      go_ret
      exact ⟨ret_bool (by rw [HS.out, cskipFrom_end]), hbel⟩

theorem prinF_any (n q : Nd) (va : Value) (B : Nat) (w : World) (ha : IntsAt w va n.after) (hB : w.cell? ⟨B, 0, none⟩ = some (.int .i64 q.id)) :
    Calls Try.prog 98 #[.agg #[.int .i64 n.id, .int .i64 n.before, va], .pointer (some ⟨B, 0, none⟩)] w fun e w' => e = .returned (.bool (cskip n q.id)) ∧ Below w.heap.size w w' := by
  have HA := Lib.hid ha
  obtain ⟨pa, capa, rfl, -, -, -⟩ := ha
  have hlt : B < w.heap.size := World.block_lt_of_cell? w _ hB
  have hb := (Below.refl w.heap.size w).alloc (Nat.le_refl _) (.cells #[.int .i64 n.id, .int .i64 n.before, .slice pa n.after.length capa] 31)
  go_enter Try.func98, Try.ntmps98
  go_wp2_with (go_at_call 99; refine (iSkips_any n.id n.before q.id _ n.after _ (by exact HA.out.below hb (Nat.le_refl _))).mono ?_; rintro e w1 ⟨rfl, hb1⟩)
  go_ret
  exact ⟨rfl, hb.trans (hb1.mono hb.size)⟩

set_option maxHeartbeats 1000000 in
theorem idxPrin_any (v : Value) (r : List Nd) (B : Nat) (q : Nd) (w : World) (hv : RingAt w v r) (hB : w.cell? ⟨B, 0, none⟩ = some (.int .i64 q.id)) :
    Calls Try.prog 90 #[v, .func (.func 98) #[] #[.pointer (some ⟨B, 0, none⟩)]] w fun e w' => e = .returned (.int .i64 (idx (fun n => cskip n q.id) r)) ∧ Below w.heap.size w w' := by
  obtain ⟨p, cap, rfl, hc, hm, h4⟩ := hv
  unfold maxLen at hm
  go_enter Try.func90, Try.ntmps90
  go_wp2
  go_loopw [5, 8] (fun _ s8 wr => ∃ k : Nat, k ≤ r.length ∧ s8 = .int .i64 k ∧ Hid (∀ j, j < k → (fun n => cskip n q.id) (r.getD j default) = false) ∧ Below w.heap.size w wr) (fun _ s _ => r.length - (intOf s).toNat)
  case atStart => exact ⟨0, Nat.zero_le _, rfl, Lib.hid fun j hj => by omega, Below.refl _ _⟩
  case round =>
    obtain ⟨k, hk, rfl, HA, hbel⟩ := hrel
    by_cases hlt : k < r.length
    · rcases h4 with ⟨rfl, -⟩ | ⟨b, o, rfl, hb, hcell⟩
      · simp at hlt
      obtain ⟨h1, h2, va, h3, hia⟩ := (hcell k hlt).below hb hbel (Nat.le_refl _)
      obtain ⟨n, hn⟩ : ∃ x, r.getD k default = x := ⟨_, rfl⟩
      rw [hn] at h1 h2 hia
      have HN := Lib.hid hn
      have HI := Lib.hid hia
      obtain ⟨pa, capa, rfl, -, -, -⟩ := hia
      have hsz : w.heap.size ≤ wr.heap.size := hbel.size
      clear hcell hn
      go_wp2_with (first | (go_at_call 98; refine (prinF_any n q _ B _ HI.out ((hbel.cell (p := ⟨B, 0, none⟩) (World.block_lt_of_cell? w _ hB)).trans hB)).mono ?_; rintro e w1 ⟨rfl, hb1⟩))
      · have hf : (fun n => cskip n q.id) n = true := by assumption
        go_ret
        exact ⟨ret_int (idx_hit hlt (by rw [HN.out]; exact hf) HA.out).symm, hbel.trans (hb1.mono hsz)⟩
      · have hf : (fun n => cskip n q.id) n = false := by assumption
        go_roundw
        case rel =>
          refine ⟨k + 1, by omega, by go_num, Lib.hid fun j hj => ?_, hbel.trans (hb1.mono hsz)⟩
          by_cases e : j = k
          · subst e; rw [HN.out]; exact hf
          · exact HA.out j (by omega)
        case measure => simp [intOf]; omega
    · obtain rfl : k = r.length := by omega
      go_wp2
      go_ret
      exact ⟨ret_int (idx_miss HA.out).symm, hbel⟩

theorem containsPrin_any (v : Value) (r : List Nd) (B : Nat) (q : Nd) (w : World) (hv : RingAt w v r) (hB : w.cell? ⟨B, 0, none⟩ = some (.int .i64 q.id)) :
    Calls Try.prog 97 #[v, .func (.func 98) #[] #[.pointer (some ⟨B, 0, none⟩)]] w fun e w' => e = .returned (.bool (r.any fun n => cskip n q.id)) ∧ Below w.heap.size w w' := by
  go_enter Try.func97, Try.ntmps97
  go_wp2_with (go_at_call 90; refine (idxPrin_any _ r _ q _ hv hB).mono ?_; rintro e w1 ⟨rfl, hb1⟩)
  go_ret
  exact ⟨ret_bool (idx_any _ r), hb1⟩

set_option maxHeartbeats 1000000 in
theorem iRingPrincipals_no (v : Value) (r : List Nd) (w : World) (hv : RingAt w v r) (hr : ringValid r = false) :
    Calls Try.prog 71 #[v] w fun e w' => e = .returned (.slice none 0 0) ∧ Below w.heap.size w w' := by
  have HR := Lib.hid hr
  clear hr
  go_enter Try.func71, Try.ntmps71
  go_wp2_with (go_at_call 48; refine (iRingValid_any _ r _ hv).mono ?_; rw [HR.out]; rintro e w1 ⟨rfl, hb1⟩)
  go_ret
  exact ⟨rfl, hb1⟩

set_option maxHeartbeats 1000000 in
theorem iRingPrincipals_any (v : Value) (r : List Nd) (w : World) (hv : RingAt w v r) (hr : ringValid r = true) :
    Calls Try.prog 71 #[v] w fun e w' => ∃ u, e = .returned u ∧ w'.ownsRow w.heap.size 3 1 u (prin r).length ((prin r).map (Value.int .i64)) ∧ Below w.heap.size w w' := by
  have HR := Lib.hid hr
  have HV := Lib.hid hv
  have HS := Lib.hid (shape_valid hr)
  have hlen := ringValid_len hr
  have hmf : ∀ (fn : Fn) (first cap : Array Value) (w : World), (Instr.makeFunc fn first cap).run Try.prog w = .ok (.func fn first cap) w := fun _ _ _ _ => rfl
  obtain ⟨p, cap, rfl, hc, hm, h4⟩ := hv
  unfold maxLen at hm
  obtain ⟨i0, hi, hz0, hz1, hz2⟩ := info_parts Try.infoInt
  clear hr
  go_enter Try.func71, Try.ntmps71
  go_wp2_with (go_at_call 48; refine (iRingValid_any _ r _ HV.out).mono ?_; rw [HR.out]; rintro e w0 ⟨rfl, hb0⟩)
  go_loopw [3, 5, 11] (fun s3 _ s11 wr => ∃ k : Nat, k ≤ r.length ∧ s11 = .int .i64 k ∧ wr.ownsRow w.heap.size 3 1 s3 (prinTo r k).length ((prinTo r k).map (Value.int .i64)) ∧ Below w.heap.size w wr) (fun _ _ s _ => r.length - (intOf s).toNat)
  case atStart => exact ⟨0, Nat.zero_le _, rfl, by rw [prinTo_zero]; exact World.ownsRow_nil _ _ _ _, hb0⟩
  case round =>
    obtain ⟨k, hk, rfl, hown, hbel⟩ := hrel
    by_cases hlt : k < r.length
    · rcases h4 with ⟨rfl, -⟩ | ⟨b, o, rfl, hb, hcell⟩
      · simp at hlt
      obtain ⟨h1, h2, va, h3, hia⟩ := (hcell k hlt).below hb hbel (Nat.le_refl _)
      obtain ⟨q, hq⟩ : ∃ x, r.getD k default = x := ⟨_, rfl⟩
      have hany := any_cskip HS.out (x := q.id) (by rw [← hq]; exact (HS.out.2 k hlt).2.2)
      rw [hq] at h1 h2 hia
      have HQ := Lib.hid hq
      obtain ⟨pa, capa, rfl, -, -, -⟩ := hia
      have hsz : w.heap.size ≤ wr.heap.size := hbel.size
      have hbel2 := hbel.alloc hsz (.cells #[.int .i64 q.id, .int .i64 q.before, .slice pa q.after.length capa] 31)
      have hown2 := hown.alloc (.cells #[.int .i64 q.id, .int .i64 q.before, .slice pa q.after.length capa] 31)
      have hlen' := prinTo_length r k
      cases hs : r.any fun n => skip n q.id
      · have HA := Lib.hid (hany.trans hs)
        have HY := Lib.hid (prinTo_yes hlt (by rw [hq]; exact hs))
        rw [hq] at HY
        clear hcell hq hany hs
        go_wp2_with (first | (go_at_call 97; refine (containsPrin_any _ r _ q _ (by exact HV.out.below hbel2 (Nat.le_refl _)) (by simp)).mono ?_; rw [HA.out]; rintro e w1 ⟨rfl, hb1⟩; have hq1 : w1.cell? ⟨wr.heap.size, 0, none⟩ = some (.int .i64 q.id) := (hb1.cell (p := ⟨wr.heap.size, 0, none⟩) (by simp)).trans (by simp); have hown3 := ownsRow_below hown2 hb1 (Nat.le_refl _); have hbel3 := hbel2.trans (hb1.mono hbel2.size); have hsz3 := hbel3.size) | (at_builtin; refine wpList_append_own _ rfl (.tmp 19) (.tmp 22) 29 rfl w.heap.size 3 i0 (.int .i64 0) 1 8 Try.underlying29 hi hz0 hz1 hz2 rfl (by decide) _ _ _ rfl (hown3.alloc _) ⟨w1.heap.size, 0, none⟩ 1 1 [.int .i64 q.id] rfl rfl (cell_one_new _ _ _) (by simp [Value.oneCell']) (by unfold maxLen; omega) (by omega) (by simp; omega) ?_; intro v' w2 hown' hgrow _))
        go_roundw
        case rel =>
          refine ⟨k + 1, by omega, by go_num, ?_, ((hbel3.alloc hsz3 _).grown hgrow (by simp; omega) (fun q' hq' => (hown3.lt q' hq').1))⟩
          rw [HY.out]
          simpa using hown'
        case measure => simp [intOf]; omega
      · have HA := Lib.hid (hany.trans hs)
        have HN := Lib.hid (prinTo_no hlt (by rw [hq]; exact hs))
        clear hcell hq hany hs
        go_wp2_with (first | (go_at_call 97; refine (containsPrin_any _ r _ q _ (by exact HV.out.below hbel2 (Nat.le_refl _)) (by simp)).mono ?_; rw [HA.out]; rintro e w1 ⟨rfl, hb1⟩; have hown3 := ownsRow_below hown2 hb1 (Nat.le_refl _)))
        go_roundw
        case rel => exact ⟨k + 1, by omega, by go_num, by rw [HN.out]; exact hown3, hbel2.trans (hb1.mono hbel2.size)⟩
        case measure => simp [intOf]; omega
    · obtain rfl : k = r.length := by omega
      rw [prinTo_all] at hown
      go_wp2
      go_ret
      exact ⟨_, rfl, hown, hbel⟩

end Go.Proofs.Ytojpfbbgpcafnaa
