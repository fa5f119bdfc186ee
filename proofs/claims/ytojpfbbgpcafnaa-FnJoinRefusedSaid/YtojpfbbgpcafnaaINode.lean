/-
  Contracts: nodeAt of the program.
-/
import Derived.Test.YtojpfbbgpcafnaaBase
namespace Go.Proofs.Ytojpfbbgpcafnaa
open Go.RowKit

theorem nodeAtF_any (n : Nd) (va : Value) (id : Int) (B : Nat) (w : World) (ha : IntsAt w va n.after) (hB : w.cell? ⟨B, 0, none⟩ = some (.int .i64 id)) :
    Calls Try.prog 91 #[.agg #[.int .i64 n.id, .int .i64 n.before, va], .pointer (some ⟨B, 0, none⟩)] w fun e w' => e = .returned (.bool (n.id == id)) ∧ Below w.heap.size w w' := by
  obtain ⟨pa, capa, rfl, -, -, -⟩ := ha
  have hlt : B < w.heap.size := World.block_lt_of_cell? w _ hB
  have hb := (Below.refl w.heap.size w).alloc (Nat.le_refl _) (.cells #[.int .i64 n.id, .int .i64 n.before, .slice pa n.after.length capa] 31)
  go_enter Try.func91, Try.ntmps91
  go_wp2
  go_ret
  exact ⟨rfl, hb⟩

set_option maxHeartbeats 1000000 in
theorem idxNodeAt_any (v : Value) (r : List Nd) (B : Nat) (id : Int) (w : World) (hv : RingAt w v r) (hB : w.cell? ⟨B, 0, none⟩ = some (.int .i64 id)) :
    Calls Try.prog 90 #[v, .func (.func 91) #[] #[.pointer (some ⟨B, 0, none⟩)]] w fun e w' => e = .returned (.int .i64 (idx (fun n => n.id == id) r)) ∧ Below w.heap.size w w' := by
  obtain ⟨p, cap, rfl, hc, hm, h4⟩ := hv
  unfold maxLen at hm
  go_enter Try.func90, Try.ntmps90
  go_wp2
  go_loopw [5, 8] (fun _ s8 wr => ∃ k : Nat, k ≤ r.length ∧ s8 = .int .i64 k ∧ Hid (∀ j, j < k → (fun n => n.id == id) (r.getD j default) = false) ∧ Below w.heap.size w wr) (fun _ s _ => r.length - (intOf s).toNat)
  case atStart => exact ⟨0, Nat.zero_le _, rfl, Lib.hid fun j hj => by omega, Below.refl _ _⟩
  case round =>
    obtain ⟨k, hk, rfl, HA, hbel⟩ := hrel
    by_cases hlt : k < r.length
    · rcases h4 with ⟨rfl, -⟩ | ⟨b, o, rfl, hb, hcell⟩
      · simp at hlt
      obtain ⟨h1, h2, va, h3, hia⟩ := (hcell k hlt).below hb hbel (Nat.le_refl _)
      obtain ⟨n, hn⟩ : ∃ x, r.getD k default = x := ⟨_, rfl⟩
      rw [hn] at h1 h2 hia
      have HN := Lib.hid hn
      have HI := Lib.hid hia
      obtain ⟨pa, capa, rfl, -, -, -⟩ := hia
      have hsz : w.heap.size ≤ wr.heap.size := hbel.size
      clear hcell hn
      go_wp2_with (first | (go_at_call 91; refine (nodeAtF_any n _ id B _ HI.out ((hbel.cell (p := ⟨B, 0, none⟩) (World.block_lt_of_cell? w _ hB)).trans hB)).mono ?_; rintro e w1 ⟨rfl, hb1⟩))
      · have hf : (fun n => n.id == id) n = true := by assumption
        go_ret
        exact ⟨ret_int (idx_hit hlt (by rw [HN.out]; exact hf) HA.out).symm, hbel.trans (hb1.mono hsz)⟩
      · have hf : (fun n => n.id == id) n = false := by assumption
        go_roundw
        case rel =>
          refine ⟨k + 1, by omega, by go_num, Lib.hid fun j hj => ?_, hbel.trans (hb1.mono hsz)⟩
          by_cases e : j = k
          · subst e; rw [HN.out]; exact hf
          · exact HA.out j (by omega)
        case measure => simp [intOf]; omega
    · obtain rfl : k = r.length := by omega
      go_wp2
      go_ret
      exact ⟨ret_int (idx_miss HA.out).symm, hbel⟩

set_option maxHeartbeats 400000 in
theorem nodeAt_no (v : Value) (r : List Nd) (id : Int) (w : World) (hv : RingAt w v r) (hf : fnd r id = -1) :
    Calls Try.prog 53 #[v, .int .i64 id] w fun e w' => e = .returned (.pointer none) ∧ Below w.heap.size w w' := by
  have hmf : ∀ (fn : Fn) (first cap : Array Value) (w : World), (Instr.makeFunc fn first cap).run Try.prog w = .ok (.func fn first cap) w := fun _ _ _ _ => rfl
  have HF := Lib.hid ((fnd_idx id r).trans hf)
  have hb := (Below.refl w.heap.size w).alloc (Nat.le_refl _) (.cells #[.int .i64 id] 3)
  clear hf
  go_enter Try.func53, Try.ntmps53
  go_wp2_with (go_at_call 90; refine (idxNodeAt_any _ r _ id _ (by exact hv.below hb (Nat.le_refl _)) (by simp)).mono ?_; rw [HF.out]; rintro e w1 ⟨rfl, hb1⟩)
  go_ret
  exact ⟨rfl, hb.trans (hb1.mono hb.size)⟩

set_option maxHeartbeats 400000 in
theorem nodeAt_yes (r : List Nd) (id : Int) (b o cap k : Nat) (w : World) (hv : RingAt w (.slice (some ⟨b, o, none⟩) r.length cap) r) (hk : k < r.length) (hf : fnd r id = (k : Int)) :
    Calls Try.prog 53 #[.slice (some ⟨b, o, none⟩) r.length cap, .int .i64 id] w fun e w' => e = .returned (.pointer (some ⟨b, o + k * 3, none⟩)) ∧ Below w.heap.size w w' := by
  have hmf : ∀ (fn : Fn) (first cap : Array Value) (w : World), (Instr.makeFunc fn first cap).run Try.prog w = .ok (.func fn first cap) w := fun _ _ _ _ => rfl
  have HF := Lib.hid ((fnd_idx id r).trans hf)
  have hb := (Below.refl w.heap.size w).alloc (Nat.le_refl _) (.cells #[.int .i64 id] 3)
  have hcap : r.length ≤ cap ∧ cap ≤ 9223372036854775807 := by
    obtain ⟨p', cap', e, h1, h2, -⟩ := hv
    cases e
    unfold maxLen at h2
    exact ⟨h1, h2⟩
  obtain ⟨hc1, hc2⟩ := hcap
  clear hf
  go_enter Try.func53, Try.ntmps53
  go_wp2_with (go_at_call 90; refine (idxNodeAt_any _ r _ id _ (by exact hv.below hb (Nat.le_refl _)) (by simp)).mono ?_; rw [HF.out]; rintro e w1 ⟨rfl, hb1⟩)
  go_ret
  exact ⟨rfl, hb.trans (hb1.mono hb.size)⟩

theorem nodeAt_own (r : List Nd) (id : Int) (g cap k : Nat) (w : World) (hv : RingAt w (.slice (some ⟨g, 0, none⟩) r.length cap) r) (hk : k < r.length) (hf : fnd r id = (k : Int)) :
    Calls Try.prog 53 #[.slice (some ⟨g, 0, none⟩) r.length cap, .int .i64 id] w fun e w' => e = .returned (.pointer (some ⟨g, k * 3, none⟩)) ∧ Below w.heap.size w w' := by
  have := nodeAt_yes r id g 0 cap k w hv hk hf
  rw [Nat.zero_add] at this
  exact this

end Go.Proofs.Ytojpfbbgpcafnaa
