/-
  Contracts: slices.Clone at replicas.
-/
import Derived.Test.YtkefnmmpipeppaaRows
import Derived.Test.YtkefnmmpipeppaaRp
import Derived.WalkKit
import Derived.WalkSpells
import Derived.WalkLawsBesides
import Derived.Deep.QuietTactic
import Derived.BigQuiet
import Derived.Deep.RegionHeld3
import Derived.Deep.DeepCutAuto
import Derived.Deep.DeepFit
import Derived.Lib.Hide
import Derived.Lib.SliceRun
import Derived.Outline
namespace Go.Proofs.Ytkefnmmpipeppaa
open Go.RowKit

theorem info_parts {P : Program} {t : TypeId} {z : Value} {s b : Nat} (h : (P.info? t).map (fun i => (i.zero, i.size, i.bytes)) = some (some z, s, b)) : ∃ i, P.info? t = some i ∧ i.zero = some z ∧ i.size = s ∧ i.bytes = b := by
  cases hi : P.info? t with
  | none => rw [hi] at h; cases h
  | some i => rw [hi] at h; simp at h; exact ⟨i, rfl, h.1, h.2.1, h.2.2⟩
theorem Try.infoReplica : (Try.prog.info? 26).map (fun i => (i.zero, i.size, i.bytes)) = some (some (.agg #[.int .i64 0, .int .i64 0, .int .i64 0]), 3, 24) := by kernel_rfl

set_option maxHeartbeats 400000 in
theorem cloneRs_any (v : Value) (xs : List Tr) (w : World) (hv : TrsAt w v xs) (hl : xs.length ≤ 1048576) :
    Calls Try.prog 55 #[v] w fun e w' => ∃ u, e = .returned u ∧ TrsOwn w' w.heap.size 26 u xs ∧ Below w.heap.size w w' := by
  have hsrc := hv.src
  obtain ⟨p, cap, rfl, hc, hm, h4⟩ := hv
  unfold maxLen at hm
  have qT : ∀ (w : World) (a : Option Addr) (n c n' c' : Nat), (binOp .eql 23 (.slice a n c) (.slice none n' c')).run Try.prog w = .ok (.bool a.isNone) w := fun w a n c n' c' => Lib.run_eql_slice_nil w _ _ a n c n' c' Try.underlying23
  obtain ⟨i0, hi, hz0, hz1, hz2⟩ := info_parts Try.infoReplica
  have HS := Lib.hid hsrc
  clear hsrc
  cases p with
  | none =>
    rcases h4 with ⟨rfl, h5⟩ | ⟨b, o, h, -⟩
    · obtain rfl : cap = 0 := h5 rfl
      go_enter Try.func55, Try.ntmps55
      go_wp2
      go_ret
      exact ⟨_, rfl, TrsOwn.nil _ _ _, Below.refl _ _⟩
    · cases h
  | some ad =>
    clear h4
    have hB0 := (Below.refl w.heap.size w).alloc (Nat.le_refl _) (.cells #[] 26)
    go_enter Try.func55, Try.ntmps55
    go_wp2_with (at_builtin; refine wpList_append_src rfl (.tmp 5) (.tmp 6) 23 rfl w.heap.size 26 i0 (.agg #[.int .i64 0, .int .i64 0, .int .i64 0]) 3 24 Try.underlying23 hi hz0 hz1 hz2 rfl (by decide) _ _ _ rfl (World.ownsRow_made (base := w.heap.size) (e := 26) (size := 3) w #[] 0 (Nat.le_refl _) (by unfold maxLen; omega) rfl) (.slice (some ad) xs.length cap) xs.length (flatT xs) rfl (HS.out.below hB0 (Nat.le_refl _)) (by unfold maxLen; omega) (by omega) (by simp) ?_; intro v' w1 hown' hgrow hnil; obtain ⟨g, cg, rfl, hg1, hg2, hg3, hg4, hBW⟩ := appendedE rfl hown' hgrow hnil)
    go_ret
    exact ⟨_, rfl, hg4, hBW⟩

end Go.Proofs.Ytkefnmmpipeppaa
