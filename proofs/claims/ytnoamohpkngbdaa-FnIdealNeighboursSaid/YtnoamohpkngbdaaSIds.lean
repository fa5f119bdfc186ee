/-
  Contracts: l3Ids of the reference.
-/
import Derived.Test.YtnoamohpkngbdaaIIds
namespace Go.Proofs.Ytnoamohpkngbdaa
open Go.RowKit

set_option maxHeartbeats 1000000 in
theorem l3Ids_any (v : Value) (r : List Nd) (w : World) (hv : RingAt w v r) (hbig : r.length ≤ 1048576) :
    Calls Try.prog 55 #[v] w fun e w' => ∃ u, e = .returned u ∧ w'.ownsRow w.heap.size 3 1 u (r.map Nd.id).length ((r.map Nd.id).map (Value.int .i64)) ∧ Below w.heap.size w w' := by
  obtain ⟨p, cap, rfl, hc, hm, h4⟩ := hv
  unfold maxLen at hm
  obtain ⟨i0, hi, hz0, hz1, hz2⟩ := info_parts Try.infoInt2
  go_enter Try.func55, Try.ntmps55
  go_wp2
  go_loopw [3, 4] (fun s3 s4 wr => ∃ k : Nat, k ≤ r.length ∧ s4 = .int .i64 k ∧ wr.ownsRow w.heap.size 3 1 s3 k (((r.take k).map Nd.id).map (Value.int .i64)) ∧ Below w.heap.size w wr) (fun _ s _ => r.length - (intOf s).toNat)
  case atStart => exact ⟨0, Nat.zero_le _, rfl, World.ownsRow_made (base := w.heap.size) (e := 3) (size := 1) w #[] 0 (Nat.le_refl _) (by unfold maxLen; omega) rfl, (Below.refl _ _).alloc (Nat.le_refl _) _⟩
  case round =>
    obtain ⟨k, hk, rfl, hown, hbel⟩ := hrel
    by_cases hlt : k < r.length
    · rcases h4 with ⟨rfl, -⟩ | ⟨b, o, rfl, hb, hcell⟩
      · simp at hlt
      obtain ⟨h1, -, -⟩ := (hcell k hlt).below hb hbel (Nat.le_refl _)
      have ht := take_ids hlt
      obtain ⟨n, hn⟩ : ∃ x, r.getD k default = x := ⟨_, rfl⟩
      rw [hn] at h1 ht
      have HT := Lib.hid ht
      have hsz : w.heap.size ≤ wr.heap.size := hbel.size
      have i00 : (0 : Int) ≤ (k : Int) := by omega
      have i01 : (k : Int) < (r.length : Int) := by omega
      clear hcell hn ht
      go_wp2_with (at_builtin; (refine wpList_append_own _ rfl _ _ 23 rfl w.heap.size 3 i0 (.int .i64 0) 1 8 Try.underlying23 hi hz0 hz1 hz2 rfl (by decide) _ _ _ rfl (hown.alloc _) ⟨wr.heap.size, 0, none⟩ 1 1 [.int .i64 n.id] rfl rfl (cell_one_newN _ _ _ _ (by simp)) (by simp [Value.oneCell']) (by unfold maxLen; omega) (by omega) (by simp; omega) ?_); intro v' w1 hown' hgrow _)
      go_roundw
      case rel =>
        refine ⟨k + 1, by omega, by go_num, ?_, ((hbel.alloc hsz _).grown hgrow (by simp; omega) (fun q hq => (hown.lt q hq).1))⟩
        rw [HT.out]
        simpa using hown'
      case measure => simp [intOf]; omega
    · obtain rfl : k = r.length := by omega
      rw [List.take_length] at hown
      go_wp2
      go_ret
      exact ⟨_, rfl, by simpa using hown, hbel⟩

end Go.Proofs.Ytnoamohpkngbdaa
