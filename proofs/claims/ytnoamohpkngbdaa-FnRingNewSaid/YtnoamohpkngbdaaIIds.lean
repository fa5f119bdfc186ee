/-
  Contracts: idsOf of the program.
-/
import Derived.Test.YtnoamohpkngbdaaBase
import Derived.Maps.AppendAt
namespace Go.Proofs.Ytnoamohpkngbdaa
open Go.RowKit

theorem Try.infoInt2 : (Try.prog.info? 3).map (fun i => (i.zero, i.size, i.bytes)) = some (some (.int .i64 0), 1, 8) := by kernel_rfl

theorem cell_one_newN (w : World) (x : Value) (t : TypeId) (N : Nat) (h : N = w.heap.size) : ∀ j u, [x][j]? = some u → (w.alloc (.cells #[x] t)).cell? ((⟨N, 0, none⟩ : Addr).add j) = some u := by
  subst h
  exact cell_one_new w x t
theorem take_ids {r : List Nd} {k : Nat} (h : k < r.length) : (r.take (k + 1)).map Nd.id = (r.take k).map Nd.id ++ [(r.getD k default).id] := by
  rw [List.take_succ_eq_append_getElem h, List.map_append]; simp [h]

set_option maxHeartbeats 1000000 in
theorem idsOf_any (v : Value) (r : List Nd) (w : World) (hv : RingAt w v r) (hbig : r.length ≤ 1048576) :
    Calls Try.prog 46 #[v] w fun e w' => ∃ u, e = .returned u ∧ w'.ownsRow w.heap.size 3 1 u (r.map Nd.id).length ((r.map Nd.id).map (Value.int .i64)) ∧ Below w.heap.size w w' := by
  obtain ⟨p, cap, rfl, hc, hm, h4⟩ := hv
  unfold maxLen at hm
  obtain ⟨i0, hi, hz0, hz1, hz2⟩ := info_parts Try.infoInt2
  go_enter Try.func46, Try.ntmps46
  go_wp2
  go_loopw [3, 5, 8] (fun s3 _ s8 wr => ∃ k : Nat, k ≤ r.length ∧ s8 = .int .i64 k ∧ wr.ownsRow w.heap.size 3 1 s3 k (((r.take k).map Nd.id).map (Value.int .i64)) ∧ Below w.heap.size w wr) (fun _ _ s _ => r.length - (intOf s).toNat)
  case atStart => exact ⟨0, Nat.zero_le _, rfl, World.ownsRow_nil _ _ _ _, Below.refl _ _⟩
  case round =>
    obtain ⟨k, hk, rfl, hown, hbel⟩ := hrel
    by_cases hlt : k < r.length
    · rcases h4 with ⟨rfl, -⟩ | ⟨b, o, rfl, hb, hcell⟩
      · simp at hlt
      obtain ⟨h1, h2, va, h3, hia⟩ := (hcell k hlt).below hb hbel (Nat.le_refl _)
      have ht := take_ids hlt
      obtain ⟨n, hn⟩ : ∃ x, r.getD k default = x := ⟨_, rfl⟩
      rw [hn] at h1 h2 hia ht
      have HT := Lib.hid ht
      obtain ⟨pa, capa, rfl, -, -, -⟩ := hia
      have hsz : w.heap.size ≤ wr.heap.size := hbel.size
      have hbox := hbel.alloc hsz (.cells #[.int .i64 n.id, .int .i64 n.before, .slice pa n.after.length capa] 35)
      clear hcell hn ht
      go_wp2_with (at_builtin; (refine wpList_append_own _ rfl _ _ 23 rfl w.heap.size 3 i0 (.int .i64 0) 1 8 Try.underlying23 hi hz0 hz1 hz2 rfl (by decide) _ _ _ rfl ((hown.alloc _).alloc _) ⟨wr.heap.size + 1, 0, none⟩ 1 1 [.int .i64 n.id] rfl rfl (cell_one_newN _ _ _ _ (by simp)) (by simp [Value.oneCell']) (by unfold maxLen; omega) (by omega) (by simp; omega) ?_); intro v' w1 hown' hgrow _)
      go_roundw
      case rel =>
        refine ⟨k + 1, by omega, by go_num, ?_, ((hbox.alloc (by simp; omega) _).grown hgrow (by simp; omega) (fun q hq => (hown.lt q hq).1))⟩
        rw [HT.out]
        simpa using hown'
      case measure => simp [intOf]; omega
    · obtain rfl : k = r.length := by omega
      rw [List.take_length] at hown
      go_wp2
      go_ret
      exact ⟨_, rfl, by simpa using hown, hbel⟩

end Go.Proofs.Ytnoamohpkngbdaa
