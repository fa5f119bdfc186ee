/-
  Contracts: copies of rings.
-/
import Derived.Test.YtojpfbbgpcafnaaBase
namespace Go.Proofs.Ytojpfbbgpcafnaa
open Go.RowKit

theorem Try.infoInt : (Try.prog.info? 3).map (fun i => (i.zero, i.size, i.bytes)) = some (some (.int .i64 0), 1, 8) := by kernel_rfl
theorem Try.infoNode : (Try.prog.info? 31).map (fun i => (i.zero, i.size, i.bytes)) = some (some (.agg #[.int .i64 0, .int .i64 0, .slice none 0 0]), 3, 40) := by kernel_rfl

/-- Behind 'append([]int{}, xs...)': the new row, and a box of three cells that lay before it. -/
theorem appended {wr w1 : World} {v' : Value} {l : Nat} {L : List Value} {c0 c1 c2 : Value} {t : TypeId}
    (hown : w1.ownsRow (wr.heap.size + 1) 3 1 v' (0 + l) ([] ++ L))
    (hgrow : ((wr.alloc (.cells #[c0, c1, c2] t)).alloc (.cells #[] 3)).grownBy w1 (Value.slice (some ⟨wr.heap.size + 1, 0, none⟩) 0 0).ownBlock)
    (hnil : v' = .slice none 0 0 ↔ Value.slice (some ⟨wr.heap.size + 1, 0, none⟩) 0 0 = .slice none 0 0 ∧ l = 0) :
    ∃ g cg, v' = .slice (some ⟨g, 0, none⟩) l cg ∧ wr.heap.size + 1 ≤ g ∧ l ≤ cg ∧ cg ≤ maxLen ∧ w1.ownsRow (wr.heap.size + 1) 3 1 (.slice (some ⟨g, 0, none⟩) l cg) l L ∧ Below wr.heap.size wr w1 ∧
      w1.cell? ⟨wr.heap.size, 0, none⟩ = some c0 ∧ w1.cell? ⟨wr.heap.size, 1, none⟩ = some c1 ∧ w1.cell? ⟨wr.heap.size, 2, none⟩ = some c2 ∧ (∀ j, w1.frozen? ⟨wr.heap.size, j, none⟩ = false) ∧ wr.heap.size + 2 ≤ w1.heap.size := by
  rw [Nat.zero_add, List.nil_append] at hown
  obtain ⟨g, cg, rfl, h1, h2, h3, h4⟩ := own_form hown (fun e => by have := hnil.1 e; simp at this)
  have hbox : w1.heap[wr.heap.size]? = some (.cells #[c0, c1, c2] t) := by
    rw [hgrow.block wr.heap.size (by simp; omega) (by simp [Value.ownBlock]), Below.heap_alloc _ _ _ (by simp)]
    exact heap_alloc_new wr _
  have hsz := hgrow.size
  simp at hsz
  refine ⟨g, cg, rfl, h3, h1, h2, hown, ((((Below.refl _ _).alloc (Nat.le_refl _) _).alloc (by simp) _).grown hgrow (by simp; omega) (fun q hq => by simp [Value.ownBlock] at hq; omega)), ?_, ?_, ?_, fun j => ?_, by omega⟩
  · simp [World.cell?, hbox]
  · simp [World.cell?, hbox]
  · simp [World.cell?, hbox]
  · simp [World.frozen?, hbox]

set_option maxHeartbeats 1000000 in
theorem l3Copy_any (v : Value) (r : List Nd) (w : World) (hv : RingAt w v r) (hbig : r.length ≤ 1048576) (hbig2 : ∀ i, i < r.length → (r.getD i default).after.length ≤ 1048576) :
    Calls Try.prog 44 #[v] w fun e w' => ∃ u, e = .returned u ∧ RingOwn w' w.heap.size u r ∧ Below w.heap.size w w' := by
  obtain ⟨p, cap, rfl, hc, hm, h4⟩ := hv
  unfold maxLen at hm
  obtain ⟨i0, hi, hz0, hz1, hz2⟩ := info_parts Try.infoInt
  obtain ⟨n0, ni, nz0, nz1, nz2⟩ := info_parts Try.infoNode
  go_enter Try.func44, Try.ntmps44
  go_wp2
  go_loopw [3, 4] (fun s3 s4 wr => ∃ k : Nat, k ≤ r.length ∧ s4 = .int .i64 k ∧ RingOwn wr w.heap.size s3 (r.take k) ∧ Below w.heap.size w wr) (fun _ s _ => r.length - (intOf s).toNat)
  case atStart =>
    refine ⟨0, Nat.zero_le _, rfl, ⟨[], rfl, World.ownsRow_made _ _ _ (Nat.le_refl _) (by unfold maxLen; omega) rfl, fun i hi => by simp at hi, fun i j _ hj => by simp at hj⟩, (Below.refl _ _).alloc (Nat.le_refl _) _⟩
  case round =>
    obtain ⟨k, hk, rfl, hown, hbel⟩ := hrel
    by_cases hlt : k < r.length
    · rcases h4 with ⟨rfl, -⟩ | ⟨b, o, rfl, hb, hcell⟩
      · simp at hlt
      obtain ⟨h1, h2, va, h3, hia⟩ := (hcell k hlt).below hb hbel (Nat.le_refl _)
      have hal := hbig2 k hlt
      obtain ⟨n, hn⟩ : ∃ x, r.getD k default = x := ⟨_, rfl⟩
      rw [hn] at h1 h2 hia hal
      have HN := Lib.hid hn
      have hsz : w.heap.size ≤ wr.heap.size := hbel.size
      have hsrc := hia.src
      obtain ⟨pa, capa, rfl, hca, hma, -⟩ := hia
      unfold maxLen at hma
      obtain ⟨l, hl⟩ : ∃ x, n.after.length = x := ⟨_, rfl⟩
      rw [hl] at h3 hsrc hca hal
      have HL := Lib.hid hl
      have HI := Lib.hid hsrc
      clear hcell hn hsrc hbig2 hl
      obtain ⟨vs, hvl, hov, hoa, hod⟩ := hown
      have HOA := Lib.hid hoa
      have HOD := Lib.hid hod
      have HVL := Lib.hid hvl
      clear hoa hod hvl
      have hB1 := ((Below.refl wr.heap.size wr).alloc (Nat.le_refl _) (.cells #[.int .i64 n.id, .int .i64 n.before, .slice pa l capa] 31)).alloc (by simp) (.cells #[] 3)
      have hO1 : ((wr.alloc (.cells #[.int .i64 n.id, .int .i64 n.before, .slice pa l capa] 31)).alloc (.cells #[] 3)).ownsRow (wr.heap.size + 1) 3 1 (.slice (some ⟨wr.heap.size + 1, 0, none⟩) 0 0) 0 [] := by
        have := World.ownsRow_made (base := wr.heap.size + 1) (e := 3) (size := 1) (wr.alloc (.cells #[.int .i64 n.id, .int .i64 n.before, .slice pa l capa] 31)) #[] 0 (by simp) (by unfold maxLen; omega) rfl
        simpa using this
      have htl : (r.take k).length = k := by simp; omega
      go_wp2_with (first | (at_builtin; refine wpList_append_src rfl (.tmp 17) (.tmp 19) 29 rfl (wr.heap.size + 1) 3 i0 (.int .i64 0) 1 8 Try.underlying29 hi hz0 hz1 hz2 rfl (by decide) _ _ _ rfl hO1 (.slice pa l capa) l (n.after.map (Value.int .i64)) rfl (HI.out.below hB1 (Nat.le_refl _)) (by unfold maxLen; omega) (by omega) (by simp) ?_; intro v' w1 hown' hgrow hnil; obtain ⟨g, cg, rfl, hg1, hg2, hg3, hg4, hBW, hc0, hc1, hc2, hcf, hws⟩ := appended hown' hgrow hnil; clear hown' hgrow hnil; unfold maxLen at hg3; have hBA := hBW.setCell (p := ⟨wr.heap.size, 2, none⟩) (Nat.le_refl _) (.slice (some ⟨g, 0, none⟩) l cg); have hovA := ownsRow_below hov hBA (Nat.le_refl _); have hvaA := ownsRow_setCell_below hg4 (a := ⟨wr.heap.size, 2, none⟩) (by simp) (.slice (some ⟨g, 0, none⟩) l cg)) | (at_builtin; (refine wpList_append_src rfl (.tmp 22) (.tmp 24) 23 rfl w.heap.size 31 n0 (.agg #[.int .i64 0, .int .i64 0, .slice none 0 0]) 3 40 Try.underlying23 ni nz0 nz1 nz2 rfl (by decide) _ _ _ rfl (hovA.alloc _) (.slice (some ⟨w1.heap.size, 0, none⟩) 1 1) 1 [.int .i64 n.id, .int .i64 n.before, .slice (some ⟨g, 0, none⟩) l cg] rfl (srcIs_new _ _ _ _ _ _ (by simp) rfl rfl rfl) (by rw [htl]; unfold maxLen; omega) (by rw [htl]; omega) (by simp; omega) ?_); intro v2 w2 hown2 hgrow2 _))
      have hBF := (hBA.alloc (by simp; omega) (.cells #[.int .i64 n.id, .int .i64 n.before, .slice (some ⟨g, 0, none⟩) l cg] 31))
      go_roundw
      case rel =>
        refine ⟨k + 1, by omega, by go_num, ?_, ((hbel.trans (hBF.mono hsz)).grown hgrow2 (by simp; omega) (fun q hq => (hov.lt q hq).1))⟩
        have ht : r.take (k + 1) = r.take k ++ [n] := by
          rw [List.take_succ_eq_append_getElem hlt]
          have := HN.out
          simp [hlt] at this
          rw [this]
        rw [ht]
        exact RingOwn.push HVL.out (hovA.alloc _) (fun i hi => ownsRow_below (HOA.out i hi) hBF (Nat.le_refl _)) HOD.out (fun i hi q hq => Nat.lt_succ_of_lt ((HOA.out i hi).lt q hq).2) (by omega) (by rw [HL.out]; exact hvaA.alloc _) hown2 hgrow2
      case measure => simp [intOf]; omega
    · obtain rfl : k = r.length := by omega
      rw [List.take_length] at hown
      go_wp2
      go_ret
      exact ⟨_, rfl, hown, hbel⟩

end Go.Proofs.Ytojpfbbgpcafnaa
