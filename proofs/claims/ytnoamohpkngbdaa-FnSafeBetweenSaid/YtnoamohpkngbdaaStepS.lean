/-
  Contracts: the steps of the reference.
-/
import Derived.Test.YtnoamohpkngbdaaCopy
import Derived.Test.YtnoamohpkngbdaaFind
namespace Go.Proofs.Ytnoamohpkngbdaa
open Go.RowKit

/-- Behind 'append([]int{}, xs...)' in world w1: the new row. -/
theorem appendedN {w1 w2 : World} {M : Nat} {v' : Value} {l : Nat} {L : List Value} (hM : M = w1.heap.size)
    (hown : w2.ownsRow M 3 1 v' (0 + l) ([] ++ L)) (hgrow : (w1.alloc (.cells #[] 3)).grownBy w2 (Value.slice (some ⟨M, 0, none⟩) 0 0).ownBlock)
    (hnil : v' = .slice none 0 0 ↔ Value.slice (some ⟨M, 0, none⟩) 0 0 = .slice none 0 0 ∧ l = 0) :
    ∃ g cg, v' = .slice (some ⟨g, 0, none⟩) l cg ∧ M ≤ g ∧ l ≤ cg ∧ cg ≤ maxLen ∧ w2.ownsRow M 3 1 (.slice (some ⟨g, 0, none⟩) l cg) l L ∧ Below M w1 w2 := by
  subst hM
  rw [Nat.zero_add, List.nil_append] at hown
  obtain ⟨g, cg, rfl, h1, h2, h3, h4⟩ := own_form hown (fun e => by have := hnil.1 e; simp at this)
  exact ⟨g, cg, rfl, h3, h1, h2, hown, ((Below.refl _ _).alloc (Nat.le_refl _) _).grown hgrow (by simp) (fun q hq => by simp [Value.ownBlock] at hq; omega)⟩

theorem made0 (w1 : World) (M : Nat) (hM : M = w1.heap.size) : (w1.alloc (.cells #[] 3)).ownsRow M 3 1 (.slice (some ⟨M, 0, none⟩) 0 0) 0 [] := by
  subst hM
  exact World.ownsRow_made w1 #[] 0 (Nat.le_refl _) (by unfold maxLen; omega) rfl

/-- A box of three cells, laid before. -/
theorem box3 {w w1 : World} {c0 c1 c2 : Value} {t : TypeId} (h : Below (w.heap.size + 1) (w.alloc (.cells #[c0, c1, c2] t)) w1) :
    w1.cell? ⟨w.heap.size, 0, none⟩ = some c0 ∧ w1.cell? ⟨w.heap.size, 1, none⟩ = some c1 ∧ w1.cell? ⟨w.heap.size, 2, none⟩ = some c2 ∧ (∀ j, w1.frozen? ⟨w.heap.size, j, none⟩ = false) ∧ w.heap.size < w1.heap.size := by
  have hbox : w1.heap[w.heap.size]? = some (.cells #[c0, c1, c2] t) := by rw [h.block _ (by omega)]; exact heap_alloc_new w _
  refine ⟨by simp [World.cell?, hbox], by simp [World.cell?, hbox], by simp [World.cell?, hbox], fun j => by simp [World.frozen?, hbox], ?_⟩
  have := h.size
  simp at this
  omega

set_option maxHeartbeats 1000000 in
theorem l4Set_any (v va : Value) (r : List Nd) (k : Nat) (i bf : Int) (af : List Int) (w : World) (hv : RingAt w v r) (hs : Shape r) (hk : k < r.length) (ha : IntsAt w va af) (haf : af.length ≤ 1048576) :
    Calls Try.prog 101 #[v, .int .i64 k, .agg #[.int .i64 i, .int .i64 bf, va]] w fun e w' => ∃ u, e = .returned u ∧ RingOwn w' w.heap.size u (r.set k ⟨i, bf, af⟩) ∧ Below w.heap.size w w' := by
  have hsrc := ha.src
  obtain ⟨pa, capa, rfl, hca, hma, -⟩ := ha
  unfold maxLen at hma
  obtain ⟨l, hl⟩ : ∃ x, af.length = x := ⟨_, rfl⟩
  rw [hl] at hsrc hca haf
  have HL := Lib.hid hl
  have HI := Lib.hid hsrc
  obtain ⟨i0, hi, hz0, hz1, hz2⟩ := info_parts Try.infoInt
  have hbx := (Below.refl w.heap.size w).alloc (Nat.le_refl _) (.cells #[.int .i64 i, .int .i64 bf, .slice pa l capa] 35)
  have hv' := hv.below hbx (Nat.le_refl _)
  have hr10 : r.length ≤ 10 := hs.1
  have HV := Lib.hid hv'
  have HS := Lib.hid hs
  rw [hl]
  clear hv hv' hs hl hsrc
  go_enter Try.func101, Try.ntmps101
  go_wp2_with (first | (go_at_call 78; refine (l3Copy_any _ r _ HV.out (by omega) (fun j hj => by have := (HS.out.2 j hj).1; omega)).mono ?_; rintro e w1 ⟨u, rfl, hO, hB⟩; obtain ⟨g0, c0, rfl, h1, h2, h3, h4⟩ := hO.form (by omega); simp at h3 hB hO; unfold maxLen at h2; have hsz := hB.size; simp at hsz; obtain ⟨b0, b1, b2, b3, b4⟩ := box3 hB) | (at_builtin; (refine wpList_append_src rfl (.tmp 10) (.tmp 12) 23 rfl w1.heap.size 3 i0 (.int .i64 0) 1 8 Try.underlying23 hi hz0 hz1 hz2 rfl (by decide) _ _ _ rfl (made0 w1 _ rfl) (.slice pa l capa) l (af.map (Value.int .i64)) rfl ((HI.out.below hbx (Nat.le_refl _)).below (hB.alloc hsz _) (by simp)) (by unfold maxLen; omega) (by omega) (by simp) ?_); intro v' w2 hown' hgrow hnil; obtain ⟨g, cg, rfl, hg1, hg2, hg3, hg4, hBW⟩ := appendedN rfl hown' hgrow hnil; clear hown' hgrow hnil; unfold maxLen at hg3; have hB2 := hB.trans (hBW.mono hsz); clear b0 b1 b2 b3 b4; obtain ⟨b0, b1, b2, b3, b4⟩ := box3 hB2; have hO2 := hO.below hBW (Nat.le_refl _); obtain ⟨vk, k0, k1, k2, k3, k4, -⟩ := hO2.cells hk; have hne : g0 ≠ w.heap.size := (by omega); have hne' : w.heap.size ≠ g0 := (by omega)))
  go_ret
  have hK : Keeps (w.heap.size + 1) w1 (w2.setCell ⟨w.heap.size, 2, none⟩ (.slice (some ⟨g, 0, none⟩) l cg)) := (Keeps.of_below hBW (Nat.le_refl _)).setCell (by simp) _
  have hva := ownsRow_setCell_below hg4 (a := ⟨w.heap.size, 2, none⟩) (by simp; omega) (.slice (some ⟨g, 0, none⟩) l cg)
  have hfin := RingOwn.set (n := ⟨i, bf, af⟩) hO hk hK (Nat.le_refl _) hsz (by rw [HL.out]; exact hva)
  rw [List.length_set] at hfin
  exact ⟨_, rfl, hfin.mono (by omega), ((((hbx.trans (hB2.mono (by omega))).setCell (by simp) _).setCell (by simp; omega) _).setCell (by simp; omega) _).setCell (by simp; omega) _⟩

/-- A ring's node number k: its cells, its successors' two cells. -/
theorem RingAt.node {w : World} {p : Option Addr} {n cap : Nat} {r : List Nd} (h : RingAt w (.slice p n cap) r) {k : Nat} (hk : k < r.length) (h2 : (r.getD k default).after.length = 2) :
    ∃ b o b' o' capa, p = some ⟨b, o, none⟩ ∧ n = r.length ∧ n ≤ cap ∧ cap ≤ 9223372036854775807 ∧ 2 ≤ capa ∧ capa ≤ 9223372036854775807 ∧ b < w.heap.size ∧ b' < w.heap.size ∧
      w.cell? ⟨b, o + k * 3, none⟩ = some (.int .i64 (r.getD k default).id) ∧ w.cell? ⟨b, o + k * 3 + 1, none⟩ = some (.int .i64 (r.getD k default).before) ∧ w.cell? ⟨b, o + k * 3 + 2, none⟩ = some (.slice (some ⟨b', o', none⟩) 2 capa) ∧
      w.cell? ⟨b', o', none⟩ = some (.int .i64 (a0 (r.getD k default))) ∧ w.cell? ⟨b', o' + 1, none⟩ = some (.int .i64 (a1 (r.getD k default))) := by
  obtain ⟨p', cap', he, hc, hm, h4⟩ := h
  cases he
  rcases h4 with ⟨rfl, -⟩ | ⟨b, o, rfl, hb, hcell⟩
  · simp at hk
  obtain ⟨h1, h3, va, h5, pa, capa, rfl, hca, hma, ha4⟩ := hcell k hk
  rcases ha4 with ⟨h0, -⟩ | ⟨b', o', rfl, hb', hcell'⟩
  · rw [h0] at h2; simp at h2
  unfold maxLen at hm hma
  rw [h2] at h5 hca hcell'
  exact ⟨b, o, b', o', capa, rfl, rfl, hc, hm, hca, hma, hb, hb', h1, h3, h5, by simpa [a0] using hcell' 0 (by omega), by simpa [a1] using hcell' 1 (by omega)⟩

theorem RingAt.form {w : World} {v : Value} {r : List Nd} (h : RingAt w v r) : ∃ p cap, v = .slice p r.length cap := by
  obtain ⟨p, cap, rfl, -⟩ := h
  exact ⟨p, cap, rfl⟩

set_option maxHeartbeats 1000000 in
theorem l4Follow_any (v : Value) (r : List Nd) (k s : Nat) (w : World) (hv : RingAt w v r) (hs : Shape r) (hk : k < r.length) (hss : s < r.length) :
    Calls Try.prog 102 #[v, .int .i64 k, .int .i64 s] w fun e w' => ∃ u, e = .returned u ∧ RingOwn w' w.heap.size u (followK r k s) ∧ Below w.heap.size w w' := by
  have HV := Lib.hid hv
  have HS := Lib.hid hs
  obtain ⟨p, cap, rfl⟩ := hv.form
  obtain ⟨b, o, bk, ok, ck, rfl, -, hc, hm, hck, hck', hb, hbk, k0, k1, k2, -, -⟩ := hv.node hk (hs.2 k hk).1
  obtain ⟨b', o', bs, os, cs, e1, -, -, -, hcs, hcs', -, hbs, s0, s1, s2, s3, -⟩ := hv.node hss (hs.2 s hss).1
  cases e1
  obtain ⟨ki, hki⟩ : ∃ x, (r.getD k default).id = x := ⟨_, rfl⟩
  obtain ⟨kb, hkb⟩ : ∃ x, (r.getD k default).before = x := ⟨_, rfl⟩
  obtain ⟨si, hsi⟩ : ∃ x, (r.getD s default).id = x := ⟨_, rfl⟩
  obtain ⟨sa, hsa⟩ : ∃ x, a0 (r.getD s default) = x := ⟨_, rfl⟩
  rw [hki] at k0
  rw [hkb] at k1
  rw [hsi] at s0
  rw [hsa] at s3
  have HE := Lib.hid (show followK r k s = r.set k ⟨ki, kb, [si, sa]⟩ by rw [← hki, ← hkb, ← hsi, ← hsa]; rfl)
  clear hki hkb hsi hsa hv hs
  go_enter Try.func102, Try.ntmps102
  go_wp2_with fail
  go_region_held3 (fun w' => w'.cell? ⟨b, o + s * 3, none⟩ = some (.int .i64 si) ∧ w'.cell? ⟨b, o + s * 3 + 2, none⟩ = some (.slice (some ⟨bs, os, none⟩) 2 cs) ∧ w'.cell? ⟨bs, os, none⟩ = some (.int .i64 sa)) (go_keep) (fail)
  go_wp2_with fail
  have hB := (((Below.refl w.heap.size w).alloc (Nat.le_refl _) (.cells #[.int .i64 ki, .int .i64 kb, .slice (some ⟨w.heap.size + 1, 0, none⟩) 2 2] 35)).alloc (by simp) (.cells #[.int .i64 si, .int .i64 sa] 3)).drew
  refine (l4Set_any _ _ r k ki kb [si, sa] _ (by exact HV.out.below hB (Nat.le_refl _)) HS.out hk (by exact intsAt_newN _ _ [si, sa] _ _ (by simp) rfl (by simp)) (by simp)).mono ?_
  rintro e w1 ⟨u, rfl, hO, hB1⟩
  go_wp2
  go_ret
  rw [HE.out]
  exact ⟨_, rfl, hO.mono hB.size, hB.trans (hB1.mono hB.size)⟩

end Go.Proofs.Ytnoamohpkngbdaa
