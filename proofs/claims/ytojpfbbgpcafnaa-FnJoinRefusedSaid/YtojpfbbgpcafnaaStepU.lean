/-
  Contracts: the steps of the reference: l4Set, l4Follow, l4Drop, l4Adopt, l4Closer, l4Notify.
-/
import Derived.Test.YtojpfbbgpcafnaaCopy
import Derived.Test.YtojpfbbgpcafnaaFind
import Derived.Test.YtojpfbbgpcafnaaSafe
namespace Go.Proofs.Ytojpfbbgpcafnaa
open Go.RowKit

/-- Behind 'append([]int{}, xs...)' in world w1: the new row. -/
theorem appendedN {w1 w2 : World} {M : Nat} {v' : Value} {l : Nat} {L : List Value} (hM : M = w1.heap.size)
    (hown : w2.ownsRow M 3 1 v' (0 + l) ([] ++ L)) (hgrow : (w1.alloc (.cells #[] 3)).grownBy w2 (Value.slice (some ⟨M, 0, none⟩) 0 0).ownBlock)
    (hnil : v' = .slice none 0 0 ↔ Value.slice (some ⟨M, 0, none⟩) 0 0 = .slice none 0 0 ∧ l = 0) :
    ∃ g cg, v' = .slice (some ⟨g, 0, none⟩) l cg ∧ M ≤ g ∧ l ≤ cg ∧ cg ≤ maxLen ∧ w2.ownsRow M 3 1 (.slice (some ⟨g, 0, none⟩) l cg) l L ∧ Below M w1 w2 := by
  subst hM
  rw [Nat.zero_add, List.nil_append] at hown
  obtain ⟨g, cg, rfl, h1, h2, h3, h4⟩ := own_form hown (fun e => by have := hnil.1 e; simp at this)
  exact ⟨g, cg, rfl, h3, h1, h2, hown, ((Below.refl _ _).alloc (Nat.le_refl _) _).grown hgrow (by simp) (fun q hq => by simp [Value.ownBlock] at hq; omega)⟩

theorem made0 (w1 : World) (M : Nat) (hM : M = w1.heap.size) : (w1.alloc (.cells #[] 3)).ownsRow M 3 1 (.slice (some ⟨M, 0, none⟩) 0 0) 0 [] := by
  subst hM
  exact World.ownsRow_made w1 #[] 0 (Nat.le_refl _) (by unfold maxLen; omega) rfl

/-- A box of three cells, laid before. -/
theorem box3 {w w1 : World} {c0 c1 c2 : Value} {t : TypeId} (h : Below (w.heap.size + 1) (w.alloc (.cells #[c0, c1, c2] t)) w1) :
    w1.cell? ⟨w.heap.size, 0, none⟩ = some c0 ∧ w1.cell? ⟨w.heap.size, 1, none⟩ = some c1 ∧ w1.cell? ⟨w.heap.size, 2, none⟩ = some c2 ∧ (∀ j, w1.frozen? ⟨w.heap.size, j, none⟩ = false) ∧ w.heap.size < w1.heap.size := by
  have hbox : w1.heap[w.heap.size]? = some (.cells #[c0, c1, c2] t) := by rw [h.block _ (by omega)]; exact heap_alloc_new w _
  refine ⟨by simp [World.cell?, hbox], by simp [World.cell?, hbox], by simp [World.cell?, hbox], fun j => by simp [World.frozen?, hbox], ?_⟩
  have := h.size
  simp at this
  omega

set_option maxHeartbeats 1000000 in
theorem l4Set_any (v va : Value) (r : List Nd) (k : Nat) (i bf : Int) (af : List Int) (w : World) (hv : RingAt w v r) (hs : Shape r) (hk : k < r.length) (ha : IntsAt w va af) (haf : af.length ≤ 1048576) :
    Calls Try.prog 111 #[v, .int .i64 k, .agg #[.int .i64 i, .int .i64 bf, va]] w fun e w' => ∃ u, e = .returned u ∧ RingOwn w' w.heap.size u (r.set k ⟨i, bf, af⟩) ∧ Below w.heap.size w w' := by
  have hsrc := ha.src
  obtain ⟨pa, capa, rfl, hca, hma, -⟩ := ha
  unfold maxLen at hma
  obtain ⟨l, hl⟩ : ∃ x, af.length = x := ⟨_, rfl⟩
  rw [hl] at hsrc hca haf
  have HL := Lib.hid hl
  have HI := Lib.hid hsrc
  obtain ⟨i0, hi, hz0, hz1, hz2⟩ := info_parts Try.infoInt
  have hbx := (Below.refl w.heap.size w).alloc (Nat.le_refl _) (.cells #[.int .i64 i, .int .i64 bf, .slice pa l capa] 31)
  have hv' := hv.below hbx (Nat.le_refl _)
  have hr10 : r.length ≤ 10 := hs.1
  have HV := Lib.hid hv'
  have HS := Lib.hid hs
  rw [hl]
  clear hv hv' hs hl hsrc
  go_enter Try.func111, Try.ntmps111
  go_wp2_with (first | (go_at_call 44; refine (l3Copy_any _ r _ HV.out (by omega) (fun j hj => by have := (HS.out.2 j hj).1; omega)).mono ?_; rintro e w1 ⟨u, rfl, hO, hB⟩; obtain ⟨g0, c0, rfl, h1, h2, h3, h4⟩ := hO.form (by omega); simp at h3 hB hO; unfold maxLen at h2; have hsz := hB.size; simp at hsz; obtain ⟨b0, b1, b2, b3, b4⟩ := box3 hB) | (at_builtin; (refine wpList_append_src rfl (.tmp 10) (.tmp 12) 29 rfl w1.heap.size 3 i0 (.int .i64 0) 1 8 Try.underlying29 hi hz0 hz1 hz2 rfl (by decide) _ _ _ rfl (made0 w1 _ rfl) (.slice pa l capa) l (af.map (Value.int .i64)) rfl ((HI.out.below hbx (Nat.le_refl _)).below (hB.alloc hsz _) (by simp)) (by unfold maxLen; omega) (by omega) (by simp) ?_); intro v' w2 hown' hgrow hnil; obtain ⟨g, cg, rfl, hg1, hg2, hg3, hg4, hBW⟩ := appendedN rfl hown' hgrow hnil; clear hown' hgrow hnil; unfold maxLen at hg3; have hB2 := hB.trans (hBW.mono hsz); clear b0 b1 b2 b3 b4; obtain ⟨b0, b1, b2, b3, b4⟩ := box3 hB2; have hO2 := hO.below hBW (Nat.le_refl _); obtain ⟨vk, k0, k1, k2, k3, k4, -⟩ := hO2.cells hk; have hne : g0 ≠ w.heap.size := (by omega); have hne' : w.heap.size ≠ g0 := (by omega)))
  go_ret
  have hK : Keeps (w.heap.size + 1) w1 (w2.setCell ⟨w.heap.size, 2, none⟩ (.slice (some ⟨g, 0, none⟩) l cg)) := (Keeps.of_below hBW (Nat.le_refl _)).setCell (by simp) _
  have hva := ownsRow_setCell_below hg4 (a := ⟨w.heap.size, 2, none⟩) (by simp; omega) (.slice (some ⟨g, 0, none⟩) l cg)
  have hfin := RingOwn.set (n := ⟨i, bf, af⟩) hO hk hK (Nat.le_refl _) hsz (by rw [HL.out]; exact hva)
  rw [List.length_set] at hfin
  exact ⟨_, rfl, hfin.mono (by omega), ((((hbx.trans (hB2.mono (by omega))).setCell (by simp) _).setCell (by simp; omega) _).setCell (by simp; omega) _).setCell (by simp; omega) _⟩

/-- A ring's node number k: its cells, its successors' two cells. -/
theorem RingAt.node {w : World} {p : Option Addr} {n cap : Nat} {r : List Nd} (h : RingAt w (.slice p n cap) r) {k : Nat} (hk : k < r.length) (h2 : (r.getD k default).after.length = 2) :
    ∃ b o b' o' capa, p = some ⟨b, o, none⟩ ∧ n = r.length ∧ n ≤ cap ∧ cap ≤ 9223372036854775807 ∧ 2 ≤ capa ∧ capa ≤ 9223372036854775807 ∧ b < w.heap.size ∧ b' < w.heap.size ∧
      w.cell? ⟨b, o + k * 3, none⟩ = some (.int .i64 (r.getD k default).id) ∧ w.cell? ⟨b, o + k * 3 + 1, none⟩ = some (.int .i64 (r.getD k default).before) ∧ w.cell? ⟨b, o + k * 3 + 2, none⟩ = some (.slice (some ⟨b', o', none⟩) 2 capa) ∧
      w.cell? ⟨b', o', none⟩ = some (.int .i64 (a0 (r.getD k default))) ∧ w.cell? ⟨b', o' + 1, none⟩ = some (.int .i64 (a1 (r.getD k default))) := by
  obtain ⟨p', cap', he, hc, hm, h4⟩ := h
  cases he
  rcases h4 with ⟨rfl, -⟩ | ⟨b, o, rfl, hb, hcell⟩
  · simp at hk
  obtain ⟨h1, h3, va, h5, pa, capa, rfl, hca, hma, ha4⟩ := hcell k hk
  rcases ha4 with ⟨h0, -⟩ | ⟨b', o', rfl, hb', hcell'⟩
  · rw [h0] at h2; simp at h2
  unfold maxLen at hm hma
  rw [h2] at h5 hca hcell'
  exact ⟨b, o, b', o', capa, rfl, rfl, hc, hm, hca, hma, hb, hb', h1, h3, h5, by simpa [a0] using hcell' 0 (by omega), by simpa [a1] using hcell' 1 (by omega)⟩

theorem RingAt.form {w : World} {v : Value} {r : List Nd} (h : RingAt w v r) : ∃ p cap, v = .slice p r.length cap := by
  obtain ⟨p, cap, rfl, -⟩ := h
  exact ⟨p, cap, rfl⟩

set_option maxHeartbeats 1000000 in
theorem l4Follow_any (v : Value) (r : List Nd) (k s : Nat) (w : World) (hv : RingAt w v r) (hs : Shape r) (hk : k < r.length) (hss : s < r.length) :
    Calls Try.prog 112 #[v, .int .i64 k, .int .i64 s] w fun e w' => ∃ u, e = .returned u ∧ RingOwn w' w.heap.size u (followK r k s) ∧ Below w.heap.size w w' := by
  have HV := Lib.hid hv
  have HS := Lib.hid hs
  obtain ⟨p, cap, rfl⟩ := hv.form
  obtain ⟨b, o, bk, ok, ck, rfl, -, hc, hm, hck, hck', hb, hbk, k0, k1, k2, -, -⟩ := hv.node hk (hs.2 k hk).1
  obtain ⟨b', o', bs, os, cs, e1, -, -, -, hcs, hcs', -, hbs, s0, s1, s2, s3, -⟩ := hv.node hss (hs.2 s hss).1
  cases e1
  obtain ⟨ki, hki⟩ : ∃ x, (r.getD k default).id = x := ⟨_, rfl⟩
  obtain ⟨kb, hkb⟩ : ∃ x, (r.getD k default).before = x := ⟨_, rfl⟩
  obtain ⟨si, hsi⟩ : ∃ x, (r.getD s default).id = x := ⟨_, rfl⟩
  obtain ⟨sa, hsa⟩ : ∃ x, a0 (r.getD s default) = x := ⟨_, rfl⟩
  rw [hki] at k0
  rw [hkb] at k1
  rw [hsi] at s0
  rw [hsa] at s3
  have HE := Lib.hid (show followK r k s = r.set k ⟨ki, kb, [si, sa]⟩ by rw [← hki, ← hkb, ← hsi, ← hsa]; rfl)
  clear hki hkb hsi hsa hv hs
  go_enter Try.func112, Try.ntmps112
  go_wp2_with fail
  go_region_held3 (fun w' => w'.cell? ⟨b, o + s * 3, none⟩ = some (.int .i64 si) ∧ w'.cell? ⟨b, o + s * 3 + 2, none⟩ = some (.slice (some ⟨bs, os, none⟩) 2 cs) ∧ w'.cell? ⟨bs, os, none⟩ = some (.int .i64 sa)) (go_keep) (fail)
  go_wp2_with fail
  have hB := (((Below.refl w.heap.size w).alloc (Nat.le_refl _) (.cells #[.int .i64 ki, .int .i64 kb, .slice (some ⟨w.heap.size + 1, 0, none⟩) 2 2] 31)).alloc (by simp) (.cells #[.int .i64 si, .int .i64 sa] 3)).drew
  refine (l4Set_any _ _ r k ki kb [si, sa] _ (by exact HV.out.below hB (Nat.le_refl _)) HS.out hk (by exact intsAt_newN _ _ [si, sa] _ _ (by simp) rfl (by simp)) (by simp)).mono ?_
  rintro e w1 ⟨u, rfl, hO, hB1⟩
  go_wp2
  go_ret
  rw [HE.out]
  exact ⟨_, rfl, hO.mono hB.size, hB.trans (hB1.mono hB.size)⟩

theorem okP_of {xs : List Int} (h : posAll xs = true) {i : Nat} (hi : i < xs.length) : 0 ≤ xs.getD i 0 ∧ xs.getD i 0 < 64 := by
  have := allBelow_of.1 h i hi
  simpa [okP] using this
theorem Shape.a0b {r : List Nd} (h : Shape r) {k : Nat} (hk : k < r.length) : 0 ≤ a0 (r.getD k default) ∧ a0 (r.getD k default) < 64 := by
  obtain ⟨h1, h2, -⟩ := h.2 k hk
  exact okP_of h2 (by omega)
theorem Shape.a1b {r : List Nd} (h : Shape r) {k : Nat} (hk : k < r.length) : 0 ≤ a1 (r.getD k default) ∧ a1 (r.getD k default) < 64 := by
  obtain ⟨h1, h2, -⟩ := h.2 k hk
  exact okP_of h2 (by omega)
theorem Shape.len {r : List Nd} (h : Shape r) : ∀ j, j < r.length → (r.getD j default).after.length ≤ 1048576 := fun j hj => by have := (h.2 j hj).1; omega

set_option maxHeartbeats 1000000 in
theorem l4Drop_any (v : Value) (r : List Nd) (k : Nat) (w : World) (hv : RingAt w v r) (hs : Shape r) (hk : k < r.length) :
    Calls Try.prog 92 #[v, .int .i64 k] w fun e w' => ∃ u, e = .returned (.tuple #[u, .bool (dropOk r k)]) ∧ RingOwn w' w.heap.size u (dropK r k) ∧ Below w.heap.size w w' := by
  have HV := Lib.hid hv
  have HS := Lib.hid hs
  obtain ⟨x0, x1⟩ := hs.a1b hk
  obtain ⟨p, cap, rfl⟩ := hv.form
  obtain ⟨b, o, bk, ok, ck, rfl, -, hc, hm, hck, hck', hb, hbk, k0, k1, k2, k3, k4⟩ := hv.node hk (hs.2 k hk).1
  have hr10 : r.length ≤ 10 := hs.1
  obtain ⟨ki, hki⟩ : ∃ x, (r.getD k default).id = x := ⟨_, rfl⟩
  obtain ⟨kb, hkb⟩ : ∃ x, (r.getD k default).before = x := ⟨_, rfl⟩
  obtain ⟨s0, hs0⟩ : ∃ x, a0 (r.getD k default) = x := ⟨_, rfl⟩
  obtain ⟨s1, hs1⟩ : ∃ x, a1 (r.getD k default) = x := ⟨_, rfl⟩
  have HD := Lib.hid (show dropOk r k = decide (fnd r s0 < 0) by rw [← hs0]; rfl)
  have HK := Lib.hid (show dropK r k = if dropOk r k then r.set k ⟨ki, kb, [s1, (s1 + 1) % 64]⟩ else r by rw [← hki, ← hkb, ← hs1]; rfl)
  have HC := Lib.hid hs.len
  rw [hki] at k0
  rw [hkb] at k1
  rw [hs0] at k3
  rw [hs1] at k4 x0 x1
  have hB0 := (Below.refl w.heap.size w).alloc (Nat.le_refl _) (.cells #[.int .i64 ki, .int .i64 kb, .slice (some ⟨bk, ok, none⟩) 2 ck] 31)
  clear hki hkb hs0 hs1 hv hs
  by_cases hd : 0 ≤ fnd r s0
  · have HF := Lib.hid (show dropOk r k = false by rw [HD.out]; simpa using hd)
    go_enter Try.func92, Try.ntmps92
    go_wp2_with (first | (go_at_call 79; refine (l3Find_any _ r s0 _ (by exact HV.out.below hB0 (Nat.le_refl _))).mono ?_; rintro e w' ⟨rfl, rfl⟩) | (go_at_call 44; refine (l3Copy_any _ r _ (by exact HV.out.below hB0 (Nat.le_refl _)) (by omega) (by exact HC.out)).mono ?_; rintro e w1 ⟨u, rfl, hO, hB1⟩))
    go_ret2
    rw [HK.out, HF.out]
    exact ⟨_, rfl, hO.mono hB0.size, hB0.trans (hB1.mono hB0.size)⟩
  · have HF := Lib.hid (show dropOk r k = true by rw [HD.out]; simp; omega)
    have hd' : fnd r s0 < 0 := by omega
    have hw1 : IntKind.i64.wrap (s1 + 1) = s1 + 1 := IntWalk.i64_in _ (by omega)
    have HW := Lib.hid hw1
    clear hd hw1
    go_enter Try.func92, Try.ntmps92
    go_wp2_with (first | (go_at_call 79; refine (l3Find_any _ r s0 _ (by exact HV.out.below hB0 (Nat.le_refl _))).mono ?_; rintro e w' ⟨rfl, rfl⟩))
    have hw1 := HW.out
    go_region
    clear hw1
    go_wp2_with fail
    have hB := (((Below.refl w.heap.size w).alloc (Nat.le_refl _) (.cells #[.int .i64 ki, .int .i64 kb, .slice (some ⟨w.heap.size + 1, 0, none⟩) 2 2] 31)).alloc (by simp) (.cells #[.int .i64 s1, .int .i64 ((s1 + 1) % 64)] 3)).drew
    refine (l4Set_any _ _ r k ki kb [s1, (s1 + 1) % 64] _ (by exact HV.out.below hB (Nat.le_refl _)) HS.out hk (by exact intsAt_newN _ _ [s1, (s1 + 1) % 64] _ _ (by simp) rfl (by simp)) (by simp)).mono ?_
    rintro e w1 ⟨u, rfl, hO, hB1⟩
    go_wp2
    go_ret2
    rw [HK.out, HF.out, if_pos rfl]
    exact ⟨_, rfl, hO.mono hB.size, hB.trans (hB1.mono hB.size)⟩

set_option maxHeartbeats 1000000 in
theorem l4Adopt_any (v : Value) (r : List Nd) (k : Nat) (w : World) (hv : RingAt w v r) (hs : Shape r) (hk : k < r.length) :
    Calls Try.prog 93 #[v, .int .i64 k] w fun e w' => ∃ u, e = .returned (.tuple #[u, .bool (adoptOk r k)]) ∧ RingOwn w' w.heap.size u (adoptK r k) ∧ Below w.heap.size w w' := by
  have HV := Lib.hid hv
  have HS := Lib.hid hs
  obtain ⟨p, cap, rfl⟩ := hv.form
  obtain ⟨b, o, bk, ok, ck, rfl, -, hc, hm, hck, hck', hb, hbk, k0, k1, k2, k3, -⟩ := hv.node hk (hs.2 k hk).1
  have hr10 : r.length ≤ 10 := hs.1
  obtain ⟨s0, hs0⟩ : ∃ x, a0 (r.getD k default) = x := ⟨_, rfl⟩
  have HD := Lib.hid (show adoptOk r k = decide (0 ≤ fnd r s0) by rw [← hs0]; rfl)
  have HK := Lib.hid (show adoptK r k = if adoptOk r k then followK r k (fnd r s0).toNat else r by rw [← hs0]; rfl)
  have HC := Lib.hid hs.len
  rw [hs0] at k3
  clear hs0 hv hs k0 k1
  rcases fnd_cases r s0 with ⟨hf, -⟩ | ⟨j, hj, hf, -, -⟩
  · have HF := Lib.hid (show adoptOk r k = false by rw [HD.out, hf]; rfl)
    have HX := Lib.hid hf
    clear hf
    go_enter Try.func93, Try.ntmps93
    go_wp2_with (first | (go_at_call 79; refine (l3Find_any _ r s0 _ (by exact HV.out)).mono ?_; rw [HX.out]; rintro e w' ⟨rfl, rfl⟩) | (go_at_call 44; refine (l3Copy_any _ r _ (by exact HV.out) (by omega) (by exact HC.out)).mono ?_; rintro e w1 ⟨u, rfl, hO, hB1⟩))
    go_ret2
    rw [HK.out, HF.out]
    exact ⟨_, rfl, hO, hB1⟩
  · have HF := Lib.hid (show adoptOk r k = true by rw [HD.out, hf]; simp)
    have HX := Lib.hid hf
    clear hf
    go_enter Try.func93, Try.ntmps93
    go_wp2_with (first | (go_at_call 79; refine (l3Find_any _ r s0 _ (by exact HV.out)).mono ?_; rw [HX.out]; rintro e w' ⟨rfl, rfl⟩) | (go_at_call 112; refine (l4Follow_any _ r k j _ (by exact HV.out) HS.out hk hj).mono ?_; rintro e w1 ⟨u, rfl, hO, hB1⟩))
    go_ret2
    rw [HK.out, HF.out, HX.out, if_pos rfl, Int.toNat_natCast]
    exact ⟨_, rfl, hO, hB1⟩

set_option maxHeartbeats 1000000 in
theorem l4One_any (v : Value) (r : List Nd) (id : Int) (w : World) (hv : RingAt w v r) :
    Calls Try.prog 65 #[v, .int .i64 id] w fun e w' => e = .returned (.tuple #[.int .i64 (if ringSafe r && okP id then fnd r id else -1), .bool (ringSafe r && okP id)]) ∧ Below w.heap.size w w' := by
  cases hrs : ringSafe r <;> cases hok : okP id
  all_goals
    have HR := Lib.hid hrs
    have HO := Lib.hid hok
    clear hrs hok
    go_enter Try.func65, Try.ntmps65
    go_wp2_with (first | (go_at_call 17; refine (sRingSafe_any _ r _ hv).mono ?_; rw [HR.out]; rintro e w1 ⟨rfl, hb1⟩) | (go_at_call 78; refine (l1Point_any id _).mono ?_; rw [HO.out]; rintro e w' ⟨rfl, rfl⟩) | (go_at_call 79; refine (l3Find_any _ r id _ (by exact hv.below hb1 (Nat.le_refl _))).mono ?_; rintro e w' ⟨rfl, rfl⟩))
    go_ret2
    exact ⟨by simp, hb1⟩

theorem sBetween_is (a x b : Int) (c : Bool) (h : btw a x b = c) (w : World) :
    Calls Try.prog 80 #[.int .i64 a, .int .i64 x, .int .i64 b] w fun e w' => e = .returned (.bool c) ∧ w = w' := by
  subst h; exact sBetween_any a x b w

set_option maxHeartbeats 1000000 in
theorem l4Closer_any (v : Value) (r : List Nd) (k : Nat) (other : Int) (w : World) (hv : RingAt w v r) (hs : Shape r) (hk : k < r.length) :
    Calls Try.prog 94 #[v, .int .i64 k, .int .i64 other] w fun e w' => ∃ u, e = .returned (.tuple #[u, .bool (closerOk r k other)]) ∧ RingOwn w' w.heap.size u (closerK r k other) ∧ Below w.heap.size w w' := by
  have HV := Lib.hid hv
  have HS := Lib.hid hs
  obtain ⟨p, cap, rfl⟩ := hv.form
  obtain ⟨b, o, bk, ok, ck, rfl, -, hc, hm, hck, hck', hb, hbk, k0, k1, k2, k3, -⟩ := hv.node hk (hs.2 k hk).1
  have hr10 : r.length ≤ 10 := hs.1
  obtain ⟨s0, hs0⟩ : ∃ x, a0 (r.getD k default) = x := ⟨_, rfl⟩
  obtain ⟨ki, hki⟩ : ∃ x, (r.getD k default).id = x := ⟨_, rfl⟩
  have HD := Lib.hid (show closerOk r k other = (decide (0 ≤ fnd r other) && btw ki other s0) by rw [← hs0, ← hki]; rfl)
  have HC := Lib.hid hs.len
  rw [hs0] at k3
  rw [hki] at k0
  clear hs0 hki hv hs k1
  rcases fnd_cases r other with ⟨hf, -⟩ | ⟨j, hj, hf, -, -⟩
  · have HF := Lib.hid (show closerOk r k other = false by rw [HD.out, hf]; rfl)
    have HX := Lib.hid hf
    clear hf
    go_enter Try.func94, Try.ntmps94
    go_wp2_with (first | (go_at_call 79; refine (l3Find_any _ r other _ (by exact HV.out)).mono ?_; rw [HX.out]; rintro e w' ⟨rfl, rfl⟩))
    go_quiet (fail)
    go_wp2_with (first | (go_at_call 44; refine (l3Copy_any _ r _ (by exact HV.out) (by omega) (by exact HC.out)).mono ?_; rintro e w1 ⟨u, rfl, hO, hB1⟩))
    go_ret2
    unfold closerK
    rw [HF.out]
    exact ⟨_, rfl, hO, (below_drewN (Below.refl _ w) nq).trans hB1⟩
  · have HX := Lib.hid hf
    have hjn : decide ((j : Int) < 0) = false := by simp
    cases hbt : btw ki other s0
    · have HF := Lib.hid (show closerOk r k other = false by rw [HD.out, hbt]; simp)
      have HB := Lib.hid hbt
      clear hf hbt
      go_enter Try.func94, Try.ntmps94
      go_wp2_with (first | (go_at_call 79; refine (l3Find_any _ r other _ (by exact HV.out)).mono ?_; rw [HX.out]; rintro e w' ⟨rfl, rfl⟩))
      go_quiet ((go_at_call 80; exact Calls.quiet_left (sBetween_is _ _ _ _ HB.out _)))
      go_wp2_with (first | (go_at_call 44; refine (l3Copy_any _ r _ (by exact HV.out) (by omega) (by exact HC.out)).mono ?_; rintro e w1 ⟨u, rfl, hO, hB1⟩))
      go_ret2
      unfold closerK
      rw [HF.out]
      exact ⟨_, rfl, hO, (below_drewN (Below.refl _ w) nq).trans hB1⟩
    · have HF := Lib.hid (show closerOk r k other = true by rw [HD.out, hbt, hf]; simp)
      have HB := Lib.hid hbt
      clear hf hbt
      go_enter Try.func94, Try.ntmps94
      go_wp2_with (first | (go_at_call 79; refine (l3Find_any _ r other _ (by exact HV.out)).mono ?_; rw [HX.out]; rintro e w' ⟨rfl, rfl⟩))
      go_quiet ((go_at_call 80; exact Calls.quiet_left (sBetween_is _ _ _ _ HB.out _)))
      go_wp2_with (first | (go_at_call 112; refine (l4Follow_any _ r k j _ (by exact HV.out) HS.out hk hj).mono ?_; rintro e w1 ⟨u, rfl, hO, hB1⟩))
      go_ret2
      unfold closerK
      rw [HF.out, HX.out, if_pos rfl, Int.toNat_natCast]
      exact ⟨_, rfl, hO, (below_drewN (Below.refl _ w) nq).trans hB1⟩

set_option maxHeartbeats 2000000 in
theorem l4Notify_any (v : Value) (r : List Nd) (k : Nat) (other : Int) (w : World) (hv : RingAt w v r) (hs : Shape r) (hk : k < r.length) :
    Calls Try.prog 95 #[v, .int .i64 k, .int .i64 other] w fun e w' => ∃ u, e = .returned (.tuple #[u, .bool (notifyOk r k other)]) ∧ RingOwn w' w.heap.size u (notifyK r k other) ∧ Below w.heap.size w w' := by
  have HV := Lib.hid hv
  have HS := Lib.hid hs
  obtain ⟨p, cap, rfl⟩ := hv.form
  obtain ⟨b, o, bk, ok, ck, rfl, -, hc, hm, hck, hck', hb, hbk, k0, k1, k2, k3, k4⟩ := hv.node hk (hs.2 k hk).1
  have hA2 := after2 (hs.2 k hk).1
  have hr10 : r.length ≤ 10 := hs.1
  obtain ⟨ki, hki⟩ : ∃ x, (r.getD k default).id = x := ⟨_, rfl⟩
  obtain ⟨kb, hkb⟩ : ∃ x, (r.getD k default).before = x := ⟨_, rfl⟩
  obtain ⟨A, hA⟩ : ∃ x, (r.getD k default).after = x := ⟨_, rfl⟩
  have hia : IntsAt w (.slice (some ⟨bk, ok, none⟩) 2 ck) A := by
    rw [← hA, hA2]
    exact ⟨_, ck, rfl, hck, by unfold maxLen; omega, .inr ⟨bk, ok, rfl, hbk, fun i hi => by
      match i, hi with
      | 0, _ => exact k3
      | 1, _ => exact k4⟩⟩
  have hAl : A.length = 2 := by rw [← hA]; exact (hs.2 k hk).1
  have hAl' : A.length ≤ 2 := by omega
  have HA := Lib.hid hia
  have HD := Lib.hid (show notifyOk r k other = (decide (0 ≤ fnd r other) && !(other == ki) && !(decide (0 ≤ kb) && decide (0 ≤ fnd r kb) && !btw kb other ki)) by rw [← hki, ← hkb]; rfl)
  have HSB := Lib.hid (show setBefore r k other = r.set k ⟨ki, other, A⟩ by rw [← hki, ← hA]; rfl)
  have HC := Lib.hid hs.len
  have hB0 := (Below.refl w.heap.size w).alloc (Nat.le_refl _) (.cells #[.int .i64 ki, .int .i64 kb, .slice (some ⟨bk, ok, none⟩) 2 ck] 31)
  have hBs := (Below.refl w.heap.size w).alloc (Nat.le_refl _) (.cells #[.int .i64 ki, .int .i64 other, .slice (some ⟨bk, ok, none⟩) 2 ck] 31)
  rw [hki] at k0
  rw [hkb] at k1
  clear hki hkb hv hs k3 k4 hA hA2 hAl hia
  rcases fnd_cases r other with ⟨hf, -⟩ | ⟨j, hj, hf, -, -⟩
  · have HF := Lib.hid (show notifyOk r k other = false by rw [HD.out, hf]; rfl)
    have HX := Lib.hid hf
    clear hf
    go_enter Try.func95, Try.ntmps95
    go_wp2_with (first | (go_at_call_of 79 (Value.int IntKind.i64 other); refine (l3Find_any _ r other _ (by exact HV.out.below hB0 (Nat.le_refl _))).mono ?_; rw [HX.out]; rintro e w' ⟨rfl, rfl⟩) | (go_at_call 44; refine (l3Copy_any _ r _ (by exact HV.out.below hB0 (Nat.le_refl _)) (by omega) (by exact HC.out)).mono ?_; rintro e w1 ⟨u, rfl, hO, hB1⟩))
    go_ret2
    unfold notifyK
    rw [HF.out]
    exact ⟨_, rfl, hO.mono hB0.size, hB0.trans (hB1.mono hB0.size)⟩
  · have HX := Lib.hid hf
    cases ho : (other == ki)
    · rcases (show kb < 0 ∨ 0 ≤ kb by omega) with hkb | hkb
      · have HF := Lib.hid (show notifyOk r k other = true by rw [HD.out, hf, ho, show decide (0 ≤ kb) = false by simp; omega]; simp)
        clear hf
        go_enter Try.func95, Try.ntmps95
        go_wp2_with (first | (go_at_call_of 79 (Value.int IntKind.i64 other); refine (l3Find_any _ r other _ (by exact HV.out.below hB0 (Nat.le_refl _))).mono ?_; rw [HX.out]; rintro e w' ⟨rfl, rfl⟩) | (go_at_call 111; refine (l4Set_any _ _ r k ki other A _ (by exact HV.out.below hBs (Nat.le_refl _)) HS.out hk (by exact HA.out.below hBs (Nat.le_refl _)) (by omega)).mono ?_; rintro e w1 ⟨u, rfl, hO, hB1⟩))
        go_ret2
        unfold notifyK
        rw [HF.out, if_pos rfl, HSB.out]
        exact ⟨_, rfl, hO.mono hBs.size, hBs.trans (hB1.mono hBs.size)⟩
      · rcases fnd_cases r kb with ⟨hg, -⟩ | ⟨m, hm', hg, -, -⟩
        · have HF := Lib.hid (show notifyOk r k other = true by rw [HD.out, hf, ho, hg]; simp)
          have HY := Lib.hid hg
          clear hf hg
          go_enter Try.func95, Try.ntmps95
          go_wp2_with (first | (go_at_call_of 79 (Value.int IntKind.i64 other); refine (l3Find_any _ r other _ (by exact HV.out.below hB0 (Nat.le_refl _))).mono ?_; rw [HX.out]; rintro e w' ⟨rfl, rfl⟩) | (go_at_call 79; refine (l3Find_any _ r kb _ (by exact HV.out.below hB0 (Nat.le_refl _))).mono ?_; rw [HY.out]; rintro e w' ⟨rfl, rfl⟩) | (go_at_call 111; refine (l4Set_any _ _ r k ki other A _ (by exact HV.out.below hBs (Nat.le_refl _)) HS.out hk (by exact HA.out.below hBs (Nat.le_refl _)) (by omega)).mono ?_; rintro e w1 ⟨u, rfl, hO, hB1⟩))
          go_ret2
          unfold notifyK
          rw [HF.out, if_pos rfl, HSB.out]
          exact ⟨_, rfl, hO.mono hBs.size, hBs.trans (hB1.mono hBs.size)⟩
        · have HY := Lib.hid hg
          cases hz : btw kb other ki
          · have HF := Lib.hid (show notifyOk r k other = false by rw [HD.out, hf, ho, hg, hz, show decide (0 ≤ kb) = true by simp; omega]; simp)
            have HZ := Lib.hid hz
            clear hf hg hz
            go_enter Try.func95, Try.ntmps95
            go_wp2_with (first | (go_at_call_of 79 (Value.int IntKind.i64 other); refine (l3Find_any _ r other _ (by exact HV.out.below hB0 (Nat.le_refl _))).mono ?_; rw [HX.out]; rintro e w' ⟨rfl, rfl⟩) | (go_at_call 79; refine (l3Find_any _ r kb _ (by exact HV.out.below hB0 (Nat.le_refl _))).mono ?_; rw [HY.out]; rintro e w' ⟨rfl, rfl⟩) | (go_at_call 80; refine (sBetween_is _ _ _ _ HZ.out _).mono ?_; rintro e w' ⟨rfl, rfl⟩) | (go_at_call 44; refine (l3Copy_any _ r _ (by exact HV.out.below hB0 (Nat.le_refl _)) (by omega) (by exact HC.out)).mono ?_; rintro e w1 ⟨u, rfl, hO, hB1⟩))
            go_ret2
            unfold notifyK
            rw [HF.out]
            exact ⟨_, rfl, hO.mono hB0.size, hB0.trans (hB1.mono hB0.size)⟩
          · have HF := Lib.hid (show notifyOk r k other = true by rw [HD.out, hf, ho, hg, hz]; simp)
            have HZ := Lib.hid hz
            clear hf hg hz
            go_enter Try.func95, Try.ntmps95
            go_wp2_with (first | (go_at_call_of 79 (Value.int IntKind.i64 other); refine (l3Find_any _ r other _ (by exact HV.out.below hB0 (Nat.le_refl _))).mono ?_; rw [HX.out]; rintro e w' ⟨rfl, rfl⟩) | (go_at_call 79; refine (l3Find_any _ r kb _ (by exact HV.out.below hB0 (Nat.le_refl _))).mono ?_; rw [HY.out]; rintro e w' ⟨rfl, rfl⟩) | (go_at_call 80; refine (sBetween_is _ _ _ _ HZ.out _).mono ?_; rintro e w' ⟨rfl, rfl⟩) | (go_at_call 111; refine (l4Set_any _ _ r k ki other A _ (by exact HV.out.below hBs (Nat.le_refl _)) HS.out hk (by exact HA.out.below hBs (Nat.le_refl _)) (by omega)).mono ?_; rintro e w1 ⟨u, rfl, hO, hB1⟩))
            go_ret2
            unfold notifyK
            rw [HF.out, if_pos rfl, HSB.out]
            exact ⟨_, rfl, hO.mono hBs.size, hBs.trans (hB1.mono hBs.size)⟩
    · have HF := Lib.hid (show notifyOk r k other = false by rw [HD.out, hf, ho]; simp)
      clear hf
      go_enter Try.func95, Try.ntmps95
      go_wp2_with (first | (go_at_call_of 79 (Value.int IntKind.i64 other); refine (l3Find_any _ r other _ (by exact HV.out.below hB0 (Nat.le_refl _))).mono ?_; rw [HX.out]; rintro e w' ⟨rfl, rfl⟩) | (go_at_call 44; refine (l3Copy_any _ r _ (by exact HV.out.below hB0 (Nat.le_refl _)) (by omega) (by exact HC.out)).mono ?_; rintro e w1 ⟨u, rfl, hO, hB1⟩))
      go_ret2
      unfold notifyK
      rw [HF.out]
      exact ⟨_, rfl, hO.mono hB0.size, hB0.trans (hB1.mono hB0.size)⟩

end Go.Proofs.Ytojpfbbgpcafnaa
