/-
  Contracts: RingStabilize of the program.
-/
import Derived.Test.YtojpfbbgpcafnaaSStabR
import Derived.Test.YtojpfbbgpcafnaaIRDrop
import Derived.Test.YtojpfbbgpcafnaaIRAdopt
import Derived.Test.YtojpfbbgpcafnaaIRCloser
import Derived.Test.YtojpfbbgpcafnaaIRNotify
import Derived.Deep.LoopGhost
import Derived.Deep.CutRange
namespace Go.Proofs.Ytojpfbbgpcafnaa
open Go.RowKit

/-- A captured variable that holds a ring of the call's own. -/
def BoxIs (w : World) (B M : Nat) (x : List Nd) : Prop :=
  ∃ u B', w.cell? ⟨M, 0, none⟩ = some u ∧ w.frozen? ⟨M, 0, none⟩ = false ∧ B ≤ B' ∧ RingOwn w B' u x
theorem BoxIs.below {w w' : World} {B M C : Nat} {x : List Nd} (h : BoxIs w B M x) (hM : M < w.heap.size) (hb : Below C w w') (hC : w.heap.size ≤ C) : BoxIs w' B M x := by
  obtain ⟨u, B', h1, h2, h3, h4⟩ := h
  exact ⟨u, B', (hb.cell (p := ⟨M, 0, none⟩) (by show M < C; omega)).trans h1, (hb.frozen (p := ⟨M, 0, none⟩) (by show M < C; omega)).trans h2, h3, h4.below hb hC⟩
theorem BoxIs.form {w : World} {B M : Nat} {x : List Nd} (h : BoxIs w B M x) (hx : 0 < x.length) :
    ∃ g cap B', w.cell? ⟨M, 0, none⟩ = some (.slice (some ⟨g, 0, none⟩) x.length cap) ∧ w.frozen? ⟨M, 0, none⟩ = false ∧ B ≤ B' ∧ RingOwn w B' (.slice (some ⟨g, 0, none⟩) x.length cap) x ∧ x.length ≤ cap ∧ cap ≤ maxLen := by
  obtain ⟨u, B', h1, h2, h3, h4⟩ := h
  obtain ⟨g, cap, rfl, h5, h6, -⟩ := h4.form hx
  exact ⟨g, cap, B', h1, h2, h3, h4, h5, h6⟩

set_option maxHeartbeats 1000000 in
/-- The closure 'try': the variable takes the new ring if the step went through. -/
theorem tryF_any (u : Value) (ok : Bool) (M B : Nat) (x y : List Nd) (w : World) (hBM : B ≤ M) (hbox : BoxIs w B M x) (hy : RingOwn w (M + 1) u y) :
    Calls Try.prog 54 #[u, .bool ok, .pointer (some ⟨M, 0, none⟩)] w fun e w' => e = .returned (.bool ok) ∧ BoxIs w' B M (if ok then y else x) ∧ Below B w w' ∧ w.heap.size ≤ w'.heap.size := by
  cases ok
  · have HB := Lib.hid hbox
    clear hbox
    go_enter Try.func54, Try.ntmps54
    go_wp2
    go_ret
    exact ⟨rfl, HB.out, Below.refl _ _, Nat.le_refl _⟩
  · obtain ⟨cu, B', hc, hf, hB', hO⟩ := hbox
    have HO := Lib.hid hO
    have HY := Lib.hid hy
    obtain ⟨pu, uc, rfl⟩ := hy.at.form
    obtain ⟨pc, cc, rfl⟩ := hO.at.form
    clear hO hy
    have hBM' : B ≤ M + 1 := by omega
    go_enter Try.func54, Try.ntmps54
    go_wp2
    go_ret
    refine ⟨rfl, ⟨_, M + 1, ?_, ?_, hBM', HY.out.keeps ((Keeps.refl _ _).setCell (by simp) _)⟩, (Below.refl B w).setCell (p := ⟨M, 0, none⟩) hBM _, by simp [World.setCell]⟩
    · exact World.cell?_setCell_same _ _ _ hc
    · rw [World.frozen?_setCell]; exact hf

theorem stepAt {c : Bool} {r : List Nd} {id : Int} {k : Nat} (hc : c = true) (hf : fnd r id = (k : Int)) (f : Nat → List Nd) (g : Nat → Bool) : stepR c r id f = f k ∧ stepB c r id g = g k := ⟨stepR_hit hc hf f, stepB_hit hc hf g⟩

set_option maxHeartbeats 1000000 in
theorem iRingStabilize_no (v : Value) (r : List Nd) (id : Int) (w : World) (hv : RingAt w v r) (hc : (ringSafe r && okP id) = false) :
    Calls Try.prog 22 #[v, .int .i64 id] w fun e w' => ∃ u, e = .returned (.tuple #[u, .bool (rStabOk r id)]) ∧ RingOwn w' w.heap.size u (rStab r id) ∧ Below w.heap.size w w' := by
  unfold rStabOk rStab
  rw [stepR_no hc, stepB_no hc]
  cases hs : ringSafe r
  · have HS := Lib.hid hs
    clear hs hc
    go_enter Try.func22, Try.ntmps22
    go_wp2_with (go_at_call 32; refine (iRingSafe_any _ r _ hv).mono ?_; rw [HS.out]; rintro e w1 ⟨rfl, hb1⟩)
    go_ret2
    exact ⟨_, rfl, RingOwn.nil _ _, hb1⟩
  · have HS := Lib.hid hs
    have HP := Lib.hid (show okP id = false by rw [hs] at hc; simpa using hc)
    clear hs hc
    go_enter Try.func22, Try.ntmps22
    go_wp2_with (first | (go_at_call 32; refine (iRingSafe_any _ r _ hv).mono ?_; rw [HS.out]; rintro e w1 ⟨rfl, hb1⟩) | (go_at_call 52; refine (posok_any _ _).mono ?_; rw [HP.out]; rintro e w' ⟨rfl, rfl⟩))
    go_ret2
    exact ⟨_, rfl, RingOwn.nil _ _, hb1⟩

set_option maxHeartbeats 1000000 in
theorem iRingStabilize_miss (v : Value) (r : List Nd) (id : Int) (w : World) (hv : RingAt w v r) (hs : ringSafe r = true) (ho : okP id = true) (hf : fnd r id = -1) :
    Calls Try.prog 22 #[v, .int .i64 id] w fun e w' => ∃ u, e = .returned (.tuple #[u, .bool (rStabOk r id)]) ∧ RingOwn w' w.heap.size u (rStab r id) ∧ Below w.heap.size w w' := by
  unfold rStabOk rStab
  rw [stepR_miss (by simp [hs, ho]) hf, stepB_miss hf]
  have hpos := ringSafe_pos hs
  have HS := Lib.hid hs
  have HP := Lib.hid ho
  have HF := Lib.hid hf
  have hsh := safe_shape hs
  have hr10 := hsh.1
  have HL := Lib.hid hsh.len
  clear hs ho hf hsh
  go_enter Try.func22, Try.ntmps22
  go_wp2_with (first | (go_at_call 32; refine (iRingSafe_any _ r _ hv).mono ?_; rw [HS.out]; rintro e w1 ⟨rfl, hb1⟩) | (go_at_call 52; refine (posok_any _ _).mono ?_; rw [HP.out]; rintro e w' ⟨rfl, rfl⟩) | (go_at_call 42; refine (copyRing_any _ r _ (hv.below hb1 (Nat.le_refl _)) (by omega) HL.out).mono ?_; rintro e w2 ⟨u, rfl, hO, hb2⟩; obtain ⟨g, cap, rfl, hg1, hg2, hg3, hg4⟩ := hO.form hpos; have hb12 := hb1.trans (hb2.mono hb1.size); have hbox := (Below.refl w2.heap.size w2).alloc (Nat.le_refl _) (.cells #[.slice (some ⟨g, 0, none⟩) r.length cap] 23); have HO := Lib.hid (hO.below hbox (Nat.le_refl _)); clear hO; have hB := hb12.trans (hbox.mono hb12.size)) | (go_at_call 53; refine (nodeAt_no _ r id _ HO.out.at HF.out).mono ?_; rintro e w3 ⟨rfl, hb3⟩; have hc3 : w3.cell? ⟨w2.heap.size, 0, none⟩ = some (.slice (some ⟨g, 0, none⟩) r.length cap) := (hb3.cell (p := ⟨w2.heap.size, 0, none⟩) (by simp)).trans (by simp); have HO3 := Lib.hid (HO.out.below hb3 (Nat.le_refl _)); have hB3 := hB.trans (hb3.mono hB.size)))
  go_ret2
  exact ⟨_, rfl, HO3.out.mono hb1.size, hB3⟩

/-- What the walk through RingStabilize needs to know of its stages. -/
structure StabFacts (r : List Nd) (id : Int) (k : Nat) (r1 r2 r3 : List Nd) (s2 s3 : Nat) (x2 x3 b2 : Int) : Prop where
  s0 : ringSafe r = true
  s1 : ringSafe r1 = true
  s2' : ringSafe r2 = true
  s3' : ringSafe r3 = true
  k1 : k < r1.length
  k2 : k < r2.length
  k3 : k < r3.length
  d0 : rDrop r id = r1
  d0ok : rDropOk r id = false → r = r1
  d1 : rDropOk r1 id = false
  a : rAdopt r1 id = r2
  aok : rAdoptOk r1 id = true
  f2 : fnd r2 id = (k : Int)
  f2x : fnd r2 x2 = (s2 : Int)
  hs2 : s2 < r2.length
  hx2 : a0 (r2.getD k default) = x2
  hb2 : (r2.getD s2 default).before = b2
  hc : b2 ≠ -1 → (if rCloserOk r2 id b2 then rCloser r2 id b2 else r2) = r3
  hc' : b2 = -1 → r2 = r3
  f3 : fnd r3 id = (k : Int)
  hx3 : a0 (r3.getD k default) = x3
  hn : (if rNotifyOk r3 x3 id then rNotify r3 x3 id else r3) = stabK r k

theorem stabFacts {r : List Nd} {id : Int} {k : Nat} (hs : ringSafe r = true) (ho : okP id = true) (hf : fnd r id = (k : Int)) (hk : k < r.length) :
    ∃ r1 r2 r3 s2 s3 x2 x3 b2, StabFacts r id k r1 r2 r3 s2 s3 x2 x3 b2 := by
  have F1 := dropK_fine hs hk
  obtain ⟨F2, F3, F4, l2, l3⟩ := stab_stages hs hk
  have hk1 : k < (dropK r k).length := by rw [F1.len]; exact hk
  have hk2 : k < (stab2 r k).length := by rw [F2.len]; exact hk
  have hk3 : k < (stab3 (stab2 r k) k).length := by rw [F3.len]; exact hk
  have hid : (r.getD k default).id = id := by
    have : live r id = true := fnd_live_iff.1 (by rw [hf]; omega)
    obtain ⟨j, hj, e1, -, e3⟩ := fnd_at this
    have : j = k := by rw [hf] at e1; omega
    rw [← this]; exact e3
  have f1 : fnd (dropK r k) id = (k : Int) := (F1.fnd_eq id).trans hf
  have f2 : fnd (stab2 r k) id = (k : Int) := (F2.fnd_eq id).trans hf
  have f3 : fnd (stab3 (stab2 r k) k) id = (k : Int) := (F3.fnd_eq id).trans hf
  obtain ⟨e1, e2, e3⟩ := stabS_lt l2
  obtain ⟨g1, g2, g3⟩ := stabS_lt l3
  have D0 := stepAt (c := ringSafe r && okP id) (by simp [hs, ho]) hf (fun k => dropK r k) (fun k => dropOk r k)
  have D1 := stepAt (c := ringSafe (dropK r k) && okP id) (by simp [F1.1, ho]) f1 (fun j => dropK (dropK r k) j) (fun j => dropOk (dropK r k) j)
  have A1 := stepAt (c := ringSafe (dropK r k) && okP id) (by simp [F1.1, ho]) f1 (fun j => adoptK (dropK r k) j) (fun j => adoptOk (dropK r k) j)
  refine ⟨dropK r k, stab2 r k, stab3 (stab2 r k) k, stabS (stab2 r k) k, stabS (stab3 (stab2 r k) k) k, _, _, _, hs, F1.1, F2.1, F3.1, hk1, hk2, hk3, D0.1, fun h => ?_, D1.2.trans (dropOk_again hs hk), A1.1, A1.2.trans (adoptOk_t.2 ?_), f2, e3, e1, rfl, rfl, fun hb => ?_, fun hb => ?_, f3, rfl, ?_⟩
  · have hd : dropOk r k = false := D0.2.symm.trans h
    unfold dropK; rw [hd]; rfl
  · rw [F1.live_eq, ← (dropK_fine hs hk).live_eq]; exact dropK_live hs hk
  · have hv := valid_node (safe_valid F2.1) (getD_mem e1)
    have hob : okP ((stab2 r k).getD (stabS (stab2 r k) k) default).before = true := by
      rcases hv.2.1 with h | h
      · exact absurd h hb
      · exact h
    have C := stepAt (c := ringSafe (stab2 r k) && okP id && okP ((stab2 r k).getD (stabS (stab2 r k) k) default).before) (by rw [F2.1, ho, hob]; rfl) f2 (fun j => closerK (stab2 r k) j ((stab2 r k).getD (stabS (stab2 r k) k) default).before) (fun j => closerOk (stab2 r k) j ((stab2 r k).getD (stabS (stab2 r k) k) default).before)
    unfold rCloserOk rCloser
    rw [C.1, C.2]
    unfold stab3
    rw [if_pos (show 0 ≤ stabB (stab2 r k) k from (okP_def.1 hob).1)]
    unfold closerK stabB
    split
    · rfl
    · rfl
  · unfold stab3 stabB
    rw [if_neg (by rw [hb]; decide)]
  · have hox := live_ok (safe_valid F3.1) l3
    have N := stepAt (c := ringSafe (stab3 (stab2 r k) k) && okP (a0 ((stab3 (stab2 r k) k).getD k default)) && okP id) (by rw [F3.1, ho, hox]; rfl) g3 (fun j => notifyK (stab3 (stab2 r k) k) j id) (fun j => notifyOk (stab3 (stab2 r k) k) j id)
    unfold rNotifyOk rNotify
    rw [N.1, N.2]
    have hid3 : ((stab3 (stab2 r k) k).getD k default).id = id := (F3.id_eq k).trans hid
    unfold stabK stab4 notifyK
    rw [hid3]
    split
    · rfl
    · rfl

end Go.Proofs.Ytojpfbbgpcafnaa
