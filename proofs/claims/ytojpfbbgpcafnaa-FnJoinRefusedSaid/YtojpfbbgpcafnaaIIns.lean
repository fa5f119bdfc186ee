/-
  Contracts: the builtin copy at elements of several cells; slices.Insert of one node into an owned ring.
-/
import Derived.Test.YtojpfbbgpcafnaaIJoin
import Derived.Laws.IdiomCopy
import Derived.Lib.Overlaps
import Derived.Lib.AppendZerosOnto
import Derived.Lib.AppendZeros
import Derived.Laws.Externs
import Derived.Shelf.Spec.SlicesInsert
namespace Go.Proofs.Ytojpfbbgpcafnaa
open Go.RowKit

/-- copy at elements of 'size' cells: all is read before anything is written. -/
theorem run_copy_cellsN {P : Program} (w : World) (dT sT ty elem : TypeId) (b o dLen dCap : Nat) (a : Addr) (sLen sCap size : Nat) (cs : List Value)
    (hu : P.underlying dT = some (.slice elem)) (hs : (P.info? elem).map (·.size) = some size) (hn : cs.length = Nat.min sLen dLen * size)
    (hsrc : ∀ j v, cs[j]? = some v → w.cell? (a.add j) = some v) (hc : ∀ j, j < cs.length → (w.cell? ⟨b, o + j, none⟩).isSome = true) (hf : ∀ j, j < cs.length → w.frozen? ⟨b, o + j, none⟩ = false) (h1 : ∀ v ∈ cs, v.oneCell' = true) :
    (Builtin.copy_ #[dT, sT] ty #[.slice (some ⟨b, o, none⟩) dLen dCap, .slice (some a) sLen sCap]).run P w = .ok (goInt (Nat.min sLen dLen)) (w.setCells b o cs) := by
  have hl := run_loadCells_list (P := P) w a cs hsrc
  have hst := run_storeCells_cells (P := P) b o cs 0 w (by simpa using hc) (by simpa using hf) h1
  cases hq : P.info? elem with
  | none => simp [hq] at hs
  | some i =>
    have hi : i.size = size := by simpa [hq] using hs
    simp [Builtin.copy_, run_underlying hu, Builtin.lenOf, Builtin.firstCells, sizeOf, typeInfo, hq, hi, ← hn, hl, hst]

/-- A row with other cells from place o on. -/
def overL (xs : List Value) : Nat → List Value → List Value
  | _, [] => xs
  | o, u :: us => overL (xs.set o u) (o + 1) us
theorem ownsRow_setCells {B size n g cap : Nat} {e : TypeId} : ∀ (us : List Value) (xs : List Value) (o : Nat) (w : World), w.ownsRow B e size (.slice (some ⟨g, 0, none⟩) n cap) n xs →
    (w.setCells g o us).ownsRow B e size (.slice (some ⟨g, 0, none⟩) n cap) n (overL xs o us)
  | [], _, _, _, h => h
  | u :: us, xs, o, _, h => ownsRow_setCells us (xs.set o u) (o + 1) _ (ownsRow_set h o u)
theorem overL_len : ∀ (us xs : List Value) (o : Nat), (overL xs o us).length = xs.length
  | [], _, _ => rfl
  | u :: us, xs, o => by rw [overL, overL_len us]; simp
theorem overL_eq : ∀ (us xs : List Value) (o : Nat), o + us.length ≤ xs.length → overL xs o us = xs.take o ++ us ++ xs.drop (o + us.length)
  | [], xs, o, _ => by simp [overL]
  | u :: us, xs, o, h => by
    simp only [List.length_cons] at h
    rw [overL, overL_eq us _ _ (by rw [List.length_set]; omega)]
    have h1 : (xs.set o u).take (o + 1) = xs.take o ++ [u] := by
      rw [List.take_set, List.take_succ_eq_append_getElem (by omega), List.set_append_right _ _ (by simp; omega)]
      simp [Nat.min_eq_left (show o ≤ xs.length by omega)]
    rw [h1, List.drop_set_of_lt (by omega)]
    simp [List.append_assoc, Nat.add_comm, Nat.add_left_comm]
theorem grow_setCells (g : Nat) : ∀ (us : List Value) (o : Nat) (w : World), w.grownBy (w.setCells g o us) (some g)
  | [], _, _ => ⟨rfl, rfl, rfl, Nat.le_refl _, fun _ _ _ => rfl⟩
  | u :: us, o, w => grow_trans (grow_set w g o u) (grow_setCells g us (o + 1) _)

theorem below_setCells {B g : Nat} (hg : B ≤ g) {w0 : World} : ∀ (us : List Value) (o : Nat) (w : World), Below B w0 w → Below B w0 (w.setCells g o us)
  | [], _, _, h => h
  | u :: us, o, _, h => below_setCells hg us (o + 1) _ (h.setCell (p := ⟨g, o, none⟩) hg u)
theorem ins_list {L xs news : List Value} {n J : Nat} (hL : L.length = (n + 1) * 3) (hx : xs.length = n * 3) (hn : news.length = 3) (hJ : J ≤ n) (hp : L.take (J * 3) = xs.take (J * 3)) :
    overL (overL L (J * 3) news) ((J + 1) * 3) (xs.drop (J * 3)) = xs.take (J * 3) ++ news ++ xs.drop (J * 3) := by
  have hd : (xs.drop (J * 3)).length = (n - J) * 3 := by rw [List.length_drop, hx]; omega
  rw [overL_eq _ _ _ (by rw [overL_len, hL, hd]; omega), overL_eq _ _ _ (by rw [hL, hn]; omega), hp, hn]
  have ht : (xs.take (J * 3)).length = J * 3 := by rw [List.length_take, hx]; omega
  rw [List.take_append_of_le_length (by simp [ht, hn]; omega), List.take_of_length_le (by simp [ht, hn]; omega), List.drop_of_length_le (l := xs.take (J * 3) ++ news ++ List.drop (J * 3 + 3) L) (by simp only [List.length_append, List.length_drop, ht, hn, hL, hx]; omega), List.append_nil]
theorem ins_list2 {L xs news : List Value} {n J : Nat} (hL : L.length = (n + 1) * 3) (hx : xs.length = n * 3) (hn : news.length = 3) (hJ : J ≤ n) (hp : L.take (J * 3) = xs.take (J * 3)) :
    overL (overL L ((J + 1) * 3) (xs.drop (J * 3))) (J * 3) news = xs.take (J * 3) ++ news ++ xs.drop (J * 3) := by
  have hd : (xs.drop (J * 3)).length = (n - J) * 3 := by rw [List.length_drop, hx]; omega
  rw [overL_eq _ _ _ (by rw [overL_len, hL, hn]; omega), overL_eq (xs.drop (J * 3)) _ _ (by rw [hL, hd]; omega), hn, hd]
  have e1 : (List.take ((J + 1) * 3) L).length = (J + 1) * 3 := by rw [List.length_take, hL]; omega
  have e2 : List.drop ((J + 1) * 3 + (n - J) * 3) L = [] := List.drop_of_length_le (by rw [hL]; omega)
  rw [e2, List.append_nil, List.take_append_of_le_length (by rw [e1]; omega), List.take_take, Nat.min_eq_left (by omega), hp, List.drop_append_of_le_length (by rw [e1]; omega), List.drop_of_length_le (l := List.take ((J + 1) * 3) L) (by rw [e1]; omega), List.nil_append]

/-- A row with room: one element more, whatever its cells hold. -/
theorem ownsRow_room {w : World} {B g n cap : Nat} {e : TypeId} {xs : List Value} (h : w.ownsRow B e 3 (.slice (some ⟨g, 0, none⟩) n cap) n xs) (hc : n < cap) :
    ∃ L, L.length = (n + 1) * 3 ∧ L.take (n * 3) = xs ∧ w.ownsRow B e 3 (.slice (some ⟨g, 0, none⟩) (n + 1) cap) (n + 1) L := by
  rcases h.2 with ⟨h0, -⟩ | ⟨g', cap', cur, e1, hb, hg, hc', hm, hs, ht⟩
  · cases h0
  · cases e1
    have hl : (cur.toList.take ((n + 1) * 3)).length = (n + 1) * 3 := by
      rw [List.length_take, Array.length_toList, hs]
      have : (n + 1) * 3 ≤ cap * 3 := Nat.mul_le_mul_right 3 hc
      omega
    refine ⟨_, hl, ?_, hl, .inr ⟨g, cap, cur, rfl, hb, hg, hc, hm, hs, rfl⟩⟩
    rw [List.take_take, Nat.min_eq_left (by omega)]
    exact ht

/-- What an owned row of three cells a piece says of its block. -/
theorem ownsRow_facts {w : World} {B g n cap : Nat} {e : TypeId} {xs : List Value} (h : w.ownsRow B e 3 (.slice (some ⟨g, 0, none⟩) n cap) n xs) :
    (∀ j v, xs[j]? = some v → w.cell? ⟨g, j, none⟩ = some v) ∧ (∀ j, j < cap * 3 → (w.cell? ⟨g, j, none⟩).isSome = true) ∧ (∀ j, w.frozen? ⟨g, j, none⟩ = false) ∧ w.shape? g = some (e, cap * 3) ∧ cap ≤ maxLen ∧ g < w.heap.size := by
  rcases h.2 with ⟨h0, -⟩ | ⟨g', cap', cur, e1, hb, hg, hc', hm, hs, ht⟩
  · cases h0
  · cases e1
    refine ⟨fun j v hj => ?_, fun j hj => ?_, fun j => by simp [World.frozen?, hg], by simp [World.shape?, hg, hs], hm, (Array.getElem?_eq_some_iff.1 hg).1⟩
    · obtain ⟨g1, c1, e2, -, -, -, -, h1, -⟩ := ownsRow_cell h hj
      cases e2
      exact h1
    · simp only [World.cell?, hg]
      simp [hs, hj]

def InsPostT (T : TypeId) (B g n J : Nat) (xs news : List Value) (w : World) (e : Ending) (w' : World) : Prop :=
  ∃ v', e = .returned v' ∧ w'.ownsRow B T 3 v' (n + 1) (xs.take (J * 3) ++ news ++ xs.drop (J * 3)) ∧ w.grownBy w' (some g)

set_option maxHeartbeats 2000000 in
theorem insertEnd_any (B g cap n vb : Nat) (xs news : List Value) (w : World) (hO : w.ownsRow B 31 3 (.slice (some ⟨g, 0, none⟩) n cap) n xs) (hn : 0 < n) (h10 : n ≤ 10)
    (hnl : news.length = 3) (hnews : ∀ j u, news[j]? = some u → w.cell? ⟨vb, j, none⟩ = some u) (h1n : ∀ u ∈ news, u.oneCell' = true) :
    Calls Try.prog 102 #[.slice (some ⟨g, 0, none⟩) n cap, .int .i64 n, .slice (some ⟨vb, 0, none⟩) 1 1] w (InsPostT 31 B g n n xs news w) := by
  obtain ⟨n0, ni, nz0, nz1, nz2⟩ := info_parts Try.infoNode
  have hB : B ≤ w.heap.size := by
    obtain ⟨hb, hl⟩ := hO.lt g rfl
    omega
  have HO := Lib.hid hO
  have hxl := hO.1
  have hc : n ≤ cap ∧ cap ≤ maxLen := by
    rcases hO.2 with ⟨h0, -⟩ | ⟨g', cap', cur, e1, -, -, hc, hm, -⟩
    · cases h0
    · cases e1; exact ⟨hc, hm⟩
  obtain ⟨hc1, hc2⟩ := hc
  unfold maxLen at hc2
  have HN := Lib.hid hnews
  clear hO hnews
  go_enter Try.func102, Try.ntmps102
  go_wp2_with (at_builtin; refine wpList_append_own _ rfl _ _ 23 rfl B 31 n0 (.agg #[.int .i64 0, .int .i64 0, .slice none 0 0]) 3 40 Try.underlying23 ni nz0 nz1 nz2 rfl (by decide) _ n xs rfl HO.out ⟨vb, 0, none⟩ 1 1 news rfl hnl (fun j u hj => by rw [Addr.add_lit, Nat.zero_add]; exact HN.out j u hj) h1n (by unfold maxLen; omega) (by omega) hB ?_; intro v' w' hown hgrow hnil)
  all_goals
    go_ret
    refine ⟨v', rfl, ?_, hgrow⟩
    rw [List.take_of_length_le (by omega), List.drop_of_length_le (by omega), List.append_nil]
    exact hown

set_option maxHeartbeats 4000000 in
set_option maxRecDepth 100000 in
theorem insertShift_any (B g cap n J vb kA : Nat) (tA : TypeId) (xs news : List Value) (w : World) (hO : w.ownsRow B 31 3 (.slice (some ⟨g, 0, none⟩) n cap) n xs) (hJ : J < n) (hroom : n < cap) (h10 : n ≤ 12)
    (hnl : news.length = 3) (hnews : ∀ j u, news[j]? = some u → w.cell? ⟨vb, j, none⟩ = some u) (h1n : ∀ u ∈ news, u.oneCell' = true) (h1x : ∀ u ∈ xs, u.oneCell' = true) (hne : vb ≠ g)
    (hsa : w.shape? vb = some (tA, kA)) (hfa : ∀ j, w.frozen? ⟨vb, j, none⟩ = false) :
    Calls Try.prog 102 #[.slice (some ⟨g, 0, none⟩) n cap, .int .i64 J, .slice (some ⟨vb, 0, none⟩) 1 1] w (InsPostT 31 B g n J xs news w) := by
  have hxl := hO.1
  obtain ⟨hcs, hsp, hfz, hsb, hcm, hgl⟩ := ownsRow_facts hO
  obtain ⟨L, hLl, hLt, hLo⟩ := ownsRow_room hO hroom
  unfold maxLen at hcm
  obtain ⟨n0, ni, nz0, nz1, nz2⟩ := info_parts Try.infoNode
  have hsz : (Try.prog.info? 31).map (·.size) = some 3 := by rw [ni]; simp [nz1]
  have hz : ∀ w, (Go.sizeOf 31).run Try.prog w = .ok 3 w := fun w => by simp [sizeOf, typeInfo, ni, nz1]
  have hov : ∀ lb cb, (callFunc 113 #[.slice (some ⟨vb, 0, none⟩) 1 1, .slice (some ⟨g, (J + 1) * 3, none⟩) lb cb]).run Try.prog w = .ok (.value (.bool false)) w := fun lb cb => by
    rw [run_callFunc_extern Try.func113 (by kernel_rfl) (by kernel_rfl) (by kernel_rfl) (e := Extern.SlicesOverlaps.overlaps #[23, 23] #[4]) (by kernel_rfl),
      Lib.run_overlaps_apart w 23 4 31 Try.underlying23 3 hz ⟨vb, 0, none⟩ ⟨g, (J + 1) * 3, none⟩ 1 1 lb cb hne tA 31 kA (cap * 3) hsa hsb (by omega) (hfa _) (hfa _)]
    rfl
  have hdl : (xs.drop (J * 3)).length = (n - J) * 3 := by rw [List.length_drop, hxl]; omega
  have hcp1 : ∀ ty dc sc, (Builtin.copy_ #[23, 23] ty #[.slice (some ⟨g, (J + 1) * 3, none⟩) (n - J) dc, .slice (some ⟨g, J * 3, none⟩) (n + 1 - J) sc]).run Try.prog w.drew = .ok (goInt (Nat.min (n + 1 - J) (n - J))) (w.drew.setCells g ((J + 1) * 3) (xs.drop (J * 3))) := fun ty dc sc =>
    run_copy_cellsN w.drew _ _ ty 31 g ((J + 1) * 3) (n - J) dc ⟨g, J * 3, none⟩ (n + 1 - J) sc 3 (xs.drop (J * 3)) Try.underlying23 hsz (by rw [hdl, show Nat.min (n + 1 - J) (n - J) = n - J by simp only [Nat.min_def]; split <;> omega])
      (fun j v hj => by rw [Addr.add_lit]; exact hcs _ v (by rwa [List.getElem?_drop] at hj))
      (fun j hj => hsp _ (by rw [hdl] at hj; omega)) (fun j hj => hfz _) (fun v hv => h1x v (List.mem_of_mem_drop hv))
  obtain ⟨W1, hW1⟩ : ∃ W1, W1 = w.drew.setCells g ((J + 1) * 3) (xs.drop (J * 3)) := ⟨_, rfl⟩
  have hLo0 : w.drew.ownsRow B 31 3 (.slice (some ⟨g, 0, none⟩) (n + 1) cap) (n + 1) L := hLo
  have hLo1 : W1.ownsRow B 31 3 (.slice (some ⟨g, 0, none⟩) (n + 1) cap) (n + 1) (overL L ((J + 1) * 3) (xs.drop (J * 3))) := by rw [hW1]; exact ownsRow_setCells _ _ _ _ hLo0
  obtain ⟨hcs1, hsp1, hfz1, -, -, -⟩ := ownsRow_facts hLo1
  have hv1 : ∀ j, W1.cell? ⟨vb, j, none⟩ = w.cell? ⟨vb, j, none⟩ := fun j => by rw [hW1, World.cell?_setCells_out g _ _ _ _ (fun h _ => absurd h hne)]; rfl
  have hcp2 : ∀ (W : World), (∀ x, W.cell? x = W1.cell? x) → (∀ x, W.frozen? x = W1.frozen? x) → ∀ ty dc, (Builtin.copy_ #[23, 23] ty #[.slice (some ⟨g, J * 3, none⟩) (n + 1 - J) dc, .slice (some ⟨vb, 0, none⟩) 1 1]).run Try.prog W = .ok (goInt (Nat.min 1 (n + 1 - J))) (W.setCells g (J * 3) news) := fun W hWc hWf ty dc =>
    run_copy_cellsN W _ _ ty 31 g (J * 3) (n + 1 - J) dc ⟨vb, 0, none⟩ 1 1 3 news Try.underlying23 hsz (by rw [hnl, show Nat.min 1 (n + 1 - J) = 1 by simp only [Nat.min_def]; split <;> omega])
      (fun j v hj => by rw [Addr.add_lit, Nat.zero_add, hWc, hv1]; exact hnews j v hj)
      (fun j hj => by rw [hWc]; exact hsp1 _ (by omega)) (fun j hj => by rw [hWf]; exact hfz1 _) h1n
  have hpost : ∀ W : World, W = W1 → InsPostT 31 B g n J xs news w (.returned (.slice (some ⟨g, 0, none⟩) (n + 1) cap)) (W.setCells g (J * 3) news) := fun W hW => by
    subst hW
    refine ⟨_, rfl, ?_, ?_⟩
    · rw [← ins_list2 hLl hxl hnl (Nat.le_of_lt hJ) (by rw [← hLt, List.take_take, Nat.min_eq_left (by omega)])]
      exact ownsRow_setCells _ _ _ _ hLo1
    · rw [hW1]
      have h0 : w.grownBy w.drew (some g) := ⟨rfl, rfl, rfl, Nat.le_refl _, fun _ _ _ => rfl⟩
      exact grow_trans (grow_trans h0 (grow_setCells g _ _ w.drew)) (grow_setCells g _ _ _)
  have hz2 : ¬ ((J : Int) = (n : Int)) := by omega
  have hw1 : IntKind.i64.wrap ((J : Int) + 1) = (J : Int) + 1 := by rw [IntKind.wrap_i64]; omega
  have hb1 : (0 : Int) ≤ (J : Int) + 1 := by omega
  have htn : ((J : Int) + 1).toNat = J + 1 := by omega
  have hb2 : ¬ (cap = J + 1) := by omega
  have hb3 : (J : Int) ≤ (n : Int) + 1 := by omega
  have hb4 : ¬ (cap = J) := by omega
  have hin : J ≤ n := by omega
  have mixed : Try.prog.follows Departure.mixedOrders = true := by kernel_rfl
  subst hW1
  have HP := Lib.hid hpost
  have HC1 := Lib.hid hcp1
  have HC2 := Lib.hid hcp2
  have HOV := Lib.hid hov
  clear hpost hcp1 hcp2 hov hcs hsp hfz hsb hLl hLt hLo hLo0 hLo1 hcs1 hsp1 hfz1 hv1 hdl hsz hz ni hsa hfa hnews h1n h1x hO hxl hnl
  go_enter Try.func102, Try.ntmps102
  go_wp2_with (simp only [HOV.out])
  go_region_law_o ((refine step_copy_runI rfl _ _ 23 23 rfl (.slice (some ⟨g, (J + 1) * 3, none⟩) (n - J) (cap - (J + 1))) (.slice (some ⟨g, J * 3, none⟩) (n + 1 - J) (cap - J)) (by simp [Act.eval, Act.put]) (by simp [Act.eval, Act.put]) (HC1.out 3 (cap - (J + 1)) (cap - J)) ?_))
  go_wp2_with ((refine wpList_copy_runI (o := ⟨some 82, _, _, _, _, _⟩) _ rfl _ _ 23 23 rfl (.slice (some ⟨g, J * 3, none⟩) (n + 1 - J) (cap - J)) (.slice (some ⟨vb, 0, none⟩) 1 1) rfl rfl (HC2.out _ (fun _ => rfl) (fun _ => rfl) 3 (cap - J)) ?_))
  go_ret
  exact HP.out _ rfl

set_option maxHeartbeats 4000000 in
set_option maxRecDepth 100000 in
theorem insertGrow_any (B g cap n J vb : Nat) (xs news : List Value) (w : World) (hO : w.ownsRow B 31 3 (.slice (some ⟨g, 0, none⟩) n cap) n xs) (hJ : J < n) (hroom : cap < n + 1) (h10 : n ≤ 12)
    (hnl : news.length = 3) (hnews : ∀ j u, news[j]? = some u → w.cell? ⟨vb, j, none⟩ = some u) (h1n : ∀ u ∈ news, u.oneCell' = true) (h1x : ∀ u ∈ xs, u.oneCell' = true) (hvl : vb < w.heap.size) (hB : B ≤ w.heap.size) :
    Calls Try.prog 102 #[.slice (some ⟨g, 0, none⟩) n cap, .int .i64 J, .slice (some ⟨vb, 0, none⟩) 1 1] w (InsPostT 31 B g n J xs news w) := by
  have hxl := hO.1
  obtain ⟨hcs, hsp, hfz, hsb, hcm, hgl⟩ := ownsRow_facts hO
  have hnc : n ≤ cap := by
    rcases hO.2 with ⟨h0, -⟩ | ⟨g', cap', cur, e1, -, -, hc', -⟩
    · cases h0
    · cases e1; exact hc'
  unfold maxLen at hcm
  obtain ⟨n0, ni, nz0, nz1, nz2⟩ := info_parts Try.infoNode
  have hsz : (Try.prog.info? 31).map (·.size) = some 3 := by rw [ni]; simp [nz1]
  have hkk : (n : Int) + 1 - (J : Int) = ((n + 1 - J : Nat) : Int) := by omega
  have hik : J + (n + 1 - J) = n + 1 := by omega
  have htl : (xs.take (J * 3)).length = J * 3 := by rw [List.length_take, hxl]; omega
  have hold : (Builtin.firstCells n0.size J (.slice (some ⟨g, 0, none⟩) J cap)).run Try.prog w.drew = .ok (xs.take (J * 3)).toArray w.drew := by
    rw [nz1]
    exact run_firstCells_some w.drew 3 J ⟨g, 0, none⟩ J cap (xs.take (J * 3)) htl (fun j v hj => by
      rw [Addr.add_lit, Nat.zero_add]
      rw [List.getElem?_take] at hj
      split at hj
      · exact hcs j v hj
      · cases hj)
  have hrz : ∀ ty, (Builtin.append_ #[23, 3] ty #[.slice (some ⟨g, 0, none⟩) J cap, .int .i64 ((n : Int) + 1 - (J : Int))]).run Try.prog w =
      .ok (.slice (some ⟨w.heap.size, 0, none⟩) (n + 1) (grownCap w (n + 1) cap 31)) (w.drew.alloc (.cells ((xs.take (J * 3)).toArray ++ Builtin.zeroCells (.agg #[.int .i64 0, .int .i64 0, .slice none 0 0] : Value).cells (n + 1 - J) ++ Builtin.zeroCells (.agg #[.int .i64 0, .int .i64 0, .slice none 0 0] : Value).cells (grownCap w (n + 1) cap 31 - (n + 1))) 31)) := fun ty => by
    have h := Lib.run_append_grow_zeros w 23 3 ty 31 n0 _ .i64 .i64 Try.underlying23 Try.underlying3 ni nz0 (some ⟨g, 0, none⟩) J cap (xs.take (J * 3)) hold (n + 1 - J) (by omega) (by omega) (by omega) (by omega) (by rw [nz2]; omega) (by rw [nz2, hik]; exact growslice_fits hroom (by omega))
    rw [hik] at h
    rw [hkk]
    exact h
  obtain ⟨G, hG⟩ : ∃ G, G = grownCap w (n + 1) cap 31 := ⟨_, rfl⟩
  obtain ⟨ROW, hROW⟩ : ∃ ROW : Array Value, ROW = (xs.take (J * 3)).toArray ++ Builtin.zeroCells (.agg #[.int .i64 0, .int .i64 0, .slice none 0 0] : Value).cells (n + 1 - J) ++ Builtin.zeroCells (.agg #[.int .i64 0, .int .i64 0, .slice none 0 0] : Value).cells (G - (n + 1)) := ⟨_, rfl⟩
  have hGn : n + 1 ≤ G := by rw [hG]; exact grownCap_ge w _ _ _
  have hG63 : G ≤ maxLen := by rw [hG]; exact grownCap_le_maxLen w (n + 1) cap 31 (by unfold maxLen; omega)
  rw [← hG, ← hROW] at hrz
  have hRs : ROW.size = G * 3 := by
    have : G = J + (n + 1 - J) + (G - (n + 1)) := by omega
    rw [hROW]
    simp [Builtin.zeroCells, Value.cells, htl]
    omega
  have hRt : ROW.toList.take (J * 3) = xs.take (J * 3) := by
    rw [hROW]
    simp only [Array.toList_append, List.append_assoc]
    rw [List.take_append_of_le_length (by simp [htl])]
    exact List.take_of_length_le (by simp [htl])
  obtain ⟨W1, hW1⟩ : ∃ W1, W1 = w.drew.alloc (.cells ROW 31) := ⟨_, rfl⟩
  have hLo : W1.ownsRow B 31 3 (.slice (some ⟨w.heap.size, 0, none⟩) (n + 1) G) (n + 1) (ROW.toList.take ((n + 1) * 3)) := by
    rw [hW1]
    exact ⟨by rw [List.length_take, Array.length_toList, hRs]; omega, .inr ⟨w.heap.size, G, ROW, rfl, hB, heap_alloc_new w.drew _, hGn, hG63, hRs, rfl⟩⟩
  have hLl : (ROW.toList.take ((n + 1) * 3)).length = (n + 1) * 3 := hLo.1
  have hLt : (ROW.toList.take ((n + 1) * 3)).take (J * 3) = xs.take (J * 3) := by rw [List.take_take, Nat.min_eq_left (by omega), hRt]
  rw [← hW1] at hrz
  obtain ⟨-, hN, hNf, -, -, -⟩ := ownsRow_facts hLo
  have hOb : ∀ j, W1.cell? ⟨g, j, none⟩ = w.cell? ⟨g, j, none⟩ := fun j => by rw [hW1, World.cell?_alloc_past (w := w.drew) _ g j hgl]; rfl
  have hOv : ∀ j, W1.cell? ⟨vb, j, none⟩ = w.cell? ⟨vb, j, none⟩ := fun j => by rw [hW1, World.cell?_alloc_past (w := w.drew) _ vb j hvl]; rfl
  have hcpA : ∀ (W : World), (∀ x, W.cell? x = W1.cell? x) → (∀ x, W.frozen? x = W1.frozen? x) → ∀ ty dc, (Builtin.copy_ #[23, 23] ty #[.slice (some ⟨w.heap.size, J * 3, none⟩) (n + 1 - J) dc, .slice (some ⟨vb, 0, none⟩) 1 1]).run Try.prog W = .ok (goInt (Nat.min 1 (n + 1 - J))) (W.setCells w.heap.size (J * 3) news) := fun W hWc hWf ty dc =>
    run_copy_cellsN W _ _ ty 31 w.heap.size (J * 3) (n + 1 - J) dc ⟨vb, 0, none⟩ 1 1 3 news Try.underlying23 hsz (by rw [hnl, show Nat.min 1 (n + 1 - J) = 1 by simp only [Nat.min_def]; split <;> omega])
      (fun j v hj => by rw [Addr.add_lit, Nat.zero_add, hWc, hOv]; exact hnews j v hj)
      (fun j hj => by rw [hWc]; exact hN _ (by omega)) (fun j hj => by rw [hWf]; exact hNf _) h1n
  have hLo1 : (W1.setCells w.heap.size (J * 3) news).ownsRow B 31 3 (.slice (some ⟨w.heap.size, 0, none⟩) (n + 1) G) (n + 1) (overL (ROW.toList.take ((n + 1) * 3)) (J * 3) news) := ownsRow_setCells _ _ _ _ hLo
  obtain ⟨-, hN1, hNf1, -, -, -⟩ := ownsRow_facts hLo1
  have hdl : (xs.drop (J * 3)).length = (n - J) * 3 := by rw [List.length_drop, hxl]; omega
  have hgN : g ≠ w.heap.size := by omega
  have hcpB : ∀ (W : World), (∀ x, W.cell? x = (W1.setCells w.heap.size (J * 3) news).cell? x) → (∀ x, W.frozen? x = (W1.setCells w.heap.size (J * 3) news).frozen? x) → ∀ ty dc sc, (Builtin.copy_ #[23, 23] ty #[.slice (some ⟨w.heap.size, (J + 1) * 3, none⟩) (n - J) dc, .slice (some ⟨g, J * 3, none⟩) (n - J) sc]).run Try.prog W = .ok (goInt (Nat.min (n - J) (n - J))) (W.setCells w.heap.size ((J + 1) * 3) (xs.drop (J * 3))) := fun W hWc hWf ty dc sc =>
    run_copy_cellsN W _ _ ty 31 w.heap.size ((J + 1) * 3) (n - J) dc ⟨g, J * 3, none⟩ (n - J) sc 3 (xs.drop (J * 3)) Try.underlying23 hsz (by rw [hdl, show Nat.min (n - J) (n - J) = n - J by simp only [Nat.min_def]; split <;> omega])
      (fun j v hj => by
        rw [Addr.add_lit, hWc, World.cell?_setCells_out _ _ _ _ _ (fun h _ => absurd h hgN), hOb]
        exact hcs _ v (by rwa [List.getElem?_drop] at hj))
      (fun j hj => by rw [hWc]; exact hN1 _ (by rw [hdl] at hj; omega))
      (fun j hj => by rw [hWf]; exact hNf1 _) (fun v hv => h1x v (List.mem_of_mem_drop hv))
  have hpost : InsPostT 31 B g n J xs news w (.returned (.slice (some ⟨w.heap.size, 0, none⟩) (n + 1) G)) ((W1.drew.setCells w.heap.size (J * 3) news).setCells w.heap.size ((J + 1) * 3) (xs.drop (J * 3))) := by
    have hLo2 : W1.drew.ownsRow B 31 3 (.slice (some ⟨w.heap.size, 0, none⟩) (n + 1) G) (n + 1) (ROW.toList.take ((n + 1) * 3)) := hLo
    refine ⟨_, rfl, ?_, ?_⟩
    · rw [← ins_list hLl hxl hnl (Nat.le_of_lt hJ) hLt]
      exact ownsRow_setCells _ _ _ _ (ownsRow_setCells _ _ _ _ hLo2)
    · have h1 : w.grownBy W1.drew (some w.heap.size) := by
        rw [hW1]
        exact ⟨rfl, rfl, rfl, by simp, fun k hk _ => Below.heap_alloc w.drew _ k hk⟩
      have h2 := grow_trans (grow_trans h1 (grow_setCells _ news (J * 3) W1.drew)) (grow_setCells _ (xs.drop (J * 3)) ((J + 1) * 3) _)
      exact ⟨h2.os, h2.tape, h2.output, h2.size, fun k hk _ => h2.block k hk (fun e => by cases e; exact absurd hk (Nat.lt_irrefl _))⟩
  subst hW1
  have hE1 : ∀ x, ((w.alloc (.cells ROW 31)).drew).cell? x = (w.drew.alloc (.cells ROW 31)).cell? x := fun x => rfl
  have hE2 : ∀ x, ((w.alloc (.cells ROW 31)).drew).frozen? x = (w.drew.alloc (.cells ROW 31)).frozen? x := fun x => rfl
  have hF1 : ∀ x, (((w.alloc (.cells ROW 31)).drew.setCells w.heap.size (J * 3) news).drew).cell? x = ((w.drew.alloc (.cells ROW 31)).setCells w.heap.size (J * 3) news).cell? x := fun x => rfl
  have hF2 : ∀ x, (((w.alloc (.cells ROW 31)).drew.setCells w.heap.size (J * 3) news).drew).frozen? x = ((w.drew.alloc (.cells ROW 31)).setCells w.heap.size (J * 3) news).frozen? x := fun x => rfl
  have hz2 : ¬ ((J : Int) = (n : Int)) := by omega
  have hz3 : (cap : Int) < (n : Int) + 1 := by omega
  have hGi : ¬ (G = J) := by omega
  have hGim : ¬ (G = J + 1) := by omega
  have hci : ¬ (cap = J) := by omega
  have hw1 : IntKind.i64.wrap ((J : Int) + 1) = (J : Int) + 1 := by rw [IntKind.wrap_i64]; omega
  have hb1 : (0 : Int) ≤ (J : Int) + 1 := by omega
  have hin : J ≤ n := by omega
  have htn : ((J : Int) + 1).toNat = J + 1 := by omega
  have hb3 : (J : Int) ≤ (n : Int) := by omega
  have mixed : Try.prog.follows Departure.mixedOrders = true := by kernel_rfl
  have HP := Lib.hid hpost
  have HRZ := Lib.hid hrz
  have HA := Lib.hid hcpA
  have HBB := Lib.hid hcpB
  unfold maxLen at hG63
  clear hkk hik hold hROW hG hRs hRt hLo hLl hLt hN hNf hOb hOv hcpA hLo1 hN1 hNf1 hdl hcpB hpost hrz hcs hsp hfz hsb hsz ni hnews h1n h1x hO hxl hnl htl
  go_enter Try.func102, Try.ntmps102
  go_wp2_with (first
    | (at_builtin; refine Lib.wpList_append_run _ rfl _ _ _ _ rfl _ _ rfl rfl _ _ (HRZ.out _) ?_)
    | (refine wpList_copy_runI (o := ⟨some 45, _, _, _, _, _⟩) _ rfl _ _ 23 23 rfl (.slice (some ⟨w.heap.size, J * 3, none⟩) (n + 1 - J) (G - J)) (.slice (some ⟨vb, 0, none⟩) 1 1) rfl rfl (HA.out _ hE1 hE2 3 (G - J)) ?_))
  go_region_law_o (refine step_copy_runI rfl _ _ 23 23 rfl (.slice (some ⟨w.heap.size, (J + 1) * 3, none⟩) (n - J) (G - (J + 1))) (.slice (some ⟨g, J * 3, none⟩) (n - J) (cap - J)) (by simp [Act.eval, Act.put]) (by simp [Act.eval, Act.put]) (HBB.out _ hF1 hF2 3 (G - (J + 1)) (cap - J)) ?_)
  go_wp2
  go_ret
  rw [drew_setCells]
  exact HP.out

end Go.Proofs.Ytojpfbbgpcafnaa
