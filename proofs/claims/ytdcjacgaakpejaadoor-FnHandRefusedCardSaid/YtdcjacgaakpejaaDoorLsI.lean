/-
  Contracts: slices.Insert of one lease.
-/
import Derived.Test.YtdcjacgaakpejaaDoorLsC
import Derived.Test.YtdcjacgaakpejaaDoorInsG
namespace Go.Proofs.YtdcjacgaakpejaaDoor
open Go.RowKit

set_option maxRecDepth 100000 in
set_option maxHeartbeats 2000000 in
theorem lsEnd_any (B g cap n vb : Nat) (xs news : List Value) (w : World) (hO : w.ownsRow B 35 3 (.slice (some ⟨g, 0, none⟩) n cap) n xs) (hn : 0 < n) (h10 : n ≤ 12)
    (hnl : news.length = 3) (hnews : ∀ j u, news[j]? = some u → w.cell? ⟨vb, j, none⟩ = some u) (h1n : ∀ u ∈ news, u.oneCell' = true) :
    Calls Tryd.prog 46 #[.slice (some ⟨g, 0, none⟩) n cap, .int .i64 n, .slice (some ⟨vb, 0, none⟩) 1 1] w (InsPostT 35 B g n n xs news w) := by
  obtain ⟨n0, ni, nz0, nz1, nz2⟩ := info_parts Tryd.infoLease
  have hB : B ≤ w.heap.size := by
    obtain ⟨hb, hl⟩ := hO.lt g rfl
    omega
  have HO := Lib.hid hO
  have hxl := hO.1
  have hc : n ≤ cap ∧ cap ≤ maxLen := by
    rcases hO.2 with ⟨h0, -⟩ | ⟨g', cap', cur, e1, -, -, hc, hm, -⟩
    · cases h0
    · cases e1; exact ⟨hc, hm⟩
  obtain ⟨hc1, hc2⟩ := hc
  unfold maxLen at hc2
  have HN := Lib.hid hnews
  clear hO hnews
  go_enter Tryd.func46, Tryd.ntmps46
  go_wp2_with (at_builtin; refine wpList_append_own _ rfl _ _ 24 rfl B 35 n0 (.agg #[.int .i64 0, .int .i64 0, .int .i64 0]) 3 24 Tryd.underlying24 ni nz0 nz1 nz2 rfl (by decide) _ n xs rfl HO.out ⟨vb, 0, none⟩ 1 1 news rfl hnl (fun j u hj => by rw [Addr.add_lit, Nat.zero_add]; exact HN.out j u hj) h1n (by unfold maxLen; omega) (by omega) hB ?_; intro v' w' hown hgrow hnil)
  all_goals
    go_ret
    refine ⟨v', rfl, ?_, hgrow⟩
    rw [List.take_of_length_le (by omega), List.drop_of_length_le (by omega), List.append_nil]
    exact hown

set_option maxHeartbeats 4000000 in
set_option maxRecDepth 100000 in
theorem lsShift_any (B g cap n J vb kA : Nat) (tA : TypeId) (xs news : List Value) (w : World) (hO : w.ownsRow B 35 3 (.slice (some ⟨g, 0, none⟩) n cap) n xs) (hJ : J < n) (hroom : n < cap) (h10 : n ≤ 12)
    (hnl : news.length = 3) (hnews : ∀ j u, news[j]? = some u → w.cell? ⟨vb, j, none⟩ = some u) (h1n : ∀ u ∈ news, u.oneCell' = true) (h1x : ∀ u ∈ xs, u.oneCell' = true) (hne : vb ≠ g)
    (hsa : w.shape? vb = some (tA, kA)) (hfa : ∀ j, w.frozen? ⟨vb, j, none⟩ = false) :
    Calls Tryd.prog 46 #[.slice (some ⟨g, 0, none⟩) n cap, .int .i64 J, .slice (some ⟨vb, 0, none⟩) 1 1] w (InsPostT 35 B g n J xs news w) := by
  have hxl := hO.1
  obtain ⟨hcs, hsp, hfz, hsb, hcm, hgl⟩ := ownsRow_facts hO
  obtain ⟨L, hLl, hLt, hLo⟩ := ownsRow_room hO hroom
  unfold maxLen at hcm
  obtain ⟨n0, ni, nz0, nz1, nz2⟩ := info_parts Tryd.infoLease
  have hsz : (Tryd.prog.info? 35).map (·.size) = some 3 := by rw [ni]; simp [nz1]
  have hz : ∀ w, (Go.sizeOf 35).run Tryd.prog w = .ok 3 w := fun w => by simp [sizeOf, typeInfo, ni, nz1]
  have hov : ∀ lb cb, (callFunc 52 #[.slice (some ⟨vb, 0, none⟩) 1 1, .slice (some ⟨g, (J + 1) * 3, none⟩) lb cb]).run Tryd.prog w = .ok (.value (.bool false)) w := fun lb cb => by
    rw [run_callFunc_extern Tryd.func52 (by kernel_rfl) (by kernel_rfl) (by kernel_rfl) (e := Extern.SlicesOverlaps.overlaps #[24, 24] #[4]) (by kernel_rfl),
      Lib.run_overlaps_apart w 24 4 35 Tryd.underlying24 3 hz ⟨vb, 0, none⟩ ⟨g, (J + 1) * 3, none⟩ 1 1 lb cb hne tA 35 kA (cap * 3) hsa hsb (by omega) (hfa _) (hfa _)]
    rfl
  have hdl : (xs.drop (J * 3)).length = (n - J) * 3 := by rw [List.length_drop, hxl]; omega
  have hcp1 : ∀ ty dc sc, (Builtin.copy_ #[24, 24] ty #[.slice (some ⟨g, (J + 1) * 3, none⟩) (n - J) dc, .slice (some ⟨g, J * 3, none⟩) (n + 1 - J) sc]).run Tryd.prog w.drew = .ok (goInt (Nat.min (n + 1 - J) (n - J))) (w.drew.setCells g ((J + 1) * 3) (xs.drop (J * 3))) := fun ty dc sc =>
    run_copy_cellsN w.drew _ _ ty 35 g ((J + 1) * 3) (n - J) dc ⟨g, J * 3, none⟩ (n + 1 - J) sc 3 (xs.drop (J * 3)) Tryd.underlying24 hsz (by rw [hdl, show Nat.min (n + 1 - J) (n - J) = n - J by simp only [Nat.min_def]; split <;> omega])
      (fun j v hj => by rw [Addr.add_lit]; exact hcs _ v (by rwa [List.getElem?_drop] at hj))
      (fun j hj => hsp _ (by rw [hdl] at hj; omega)) (fun j hj => hfz _) (fun v hv => h1x v (List.mem_of_mem_drop hv))
  obtain ⟨W1, hW1⟩ : ∃ W1, W1 = w.drew.setCells g ((J + 1) * 3) (xs.drop (J * 3)) := ⟨_, rfl⟩
  have hLo0 : w.drew.ownsRow B 35 3 (.slice (some ⟨g, 0, none⟩) (n + 1) cap) (n + 1) L := hLo
  have hLo1 : W1.ownsRow B 35 3 (.slice (some ⟨g, 0, none⟩) (n + 1) cap) (n + 1) (overL L ((J + 1) * 3) (xs.drop (J * 3))) := by rw [hW1]; exact ownsRow_setCells _ _ _ _ hLo0
  obtain ⟨hcs1, hsp1, hfz1, -, -, -⟩ := ownsRow_facts hLo1
  have hv1 : ∀ j, W1.cell? ⟨vb, j, none⟩ = w.cell? ⟨vb, j, none⟩ := fun j => by rw [hW1, World.cell?_setCells_out g _ _ _ _ (fun h _ => absurd h hne)]; rfl
  have hcp2 : ∀ (W : World), (∀ x, W.cell? x = W1.cell? x) → (∀ x, W.frozen? x = W1.frozen? x) → ∀ ty dc, (Builtin.copy_ #[24, 24] ty #[.slice (some ⟨g, J * 3, none⟩) (n + 1 - J) dc, .slice (some ⟨vb, 0, none⟩) 1 1]).run Tryd.prog W = .ok (goInt (Nat.min 1 (n + 1 - J))) (W.setCells g (J * 3) news) := fun W hWc hWf ty dc =>
    run_copy_cellsN W _ _ ty 35 g (J * 3) (n + 1 - J) dc ⟨vb, 0, none⟩ 1 1 3 news Tryd.underlying24 hsz (by rw [hnl, show Nat.min 1 (n + 1 - J) = 1 by simp only [Nat.min_def]; split <;> omega])
      (fun j v hj => by rw [Addr.add_lit, Nat.zero_add, hWc, hv1]; exact hnews j v hj)
      (fun j hj => by rw [hWc]; exact hsp1 _ (by omega)) (fun j hj => by rw [hWf]; exact hfz1 _) h1n
  have hpost : ∀ W : World, W = W1 → InsPostT 35 B g n J xs news w (.returned (.slice (some ⟨g, 0, none⟩) (n + 1) cap)) (W.setCells g (J * 3) news) := fun W hW => by
    subst hW
    refine ⟨_, rfl, ?_, ?_⟩
    · rw [← ins_list2 hLl hxl hnl (Nat.le_of_lt hJ) (by rw [← hLt, List.take_take, Nat.min_eq_left (by omega)])]
      exact ownsRow_setCells _ _ _ _ hLo1
    · rw [hW1]
      have h0 : w.grownBy w.drew (some g) := ⟨rfl, rfl, rfl, Nat.le_refl _, fun _ _ _ => rfl⟩
      exact grow_trans (grow_trans h0 (grow_setCells g _ _ w.drew)) (grow_setCells g _ _ _)
  have hz2 : ¬ ((J : Int) = (n : Int)) := by omega
  have hw1 : IntKind.i64.wrap ((J : Int) + 1) = (J : Int) + 1 := by rw [IntKind.wrap_i64]; omega
  have hb1 : (0 : Int) ≤ (J : Int) + 1 := by omega
  have htn : ((J : Int) + 1).toNat = J + 1 := by omega
  have hb2 : ¬ (cap = J + 1) := by omega
  have hb3 : (J : Int) ≤ (n : Int) + 1 := by omega
  have hb4 : ¬ (cap = J) := by omega
  have hin : J ≤ n := by omega
  have mixed : Tryd.prog.follows Departure.mixedOrders = true := by kernel_rfl
  subst hW1
  have HP := Lib.hid hpost
  have HC1 := Lib.hid hcp1
  have HC2 := Lib.hid hcp2
  have HOV := Lib.hid hov
  clear hpost hcp1 hcp2 hov hcs hsp hfz hsb hLl hLt hLo hLo0 hLo1 hcs1 hsp1 hfz1 hv1 hdl hsz hz ni hsa hfa hnews h1n h1x hO hxl hnl
  go_enter Tryd.func46, Tryd.ntmps46
  go_wp2_with (simp only [HOV.out])
  go_region_law_o ((refine step_copy_runI rfl _ _ 24 24 rfl (.slice (some ⟨g, (J + 1) * 3, none⟩) (n - J) (cap - (J + 1))) (.slice (some ⟨g, J * 3, none⟩) (n + 1 - J) (cap - J)) (by simp [Act.eval, Act.put]) (by simp [Act.eval, Act.put]) (HC1.out 3 (cap - (J + 1)) (cap - J)) ?_))
  go_wp2_with ((refine wpList_copy_runI (o := ⟨some 82, _, _, _, _, _⟩) _ rfl _ _ 24 24 rfl (.slice (some ⟨g, J * 3, none⟩) (n + 1 - J) (cap - J)) (.slice (some ⟨vb, 0, none⟩) 1 1) rfl rfl (HC2.out _ (fun _ => rfl) (fun _ => rfl) 3 (cap - J)) ?_))
  go_ret
  exact HP.out _ rfl

set_option maxHeartbeats 4000000 in
set_option maxRecDepth 100000 in
theorem lsGrow_any (B g cap n J vb : Nat) (xs news : List Value) (w : World) (hO : w.ownsRow B 35 3 (.slice (some ⟨g, 0, none⟩) n cap) n xs) (hJ : J < n) (hroom : cap < n + 1) (h10 : n ≤ 12)
    (hnl : news.length = 3) (hnews : ∀ j u, news[j]? = some u → w.cell? ⟨vb, j, none⟩ = some u) (h1n : ∀ u ∈ news, u.oneCell' = true) (h1x : ∀ u ∈ xs, u.oneCell' = true) (hvl : vb < w.heap.size) (hB : B ≤ w.heap.size) :
    Calls Tryd.prog 46 #[.slice (some ⟨g, 0, none⟩) n cap, .int .i64 J, .slice (some ⟨vb, 0, none⟩) 1 1] w (InsPostT 35 B g n J xs news w) := by
  have hxl := hO.1
  obtain ⟨hcs, hsp, hfz, hsb, hcm, hgl⟩ := ownsRow_facts hO
  have hnc : n ≤ cap := by
    rcases hO.2 with ⟨h0, -⟩ | ⟨g', cap', cur, e1, -, -, hc', -⟩
    · cases h0
    · cases e1; exact hc'
  unfold maxLen at hcm
  obtain ⟨n0, ni, nz0, nz1, nz2⟩ := info_parts Tryd.infoLease
  have hsz : (Tryd.prog.info? 35).map (·.size) = some 3 := by rw [ni]; simp [nz1]
  have hkk : (n : Int) + 1 - (J : Int) = ((n + 1 - J : Nat) : Int) := by omega
  have hik : J + (n + 1 - J) = n + 1 := by omega
  have htl : (xs.take (J * 3)).length = J * 3 := by rw [List.length_take, hxl]; omega
  have hold : (Builtin.firstCells n0.size J (.slice (some ⟨g, 0, none⟩) J cap)).run Tryd.prog w.drew = .ok (xs.take (J * 3)).toArray w.drew := by
    rw [nz1]
    exact run_firstCells_some w.drew 3 J ⟨g, 0, none⟩ J cap (xs.take (J * 3)) htl (fun j v hj => by
      rw [Addr.add_lit, Nat.zero_add]
      rw [List.getElem?_take] at hj
      split at hj
      · exact hcs j v hj
      · cases hj)
  have hrz : ∀ ty, (Builtin.append_ #[24, 3] ty #[.slice (some ⟨g, 0, none⟩) J cap, .int .i64 ((n : Int) + 1 - (J : Int))]).run Tryd.prog w =
      .ok (.slice (some ⟨w.heap.size, 0, none⟩) (n + 1) (grownCap w (n + 1) cap 35)) (w.drew.alloc (.cells ((xs.take (J * 3)).toArray ++ Builtin.zeroCells (.agg #[.int .i64 0, .int .i64 0, .int .i64 0] : Value).cells (n + 1 - J) ++ Builtin.zeroCells (.agg #[.int .i64 0, .int .i64 0, .int .i64 0] : Value).cells (grownCap w (n + 1) cap 35 - (n + 1))) 35)) := fun ty => by
    have h := Lib.run_append_grow_zeros w 24 3 ty 35 n0 _ .i64 .i64 Tryd.underlying24 Tryd.underlying3 ni nz0 (some ⟨g, 0, none⟩) J cap (xs.take (J * 3)) hold (n + 1 - J) (by omega) (by omega) (by omega) (by omega) (by rw [nz2]; omega) (by rw [nz2, hik]; exact growslice_fits hroom (by omega))
    rw [hik] at h
    rw [hkk]
    exact h
  obtain ⟨G, hG⟩ : ∃ G, G = grownCap w (n + 1) cap 35 := ⟨_, rfl⟩
  obtain ⟨ROW, hROW⟩ : ∃ ROW : Array Value, ROW = (xs.take (J * 3)).toArray ++ Builtin.zeroCells (.agg #[.int .i64 0, .int .i64 0, .int .i64 0] : Value).cells (n + 1 - J) ++ Builtin.zeroCells (.agg #[.int .i64 0, .int .i64 0, .int .i64 0] : Value).cells (G - (n + 1)) := ⟨_, rfl⟩
  have hGn : n + 1 ≤ G := by rw [hG]; exact grownCap_ge w _ _ _
  have hG63 : G ≤ maxLen := by rw [hG]; exact grownCap_le_maxLen w (n + 1) cap 35 (by unfold maxLen; omega)
  rw [← hG, ← hROW] at hrz
  have hRs : ROW.size = G * 3 := by
    have : G = J + (n + 1 - J) + (G - (n + 1)) := by omega
    rw [hROW]
    simp [Builtin.zeroCells, Value.cells, htl]
    omega
  have hRt : ROW.toList.take (J * 3) = xs.take (J * 3) := by
    rw [hROW]
    simp only [Array.toList_append, List.append_assoc]
    rw [List.take_append_of_le_length (by simp [htl])]
    exact List.take_of_length_le (by simp [htl])
  obtain ⟨W1, hW1⟩ : ∃ W1, W1 = w.drew.alloc (.cells ROW 35) := ⟨_, rfl⟩
  have hLo : W1.ownsRow B 35 3 (.slice (some ⟨w.heap.size, 0, none⟩) (n + 1) G) (n + 1) (ROW.toList.take ((n + 1) * 3)) := by
    rw [hW1]
    exact ⟨by rw [List.length_take, Array.length_toList, hRs]; omega, .inr ⟨w.heap.size, G, ROW, rfl, hB, heap_alloc_new w.drew _, hGn, hG63, hRs, rfl⟩⟩
  have hLl : (ROW.toList.take ((n + 1) * 3)).length = (n + 1) * 3 := hLo.1
  have hLt : (ROW.toList.take ((n + 1) * 3)).take (J * 3) = xs.take (J * 3) := by rw [List.take_take, Nat.min_eq_left (by omega), hRt]
  rw [← hW1] at hrz
  obtain ⟨-, hN, hNf, -, -, -⟩ := ownsRow_facts hLo
  have hOb : ∀ j, W1.cell? ⟨g, j, none⟩ = w.cell? ⟨g, j, none⟩ := fun j => by rw [hW1, World.cell?_alloc_past (w := w.drew) _ g j hgl]; rfl
  have hOv : ∀ j, W1.cell? ⟨vb, j, none⟩ = w.cell? ⟨vb, j, none⟩ := fun j => by rw [hW1, World.cell?_alloc_past (w := w.drew) _ vb j hvl]; rfl
  have hcpA : ∀ (W : World), (∀ x, W.cell? x = W1.cell? x) → (∀ x, W.frozen? x = W1.frozen? x) → ∀ ty dc, (Builtin.copy_ #[24, 24] ty #[.slice (some ⟨w.heap.size, J * 3, none⟩) (n + 1 - J) dc, .slice (some ⟨vb, 0, none⟩) 1 1]).run Tryd.prog W = .ok (goInt (Nat.min 1 (n + 1 - J))) (W.setCells w.heap.size (J * 3) news) := fun W hWc hWf ty dc =>
    run_copy_cellsN W _ _ ty 35 w.heap.size (J * 3) (n + 1 - J) dc ⟨vb, 0, none⟩ 1 1 3 news Tryd.underlying24 hsz (by rw [hnl, show Nat.min 1 (n + 1 - J) = 1 by simp only [Nat.min_def]; split <;> omega])
      (fun j v hj => by rw [Addr.add_lit, Nat.zero_add, hWc, hOv]; exact hnews j v hj)
      (fun j hj => by rw [hWc]; exact hN _ (by omega)) (fun j hj => by rw [hWf]; exact hNf _) h1n
  have hLo1 : (W1.setCells w.heap.size (J * 3) news).ownsRow B 35 3 (.slice (some ⟨w.heap.size, 0, none⟩) (n + 1) G) (n + 1) (overL (ROW.toList.take ((n + 1) * 3)) (J * 3) news) := ownsRow_setCells _ _ _ _ hLo
  obtain ⟨-, hN1, hNf1, -, -, -⟩ := ownsRow_facts hLo1
  have hdl : (xs.drop (J * 3)).length = (n - J) * 3 := by rw [List.length_drop, hxl]; omega
  have hgN : g ≠ w.heap.size := by omega
  have hcpB : ∀ (W : World), (∀ x, W.cell? x = (W1.setCells w.heap.size (J * 3) news).cell? x) → (∀ x, W.frozen? x = (W1.setCells w.heap.size (J * 3) news).frozen? x) → ∀ ty dc sc, (Builtin.copy_ #[24, 24] ty #[.slice (some ⟨w.heap.size, (J + 1) * 3, none⟩) (n - J) dc, .slice (some ⟨g, J * 3, none⟩) (n - J) sc]).run Tryd.prog W = .ok (goInt (Nat.min (n - J) (n - J))) (W.setCells w.heap.size ((J + 1) * 3) (xs.drop (J * 3))) := fun W hWc hWf ty dc sc =>
    run_copy_cellsN W _ _ ty 35 w.heap.size ((J + 1) * 3) (n - J) dc ⟨g, J * 3, none⟩ (n - J) sc 3 (xs.drop (J * 3)) Tryd.underlying24 hsz (by rw [hdl, show Nat.min (n - J) (n - J) = n - J by simp only [Nat.min_def]; split <;> omega])
      (fun j v hj => by
        rw [Addr.add_lit, hWc, World.cell?_setCells_out _ _ _ _ _ (fun h _ => absurd h hgN), hOb]
        exact hcs _ v (by rwa [List.getElem?_drop] at hj))
      (fun j hj => by rw [hWc]; exact hN1 _ (by rw [hdl] at hj; omega))
      (fun j hj => by rw [hWf]; exact hNf1 _) (fun v hv => h1x v (List.mem_of_mem_drop hv))
  have hpost : InsPostT 35 B g n J xs news w (.returned (.slice (some ⟨w.heap.size, 0, none⟩) (n + 1) G)) ((W1.drew.setCells w.heap.size (J * 3) news).setCells w.heap.size ((J + 1) * 3) (xs.drop (J * 3))) := by
    have hLo2 : W1.drew.ownsRow B 35 3 (.slice (some ⟨w.heap.size, 0, none⟩) (n + 1) G) (n + 1) (ROW.toList.take ((n + 1) * 3)) := hLo
    refine ⟨_, rfl, ?_, ?_⟩
    · rw [← ins_list hLl hxl hnl (Nat.le_of_lt hJ) hLt]
      exact ownsRow_setCells _ _ _ _ (ownsRow_setCells _ _ _ _ hLo2)
    · have h1 : w.grownBy W1.drew (some w.heap.size) := by
        rw [hW1]
        exact ⟨rfl, rfl, rfl, by simp, fun k hk _ => Below.heap_alloc w.drew _ k hk⟩
      have h2 := grow_trans (grow_trans h1 (grow_setCells _ news (J * 3) W1.drew)) (grow_setCells _ (xs.drop (J * 3)) ((J + 1) * 3) _)
      exact ⟨h2.os, h2.tape, h2.output, h2.size, fun k hk _ => h2.block k hk (fun e => by cases e; exact absurd hk (Nat.lt_irrefl _))⟩
  subst hW1
  have hE1 : ∀ x, ((w.alloc (.cells ROW 35)).drew).cell? x = (w.drew.alloc (.cells ROW 35)).cell? x := fun x => rfl
  have hE2 : ∀ x, ((w.alloc (.cells ROW 35)).drew).frozen? x = (w.drew.alloc (.cells ROW 35)).frozen? x := fun x => rfl
  have hF1 : ∀ x, (((w.alloc (.cells ROW 35)).drew.setCells w.heap.size (J * 3) news).drew).cell? x = ((w.drew.alloc (.cells ROW 35)).setCells w.heap.size (J * 3) news).cell? x := fun x => rfl
  have hF2 : ∀ x, (((w.alloc (.cells ROW 35)).drew.setCells w.heap.size (J * 3) news).drew).frozen? x = ((w.drew.alloc (.cells ROW 35)).setCells w.heap.size (J * 3) news).frozen? x := fun x => rfl
  have hz2 : ¬ ((J : Int) = (n : Int)) := by omega
  have hz3 : (cap : Int) < (n : Int) + 1 := by omega
  have hGi : ¬ (G = J) := by omega
  have hGim : ¬ (G = J + 1) := by omega
  have hci : ¬ (cap = J) := by omega
  have hw1 : IntKind.i64.wrap ((J : Int) + 1) = (J : Int) + 1 := by rw [IntKind.wrap_i64]; omega
  have hb1 : (0 : Int) ≤ (J : Int) + 1 := by omega
  have hin : J ≤ n := by omega
  have htn : ((J : Int) + 1).toNat = J + 1 := by omega
  have hb3 : (J : Int) ≤ (n : Int) := by omega
  have mixed : Tryd.prog.follows Departure.mixedOrders = true := by kernel_rfl
  have HP := Lib.hid hpost
  have HRZ := Lib.hid hrz
  have HA := Lib.hid hcpA
  have HBB := Lib.hid hcpB
  unfold maxLen at hG63
  clear hkk hik hold hROW hG hRs hRt hLo hLl hLt hN hNf hOb hOv hcpA hLo1 hN1 hNf1 hdl hcpB hpost hrz hcs hsp hfz hsb hsz ni hnews h1n h1x hO hxl hnl htl
  go_enter Tryd.func46, Tryd.ntmps46
  go_wp2_with (first
    | (at_builtin; refine Lib.wpList_append_run _ rfl _ _ _ _ rfl _ _ rfl rfl _ _ (HRZ.out _) ?_)
    | (refine wpList_copy_runI (o := ⟨some 45, _, _, _, _, _⟩) _ rfl _ _ 24 24 rfl (.slice (some ⟨w.heap.size, J * 3, none⟩) (n + 1 - J) (G - J)) (.slice (some ⟨vb, 0, none⟩) 1 1) rfl rfl (HA.out _ hE1 hE2 3 (G - J)) ?_))
  go_region_law_o (refine step_copy_runI rfl _ _ 24 24 rfl (.slice (some ⟨w.heap.size, (J + 1) * 3, none⟩) (n - J) (G - (J + 1))) (.slice (some ⟨g, J * 3, none⟩) (n - J) (cap - J)) (by simp [Act.eval, Act.put]) (by simp [Act.eval, Act.put]) (HBB.out _ hF1 hF2 3 (G - (J + 1)) (cap - J)) ?_)
  go_wp2
  go_ret
  rw [drew_setCells]
  exact HP.out

/-- One lease put in. -/
theorem insL_any (B g cap J vb kA : Nat) (tA : TypeId) (xs : List Tr) (x : Tr) (w : World) (h : TrsOwn w B 35 (.slice (some ⟨g, 0, none⟩) xs.length cap) xs) (hn : 0 < xs.length) (hJ : J ≤ xs.length) (h10 : xs.length ≤ 12)
    (hc0 : w.cell? ⟨vb, 0, none⟩ = some (.int .i64 x.a)) (hc1 : w.cell? ⟨vb, 1, none⟩ = some (.int .i64 x.b)) (hc2 : w.cell? ⟨vb, 2, none⟩ = some (.int .i64 x.c)) (hne : vb ≠ g) (hvl : vb < w.heap.size)
    (hsa : w.shape? vb = some (tA, kA)) (hfa : ∀ j, w.frozen? ⟨vb, j, none⟩ = false) :
    Calls Tryd.prog 46 #[.slice (some ⟨g, 0, none⟩) xs.length cap, .int .i64 J, .slice (some ⟨vb, 0, none⟩) 1 1] w fun e w' =>
      ∃ v', e = .returned v' ∧ TrsOwn w' B 35 v' (xs.take J ++ x :: xs.drop J) ∧ w.grownBy w' (some g) := by
  have hB : B ≤ w.heap.size := by
    obtain ⟨hb, hl⟩ := World.ownsRow.lt h g rfl
    omega
  have hnews : ∀ j u, [Value.int .i64 x.a, .int .i64 x.b, .int .i64 x.c][j]? = some u → w.cell? ⟨vb, j, none⟩ = some u := fun j u hj => by
    match j, hj with
    | 0, hj => cases hj; exact hc0
    | 1, hj => cases hj; exact hc1
    | 2, hj => cases hj; exact hc2
    | j + 3, hj => cases hj
  have h1n : ∀ u ∈ [Value.int .i64 x.a, .int .i64 x.b, .int .i64 x.c], u.oneCell' = true := fun u hu => by
    simp at hu
    rcases hu with rfl | rfl | rfl <;> rfl
  have key : Calls Tryd.prog 46 #[.slice (some ⟨g, 0, none⟩) xs.length cap, .int .i64 J, .slice (some ⟨vb, 0, none⟩) 1 1] w (InsPostT 35 B g xs.length J (flatT xs) [.int .i64 x.a, .int .i64 x.b, .int .i64 x.c] w) := by
    by_cases e : J = xs.length
    · rw [e]
      exact lsEnd_any B g cap xs.length vb _ _ w h hn h10 rfl hnews h1n
    · by_cases hc : xs.length < cap
      · exact lsShift_any B g cap xs.length J vb kA tA _ _ w h (by omega) hc h10 rfl hnews h1n (flatT_one xs) hne hsa hfa
      · exact lsGrow_any B g cap xs.length J vb _ _ w h (by omega) (by omega) h10 rfl hnews h1n (flatT_one xs) hvl hB
  refine key.mono ?_
  rintro e w' ⟨v', rfl, ho, hg⟩
  refine ⟨v', rfl, ?_, hg⟩
  have hl : (xs.take J ++ x :: xs.drop J).length = xs.length + 1 := by simp only [List.length_append, List.length_cons, List.length_take, List.length_drop]; omega
  have hf : flatT (xs.take J ++ x :: xs.drop J) = (flatT xs).take (J * 3) ++ [.int .i64 x.a, .int .i64 x.b, .int .i64 x.c] ++ (flatT xs).drop (J * 3) := by
    have e1 : flatT (x :: xs.drop J) = [.int .i64 x.a, .int .i64 x.b, .int .i64 x.c] ++ flatT (xs.drop J) := rfl
    rw [flatT_append, flatT_take, e1, flatT_drop, List.append_assoc]
  unfold TrsOwn
  rw [hl, hf]
  exact ho

end Go.Proofs.YtdcjacgaakpejaaDoor
