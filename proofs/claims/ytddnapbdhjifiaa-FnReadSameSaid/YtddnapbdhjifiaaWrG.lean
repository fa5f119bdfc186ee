/-
  The contract of impl.write, beside goroutines that only leave.
-/
import Derived.Test.YtddnapbdhjifiaaWrS
import Derived.Test.YtddnapbdhjifiaaRm
import Derived.Test.YtddnapbdhjifiaaPa
set_option linter.unusedSimpArgs false
set_option linter.unusedVariables false
set_option linter.unusedSectionVars false
namespace Go.Proofs.Ytddnapbdhjifiaa
open Go.Conc Go.ConcN Go.RowKit Go.Conc.Lib Go.ConcR.Gen Go.ConcN.Gen Go.Proofs.Ytddnapbdhjifiaa.Rg
open Go.ConcR (KK wgBlock WgAt stA smA rd wr mk Payload Aside2 DC0 Bk)
variable [Kept]

/-- All that was there stands. -/
structure KeepG (v u : World) : Prop where
  size : v.heap.size ≤ u.heap.size
  os : u.os = v.os
  output : u.output = v.output
  block : ∀ b, b < v.heap.size → u.heap[b]? = v.heap[b]?
theorem KeepG.refl (v : World) : KeepG v v := ⟨Nat.le_refl _, rfl, rfl, fun _ _ => rfl⟩
theorem KeepG.trans {u v w : World} (h : KeepG u v) (h' : KeepG v w) : KeepG u w := ⟨Nat.le_trans h.size h'.size, h'.os.trans h.os, h'.output.trans h.output, fun b hb => (h'.block b (Nat.lt_of_lt_of_le hb h.size)).trans (h.block b hb)⟩
theorem KeepG.of_below {v w w' : World} (h : Same v w) (b : Below w.heap.size w w') : KeepG v w' := by
  have e : w.heap.size = v.heap.size := by rw [h.heap]
  exact ⟨by have := b.size; omega, b.os.trans h.os, b.output.trans h.output, fun k hk => (b.block k (by omega)).trans (by rw [h.heap])⟩
theorem KeepG.alloc (v : World) (o : Obj) : KeepG v (v.alloc o) := ⟨by simp, rfl, rfl, fun b hb => Below.heap_alloc _ _ _ hb⟩
theorem KeepG.same {v u u' : World} (h : KeepG v u) (s : Same u u') : KeepG v u' := ⟨by rw [s.heap]; exact h.size, s.os.trans h.os, s.output.trans h.output, fun b hb => by rw [s.heap]; exact h.block b hb⟩
theorem KeepG.cell {v u : World} (h : KeepG v u) {p : Addr} (hp : p.block < v.heap.size) : u.cell? p = v.cell? p := by unfold World.cell?; rw [h.block _ hp]
theorem TriAt.keep {v u : World} {b o : Nat} {x : Tr} (h : TriAt v b o x) (hb : b < v.heap.size) (k : KeepG v u) : TriAt u b o x := ⟨(k.cell (p := ⟨b, o, none⟩) hb).trans h.1, (k.cell (p := ⟨b, o + 1, none⟩) hb).trans h.2.1, (k.cell (p := ⟨b, o + 2, none⟩) hb).trans h.2.2⟩
theorem TrsAt.keep {v u : World} {z : Value} {xs : List Tr} (h : TrsAt v z xs) (k : KeepG v u) : TrsAt u z xs := by
  obtain ⟨p, cap, h1, h2, h3, h4⟩ := h
  exact ⟨p, cap, h1, h2, h3, h4.imp id fun ⟨b, o, e, hb, hc⟩ => ⟨b, o, e, Nat.lt_of_lt_of_le hb k.size, fun i hi => (hc i hi).keep hb k⟩⟩
theorem IntsAt.keep {v u : World} {z : Value} {xs : List Int} (h : IntsAt v z xs) (k : KeepG v u) : IntsAt u z xs := by
  obtain ⟨p, cap, h1, h2, h3, h4⟩ := h
  exact ⟨p, cap, h1, h2, h3, h4.imp id fun ⟨b, o, e, hb, hc⟩ => ⟨b, o, e, Nat.lt_of_lt_of_le hb k.size, fun i hi => (k.cell (p := ⟨b, o + i, none⟩) hb).trans (hc i hi)⟩⟩
theorem TrsAt.same {v u : World} {z : Value} {xs : List Tr} (h : TrsAt v z xs) (s : Same v u) : TrsAt u z xs := h.keep ((KeepG.refl v).same s)
theorem IntsAt.same {v u : World} {z : Value} {xs : List Int} (h : IntsAt v z xs) (s : Same v u) : IntsAt u z xs := h.keep ((KeepG.refl v).same s)
theorem TrsOwn.same {u u' : World} {B : Nat} {T : TypeId} {z : Value} {xs : List Tr} (h : TrsOwn u B T z xs) (s : Same u u') : TrsOwn u' B T z xs := by
  unfold TrsOwn World.ownsRow at h ⊢
  rw [s.heap]
  exact h

theorem same_alloc {v u : World} (h : Same v u) (o : Obj) : Same (v.alloc o) (u.alloc o) := ⟨by show u.heap.push o = v.heap.push o; rw [h.heap], h.os, h.output⟩
theorem same_set {v u : World} (h : Same v u) (a : Addr) (z : Value) : Same (v.setCell a z) (u.setCell a z) := ⟨by unfold World.setCell; rw [h.heap], h.os, h.output⟩
theorem closedC : Closed Try.prog [50] := by
  intro f hf
  obtain rfl : f = 50 := by simpa using hf
  kernel_rfl
/-- slices.Clone, beside leavers. -/
theorem cloneG (v : World) (z : Value) (rs : List Tr) (h : TrsAt v z rs) (hl : rs.length ≤ 1048576) : CallsG Try.prog 50 #[z] v fun y u => TrsOwn u v.heap.size 39 y rs ∧ KeepG v u :=
  callsG_of_calls closedC (by simp) (fun y u u' s hy => ⟨hy.1.same s, hy.2.same s⟩) fun w s => (cloneRs_any z rs w (h.same s) hl).mono fun e w' ⟨y, e1, h1, h2⟩ => ⟨y, e1, by rw [show v.heap.size = w.heap.size by rw [s.heap]]; exact h1, .of_below s h2⟩

theorem stepG_of_goes {P : Program} {m : Bool} {g g₁ : Goroutine} {w w₁ : World} {es₁ : Array Event} (h : (stepG P m g w).goes fun g' w' es => g' = g₁ ∧ w' = w₁ ∧ es = es₁) : stepG P m g w = .go g₁ w₁ es₁ := by
  obtain ⟨g', w', es, e, rfl, rfl, rfl⟩ := goes_elim h
  exact e
theorem take_flat (cs : Array Value) (xs : List Tr) (h : ∀ i, i < xs.length → cs[i * 3]? = some (.int .i64 (xs.getD i default).a) ∧ cs[i * 3 + 1]? = some (.int .i64 (xs.getD i default).b) ∧ cs[i * 3 + 2]? = some (.int .i64 (xs.getD i default).c)) : cs.toList.take (xs.length * 3) = flatT xs := by
  apply List.ext_getElem?
  intro j
  have hl := flatT_length xs
  rcases Nat.lt_or_ge j (xs.length * 3) with hj | hj
  · rw [List.getElem?_take, if_pos hj]
    obtain ⟨f1, f2, f3⟩ := flatT_get xs (j / 3) (by omega)
    obtain ⟨c1, c2, c3⟩ := h (j / 3) (by omega)
    have e : j = j / 3 * 3 ∨ j = j / 3 * 3 + 1 ∨ j = j / 3 * 3 + 2 := by omega
    rcases e with e | e | e
    · rw [e, f1]; simpa using c1
    · rw [e, f2]; simpa using c2
    · rw [e, f3]; simpa using c3
  · rw [List.getElem?_take, if_neg (by omega), List.getElem?_eq_none (by omega)]
set_option maxRecDepth 100000 in
set_option maxHeartbeats 2000000 in
theorem writeG (v : World) (vl vt : Value) (rs : List Tr) (ks : List Int) (x : Tr) (hl : TrsAt v vl rs) (ht : IntsAt v vt ks) (h0 : 0 < rs.length) (h1 : rs.length ≤ 1000)
    (hk : ∀ m, m < ks.length → 0 ≤ ks.getD m 0 ∧ ks.getD m 0 < rs.length) (hs : ∀ m m', m < m' → m' < ks.length → ks.getD m 0 < ks.getD m' 0) (hkl : ks.length ≤ rs.length) :
    CallsG Try.prog 37 #[vl, vt, .agg #[.int .i64 x.a, .int .i64 x.b, .int .i64 x.c]] v fun z u => TrsOwn u v.heap.size 39 z (rPutAll x rs ks) ∧ KeepG v u := by
  refine callsG_of_gt Try.func37 rfl fun cs => ?_
  walk_nrmf Try.f37
  refine gt_code ?_
  refine gt_region ?_
  simp only [List.size_toArray, List.length_cons, List.length_nil, Nat.reduceAdd, Nat.zero_add, List.range, List.range.loop]
  refine gt_op closedC rfl rfl (by kernel_rfl) rfl (z := .pointer (some ⟨v.heap.size, 0, none⟩)) (v' := v.alloc (.cells #[.int .i64 x.a, .int .i64 x.b, .int .i64 x.c] 39)) (fun u hu => ⟨u.alloc (.cells #[.int .i64 x.a, .int .i64 x.b, .int .i64 x.c] 39), ?_, same_alloc hu _⟩) ?_
  · rw [← hu.heap]
    go_simp
  obtain ⟨v1, hv1⟩ : ∃ v1, v.alloc (.cells #[.int .i64 x.a, .int .i64 x.b, .int .i64 x.c] 39) = v1 := ⟨_, rfl⟩
  have k1 : KeepG v v1 := hv1 ▸ KeepG.alloc v _
  have x1 : v1.heap[v.heap.size]? = some (.cells #[.int .i64 x.a, .int .i64 x.b, .int .i64 x.c] 39) := hv1 ▸ heap_alloc_new v _
  have z1 : v1.heap.size = v.heap.size + 1 := by rw [← hv1]; simp
  rw [hv1]
  clear hv1
  walk_nrm
  refine gt_goes fun w _ => ?_
  refine goes_oper_k rfl rfl (by k_ne) (fun K hK => ?_)
  go_simp
  refine hK _ _ ⟨rfl, Array.eq_empty_iff_forall_not_mem.2 fun e he => ?_, _, _, rfl, ?_⟩
  · have hm := mem_listed he
    simp [go_sem, *] at hm
  clear hK K
  try w_num
  refine gt_goes fun w _ => ?_
  rw [stepG_region_end]
  simp only [goes_go]
  refine ⟨by trivial, by trivial, _, _, rfl, ?_⟩
  refine gt_code ?_
  refine gt_region ?_
  simp only [List.size_toArray, List.length_cons, List.length_nil, Nat.reduceAdd, Nat.zero_add, List.range, List.range.loop]
  refine gt_goes fun w _ => ?_
  refine goes_oper_k rfl rfl (by k_ne) (fun K hK => ?_)
  go_simp
  refine hK _ _ ⟨rfl, Array.eq_empty_iff_forall_not_mem.2 fun e he => ?_, _, _, rfl, ?_⟩
  · have hm := mem_listed he
    simp [go_sem, *] at hm
  clear hK K
  try w_num
  refine gt_call rfl rfl rfl (f := 50) (args := #[vl]) (fun u => ⟨?_, ?_⟩) (cloneG v1 vl rs (hl.keep k1) (by omega)) (fun y v2 hy => ?_)
  · go_simp
  · simp [go_sem, callFunc, Try.func50, Try.f50]
  obtain ⟨hown, k2⟩ := hy
  obtain ⟨g, cap, rfl, hc1, hc2, hg1, hg2⟩ := hown.form h0
  walk_nrm
  refine gt_op closedC rfl rfl (by kernel_rfl) rfl (z := .pointer (some ⟨v2.heap.size, 0, none⟩)) (v' := v2.alloc (.cells #[.slice none 0 0] 25)) (fun u hu => ⟨u.alloc (.cells #[.slice none 0 0] 25), ?_, same_alloc hu _⟩) ?_
  · rw [← hu.heap]
    go_simp
  walk_nrm
  obtain ⟨Hd, hH⟩ : ∃ Hd, v2.heap.size = Hd := ⟨_, rfl⟩
  obtain ⟨v3, hv3⟩ : ∃ v3, v2.alloc (.cells #[.slice none 0 0] 25) = v3 := ⟨_, rfl⟩
  have k3 : KeepG v2 v3 := hv3 ▸ KeepG.alloc v2 _
  have h3 : v3.heap[Hd]? = some (.cells #[.slice none 0 0] 25) := hv3 ▸ hH ▸ heap_alloc_new v2 _
  have z3 : v3.heap.size = Hd + 1 := by rw [← hv3, ← hH]; simp
  rw [hv3, hH]
  clear hv3
  have c3 : v3.cell? ⟨Hd, 0, none⟩ = some (.slice none 0 0) := by unfold World.cell?; rw [h3]; rfl
  have f3 : v3.frozen? ⟨Hd, 0, none⟩ = false := by unfold World.frozen?; rw [h3]; rfl
  refine gt_op0 closedC rfl rfl (by kernel_rfl) rfl (v' := v3.setCell ⟨Hd, 0, none⟩ (.slice (some ⟨g, 0, none⟩) rs.length cap)) (fun u hu => ⟨u.setCell ⟨Hd, 0, none⟩ (.slice (some ⟨g, 0, none⟩) rs.length cap), ?_, same_set hu _ _⟩) ?_
  · have q0 : u.cell? ⟨Hd, 0, none⟩ = some (.slice none 0 0) := by unfold World.cell? at c3 ⊢; rw [hu.heap]; exact c3
    have q1 : u.frozen? ⟨Hd, 0, none⟩ = false := by unfold World.frozen? at f3 ⊢; rw [hu.heap]; exact f3
    go_simp
  obtain ⟨v4, hv4⟩ : ∃ v4, v3.setCell ⟨Hd, 0, none⟩ (.slice (some ⟨g, 0, none⟩) rs.length cap) = v4 := ⟨_, rfl⟩
  have ha4 : Conc.Aside Hd v3 v4 := hv4 ▸ aside_setCell v3 ⟨Hd, 0, none⟩ _
  have h4 : v4.heap[Hd]? = some (.cells #[.slice (some ⟨g, 0, none⟩) rs.length cap] 25) := by rw [← hv4, set1_heap h3]; rfl
  rw [hv4]
  clear hv4 c3 f3
  walk_nrm
  refine gt_goes fun w _ => ?_
  rw [stepG_region_end]
  simp only [goes_go]
  refine ⟨by trivial, by trivial, _, _, rfl, ?_⟩
  refine gt_code ?_
  refine gt_region ?_
  simp only [List.size_toArray, List.length_cons, List.length_nil, Nat.reduceAdd, Nat.zero_add, List.range, List.range.loop]
  -- what is known of the places
  obtain ⟨X, hX⟩ : ∃ X, v.heap.size = X := ⟨_, rfl⟩
  rw [hX] at x1 z1 ⊢
  have s12 := k2.size
  have hXH : X ≠ Hd := by omega
  have k4 : KeepG v v4 := by
    have k := (k1.trans k2).trans k3
    exact ⟨by rw [ha4.size]; exact k.size, ha4.os.trans k.os, ha4.output.trans k.output, fun b hb => (ha4.block b (by omega)).trans (k.block b hb)⟩
  have x4 : v4.heap[X]? = some (.cells #[.int .i64 x.a, .int .i64 x.b, .int .i64 x.c] 39) := (ha4.block X hXH).trans ((k3.block X (by omega)).trans ((k2.block X (by omega)).trans x1))
  obtain ⟨cur, hcur, hcap, htake⟩ : ∃ cur, v4.heap[g]? = some (.cells cur 39) ∧ cur.size = cap * 3 ∧ cur.toList.take (rs.length * 3) = flatT rs := by
    have ho : v2.ownsRow v1.heap.size 39 3 (.slice (some ⟨g, 0, none⟩) rs.length cap) rs.length (flatT rs) := hown
    rcases ho.2 with ⟨h0, -⟩ | ⟨g', cap', cur, e1, -, hg, -, -, hsz, htk⟩
    · cases h0
    · cases e1
      exact ⟨cur, (ha4.block g (by omega)).trans ((k3.block g (by omega)).trans hg), hsz, htk⟩
  have hrep : ∀ i, i < rs.length → cur[i * 3]? = some (.int .i64 (rs.getD i default).a) ∧ cur[i * 3 + 1]? = some (.int .i64 (rs.getD i default).b) ∧ cur[i * 3 + 2]? = some (.int .i64 (rs.getD i default).c) := by
    intro i hi
    obtain ⟨e1, e2, e3⟩ := flatT_get rs i hi
    have hl3 := flatT_length rs
    rw [← htake] at e1 e2 e3
    simp only [List.getElem?_take] at e1 e2 e3
    rw [if_pos (by omega)] at e1 e2 e3
    exact ⟨by simpa using e1, by simpa using e2, by simpa using e3⟩
  obtain ⟨p, capt, rfl, -, -, ht4⟩ := ht
  obtain ⟨tb, tc, htb, hgt, htc, hpp, htg⟩ : ∃ tb tc, tb < v4.heap.size ∧ ¬ Ghost v4 tb ∧ (∀ m, m < ks.length → v4.cell? ⟨tb, tc + m, none⟩ = some (.int .i64 (ks.getD m 0))) ∧ (0 < ks.length → p = some ⟨tb, tc, none⟩) ∧ tb ≠ g := by
    have hz4 := ha4.size
    rcases ht4 with ⟨rfl, -⟩ | ⟨b, o, rfl, hb, hc⟩
    · exact ⟨X, 0, by omega, not_ghost x4, fun m hm => by simp at hm, fun h => by simp at h, by omega⟩
    · have hc4 : ∀ m, m < ks.length → v4.cell? ⟨b, o + m, none⟩ = some (.int .i64 (ks.getD m 0)) := fun m hm => (k4.cell (p := ⟨b, o + m, none⟩) hb).trans (hc m hm)
      rcases Nat.eq_zero_or_pos ks.length with h | h
      · exact ⟨X, 0, by omega, not_ghost x4, fun m hm => by omega, fun h' => by omega, by omega⟩
      · exact ⟨b, o, Nat.lt_of_lt_of_le hb k4.size, not_ghost_cell (hc4 0 h), hc4, fun _ => rfl, by omega⟩
  have hkn : ∀ m, m < ks.length → ((ks.getD m 0).toNat : Int) = ks.getD m 0 ∧ (ks.getD m 0).toNat < rs.length := fun m hm => by have := hk m hm; omega
  have happ : ∀ m m', m < ks.length → m' < ks.length → m ≠ m' → (ks.getD m 0).toNat * 3 + 3 ≤ (ks.getD m' 0).toNat * 3 ∨ (ks.getD m' 0).toNat * 3 + 3 ≤ (ks.getD m 0).toNat * 3 := fun m m' hm hm' hne => by
    have a1 := hk m hm
    have a2 := hk m' hm'
    rcases Nat.lt_or_gt_of_ne hne with h | h
    · have := hs m m' h hm'; omega
    · have := hs m' m h hm; omega
  have hroom : ∀ m, m < ks.length → (ks.getD m 0).toNat * 3 + 3 ≤ cap * 3 := fun m hm => by have := (hkn m hm).2; omega
  have hgh : ¬ Ghost v4 Hd := not_ghost h4
  have hgx : ¬ Ghost v4 X := not_ghost x4
  have hz4 : v4.heap.size = Hd + 1 := by rw [ha4.size]; exact z3
  have hgH : Hd ≠ g := by omega
  have hgX : X ≠ g := by omega
  let rg : Nat → Nat := fun m => (ks.getD m 0).toNat * 3
  let fin : Nat → Nat → Value := fun m i => (rPut x (rs.getD (ks.getD m 0).toNat default)).cell i
  let vq : Nat → Value := fun m => (v4.cell? ⟨tb, m, none⟩).getD default
  let Yf : Nat → World → Lay := fun K w => layOf v4 77 g (cap * 3) ks.length 39 rg fin tb 0 vq K w
  have fsq : ∀ K w, 0 < K → Rel v4 w → FStart (Yf K w) Hd X g rs.length cap tb tc x (fun m => (ks.getD m 0).toNat) (w.alloc (wgBlock 77 0 0)) := by
    intro K w hK hr
    have A : (Yf K w).Ok := layOf_ok hr hK hcur htb htg (by show ks.length < 2147483648; omega) happ hroom
    have ch : v4.cell? ⟨Hd, 0, none⟩ = some (.slice (some ⟨g, 0, none⟩) rs.length cap) := by unfold World.cell?; rw [h4]; rfl
    have cx : ∀ i z, (#[.int .i64 x.a, .int .i64 x.b, .int .i64 x.c] : Array Value)[i]? = some z → v4.cell? ⟨X, i, none⟩ = some z := fun i z hz => by unfold World.cell?; rw [x4]; exact hz
    refine ⟨A, rfl, rfl, layOf_ro hr (by omega) hgH hgh, layOf_ro hr (by omega) hgX hgx, layOf_ro hr htb htg hgt, rfl, fun _ => rfl, fun m hm => (hkn m hm).2, rel_cell hr ch _, rel_cell hr (cx 0 _ rfl) _, rel_cell hr (cx 1 _ rfl) _, rel_cell hr (cx 2 _ rfl) _, fun m hm => ?_, fun m hm => ?_, by show w.heap.size + 1 ≤ _; simp⟩
    · rw [rel_cell hr (htc m hm) _, (hkn m hm).1]
    · obtain ⟨z, hz⟩ := cell_lower (htc m hm) (Nat.le_add_left m tc)
      refine rel_cell hr ?_ _
      show v4.cell? ⟨tb, m, none⟩ = some ((v4.cell? ⟨tb, m, none⟩).getD default)
      rw [hz]; rfl
  have lf0 := wgLib.zeroValue_tWg
  refine gt_crew (fr' := (base 37).at ⟨#[vl, .slice p ks.length capt, .agg #[.int .i64 x.a, .int .i64 x.b, .int .i64 x.c], undef, undef, .pointer (some ⟨X, 0, none⟩), .slice none 0 0, .pointer (some ⟨Hd, 0, none⟩), .pointer (some ⟨v4.heap.size, 0, none⟩), undef, undef, vl, .slice (some ⟨g, 0, none⟩) rs.length cap, undef, undef, undef, undef, undef, undef, undef, undef, undef, undef, undef], []⟩ [.inRegion opsG [], .code restG]) (ty := 77) (C := g) (nC := cap * 3) (n := ks.length) (ety := 39) (rg := rg) (fin := fin) (Cq := tb) (nq := 0) (vq := vq) (cells := cur) (AnchW := fun K w => AnW (Yf K w) Hd X g rs.length cap tb tc x (fun m => (ks.getD m 0).toNat) cs) (Fin := FinW Hd cs)
    ?hstep hcur hcap htb htg (by omega) happ hroom ?hAr ?hAn ?hsp ?hFin
  case hstep =>
    intro w hr
    refine stepG_of_goes ?_
    simp only [opsG, restG, bodyS, Try.f37, Option.getD_some]
    refine goes_oper_k rfl rfl (by k_ne) (fun K hK => ?_)
    go_simp
    rw [hr.size]
    refine hK _ _ ⟨rfl, rfl, Array.eq_empty_iff_forall_not_mem.2 fun e he => ?_⟩
    have hm := mem_listed he
    simp [go_sem, *] at hm
  case hAr =>
    rintro K w g' u ⟨T, -, -, T', rfl, -⟩
    rfl
  case hAn => exact fun K w hr g' u h => anW_round g' u h
  case hsp =>
    intro K w hK hr
    have hy : ∀ m, m < (Yf K w).n → ∀ i, i < 3 → (Yf K w).W0.cell? ⟨g, (ks.getD m 0).toNat * 3 + i, none⟩ = some ((rs.getD (ks.getD m 0).toNat default).cell i) := by
      intro m hm i hi
      refine rel_cell hr ?_ _
      obtain ⟨e1, e2, e3⟩ := hrep _ (hkn m hm).2
      unfold World.cell?
      rw [hcur]
      match i, hi with
      | 0, _ => exact e1
      | 1, _ => exact e2
      | 2, _ => exact e3
    obtain ⟨f, hf⟩ := spawnsFrom (Y := Yf K w) (H := Hd) (X := X) (C := g) (len := rs.length) (cap := cap) (tb := tb) (tc := tc) (cc := capt) (x := x) (ks := fun m => (ks.getD m 0).toNat) (cs := cs) (p := p) (ys := fun m => rs.getD (ks.getD m 0).toNat default) hpp (by show ks.length < 1000000; omega) (by omega)
      hy (fun m hm i hi => rfl) hroom ks.length 0 (by show 0 + ks.length = ks.length; omega)
    refine (ssp_iff (Yf K w) Hd X g rs.length cap tb tc x (fun m => (ks.getD m 0).toNat) cs ks.length _ _).2 ⟨f + 12, ?_⟩
    have hF := And.intro (fsq K w hK hr) (⟨0, 0, heap_alloc_new w _⟩ : WgLive wlink.tWg (Yf K w).Wg (w.alloc (wgBlock 77 0 0)))
    have hF2 := fs2 hF.1
    have hsz : v4.heap.size = (Yf K w).Wg := hr.size.symm
    rw [hsz]
    simp only [opsG, restG, bodyS, Try.f37, Option.getD_some]
    refine Conc.Goes.step rfl (fun _ h₁ => ?_)
    replace hF := fx_rely (hF2 _) hF h₁
    clear h₁
    rw [stepG_region_end]
    simp only [goes_go]
    refine ⟨.refl (by simp) _, ?_⟩
    refine Conc.Goes.step rfl (fun _ h₁ => ?_)
    replace hF := fx_rely (hF2 _) hF h₁
    clear h₁
    rw [stepG_seq]
    simp only [goes_go]
    refine ⟨.refl (by simp) _, ?_⟩
    refine Conc.Goes.step rfl (fun _ h₁ => ?_)
    replace hF := fx_rely (hF2 _) hF h₁
    clear h₁
    rw [stepG_seq]
    simp only [goes_go]
    refine ⟨.refl (by simp) _, ?_⟩
    refine Conc.Goes.step rfl (fun _ h₁ => ?_)
    replace hF := fx_rely (hF2 _) hF h₁
    clear h₁
    rw [stepG_region]
    simp only [goes_go, List.size_toArray, List.length_cons, List.length_nil, Nat.reduceAdd, Nat.zero_add, List.range, List.range.loop]
    refine ⟨.refl (by simp) _, ?_⟩
    refine Conc.Goes.step rfl (fun _ h₁ => ?_)
    replace hF := fx_rely (hF2 _) hF h₁
    clear h₁
    refine goes_oper_k rfl rfl (by k_ne) (fun K hK => ?_)
    go_simp
    refine hK _ _ ⟨.refl (fun e he => ?_) _, ?_⟩
    · have hm := mem_listed he
      simp [go_sem, *] at hm
    clear hK K
    try w_num
    refine Conc.Goes.step rfl (fun _ h₁ => ?_)
    replace hF := fx_rely (hF2 _) hF h₁
    clear h₁
    refine goes_oper_k rfl rfl (by k_ne) (fun K hK => ?_)
    go_simp
    refine hK _ _ ⟨.refl (fun e he => ?_) _, ?_⟩
    · have hm := mem_listed he
      simp [go_sem, *] at hm
    clear hK K
    try w_num
    refine Conc.Goes.step rfl (fun _ h₁ => ?_)
    replace hF := fx_rely (hF2 _) hF h₁
    clear h₁
    refine goes_oper_k rfl rfl (by k_ne) (fun K hK => ?_)
    go_simp
    refine hK _ _ ⟨.refl (fun e he => ?_) _, ?_⟩
    · have hm := mem_listed he
      simp [go_sem, *] at hm
    clear hK K
    try w_num
    refine Conc.Goes.step rfl (fun _ h₁ => ?_)
    replace hF := fx_rely (hF2 _) hF h₁
    clear h₁
    rw [stepG_region_end]
    simp only [goes_go]
    refine ⟨.refl (by simp) _, ?_⟩
    refine Conc.Goes.step rfl (fun _ h₁ => ?_)
    replace hF := fx_rely (hF2 _) hF h₁
    clear h₁
    rw [stepG_block]
    simp only [goes_go]
    refine ⟨.refl (by simp) _, ?_⟩
    refine Conc.Goes.step rfl (fun _ h₁ => ?_)
    replace hF := fx_rely (hF2 _) hF h₁
    clear h₁
    rw [stepG_loop]
    simp only [goes_go]
    refine ⟨.refl (by simp) _, ?_⟩
    exact Conc.Goes.mono (hf _ _ ⟨_, rfl, by simp, by simp [pt], by simp [pt], by simp [pt], by simp; rfl, by simp; rfl, by simp⟩ hF) (by omega)
  case hFin =>
    rintro g' u ⟨T, hT, t7, fr2, rfl, hg⟩
    refine ⟨fr2, cW T :: cs, rfl, fun v5 hJ => hg cs v5 _ ?_⟩
    obtain ⟨u0, u1, u2, u3, u4, u5, u6, u7, u8, u9, u10, u11, u12, u13, u14, u15, u16, u17, u18, u19, u20, u21, u22, u23, rfl⟩ := array24 T hT
    simp only [List.getElem?_toArray, List.getElem?_cons_succ, List.getElem?_cons_zero, Option.some.injEq, pt] at t7
    subst t7
    simp only [opsS, tailS, RS, bodyS, Try.f37, Option.getD_some]
    walk_nrm
    have h5 : v5.heap[Hd]? = some (.cells #[.slice (some ⟨g, 0, none⟩) rs.length cap] 25) := (hJ.block Hd (by omega) hgH).trans h4
    have c5 : v5.cell? ⟨Hd, 0, none⟩ = some (.slice (some ⟨g, 0, none⟩) rs.length cap) := by unfold World.cell?; rw [h5]; rfl
    refine gt_goes fun w _ => ?_
    rw [stepG_region_end]
    simp only [goes_go]
    refine ⟨by trivial, by trivial, _, _, rfl, ?_⟩
    refine gt_code ?_
    refine gt_region ?_
    simp only [List.size_toArray, List.length_cons, List.length_nil, Nat.reduceAdd, Nat.zero_add, List.range, List.range.loop]
    refine gt_op closedC rfl rfl (by kernel_rfl) rfl (z := .slice (some ⟨g, 0, none⟩) rs.length cap) (v' := v5) (fun u hu => ⟨u, ?_, hu⟩) ?_
    · have q0 : u.cell? ⟨Hd, 0, none⟩ = some (.slice (some ⟨g, 0, none⟩) rs.length cap) := by unfold World.cell? at c5 ⊢; rw [hu.heap]; exact c5
      go_simp
    walk_nrm
    refine gt_goes fun w _ => ?_
    refine goes_oper_k rfl rfl (by k_ne) (fun K hK => ?_)
    go_simp
    refine hK _ _ ⟨rfl, Array.eq_empty_iff_forall_not_mem.2 fun e he => ?_, _, _, rfl, ?_⟩
    · have hm := mem_listed he
      simp [go_sem, *] at hm
    clear hK K
    try w_num
    refine gt_goes fun w _ => ?_
    rw [stepG_region_end]
    simp only [goes_go]
    refine ⟨by trivial, by trivial, _, _, rfl, ?_⟩
    refine gt_ret ?_
    refine GT.stop ⟨rfl, _, leaves_of ⟨rfl, rfl, rfl⟩ Try.func37 (.refl _) (resultsC_tmp rfl _ _).1, ?_, ?_⟩
    · obtain ⟨cs', o1, o2, o3, o4⟩ := hJ.out
      refine ⟨by rw [flatT_length], .inr ⟨g, cap, cs', by rw [rPutAll_length]; rfl, by omega, o1, by rw [rPutAll_length]; exact hc1, hc2, o2, take_flat cs' _ fun i hi => ?_⟩⟩
      rw [rPutAll_length] at hi
      rw [rPutAll_get x rs ks hi]
      by_cases hik : (i : Int) ∈ ks
      · rw [if_pos hik]
        obtain ⟨m, hm, e⟩ := List.mem_iff_getElem.1 hik
        have e' : ks.getD m 0 = (i : Int) := by simp [hm, e]
        have en : (ks.getD m 0).toNat = i := by omega
        have r0 := o3 m 0 hm (by omega)
        have r1 := o3 m 1 hm (by omega)
        have r2 := o3 m 2 hm (by omega)
        simp only [rg, fin, en] at r0 r1 r2
        exact ⟨r0, r1, r2⟩
      · rw [if_neg hik]
        have hno : ∀ o, i * 3 ≤ o → o < i * 3 + 3 → ∀ m, m < ks.length → ¬ (rg m ≤ o ∧ o < rg m + 3) := by
          intro o h1 h2 m hm ⟨h3, h4⟩
          have : (ks.getD m 0).toNat = i := by simp only [rg] at h3 h4; omega
          refine hik ?_
          have e := (hkn m hm).1
          rw [this] at e
          rw [e]
          simp [hm]
        obtain ⟨e1, e2, e3⟩ := hrep i hi
        exact ⟨(o4 _ (hno _ (by omega) (by omega))).trans e1, (o4 _ (hno _ (by omega) (by omega))).trans e2, (o4 _ (hno _ (by omega) (by omega))).trans e3⟩
    · exact ⟨by have := k4.size; have := hJ.size; omega, hJ.os.trans k4.os, hJ.output.trans k4.output, fun b hb => (hJ.block b (by omega) (by omega)).trans (k4.block b hb)⟩
end Go.Proofs.Ytddnapbdhjifiaa
