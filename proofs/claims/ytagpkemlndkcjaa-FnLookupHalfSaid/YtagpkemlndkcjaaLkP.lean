/-
  Contracts: AppendSeq, Collect, LookupPath of the program.
-/
import Derived.Test.YtagpkemlndkcjaaLkC
namespace Go.Proofs.Ytagpkemlndkcjaa
open Go.RowKit Go.Shelf

attribute [local go_sem] Oper.semAt_some

/-- The box of what has come, and what lies besides. -/
structure ApBox (w0 : World) (Bd : Nat) (xs : List Int) (W : World) : Prop where
  box : ∃ v, W.heap[w0.heap.size]? = some (.cells #[v] 23 (0, 0)) ∧ W.ownsRow w0.heap.size 3 1 v xs.length (xs.map (Value.int .i64)) ∧ v.ownBlock ≠ some w0.heap.size
  grew : w0.grownBy W (some Bd)
theorem grow_far {w a b : World} {Bd : Nat} {row : Option Nat} (h : w.grownBy a (some Bd)) (h' : a.grownBy b row) (hr : ∀ r, row = some r → w.heap.size ≤ r ∨ r = Bd) : w.grownBy b (some Bd) :=
  ⟨h'.os.trans h.os, h'.tape.trans h.tape, h'.output.trans h.output, Nat.le_trans h.size h'.size, fun k hk hn => (h'.block k (Nat.lt_of_lt_of_le hk h.size) (fun e => by
    rcases hr k e.symm with h1 | h1
    · omega
    · exact hn (by rw [h1]))).trans (h.block k hk hn)⟩
theorem own_cells {w : World} {B size n : Nat} {e : TypeId} {v : Value} {xs : List Value} (h : w.ownsRow B e size v n xs) {j : Nat} (hj : v.ownBlock = some j) : ∃ o : Obj, w.heap[j]? = some o ∧ o.isCells = true := by
  rcases h.2 with ⟨rfl, -⟩ | ⟨g, cap, cur, rfl, -, hg, -⟩
  · cases hj
  · cases hj
    exact ⟨_, hg, rfl⟩
theorem ap_abides {w0 : World} {Bd base : Nat} (hBd : Bd < w0.heap.size) (hb : w0.heap.size ≤ base) : AbidesB Bd base (ApBox w0 Bd) := fun s W W' row ⟨⟨v, hv, ho, hn⟩, hg⟩ hg' hr => by
  refine ⟨⟨v, (hg'.block _ (Array.getElem?_eq_some_iff.1 hv).1 (fun e => ?_)).trans hv, ho.kept hg' ?_, hn⟩, grow_far hg hg' (fun r e => ?_)⟩
  · rcases hr _ e.symm with h | ⟨h, o, h1, h2⟩
    · omega
    · rw [hv] at h1; cases h1; cases h2
  · cases hj : v.ownBlock with
    | none => exact .inl rfl
    | some j =>
      refine .inr fun e => ?_
      obtain ⟨o, h1, h2⟩ := own_cells ho hj
      have hlt := (ho.lt j hj).1
      rcases hr _ e.symm with h | ⟨h, o', h3, h4⟩
      · omega
      · rw [h1] at h3; cases h3; rw [h2] at h4; cases h4
  · rcases hr r e with h | ⟨h, -⟩
    · exact .inr h
    · exact .inl (by omega)
theorem box_cell {W : World} {B : Nat} {v : Value} {t : TypeId} (h : W.heap[B]? = some (.cells #[v] t (0, 0))) : W.cell? ⟨B, 0, none⟩ = some v ∧ W.frozen? ⟨B, 0, none⟩ = false := by
  constructor <;> simp [World.cell?, World.frozen?, h]
theorem box_store {W : World} {B : Nat} {v u : Value} {t : TypeId} (h : W.heap[B]? = some (.cells #[v] t (0, 0))) : (W.setCell ⟨B, 0, none⟩ u).heap[B]? = some (.cells #[u] t (0, 0)) := by
  have hlt := (Array.getElem?_eq_some_iff.1 h).1
  have e := (Array.getElem?_eq_some_iff.1 h).2
  show (W.heap.modify B _)[B]? = _
  rw [Array.getElem?_eq_getElem (by rw [Array.size_modify]; exact hlt), Array.getElem_modify_self, e]
  rfl

/-- Behind the append: the box stands, and the new row is another block. -/
theorem ap_box3 {w0 W w3 : World} {o : Obj} {v v' : Value} {m : Nat} {ys : List Value} (hv : W.heap[w0.heap.size]? = some (.cells #[v] 23 (0, 0))) (hnb : v.ownBlock ≠ some w0.heap.size) (hg : (W.alloc o).grownBy w3 v.ownBlock)
    (ho : w3.ownsRow w0.heap.size 3 1 v' m ys) : w3.heap[w0.heap.size]? = some (.cells #[v] 23 (0, 0)) ∧ v'.ownBlock ≠ some w0.heap.size := by
  have hlt : w0.heap.size < W.heap.size := (Array.getElem?_eq_some_iff.1 hv).1
  have h3 : w3.heap[w0.heap.size]? = some (.cells #[v] 23 (0, 0)) :=
    (hg.block _ (by simp; omega) (fun e => hnb e.symm)).trans ((Below.heap_alloc _ _ _ hlt).trans hv)
  refine ⟨h3, fun e => ?_⟩
  rcases ho.2 with ⟨rfl, -⟩ | ⟨g, cap, cur, rfl, -, hg', -⟩
  · cases e
  · cases e
    exact absurd (Obj.cells.inj (Option.some.inj (h3.symm.trans hg'))).2.1 (by decide)

set_option maxRecDepth 100000 in
set_option maxHeartbeats 4000000 in
theorem appendSeq_any (F : Fence) (hF : F = Fence.wide) (n Bd gf : Nat) (lb : Array Value) (S : List Int → Prop) (hn1 : 3 ≤ n) (eg : ∀ args w, (callFunc gf args).run Try.prog w = .ok (.enter gf args) w) (w : World) (hBd : Bd < w.heap.size) (hseq : SeqB F (n - 1) Try.prog gf lb 65 Bd S w) :
    CallsIn F n Try.prog 26 #[.slice none 0 0, .func (.func gf) #[] lb] w fun e w' => ∃ v ss, e = .returned v ∧ S ss ∧ w'.ownsRow w.heap.size 3 1 v ss.length (ss.map (Value.int .i64)) ∧ w.grownBy w' (some Bd) := by
  obtain ⟨i0, hi, hz0, hz1, hz2⟩ := info_parts Try.infoInt
  have hro : F.round = none := by rw [hF]; rfl
  have f26 : F.fn 26 := by rw [hF]; trivial
  have fgf : F.fn gf := by rw [hF]; trivial
  have h1 : 1 ≤ n := by omega
  have HFW := Lib.hid hF
  have HSQ := Lib.hid hseq
  clear hF hseq
  refine callsIn_of_wp_marks Try.func26 rfl f26 ?_ hro
  simp only [Try.ntmps26, List.size_toArray, List.length_cons, List.length_nil, Nat.reduceAdd, Nat.reduceSub, Array.replicate_succ, Array.replicate_zero, List.push_toArray, List.append_toArray, List.nil_append, List.cons_append]
  gi_wp2
  have hb0 : Below w.heap.size w (w.alloc (.cells #[.slice none 0 0] 23)) := (Below.refl _ w).alloc (Nat.le_refl _) _
  have hbox0 : (w.alloc (.cells #[.slice none 0 0] 23)).heap[w.heap.size]? = some (.cells #[.slice none 0 0] 23 (0, 0)) := World.alloc_heap_new w _
  refine wpIn_range_b hro h1 (gf := gf) (lb := lb) rfl fgf eg HSQ.out hBd hb0 rfl (ApBox w Bd) (ap_abides hBd (by simp))
    ⟨⟨_, hbox0, World.ownsRow_nil _ _ _ _, by simp [Value.ownBlock]⟩, grow_below hb0 (Nat.le_refl _)⟩
    (fun x => { tmps := #[.slice none 0 0, .func (.func gf) #[] lb, .pointer (some ⟨w.heap.size, 0, none⟩), undef, .slice none 0 0, .int .i64 x, .func (.func gf) #[] lb, .int .i64 x, undef, undef, undef, undef, undef], defers := [] }) ?assign ?body ?done
  case assign =>
    intro l x W K hK
    gi_wp2
    exact hK
  case body =>
    rintro l pre x W ⟨⟨v, hv, ho, hnb⟩, hg⟩ hlen
    obtain ⟨hc, hf⟩ := box_cell hv
    have hlt : w.heap.size < W.heap.size := (Array.getElem?_eq_some_iff.1 hv).1
    have HO := Lib.hid ho
    clear hbox0 ho
    gi_wp2_with (gi_at_builtin; refine wpListIn_append_own _ rfl _ _ 23 rfl w.heap.size 3 i0 (.int .i64 0) 1 8 Try.underlying23 hi hz0 hz1 hz2 rfl (by decide) _ _ _ rfl (HO.out.alloc _) ⟨W.heap.size, 0, none⟩ 1 1 [.int .i64 x] rfl rfl (cell_one_new _ _ _) (by simp [Value.oneCell']) (by unfold maxLen; omega) (by omega) (by simp; omega) ?_; intro v' w3 hown' hg3 hnil3; obtain ⟨g', cap', rfl, -, -, hgB, hgl⟩ := own_form hown' (fun e => by have := hnil3.1 e; omega); obtain ⟨hv3, hnb3⟩ := ap_box3 hv hnb hg3 hown'; obtain ⟨hc3, hf3⟩ := box_cell hv3)
    have hmap : (pre ++ [x]).map (Value.int .i64) = pre.map (Value.int .i64) ++ [.int .i64 x] := by simp
    have hlen2 : (pre ++ [x]).length = pre.length + 1 := by simp
    refine ⟨?_, ?_, ⟨_, box_store hv3, ?_, hnb3⟩, ?_⟩
    · exact ((KeepsOthers.alloc W _).trans (KeepsOthers.of_grownBy hg3 (fun j o hj ho' => by obtain ⟨o2, k1, k2⟩ := own_cells (HO.out.alloc _) hj; rw [k1] at ho'; cases ho'; exact k2))).trans (KeepsOthers.setCell _ _ _)
    · exact (((Below.refl w.heap.size W).alloc (by omega) _).grown hg3 (by simp; omega) (fun q hq => (HO.out.lt q hq).1)).setCell (p := ⟨w.heap.size, 0, none⟩) (Nat.le_refl _) _
    · rw [hmap, hlen2]; exact ownsRow_setCell_other hown' hnb3 _
    · exact grow_far (grow_far (grow_far hg (World.grownBy_alloc W _ none) (fun r e => by cases e)) hg3 (fun r e => .inl (HO.out.lt r e).1)) (grow_set w3 w.heap.size 0 _) (fun r e => by cases e; exact .inl (Nat.le_refl _))
  case done =>
    rintro D xs W hD hS ⟨⟨v, hv, ho, hnb⟩, hg⟩ hK
    obtain ⟨hc, hf⟩ := box_cell hv
    gi_wp2
    refine ⟨by simp, .inl ⟨_, _, rfl, run_takeDeferred hK, ?_⟩⟩
    refine ⟨_, results_tmp rfl _ _ _, v, xs, rfl, hS, ho.kept (grownBy_putObj' W D _) ?_, grow_far hg (grownBy_putObj' W D _) (fun r e => by cases e; exact .inl (by simp at hD; omega))⟩
    cases hj : v.ownBlock with
    | none => exact .inl rfl
    | some j =>
      refine .inr fun e => ?_
      obtain ⟨o, k1, k2⟩ := own_cells ho hj
      cases e
      rw [hK] at k1; cases k1; cases k2

theorem IntsAt.heap {w w' : World} {v : Value} {xs : List Int} (h : IntsAt w v xs) (hz : w.heap.size ≤ w'.heap.size) (hk : ∀ k, k < w.heap.size → w'.heap[k]? = w.heap[k]?) : IntsAt w' v xs := by
  obtain ⟨p, cap, rfl, h1, h2, h3⟩ := h
  refine ⟨p, cap, rfl, h1, h2, ?_⟩
  rcases h3 with h3 | ⟨b, o, rfl, hb, hc⟩
  · exact .inl h3
  · refine .inr ⟨b, o, rfl, by omega, fun i hi => ?_⟩
    rw [← hc i hi]
    simp [World.cell?, hk b hb]

theorem lookup_any (p0 : Option Addr) (n0 q0 : Nat) (id key : Int) (w : World) :
    Calls Try.prog 14 #[.slice p0 n0 q0, .int .i64 id, .int .i64 key] w fun e w' => e = .returned (.func (.func 27) #[] #[.pointer (some ⟨w.heap.size, 0, none⟩), .pointer (some ⟨w.heap.size + 1 + 1, 0, none⟩), .pointer (some ⟨w.heap.size + 1, 0, none⟩)]) ∧
      w' = ((w.alloc (.cells #[.slice p0 n0 q0] 23)).alloc (.cells #[.int .i64 id] 3)).alloc (.cells #[.int .i64 key] 3) := by
  go_enter Try.func14, Try.ntmps14
  go_wp2
  go_ret
  exact ⟨rfl, rfl⟩

theorem enters27 : ∀ args w, (callFunc 27 args).run Try.prog w = .ok (.enter 27 args) w := enters_of Try.func27 (by kernel_rfl) rfl

theorem collect_any (lb : Array Value) (Bd : Nat) (S : List Int → Prop) (w : World) (hBd : Bd < w.heap.size) (hseq : SeqB Fence.wide (10 - 1) Try.prog 27 lb 65 Bd S w) :
    Calls Try.prog 13 #[.func (.func 27) #[] lb] w fun e w' => ∃ v ss, e = .returned v ∧ S ss ∧ w'.ownsRow w.heap.size 3 1 v ss.length (ss.map (Value.int .i64)) ∧ w.grownBy w' (some Bd) := by
  have hap := Lib.hid (callsIn_wide.1 (appendSeq_any Fence.wide rfl 10 Bd 27 lb S (by omega) enters27 w hBd hseq))
  clear hseq
  go_enter Try.func13, Try.ntmps13
  go_wp2_with (go_at_call 26; refine hap.out.mono ?_; rintro e w' ⟨v, ss, rfl, hS, ho, hg⟩)
  go_ret
  exact ⟨v, ss, rfl, hS, ho, hg⟩

set_option maxHeartbeats 2000000 in
theorem iLookupPath_any (v : Value) (L : List Int) (id key : Int) (w : World) (hv : IntsAt w v L) :
    Calls Try.prog 5 #[v, .int .i64 id, .int .i64 key] w fun e w' => ∃ x xs, e = .returned x ∧ PathAns L id key xs ∧ w'.ownsRow w.heap.size 3 1 x xs.length (xs.map (Value.int .i64)) ∧ Below w.heap.size w w' := by
  have HV := Lib.hid hv
  obtain ⟨pv, qv, rfl⟩ : ∃ p c, v = .slice p L.length c := by obtain ⟨p, c, e, -⟩ := hv; exact ⟨p, c, e⟩
  clear hv
  cases h1 : (ndB L && decide (id ∈ L))
  · have H1 := Lib.hid h1
    clear h1
    go_enter Try.func5, Try.ntmps5
    go_wp2_with (go_at_call 11; refine (isNode_any _ L id _ H1.out _ HV.out).mono ?_; rintro e w1 ⟨rfl, hb1⟩)
    go_ret
    exact ⟨_, [], rfl, ⟨fun h => by rw [H1.out] at h; simp at h, fun _ => rfl⟩, World.ownsRow_nil _ _ _ _, hb1⟩
  cases h2 : okP key
  · have H1 := Lib.hid h1
    have H2 := Lib.hid h2
    clear h1 h2
    go_enter Try.func5, Try.ntmps5
    go_wp2_with (first | (go_at_call 11; refine (isNode_any _ L id _ H1.out _ HV.out).mono ?_; rintro e w1 ⟨rfl, hb1⟩) | (go_at_call 12; refine (posok_is key _ H2.out _).mono ?_; rintro e w' ⟨rfl, rfl⟩))
    go_ret
    exact ⟨_, [], rfl, ⟨fun h => by rw [H2.out] at h; simp at h, fun _ => rfl⟩, World.ownsRow_nil _ _ _ _, hb1⟩
  have H1 := Lib.hid h1
  have H2 := Lib.hid h2
  have h1' : ndB L = true ∧ id ∈ L := by simpa using h1
  have HN := Lib.hid h1'.1
  have HID := Lib.hid h1'.2
  clear h1 h2 h1'
  go_enter Try.func5, Try.ntmps5
  go_wp2_with (first | (go_at_call 11; refine (isNode_any _ L id _ H1.out _ HV.out).mono ?_; rintro e w1 ⟨rfl, hb1⟩) | (go_at_call 12; refine (posok_is key _ H2.out _).mono ?_; rintro e w' ⟨rfl, rfl⟩))
  refine (lookup_any pv L.length qv id key _).mono ?_
  rintro e w2 ⟨rfl, hw2⟩
  have hv1 := HV.out.below hb1 (Nat.le_refl _)
  have hz2 : w2.heap.size = w1.heap.size + 3 := by rw [hw2]; simp
  have hold : ∀ k, k < w1.heap.size → w2.heap[k]? = w1.heap[k]? := fun k hk => by
    rw [hw2]; exact (Below.heap_alloc _ _ k (by simp; omega)).trans ((Below.heap_alloc _ _ k (by simp; omega)).trans (Below.heap_alloc _ _ k hk))
  have hb2 : Below w1.heap.size w1 w2 := by rw [hw2]; exact (((Below.refl _ w1).alloc (Nat.le_refl _) _).alloc (by simp) _).alloc (by simp; omega) _
  have c0 : w2.cell? ⟨w1.heap.size, 0, none⟩ = some (.slice pv L.length qv) := by
    have h3 : w2.heap[w1.heap.size]? = some (.cells #[.slice pv L.length qv] 23 (0, 0)) := by
      rw [hw2]
      exact (Below.heap_alloc _ _ _ (by simp; omega)).trans ((Below.heap_alloc _ _ _ (by simp)).trans (World.alloc_heap_new w1 _))
    exact (box_cell h3).1
  have c1 : w2.cell? ⟨w1.heap.size + 1, 0, none⟩ = some (.int .i64 id) ∧ w2.frozen? ⟨w1.heap.size + 1, 0, none⟩ = false := by
    have h3 : w2.heap[w1.heap.size + 1]? = some (.cells #[.int .i64 id] 3 (0, 0)) := by
      rw [hw2]
      refine (Below.heap_alloc _ _ _ (by simp)).trans ?_
      have := World.alloc_heap_new (w1.alloc (.cells #[.slice pv L.length qv] 23)) (.cells #[.int .i64 id] 3)
      rwa [World.size_alloc] at this
    exact box_cell h3
  have c2 : w2.cell? ⟨w1.heap.size + 1 + 1, 0, none⟩ = some (.int .i64 key) := by
    have h3 : w2.heap[w1.heap.size + 1 + 1]? = some (.cells #[.int .i64 key] 3 (0, 0)) := by
      rw [hw2]
      have := World.alloc_heap_new ((w1.alloc (.cells #[.slice pv L.length qv] 23)).alloc (.cells #[.int .i64 id] 3)) (.cells #[.int .i64 key] 3)
      rwa [World.size_alloc, World.size_alloc] at this
    exact (box_cell h3).1
  have hM : LkMem w2.heap.size w1.heap.size (w1.heap.size + 1 + 1) (w1.heap.size + 1) (.slice pv L.length qv) L key id w2 :=
    ⟨c0, c2, c1.1, c1.2, fun W' hz hk => hv1.heap (by omega) (fun k hk' => (hk k (by omega) (by omega)).trans (hold k hk'))⟩
  have hsq := look_seq Fence.wide rfl (10 - 1) w1.heap.size (w1.heap.size + 1 + 1) (w1.heap.size + 1) (.slice pv L.length qv) L id key (by omega) w2 (by omega) (by omega) (by omega) (by omega) (by omega) HN.out HID.out H2.out hM
  have HSQ := Lib.hid hsq
  have hb12 := hb1.trans (hb2.mono hb1.size)
  have hz1 := hb1.size
  clear hw2 hold c0 c1 c2 hM hsq
  go_wp2_with (go_at_call 13; refine (collect_any _ (w1.heap.size + 1) (WholeL L key id) w2 (by omega) HSQ.out).mono ?_; rintro e w3 ⟨x, xs, rfl, hS, ho, hg⟩)
  go_ret
  exact ⟨x, xs, rfl, ⟨fun _ => hS, fun h => by rw [H1.out, H2.out] at h; simp at h⟩, ownsRow_mono ho (by omega), hb12.trans (below_grow hg (by omega) (by omega))⟩

end Go.Proofs.Ytagpkemlndkcjaa
