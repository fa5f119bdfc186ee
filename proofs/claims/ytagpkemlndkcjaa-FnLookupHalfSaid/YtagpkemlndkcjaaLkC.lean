/-
  Contracts: the iterator of lookup, AppendSeq, Collect, LookupPath of the program.
-/
import Derived.Test.YtagpkemlndkcjaaLkR
namespace Go.Proofs.Ytagpkemlndkcjaa
open Go.RowKit Go.Shelf

attribute [local go_sem] Oper.semAt_some

/-- What the iterator reads. -/
structure LkMem (B0 Bn Bk Bd : Nat) (v : Value) (L : List Int) (key u : Int) (W : World) : Prop where
  cn : W.cell? ⟨Bn, 0, none⟩ = some v
  ck : W.cell? ⟨Bk, 0, none⟩ = some (.int .i64 key)
  cd : W.cell? ⟨Bd, 0, none⟩ = some (.int .i64 u)
  fd : W.frozen? ⟨Bd, 0, none⟩ = false
  nd : ∀ W' : World, W.heap.size ≤ W'.heap.size → (∀ k, k < B0 → k ≠ Bd → W'.heap[k]? = W.heap[k]?) → IntsAt W' v L
theorem LkMem.below {B0 Bn Bk Bd : Nat} {v : Value} {L : List Int} {key u : Int} {W W' : World} (h : LkMem B0 Bn Bk Bd v L key u W) (hb : Below B0 W W') (h1 : Bn < B0) (h2 : Bk < B0) (h3 : Bd < B0) : LkMem B0 Bn Bk Bd v L key u W' :=
  ⟨(hb.cell (p := ⟨Bn, 0, none⟩) h1).trans h.cn, (hb.cell (p := ⟨Bk, 0, none⟩) h2).trans h.ck, (hb.cell (p := ⟨Bd, 0, none⟩) h3).trans h.cd, (hb.frozen (p := ⟨Bd, 0, none⟩) h3).trans h.fd,
    fun W'' hz hk => h.nd W'' (Nat.le_trans hb.size hz) (fun k h4 h5 => (hk k h4 h5).trans (hb.block k h4))⟩
theorem LkMem.store {B0 Bn Bk Bd : Nat} {v : Value} {L : List Int} {key u : Int} {W : World} (h : LkMem B0 Bn Bk Bd v L key u W) (h1 : Bn ≠ Bd) (h2 : Bk ≠ Bd) (y : Int) : LkMem B0 Bn Bk Bd v L key y (W.setCell ⟨Bd, 0, none⟩ (.int .i64 y)) :=
  ⟨by rw [World.cell?_setCell_other _ _ _ _ (fun e => h1 (congrArg Addr.block e).symm)]; exact h.cn, by rw [World.cell?_setCell_other _ _ _ _ (fun e => h2 (congrArg Addr.block e).symm)]; exact h.ck, World.cell?_setCell_same _ _ _ h.cd, by rw [World.frozen?_setCell]; exact h.fd,
    fun W'' hz hk => h.nd W'' (by simpa [World.setCell] using hz) (fun k h4 h5 => (hk k h4 h5).trans (Below.heap_setCell W ⟨Bd, 0, none⟩ _ k h5))⟩
/-- The steps that are left, read off the iterator's cell. -/
def muW (L : List Int) (key : Int) (Bd : Nat) (W : World) : Nat := match W.cell? ⟨Bd, 0, none⟩ with
  | some (.int .i64 u) => muL L u key
  | _ => 0
theorem muW_of {L : List Int} {key u : Int} {Bd : Nat} {W : World} (h : W.cell? ⟨Bd, 0, none⟩ = some (.int .i64 u)) : muW L key Bd W = muL L u key := by unfold muW; rw [h]

theorem wide_calls {F : Fence} {n : Nat} {P : Program} {f : FuncId} {args : Array Value} {w : World} {R : Ending → World → Prop} (hF : F = Fence.wide) (h : Calls P f args w R) : CallsIn F n P f args w R := by
  subst hF; exact callsIn_wide.2 h

set_option maxRecDepth 100000 in
set_option maxHeartbeats 4000000 in
theorem lookup1_any (F : Fence) (hF : F = Fence.wide) (n l B0 Bn Bk Bd : Nat) (v : Value) (L : List Int) (id key : Int) (J : List Int → World → Prop) (hn1 : 1 ≤ n)
    (h1 : Bn < B0) (h2 : Bk < B0) (h3 : Bd < B0) (h4 : Bn ≠ Bd) (h5 : Bk ≠ Bd) (hn : ndB L = true) (hm : id ∈ L) (hk : okP key = true)
    (hJ : ∀ s A B, J s A → A.grownBy B (some Bd) → J s B)
    (hY : ∀ pre x W1, J pre W1 → pre.length < 65 → YieldAt F (n - 1) Try.prog l #[.int .i64 x] W1 fun e W' => e = .returned (.bool true) ∧ J (pre ++ [x]) W' ∧ Below B0 W1 W')
    (W : World) (hB : B0 ≤ W.heap.size) (hM : LkMem B0 Bn Bk Bd v L key id W) (h0 : J [] W) :
    CallsIn F n Try.prog 27 #[.func (.yield l) #[] #[], .pointer (some ⟨Bn, 0, none⟩), .pointer (some ⟨Bk, 0, none⟩), .pointer (some ⟨Bd, 0, none⟩)] W fun e W' => (∃ v, e = .returned v) ∧ ∃ xs, WholeL L key id xs ∧ J xs W' := by
  obtain ⟨o, ho⟩ : ∃ o, nextV L key = o := ⟨_, rfl⟩
  have HOW := Lib.hid ho
  have HN := Lib.hid hn
  have HNN := Lib.hid (ndB_iff.1 hn).2
  have HM := Lib.hid hM
  have HK := Lib.hid hk
  have HID := Lib.hid hm
  have H0 := Lib.hid h0
  have HJ := Lib.hid hJ
  have HY := Lib.hid hY
  have c1 := hM.cn
  have c2 := hM.ck
  have hv0 := Lib.hid (hM.nd W (Nat.le_refl _) (fun _ _ _ => rfl))
  clear hn hM hk hm h0 hJ hY ho
  have hro : F.round = none := by rw [hF]; rfl
  have f27 : F.fn 27 := by rw [hF]; trivial
  have f28 : F.fn 28 := by rw [hF]; trivial
  have f29 : F.fn 29 := by rw [hF]; trivial
  have HFW := Lib.hid hF
  clear hF
  refine callsIn_of_wp Try.func27 rfl f27 ?_ hro
  simp only [Try.ntmps27, List.size_toArray, List.length_cons, List.length_nil, Nat.reduceAdd, Nat.reduceSub, Array.replicate_succ, Array.replicate_zero, List.push_toArray, List.append_toArray, List.nil_append, List.cons_append]
  gi_wp2_with (gi_at_call 28; refine (wide_calls HFW.out (iNodesNext_any v L key _ hv0.out HN.out HK.out)).mono ?_; rw [HOW.out]; rintro e w1 ⟨rfl, hb1⟩)
  have hg1 : W.grownBy w1 (some Bd) := grow_below hb1 (Nat.le_refl _)
  have HM1 := Lib.hid (HM.out.below (hb1.mono hB) h1 h2 h3)
  have HJ1 := Lib.hid (HJ.out _ _ _ H0.out hg1)
  have hmu0 := muL_le HNN.out HID.out HK.out
  gi_loopw [9] (fun _ wr => ∃ (pre : List Int) (u : Int), Hid (PathL L key id (pre ++ [u])) ∧ pre.length + 1 + muL L u key ≤ 65 ∧ Hid (J pre wr) ∧ Hid (LkMem B0 Bn Bk Bd v L key u wr) ∧ B0 ≤ wr.heap.size) (fun _ wr => muW L key Bd wr)
  case atStart => exact ⟨[], id, Lib.hid (PathL.one HID.out), by simp; omega, HJ1, HM1, Nat.le_trans hB hb1.size⟩
  case round =>
    obtain ⟨pre, u, HP, hlen, HJr, HMr, hBr⟩ := hrel
    obtain ⟨fn, tmps, assign, body, hy, hR⟩ := HY.out pre u wr HJr.out (by omega)
    have d1 := HMr.out.cd
    have HR := Lib.hid hR
    clear hR c1 c2
    gi_wp2
    refine HR.out.mono ?_
    rintro e W3 ⟨rfl, hJ3, hk3⟩
    have HM3 := Lib.hid (HMr.out.below hk3 h1 h2 h3)
    have HJ3 := Lib.hid hJ3
    have e1 := HM3.out.cn
    have e2 := HM3.out.ck
    have e3 := HM3.out.cd
    have e4 := HM3.out.fd
    have hum : u ∈ L := by
      have := HP.out.mem pre.length (by simp)
      rw [List.getD_eq_getElem?_getD, List.getElem?_append_right (Nat.le_refl _)] at this
      simpa using this
    have HUM := Lib.hid hum
    have hlast : (pre ++ [u]).getD ((pre ++ [u]).length - 1) 0 = u := by
      rw [List.length_append, List.length_singleton, Nat.add_sub_cancel, List.getD_eq_getElem?_getD, List.getElem?_append_right (Nat.le_refl _)]; simp
    have HLA := Lib.hid hlast
    have hB3 : B0 ≤ W3.heap.size := Nat.le_trans hBr hk3.size
    clear hJ3 hum hlast
    by_cases he : u = o
    · have hq : (u != o) = false := by simp [he]
      have HE := Lib.hid he
      clear he
      gi_wp2
      go_end0
      exact ⟨⟨_, rfl⟩, pre ++ [u], ⟨HP.out, by rw [HLA.out, HE.out, HOW.out]⟩, HJ3.out⟩
    · have hq : (u != o) = true := by simp [he]
      have hne : u ≠ nextV L key := by rw [HOW.out]; exact he
      have hst := muL_step HNN.out HUM.out HK.out hne
      have hsn := HP.out.snoc HNN.out HK.out HLA.out hne
      obtain ⟨y, hyy⟩ : ∃ y, stepL L u key = y := ⟨_, rfl⟩
      rw [hyy] at hst hsn
      have HYY := Lib.hid hyy
      have HSN := Lib.hid hsn
      have hv3 := Lib.hid (HM3.out.nd W3 (Nat.le_refl _) (fun _ _ _ => rfl))
      clear he hne hsn hyy
      gi_wp2_with (gi_at_call 29; refine (wide_calls HFW.out (iLookupNext_any v L u key y _ hv3.out HN.out HUM.out HK.out HYY.out)).mono ?_; rintro e w4 ⟨rfl, hb4⟩; have x3 := (hb4.cell (p := ⟨Bd, 0, none⟩) (Nat.lt_of_lt_of_le h3 hB3)).trans e3; have x4 := (hb4.frozen (p := ⟨Bd, 0, none⟩) (Nat.lt_of_lt_of_le h3 hB3)).trans e4)
      have HM5 := Lib.hid ((HM3.out.below (hb4.mono hB3) h1 h2 h3).store h4 h5 y)
      have hg5 := grow_trans (grow_below hb4 (Nat.le_refl _)) (grow_set w4 Bd 0 (.int .i64 y))
      have hz4 := hb4.size
      refine ⟨⟨pre ++ [u], y, HSN, by rw [List.length_append, List.length_singleton]; omega, Lib.hid (HJ.out _ _ _ HJ3.out hg5), HM5, by simp [World.setCell]; omega⟩, ?_⟩
      rw [muW_of HM5.out.cd, muW_of d1]
      exact hst

theorem look_seq (F : Fence) (hF : F = Fence.wide) (n Bn Bk Bd : Nat) (v : Value) (L : List Int) (id key : Int) (hn1 : 1 ≤ n) (w0 : World)
    (h1 : Bn < w0.heap.size) (h2 : Bk < w0.heap.size) (h3 : Bd < w0.heap.size) (h4 : Bn ≠ Bd) (h5 : Bk ≠ Bd) (hn : ndB L = true) (hm : id ∈ L) (hk : okP key = true)
    (hM : LkMem w0.heap.size Bn Bk Bd v L key id w0) : SeqB F n Try.prog 27 #[.pointer (some ⟨Bn, 0, none⟩), .pointer (some ⟨Bk, 0, none⟩), .pointer (some ⟨Bd, 0, none⟩)] 65 Bd (WholeL L key id) w0 :=
  fun l J W hW hJ hY h0 => lookup1_any F hF n l w0.heap.size Bn Bk Bd v L id key J hn1 h1 h2 h3 h4 h5 hn hm hk hJ hY W hW.size (hM.below hW h1 h2 h3) h0

end Go.Proofs.Ytagpkemlndkcjaa
