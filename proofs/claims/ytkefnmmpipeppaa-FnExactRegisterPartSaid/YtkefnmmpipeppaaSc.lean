/-
  Contract: spec.RegisterPart.
-/
import Derived.Test.YtkefnmmpipeppaaSb
namespace Go.Proofs.Ytkefnmmpipeppaa
open Go.RowKit

theorem allBelow_iff {f : Nat → Bool} {n : Nat} (h : allBelow f n = true) {m : Nat} (hm : m < n) : f m = true := by
  rcases hf : f m with _ | _
  · rw [allBelow_false hm hf] at h; cases h
  · rfl
theorem setB_range {n : Int} {ks : List Int} (h : setB n ks = true) : ∀ m, m < ks.length → 0 ≤ ks.getD m 0 ∧ ks.getD m 0 < n := fun m hm => by
  have := allBelow_iff h hm
  simp only [setAt, inR, Bool.and_eq_true, decide_eq_true_eq] at this
  omega
theorem setB_step {n : Int} {ks : List Int} (h : setB n ks = true) (m : Nat) (hm : m + 1 < ks.length) : ks.getD m 0 < ks.getD (m + 1) 0 := by
  have := allBelow_iff h hm
  simp only [setAt, Bool.and_eq_true, Bool.or_eq_true, decide_eq_true_eq, Nat.add_sub_cancel] at this
  rcases this.2 with h | h
  · omega
  · exact h
theorem setB_mono {n : Int} {ks : List Int} (h : setB n ks = true) : ∀ m m', m < m' → m' < ks.length → ks.getD m 0 < ks.getD m' 0 := by
  intro m m' hlt hl
  obtain ⟨d, rfl⟩ : ∃ d, m' = m + 1 + d := ⟨m' - (m + 1), by omega⟩
  clear hlt
  induction d with
  | zero => exact setB_step h m hl
  | succ d ih =>
    have h1 := ih (by omega)
    have h2 := setB_step h (m + 1 + d) (by omega)
    exact Int.lt_trans h1 h2
theorem setB_ge {n : Int} {ks : List Int} (h : setB n ks = true) : ∀ m, m < ks.length → (m : Int) ≤ ks.getD m 0 := by
  intro m
  induction m with
  | zero => intro hm; have := setB_range h 0 hm; omega
  | succ m ih =>
    intro hm
    have := ih (by omega)
    have := setB_step h m hm
    omega
theorem setB_len {n : Nat} {ks : List Int} (h : setB n ks = true) : ks.length ≤ n := by
  rcases Nat.eq_zero_or_pos ks.length with h0 | h0
  · omega
  · have h1 := setB_ge h (ks.length - 1) (by omega)
    have h2 := setB_range h (ks.length - 1) (by omega)
    omega

/-- Does a register take a part of a write? -/
def partB (rs : List Tr) (ks : List Int) (x : Tr) : Bool := regB rs && setB rs.length ks && rOk x && regB (rPutAll x rs ks)
def partR (rs : List Tr) (ks : List Int) (x : Tr) : List Tr := if partB rs ks x then rPutAll x rs ks else []
def PartPost (rs : List Tr) (ks : List Int) (x : Tr) (w : World) (e : Ending) (w' : World) : Prop :=
  ∃ z, e = .returned (.tuple #[z, .bool (partB rs ks x)]) ∧ TrsOwn w' w.heap.size 26 z (partR rs ks x) ∧ Below w.heap.size w w'
theorem partR_no {rs : List Tr} {ks : List Int} {x : Tr} (h : partB rs ks x = false) : partR rs ks x = [] := by unfold partR; rw [h]; rfl
theorem partR_yes {rs : List Tr} {ks : List Int} {x : Tr} (h : partB rs ks x = true) : partR rs ks x = rPutAll x rs ks := by unfold partR; rw [h]; rfl
theorem TrsOwn.made (w : World) (B : Nat) (T : TypeId) (hB : B ≤ w.heap.size) : TrsOwn (w.alloc (.cells #[] T)) B T (.slice (some ⟨w.heap.size, 0, none⟩) 0 0) [] :=
  TrsOwn.mono (show TrsOwn _ w.heap.size T _ _ from made_trN w w.heap.size T rfl) hB
theorem partPost_no {rs : List Tr} {ks : List Int} {x : Tr} {w w1 : World} (h : partB rs ks x = false) (hb : Below w.heap.size w w1) :
    PartPost rs ks x w (.returned (.tuple #[.slice (some ⟨w1.heap.size, 0, none⟩) 0 0, .bool false])) (w1.alloc (.cells #[] 26)) :=
  ⟨_, by rw [h], by rw [partR_no h]; exact TrsOwn.made _ _ _ hb.size, hb.alloc hb.size _⟩

set_option maxHeartbeats 2000000 in
theorem sPart_any (v u : Value) (rs : List Tr) (ks : List Int) (x : Tr) (w : World) (hv : TrsAt w v rs) (hu : IntsAt w u ks) (hr : rs.length ≤ 1048576) :
    Calls Try.prog 12 #[v, u, .agg #[.int .i64 x.a, .int .i64 x.b, .int .i64 x.c]] w (PartPost rs ks x w) := by
  have hb0 := (Below.refl w.heap.size w).alloc (Nat.le_refl _) (.cells #[.int .i64 x.a, .int .i64 x.b, .int .i64 x.c] 26)
  have HB0 := Lib.hid hb0
  have HV := Lib.hid (hv.below hb0 (Nat.le_refl _))
  have HU := Lib.hid (hu.below hb0 (Nat.le_refl _))
  have hbox := Lib.hid (heap_alloc_new w (.cells #[.int .i64 x.a, .int .i64 x.b, .int .i64 x.c] 26))
  obtain ⟨p, cap, rfl, hc1, hc2⟩ := hv.form
  obtain ⟨q, capk, rfl, hq1, hq2, hq3⟩ := hu
  clear hq3 hv hb0
  unfold maxLen at hq2
  have hsz : (w.alloc (.cells #[.int .i64 x.a, .int .i64 x.b, .int .i64 x.c] 26)).heap.size = w.heap.size + 1 := by simp
  have HSZ := Lib.hid hsz
  clear hsz
  rcases h1 : regB rs with _ | _
  · have H1 := Lib.hid h1
    have HN := Lib.hid (show partB rs ks x = false by unfold partB; rw [h1]; rfl)
    clear h1
    go_enter Try.func12, Try.ntmps12
    go_wp2_with fail
    refine (sReg_any _ rs _ HV.out).mono ?_
    rw [H1.out]
    rintro e w1 ⟨rfl, hb1⟩
    have HB1 := Lib.hid (HB0.out.trans (hb1.mono (by have := HSZ.out; omega)))
    go_wp2
    go_ret2
    exact partPost_no HN.out HB1.out
  rcases h2 : setB rs.length ks with _ | _
  · have H1 := Lib.hid h1
    have H2 := Lib.hid h2
    have HN := Lib.hid (show partB rs ks x = false by unfold partB; rw [h1, h2]; rfl)
    clear h1 h2
    go_enter Try.func12, Try.ntmps12
    go_wp2_with fail
    refine (sReg_any _ rs _ HV.out).mono ?_
    rw [H1.out]
    rintro e w1 ⟨rfl, hb1⟩
    go_wp2_with fail
    refine (sSet_any _ ks _ _ (HU.out.below hb1 (Nat.le_refl _)) (by omega) (by omega)).mono ?_
    rw [H2.out]
    rintro e w2 ⟨rfl, hb2⟩
    have HB1 := Lib.hid (HB0.out.trans ((hb1.trans (hb2.mono hb1.size)).mono (by have := HSZ.out; omega)))
    go_wp2
    go_ret2
    exact partPost_no HN.out HB1.out
  rcases h3 : rOk x with _ | _
  · have HN := Lib.hid (show partB rs ks x = false by unfold partB; rw [h1, h2, h3]; rfl)
    have H1 := Lib.hid h1
    have H2 := Lib.hid h2
    have H3 := Lib.hid h3
    clear h1 h2 h3
    go_enter Try.func12, Try.ntmps12
    go_wp2_with fail
    refine (sReg_any _ rs _ HV.out).mono ?_
    rw [H1.out]
    rintro e w1 ⟨rfl, hb1⟩
    go_wp2_with fail
    refine (sSet_any _ ks _ _ (HU.out.below hb1 (Nat.le_refl _)) (by omega) (by omega)).mono ?_
    rw [H2.out]
    rintro e w2 ⟨rfl, hb2⟩
    have hb12 := hb1.trans (hb2.mono hb1.size)
    have HB12 := Lib.hid hb12
    obtain ⟨x0, x1, x2⟩ := cells3 (show w2.heap[w.heap.size]? = some (.cells #[.int .i64 x.a, .int .i64 x.b, .int .i64 x.c] 26) from (hb12.block _ (by have := HSZ.out; omega)).trans hbox.out)
    clear hb1 hb2 hb12
    go_wp2_with fail
    refine (sRep_any x _).mono ?_
    rw [H3.out]
    rintro e w3 ⟨rfl, hb3⟩
    have HB3 := Lib.hid (HB12.out.trans (hb3.mono HB12.out.size))
    have HX3 := Lib.hid (show w3.heap[w.heap.size]? = some (.cells #[.int .i64 x.a, .int .i64 x.b, .int .i64 x.c] 26) from (HB3.out.block _ (by have := HSZ.out; omega)).trans hbox.out)
    have HBB := Lib.hid (HB0.out.trans (HB3.out.mono (by have := HSZ.out; omega)))
    clear x0 x1 x2 hb3
    go_wp2
    go_ret2
    exact partPost_no HN.out HBB.out
  have HL := Lib.hid (show 0 < rs.length ∧ rs.length ≤ 5 from ⟨by have := regB_len h1; omega, by have := regB_len h1; omega⟩)
  have HK := Lib.hid (setB_range h2)
  rcases h4 : regB (rPutAll x rs ks) with _ | _
  · have HN := Lib.hid (show partB rs ks x = false by unfold partB; rw [h1, h2, h3, h4]; rfl)
    have H4 := Lib.hid h4
    have H1 := Lib.hid h1
    have H2 := Lib.hid h2
    have H3 := Lib.hid h3
    clear h1 h2 h3
    go_enter Try.func12, Try.ntmps12
    go_wp2_with fail
    refine (sReg_any _ rs _ HV.out).mono ?_
    rw [H1.out]
    rintro e w1 ⟨rfl, hb1⟩
    go_wp2_with fail
    refine (sSet_any _ ks _ _ (HU.out.below hb1 (Nat.le_refl _)) (by omega) (by omega)).mono ?_
    rw [H2.out]
    rintro e w2 ⟨rfl, hb2⟩
    have hb12 := hb1.trans (hb2.mono hb1.size)
    have HB12 := Lib.hid hb12
    obtain ⟨x0, x1, x2⟩ := cells3 (show w2.heap[w.heap.size]? = some (.cells #[.int .i64 x.a, .int .i64 x.b, .int .i64 x.c] 26) from (hb12.block _ (by have := HSZ.out; omega)).trans hbox.out)
    clear hb1 hb2 hb12
    go_wp2_with fail
    refine (sRep_any x _).mono ?_
    rw [H3.out]
    rintro e w3 ⟨rfl, hb3⟩
    have HB3 := Lib.hid (HB12.out.trans (hb3.mono HB12.out.size))
    have HX3 := Lib.hid (show w3.heap[w.heap.size]? = some (.cells #[.int .i64 x.a, .int .i64 x.b, .int .i64 x.c] 26) from (HB3.out.block _ (by have := HSZ.out; omega)).trans hbox.out)
    have HBB := Lib.hid (HB0.out.trans (HB3.out.mono (by have := HSZ.out; omega)))
    clear x0 x1 x2 hb3
    obtain ⟨x0, x1, x2⟩ := cells3 HX3.out
    go_wp2_with fail
    refine (sPut_any _ _ rs ks x _ (HV.out.below HB3.out (Nat.le_refl _)) (HU.out.below HB3.out (Nat.le_refl _)) HL.out.1 hr HK.out).mono ?_
    rintro e w4 ⟨z, rfl, hO4, hb4⟩
    have HB4 := Lib.hid (HBB.out.trans (hb4.mono HBB.out.size))
    have HO4 := Lib.hid (hO4.mono HBB.out.size)
    clear x0 x1 x2 hb4 hO4
    go_wp2_with fail
    refine (sReg_any _ _ _ HO4.out.at).mono ?_
    rw [H4.out]
    rintro e w5 ⟨rfl, hb5⟩
    have HB5 := Lib.hid (HB4.out.trans (hb5.mono HB4.out.size))
    have HO5 := Lib.hid (HO4.out.below hb5 (Nat.le_refl _))
    clear hb5
    go_wp2
    go_ret2
    exact partPost_no HN.out HB5.out
  · have HN := Lib.hid (show partB rs ks x = true by unfold partB; rw [h1, h2, h3, h4]; rfl)
    have H4 := Lib.hid h4
    have H1 := Lib.hid h1
    have H2 := Lib.hid h2
    have H3 := Lib.hid h3
    clear h1 h2 h3
    go_enter Try.func12, Try.ntmps12
    go_wp2_with fail
    refine (sReg_any _ rs _ HV.out).mono ?_
    rw [H1.out]
    rintro e w1 ⟨rfl, hb1⟩
    go_wp2_with fail
    refine (sSet_any _ ks _ _ (HU.out.below hb1 (Nat.le_refl _)) (by omega) (by omega)).mono ?_
    rw [H2.out]
    rintro e w2 ⟨rfl, hb2⟩
    have hb12 := hb1.trans (hb2.mono hb1.size)
    have HB12 := Lib.hid hb12
    obtain ⟨x0, x1, x2⟩ := cells3 (show w2.heap[w.heap.size]? = some (.cells #[.int .i64 x.a, .int .i64 x.b, .int .i64 x.c] 26) from (hb12.block _ (by have := HSZ.out; omega)).trans hbox.out)
    clear hb1 hb2 hb12
    go_wp2_with fail
    refine (sRep_any x _).mono ?_
    rw [H3.out]
    rintro e w3 ⟨rfl, hb3⟩
    have HB3 := Lib.hid (HB12.out.trans (hb3.mono HB12.out.size))
    have HX3 := Lib.hid (show w3.heap[w.heap.size]? = some (.cells #[.int .i64 x.a, .int .i64 x.b, .int .i64 x.c] 26) from (HB3.out.block _ (by have := HSZ.out; omega)).trans hbox.out)
    have HBB := Lib.hid (HB0.out.trans (HB3.out.mono (by have := HSZ.out; omega)))
    clear x0 x1 x2 hb3
    obtain ⟨x0, x1, x2⟩ := cells3 HX3.out
    go_wp2_with fail
    refine (sPut_any _ _ rs ks x _ (HV.out.below HB3.out (Nat.le_refl _)) (HU.out.below HB3.out (Nat.le_refl _)) HL.out.1 hr HK.out).mono ?_
    rintro e w4 ⟨z, rfl, hO4, hb4⟩
    have HB4 := Lib.hid (HBB.out.trans (hb4.mono HBB.out.size))
    have HO4 := Lib.hid (hO4.mono HBB.out.size)
    clear x0 x1 x2 hb4 hO4
    go_wp2_with fail
    refine (sReg_any _ _ _ HO4.out.at).mono ?_
    rw [H4.out]
    rintro e w5 ⟨rfl, hb5⟩
    have HB5 := Lib.hid (HB4.out.trans (hb5.mono HB4.out.size))
    have HO5 := Lib.hid (HO4.out.below hb5 (Nat.le_refl _))
    clear hb5
    go_wp2
    go_ret2
    exact ⟨z, by rw [HN.out]; rfl, by rw [partR_yes HN.out]; exact HO5.out, HB5.out⟩
end Go.Proofs.Ytkefnmmpipeppaa
