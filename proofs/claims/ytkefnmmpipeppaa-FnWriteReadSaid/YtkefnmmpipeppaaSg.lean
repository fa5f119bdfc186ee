/-
  Contract: spec.RegisterWrite.
-/
import Derived.Test.YtkefnmmpipeppaaPd
namespace Go.Proofs.Ytkefnmmpipeppaa
open Go.RowKit

/-- What a write writes. -/
def wrX (rs : List Tr) (ks : List Int) (wr vl : Int) : Tr := ⟨(rLat rs ks).a + 1, wr, vl⟩
def wrB (rs : List Tr) (ks ts : List Int) (wr vl : Int) : Bool := askB rs ks && majB rs.length ts && partB rs ts (wrX rs ks wr vl)
def wrR (rs : List Tr) (ks ts : List Int) (wr vl : Int) : List Tr := if wrB rs ks ts wr vl then rPutAll (wrX rs ks wr vl) rs ts else []
theorem wrR_no {rs : List Tr} {ks ts : List Int} {wr vl : Int} (h : wrB rs ks ts wr vl = false) : wrR rs ks ts wr vl = [] := by unfold wrR; rw [h]; rfl
theorem wrR_yes {rs : List Tr} {ks ts : List Int} {wr vl : Int} (h : wrB rs ks ts wr vl = true) : wrR rs ks ts wr vl = rPutAll (wrX rs ks wr vl) rs ts := by unfold wrR; rw [h]; rfl
theorem rOk_x {rs : List Tr} {ks : List Int} (h : askB rs ks = true) (wr vl : Int) : rOk (wrX rs ks wr vl) = (decide ((wrX rs ks wr vl).a ≤ 99) && okP wr && inR vl 0 99) := by
  have := rOk_a (rLat_ok h)
  unfold rOk wrX inR
  rw [Bool.eq_iff_iff]
  simp only [Bool.or_eq_true, Bool.and_eq_true, decide_eq_true_eq, Tr.mk.injEq]
  constructor
  · rintro (h | h)
    · have := h.1
      omega
    · exact ⟨⟨by omega, h.1.2⟩, h.2⟩
  · intro h
    right
    exact ⟨⟨⟨by omega, h.1.1⟩, h.1.2⟩, h.2⟩
theorem field_a (a b c : Int) (w : World) : (Instr.field 26 (.agg #[.int .i64 a, .int .i64 b, .int .i64 c]) 0).run Try.prog w = .ok (.int .i64 a) w := by kernel_rfl
def WrPost (rs : List Tr) (ks ts : List Int) (wr vl : Int) (w : World) (e : Ending) (w' : World) : Prop :=
  ∃ z, e = .returned (.tuple #[z, .bool (wrB rs ks ts wr vl)]) ∧ TrsOwn w' w.heap.size 26 z (wrR rs ks ts wr vl) ∧ Below w.heap.size w w'
theorem wrPost_no {rs : List Tr} {ks ts : List Int} {wr vl : Int} {w w1 : World} (h : wrB rs ks ts wr vl = false) (hb : Below w.heap.size w w1) :
    WrPost rs ks ts wr vl w (.returned (.tuple #[.slice (some ⟨w1.heap.size, 0, none⟩) 0 0, .bool false])) (w1.alloc (.cells #[] 26)) :=
  ⟨_, by rw [h], by rw [wrR_no h]; exact TrsOwn.made _ _ _ hb.size, hb.alloc hb.size _⟩
set_option maxRecDepth 100000 in
set_option maxHeartbeats 2000000 in
theorem sWrite_any (v u t : Value) (rs : List Tr) (ks ts : List Int) (wr vl : Int) (w : World) (hv : TrsAt w v rs) (hu : IntsAt w u ks) (ht : IntsAt w t ts) (hr : rs.length ≤ 1048576) (hl : ks.length ≤ 1048576) (hl2 : ts.length ≤ 1048576) :
    Calls Try.prog 29 #[v, u, t, .int .i64 wr, .int .i64 vl] w (WrPost rs ks ts wr vl w) := by
  have HV := Lib.hid hv
  have HU := Lib.hid hu
  have HT := Lib.hid ht
  obtain ⟨p, cap, rfl, hc1, hc2⟩ := hv.form
  clear hv hu ht
  go_enter Try.func29, Try.ntmps29
  go_wp2_with fail
  refine (sReg_any _ rs _ HV.out).mono ?_
  rintro e w1 ⟨rfl, hb1⟩
  have HB1 := Lib.hid hb1
  rcases h1 : regB rs with _ | _
  · have HN := Lib.hid (show wrB rs ks ts wr vl = false by unfold wrB askB; rw [h1]; rfl)
    go_wp2
    go_ret2
    exact wrPost_no HN.out HB1.out
  have H1 := Lib.hid h1
  clear h1
  go_wp2_with fail
  refine (sMaj_any _ ks _ _ (HU.out.below HB1.out (Nat.le_refl _)) (by omega) (by omega) hl).mono ?_
  rintro e w2 ⟨rfl, hb2⟩
  have HB2 := Lib.hid (HB1.out.trans (hb2.mono HB1.out.size))
  clear hb1 hb2
  rcases h2 : majB rs.length ks with _ | _
  · have HN := Lib.hid (show wrB rs ks ts wr vl = false by unfold wrB askB; rw [H1.out, h2]; rfl)
    go_wp2
    go_ret2
    exact wrPost_no HN.out HB2.out
  have HA := Lib.hid (show askB rs ks = true by unfold askB; rw [H1.out, h2]; rfl)
  have H2 := Lib.hid h2
  clear h2
  go_wp2_with fail
  refine (sMaj_any _ ts _ _ (HT.out.below HB2.out (Nat.le_refl _)) (by omega) (by omega) hl2).mono ?_
  rintro e w3 ⟨rfl, hb3⟩
  have HB3 := Lib.hid (HB2.out.trans (hb3.mono HB2.out.size))
  clear hb3
  rcases h3 : majB rs.length ts with _ | _
  · have HN := Lib.hid (show wrB rs ks ts wr vl = false by unfold wrB; rw [HA.out, h3]; rfl)
    go_wp2
    go_ret2
    exact wrPost_no HN.out HB3.out
  have H3 := Lib.hid h3
  clear h3
  have HRX := Lib.hid (rOk_x HA.out wr vl)
  rcases h4 : okP wr with _ | _
  · have HN := Lib.hid (show wrB rs ks ts wr vl = false by unfold wrB partB; rw [HRX.out, h4]; simp)
    have H4 := Lib.hid h4
    clear h4
    go_wp2_with (go_at_call 50; refine (l1Point_any wr _).mono ?_; rw [H4.out]; rintro e w' ⟨rfl, rfl⟩)
    go_ret2
    exact wrPost_no HN.out HB3.out
  have H4 := Lib.hid h4
  clear h4
  rcases h5 : inR vl 0 99 with _ | _
  · have HN := Lib.hid (show wrB rs ks ts wr vl = false by unfold wrB partB; rw [HRX.out, h5]; simp)
    have H5 := Lib.hid h5
    clear h5
    go_wp2_with (first | (go_at_call 50; refine (l1Point_any wr _).mono ?_; rw [H4.out]; rintro e w' ⟨rfl, rfl⟩) | (go_at_call 51; refine (l6In_is vl 0 99 _ H5.out _).mono ?_; rintro e w' ⟨rfl, rfl⟩))
    go_ret2
    exact wrPost_no HN.out HB3.out
  have H5 := Lib.hid h5
  clear h5
  obtain ⟨ha1, ha2⟩ := rOk_a (rLat_ok HA.out)
  have hw : IntKind.i64.wrap ((rLat rs ks).a + 1) = (rLat rs ks).a + 1 := IntWalk.i64_in _ (by omega)
  go_wp2_with (first | (go_at_call 50; refine (l1Point_any wr _).mono ?_; rw [H4.out]; rintro e w' ⟨rfl, rfl⟩) | (go_at_call 51; refine (l6In_is vl 0 99 _ H5.out _).mono ?_; rintro e w' ⟨rfl, rfl⟩))
  refine (sLat_any _ _ rs ks _ (HV.out.below HB3.out (Nat.le_refl _)) (HU.out.below HB3.out (Nat.le_refl _)) (majB_pos H2.out) (setB_range (majB_set H2.out))).mono ?_
  rintro e w4 ⟨rfl, hb4⟩
  have hfd := field_a (rLat rs ks).a (rLat rs ks).b (rLat rs ks).c
  have HB4 := Lib.hid (HB3.out.trans (hb4.mono HB3.out.size))
  clear hb4
  have hb5 := (Below.refl w4.heap.size w4).alloc (Nat.le_refl _) (.cells #[.int .i64 ((rLat rs ks).a + 1), .int .i64 wr, .int .i64 vl] 26)
  have hbox := heap_alloc_new w4 (.cells #[.int .i64 ((rLat rs ks).a + 1), .int .i64 wr, .int .i64 vl] 26)
  have hs5 : (w4.alloc (.cells #[.int .i64 ((rLat rs ks).a + 1), .int .i64 wr, .int .i64 vl] 26)).heap.size = w4.heap.size + 1 := by simp
  have HB5 := Lib.hid (HB4.out.trans (hb5.mono HB4.out.size))
  have HBX := Lib.hid hbox
  have HL := Lib.hid (regB_len H1.out)
  clear hb5
  obtain ⟨x0, x1, x2⟩ := cells3 hbox
  clear hbox
  go_wp2_with fail
  refine (sPut_any _ _ rs ts ⟨(rLat rs ks).a + 1, wr, vl⟩ _ (HV.out.below HB5.out (Nat.le_refl _)) (HT.out.below HB5.out (Nat.le_refl _)) (by have := HL.out; omega) hr (setB_range (majB_set H3.out))).mono ?_
  rintro e w6 ⟨z, rfl, hO6, hb6⟩
  have HB6 := Lib.hid (HB5.out.trans (hb6.mono HB5.out.size))
  have HO6 := Lib.hid (show TrsOwn w6 w.heap.size 26 z (rPutAll (wrX rs ks wr vl) rs ts) from hO6.mono HB5.out.size)
  obtain ⟨y0, y1, y2⟩ := cells3 ((hb6.block w4.heap.size (by omega)).trans HBX.out)
  clear hO6 hb6 x0 x1 x2
  by_cases hgt : (99 : Int) < (rLat rs ks).a + 1
  · have HN := Lib.hid (show wrB rs ks ts wr vl = false by
      unfold wrB partB
      rw [HRX.out, show decide ((wrX rs ks wr vl).a ≤ 99) = false from decide_eq_false (by show ¬ (rLat rs ks).a + 1 ≤ 99; omega)]
      simp)
    go_wp2
    go_ret2
    exact wrPost_no HN.out HB6.out
  · have HLE := Lib.hid (show decide ((wrX rs ks wr vl).a ≤ 99) = true from decide_eq_true (by show (rLat rs ks).a + 1 ≤ 99; omega))
    go_wp2_with fail
    refine (sReg_any _ _ _ HO6.out.at).mono ?_
    rintro e w7 ⟨rfl, hb7⟩
    have HB7 := Lib.hid (HB6.out.trans (hb7.mono HB6.out.size))
    have HO7 := Lib.hid (HO6.out.below hb7 (Nat.le_refl _))
    clear hb7
    rcases h7 : regB (rPutAll (wrX rs ks wr vl) rs ts) with _ | _
    · have HN := Lib.hid (show wrB rs ks ts wr vl = false by unfold wrB partB; rw [h7]; simp)
      clear h7
      go_wp2
      go_ret2
      exact wrPost_no HN.out HB7.out
    · have HN := Lib.hid (show wrB rs ks ts wr vl = true by unfold wrB partB; rw [HRX.out, h7, HLE.out, H4.out, H5.out, HA.out, H3.out, H1.out, majB_set H3.out]; rfl)
      clear h7
      go_wp2
      go_ret2
      exact ⟨z, by rw [HN.out]; rfl, by rw [wrR_yes HN.out]; exact HO7.out, HB7.out⟩
end Go.Proofs.Ytkefnmmpipeppaa
