/-
  Contracts: LookupPath of the reference.
-/
import Derived.Test.YtagpkemlndkcjaaLkS
namespace Go.Proofs.Ytagpkemlndkcjaa
open Go.RowKit

theorem IntsOwn.cellI {w : World} {B g cap : Nat} {n : Nat} {xs : List Int} (h : IntsOwn w B (.slice (some ⟨g, 0, none⟩) n cap) xs) {k : Nat} {y : Int} (hk : k < xs.length) (hy : xs.getD k 0 = y) : w.cell? ⟨g, k, none⟩ = some (.int .i64 y) := by
  obtain ⟨g', c', e, -, -, -, -, hc⟩ := h.form
  cases e
  rw [← hy]; exact hc k hk

set_option maxRecDepth 100000 in
set_option maxHeartbeats 2000000 in
theorem l11Next_any (v : Value) (L : List Int) (u key y : Int) (w : World) (hv : IntsAt w v L) (hl : 1 ≤ L.length) (hu : 0 ≤ u ∧ u < 64) (hy : stepL L u key = y) :
    Calls Try.prog 18 #[v, .int .i64 u, .int .i64 key] w fun e w' => e = .returned (.int .i64 y) ∧ Below w.heap.size w w' := by
  have HV := Lib.hid hv
  have HY := Lib.hid hy
  clear hv hy
  go_enter Try.func18, Try.ntmps18
  go_wp2_with fail
  refine (l11Fingers_any v L u _ HV.out hl hu).mono ?_
  rintro e w1 ⟨x, rfl, hF, hb1⟩
  have hlen := fingsL_length L u 6
  obtain ⟨g, cap, rfl, gc1, gc2, gS, gl, -⟩ := hF.form
  rw [hlen] at hF gc1 ⊢
  unfold maxLen at gc2
  have HF := Lib.hid hF
  obtain ⟨f0, hf0⟩ : ∃ f, fing L u 0 = f := ⟨_, rfl⟩
  have c0 := HF.out.cellI (k := 0) (by omega) ((fingsL_get (by omega)).trans hf0)
  have HF0 := Lib.hid hf0
  clear hF hf0
  cases hh : holdsP u f0 key
  · have HH := Lib.hid hh
    have HD := Lib.hid (show downF L u key 5 = y by rw [← HY.out]; unfold stepL; rw [HF0.out, hh, if_neg Bool.false_ne_true])
    clear hh
    go_wp2_with (go_at_call 34; refine (sHolds_any u f0 key _ HH.out _).mono ?_; rintro e w' ⟨rfl, rfl⟩)
    go_loop [8] (fun s => ∃ k : Nat, k ≤ 5 ∧ s = .int .i64 k ∧ Hid (downF L u key k = y)) (fun s => (intOf s).toNat)
    case atStart => exact ⟨5, by omega, rfl, HD⟩
    case round =>
      obtain ⟨k, hk, rfl, HK⟩ := hrel
      rcases Nat.eq_zero_or_pos k with rfl | hpos
      · have hy0 := Lib.hid (show f0 = y by rw [← HF0.out, ← HK.out]; rfl)
        go_wp2
        go_ret
        exact ⟨ret_int hy0.out, hb1⟩
      · obtain ⟨j, rfl⟩ : ∃ j, k = j + 1 := ⟨k - 1, by omega⟩
        obtain ⟨f, hf⟩ : ∃ f, fing L u (j + 1) = f := ⟨_, rfl⟩
        have ck := HF.out.cellI (k := j + 1) (by omega) ((fingsL_get (by omega)).trans hf)
        have hk0 : (0 : Int) < ((j + 1 : Nat) : Int) := by omega
        have hk1 : (0 : Int) ≤ ((j + 1 : Nat) : Int) := by omega
        have hk2 : ((j + 1 : Nat) : Int) < 6 := by omega
        have HE := Lib.hid (show (if btw u f key then f else downF L u key j) = y by rw [← hf]; exact HK.out)
        clear hf
        cases hb : btw u f key
        · have HB := Lib.hid hb
          have HN := Lib.hid (show downF L u key j = y by have := HE.out; rw [hb, if_neg Bool.false_ne_true] at this; exact this)
          clear hb
          go_wp2_with (go_at_call 35; refine (sBetween_any _ _ _ _).mono ?_; rw [HB.out]; rintro e w' ⟨rfl, rfl⟩)
          go_round
          case rel => exact ⟨j, by omega, by go_num, HN⟩
          case measure => simp [intOf]
        · have HB := Lib.hid hb
          have HN := Lib.hid (show f = y by have := HE.out; rw [hb, if_pos rfl] at this; exact this)
          clear hb
          go_wp2_with (go_at_call 35; refine (sBetween_any _ _ _ _).mono ?_; rw [HB.out]; rintro e w' ⟨rfl, rfl⟩)
          go_ret
          exact ⟨ret_int HN.out, hb1⟩
  · have HH := Lib.hid hh
    have HD := Lib.hid (show f0 = y by rw [← HY.out]; unfold stepL; rw [HF0.out, hh, if_pos rfl])
    clear hh
    go_wp2_with (go_at_call 34; refine (sHolds_any u f0 key _ HH.out _).mono ?_; rintro e w' ⟨rfl, rfl⟩)
    go_ret
    exact ⟨ret_int HD.out, hb1⟩

/-- What a path is, for all arguments. -/
def PathAns (L : List Int) (id key : Int) (xs : List Int) : Prop := (((ndB L && decide (id ∈ L)) && okP key) = true → WholeL L key id xs) ∧ (((ndB L && decide (id ∈ L)) && okP key) = false → xs = [])

set_option maxRecDepth 100000 in
set_option maxHeartbeats 2000000 in
theorem sLookupPath_any (v : Value) (L : List Int) (id key : Int) (w : World) (hv : IntsAt w v L) :
    Calls Try.prog 6 #[v, .int .i64 id, .int .i64 key] w fun e w' => ∃ x xs, e = .returned x ∧ PathAns L id key xs ∧ xs.length ≤ 65 ∧ IntsOwn w' w.heap.size x xs ∧ Below w.heap.size w w' := by
  obtain ⟨i0, hi, hz0, hz1, hz2⟩ := info_parts Try.infoInt
  have HV := Lib.hid hv
  clear hv
  have hbx := (Below.refl w.heap.size w).alloc (Nat.le_refl _) (.cells #[] 3)
  have HO0 := Lib.hid (ints_made w)
  have hsx := hbx.size
  cases h1 : (ndB L && decide (id ∈ L))
  · have H1 := Lib.hid h1
    clear h1
    go_enter Try.func6, Try.ntmps6
    go_wp2_with (go_at_call 15; refine (l11Ok_any _ L id _ (by exact HV.out.below hbx (Nat.le_refl _))).mono ?_; rw [H1.out]; rintro e w1 ⟨rfl, hb1⟩)
    go_ret
    exact ⟨_, [], rfl, ⟨fun h => by rw [H1.out] at h; simp at h, fun _ => rfl⟩, by simp, HO0.out.below hb1 (Nat.le_refl _), hbx.trans (hb1.mono hsx)⟩
  cases h2 : okP key
  · have H1 := Lib.hid h1
    have H2 := Lib.hid h2
    clear h1 h2
    go_enter Try.func6, Try.ntmps6
    go_wp2_with (first | (go_at_call 15; refine (l11Ok_any _ L id _ (by exact HV.out.below hbx (Nat.le_refl _))).mono ?_; rw [H1.out]; rintro e w1 ⟨rfl, hb1⟩) | (go_at_call 16; refine (l1Point_any _ _).mono ?_; rw [H2.out]; rintro e w' ⟨rfl, rfl⟩))
    go_ret
    exact ⟨_, [], rfl, ⟨fun h => by rw [H2.out] at h; simp at h, fun _ => rfl⟩, by simp, HO0.out.below hb1 (Nat.le_refl _), hbx.trans (hb1.mono hsx)⟩
  have H1 := Lib.hid h1
  have H2 := Lib.hid h2
  have h1' : ndB L = true ∧ id ∈ L := by simpa using h1
  obtain ⟨hl, hn⟩ := ndB_iff.1 h1'.1
  have HN := Lib.hid hn
  have HID := Lib.hid h1'.2
  obtain ⟨o, ho⟩ : ∃ o, nextV L key = o := ⟨_, rfl⟩
  have HOW := Lib.hid ho
  clear h1 h2 h1' hn ho
  go_enter Try.func6, Try.ntmps6
  go_wp2_with (first | (at_builtin; refine wpList_append_src rfl (.tmp 20) (.tmp 22) 23 rfl w.heap.size 3 i0 (.int .i64 0) 1 8 Try.underlying23 hi hz0 hz1 hz2 rfl (by decide) _ 0 _ rfl (((HO0.out.below hb1 (Nat.le_refl _)).1).alloc _) _ _ _ rfl (src_one w1 _ _) (by unfold maxLen; omega) (by omega) (by have := hb1.size; simp at this ⊢; omega) ?_; intro v7 w7 hown7 hgrow7 hnil7) | (go_at_call 15; refine (l11Ok_any _ L id _ (by exact HV.out.below hbx (Nat.le_refl _))).mono ?_; rw [H1.out]; rintro e w1 ⟨rfl, hb1⟩) | (go_at_call 16; refine (l1Point_any _ _).mono ?_; rw [H2.out]; rintro e w' ⟨rfl, rfl⟩) | fail)
  have hz1' := hb1.size
  simp at hz1'
  have hO7 := IntsOwn.snoc (xs := []) hown7 hnil7
  have hb7 : Below w.heap.size w w7 := ((hbx.trans (hb1.mono hsx)).alloc (by omega) _).grown hgrow7 (by simp; omega) (fun q hq => by cases hq; exact Nat.le_refl _)
  clear hown7 hgrow7 hnil7
  refine (l1Next_any v L key o _ (HV.out.below hb7 (Nat.le_refl _)) hl HOW.out).mono ?_
  rintro e w' ⟨rfl, rfl⟩
  have hmu0 := muL_le HN.out HID.out H2.out
  go_wp2_with fail
  go_loopg [1, 7] (muL L id key) (fun m s1 s7 wr => ∃ (xs : List Int) (u : Int), s1 = .int .i64 u ∧ m = muL L u key ∧ Hid (PathL L key id xs) ∧ Hid (xs.getD (xs.length - 1) 0 = u) ∧ xs.length + muL L u key ≤ 65 ∧ Hid (IntsOwn wr w.heap.size s7 xs) ∧ Below w.heap.size w wr)
  case atStart => exact ⟨[id], id, rfl, rfl, Lib.hid (PathL.one HID.out), Lib.hid rfl, by simp; omega, Lib.hid hO7, hb7⟩
  case round =>
    obtain ⟨xs, u, rfl, rfl, HP, HU, hlen, HO, hbel⟩ := hrel
    have hum : u ∈ L := by rw [← HU.out]; exact HP.out.mem _ (by have := HP.out.pos; omega)
    have huu := nodes_mem HN.out hum
    by_cases he : u = o
    · have hq : (u != o) = false := by simp [he]
      have HE := Lib.hid he
      clear he
      go_wp2
      go_ret
      exact ⟨_, xs, rfl, ⟨fun _ => ⟨HP.out, by rw [HU.out, HE.out, HOW.out]⟩, fun h => by rw [H1.out, H2.out] at h; simp at h⟩, by omega, HO.out, hbel⟩
    · have hq : (u != o) = true := by simp [he]
      have hne : u ≠ nextV L key := by rw [HOW.out]; exact he
      have hst := muL_step HN.out hum H2.out hne
      have hsn := HP.out.snoc HN.out H2.out HU.out hne
      obtain ⟨y, hy⟩ : ∃ y, stepL L u key = y := ⟨_, rfl⟩
      rw [hy] at hst hsn
      have HY := Lib.hid hy
      have HSN := Lib.hid hsn
      have HNE := Lib.hid he
      obtain ⟨g, cap, rfl, gc1, gc2, gS, gl, -⟩ := HO.out.form
      unfold maxLen at gc2
      have hsz := hbel.size
      clear he hne hsn hy
      go_wp2_with (first | (at_builtin; refine wpList_append_src rfl (.tmp 34) (.tmp 36) 23 rfl w.heap.size 3 i0 (.int .i64 0) 1 8 Try.underlying23 hi hz0 hz1 hz2 rfl (by decide) _ xs.length _ rfl (((HO.out.below hb8 (Nat.le_refl _)).1).alloc _) _ _ _ rfl (src_one w8 _ _) (by unfold maxLen; omega) (by omega) (by have := hb8.size; simp at this ⊢; omega) ?_; intro v9 w9 hown9 hgrow9 hnil9) | (go_at_call 18; refine (l11Next_any v L u key y _ (by exact HV.out.below hbel (Nat.le_refl _)) hl huu HY.out).mono ?_; rintro e w8 ⟨rfl, hb8⟩))
      go_roundg (muL L y key)
      case rel =>
        have hz8 := hb8.size
        exact ⟨xs ++ [y], y, rfl, rfl, HSN, Lib.hid (by rw [List.length_append, List.length_singleton, Nat.add_sub_cancel, List.getD_eq_getElem?_getD, List.getElem?_append_right (Nat.le_refl _)]; simp), by rw [List.length_append, List.length_singleton]; omega, Lib.hid (IntsOwn.snoc hown9 hnil9), ((hbel.trans (hb8.mono hsz)).alloc (by omega) _).grown hgrow9 (by simp; omega) (fun q hq => by cases hq; exact gS)⟩
      case measure => exact hst

end Go.Proofs.Ytagpkemlndkcjaa
