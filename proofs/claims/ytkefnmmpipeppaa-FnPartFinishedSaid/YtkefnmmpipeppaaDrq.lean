/-
  Contract: DrawRegisterPart.
-/
import Derived.Test.YtkefnmmpipeppaaDrp
namespace Go.Proofs.Ytkefnmmpipeppaa
open Go.RowKit

def DPPost (w : World) (e : Ending) (w' : World) : Prop := ∃ (u : Value) (xs : List Tr) (z : Value) (ks : List Int) (x : Tr), e = .returned (.tuple #[u, z, .agg #[.int .i64 x.a, .int .i64 x.b, .int .i64 x.c]]) ∧
  TrsAt w' u xs ∧ IntsAt w' z ks ∧ 1 ≤ xs.length ∧ xs.length ≤ 10 ∧ ks.length ≤ 11 ∧ Below w.heap.size w w'
theorem below_grown {w a b : World} {S : Nat} (h : Below w.heap.size w a) (hg : a.grownBy b (some S)) (hS : w.heap.size ≤ S) : Below w.heap.size w b := h.trans (below_grow hg hS h.size)
theorem heap_set3 {w : World} {b : Nat} {x y z p q r : Value} {T : TypeId} (h : w.heap[b]? = some (.cells #[x, y, z] T)) : (((w.setCell ⟨b, 0, none⟩ p).setCell ⟨b, 1, none⟩ q).setCell ⟨b, 2, none⟩ r).heap[b]? = some (.cells #[p, q, r] T) :=
  heap_setCell_own _ b 2 r _ _ _ (heap_setCell_own _ b 1 q _ _ _ (heap_setCell_own w b 0 p _ _ _ h))
theorem keeps_set3 {w : World} {b C : Nat} {p q r : Value} (h : b < C) : Keeps C w (((w.setCell ⟨b, 0, none⟩ p).setCell ⟨b, 1, none⟩ q).setCell ⟨b, 2, none⟩ r) :=
  (((Keeps.refl C w).setCell (p := ⟨b, 0, none⟩) h p).setCell (p := ⟨b, 1, none⟩) h q).setCell (p := ⟨b, 2, none⟩) h r
theorem keeps_set_hi {w0 w : World} {b o C : Nat} {p : Value} (hk : Keeps C w0 w) (h : w0.heap.size ≤ b) : Keeps C w0 (w.setCell ⟨b, o, none⟩ p) :=
  ⟨by rw [World.size_setCell]; exact hk.1, fun q hq hl => (((Below.refl b w).setCell (p := ⟨b, o, none⟩) (Nat.le_refl b) p).block q (Nat.lt_of_lt_of_le hl h)).trans (hk.2 q hq hl)⟩
theorem grow_drew {w w' : World} {R : Option Nat} (h : w.drew.grownBy w' R) : w.grownBy w' R := ⟨h.os, h.tape, h.output, h.size, h.block⟩
theorem Keeps.grow {w0 w w' : World} {S : Nat} (h : Keeps (S + 1) w0 w) (hg : w.grownBy w' (some S)) : Keeps (S + 1) w0 w' := h.trans (keeps_grow hg)
set_option maxRecDepth 100000 in
set_option maxHeartbeats 8000000 in
theorem drawPart_any (v : Value) (w : World) (h : CodeAt w v) : Calls Try.prog 10 #[v] w (DPPost w) := by
  have hb0 := (Below.refl w.heap.size w).alloc (Nat.le_refl _) (.cells #[.int .i64 0, .int .i64 0, .int .i64 0] 26)
  have hz := heap_alloc_new w (.cells #[.int .i64 0, .int .i64 0, .int .i64 0] 26)
  have hcode : CodeAt (w.alloc (.cells #[.int .i64 0, .int .i64 0, .int .i64 0] 26)) v := by
    obtain ⟨pb, n, cap, h1, h2, h3, h4⟩ := h
    refine ⟨pb, n, cap, h1, h2, h3, h4.imp id fun ⟨b, o, e, hl, hx⟩ => ⟨b, o, e, by simp; omega, fun i hi => ?_⟩⟩
    obtain ⟨x, hx1, hx2⟩ := hx i hi
    exact ⟨x, hx1, (hb0.cell (p := ⟨b, o + i, none⟩) hl).trans hx2⟩
  obtain ⟨B, hB⟩ : ∃ B, w.heap.size = B := ⟨_, rfl⟩
  have hs0 : (w.alloc (.cells #[.int .i64 0, .int .i64 0, .int .i64 0] 26)).heap.size = B + 1 := by rw [← hB]; simp
  go_enter Try.func10, Try.ntmps10
  go_wp2_with fail
  refine (l6Open_any _ _ hcode).mono ?_
  rw [hs0]
  rintro e w1 ⟨rfl, hr1, hb1⟩
  go_wp2_with fail
  refine (l91Replicas_any (B + 1) _ hr1).mono ?_
  rintro e w2 ⟨u, xs, p2, rfl, hu, hl1, hl10, hbd, hp2, hr2, hg2⟩
  have HU := Lib.hid hu
  obtain ⟨pu, cu, rfl, hc1, hc2⟩ := hu.at.form
  go_wp2_with fail
  refine (l91Some_any (B + 1) p2 xs.length _ hr2 (by omega) (by omega)).mono ?_
  rintro e w3 ⟨z, ks, p3, rfl, hk, hkl, hp3, hr3, hg3⟩
  have HK := Lib.hid hk
  go_wp2_with fail
  refine (pick_any (B + 1) p3 5 _ hr3 (by omega) (by omega) (by omega)).mono ?_
  rintro e w4 ⟨c4, hc4, rfl, hr4, hg4⟩
  go_wp2_with fail
  refine (pick_any (B + 1) (p3 + 1) 3 _ hr4 (by omega) (by omega) (by omega)).mono ?_
  rintro e w5 ⟨c5, hc5, rfl, hr5, hg5⟩
  go_wp2_with fail
  refine (pick_any (B + 1) (p3 + 1 + 1) 100 _ hr5 (by omega) (by omega) (by omega)).mono ?_
  rintro e w6 ⟨c6, hc6, rfl, hr6, hg6⟩
  have hg36 := grow_trans (grow_trans hg4 hg5) hg6
  have hb7 := (Below.refl w6.heap.size w6).alloc (Nat.le_refl _) (.cells #[.int .i64 (c4 : Int), .int .i64 (c5 : Int), .int .i64 (c6 : Int)] 26)
  have hx7 := heap_alloc_new w6 (.cells #[.int .i64 (c4 : Int), .int .i64 (c5 : Int), .int .i64 (c6 : Int)] 26)
  have hs7 : (w6.alloc (.cells #[.int .i64 (c4 : Int), .int .i64 (c5 : Int), .int .i64 (c6 : Int)] 26)).heap.size = w6.heap.size + 1 := by simp
  have hg37 := grow_trans hg36 (grow_below (S := B + 1) hb7 (Nat.le_refl _))
  have hr7 := hr6.below hb7 (Nat.le_refl _)
  have hs2 := hg2.size
  have hs3 := hg3.size
  have hs36 := hg36.size
  have hs1 := hb1.size
  have hlt1 := hr1.lt
  have hzB : (w.alloc (.cells #[.int .i64 0, .int .i64 0, .int .i64 0] 26)).heap[B]? = some (.cells #[.int .i64 0, .int .i64 0, .int .i64 0] 26) := hB ▸ hz
  go_wp2_with fail
  refine (pick_any (B + 1) (p3 + 1 + 1 + 1) 6 _ (by exact hr7) (by omega) (by omega) (by omega)).mono ?_
  rintro e w8 ⟨c8, hc8, rfl, hr8, hg8⟩
  obtain ⟨N, hN⟩ : ∃ N, w6.heap.size = N := ⟨_, rfl⟩
  rw [hN] at hx7 hs7 hs36 ⊢
  have hg38 := grow_trans hg37 hg8
  have hg28 := grow_trans hg3 hg38
  have hb18 : Below B w w8 := by
    have h1 := hb0.trans (hb1.mono (by omega))
    rw [hB] at h1
    exact h1.trans (below_grow (grow_trans hg2 hg28) (by omega) (by omega))
  have hNS : N ≠ B + 1 := by omega
  have hx8 : w8.heap[N]? = some (.cells #[.int .i64 (c4 : Int), .int .i64 (c5 : Int), .int .i64 (c6 : Int)] 26) := (hg8.block N (by omega) (fun e => by injection e; omega)).trans hx7
  have hz8 : w8.heap[B]? = some (.cells #[.int .i64 0, .int .i64 0, .int .i64 0] 26) := by
    have h1 := (hb1.block B (by omega)).trans hzB
    have hg18 := grow_trans hg2 hg28
    exact (hg18.block B (by omega) (fun e => by injection e; omega)).trans h1
  have hs8 := hg8.size
  have hN8 : N < w8.heap.size := by omega
  have hNB : B + 1 < N := by omega
  have hB8 : B < w8.heap.size := by omega
  have HU8 := Lib.hid (hu.grow hg28)
  have HK8 := Lib.hid (hk.grow hg38)
  have HB8 := Lib.hid hb18
  have HX8 := Lib.hid hx8
  have HZ8 := Lib.hid hz8
  have HBE := Lib.hid hB
  have HU0 := Lib.hid hu
  have HK0 := Lib.hid hk
  have K28 := Lib.hid (keeps_grow hg28)
  have K38 := Lib.hid (keeps_grow hg38)
  have hN2 : w2.heap.size ≤ N := by omega
  have hN3 : w3.heap.size ≤ N := by omega
  clear hb0 hz hcode hB hs0 hr1 hb1 hr2 hg2 HU hr3 hg3 HK hr4 hg4 hr5 hg5 hr6 hg6 hg36 hb7 hx7 hs7 hg37 hr7 hg8 hN hg38 hg28 hb18 hx8 hz8 hu hk hs2 hs3 hs36 hs1 hs8 hzB hlt1
  rcases Nat.eq_zero_or_pos c8 with rfl | hpos
  · go_wp2_with fail
    refine (pick_any (B + 1) (p3 + 1 + 1 + 1 + 1) (xs.length : Int) _ hr8 (by omega) (by omega) (by omega)).mono ?_
    rintro e w9 ⟨c9, hc9, rfl, hr9, hg9⟩
    obtain ⟨b9, o9, e9, hb9, y0, y1, y2⟩ := (HU8.out.grow hg9).at.tr (k := c9) (by omega)
    subst e9
    obtain ⟨bd1, bd2, bd3, bd4⟩ := hbd c9 (by omega)
    obtain ⟨y, hy⟩ : ∃ y, xs.getD c9 default = y := ⟨_, rfl⟩
    rw [hy] at y0 y1 y2 bd1 bd2 bd3 bd4
    have k0 : (0 : Int) ≤ (c9 : Int) := by omega
    have hx9 : w9.heap[N]? = _ := (hg9.block N (by omega) (fun e => by injection e; omega)).trans HX8.out
    have hz9 : w9.heap[B]? = _ := (hg9.block B (by omega) (fun e => by injection e; omega)).trans HZ8.out
    have hs9 := hg9.size
    obtain ⟨x0, x1, x2⟩ := cells3 hx9
    have f0 : ∀ j, w9.frozen? ⟨N, j, none⟩ = false := fun j => by unfold World.frozen?; rw [hx9]; rfl
    have hr9' : RdAt (((w9.setCell ⟨N, 0, none⟩ (.int .i64 y.a)).setCell ⟨N, 1, none⟩ (.int .i64 y.b)).setCell ⟨N, 2, none⟩ (.int .i64 y.c)) (B + 1) (p3 + 1 + 1 + 1 + 1 + 1) :=
      ((hr9.grown (g := N) (grow_set w9 N 0 _) (by omega)).grown (g := N) (grow_set _ N 1 _) (by omega)).grown (g := N) (grow_set _ N 2 _) (by omega)
    have hx9' := heap_set3 (p := .int .i64 y.a) (q := .int .i64 y.b) (r := .int .i64 y.c) hx9
    have hkp9 := keeps_set_hi (o := 2) (p := .int .i64 y.c) (keeps_set_hi (o := 1) (p := .int .i64 y.b) (keeps_set_hi (o := 0) (p := .int .i64 y.a) (K28.out.grow hg9) hN2) hN2) hN2
    have hkq9 := keeps_set_hi (o := 2) (p := .int .i64 y.c) (keeps_set_hi (o := 1) (p := .int .i64 y.b) (keeps_set_hi (o := 0) (p := .int .i64 y.a) (K38.out.grow hg9) hN3) hN3) hN3
    have hb9' := (((HB8.out.trans (below_grow hg9 (Nat.le_succ B) (by omega))).setCell (p := ⟨N, 0, none⟩) (show B ≤ N by omega) (.int .i64 y.a)).setCell (p := ⟨N, 1, none⟩) (show B ≤ N by omega) (.int .i64 y.b)).setCell (p := ⟨N, 2, none⟩) (show B ≤ N by omega) (.int .i64 y.c)
    have hz9' : (((w9.setCell ⟨N, 0, none⟩ (.int .i64 y.a)).setCell ⟨N, 1, none⟩ (.int .i64 y.b)).setCell ⟨N, 2, none⟩ (.int .i64 y.c)).heap[B]? = some (.cells #[.int .i64 0, .int .i64 0, .int .i64 0] 26) :=
      ((((Below.refl (B + 1) w9).setCell (p := ⟨N, 0, none⟩) (show B + 1 ≤ N by omega) (.int .i64 y.a)).setCell (p := ⟨N, 1, none⟩) (show B + 1 ≤ N by omega) (.int .i64 y.b)).setCell (p := ⟨N, 2, none⟩) (show B + 1 ≤ N by omega) (.int .i64 y.c)).block B (Nat.lt_succ_self B) |>.trans hz9
    have hsz9 : (((w9.setCell ⟨N, 0, none⟩ (.int .i64 y.a)).setCell ⟨N, 1, none⟩ (.int .i64 y.b)).setCell ⟨N, 2, none⟩ (.int .i64 y.c)).heap.size = w9.heap.size := by simp
    have hN9 : N < w9.heap.size := by omega
    have hB9 : B < w9.heap.size := by omega
    have hHX := Lib.hid hx9'
    have hHZ := Lib.hid hz9'
    have hKP := Lib.hid hkp9
    have hKQ := Lib.hid hkq9
    have hHB := Lib.hid hb9'
    have hHR := Lib.hid hr9'
    clear hy hx9 hz9 hg9 hr8 hs9 hx9' hkp9 hkq9 hb9' hz9' hr9 hr9'
    go_wp2_with fail
    obtain ⟨W, hW⟩ : ∃ W, (((w9.setCell ⟨N, 0, none⟩ (.int .i64 y.a)).setCell ⟨N, 1, none⟩ (.int .i64 y.b)).setCell ⟨N, 2, none⟩ (.int .i64 y.c)) = W := ⟨_, rfl⟩
    rw [hW] at hHX hHZ hKP hKQ hHB hHR hsz9 ⊢
    clear hW x0 x1 x2 f0 y0 y1 y2
    obtain ⟨x0, x1, x2⟩ := cells3 hHX.out
    have hNW : N < W.heap.size := by omega
    have hBW : B < W.heap.size := by omega
    go_region_with (first | (go_at_call 35; refine (pick_any (B + 1) (p3 + 1 + 1 + 1 + 1 + 1) 2 _ (by exact hHR.out) (by omega) (by omega) (by omega)).mono ?_; rintro e w10 ⟨c10, hc10, rfl, hr10, hgx⟩; have hg10 := grow_drew hgx; have hxA := (hg10.block N hNW (fun e => by injection e; omega)).trans hHX.out; obtain ⟨v0, v1, v2⟩ := cells3 hxA; have vf : ∀ j, w10.frozen? ⟨N, j, none⟩ = false := (fun j => by unfold World.frozen?; rw [hxA]; rfl)))
    all_goals
      have hs10 := hg10.size
      have HXE := Lib.hid (heap_setCell_own w10 N 2 (.int .i64 (IntKind.i64.wrap (y.c + (c10 : Int)))) _ _ _ hxA)
      have HZE := Lib.hid ((((Below.refl N w10).setCell (p := ⟨N, 2, none⟩) (Nat.le_refl N) (.int .i64 (IntKind.i64.wrap (y.c + (c10 : Int))))).block B (by omega)).trans ((hg10.block B hBW (fun e => by injection e; omega)).trans hHZ.out))
      have HUE : Hid (Lasts (B + 1) (w10.setCell ⟨N, 2, none⟩ (.int .i64 (IntKind.i64.wrap (y.c + (c10 : Int))))) (.slice (some ⟨b9, o9, none⟩) xs.length cu) xs) := Lib.hid fun w' k => HU0.out w' ((keeps_set_hi (hKP.out.grow hg10) hN2).trans k)
      have HKE : Hid (LastI (B + 1) (w10.setCell ⟨N, 2, none⟩ (.int .i64 (IntKind.i64.wrap (y.c + (c10 : Int))))) z ks) := Lib.hid fun w' k => HK0.out w' ((keeps_set_hi (hKQ.out.grow hg10) hN3).trans k)
      have HBEE := Lib.hid ((hHB.out.trans (below_grow hg10 (Nat.le_succ B) (Nat.le_of_lt hBW))).setCell (p := ⟨N, 2, none⟩) (show B ≤ N by omega) (.int .i64 (IntKind.i64.wrap (y.c + (c10 : Int)))))
      have hNV : N < (w10.setCell ⟨N, 2, none⟩ (.int .i64 (IntKind.i64.wrap (y.c + (c10 : Int))))).heap.size := by rw [World.size_setCell]; omega
      have hBV : B < (w10.setCell ⟨N, 2, none⟩ (.int .i64 (IntKind.i64.wrap (y.c + (c10 : Int))))).heap.size := by rw [World.size_setCell]; omega
      go_wp2_with fail
      obtain ⟨V1, hV1⟩ : ∃ V1, w10.setCell ⟨N, 2, none⟩ (.int .i64 (IntKind.i64.wrap (y.c + (c10 : Int)))) = V1 := ⟨_, rfl⟩
      obtain ⟨Y, hY⟩ : ∃ Y, IntKind.i64.wrap (y.c + (c10 : Int)) = Y := ⟨_, rfl⟩
      rw [hV1] at HXE HZE HUE HKE HBEE hNV hBV ⊢
      rw [hY] at HXE ⊢
      clear hxA v0 v1 v2 vf x0 x1 x2 hr10 hgx hg10 hV1 hY
      obtain ⟨x0, x1, x2⟩ := cells3 HXE.out
      obtain ⟨z0, z1, z2⟩ := cells3 HZE.out
      have f0 : ∀ j, World.frozen? V1 ⟨B, j, none⟩ = false := fun j => by unfold World.frozen?; rw [HZE.out]; rfl
      go_wp2_with fail
      go_region
      go_wp2
      obtain ⟨V, hV⟩ : ∃ V, (((V1.setCell ⟨B, 0, none⟩ (.int .i64 y.a)).setCell ⟨B, 1, none⟩ (.int .i64 y.b)).setCell ⟨B, 2, none⟩ (.int .i64 Y)).drew = V := ⟨_, rfl⟩
      obtain ⟨q0, q1, q2⟩ := cells3 (show V.heap[B]? = some (.cells #[.int .i64 y.a, .int .i64 y.b, .int .i64 Y] 26) from by rw [← hV]; exact heap_set3 HZE.out)
      have hkp : Keeps (B + 1 + 1) V1 V := by rw [← hV]; exact keeps_set3 (by omega)
      have hbW : Below B w V := by rw [← hV]; exact (((HBEE.out.setCell (p := ⟨B, 0, none⟩) (Nat.le_refl B) _).setCell (p := ⟨B, 1, none⟩) (Nat.le_refl B) _).setCell (p := ⟨B, 2, none⟩) (Nat.le_refl B) _).drew
      rw [hV]
      refine bodyPost_ret (v := .tuple #[.slice (some ⟨b9, o9, none⟩) xs.length cu, z, .agg #[.int .i64 y.a, .int .i64 y.b, .int .i64 Y]]) ?_ rfl ⟨_, xs, z, ks, ⟨y.a, y.b, Y⟩, rfl, HUE.out _ hkp, HKE.out _ hkp, hl1, hl10, by omega, by rw [HBE.out]; exact hbW⟩
      simp [results, Try.results10, go_sem, q0, q1, q2]
  · have hne : ((c8 : Int) == 0) = false := beq_eq_false_iff_ne.2 (by omega)
    have HXE := HX8
    have HZE := HZ8
    have HUE := HU8
    have HKE := HK8
    have HBEE := HB8
    obtain ⟨x0, x1, x2⟩ := cells3 HXE.out
    obtain ⟨z0, z1, z2⟩ := cells3 HZE.out
    have f0 : ∀ j, World.frozen? w8 ⟨B, j, none⟩ = false := fun j => by unfold World.frozen?; rw [HZE.out]; rfl
    go_wp2_with fail
    go_region
    go_wp2
    obtain ⟨V, hV⟩ : ∃ V, (((w8.setCell ⟨B, 0, none⟩ (.int .i64 (c4 : Int))).setCell ⟨B, 1, none⟩ (.int .i64 (c5 : Int))).setCell ⟨B, 2, none⟩ (.int .i64 (c6 : Int))).drew = V := ⟨_, rfl⟩
    obtain ⟨q0, q1, q2⟩ := cells3 (show V.heap[B]? = some (.cells #[.int .i64 (c4 : Int), .int .i64 (c5 : Int), .int .i64 (c6 : Int)] 26) from by rw [← hV]; exact heap_set3 HZE.out)
    have hkp : Keeps (B + 1 + 1) w8 V := by rw [← hV]; exact keeps_set3 (by omega)
    have hbW : Below B w V := by rw [← hV]; exact (((HBEE.out.setCell (p := ⟨B, 0, none⟩) (Nat.le_refl B) _).setCell (p := ⟨B, 1, none⟩) (Nat.le_refl B) _).setCell (p := ⟨B, 2, none⟩) (Nat.le_refl B) _).drew
    rw [hV]
    refine bodyPost_ret (v := .tuple #[.slice pu xs.length cu, z, .agg #[.int .i64 (c4 : Int), .int .i64 (c5 : Int), .int .i64 (c6 : Int)]]) ?_ rfl ⟨_, xs, z, ks, ⟨(c4 : Int), (c5 : Int), (c6 : Int)⟩, rfl, HUE.out _ hkp, HKE.out _ hkp, hl1, hl10, by omega, by rw [HBE.out]; exact hbW⟩
    simp [results, Try.results10, go_sem, q0, q1, q2]
end Go.Proofs.Ytkefnmmpipeppaa
