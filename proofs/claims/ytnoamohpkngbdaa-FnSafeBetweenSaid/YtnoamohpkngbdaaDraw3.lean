/-
  Contracts: l3Ideal and RingNew of the reference.
-/
import Derived.Test.YtnoamohpkngbdaaDraw2
namespace Go.Proofs.Ytnoamohpkngbdaa
open Go.RowKit

theorem ideal_take {L : List Int} {k : Nat} (h : k < L.length) : (idealR L).take (k + 1) = (idealR L).take k ++ [idealN L k] := by
  have hl : k < (idealR L).length := by rw [idealR_len]; exact h
  rw [List.take_succ_eq_append_getElem hl]
  have := idealR_at h
  simp only [List.getD_eq_getElem?_getD, List.getElem?_eq_getElem hl, Option.getD_some] at this
  rw [this]

theorem newsNode (W : World) (c0 c1 c2 : Value) (t : TypeId) (N : Nat) (hN : N = W.heap.size) (h0 : c0.oneCell' = true) (h1 : c1.oneCell' = true) (h2 : c2.oneCell' = true) :
    ([c0, c1, c2] : List Value).length = 1 * 3 ∧ (∀ j u, ([c0, c1, c2] : List Value)[j]? = some u → (W.alloc (.cells #[c0, c1, c2] t)).cell? ((⟨N, 0, none⟩ : Addr).add j) = some u) ∧ ∀ u ∈ ([c0, c1, c2] : List Value), u.oneCell' = true := by
  obtain ⟨a, b, c⟩ := srcIs_new W c0 c1 c2 t N hN h0 h1 h2
  rcases c with ⟨h, -⟩ | ⟨ad, c, h, h'⟩
  · cases h
  · cases h; exact ⟨a, h', b⟩

set_option maxHeartbeats 4000000 in
theorem l3Ideal_any (v : Value) (L : List Int) (w : World) (hv : IntsAt w v L) (hbig : L.length ≤ 1000) :
    Calls Try.prog 44 #[v] w fun e w' => ∃ u, e = .returned u ∧ RingOwn w' w.heap.size u (idealR L) ∧ Below w.heap.size w w' := by
  obtain ⟨p, cap, rfl, hc, hm, h4⟩ := hv
  unfold maxLen at hm
  obtain ⟨n0, ni, nz0, nz1, nz2⟩ := info_parts Try.infoNode
  go_enter Try.func44, Try.ntmps44
  go_wp2
  go_loopg [3, 5] (L.length) (fun m s3 s5 wr => ∃ k : Nat, k ≤ L.length ∧ m = L.length - k ∧ s5 = .int .i64 k ∧ Hid (RingOwn wr w.heap.size s3 ((idealR L).take k)) ∧ Below w.heap.size w wr)
  case atStart =>
    refine ⟨0, Nat.zero_le _, rfl, rfl, Lib.hid ?_, (Below.refl _ _).alloc (Nat.le_refl _) _⟩
    rw [List.take_zero]
    exact RingOwn.made w _ rfl
  case round =>
    obtain ⟨k, hk, rfl, rfl, HO, hbel⟩ := hrel
    have hz := hbel.size
    by_cases hlt : k < L.length
    · rcases h4 with ⟨rfl, -⟩ | ⟨b, o, rfl, hb, hcell⟩
      · simp at hlt
      obtain ⟨n, hn⟩ : ∃ n, L.length = n := ⟨_, rfl⟩
      have hp : 0 < n := by omega
      have hbw : b < wr.heap.size := Nat.lt_of_lt_of_le hb hz
      have e1 : ((k : Int) + (n : Int) - 1).tmod (n : Int) = (((k + n - 1) % n : Nat) : Int) := by
        have : (k : Int) + (n : Int) - 1 = ((k + n - 1 : Nat) : Int) := by omega
        rw [this]; rfl
      have e2 : ((k : Int) + 1).tmod (n : Int) = (((k + 1) % n : Nat) : Int) := rfl
      have e3 : ((k : Int) + 2).tmod (n : Int) = (((k + 2) % n : Nat) : Int) := rfl
      have c0 := (hbel.cell (p := ⟨b, o + k, none⟩) hb).trans (hcell k hlt)
      have c1 := (hbel.cell (p := ⟨b, o + (k + n - 1) % n, none⟩) hb).trans (hcell ((k + n - 1) % n) (by rw [hn]; exact Nat.mod_lt _ hp))
      have c2 := (hbel.cell (p := ⟨b, o + (k + 1) % n, none⟩) hb).trans (hcell ((k + 1) % n) (by rw [hn]; exact Nat.mod_lt _ hp))
      have c3 := (hbel.cell (p := ⟨b, o + (k + 2) % n, none⟩) hb).trans (hcell ((k + 2) % n) (by rw [hn]; exact Nat.mod_lt _ hp))
      have hj1 : (k + n - 1) % n < n := Nat.mod_lt _ hp
      have hj2 : (k + 1) % n < n := Nat.mod_lt _ hp
      have hj3 : (k + 2) % n < n := Nat.mod_lt _ hp
      have HT := ideal_take hlt
      unfold idealN at HT
      rw [hn] at HT
      have HL := Lib.hid hn
      clear hcell
      rw [hn] at hlt hc
      generalize (k + n - 1) % n = j1 at *
      generalize (k + 1) % n = j2 at *
      generalize (k + 2) % n = j3 at *
      generalize L.getD k 0 = x0 at *
      generalize L.getD j1 0 = x1 at *
      generalize L.getD j2 0 = x2 at *
      generalize L.getD j3 0 = x3 at *
      have HT' := Lib.hid HT
      obtain ⟨R, hR⟩ : ∃ R, (idealR L).take k = R := ⟨_, rfl⟩
      have hRl : R.length = k := by rw [← hR, List.length_take, idealR_len]; have := HL.out; omega
      rw [hR] at HO HT'
      have HRl := Lib.hid hRl
      clear HT hR hRl hn
      rw [HL.out] at hbig ⊢
      have q1 : IntKind.i64.wrap ((k : Int) + (n : Int)) = (k : Int) + (n : Int) := IntWalk.i64_in _ (by omega)
      have q2 : IntKind.i64.wrap ((k : Int) + (n : Int) - 1) = (k : Int) + (n : Int) - 1 := IntWalk.i64_in _ (by omega)
      have q3 : IntKind.i64.wrap ((k : Int) + 1) = (k : Int) + 1 := IntWalk.i64_in _ (by omega)
      have q4 : IntKind.i64.wrap ((k : Int) + 2) = (k : Int) + 2 := IntWalk.i64_in _ (by omega)
      have i0 : (0 : Int) ≤ (k : Int) := by omega
      have i0' : (k : Int) < (n : Int) := by omega
      have i1 : (0 : Int) ≤ (j1 : Int) := by omega
      have i1' : (j1 : Int) < (n : Int) := by omega
      have i2 : (0 : Int) ≤ (j2 : Int) := by omega
      have i2' : (j2 : Int) < (n : Int) := by omega
      have i3 : (0 : Int) ≤ (j3 : Int) := by omega
      have i3' : (j3 : Int) < (n : Int) := by omega
      have hRk : R.length ≤ 1000 := by have := HRl.out; omega
      obtain ⟨vs, hvl, hov, hoa, hod⟩ := HO.out
      have HVL := Lib.hid hvl
      have HOV := Lib.hid hov
      have HOA := Lib.hid hoa
      have HOD := Lib.hid hod
      have hBx := ((Below.refl wr.heap.size wr).alloc (Nat.le_refl _) (.cells #[.int .i64 x2, .int .i64 x3] 3)).alloc (by simp) (.cells #[.int .i64 x0, .int .i64 x1, .slice (some ⟨wr.heap.size, 0, none⟩) 2 2] 35)
      have HVA := Lib.hid (show (wr.alloc (.cells #[.int .i64 x2, .int .i64 x3] 3)).ownsRow wr.heap.size 3 1 (.slice (some ⟨wr.heap.size, 0, none⟩) 2 2) 2 ([x2, x3].map (Value.int .i64)) from own_new wr [x2, x3] 3 _ rfl (by simp))
      have hn0 : (n : Int) ≠ 0 := by omega
      clear hvl hov hoa hod
      go_wp2_with fail
      go_region_held_law (fun w' => w'.cell? ⟨b, o + k, none⟩ = some (.int .i64 x0) ∧ w'.cell? ⟨b, o + j1, none⟩ = some (.int .i64 x1) ∧ w'.cell? ⟨b, o + j2, none⟩ = some (.int .i64 x2) ∧ w'.cell? ⟨b, o + j3, none⟩ = some (.int .i64 x3)) (first | go_keep | (exact ⟨(hb3.cell (p := ⟨b, o + k, none⟩) hb).trans ((hbel.cell (p := ⟨b, o + k, none⟩) hb).symm.trans c0), (hb3.cell (p := ⟨b, o + j1, none⟩) hb).trans ((hbel.cell (p := ⟨b, o + j1, none⟩) hb).symm.trans c1), (hb3.cell (p := ⟨b, o + j2, none⟩) hb).trans ((hbel.cell (p := ⟨b, o + j2, none⟩) hb).symm.trans c2), (hb3.cell (p := ⟨b, o + j3, none⟩) hb).trans ((hbel.cell (p := ⟨b, o + j3, none⟩) hb).symm.trans c3)⟩))
        ((refine step_append_any (by rfl) (.tmp 14) (.tmp 44) 25 (by rfl) w.heap.size 35 n0 (.agg #[.int .i64 0, .int .i64 0, .slice none 0 0]) 3 40 Try.underlying25 ni nz0 nz1 nz2 (by rfl) (by decide) u3 R.length (flatN R vs) (by rfl) (by exact (HOV.out.alloc (.cells #[.int .i64 x2, .int .i64 x3] 3)).alloc (.cells #[.int .i64 x0, .int .i64 x1, .slice (some ⟨wr.heap.size, 0, none⟩) 2 2] 35)) ⟨wr.heap.size + 1, 0, none⟩ 1 1 [.int .i64 x0, .int .i64 x1, .slice (some ⟨wr.heap.size, 0, none⟩) 2 2] (by rfl) (by exact newsNode (wr.alloc (.cells #[.int .i64 x2, .int .i64 x3] 3)) _ _ _ _ _ (by simp) rfl rfl rfl) (by unfold maxLen; omega) (by omega) (by simp; omega) ?_; intro v2 w2 hown2 hgrow2 hnil2; have g1 : ((wr.alloc (.cells #[.int .i64 x2, .int .i64 x3] 3)).alloc (.cells #[.int .i64 x0, .int .i64 x1, .slice (some ⟨wr.heap.size, 0, none⟩) 2 2] 35)).grownBy w2 u3.ownBlock := ⟨hgrow2.os, hgrow2.tape, hgrow2.output, hgrow2.size, hgrow2.block⟩; have hO2 := Lib.hid (RingOwn.push (n := ⟨x0, x1, [x2, x3]⟩) HVL.out ((HOV.out.alloc _).alloc _) (fun i hi => ownsRow_below (HOA.out i hi) hBx (Nat.le_refl _)) HOD.out (fun i hi q hq => ((HOA.out i hi).lt q hq).2) hz (HVA.out.alloc _) hown2 g1); have hb3 := (hbel.trans (hBx.mono hz)).grown g1 (by simp; omega) (fun q hq => (HOV.out.lt q hq).1); clear hown2 hnil2))
      all_goals
        clear e1 e2 e3 q1 q2 q3 q4 i0 i0' i1 i1' i2 i2' i3 i3'
        go_wp2
        have hLn := HL.out
        subst hLn
        go_roundg (L.length - (k + 1))
        case rel => exact ⟨k + 1, by omega, rfl, by go_num, Lib.hid (by rw [HT'.out]; exact hO2.out), hb3⟩
        case measure => omega
    · obtain rfl : k = L.length := by omega
      have hall : (idealR L).take L.length = idealR L := List.take_of_length_le (by rw [idealR_len]; exact Nat.le_refl _)
      rw [hall] at HO
      go_wp2
      go_ret
      exact ⟨_, rfl, HO.out, hbel⟩

end Go.Proofs.Ytnoamohpkngbdaa
