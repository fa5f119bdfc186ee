/-
  Contracts: RingFail of the reference.
-/
import Derived.Test.YtnoamohpkngbdaaSStab
import Derived.Test.YtnoamohpkngbdaaShal
import Derived.Test.YtnoamohpkngbdaaJF
namespace Go.Proofs.Ytnoamohpkngbdaa
open Go.RowKit

theorem erase_two {r : List Nd} (h : Shape r) (k : Nat) : (r.eraseIdx k).length ≤ 10 ∧ (∀ j, j < (r.eraseIdx k).length → ((r.eraseIdx k).getD j default).after.length = 2) := by
  refine ⟨Nat.le_trans (List.length_eraseIdx_le r k) h.1, fun j hj => ?_⟩
  have hm := List.mem_of_mem_eraseIdx (getD_mem hj)
  obtain ⟨i, hi, e⟩ := mem_getD hm
  rw [← e]
  exact (h.2 i hi).1
theorem erase_split (r : List Nd) (k : Nat) : r.eraseIdx k = r.take k ++ r.drop (k + 1) := List.eraseIdx_eq_take_drop_succ r k

theorem sh_erase {w : World} {B b o : Nat} {r : List Nd} {vs : List Value} {v' : Value} {k : Nat} (h : RingSrc w b o r vs) (hk : k < r.length)
    (ho : w.ownsRow B 35 3 v' (0 + k + (r.length - (k + 1))) ([] ++ (flatN r vs).take (k * 3) ++ (flatN r vs).drop ((k + 1) * 3))) : ShOwn w B v' (r.eraseIdx k) := by
  have hl : (r.take k ++ r.drop (k + 1)).length = 0 + k + (r.length - (k + 1)) := by simp; omega
  have hvl : (vs.take k).length = (r.take k).length := by simp [h.len]
  rw [erase_split]
  refine ⟨vs.take k ++ vs.drop (k + 1), by simp [h.len], ?_, ints_app hvl (ints_take h k) (ints_drop h (k + 1))⟩
  rw [hl, flatN_app _ _ _ _ hvl, flatN_take _ _ _ h.len, flatN_drop _ _ _ h.len]
  exact ho

set_option maxHeartbeats 2000000 in
theorem sRingFail_any (v : Value) (r : List Nd) (id : Int) (w : World) (hv : RingAt w v r) :
    Calls Try.prog 89 #[v, .int .i64 id] w fun e w' => ∃ u, e = .returned (.tuple #[u, .bool (rFailOk r id)]) ∧ RingOwn w' w.heap.size u (rFail r id) ∧ Below w.heap.size w w' := by
  unfold rFailOk rFail
  cases hs : ringSafe r
  · have HS := Lib.hid hs
    rw [stepR_no (by rfl), stepB_no (by rfl)]
    clear hs
    go_enter Try.func89, Try.ntmps89
    go_wp2_with (first | (go_at_call 35; refine (sRingSafe_any _ r _ hv).mono ?_; rw [HS.out]; rintro e w1 ⟨rfl, hb1⟩))
    go_ret2
    exact ⟨_, rfl, (RingOwn.made w1 _ rfl).mono hb1.size, hb1.alloc hb1.size _⟩
  have HS := Lib.hid hs
  cases hp : okP id
  · have HP := Lib.hid hp
    rw [stepR_no (by rfl), stepB_no (by rfl)]
    clear hs hp
    go_enter Try.func89, Try.ntmps89
    go_wp2_with (first | (go_at_call 35; refine (sRingSafe_any _ r _ hv).mono ?_; rw [HS.out]; rintro e w1 ⟨rfl, hb1⟩) | (go_at_call 54; refine (l1Point_any _ _).mono ?_; rw [HP.out]; rintro e w' ⟨rfl, rfl⟩))
    go_ret2
    exact ⟨_, rfl, (RingOwn.made w1 _ rfl).mono hb1.size, hb1.alloc hb1.size _⟩
  have HP := Lib.hid hp
  have hsh := safe_shape hs
  have hr10 : r.length ≤ 10 := hsh.1
  have HL := Lib.hid hsh.len
  have HSH := Lib.hid hsh
  have hpos := ringSafe_pos hs
  clear hs hp hsh
  rcases fnd_cases r id with ⟨hf, -⟩ | ⟨k, hk, hf, -, -⟩
  · have HX := Lib.hid hf
    rw [stepR_miss (by rfl) hf, stepB_miss hf]
    clear hf
    go_enter Try.func89, Try.ntmps89
    go_wp2_with (first | (go_at_call 35; refine (sRingSafe_any _ r _ hv).mono ?_; rw [HS.out]; rintro e w1 ⟨rfl, hb1⟩) | (go_at_call 54; refine (l1Point_any _ _).mono ?_; rw [HP.out]; rintro e w' ⟨rfl, rfl⟩) | (go_at_call 81; refine (l3Find_any _ r id _ (hv.below hb1 (Nat.le_refl _))).mono ?_; rw [HX.out]; rintro e w' ⟨rfl, rfl⟩) | (go_at_call 78; refine (l3Copy_any _ r _ (hv.below hb1 (Nat.le_refl _)) (by omega) HL.out).mono ?_; rintro e w2 ⟨u, rfl, hO, hB1⟩))
    go_ret2
    exact ⟨_, rfl, hO.mono hb1.size, hb1.trans (hB1.mono hb1.size)⟩
  · have HX := Lib.hid hf
    rw [stepR_hit (by rfl) hf, stepB_hit (by rfl) hf]
    clear hf
    obtain ⟨n0, ni, nz0, nz1, nz2⟩ := info_parts Try.infoNode
    have HV := Lib.hid hv
    obtain ⟨b, o, cap, vs, rfl, hc1, hc2, hsrc⟩ := hv.srcs hpos
    have HSRC := Lib.hid hsrc
    have hbl : b < w.heap.size := hsrc.lt
    obtain ⟨hE1, hE2⟩ := erase_two HSH.out k
    have HE2 := Lib.hid hE2
    have hc2' := hc2
    unfold maxLen at hc2'
    have i0 : (0 : Int) ≤ (k : Int) := by omega
    have i1 : (k : Int) ≤ (cap : Int) := by omega
    have i2 : (k : Int) + 1 ≤ (cap : Int) := by omega
    have i3 : (k : Int) + 1 ≤ (r.length : Int) := by omega
    have i4 : (0 : Int) ≤ (k : Int) + 1 := by omega
    have i5 : IntKind.i64.wrap ((k : Int) + 1) = (k : Int) + 1 := IntWalk.i64_in _ (by omega)
    have i6 : ((k : Int) + 1).toNat = k + 1 := by omega
    clear hsrc hE2 hc2 hv
    go_enter Try.func89, Try.ntmps89
    go_wp2_with (first | (go_at_call 35; refine (sRingSafe_any _ r _ HV.out).mono ?_; rw [HS.out]; rintro e w1 ⟨rfl, hb1⟩) | (go_at_call 54; refine (l1Point_any _ _).mono ?_; rw [HP.out]; rintro e w' ⟨rfl, rfl⟩) | (go_at_call 81; refine (l3Find_any _ r id _ (HV.out.below hb1 (Nat.le_refl _))).mono ?_; rw [HX.out]; rintro e w' ⟨rfl, rfl⟩))
    have S1 := Lib.hid (HSRC.out.below hb1 (Nat.le_refl _))
    have hA := (Below.refl w1.heap.size w1).alloc (Nat.le_refl _) (.cells #[] 35)
    have S2 := Lib.hid (S1.out.below hA (Nat.le_refl _))
    have hM : (w1.alloc (.cells #[] 35)).ownsRow w1.heap.size 35 3 (.slice (some ⟨w1.heap.size, 0, none⟩) 0 0) 0 [] := by
      have := World.ownsRow_made (base := w1.heap.size) (e := 35) (size := 3) w1 #[] 0 (Nat.le_refl _) (by unfold maxLen; omega) rfl
      simpa using this
    have HM := Lib.hid hM
    clear hM
    obtain ⟨O, hO, hN⟩ := drop_addr b o (k + 1) cap r vs hc1
    have HN := Lib.hid hN
    clear hN
    go_region_held_law (fun _ => True) (trivial) (first | ((refine step_append_any (by rfl) (.tmp 24) (.tmp 27) 25 (by rfl) w1.heap.size 35 n0 (.agg #[.int .i64 0, .int .i64 0, .slice none 0 0]) 3 40 Try.underlying25 ni nz0 nz1 nz2 (by rfl) (by decide) (.slice (some ⟨w1.heap.size, 0, none⟩) 0 0) 0 [] (by rfl) (by exact HM.out) ⟨b, o, none⟩ k cap ((flatN r vs).take (k * 3)) (by rfl) (by exact S2.out.take k (by omega)) (by unfold maxLen; omega) (by omega) (by simp) ?_; intro v1 w2 hown1 hgrow1 hnil1; have hO1 := Lib.hid hown1; have g1 : (w1.alloc (.cells #[] 35)).grownBy w2 (some w1.heap.size) := ⟨hgrow1.os, hgrow1.tape, hgrow1.output, hgrow1.size, hgrow1.block⟩; have hb2 := hA.grown g1 (by simp) (fun q hq => Nat.le_of_eq (Option.some.inj hq)); have S3 := Lib.hid (S1.out.below hb2 (Nat.le_refl _)); have hz2 := hb2.size; clear hown1 hnil1)) | ((refine step_append_any (by rfl) (.tmp 28) (.tmp 32) 25 (by rfl) w1.heap.size 35 n0 (.agg #[.int .i64 0, .int .i64 0, .slice none 0 0]) 3 40 Try.underlying25 ni nz0 nz1 nz2 (by rfl) (by decide) v1 (0 + k) ([] ++ (flatN r vs).take (k * 3)) (by rfl) (by exact hO1.out) ⟨b, O, none⟩ (r.length - (k + 1)) (cap - (k + 1)) ((flatN r vs).drop ((k + 1) * 3)) (by rfl) (by exact HN.out _ S3.out) (by unfold maxLen; omega) (by omega) (by omega) ?_; intro v2 w3 hown2 hgrow2 hnil2; have hb3 := hb2.grown hgrow2 hz2 (fun q hq => (hO1.out.lt q hq).1); have hO2 := Lib.hid (sh_erase (S1.out.below hb3 (Nat.le_refl _)) hk hown2); clear hown2 hnil2)))
    clear hO i0 i1 i2 i3 i4 i5 i6
    cases hsf : safeB (r.eraseIdx k)
    · have HSF := Lib.hid hsf
      clear hsf
      go_wp2_with (first | (go_at_call 61; refine (l3Safe_any _ (r.eraseIdx k) _ hO2.out.at (by omega) HE2.out).mono ?_; rw [HSF.out]; rintro e w4 ⟨rfl, hb4⟩; have hb14 := hb1.trans ((hb3.trans (hb4.mono hb3.size)).mono hb1.size)) | (go_at_call 78; refine (l3Copy_any _ r _ (HV.out.below hb14 (Nat.le_refl _)) (by omega) HL.out).mono ?_; rintro e w5 ⟨u5, rfl, hO5, hb5⟩))
      go_ret2
      unfold failK
      rw [HSF.out]
      exact ⟨_, rfl, by simpa using hO5.mono hb14.size, hb14.trans (hb5.mono hb14.size)⟩
    · have HSF := Lib.hid hsf
      clear hsf
      go_wp2_with (first | (go_at_call 61; refine (l3Safe_any _ (r.eraseIdx k) _ hO2.out.at (by omega) HE2.out).mono ?_; rw [HSF.out]; rintro e w4 ⟨rfl, hb4⟩; have hb14 := hb1.trans ((hb3.trans (hb4.mono hb3.size)).mono hb1.size)) | (go_at_call 78; refine (l3Copy_any _ (r.eraseIdx k) _ (hO2.out.below hb4 (Nat.le_refl _)).at (by omega) (fun j hj => by have := HE2.out j hj; omega)).mono ?_; rintro e w5 ⟨u5, rfl, hO5, hb5⟩))
      go_ret2
      unfold failK
      rw [HSF.out]
      exact ⟨_, rfl, by simpa using hO5.mono hb14.size, hb14.trans (hb5.mono hb14.size)⟩

end Go.Proofs.Ytnoamohpkngbdaa
