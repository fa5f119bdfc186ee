/-
  Contracts: RingFail and RingJoin of the reference.
-/
import Derived.Test.YtojpfbbgpcafnaaSStabR
import Derived.Test.YtojpfbbgpcafnaaShal
import Derived.Test.YtojpfbbgpcafnaaPlain
namespace Go.Proofs.Ytojpfbbgpcafnaa
open Go.RowKit

theorem erase_two {r : List Nd} (h : Shape r) (k : Nat) : (r.eraseIdx k).length ≤ 10 ∧ (∀ j, j < (r.eraseIdx k).length → ((r.eraseIdx k).getD j default).after.length = 2) := by
  refine ⟨Nat.le_trans (List.length_eraseIdx_le r k) h.1, fun j hj => ?_⟩
  have hm := List.mem_of_mem_eraseIdx (getD_mem hj)
  obtain ⟨i, hi, e⟩ := mem_getD hm
  rw [← e]
  exact (h.2 i hi).1
theorem erase_split (r : List Nd) (k : Nat) : r.eraseIdx k = r.take k ++ r.drop (k + 1) := List.eraseIdx_eq_take_drop_succ r k

theorem sh_erase {w : World} {B b o : Nat} {r : List Nd} {vs : List Value} {v' : Value} {k : Nat} (h : RingSrc w b o r vs) (hk : k < r.length)
    (ho : w.ownsRow B 31 3 v' (0 + k + (r.length - (k + 1))) ([] ++ (flatN r vs).take (k * 3) ++ (flatN r vs).drop ((k + 1) * 3))) : ShOwn w B v' (r.eraseIdx k) := by
  have hl : (r.take k ++ r.drop (k + 1)).length = 0 + k + (r.length - (k + 1)) := by simp; omega
  have hvl : (vs.take k).length = (r.take k).length := by simp [h.len]
  rw [erase_split]
  refine ⟨vs.take k ++ vs.drop (k + 1), by simp [h.len], ?_, ints_app hvl (ints_take h k) (ints_drop h (k + 1))⟩
  rw [hl, flatN_app _ _ _ _ hvl, flatN_take _ _ _ h.len, flatN_drop _ _ _ h.len]
  exact ho

set_option maxHeartbeats 2000000 in
theorem sRingFail_any (v : Value) (r : List Nd) (id : Int) (w : World) (hv : RingAt w v r) :
    Calls Try.prog 118 #[v, .int .i64 id] w fun e w' => ∃ u, e = .returned (.tuple #[u, .bool (rFailOk r id)]) ∧ RingOwn w' w.heap.size u (rFail r id) ∧ Below w.heap.size w w' := by
  unfold rFailOk rFail
  cases hs : ringSafe r
  · have HS := Lib.hid hs
    rw [stepR_no (by rfl), stepB_no (by rfl)]
    clear hs
    go_enter Try.func118, Try.ntmps118
    go_wp2_with (first | (go_at_call 17; refine (sRingSafe_any _ r _ hv).mono ?_; rw [HS.out]; rintro e w1 ⟨rfl, hb1⟩))
    go_ret2
    exact ⟨_, rfl, (RingOwn.made w1 _ rfl).mono hb1.size, hb1.alloc hb1.size _⟩
  have HS := Lib.hid hs
  cases hp : okP id
  · have HP := Lib.hid hp
    rw [stepR_no (by rfl), stepB_no (by rfl)]
    clear hs hp
    go_enter Try.func118, Try.ntmps118
    go_wp2_with (first | (go_at_call 17; refine (sRingSafe_any _ r _ hv).mono ?_; rw [HS.out]; rintro e w1 ⟨rfl, hb1⟩) | (go_at_call 78; refine (l1Point_any _ _).mono ?_; rw [HP.out]; rintro e w' ⟨rfl, rfl⟩))
    go_ret2
    exact ⟨_, rfl, (RingOwn.made w1 _ rfl).mono hb1.size, hb1.alloc hb1.size _⟩
  have HP := Lib.hid hp
  have hsh := safe_shape hs
  have hr10 : r.length ≤ 10 := hsh.1
  have HL := Lib.hid hsh.len
  have HSH := Lib.hid hsh
  have hpos := ringSafe_pos hs
  clear hs hp hsh
  rcases fnd_cases r id with ⟨hf, -⟩ | ⟨k, hk, hf, -, -⟩
  · have HX := Lib.hid hf
    rw [stepR_miss (by rfl) hf, stepB_miss hf]
    clear hf
    go_enter Try.func118, Try.ntmps118
    go_wp2_with (first | (go_at_call 17; refine (sRingSafe_any _ r _ hv).mono ?_; rw [HS.out]; rintro e w1 ⟨rfl, hb1⟩) | (go_at_call 78; refine (l1Point_any _ _).mono ?_; rw [HP.out]; rintro e w' ⟨rfl, rfl⟩) | (go_at_call 79; refine (l3Find_any _ r id _ (hv.below hb1 (Nat.le_refl _))).mono ?_; rw [HX.out]; rintro e w' ⟨rfl, rfl⟩) | (go_at_call 44; refine (l3Copy_any _ r _ (hv.below hb1 (Nat.le_refl _)) (by omega) HL.out).mono ?_; rintro e w2 ⟨u, rfl, hO, hB1⟩))
    go_ret2
    exact ⟨_, rfl, hO.mono hb1.size, hb1.trans (hB1.mono hb1.size)⟩
  · have HX := Lib.hid hf
    rw [stepR_hit (by rfl) hf, stepB_hit (by rfl) hf]
    clear hf
    obtain ⟨n0, ni, nz0, nz1, nz2⟩ := info_parts Try.infoNode
    have HV := Lib.hid hv
    obtain ⟨b, o, cap, vs, rfl, hc1, hc2, hsrc⟩ := hv.srcs hpos
    have HSRC := Lib.hid hsrc
    have hbl : b < w.heap.size := hsrc.lt
    obtain ⟨hE1, hE2⟩ := erase_two HSH.out k
    have HE2 := Lib.hid hE2
    have hc2' := hc2
    unfold maxLen at hc2'
    have i0 : (0 : Int) ≤ (k : Int) := by omega
    have i1 : (k : Int) ≤ (cap : Int) := by omega
    have i2 : (k : Int) + 1 ≤ (cap : Int) := by omega
    have i3 : (k : Int) + 1 ≤ (r.length : Int) := by omega
    have i4 : (0 : Int) ≤ (k : Int) + 1 := by omega
    have i5 : IntKind.i64.wrap ((k : Int) + 1) = (k : Int) + 1 := IntWalk.i64_in _ (by omega)
    have i6 : ((k : Int) + 1).toNat = k + 1 := by omega
    clear hsrc hE2 hc2 hv
    go_enter Try.func118, Try.ntmps118
    go_wp2_with (first | (go_at_call 17; refine (sRingSafe_any _ r _ HV.out).mono ?_; rw [HS.out]; rintro e w1 ⟨rfl, hb1⟩) | (go_at_call 78; refine (l1Point_any _ _).mono ?_; rw [HP.out]; rintro e w' ⟨rfl, rfl⟩) | (go_at_call 79; refine (l3Find_any _ r id _ (HV.out.below hb1 (Nat.le_refl _))).mono ?_; rw [HX.out]; rintro e w' ⟨rfl, rfl⟩))
    have S1 := Lib.hid (HSRC.out.below hb1 (Nat.le_refl _))
    have hA := (Below.refl w1.heap.size w1).alloc (Nat.le_refl _) (.cells #[] 31)
    have S2 := Lib.hid (S1.out.below hA (Nat.le_refl _))
    have hM : (w1.alloc (.cells #[] 31)).ownsRow w1.heap.size 31 3 (.slice (some ⟨w1.heap.size, 0, none⟩) 0 0) 0 [] := by
      have := World.ownsRow_made (base := w1.heap.size) (e := 31) (size := 3) w1 #[] 0 (Nat.le_refl _) (by unfold maxLen; omega) rfl
      simpa using this
    have HM := Lib.hid hM
    clear hM
    obtain ⟨O, hO, hN⟩ := drop_addr b o (k + 1) cap r vs hc1
    have HN := Lib.hid hN
    clear hN
    go_region_held_law (fun _ => True) (trivial) (first | ((refine step_append_any (by rfl) (.tmp 24) (.tmp 27) 23 (by rfl) w1.heap.size 31 n0 (.agg #[.int .i64 0, .int .i64 0, .slice none 0 0]) 3 40 Try.underlying23 ni nz0 nz1 nz2 (by rfl) (by decide) (.slice (some ⟨w1.heap.size, 0, none⟩) 0 0) 0 [] (by rfl) (by exact HM.out) ⟨b, o, none⟩ k cap ((flatN r vs).take (k * 3)) (by rfl) (by exact S2.out.take k (by omega)) (by unfold maxLen; omega) (by omega) (by simp) ?_; intro v1 w2 hown1 hgrow1 hnil1; have hO1 := Lib.hid hown1; have g1 : (w1.alloc (.cells #[] 31)).grownBy w2 (some w1.heap.size) := ⟨hgrow1.os, hgrow1.tape, hgrow1.output, hgrow1.size, hgrow1.block⟩; have hb2 := hA.grown g1 (by simp) (fun q hq => Nat.le_of_eq (Option.some.inj hq)); have S3 := Lib.hid (S1.out.below hb2 (Nat.le_refl _)); have hz2 := hb2.size; clear hown1 hnil1)) | ((refine step_append_any (by rfl) (.tmp 28) (.tmp 32) 23 (by rfl) w1.heap.size 31 n0 (.agg #[.int .i64 0, .int .i64 0, .slice none 0 0]) 3 40 Try.underlying23 ni nz0 nz1 nz2 (by rfl) (by decide) v1 (0 + k) ([] ++ (flatN r vs).take (k * 3)) (by rfl) (by exact hO1.out) ⟨b, O, none⟩ (r.length - (k + 1)) (cap - (k + 1)) ((flatN r vs).drop ((k + 1) * 3)) (by rfl) (by exact HN.out _ S3.out) (by unfold maxLen; omega) (by omega) (by omega) ?_; intro v2 w3 hown2 hgrow2 hnil2; have hb3 := hb2.grown hgrow2 hz2 (fun q hq => (hO1.out.lt q hq).1); have hO2 := Lib.hid (sh_erase (S1.out.below hb3 (Nat.le_refl _)) hk hown2); clear hown2 hnil2)))
    clear hO i0 i1 i2 i3 i4 i5 i6
    cases hsf : safeB (r.eraseIdx k)
    · have HSF := Lib.hid hsf
      clear hsf
      go_wp2_with (first | (go_at_call 47; refine (l3Safe_any _ (r.eraseIdx k) _ hO2.out.at (by omega) HE2.out).mono ?_; rw [HSF.out]; rintro e w4 ⟨rfl, hb4⟩; have hb14 := hb1.trans ((hb3.trans (hb4.mono hb3.size)).mono hb1.size)) | (go_at_call 44; refine (l3Copy_any _ r _ (HV.out.below hb14 (Nat.le_refl _)) (by omega) HL.out).mono ?_; rintro e w5 ⟨u5, rfl, hO5, hb5⟩))
      go_ret2
      unfold failK
      rw [HSF.out]
      exact ⟨_, rfl, by simpa using hO5.mono hb14.size, hb14.trans (hb5.mono hb14.size)⟩
    · have HSF := Lib.hid hsf
      clear hsf
      go_wp2_with (first | (go_at_call 47; refine (l3Safe_any _ (r.eraseIdx k) _ hO2.out.at (by omega) HE2.out).mono ?_; rw [HSF.out]; rintro e w4 ⟨rfl, hb4⟩; have hb14 := hb1.trans ((hb3.trans (hb4.mono hb3.size)).mono hb1.size)) | (go_at_call 44; refine (l3Copy_any _ (r.eraseIdx k) _ (hO2.out.below hb4 (Nat.le_refl _)).at (by omega) (fun j hj => by have := HE2.out j hj; omega)).mono ?_; rintro e w5 ⟨u5, rfl, hO5, hb5⟩))
      go_ret2
      unfold failK
      rw [HSF.out]
      exact ⟨_, rfl, by simpa using hO5.mono hb14.size, hb14.trans (hb5.mono hb14.size)⟩

theorem join_two {r : List Nd} (h : Shape r) (hl : r.length < 10) {id at' : Int} {k : Nat} (hk : k < r.length) : (joinK r id at' k).length ≤ 10 ∧ (∀ j, j < (joinK r id at' k).length → ((joinK r id at' k).getD j default).after.length = 2) := by
  have hle := ltN_le id r
  unfold joinK
  refine ⟨by simp; omega, fun j hj => ?_⟩
  have hm := getD_mem hj
  rcases List.mem_append.1 hm with hm | hm
  · obtain ⟨i, hi, e⟩ := mem_getD (List.mem_of_mem_take hm)
    rw [← e]; exact (h.2 i hi).1
  · rcases List.mem_cons.1 hm with hm | hm
    · rw [hm]; exact (h.2 k hk).1
    · obtain ⟨i, hi, e⟩ := mem_getD (List.mem_of_mem_drop hm)
      rw [← e]; exact (h.2 i hi).1
theorem sh_join {w : World} {B b o : Nat} {r : List Nd} {vs : List Value} {v' : Value} {k J : Nat} {id at' : Int} (h : RingSrc w b o r vs) (hk : k < r.length) (hJ : ltN r id = J)
    (ho : w.ownsRow B 31 3 v' (J + 1 + (r.length - J)) ((flatN r vs).take (J * 3) ++ [.int .i64 id, .int .i64 at', vs.getD k undef] ++ (flatN r vs).drop (J * 3))) : ShOwn w B v' (joinK r id at' k) := by
  have hle := ltN_le id r
  rw [hJ] at hle
  unfold joinK
  rw [hJ]
  have hl : (r.take J ++ ⟨id, at', (r.getD k default).after⟩ :: r.drop J).length = J + 1 + (r.length - J) := by simp; omega
  have hvl : (vs.take J).length = (r.take J).length := by simp [h.len]
  refine ⟨vs.take J ++ vs.getD k undef :: vs.drop J, by simp [h.len], ?_, ints_app hvl (ints_take h J) (fun i hi => ?_)⟩
  · have e1 : flatN (⟨id, at', (r.getD k default).after⟩ :: r.drop J) (vs.getD k undef :: vs.drop J) = [.int .i64 id, .int .i64 at', vs.getD k undef] ++ flatN (r.drop J) (vs.drop J) := rfl
    rw [hl, flatN_app _ _ _ _ hvl, flatN_take _ _ _ h.len, e1, flatN_drop _ _ _ h.len, ← List.append_assoc]
    exact ho
  · cases i with
    | zero => simpa using h.ints k hk
    | succ i => simpa using ints_drop h J i (by simpa using hi)


theorem sh_join_end {w : World} {B b o : Nat} {r : List Nd} {vs : List Value} {v' : Value} {k : Nat} {id at' : Int} (h : RingSrc w b o r vs) (hk : k < r.length) (hJ : ltN r id = r.length)
    (ho : w.ownsRow B 31 3 v' (r.length + 1 + 0) ((flatN r vs).take (r.length * 3) ++ [.int .i64 id, .int .i64 at', vs.getD k undef] ++ [])) : ShOwn w B v' (joinK r id at' k) := by
  refine sh_join h hk hJ ?_
  rw [Nat.sub_self, List.drop_of_length_le (by rw [flatN_length r vs h.len]; exact Nat.le_refl _)]
  exact ho
theorem take_succ3 {r : List Nd} {vs : List Value} (hl : vs.length = r.length) {k : Nat} (hk : k < r.length) : (flatN r vs).take ((k + 1) * 3) = (flatN r vs).take (k * 3) ++ [.int .i64 (r.getD k default).id, .int .i64 (r.getD k default).before, vs.getD k undef] := by
  rw [← flatN_take _ _ _ hl, ← flatN_take _ _ _ hl, List.take_succ_eq_append_getElem hk, List.take_succ_eq_append_getElem (by omega : k < vs.length), flatN_append _ _ _ _ (by simp [hl])]
  simp [hk, hl]

set_option maxRecDepth 100000 in
set_option maxHeartbeats 4000000 in
theorem sRingJoin_go (v : Value) (r : List Nd) (id at' : Int) (k : Nat) (w : World) (hv : RingAt w v r) (hs : ringSafe r = true) (hp : okP id = true) (hq : okP at' = true)
    (hk : k < r.length) (hf : fnd r at' = (k : Int)) (hx : fnd r id = -1) (hl : r.length < 10) (ht : btw at' id (a0 (r.getD k default)) = true) :
    Calls Try.prog 36 #[v, .int .i64 id, .int .i64 at'] w fun e w' => ∃ u, e = .returned (.tuple #[u, .bool true]) ∧ RingOwn w' w.heap.size u (joinK r id at' k) ∧ Below w.heap.size w w' := by
  have HV := Lib.hid hv
  have HS := Lib.hid hs
  have HP := Lib.hid hp
  have HQ := Lib.hid hq
  have HF := Lib.hid hf
  have HX := Lib.hid hx
  have hsh := safe_shape hs
  have hpos := ringSafe_pos hs
  obtain ⟨b, o, cap, vs, rfl, hc1, hc2, hsrc⟩ := hv.srcs hpos
  obtain ⟨b', o', bk, ok, ck, e1, -, -, -, hck, hck', -, hbk, -, -, k2, k3, -⟩ := hv.node hk (hsh.two hk)
  cases e1
  obtain ⟨x0, hx0⟩ : ∃ x, a0 (r.getD k default) = x := ⟨_, rfl⟩
  rw [hx0] at k3 ht
  have HT := Lib.hid ht
  obtain ⟨hE1, hE2⟩ := join_two hsh hl (id := id) (at' := at') hk
  have HE2 := Lib.hid hE2
  have hvk : vs.getD k undef = .slice (some ⟨bk, ok, none⟩) 2 ck := by
    obtain ⟨-, -, f3⟩ := flatN_get r vs hsrc.len k hk
    have := hsrc.cell _ _ f3
    rw [← Nat.add_assoc, k2] at this
    exact (Option.some.inj this).symm
  have HVK := Lib.hid hvk
  have HSRC := Lib.hid hsrc
  have HV3 := Lib.hid hv
  have HSH := Lib.hid hsh
  unfold maxLen at hc2
  have hbl : b < w.heap.size := hsrc.lt
  have hcc : ∀ w1 : World, Below w.heap.size w w1 → w1.cell? ⟨b, o + k * 3 + 2, none⟩ = some (.slice (some ⟨bk, ok, none⟩) 2 ck) ∧ w1.cell? ⟨bk, ok, none⟩ = some (.int .i64 x0) := fun _ hb => ⟨(hb.cell (p := ⟨b, o + k * 3 + 2, none⟩) hbl).trans k2, (hb.cell (p := ⟨bk, ok, none⟩) hbk).trans k3⟩
  have HCC := Lib.hid hcc
  obtain ⟨n0, ni, nz0, nz1, nz2⟩ := info_parts Try.infoNode
  clear hs hp hq hf hx hsh hv hx0 ht hE2 hvk hsrc hcc k2 k3
  go_enter Try.func36, Try.ntmps36
  go_wp2_with (first | (go_at_call 17; refine (sRingSafe_any _ r _ HV.out).mono ?_; rw [HS.out]; rintro e w1 ⟨rfl, hb1⟩; obtain ⟨q2, q3⟩ := HCC.out _ hb1) | (go_at_call_of 78 (Value.int IntKind.i64 id); refine (l1Point_any id _).mono ?_; rw [HP.out]; rintro e w' ⟨rfl, rfl⟩) | (go_at_call 78; refine (l1Point_any at' _).mono ?_; rw [HQ.out]; rintro e w' ⟨rfl, rfl⟩) | (go_at_call_of 79 (Value.int IntKind.i64 id); refine (l3Find_any _ r id _ (by exact HV.out.below hb1 (Nat.le_refl _))).mono ?_; rw [HX.out]; rintro e w' ⟨rfl, rfl⟩) | (go_at_call 79; refine (l3Find_any _ r at' _ (by exact HV.out.below hb1 (Nat.le_refl _))).mono ?_; rw [HF.out]; rintro e w' ⟨rfl, rfl⟩) | (go_at_call 80; refine (sBetween_is _ _ _ _ HT.out _).mono ?_; rintro e w' ⟨rfl, rfl⟩))
  have hz1 := hb1.size
  clear q2 q3
  go_loopw [9, 10] (fun s9 s10 wr => ∃ j : Nat, j ≤ r.length ∧ s10 = .int .i64 j ∧ Hid (∀ i, i < j → (r.getD i default).id < id) ∧ Hid (wr.ownsRow w1.heap.size 31 3 s9 j ((flatN r vs).take (j * 3))) ∧ Hid (s9 ≠ .slice none 0 0) ∧ Below w1.heap.size w1 wr) (fun _ s _ => r.length - (intOf s).toNat)
  case atStart =>
    refine ⟨0, Nat.zero_le _, rfl, Lib.hid fun i hi => by omega, Lib.hid ?_, Lib.hid (by simp), (Below.refl _ _).alloc (Nat.le_refl _) _⟩
    have := World.ownsRow_made (base := w1.heap.size) (e := 31) (size := 3) w1 #[] 0 (Nat.le_refl _) (by unfold maxLen; omega) rfl
    simpa using this
  case round =>
    obtain ⟨j, hj, rfl, HA, HOW, HNN, hbr⟩ := hrel
    have hzr := hbr.size
    have hbw : Below w.heap.size w wr := hb1.trans (hbr.mono hz1)
    have HS1 := Lib.hid (HSRC.out.below hbw (Nat.le_refl _))
    have hcells : j < r.length → wr.cell? ⟨b, o + j * 3, none⟩ = some (.int .i64 (r.getD j default).id) ∧ wr.cell? ⟨b, o + j * 3 + 1, none⟩ = some (.int .i64 (r.getD j default).before) ∧ wr.cell? ⟨b, o + j * 3 + 2, none⟩ = some (vs.getD j undef) := fun hj' => by
      obtain ⟨f1, f2, f3⟩ := flatN_get r vs HS1.out.len j hj'
      exact ⟨HS1.out.cell _ _ f1, HS1.out.cell _ _ f2, HS1.out.cell _ _ f3⟩
    obtain ⟨ij, hij⟩ : ∃ x, (r.getD j default).id = x := ⟨_, rfl⟩
    obtain ⟨bj, hbj⟩ : ∃ x, (r.getD j default).before = x := ⟨_, rfl⟩
    have HT3 := Lib.hid (show j < r.length → _ from fun h => take_succ3 HS1.out.len h)
    rw [hij, hbj] at hcells HT3
    have HIJ := Lib.hid hij
    by_cases hlt : j < r.length
    · obtain ⟨x1, x2, x3⟩ := hcells hlt
      have hia := HS1.out.ints j hlt
      obtain ⟨va, hva⟩ : ∃ x, vs.getD j undef = x := ⟨_, rfl⟩
      rw [hva] at x3 hia HT3
      obtain ⟨pa, capa, rfl, -, -, -⟩ := hia
      obtain ⟨lj, hlj⟩ : ∃ x, (r.getD j default).after.length = x := ⟨_, rfl⟩
      rw [hlj] at x3 HT3
      clear hcells hij hbj hva hlj
      by_cases hid' : ij < id
      · have hd : decide (ij < id) = true := by simpa using hid'
        go_wp2_with (first | (at_builtin; refine wpList_append_src rfl (.tmp 73) (.tmp 78) 23 rfl w1.heap.size 31 n0 (.agg #[.int .i64 0, .int .i64 0, .slice none 0 0]) 3 40 Try.underlying23 ni nz0 nz1 nz2 rfl (by decide) _ _ _ rfl (HOW.out.alloc _) (.slice (some ⟨wr.heap.size, 0, none⟩) 1 1) 1 [.int .i64 ij, .int .i64 bj, .slice pa lj capa] rfl (srcIs_new _ _ _ _ _ _ rfl rfl rfl rfl) (by unfold maxLen; omega) (by omega) (by simp; omega) ?_; intro v' w2 hown' hgrow hnil; have HO2 := Lib.hid hown'; have HN2 := Lib.hid (show v' ≠ .slice none 0 0 from fun e => HNN.out (hnil.1 e).1); have hb2 := (hbr.alloc (by omega) (.cells #[.int .i64 ij, .int .i64 bj, .slice pa lj capa] 31)).grown hgrow (by simp; omega) (fun q hq => (HOW.out.lt q hq).1); clear hown' hgrow hnil))
        go_roundw
        case rel =>
          refine ⟨j + 1, by omega, by go_num, Lib.hid fun i hi => ?_, Lib.hid ?_, HN2, hb2⟩
          · by_cases e : i = j
            · subst e; rw [HIJ.out]; exact hid'
            · exact HA.out i (by omega)
          · rw [HT3.out hlt]; exact HO2.out
        case measure => simp [intOf]; omega
      · have hd : decide (ij < id) = false := by simpa using hid'
        have hJ := ltN_is hj HA.out (fun _ => by rw [HIJ.out]; exact hid')
        clear HT3
        have HJ := Lib.hid hJ
        obtain ⟨g9, c9, rfl, hc91, hc92, -, -⟩ := own_form HOW.out HNN.out
        obtain ⟨q2, q3⟩ := HCC.out _ hbw
        clear hJ
        unfold maxLen at hc92
        go_wp2_with (first | (at_builtin; refine wpList_append_src rfl (.tmp 82) (.tmp 91) 23 rfl w1.heap.size 31 n0 (.agg #[.int .i64 0, .int .i64 0, .slice none 0 0]) 3 40 Try.underlying23 ni nz0 nz1 nz2 rfl (by decide) _ _ _ rfl (HOW.out.alloc _) (.slice (some ⟨wr.heap.size, 0, none⟩) 1 1) 1 [.int .i64 id, .int .i64 at', .slice (some ⟨bk, ok, none⟩) 2 ck] rfl (srcIs_new _ _ _ _ _ _ rfl rfl rfl rfl) (by unfold maxLen; omega) (by omega) (by simp; omega) ?_; intro v' w2 hown' hgrow hnil; have HO2 := Lib.hid hown'; have hb2 := (hbr.alloc (by omega) (.cells #[.int .i64 id, .int .i64 at', .slice (some ⟨bk, ok, none⟩) 2 ck] 31)).grown hgrow (by simp; omega) (fun q hq => (HOW.out.lt q hq).1); have hz2 := hb2.size; have HS2 := Lib.hid (HSRC.out.below (hb1.trans (hb2.mono hz1)) (Nat.le_refl _)); clear hown' hgrow hnil) | (at_builtin; refine list_append_any rfl (.tmp 93) (.tmp 96) 23 rfl w1.heap.size 31 n0 (.agg #[.int .i64 0, .int .i64 0, .slice none 0 0]) 3 40 Try.underlying23 ni nz0 nz1 nz2 rfl (by decide) _ _ _ rfl HO2.out ⟨b, o + j * 3, none⟩ (r.length - j) (cap - j) ((flatN r vs).drop (j * 3)) rfl (HS2.out.drop j) (by unfold maxLen; omega) (by omega) hz2 ?_; intro v3 w3 hown3 hgrow3 hnil3; have hb3 := hb2.grown hgrow3 hz2 (fun q hq => (HO2.out.lt q hq).1); have HO3 := Lib.hid (sh_join (HSRC.out.below (hb1.trans (hb3.mono hz1)) (Nat.le_refl _)) hk HJ.out (by rw [HVK.out]; exact hown3)); have hbF := hb1.trans (hb3.mono hz1); clear hown3 hgrow3 hnil3) | (go_at_call 44; refine (l3Copy_any _ (joinK r id at' k) _ HO3.out.at (by omega) (fun j hj => by have := HE2.out j hj; omega)).mono ?_; rintro e w5 ⟨u5, rfl, hO5, hb5⟩))
        go_ret2
        exact ⟨_, rfl, hO5.mono hbF.size, hbF.trans (hb5.mono hbF.size)⟩
    · obtain rfl : j = r.length := by omega
      have hJ := ltN_is hj HA.out (fun h => absurd h hlt)
      clear hcells hij hbj HT3
      have HJ := Lib.hid hJ
      obtain ⟨g9, c9, rfl, hc91, hc92, -, -⟩ := own_form HOW.out HNN.out
      obtain ⟨O, hO, -⟩ := drop_addr b o r.length cap r vs hc1
      obtain ⟨q2, q3⟩ := HCC.out _ hbw
      clear hJ
      unfold maxLen at hc92
      go_wp2_with (first | (at_builtin; refine wpList_append_src rfl (.tmp 82) (.tmp 91) 23 rfl w1.heap.size 31 n0 (.agg #[.int .i64 0, .int .i64 0, .slice none 0 0]) 3 40 Try.underlying23 ni nz0 nz1 nz2 rfl (by decide) _ _ _ rfl (HOW.out.alloc _) (.slice (some ⟨wr.heap.size, 0, none⟩) 1 1) 1 [.int .i64 id, .int .i64 at', .slice (some ⟨bk, ok, none⟩) 2 ck] rfl (srcIs_new _ _ _ _ _ _ rfl rfl rfl rfl) (by unfold maxLen; omega) (by omega) (by simp; omega) ?_; intro v' w2 hown' hgrow hnil; have HO2 := Lib.hid hown'; have hb2 := (hbr.alloc (by omega) (.cells #[.int .i64 id, .int .i64 at', .slice (some ⟨bk, ok, none⟩) 2 ck] 31)).grown hgrow (by simp; omega) (fun q hq => (HOW.out.lt q hq).1); have hz2 := hb2.size; have HS2 := Lib.hid (HSRC.out.below (hb1.trans (hb2.mono hz1)) (Nat.le_refl _)); clear hown' hgrow hnil) | (at_builtin; refine list_append_any rfl (.tmp 93) (.tmp 96) 23 rfl w1.heap.size 31 n0 (.agg #[.int .i64 0, .int .i64 0, .slice none 0 0]) 3 40 Try.underlying23 ni nz0 nz1 nz2 rfl (by decide) _ _ _ rfl HO2.out ⟨b, O, none⟩ 0 (cap - r.length) [] rfl ⟨rfl, fun j u hj => by simp at hj, fun u hu => by simp at hu⟩ (by unfold maxLen; omega) (by omega) hz2 ?_; intro v3 w3 hown3 hgrow3 hnil3; have hb3 := hb2.grown hgrow3 hz2 (fun q hq => (HO2.out.lt q hq).1); have HO3 := Lib.hid (sh_join_end (HSRC.out.below (hb1.trans (hb3.mono hz1)) (Nat.le_refl _)) hk HJ.out (by rw [HVK.out]; exact hown3)); have hbF := hb1.trans (hb3.mono hz1); clear hown3 hgrow3 hnil3) | (go_at_call 44; refine (l3Copy_any _ (joinK r id at' k) _ HO3.out.at (by omega) (fun j hj => by have := HE2.out j hj; omega)).mono ?_; rintro e w5 ⟨u5, rfl, hO5, hb5⟩))
      go_ret2
      exact ⟨_, rfl, hO5.mono hbF.size, hbF.trans (hb5.mono hbF.size)⟩

set_option maxRecDepth 100000 in
set_option maxHeartbeats 1000000 in
theorem sRingJoin_no (v : Value) (r : List Nd) (id at' : Int) (w : World) (hv : RingAt w v r) (hc : (ringSafe r && okP id && okP at') = false) :
    Calls Try.prog 36 #[v, .int .i64 id, .int .i64 at'] w fun e w' => ∃ u, e = .returned (.tuple #[u, .bool (rJoinOk r id at')]) ∧ RingOwn w' w.heap.size u (rJoin r id at') ∧ Below w.heap.size w w' := by
  unfold rJoinOk rJoin
  rw [stepR_no hc, stepB_no hc]
  cases hs : ringSafe r
  · have HS := Lib.hid hs
    clear hs hc
    go_enter Try.func36, Try.ntmps36
    go_wp2_with (first | (go_at_call 17; refine (sRingSafe_any _ r _ hv).mono ?_; rw [HS.out]; rintro e w1 ⟨rfl, hb1⟩))
    go_ret2
    exact ⟨_, rfl, (RingOwn.made w1 _ rfl).mono hb1.size, hb1.alloc hb1.size _⟩
  have HS := Lib.hid hs
  cases hp : okP id
  · have HP := Lib.hid hp
    clear hs hp hc
    go_enter Try.func36, Try.ntmps36
    go_wp2_with (first | (go_at_call 17; refine (sRingSafe_any _ r _ hv).mono ?_; rw [HS.out]; rintro e w1 ⟨rfl, hb1⟩) | (go_at_call 78; refine (l1Point_any _ _).mono ?_; rw [HP.out]; rintro e w' ⟨rfl, rfl⟩))
    go_ret2
    exact ⟨_, rfl, (RingOwn.made w1 _ rfl).mono hb1.size, hb1.alloc hb1.size _⟩
  have HP := Lib.hid hp
  have HQ := Lib.hid (show okP at' = false by rw [hs, hp] at hc; simpa using hc)
  clear hs hp hc
  go_enter Try.func36, Try.ntmps36
  go_wp2_with (first | (go_at_call 17; refine (sRingSafe_any _ r _ hv).mono ?_; rw [HS.out]; rintro e w1 ⟨rfl, hb1⟩) | (go_at_call_of 78 (Value.int IntKind.i64 id); refine (l1Point_any id _).mono ?_; rw [HP.out]; rintro e w' ⟨rfl, rfl⟩) | (go_at_call 78; refine (l1Point_any at' _).mono ?_; rw [HQ.out]; rintro e w' ⟨rfl, rfl⟩))
  go_ret2
  exact ⟨_, rfl, (RingOwn.made w1 _ rfl).mono hb1.size, hb1.alloc hb1.size _⟩


set_option maxRecDepth 100000 in
set_option maxHeartbeats 2000000 in
theorem sRingJoin_yes (v : Value) (r : List Nd) (id at' : Int) (w : World) (hv : RingAt w v r) (hs : ringSafe r = true) (hp : okP id = true) (hq : okP at' = true) :
    Calls Try.prog 36 #[v, .int .i64 id, .int .i64 at'] w fun e w' => ∃ u, e = .returned (.tuple #[u, .bool (rJoinOk r id at')]) ∧ RingOwn w' w.heap.size u (rJoin r id at') ∧ Below w.heap.size w w' := by
  have HV := Lib.hid hv
  have HS := Lib.hid hs
  have HP := Lib.hid hp
  have HQ := Lib.hid hq
  have HC := Lib.hid (show (ringSafe r && okP id && okP at') = true by rw [hs, hp, hq]; rfl)
  have hsh := safe_shape hs
  have hr10 : r.length ≤ 10 := hsh.1
  have HL := Lib.hid hsh.len
  have HSH := Lib.hid hsh
  have hpos := ringSafe_pos hs
  clear hs hp hq hsh
  obtain ⟨b, o, cap, vs, rfl, hc1, hc2, hsrc⟩ := hv.srcs hpos
  rcases fnd_cases r at' with ⟨hf, -⟩ | ⟨k, hk, hf, -, -⟩
  · have HF := Lib.hid hf
    clear hf
    go_enter Try.func36, Try.ntmps36
    go_wp2_with (first | (go_at_call 17; refine (sRingSafe_any _ r _ HV.out).mono ?_; rw [HS.out]; rintro e w1 ⟨rfl, hb1⟩) | (go_at_call_of 78 (Value.int IntKind.i64 id); refine (l1Point_any id _).mono ?_; rw [HP.out]; rintro e w' ⟨rfl, rfl⟩) | (go_at_call 78; refine (l1Point_any at' _).mono ?_; rw [HQ.out]; rintro e w' ⟨rfl, rfl⟩) | (go_at_call_of 79 (Value.int IntKind.i64 id); refine (l3Find_any _ r id _ (by exact HV.out.below hb1 (Nat.le_refl _))).mono ?_; rw [HX.out]; rintro e w' ⟨rfl, rfl⟩) | (go_at_call 79; refine (l3Find_any _ r at' _ (by exact HV.out.below hb1 (Nat.le_refl _))).mono ?_; rw [HF.out]; rintro e w' ⟨rfl, rfl⟩) | (go_at_call 80; refine (sBetween_is _ _ _ _ HT.out _).mono ?_; rintro e w' ⟨rfl, rfl⟩) | (go_at_call 44; refine (l3Copy_any _ r _ (by exact HV.out.below hb1 (Nat.le_refl _)) (by omega) HL.out).mono ?_; rintro e w2 ⟨u, rfl, hO, hB1⟩))
    go_ret2
    unfold rJoinOk rJoin
    rw [stepR_miss HC.out HF.out, stepB_miss HF.out]
    exact ⟨_, rfl, hO.mono hb1.size, hb1.trans (hB1.mono hb1.size)⟩
  have HF := Lib.hid hf
  have hd : joinOk r id at' k = (decide (fnd r id < 0) && decide (r.length < 10) && btw at' id (a0 (r.getD k default))) := rfl
  have HD := Lib.hid hd
  clear hf hd
  rcases fnd_cases r id with ⟨hx, -⟩ | ⟨j, hj, hx, -, -⟩
  rotate_left
  · have HX := Lib.hid hx
    have HOK := Lib.hid (show joinOk r id at' k = false by rw [HD.out, hx, decide_eq_false (show ¬ ((j : Int) < 0) by omega)]; rfl)
    clear hx
    go_enter Try.func36, Try.ntmps36
    go_wp2_with (first | (go_at_call 17; refine (sRingSafe_any _ r _ HV.out).mono ?_; rw [HS.out]; rintro e w1 ⟨rfl, hb1⟩) | (go_at_call_of 78 (Value.int IntKind.i64 id); refine (l1Point_any id _).mono ?_; rw [HP.out]; rintro e w' ⟨rfl, rfl⟩) | (go_at_call 78; refine (l1Point_any at' _).mono ?_; rw [HQ.out]; rintro e w' ⟨rfl, rfl⟩) | (go_at_call_of 79 (Value.int IntKind.i64 id); refine (l3Find_any _ r id _ (by exact HV.out.below hb1 (Nat.le_refl _))).mono ?_; rw [HX.out]; rintro e w' ⟨rfl, rfl⟩) | (go_at_call 79; refine (l3Find_any _ r at' _ (by exact HV.out.below hb1 (Nat.le_refl _))).mono ?_; rw [HF.out]; rintro e w' ⟨rfl, rfl⟩) | (go_at_call 80; refine (sBetween_is _ _ _ _ HT.out _).mono ?_; rintro e w' ⟨rfl, rfl⟩) | (go_at_call 44; refine (l3Copy_any _ r _ (by exact HV.out.below hb1 (Nat.le_refl _)) (by omega) HL.out).mono ?_; rintro e w2 ⟨u, rfl, hO, hB1⟩))
    go_ret2
    unfold rJoinOk rJoin
    rw [stepR_hit HC.out HF.out, stepB_hit HC.out HF.out, HOK.out]
    exact ⟨_, rfl, by simpa using hO.mono hb1.size, hb1.trans (hB1.mono hb1.size)⟩
  have HX := Lib.hid hx
  by_cases hl : r.length < 10
  rotate_left
  · have HOK := Lib.hid (show joinOk r id at' k = false by rw [HD.out, hx, decide_eq_false hl]; simp)
    have hl' : 10 ≤ r.length := by omega
    clear hx hl
    go_enter Try.func36, Try.ntmps36
    go_wp2_with (first | (go_at_call 17; refine (sRingSafe_any _ r _ HV.out).mono ?_; rw [HS.out]; rintro e w1 ⟨rfl, hb1⟩) | (go_at_call_of 78 (Value.int IntKind.i64 id); refine (l1Point_any id _).mono ?_; rw [HP.out]; rintro e w' ⟨rfl, rfl⟩) | (go_at_call 78; refine (l1Point_any at' _).mono ?_; rw [HQ.out]; rintro e w' ⟨rfl, rfl⟩) | (go_at_call_of 79 (Value.int IntKind.i64 id); refine (l3Find_any _ r id _ (by exact HV.out.below hb1 (Nat.le_refl _))).mono ?_; rw [HX.out]; rintro e w' ⟨rfl, rfl⟩) | (go_at_call 79; refine (l3Find_any _ r at' _ (by exact HV.out.below hb1 (Nat.le_refl _))).mono ?_; rw [HF.out]; rintro e w' ⟨rfl, rfl⟩) | (go_at_call 80; refine (sBetween_is _ _ _ _ HT.out _).mono ?_; rintro e w' ⟨rfl, rfl⟩) | (go_at_call 44; refine (l3Copy_any _ r _ (by exact HV.out.below hb1 (Nat.le_refl _)) (by omega) HL.out).mono ?_; rintro e w2 ⟨u, rfl, hO, hB1⟩))
    go_ret2
    unfold rJoinOk rJoin
    rw [stepR_hit HC.out HF.out, stepB_hit HC.out HF.out, HOK.out]
    exact ⟨_, rfl, by simpa using hO.mono hb1.size, hb1.trans (hB1.mono hb1.size)⟩
  obtain ⟨b', o', bk, ok, ck, e1, -, -, -, hck, hck', -, hbk, k0, k1, k2, k3, -⟩ := hv.node hk (HSH.out.two hk)
  cases e1
  have HSRC := Lib.hid hsrc
  obtain ⟨x0, hx0⟩ : ∃ x, a0 (r.getD k default) = x := ⟨_, rfl⟩
  rw [hx0] at k3 HD
  have HX0 := Lib.hid hx0
  unfold maxLen at hc2
  have hbl : b < w.heap.size := hsrc.lt
  clear hsrc hx0 k0 k1 hv
  cases ht : btw at' id x0
  · have HT := Lib.hid ht
    have HOK := Lib.hid (show joinOk r id at' k = false by rw [HD.out, ht]; simp)
    clear hx ht
    have hcc : ∀ w1 : World, Below w.heap.size w w1 → w1.cell? ⟨b, o + k * 3 + 2, none⟩ = some (.slice (some ⟨bk, ok, none⟩) 2 ck) ∧ w1.cell? ⟨bk, ok, none⟩ = some (.int .i64 x0) := fun _ hb => ⟨(hb.cell (p := ⟨b, o + k * 3 + 2, none⟩) hbl).trans k2, (hb.cell (p := ⟨bk, ok, none⟩) hbk).trans k3⟩
    have HCC := Lib.hid hcc
    clear hcc
    go_enter Try.func36, Try.ntmps36
    go_wp2_with (first | (go_at_call 17; refine (sRingSafe_any _ r _ HV.out).mono ?_; rw [HS.out]; rintro e w1 ⟨rfl, hb1⟩; obtain ⟨q2, q3⟩ := HCC.out _ hb1) | (go_at_call_of 78 (Value.int IntKind.i64 id); refine (l1Point_any id _).mono ?_; rw [HP.out]; rintro e w' ⟨rfl, rfl⟩) | (go_at_call 78; refine (l1Point_any at' _).mono ?_; rw [HQ.out]; rintro e w' ⟨rfl, rfl⟩) | (go_at_call_of 79 (Value.int IntKind.i64 id); refine (l3Find_any _ r id _ (by exact HV.out.below hb1 (Nat.le_refl _))).mono ?_; rw [HX.out]; rintro e w' ⟨rfl, rfl⟩) | (go_at_call 79; refine (l3Find_any _ r at' _ (by exact HV.out.below hb1 (Nat.le_refl _))).mono ?_; rw [HF.out]; rintro e w' ⟨rfl, rfl⟩) | (go_at_call 80; refine (sBetween_is _ _ _ _ HT.out _).mono ?_; rintro e w' ⟨rfl, rfl⟩) | (go_at_call 44; refine (l3Copy_any _ r _ (by exact HV.out.below hb1 (Nat.le_refl _)) (by omega) HL.out).mono ?_; rintro e w2 ⟨u, rfl, hO, hB1⟩))
    go_ret2
    unfold rJoinOk rJoin
    rw [stepR_hit HC.out HF.out, stepB_hit HC.out HF.out, HOK.out]
    exact ⟨_, rfl, by simpa using hO.mono hb1.size, hb1.trans (hB1.mono hb1.size)⟩
  · have HOK := Lib.hid (show joinOk r id at' k = true by rw [HD.out, hx, ht, decide_eq_true hl]; rfl)
    have hgo := sRingJoin_go _ r id at' k w HV.out HS.out HP.out HQ.out hk HF.out hx hl (by rw [HX0.out]; exact ht)
    unfold rJoinOk rJoin
    rw [stepR_hit HC.out HF.out, stepB_hit HC.out HF.out, HOK.out]
    simpa using hgo

theorem sRingJoin_any (v : Value) (r : List Nd) (id at' : Int) (w : World) (hv : RingAt w v r) :
    Calls Try.prog 36 #[v, .int .i64 id, .int .i64 at'] w fun e w' => ∃ u, e = .returned (.tuple #[u, .bool (rJoinOk r id at')]) ∧ RingOwn w' w.heap.size u (rJoin r id at') ∧ Below w.heap.size w w' := by
  cases hc : (ringSafe r && okP id && okP at')
  · exact sRingJoin_no v r id at' w hv hc
  · simp only [Bool.and_eq_true] at hc
    exact sRingJoin_yes v r id at' w hv hc.1.1 hc.1.2 hc.2

end Go.Proofs.Ytojpfbbgpcafnaa
