/-
  Contracts: RingJoin of the reference.
-/
import Derived.Test.YtnoamohpkngbdaaSJoin0
namespace Go.Proofs.Ytnoamohpkngbdaa
open Go.RowKit

set_option maxRecDepth 100000 in
set_option maxHeartbeats 1000000 in
theorem sRingJoin_no (v : Value) (r : List Nd) (id at' : Int) (w : World) (hv : RingAt w v r) (hc : (ringSafe r && okP id && okP at') = false) :
    Calls Try.prog 88 #[v, .int .i64 id, .int .i64 at'] w fun e w' => ∃ u, e = .returned (.tuple #[u, .bool (rJoinOk r id at')]) ∧ RingOwn w' w.heap.size u (rJoin r id at') ∧ Below w.heap.size w w' := by
  unfold rJoinOk rJoin
  rw [stepR_no hc, stepB_no hc]
  cases hs : ringSafe r
  · have HS := Lib.hid hs
    clear hs hc
    go_enter Try.func88, Try.ntmps88
    go_wp2_with (first | (go_at_call 35; refine (sRingSafe_any _ r _ hv).mono ?_; rw [HS.out]; rintro e w1 ⟨rfl, hb1⟩))
    go_ret2
    exact ⟨_, rfl, (RingOwn.made w1 _ rfl).mono hb1.size, hb1.alloc hb1.size _⟩
  have HS := Lib.hid hs
  cases hp : okP id
  · have HP := Lib.hid hp
    clear hs hp hc
    go_enter Try.func88, Try.ntmps88
    go_wp2_with (first | (go_at_call 35; refine (sRingSafe_any _ r _ hv).mono ?_; rw [HS.out]; rintro e w1 ⟨rfl, hb1⟩) | (go_at_call 54; refine (l1Point_any _ _).mono ?_; rw [HP.out]; rintro e w' ⟨rfl, rfl⟩))
    go_ret2
    exact ⟨_, rfl, (RingOwn.made w1 _ rfl).mono hb1.size, hb1.alloc hb1.size _⟩
  have HP := Lib.hid hp
  have HQ := Lib.hid (show okP at' = false by rw [hs, hp] at hc; simpa using hc)
  clear hs hp hc
  go_enter Try.func88, Try.ntmps88
  go_wp2_with (first | (go_at_call 35; refine (sRingSafe_any _ r _ hv).mono ?_; rw [HS.out]; rintro e w1 ⟨rfl, hb1⟩) | (go_at_call_of 54 (Value.int IntKind.i64 id); refine (l1Point_any id _).mono ?_; rw [HP.out]; rintro e w' ⟨rfl, rfl⟩) | (go_at_call 54; refine (l1Point_any at' _).mono ?_; rw [HQ.out]; rintro e w' ⟨rfl, rfl⟩))
  go_ret2
  exact ⟨_, rfl, (RingOwn.made w1 _ rfl).mono hb1.size, hb1.alloc hb1.size _⟩


set_option maxRecDepth 100000 in
set_option maxHeartbeats 2000000 in
theorem sRingJoin_yes (v : Value) (r : List Nd) (id at' : Int) (w : World) (hv : RingAt w v r) (hs : ringSafe r = true) (hp : okP id = true) (hq : okP at' = true) :
    Calls Try.prog 88 #[v, .int .i64 id, .int .i64 at'] w fun e w' => ∃ u, e = .returned (.tuple #[u, .bool (rJoinOk r id at')]) ∧ RingOwn w' w.heap.size u (rJoin r id at') ∧ Below w.heap.size w w' := by
  have HV := Lib.hid hv
  have HS := Lib.hid hs
  have HP := Lib.hid hp
  have HQ := Lib.hid hq
  have HC := Lib.hid (show (ringSafe r && okP id && okP at') = true by rw [hs, hp, hq]; rfl)
  have hsh := safe_shape hs
  have hr10 : r.length ≤ 10 := hsh.1
  have HL := Lib.hid hsh.len
  have HSH := Lib.hid hsh
  have hpos := ringSafe_pos hs
  clear hs hp hq hsh
  obtain ⟨b, o, cap, vs, rfl, hc1, hc2, hsrc⟩ := hv.srcs hpos
  rcases fnd_cases r at' with ⟨hf, -⟩ | ⟨k, hk, hf, -, -⟩
  · have HF := Lib.hid hf
    clear hf
    go_enter Try.func88, Try.ntmps88
    go_wp2_with (first | (go_at_call 35; refine (sRingSafe_any _ r _ HV.out).mono ?_; rw [HS.out]; rintro e w1 ⟨rfl, hb1⟩) | (go_at_call_of 54 (Value.int IntKind.i64 id); refine (l1Point_any id _).mono ?_; rw [HP.out]; rintro e w' ⟨rfl, rfl⟩) | (go_at_call 54; refine (l1Point_any at' _).mono ?_; rw [HQ.out]; rintro e w' ⟨rfl, rfl⟩) | (go_at_call_of 81 (Value.int IntKind.i64 id); refine (l3Find_any _ r id _ (by exact HV.out.below hb1 (Nat.le_refl _))).mono ?_; rw [HX.out]; rintro e w' ⟨rfl, rfl⟩) | (go_at_call 81; refine (l3Find_any _ r at' _ (by exact HV.out.below hb1 (Nat.le_refl _))).mono ?_; rw [HF.out]; rintro e w' ⟨rfl, rfl⟩) | (go_at_call 86; refine (sBetween_is _ _ _ _ HT.out _).mono ?_; rintro e w' ⟨rfl, rfl⟩) | (go_at_call 78; refine (l3Copy_any _ r _ (by exact HV.out.below hb1 (Nat.le_refl _)) (by omega) HL.out).mono ?_; rintro e w2 ⟨u, rfl, hO, hB1⟩))
    go_ret2
    unfold rJoinOk rJoin
    rw [stepR_miss HC.out HF.out, stepB_miss HF.out]
    exact ⟨_, rfl, hO.mono hb1.size, hb1.trans (hB1.mono hb1.size)⟩
  have HF := Lib.hid hf
  have hd : joinOk r id at' k = (decide (fnd r id < 0) && decide (r.length < 10) && btw at' id (a0 (r.getD k default))) := rfl
  have HD := Lib.hid hd
  clear hf hd
  rcases fnd_cases r id with ⟨hx, -⟩ | ⟨j, hj, hx, -, -⟩
  rotate_left
  · have HX := Lib.hid hx
    have HOK := Lib.hid (show joinOk r id at' k = false by rw [HD.out, hx, decide_eq_false (show ¬ ((j : Int) < 0) by omega)]; rfl)
    clear hx
    go_enter Try.func88, Try.ntmps88
    go_wp2_with (first | (go_at_call 35; refine (sRingSafe_any _ r _ HV.out).mono ?_; rw [HS.out]; rintro e w1 ⟨rfl, hb1⟩) | (go_at_call_of 54 (Value.int IntKind.i64 id); refine (l1Point_any id _).mono ?_; rw [HP.out]; rintro e w' ⟨rfl, rfl⟩) | (go_at_call 54; refine (l1Point_any at' _).mono ?_; rw [HQ.out]; rintro e w' ⟨rfl, rfl⟩) | (go_at_call_of 81 (Value.int IntKind.i64 id); refine (l3Find_any _ r id _ (by exact HV.out.below hb1 (Nat.le_refl _))).mono ?_; rw [HX.out]; rintro e w' ⟨rfl, rfl⟩) | (go_at_call 81; refine (l3Find_any _ r at' _ (by exact HV.out.below hb1 (Nat.le_refl _))).mono ?_; rw [HF.out]; rintro e w' ⟨rfl, rfl⟩) | (go_at_call 86; refine (sBetween_is _ _ _ _ HT.out _).mono ?_; rintro e w' ⟨rfl, rfl⟩) | (go_at_call 78; refine (l3Copy_any _ r _ (by exact HV.out.below hb1 (Nat.le_refl _)) (by omega) HL.out).mono ?_; rintro e w2 ⟨u, rfl, hO, hB1⟩))
    go_ret2
    unfold rJoinOk rJoin
    rw [stepR_hit HC.out HF.out, stepB_hit HC.out HF.out, HOK.out]
    exact ⟨_, rfl, by simpa using hO.mono hb1.size, hb1.trans (hB1.mono hb1.size)⟩
  have HX := Lib.hid hx
  by_cases hl : r.length < 10
  rotate_left
  · have HOK := Lib.hid (show joinOk r id at' k = false by rw [HD.out, hx, decide_eq_false hl]; simp)
    have hl' : 10 ≤ r.length := by omega
    clear hx hl
    go_enter Try.func88, Try.ntmps88
    go_wp2_with (first | (go_at_call 35; refine (sRingSafe_any _ r _ HV.out).mono ?_; rw [HS.out]; rintro e w1 ⟨rfl, hb1⟩) | (go_at_call_of 54 (Value.int IntKind.i64 id); refine (l1Point_any id _).mono ?_; rw [HP.out]; rintro e w' ⟨rfl, rfl⟩) | (go_at_call 54; refine (l1Point_any at' _).mono ?_; rw [HQ.out]; rintro e w' ⟨rfl, rfl⟩) | (go_at_call_of 81 (Value.int IntKind.i64 id); refine (l3Find_any _ r id _ (by exact HV.out.below hb1 (Nat.le_refl _))).mono ?_; rw [HX.out]; rintro e w' ⟨rfl, rfl⟩) | (go_at_call 81; refine (l3Find_any _ r at' _ (by exact HV.out.below hb1 (Nat.le_refl _))).mono ?_; rw [HF.out]; rintro e w' ⟨rfl, rfl⟩) | (go_at_call 86; refine (sBetween_is _ _ _ _ HT.out _).mono ?_; rintro e w' ⟨rfl, rfl⟩) | (go_at_call 78; refine (l3Copy_any _ r _ (by exact HV.out.below hb1 (Nat.le_refl _)) (by omega) HL.out).mono ?_; rintro e w2 ⟨u, rfl, hO, hB1⟩))
    go_ret2
    unfold rJoinOk rJoin
    rw [stepR_hit HC.out HF.out, stepB_hit HC.out HF.out, HOK.out]
    exact ⟨_, rfl, by simpa using hO.mono hb1.size, hb1.trans (hB1.mono hb1.size)⟩
  obtain ⟨b', o', bk, ok, ck, e1, -, -, -, hck, hck', -, hbk, k0, k1, k2, k3, -⟩ := hv.node hk (HSH.out.two hk)
  cases e1
  have HSRC := Lib.hid hsrc
  obtain ⟨x0, hx0⟩ : ∃ x, a0 (r.getD k default) = x := ⟨_, rfl⟩
  rw [hx0] at k3 HD
  have HX0 := Lib.hid hx0
  unfold maxLen at hc2
  have hbl : b < w.heap.size := hsrc.lt
  clear hsrc hx0 k0 k1 hv
  cases ht : btw at' id x0
  · have HT := Lib.hid ht
    have HOK := Lib.hid (show joinOk r id at' k = false by rw [HD.out, ht]; simp)
    clear hx ht
    have hcc : ∀ w1 : World, Below w.heap.size w w1 → w1.cell? ⟨b, o + k * 3 + 2, none⟩ = some (.slice (some ⟨bk, ok, none⟩) 2 ck) ∧ w1.cell? ⟨bk, ok, none⟩ = some (.int .i64 x0) := fun _ hb => ⟨(hb.cell (p := ⟨b, o + k * 3 + 2, none⟩) hbl).trans k2, (hb.cell (p := ⟨bk, ok, none⟩) hbk).trans k3⟩
    have HCC := Lib.hid hcc
    clear hcc
    go_enter Try.func88, Try.ntmps88
    go_wp2_with (first | (go_at_call 35; refine (sRingSafe_any _ r _ HV.out).mono ?_; rw [HS.out]; rintro e w1 ⟨rfl, hb1⟩; obtain ⟨q2, q3⟩ := HCC.out _ hb1) | (go_at_call_of 54 (Value.int IntKind.i64 id); refine (l1Point_any id _).mono ?_; rw [HP.out]; rintro e w' ⟨rfl, rfl⟩) | (go_at_call 54; refine (l1Point_any at' _).mono ?_; rw [HQ.out]; rintro e w' ⟨rfl, rfl⟩) | (go_at_call_of 81 (Value.int IntKind.i64 id); refine (l3Find_any _ r id _ (by exact HV.out.below hb1 (Nat.le_refl _))).mono ?_; rw [HX.out]; rintro e w' ⟨rfl, rfl⟩) | (go_at_call 81; refine (l3Find_any _ r at' _ (by exact HV.out.below hb1 (Nat.le_refl _))).mono ?_; rw [HF.out]; rintro e w' ⟨rfl, rfl⟩) | (go_at_call 86; refine (sBetween_is _ _ _ _ HT.out _).mono ?_; rintro e w' ⟨rfl, rfl⟩) | (go_at_call 78; refine (l3Copy_any _ r _ (by exact HV.out.below hb1 (Nat.le_refl _)) (by omega) HL.out).mono ?_; rintro e w2 ⟨u, rfl, hO, hB1⟩))
    go_ret2
    unfold rJoinOk rJoin
    rw [stepR_hit HC.out HF.out, stepB_hit HC.out HF.out, HOK.out]
    exact ⟨_, rfl, by simpa using hO.mono hb1.size, hb1.trans (hB1.mono hb1.size)⟩
  · have HOK := Lib.hid (show joinOk r id at' k = true by rw [HD.out, hx, ht, decide_eq_true hl]; rfl)
    have hgo := sRingJoin_go _ r id at' k w HV.out HS.out HP.out HQ.out hk HF.out hx hl (by rw [HX0.out]; exact ht)
    unfold rJoinOk rJoin
    rw [stepR_hit HC.out HF.out, stepB_hit HC.out HF.out, HOK.out]
    simpa using hgo

theorem sRingJoin_any (v : Value) (r : List Nd) (id at' : Int) (w : World) (hv : RingAt w v r) :
    Calls Try.prog 88 #[v, .int .i64 id, .int .i64 at'] w fun e w' => ∃ u, e = .returned (.tuple #[u, .bool (rJoinOk r id at')]) ∧ RingOwn w' w.heap.size u (rJoin r id at') ∧ Below w.heap.size w w' := by
  cases hc : (ringSafe r && okP id && okP at')
  · exact sRingJoin_no v r id at' w hv hc
  · simp only [Bool.and_eq_true] at hc
    exact sRingJoin_yes v r id at' w hv hc.1.1 hc.1.2 hc.2

end Go.Proofs.Ytnoamohpkngbdaa
