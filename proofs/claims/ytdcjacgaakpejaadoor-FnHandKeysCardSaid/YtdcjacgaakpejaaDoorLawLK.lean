/-
  Walks: the law FnHandKeys.
-/
import Derived.Test.YtdcjacgaakpejaaDoorLawLC
namespace Go.Proofs.YtdcjacgaakpejaaDoor
open Go.RowKit

/-- '==' at a struct type T of three integers. -/
def EqT (P : Program) (T : TypeId) : Prop := ∀ (x y : Tr) (w : World), (binOp .eql T (.agg #[.int .i64 x.a, .int .i64 x.b, .int .i64 x.c]) (.agg #[.int .i64 y.a, .int .i64 y.b, .int .i64 y.c])).run P w = .ok (.bool (decide (x = y))) w
theorem eqT_of {P : Program} {T ti : TypeId} (ht : P.underlying T = some (.struct (P.fieldsOf T))) (hp : P.stoodInHeld T = false) (hti : P.underlying ti = some (.int .i64)) (hai : ∀ w, (isAgg ti).run P w = .ok false w)
    (h : (P.fieldsOf T).toList.map (fun f => (f.name == "_", f.type, f.offset)) = [(false, ti, 0), (false, ti, 1), (false, ti, 2)]) : EqT P T := fun x y w => by
  rw [run_eql_struct, run_equalIn_agg w 9999 T _ _ ht hp, eqFields3 9998 ti hti x y w _ h (fun a b c i v hv => by simp [part, hai, hv])]
  rfl
theorem Tryd.eqLease : EqT Tryd.prog 35 := eqT_of (ti := 3) (by kernel_rfl) (by kernel_rfl) Tryd.underlying3 (fun w => by kernel_rfl) (by kernel_rfl)

theorem okP_nat {k : Nat} (h : k < 64) : okP (k : Int) = true := by simp [okP]; omega
theorem keys_round {xs R : List Tr} {fr at' to' un : Int} (h : handOk xs fr at' to' un = true) (hR : handR xs fr at' to' un = R) {k : Nat} (hk : k < 64) :
    leaseOf R k = if decide (leaseOf xs k = leaseOf xs at') && (if (leaseOf xs at').a < at' then decide ((leaseOf xs at').a < k) && decide ((k : Int) ≤ at') else decide ((k : Int) ≤ at') || decide ((leaseOf xs at').a < k)) then ⟨at', to', un⟩ else leaseOf xs k := by
  obtain ⟨hv, -, hat, -⟩ := handOk_facts h
  have hv2 := hand_valid h
  have hh := hand_hold h k
  rw [hR] at hv2 hh
  rw [leaseOf_yes hv2 (okP_nat hk), leaseOf_yes hv (okP_nat hk), leaseOf_yes hv hat, hh]
  rfl

set_option maxRecDepth 100000 in
set_option maxHeartbeats 8000000 in
theorem lawHandKeys_any (v : Value) (a0 a1 : Addr) (w : World) (h : CodeAt w v) (hL : Laid w a0 a1) :
    Calls Tryd.prog 6 #[v] w fun e w' => e = .returned (.bool true) ∧ Below w.heap.size w w' := by
  have H := Lib.hid h
  have HL := Lib.hid hL
  obtain ⟨pb, n, cap, rfl, hn1, hn2, -⟩ := h
  unfold maxLen at hn2
  clear hL
  by_cases hbig : 1048576 < n
  · go_enter Tryd.func6, Tryd.ntmps6
    go_wp2
    go_ret
    exact ⟨rfl, Below.refl _ _⟩
  have hbig' : n ≤ 1048576 := by omega
  clear hbig
  go_enter Tryd.func6, Tryd.ntmps6
  go_wp2_with fail
  refine (drawLeaseHand_any _ _ H.out).mono ?_
  rintro e w1 ⟨u, xs, fr, at', to', un, rfl, hu, hb1⟩
  have HU := Lib.hid hu
  obtain ⟨pu, cu, rfl, hu1, hu2⟩ := hu.form
  have HLx := Lib.hid (HL.out.below hb1 (Nat.le_refl _))
  obtain ⟨R, hR⟩ : ∃ R, handR xs fr at' to' un = R := ⟨_, rfl⟩
  obtain ⟨c, hc⟩ : ∃ c, handOk xs fr at' to' un = c := ⟨_, rfl⟩
  have HR := Lib.hid hR
  have HC := Lib.hid hc
  clear hu hR hc
  go_wp2_with fail
  refine (iLeaseHand_any _ xs fr at' to' un a0 a1 _ HU.out HLx.out).mono ?_
  rw [HR.out, HC.out]
  rintro e w2 ⟨uo, rfl, hO2, hb2⟩
  have hb02 := hb1.trans (hb2.mono hb1.size)
  go_wp2_with fail
  refine (sLeaseHand_any _ xs fr at' to' un _ (by exact HU.out.below hb2 (Nat.le_refl _))).mono ?_
  rw [HR.out, HC.out]
  rintro e w3 ⟨ut, rfl, hT3, hb3⟩
  have hb03 := hb02.trans (hb3.mono hb02.size)
  have hb13 := hb2.trans (hb3.mono hb2.size)
  have hO3 := Lib.hid (hO2.at.below hb3 (Nat.le_refl _))
  have hU3 := Lib.hid (HU.out.below hb13 (Nat.le_refl _))
  have hT3' := Lib.hid hT3.at
  clear hO2 hT3
  have hcc : (c != c) = false := by simp
  have hcc' : (c == c) = true := by simp
  cases c
  · go_wp2_with fail
    refine (sameLeases_any _ _ R R _ hO3.out hT3'.out).mono ?_
    rw [decide_eq_true rfl]
    rintro e w4 ⟨rfl, hb4⟩
    go_wp2_with fail
    refine (sameLeases_any _ _ R R _ (by exact hO3.out.below hb4 (Nat.le_refl _)) (by exact hT3'.out.below hb4 (Nat.le_refl _))).mono ?_
    rw [decide_eq_true rfl]
    rintro e w5 ⟨rfl, hb5⟩
    go_wp2
    go_ret
    exact ⟨rfl, (hb03.trans (hb4.mono hb03.size)).trans (hb5.mono (hb03.trans (hb4.mono hb03.size)).size)⟩
  go_wp2_with fail
  refine (sameLeases_any _ _ R R _ hO3.out hT3'.out).mono ?_
  rw [decide_eq_true rfl]
  rintro e w4 ⟨rfl, hb4⟩
  have hb04 := hb03.trans (hb4.mono hb03.size)
  have hU4 := Lib.hid (hU3.out.below hb4 (Nat.le_refl _))
  have hO4 := Lib.hid (hO3.out.below hb4 (Nat.le_refl _))
  have HL4 := Lib.hid (HL.out.below hb04 (Nat.le_refl _))
  clear hU3 hO3 hT3'
  have hv2 := hand_valid HC.out
  rw [HR.out] at hv2
  have HV2 := Lib.hid hv2
  obtain ⟨x, hx⟩ : ∃ x, leaseOf xs at' = x := ⟨_, rfl⟩
  have HX := Lib.hid hx
  have HK := Lib.hid fun (k : Nat) (hk : k < 64) => keys_round HC.out HR.out hk
  rw [hx] at HK
  clear hv2 hx
  obtain ⟨po, co, rfl, -, -⟩ := hO4.out.form
  go_wp2_with fail
  refine (leaseOf_any _ xs at' _ hU4.out).mono ?_
  rw [HX.out]
  rintro e w5 ⟨rfl, hb5⟩
  have hb05 := hb04.trans (hb5.mono hb04.size)
  have hb06 := hb05.alloc hb05.size (.cells #[.int .i64 x.a, .int .i64 x.b, .int .i64 x.c] 35)
  have hb46 := (hb5.alloc hb5.size (.cells #[.int .i64 x.a, .int .i64 x.b, .int .i64 x.c] 35))
  obtain ⟨x0, x1, x2, -, xl, -⟩ := box_tr (Below.refl _ (w5.alloc (.cells #[.int .i64 x.a, .int .i64 x.b, .int .i64 x.c] 35)))
  go_wp2
  obtain ⟨B, hBx⟩ : ∃ B, w5.heap.size = B := ⟨_, rfl⟩
  rw [hBx] at x0 x1 x2 xl ⊢
  obtain ⟨W, hW⟩ : ∃ W, w5.alloc (.cells #[.int .i64 x.a, .int .i64 x.b, .int .i64 x.c] 35) = W := ⟨_, rfl⟩
  rw [hW] at x0 x1 x2 xl hb06 hb46 ⊢
  clear hW hBx hb05 hb04 hb5
  go_loopw [14] (fun s wr => ∃ k : Nat, k ≤ 64 ∧ s = .int .i64 k ∧ Below W.heap.size W wr) (fun s _ => 64 - (intOf s).toNat)
  case atStart => exact ⟨0, Nat.zero_le _, rfl, Below.refl _ _⟩
  case round =>
    obtain ⟨k, hk, rfl, hbel⟩ := hrel
    have hb4r := hb46.trans (hbel.mono hb46.size)
    by_cases hlt : k < 64
    · have hzk := HK.out k hlt
      obtain ⟨y, hy⟩ : ∃ y, leaseOf xs k = y := ⟨_, rfl⟩
      obtain ⟨z, hz⟩ : ∃ z, leaseOf R k = z := ⟨_, rfl⟩
      rw [hy, hz] at hzk
      have HY := Lib.hid hy
      have HZ := Lib.hid hz
      have HZK := Lib.hid hzk
      clear hy hz hzk
      go_wp2_with fail
      refine (holder_any _ xs (k : Int) _ (by exact hU4.out.below hb4r (Nat.le_refl _))).mono ?_
      rw [HY.out]
      rintro e w7 ⟨rfl, hb7⟩
      have hb47 := hb4r.trans (hb7.mono hb4r.size)
      go_wp2_with fail
      refine (holder_any _ R (k : Int) _ (by exact hO4.out.below hb47 (Nat.le_refl _))).mono ?_
      rw [HZ.out]
      rintro e w8 ⟨rfl, hb8⟩
      have hb48 := hb47.trans (hb8.mono hb47.size)
      go_wp2_with fail
      refine (leaseOf_any _ xs (k : Int) _ (by exact hU4.out.below hb48 (Nat.le_refl _))).mono ?_
      rw [HY.out]
      rintro e w9 ⟨rfl, hb9⟩
      have hW8 := (hbel.trans (hb7.mono hbel.size)).trans (hb8.mono (hbel.trans (hb7.mono hbel.size)).size)
      have hW9 := hW8.trans (hb9.mono hW8.size)
      have hWA := hW9.alloc hW9.size (.cells #[.int .i64 y.a, .int .i64 y.b, .int .i64 y.c] 35)
      obtain ⟨y0, y1, y2, -, yl, -⟩ := box_tr (Below.refl _ (w9.alloc (.cells #[.int .i64 y.a, .int .i64 y.b, .int .i64 y.c] 35)))
      have c0 := (hWA.cell (p := ⟨B, 0, none⟩) xl).trans x0
      have c1 := (hWA.cell (p := ⟨B, 1, none⟩) xl).trans x1
      have c2 := (hWA.cell (p := ⟨B, 2, none⟩) xl).trans x2
      clear hb4r hb47 hb48 hb7 hb8 hb9 hW8
      have hk0 : (0 : Int) ≤ (k : Int) := by omega
      by_cases hyx : y = x
      · have hq : ∀ w, (binOp .eql 35 (.agg #[.int .i64 y.a, .int .i64 y.b, .int .i64 y.c]) (.agg #[.int .i64 x.a, .int .i64 x.b, .int .i64 x.c])).run Tryd.prog w = .ok (.bool true) w := fun w => by
          have := Tryd.eqLease y x w
          rw [decide_eq_true hyx] at this
          exact this
        subst hyx
        by_cases hax : y.a < at'
        · have hax' : decide (y.a < at') = true := decide_eq_true hax
          by_cases h1 : y.a < (k : Int)
          · by_cases h2 : (k : Int) ≤ at'
            · have hz : z = ⟨at', to', un⟩ := by
                have := HZK.out
                rw [decide_eq_true rfl, Bool.true_and, if_pos hax, decide_eq_true h1, decide_eq_true h2, Bool.and_self, if_pos rfl] at this
                exact this
              subst hz
              clear HZK
              go_wp2
              go_roundw
              case rel => exact ⟨k + 1, by omega, by go_num, by first | exact hWA | exact below_drewN hWA _ | exact below_drewN (below_drewN hWA _) _⟩
              case measure => simp [intOf]; omega
            · have hz : z = y := by
                have := HZK.out
                rw [decide_eq_true rfl, Bool.true_and, if_pos hax, decide_eq_true h1, decide_eq_false h2, Bool.and_false, if_neg Bool.false_ne_true] at this
                exact this
              subst hz
              clear HZK
              go_wp2
              go_roundw
              case rel => exact ⟨k + 1, by omega, by go_num, by first | exact hWA | exact below_drewN hWA _ | exact below_drewN (below_drewN hWA _) _⟩
              case measure => simp [intOf]; omega
          · have hz : z = y := by
              have := HZK.out
              rw [decide_eq_true rfl, Bool.true_and, if_pos hax, decide_eq_false h1, Bool.false_and, if_neg Bool.false_ne_true] at this
              exact this
            subst hz
            clear HZK
            go_wp2
            go_roundw
            case rel => exact ⟨k + 1, by omega, by go_num, by first | exact hWA | exact below_drewN hWA _ | exact below_drewN (below_drewN hWA _) _⟩
            case measure => simp [intOf]; omega
        · have hax' : decide (y.a < at') = false := decide_eq_false hax
          by_cases h2 : (k : Int) ≤ at'
          · have hz : z = ⟨at', to', un⟩ := by
              have := HZK.out
              rw [decide_eq_true rfl, Bool.true_and, if_neg hax, decide_eq_true h2, Bool.true_or, if_pos rfl] at this
              exact this
            subst hz
            clear HZK
            go_wp2
            go_roundw
            case rel => exact ⟨k + 1, by omega, by go_num, by first | exact hWA | exact below_drewN hWA _ | exact below_drewN (below_drewN hWA _) _⟩
            case measure => simp [intOf]; omega
          · by_cases h1 : y.a < (k : Int)
            · have hz : z = ⟨at', to', un⟩ := by
                have := HZK.out
                rw [decide_eq_true rfl, Bool.true_and, if_neg hax, decide_eq_false h2, decide_eq_true h1, Bool.false_or, if_pos rfl] at this
                exact this
              subst hz
              clear HZK
              go_wp2
              go_roundw
              case rel => exact ⟨k + 1, by omega, by go_num, by first | exact hWA | exact below_drewN hWA _ | exact below_drewN (below_drewN hWA _) _⟩
              case measure => simp [intOf]; omega
            · have hz : z = y := by
                have := HZK.out
                rw [decide_eq_true rfl, Bool.true_and, if_neg hax, decide_eq_false h2, decide_eq_false h1, Bool.or_self, if_neg Bool.false_ne_true] at this
                exact this
              subst hz
              clear HZK
              go_wp2
              go_roundw
              case rel => exact ⟨k + 1, by omega, by go_num, by first | exact hWA | exact below_drewN hWA _ | exact below_drewN (below_drewN hWA _) _⟩
              case measure => simp [intOf]; omega
      · have hq : ∀ w, (binOp .eql 35 (.agg #[.int .i64 y.a, .int .i64 y.b, .int .i64 y.c]) (.agg #[.int .i64 x.a, .int .i64 x.b, .int .i64 x.c])).run Tryd.prog w = .ok (.bool false) w := fun w => by
          have := Tryd.eqLease y x w
          rw [decide_eq_false hyx] at this
          exact this
        have hzy : z = y := by
          have := HZK.out
          rw [decide_eq_false hyx, Bool.false_and] at this
          exact this
        subst hzy
        clear HZK hyx
        by_cases hax : x.a < at'
        · have hax' : decide (x.a < at') = true := decide_eq_true hax
          go_wp2
          go_roundw
          case rel => exact ⟨k + 1, by omega, by go_num, by first | exact hWA | exact below_drewN hWA _ | exact below_drewN (below_drewN hWA _) _⟩
          case measure => simp [intOf]; omega
        · have hax' : decide (x.a < at') = false := decide_eq_false hax
          go_wp2
          go_roundw
          case rel => exact ⟨k + 1, by omega, by go_num, by first | exact hWA | exact below_drewN hWA _ | exact below_drewN (below_drewN hWA _) _⟩
          case measure => simp [intOf]; omega
    · obtain rfl : k = 64 := by omega
      go_wp2_with (go_at_call 21; refine (iLeasesValid_any _ R _ (by exact hO4.out.below hb4r (Nat.le_refl _))).mono ?_; rw [HV2.out]; rintro e w7 ⟨rfl, hb7⟩)
      go_ret
      exact ⟨rfl, (hb06.trans (hbel.mono hb06.size)).trans (hb7.mono (hb06.trans (hbel.mono hb06.size)).size)⟩

end Go.Proofs.YtdcjacgaakpejaaDoor
