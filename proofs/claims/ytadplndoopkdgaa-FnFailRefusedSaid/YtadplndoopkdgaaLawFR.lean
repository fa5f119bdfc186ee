/-
  Walks: the law FnFailRefused.
-/
import Derived.Test.YtadplndoopkdgaaLawSF
import Derived.Test.YtadplndoopkdgaaLawS1
namespace Go.Proofs.Ytadplndoopkdgaa
open Go.RowKit

def restTo (r : List Nd) (id : Int) (k : Nat) : List Nd := (r.take k).filter fun n => n.id != id
theorem restTo_yes {r : List Nd} {id : Int} {k : Nat} (hk : k < r.length) (h : ((r.getD k default).id != id) = true) : restTo r id (k + 1) = restTo r id k ++ [r.getD k default] := by
  unfold restTo
  rw [List.take_succ_eq_append_getElem hk, List.filter_append]
  have e : r.getD k default = r[k] := by simp [hk]
  rw [e] at h ⊢
  simp [h]
theorem restTo_no {r : List Nd} {id : Int} {k : Nat} (hk : k < r.length) (h : ((r.getD k default).id != id) = false) : restTo r id (k + 1) = restTo r id k := by
  unfold restTo
  rw [List.take_succ_eq_append_getElem hk, List.filter_append]
  have e : r.getD k default = r[k] := by simp [hk]
  rw [e] at h
  simp [h]
theorem restTo_len (r : List Nd) (id : Int) (k : Nat) : (restTo r id k).length ≤ k := by
  unfold restTo; exact Nat.le_trans (List.length_filter_le _ _) (List.length_take_le _ _)
theorem rest_all {r : List Nd} {id : Int} (hv : ringValid r = true) : restTo r id r.length = if 0 ≤ fnd r id then r.eraseIdx (fnd r id).toNat else r := by
  have e0 : restTo r id r.length = r.filter fun n => n.id != id := by unfold restTo; rw [List.take_length]
  rw [e0]
  rcases fnd_cases r id with ⟨hf, hall⟩ | ⟨k, hk, hf, hid, -⟩
  · rw [hf, if_neg (by omega), List.filter_eq_self]
    intro n hn
    obtain ⟨j, hj, rfl⟩ := mem_getD hn
    simpa using hall j hj
  · rw [hf, if_pos (by omega)]
    show _ = r.eraseIdx k
    rw [List.eraseIdx_eq_take_drop_succ]
    have hsplit : r = r.take k ++ r.getD k default :: r.drop (k + 1) := by
      have e : r.getD k default = r[k] := by simp [hk]
      rw [e, ← List.drop_eq_getElem_cons hk, List.take_append_drop]
    have hne : ∀ j, j < r.length → j ≠ k → ((r.getD j default).id != id) = true := fun j hj hjk => by
      have : (r.getD j default).id ≠ id := fun e => hjk (valid_inj hv hj hk (e.trans hid.symm))
      simpa using this
    conv => lhs; rw [hsplit]
    rw [List.filter_append, List.filter_cons, if_neg (by rw [hid]; simp)]
    congr 1
    · rw [List.filter_eq_self]
      intro n hn
      obtain ⟨j, hj, rfl⟩ := List.getElem_of_mem hn
      rw [List.length_take] at hj
      have := hne j (by omega) (by omega)
      simpa [show j < r.length by omega] using this
    · rw [List.filter_eq_self]
      intro n hn
      obtain ⟨j, hj, rfl⟩ := List.getElem_of_mem hn
      rw [List.length_drop] at hj
      have := hne (k + 1 + j) (by omega) (by omega)
      simpa [show k + 1 + j < r.length by omega] using this
theorem fail_refused {r : List Nd} {id : Int} (hs : ringSafe r = true) (hi : okP id = true) :
    rFailOk r id = (decide ((restTo r id r.length).length < r.length) && ringSafe (restTo r id r.length)) ∧ (rFailOk r id = false → rFail r id = r) := by
  have hv := safe_valid hs
  have hc : (ringSafe r && okP id) = true := by rw [hs, hi]; rfl
  rw [rest_all hv]
  rcases fnd_cases r id with ⟨hf, -⟩ | ⟨k, hk, hf, -, -⟩
  · have e1 : rFailOk r id = false := stepB_miss hf _
    rw [e1, hf, if_neg (by omega), decide_eq_false (by omega)]
    exact ⟨rfl, fun _ => stepR_miss hc hf _⟩
  · have e1 : rFailOk r id = safeB (r.eraseIdx k) := stepB_hit hc hf _
    have e2 : rFail r id = failK r k := stepR_hit hc hf _
    rw [e1, e2, hf, if_pos (by omega)]
    have hsb : ringSafe (r.eraseIdx k) = safeB (r.eraseIdx k) := by unfold ringSafe; rw [erase_valid hv k]; rfl
    show _ = (decide ((r.eraseIdx k).length < r.length) && ringSafe (r.eraseIdx k)) ∧ _
    rw [hsb, decide_eq_true (by rw [List.length_eraseIdx_of_lt hk]; omega)]
    exact ⟨by simp, fun h => by unfold failK; rw [h]; rfl⟩
/-- Some nodes, shallowly copied. -/
def Rest (w5 wr : World) (B : Nat) (v : Value) (r : List Nd) : Prop := ∃ vs : List Value, vs.length = r.length ∧ wr.ownsRow B 31 3 v r.length (flatN r vs) ∧ ∀ i, i < r.length → IntsAt w5 (vs.getD i undef) (r.getD i default).after
theorem Rest.at {w5 wr : World} {B : Nat} {v : Value} {r : List Nd} (h : Rest w5 wr B v r) (hb : Below w5.heap.size w5 wr) : RingAt wr v r := by
  obtain ⟨vs, hl, ho, ha⟩ := h
  exact ShOwn.at ⟨vs, hl, ho, fun i hi => (ha i hi).below hb (Nat.le_refl _)⟩
theorem Rest.push {w5 w2 : World} {B : Nat} {v2 va : Value} {r : List Nd} {vs : List Value} {n : Nd} (hl : vs.length = r.length) (hia : ∀ i, i < r.length → IntsAt w5 (vs.getD i undef) (r.getD i default).after) (ha : IntsAt w5 va n.after)
    (ho : w2.ownsRow B 31 3 v2 (r.length + 1) (flatN r vs ++ [.int .i64 n.id, .int .i64 n.before, va])) : Rest w5 w2 B v2 (r ++ [n]) := by
  refine ⟨vs ++ [va], by simp [hl], by rw [flatN_append r vs n va hl]; simpa using ho, fun i hi => ?_⟩
  by_cases h : i < r.length
  · have e1 : (vs ++ [va]).getD i undef = vs.getD i undef := by simp [List.getElem?_append, hl, h]
    have e2 : (r ++ [n]).getD i default = r.getD i default := by simp [List.getElem?_append, h]
    rw [e1, e2]; exact hia i h
  · have h' : i = r.length := by simp at hi; omega
    subst h'
    have e1 : (vs ++ [va]).getD r.length undef = va := by simp [hl]
    have e2 : (r ++ [n]).getD r.length default = n := by simp
    rw [e1, e2]; exact ha

set_option maxRecDepth 100000 in
set_option maxHeartbeats 8000000 in
theorem lawFailRefused_any (v : Value) (w : World) (h : CodeAt w v) :
    Calls Try.prog 7 #[v] w fun e w' => e = .returned (.bool true) ∧ Below w.heap.size w w' := by
  have H := Lib.hid h
  obtain ⟨pb, n, cap, rfl, hn1, hn2, -⟩ := h
  unfold maxLen at hn2
  by_cases hbig : 1048576 < n
  · go_enter Try.func7, Try.ntmps7
    go_wp2
    go_ret
    exact ⟨rfl, Below.refl _ _⟩
  have hbig' : n ≤ 1048576 := by omega
  clear hbig
  have hf0 := field0
  have hf1 := field1
  have hf2 := field2
  go_enter Try.func7, Try.ntmps7
  go_wp2_with fail
  refine (drawRingFail_any _ _ H.out).mono ?_
  rintro e w1 ⟨u, y, id, rfl, hat, hsm, hb1⟩
  have HAT := Lib.hid hat
  have hz1 := hb1.size
  have hy10 := hsm.2.1
  have hy1 := hsm.1
  have hyS := Lib.hid hsm
  obtain ⟨p, cp, rfl⟩ := hat.form
  clear hsm hat
  cases hs : ringSafe y
  · have HS := Lib.hid hs
    clear hs
    go_wp2_with (first | (have _ := hb5; go_at_call 17; refine (sameRing_any _ _ (rFail y id) (rFail y id) _ (HA.out.below hb5 (Nat.le_refl _)) (HB.out.below (hb4.trans (hb5.mono hb4.size)) (Nat.le_refl _))).mono ?_; rw [decide_eq_true rfl]; rintro e w6 ⟨rfl, hb6⟩) | (go_at_call 17; refine (sameRing_any _ _ (rFail y id) (rFail y id) _ HA1.out HB.out).mono ?_; rw [decide_eq_true rfl]; rintro e w4 ⟨rfl, hb4⟩; have HA := Lib.hid (HA1.out.below hb4 (Nat.le_refl _)); have hbC := (hb2.trans (hb3.mono hb2.size)).trans (hb4.mono (hb2.trans (hb3.mono hb2.size)).size); have HC := Lib.hid (HAT.out.below hbC (Nat.le_refl _)); have hbD := hb1.trans (hbC.mono hz1)) | (go_at_call 33; refine (sRingSafe_any _ y _ HC.out).mono ?_; rw [HS.out]; rintro e w5 ⟨rfl, hb5⟩) | (go_at_call 34; (with_reducible refine (isPoint_is id _ HI.out _).mono ?_); rintro e wp ⟨rfl, rfl⟩) | (go_at_call 34; (with_reducible refine (isPoint_is id _ HI.out _).mono ?_); rintro e wp ⟨rfl, rfl⟩) | (go_at_call 31; refine (iRingFail_any _ y id _ HAT.out).mono ?_; rintro e w2 ⟨ua, rfl, hA, hb2⟩; have HA0 := Lib.hid hA.at; obtain ⟨pa, ca, ea⟩ := hA.at.form; subst ea; clear hA) | (go_at_call 32; refine (sRingFail_any _ y id _ (HAT.out.below hb2 (Nat.le_refl _))).mono ?_; rintro e w3 ⟨ub, rfl, hB, hb3⟩; have HB := Lib.hid hB.at; have HA1 := Lib.hid (HA0.out.below hb3 (Nat.le_refl _)); clear hB))
    go_ret
    exact ⟨rfl, hbD.trans ((hb5.trans (hb6.mono hb5.size)).mono hbD.size)⟩
  have HS := Lib.hid hs
  clear hs
  cases hi : okP id
  · have HI := Lib.hid hi
    clear hi
    go_wp2_with (first | (have _ := hb5; go_at_call 17; refine (sameRing_any _ _ (rFail y id) (rFail y id) _ (HA.out.below hb5 (Nat.le_refl _)) (HB.out.below (hb4.trans (hb5.mono hb4.size)) (Nat.le_refl _))).mono ?_; rw [decide_eq_true rfl]; rintro e w6 ⟨rfl, hb6⟩) | (go_at_call 17; refine (sameRing_any _ _ (rFail y id) (rFail y id) _ HA1.out HB.out).mono ?_; rw [decide_eq_true rfl]; rintro e w4 ⟨rfl, hb4⟩; have HA := Lib.hid (HA1.out.below hb4 (Nat.le_refl _)); have hbC := (hb2.trans (hb3.mono hb2.size)).trans (hb4.mono (hb2.trans (hb3.mono hb2.size)).size); have HC := Lib.hid (HAT.out.below hbC (Nat.le_refl _)); have hbD := hb1.trans (hbC.mono hz1)) | (go_at_call 33; refine (sRingSafe_any _ y _ HC.out).mono ?_; rw [HS.out]; rintro e w5 ⟨rfl, hb5⟩) | (go_at_call 34; (with_reducible refine (isPoint_is id _ HI.out _).mono ?_); rintro e wp ⟨rfl, rfl⟩) | (go_at_call 34; (with_reducible refine (isPoint_is id _ HI.out _).mono ?_); rintro e wp ⟨rfl, rfl⟩) | (go_at_call 31; refine (iRingFail_any _ y id _ HAT.out).mono ?_; rintro e w2 ⟨ua, rfl, hA, hb2⟩; have HA0 := Lib.hid hA.at; obtain ⟨pa, ca, ea⟩ := hA.at.form; subst ea; clear hA) | (go_at_call 32; refine (sRingFail_any _ y id _ (HAT.out.below hb2 (Nat.le_refl _))).mono ?_; rintro e w3 ⟨ub, rfl, hB, hb3⟩; have HB := Lib.hid hB.at; have HA1 := Lib.hid (HA0.out.below hb3 (Nat.le_refl _)); clear hB))
    go_ret
    exact ⟨rfl, hbD.trans ((hb5.trans (hb6.mono hb5.size)).mono hbD.size)⟩
  have HI := Lib.hid hi
  clear hi
  obtain ⟨hz1', hz2'⟩ := fail_refused HS.out HI.out
  have HZ1 := Lib.hid hz1'
  have HZ2 := Lib.hid hz2'
  clear hz1' hz2'
  obtain ⟨n0, ni, nz0, nz1, nz2⟩ := info_parts Try.infoNode
  go_wp2_with (first | (go_at_call 17; refine (sameRing_any _ _ (rFail y id) (rFail y id) _ HA1.out HB.out).mono ?_; rw [decide_eq_true rfl]; rintro e w4 ⟨rfl, hb4⟩; have HA := Lib.hid (HA1.out.below hb4 (Nat.le_refl _)); have hbC := (hb2.trans (hb3.mono hb2.size)).trans (hb4.mono (hb2.trans (hb3.mono hb2.size)).size); have HC := Lib.hid (HAT.out.below hbC (Nat.le_refl _)); have hbD := hb1.trans (hbC.mono hz1)) | (go_at_call 33; refine (sRingSafe_any _ y _ HC.out).mono ?_; rw [HS.out]; rintro e w5 ⟨rfl, hb5⟩; have HC5 := Lib.hid (HC.out.below hb5 (Nat.le_refl _)); have HA5 := Lib.hid (HA.out.below hb5 (Nat.le_refl _)); have hbE := hbD.trans (hb5.mono hbD.size)) | (go_at_call 34; (with_reducible refine (isPoint_is id _ HI.out _).mono ?_); rintro e wp ⟨rfl, rfl⟩) | (go_at_call 34; (with_reducible refine (isPoint_is id _ HI.out _).mono ?_); rintro e wp ⟨rfl, rfl⟩) | (go_at_call 31; refine (iRingFail_any _ y id _ HAT.out).mono ?_; rintro e w2 ⟨ua, rfl, hA, hb2⟩; have HA0 := Lib.hid hA.at; obtain ⟨pa, ca, ea⟩ := hA.at.form; subst ea; clear hA) | (go_at_call 32; refine (sRingFail_any _ y id _ (HAT.out.below hb2 (Nat.le_refl _))).mono ?_; rintro e w3 ⟨ub, rfl, hB, hb3⟩; have HB := Lib.hid hB.at; have HA1 := Lib.hid (HA0.out.below hb3 (Nat.le_refl _)); clear hB))
  have hz5 := hbE.size
  go_loopg [9, 10] y.length (fun m s9 i wr => ∃ k : Nat, k ≤ y.length ∧ m = y.length - k ∧ i = .int .i64 k ∧ Hid (Rest w5 wr w5.heap.size s9 (restTo y id k)) ∧ Below w5.heap.size w5 wr)
  case atStart => exact ⟨0, Nat.zero_le _, rfl, rfl, Lib.hid ⟨[], rfl, World.ownsRow_made (base := w5.heap.size) (e := 31) (size := 3) w5 #[] 0 (Nat.le_refl _) (by unfold maxLen; omega) rfl, fun i hi => by simp [restTo] at hi⟩, (Below.refl _ _).alloc (Nat.le_refl _) _⟩
  case round =>
    obtain ⟨k, hk, rfl, rfl, HR, hwr⟩ := hrel
    have HW := Lib.hid hwr
    by_cases hlt : k < y.length
    · obtain ⟨bY, oY, rfl, -, gY1, gY2, gY3, paY, caY, kY0, kY1, kY2, hIY⟩ := HC5.out.nd (k := k) hlt
      have kY0 := (hwr.cell (p := ⟨bY, oY + k * 3, none⟩) gY3).trans kY0
      have kY1 := (hwr.cell (p := ⟨bY, oY + k * 3 + 1, none⟩) gY3).trans kY1
      have kY2 := (hwr.cell (p := ⟨bY, oY + k * 3 + 2, none⟩) gY3).trans kY2
      have hyes := restTo_yes (id := id) hlt
      have hno := restTo_no (id := id) hlt
      have hln := restTo_len y id k
      obtain ⟨N1, hN1⟩ : ∃ x, y.getD k default = x := ⟨_, rfl⟩
      rw [hN1] at kY0 kY1 kY2 hIY hyes hno
      have HYES := Lib.hid hyes
      have HNO := Lib.hid hno
      have HIY := Lib.hid hIY
      obtain ⟨T, hT⟩ : ∃ T, restTo y id k = T := ⟨_, rfl⟩
      have HT := Lib.hid hT
      rw [hT] at hln HR
      have i0 : (0 : Int) ≤ (k : Int) := by omega
      have i1 : (k : Int) < (y.length : Int) := by omega
      clear hN1 hyes hno hIY hT
      obtain hq | hq : (N1.id != id) = true ∨ (N1.id != id) = false := by cases (N1.id != id) <;> simp
      · obtain ⟨vs, hvl, hov, hia⟩ := HR.out
        have HVL := Lib.hid hvl
        have HOV := Lib.hid hov
        have HIA := Lib.hid hia
        clear hvl hov hia
        go_wp2_with (at_builtin; (refine wpList_append_own _ rfl _ _ 23 rfl w5.heap.size 31 n0 (.agg #[.int .i64 0, .int .i64 0, .slice none 0 0]) 3 40 Try.underlying23 ni nz0 nz1 nz2 rfl (by decide) _ T.length (flatN T vs) rfl (HOV.out.alloc _) ⟨wr.heap.size, 0, none⟩ 1 1 [.int .i64 N1.id, .int .i64 N1.before, .slice paY N1.after.length caY] rfl rfl (newsNode wr _ _ _ _ _ rfl rfl rfl rfl).2.1 (newsNode wr _ _ _ 31 _ rfl rfl rfl rfl).2.2 (by unfold maxLen; omega) (by omega) (by have := hwr.size; simp; omega) ?_); intro v9 w9 hown9 hgrow9 _)
        have hb9 := (hwr.alloc hwr.size (.cells #[.int .i64 N1.id, .int .i64 N1.before, .slice paY N1.after.length caY] 31)).grown hgrow9 (by have := hwr.size; simp; omega) (fun q hq => (HOV.out.lt q hq).1)
        have hR9 := Rest.push (n := N1) HVL.out HIA.out HIY.out hown9
        go_roundg (y.length - (k + 1))
        case rel => exact ⟨k + 1, by omega, rfl, by go_num, Lib.hid (by rw [HYES.out hq, HT.out]; exact hR9), hb9⟩
        case measure => omega
      · go_wp2
        go_roundg (y.length - (k + 1))
        case rel => exact ⟨k + 1, by omega, rfl, by go_num, Lib.hid (by rw [HNO.out hq, HT.out]; exact HR.out), HW.out⟩
        case measure => omega
    · obtain rfl : k = y.length := by omega
      have HRT := Lib.hid (HR.out.at hwr)
      have HC9 := Lib.hid (HC5.out.below hwr (Nat.le_refl _))
      have HA9 := Lib.hid (HA5.out.below hwr (Nat.le_refl _))
      obtain ⟨pr, cr, er⟩ := (HR.out.at hwr).form
      subst er
      obtain ⟨lr, hlr⟩ : ∃ l, (restTo y id y.length).length = l := ⟨_, rfl⟩
      have HRT := Lib.hid (show RingAt wr (.slice pr lr cr) (restTo y id y.length) by rw [← hlr]; exact HRT.out)
      have hz := HZ1.out
      rw [hlr] at hz
      rw [hlr]
      cases hok : rFailOk y id
      · have HKF := Lib.hid (show decide (rFail y id = y) = true from decide_eq_true (HZ2.out hok))
        rw [hok] at hz
        clear hok hwr hlr
        by_cases hl : lr < y.length
        · have HSR := Lib.hid (show ringSafe (restTo y id y.length) = false by rw [decide_eq_true hl, Bool.true_and] at hz; exact hz.symm)
          clear hz
          go_wp2_with (first | (go_at_call 35; refine (iRingSafe_any _ _ _ HRT.out).mono ?_; rw [HSR.out]; rintro e w7 ⟨rfl, hb7⟩) | (go_at_call 17; refine (sameRing_any _ _ (rFail y id) y _ (HA9.out.below hb7 (Nat.le_refl _)) (HC9.out.below hb7 (Nat.le_refl _))).mono ?_; rw [HKF.out]; rintro e w8 ⟨rfl, hb8⟩))
          go_ret
          exact ⟨rfl, hbE.trans ((HW.out.trans ((hb7.trans (hb8.mono hb7.size)).mono HW.out.size)).mono hbE.size)⟩
        · clear hz
          go_wp2_with (go_at_call 17; refine (sameRing_any _ _ (rFail y id) y _ HA9.out HC9.out).mono ?_; rw [HKF.out]; rintro e w8 ⟨rfl, hb8⟩)
          go_ret
          exact ⟨rfl, hbE.trans ((HW.out.trans (hb8.mono HW.out.size)).mono hbE.size)⟩
      · rw [hok] at hz
        have hz2 : decide (lr < y.length) = true ∧ ringSafe (restTo y id y.length) = true := by simpa using hz.symm
        have hl : lr < y.length := by simpa using hz2.1
        have HSR := Lib.hid hz2.2
        clear hok hwr hz hz2 hlr
        go_wp2_with (go_at_call 35; refine (iRingSafe_any _ _ _ HRT.out).mono ?_; rw [HSR.out]; rintro e w7 ⟨rfl, hb7⟩)
        go_ret
        exact ⟨rfl, hbE.trans ((HW.out.trans (hb7.mono HW.out.size)).mono hbE.size)⟩

end Go.Proofs.Ytadplndoopkdgaa
