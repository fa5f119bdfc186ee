/-
  Contracts: sameLeases, slices.Clone and BinarySearchFunc at leases.
-/
import Derived.Test.YtdcjacgaakpejaaDoorLsA
import Derived.Lib.SliceRun
import Derived.Test.YtdcjacgaakpejaaDoorLsE
namespace Go.Proofs.YtdcjacgaakpejaaDoor
open Go.RowKit

theorem eq_of_tr {xs ys : List Tr} (hl : xs.length = ys.length) (h : ∀ j, j < xs.length → xs.getD j default = ys.getD j default) : xs = ys := by
  refine List.ext_getElem hl fun j h1 h2 => ?_
  have := h j h1
  simpa [h1, h2] using this

theorem Tryd.neqLease : NeqT Tryd.prog 35 := neqT_of (ti := 3) (by kernel_rfl) (by kernel_rfl) Tryd.underlying3 (fun w => by kernel_rfl) (by kernel_rfl)

set_option maxHeartbeats 1000000 in
theorem sameLeases_any (v u : Value) (xs ys : List Tr) (w : World) (hv : TrsAt w v xs) (hu : TrsAt w u ys) :
    Calls Tryd.prog 18 #[v, u] w fun e w' => e = .returned (.bool (decide (xs = ys))) ∧ Below w.heap.size w w' := by
  have HV := Lib.hid hv
  have HU := Lib.hid hu
  obtain ⟨p, cap, rfl, hc1, hc2⟩ := hv.form
  obtain ⟨q, cap', rfl, hc1', hc2'⟩ := hu.form
  clear hv hu
  by_cases hl : xs.length = ys.length
  · have HL := Lib.hid hl
    have hne : ((xs.length : Int) != (ys.length : Int)) = false := by simp [hl]
    have hne0 : ((xs.length : Int) == (ys.length : Int)) = true := by simp [hl]
    clear hl
    go_enter Tryd.func18, Tryd.ntmps18
    go_wp2
    go_loopw [5] (fun s5 wr => ∃ k : Nat, k ≤ xs.length ∧ s5 = .int .i64 k ∧ Hid (∀ j, j < k → xs.getD j default = ys.getD j default) ∧ Below w.heap.size w wr) (fun s _ => xs.length - (intOf s).toNat)
    case atStart => exact ⟨0, Nat.zero_le _, rfl, Lib.hid fun j hj => by omega, Below.refl _ _⟩
    case round =>
      obtain ⟨k, hk, rfl, HA, hbel⟩ := hrel
      by_cases hlt : k < xs.length
      · obtain ⟨b, o, rfl, hb, k0, k1, k2⟩ := (HV.out.below hbel (Nat.le_refl _)).tr hlt
        obtain ⟨b', o', rfl, hb', l0, l1, l2⟩ := (HU.out.below hbel (Nat.le_refl _)).tr (k := k) (by have := HL.out; omega)
        obtain ⟨n, hn⟩ : ∃ n, xs.getD k default = n := ⟨_, rfl⟩
        obtain ⟨m, hm⟩ : ∃ n, ys.getD k default = n := ⟨_, rfl⟩
        rw [hn] at k0 k1 k2
        rw [hm] at l0 l1 l2
        have HN := Lib.hid hn
        have HM := Lib.hid hm
        obtain ⟨na, nb, nc⟩ := n
        obtain ⟨ma, mb, mc⟩ := m
        have i0 : (0 : Int) ≤ (k : Int) := by omega
        have i1 : (k : Int) < (xs.length : Int) := by omega
        have i2 : (k : Int) < (ys.length : Int) := by have := HL.out; omega
        clear hn hm
        by_cases he : (⟨na, nb, nc⟩ : Tr) = ⟨ma, mb, mc⟩
        · have HE := Lib.hid he
          have hq : ∀ w, (binOp .neq 35 (.agg #[.int .i64 na, .int .i64 nb, .int .i64 nc]) (.agg #[.int .i64 ma, .int .i64 mb, .int .i64 mc])).run Tryd.prog w = .ok (.bool false) w := fun w => by
            have := Tryd.neqLease ⟨na, nb, nc⟩ ⟨ma, mb, mc⟩ w
            rw [decide_eq_true he] at this
            exact this
          clear he
          go_wp2_with fail
          go_quiet (fail)
          clear i0 i1 i2
          go_wp2
          go_roundw
          case rel =>
            refine ⟨k + 1, by omega, by go_num, Lib.hid fun j hj => ?_, below_drewN hbel _⟩
            by_cases e : j = k
            · subst e; rw [HN.out, HM.out, HE.out]
            · exact HA.out j (by omega)
          case measure => simp [intOf]; omega
        · have HE := Lib.hid he
          have hq : ∀ w, (binOp .neq 35 (.agg #[.int .i64 na, .int .i64 nb, .int .i64 nc]) (.agg #[.int .i64 ma, .int .i64 mb, .int .i64 mc])).run Tryd.prog w = .ok (.bool true) w := fun w => by
            have := Tryd.neqLease ⟨na, nb, nc⟩ ⟨ma, mb, mc⟩ w
            rw [decide_eq_false he] at this
            exact this
          clear he
          go_wp2_with fail
          go_quiet (fail)
          clear i0 i1 i2
          go_wp2
          go_ret
          exact ⟨ret_bool (by rw [eq_comm, decide_eq_false_iff_not]; intro e; exact HE.out (by rw [← HN.out, ← HM.out, e])), below_drewN hbel _⟩
      · obtain rfl : k = xs.length := by omega
        go_wp2
        go_ret
        exact ⟨ret_bool (by rw [eq_comm, decide_eq_true_eq]; exact eq_of_tr HL.out HA.out), hbel⟩
  · have HL := Lib.hid hl
    have hne : ((xs.length : Int) == (ys.length : Int)) = false := by rw [beq_eq_false_iff_ne]; omega
    have hne' : ((xs.length : Int) != (ys.length : Int)) = true := by simp; omega
    clear hl
    go_enter Tryd.func18, Tryd.ntmps18
    go_wp2
    go_ret
    exact ⟨ret_bool (by rw [eq_comm, decide_eq_false_iff_not]; intro e; exact HL.out (by rw [e])), Below.refl _ _⟩

set_option maxHeartbeats 400000 in
theorem cloneLs_any (v : Value) (xs : List Tr) (w : World) (hv : TrsAt w v xs) (hl : xs.length ≤ 1048576) :
    Calls Tryd.prog 43 #[v] w fun e w' => ∃ u, e = .returned u ∧ TrsOwn w' w.heap.size 35 u xs ∧ Below w.heap.size w w' := by
  have hsrc := hv.src
  obtain ⟨p, cap, rfl, hc, hm, h4⟩ := hv
  unfold maxLen at hm
  have qT : ∀ (w : World) (a : Option Addr) (n c n' c' : Nat), (binOp .eql 24 (.slice a n c) (.slice none n' c')).run Tryd.prog w = .ok (.bool a.isNone) w := fun w a n c n' c' => Lib.run_eql_slice_nil w _ _ a n c n' c' Tryd.underlying24
  obtain ⟨i0, hi, hz0, hz1, hz2⟩ := info_parts Tryd.infoLease
  have HS := Lib.hid hsrc
  clear hsrc
  cases p with
  | none =>
    rcases h4 with ⟨rfl, h5⟩ | ⟨b, o, h, -⟩
    · obtain rfl : cap = 0 := h5 rfl
      go_enter Tryd.func43, Tryd.ntmps43
      go_wp2
      go_ret
      exact ⟨_, rfl, TrsOwn.nil _ _ _, Below.refl _ _⟩
    · cases h
  | some ad =>
    clear h4
    have hB0 := (Below.refl w.heap.size w).alloc (Nat.le_refl _) (.cells #[] 35)
    go_enter Tryd.func43, Tryd.ntmps43
    go_wp2_with (at_builtin; refine wpList_append_src rfl (.tmp 5) (.tmp 6) 24 rfl w.heap.size 35 i0 (.agg #[.int .i64 0, .int .i64 0, .int .i64 0]) 3 24 Tryd.underlying24 hi hz0 hz1 hz2 rfl (by decide) _ _ _ rfl (World.ownsRow_made (base := w.heap.size) (e := 35) (size := 3) w #[] 0 (Nat.le_refl _) (by unfold maxLen; omega) rfl) (.slice (some ad) xs.length cap) xs.length (flatT xs) rfl (HS.out.below hB0 (Nat.le_refl _)) (by unfold maxLen; omega) (by omega) (by simp) ?_; intro v' w1 hown' hgrow hnil; obtain ⟨g, cg, rfl, hg1, hg2, hg3, hg4, hBW⟩ := appendedE rfl hown' hgrow hnil)
    go_ret
    exact ⟨_, rfl, hg4, hBW⟩

theorem handF_any (n : Tr) (id : Int) (w : World) (h1 : -64 ≤ n.a - id) (h2 : n.a - id ≤ 64) :
    Calls Tryd.prog 45 #[.agg #[.int .i64 n.a, .int .i64 n.b, .int .i64 n.c], .int .i64 id] w fun e w' => e = .returned (.int .i64 (n.a - id)) ∧ Below w.heap.size w w' := by
  have hb := (Below.refl w.heap.size w).alloc (Nat.le_refl _) (.cells #[.int .i64 n.a, .int .i64 n.b, .int .i64 n.c] 35)
  go_enter Tryd.func45, Tryd.ntmps45
  go_wp2
  go_ret
  first | exact ⟨rfl, hb⟩ | exact ⟨ret_int (IntWalk.i64_in _ (by omega)), hb⟩

def BsPost (k : Nat) (w : World) (e : Ending) (w' : World) : Prop := ∃ c : Bool, e = .returned (.tuple #[.int .i64 k, .bool c]) ∧ Below w.heap.size w w'

set_option maxHeartbeats 2000000 in
theorem bsearchL_any (v : Value) (r : List Tr) (id : Int) (w : World) (hv : TrsAt w v r) (hl : r.length ≤ 12) (hid : 0 ≤ id ∧ id ≤ 63) (hids : ∀ j, j < r.length → 0 ≤ (r.getD j default).a ∧ (r.getD j default).a ≤ 63)
    (hmo : ∀ a b, a ≤ b → b < r.length → (r.getD a default).a ≤ (r.getD b default).a) :
    Calls Tryd.prog 44 #[v, .int .i64 id, .func (.func 45) #[] #[]] w (BsPost (ltE r id) w) := by
  have HV := Lib.hid hv
  have HIDS := Lib.hid hids
  have HMO := Lib.hid hmo
  have HF := Lib.hid (fun (J : Nat) (h1 : J ≤ r.length) (h : (∀ j, j < J → (r.getD j default).a < id) ∧ (∀ j, J ≤ j → j < r.length → id ≤ (r.getD j default).a)) => (ltE_is h1 h.1 (fun h2 => by have := h.2 J (Nat.le_refl _) h2; omega) : ltE r id = J))
  obtain ⟨p, cap, rfl, hc1, hc2⟩ := hv.form
  clear hids hmo hv
  obtain ⟨hid0, hid1⟩ := hid
  go_enter Tryd.func44, Tryd.ntmps44
  go_wp2
  go_loopw [9, 10] (fun s9 s10 wr => ∃ lo hi : Nat, s9 = .int .i64 lo ∧ s10 = .int .i64 hi ∧ lo ≤ hi ∧ hi ≤ r.length ∧ Hid ((∀ j, j < lo → (r.getD j default).a < id) ∧ (∀ j, hi ≤ j → j < r.length → id ≤ (r.getD j default).a)) ∧ Below w.heap.size w wr) (fun s9 s10 _ => (intOf s10 - intOf s9).toNat)
  case atStart => exact ⟨0, r.length, rfl, rfl, Nat.zero_le _, Nat.le_refl _, Lib.hid ⟨fun j hj => by omega, fun j h1 h2 => by omega⟩, Below.refl _ _⟩
  case round =>
    obtain ⟨lo, hi, rfl, rfl, hlh, hin, HA, hbel⟩ := hrel
    have hsz : w.heap.size ≤ wr.heap.size := hbel.size
    by_cases hlt : lo < hi
    · have hk : (lo + hi) / 2 < r.length := by omega
      obtain ⟨b, o, rfl, hb, h1, h2, h3⟩ := (HV.out.below hbel (Nat.le_refl _)).tr hk
      obtain ⟨g1, g2⟩ := HIDS.out _ hk
      obtain ⟨n, hn⟩ : ∃ x, r.getD ((lo + hi) / 2) default = x := ⟨_, rfl⟩
      rw [hn] at h1 h2 h3 g1 g2
      have HN := Lib.hid hn
      clear hn
      by_cases hyx : n.a - id < 0
      · go_wp2_with (go_at_call 45; refine (handF_any n id _ (by omega) (by omega)).mono ?_; rintro e w1 ⟨rfl, hb1⟩)
        go_roundw
        case rel =>
          exact ⟨(lo + hi) / 2 + 1, hi, by rw [show ((lo : Int) + (hi : Int)) / 2 + 1 = (((lo + hi) / 2 + 1 : Nat) : Int) by omega], rfl, by omega, hin, Lib.hid ⟨fun j hj => Int.lt_of_le_of_lt (HMO.out j ((lo + hi) / 2) (by omega) hk) (by rw [HN.out]; omega), HA.out.2⟩, hbel.trans (hb1.mono hsz)⟩
        case measure => simp [intOf]; omega
      · go_wp2_with (go_at_call 45; refine (handF_any n id _ (by omega) (by omega)).mono ?_; rintro e w1 ⟨rfl, hb1⟩)
        go_roundw
        case rel =>
          exact ⟨lo, (lo + hi) / 2, rfl, by rw [show ((lo : Int) + (hi : Int)) / 2 = (((lo + hi) / 2 : Nat) : Int) by omega], by omega, by omega, Lib.hid ⟨HA.out.1, fun j h1 h2 => Int.le_trans (by rw [HN.out]; omega) (HMO.out ((lo + hi) / 2) j h1 h2)⟩, hbel.trans (hb1.mono hsz)⟩
        case measure => simp [intOf]; omega
    · obtain rfl : lo = hi := by omega
      have HEQ := Lib.hid (HF.out lo hin HA.out)
      by_cases hend : lo < r.length
      · obtain ⟨b, o, rfl, hb, h1, h2, h3⟩ := (HV.out.below hbel (Nat.le_refl _)).tr hend
        obtain ⟨g1, g2⟩ := HIDS.out _ hend
        obtain ⟨n, hn⟩ : ∃ x, r.getD lo default = x := ⟨_, rfl⟩
        rw [hn] at h1 h2 h3 g1 g2
        clear hn
        go_wp2_with (go_at_call 45; refine (handF_any n id _ (by omega) (by omega)).mono ?_; rintro e w1 ⟨rfl, hb1⟩)
        go_ret2
        rw [HEQ.out]
        exact ⟨_, rfl, hbel.trans (hb1.mono hsz)⟩
      · go_wp2
        go_ret2
        rw [HEQ.out]
        exact ⟨_, rfl, hbel⟩

end Go.Proofs.YtdcjacgaakpejaaDoor
