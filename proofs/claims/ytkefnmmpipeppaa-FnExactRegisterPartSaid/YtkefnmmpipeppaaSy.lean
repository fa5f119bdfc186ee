/-
  Contracts: marks laid on replicas, and read again.
-/
import Derived.Test.YtkefnmmpipeppaaSx
namespace Go.Proofs.Ytkefnmmpipeppaa
open Go.RowKit

def markT (k : Int) : Tr := ⟨k, k + 1, k + 2⟩
def marksT (k : Int) (n : Nat) : List Tr := (List.range n).map fun i : Nat => markT (k + 3 * (i : Int))
theorem marksT_length (k : Int) (n : Nat) : (marksT k n).length = n := by simp [marksT]
theorem marksT_get {k : Int} {n j : Nat} (h : j < n) : (marksT k n).getD j default = markT (k + 3 * j) := by simp [marksT, h]
theorem marksT_set {xs : List Tr} {k : Int} {i : Nat} (h : i < xs.length) : (marksT k i ++ xs.drop i).set i (markT (k + 3 * i)) = marksT k (i + 1) ++ xs.drop (i + 1) := by
  rw [List.set_append_right _ _ (by rw [marksT_length]; omega), marksT_length, Nat.sub_self, List.drop_eq_getElem_cons h, List.set_cons_zero]
  simp [marksT, List.range_succ]

set_option maxHeartbeats 1000000 in
theorem markReplicaS_any (v : Value) (xs : List Tr) (k0 : Int) (B C : Nat) (w : World) (hv : TrsOwn w B 26 v xs) (hC : ∀ q, v.ownBlock = some q → q < C) (h0 : 0 ≤ k0) (h1 : k0 + 3 * xs.length ≤ 1000000000000000) :
    Calls Try.prog 23 #[v, .int .i64 k0] w fun e w' => e = .returned (.int .i64 (k0 + 3 * xs.length)) ∧ TrsOwn w' B 26 v (marksT k0 xs.length) ∧ Below B w w' ∧ Keeps C w w' := by
  rcases hv.2 with ⟨rfl, hn⟩ | ⟨g, cap, cur, rfl, hBg, hgh, hcap, hcm, -⟩
  · have : xs = [] := List.length_eq_zero_iff.1 hn
    subst this
    go_enter Try.func23, Try.ntmps23
    go_wp2
    refine wp_loop_rounds 1 ?_
    rw [rounds_succ]
    go_wp2
    go_ret
    exact ⟨by simp, by simpa [marksT] using hv, Below.refl _ _, Keeps.refl _ _⟩
  · unfold maxLen at hcm
    have hgC : g < C := hC g rfl
    have HV := Lib.hid hv
    clear hv hgh hC
    go_enter Try.func23, Try.ntmps23
    go_wp2
    go_loopw [1, 5] (fun s1 s5 wr => ∃ i : Nat, i ≤ xs.length ∧ s5 = .int .i64 i ∧ s1 = .int .i64 (k0 + 3 * i) ∧ TrsOwn wr B 26 (.slice (some ⟨g, 0, none⟩) xs.length cap) (marksT k0 i ++ xs.drop i) ∧ Below B w wr ∧ Keeps C w wr) (fun _ s _ => xs.length - (intOf s).toNat)
    case atStart => exact ⟨0, Nat.zero_le _, rfl, by simp, by simpa [marksT] using HV.out, Below.refl _ _, Keeps.refl _ _⟩
    case round =>
      obtain ⟨i, hi, rfl, rfl, hown, hbel, hkp⟩ := hrel
      by_cases hlt : i < xs.length
      · have hst := marksT_set (k := k0) hlt
        obtain ⟨X, hX⟩ : ∃ X, marksT k0 i ++ xs.drop i = X := ⟨_, rfl⟩
        obtain ⟨k, hk⟩ : ∃ k, k0 + 3 * (i : Int) = k := ⟨_, rfl⟩
        have hXl : X.length = xs.length := by rw [← hX]; simp [marksT_length]; omega
        rw [hX, hk] at hst
        rw [hX] at hown
        have hown' : TrsOwn wr B 26 (.slice (some ⟨g, 0, none⟩) X.length cap) X := by rw [hXl]; exact hown
        obtain ⟨q0, q1, q2, q3, q4, -⟩ := hown'.cells (k := i) (by omega)
        have hk0 : 0 ≤ k := by omega
        have hk1 : k + 3 ≤ 1000000000000000 := by omega
        have HS := Lib.hid hst
        have HOW := Lib.hid hown'
        have HXL := Lib.hid hXl
        have HKN := Lib.hid (show k0 + 3 * ((i + 1 : Nat) : Int) = k + 1 + 1 + 1 by omega)
        rw [hk]
        clear hst hown hown' hX hXl hk
        go_wp2
        go_roundw
        case rel =>
          have hfin := TrsOwn.set HOW.out (k := i) (by rw [HXL.out]; exact hlt) (markT k)
          rw [HS.out, HXL.out] at hfin
          exact ⟨i + 1, by omega, by go_num, by rw [HKN.out], by simpa [markT, show k + 1 + 1 = k + 2 by omega] using hfin, by simpa [markT, show k + 1 + 1 = k + 2 by omega] using (((hbel.setCell (p := ⟨g, i * 3, none⟩) hBg (.int .i64 k)).setCell (p := ⟨g, i * 3 + 1, none⟩) hBg (.int .i64 (k + 1))).setCell (p := ⟨g, i * 3 + 2, none⟩) hBg (.int .i64 (k + 1 + 1))), by simpa [markT, show k + 1 + 1 = k + 2 by omega] using (((hkp.setCell (p := ⟨g, i * 3, none⟩) hgC (.int .i64 k)).setCell (p := ⟨g, i * 3 + 1, none⟩) hgC (.int .i64 (k + 1))).setCell (p := ⟨g, i * 3 + 2, none⟩) hgC (.int .i64 (k + 1 + 1)))⟩
        case measure => simp [intOf]; omega
      · obtain rfl : i = xs.length := by omega
        have hown' : TrsOwn wr B 26 (.slice (some ⟨g, 0, none⟩) xs.length cap) (marksT k0 xs.length) := by simpa using hown
        have HH := Lib.hid hown'
        clear hown hown'
        go_wp2
        go_ret
        exact ⟨rfl, HH.out, hbel, hkp⟩

set_option maxHeartbeats 1000000 in
theorem heldReplicaS_any (v : Value) (n : Nat) (k0 : Int) (w : World) (hv : TrsAt w v (marksT k0 n)) (h0 : 0 ≤ k0) (h1 : k0 + 3 * n ≤ 1000000000000000) :
    Calls Try.prog 25 #[v, .int .i64 k0] w fun e w' => e = .returned (.int .i64 (k0 + 3 * n)) ∧ w = w' := by
  have HV := Lib.hid hv
  obtain ⟨p, cap, rfl, hc, hm⟩ := hv.form
  rw [marksT_length] at hc ⊢
  rw [marksT_length] at HV
  clear hv
  go_enter Try.func25, Try.ntmps25
  go_wp2
  go_loop [1, 4, 5] (fun s1 _ s5 => ∃ i : Nat, i ≤ n ∧ s5 = .int .i64 i ∧ s1 = .int .i64 (k0 + 3 * i)) (fun _ _ s => n - (intOf s).toNat)
  case atStart => exact ⟨0, Nat.zero_le _, rfl, by simp⟩
  case round =>
    obtain ⟨i, hi, rfl, rfl⟩ := hrel
    by_cases hlt : i < n
    · obtain ⟨b, o, rfl, hb, c0, c1, c2⟩ := HV.out.tr (k := i) (by rw [marksT_length]; exact hlt)
      rw [marksT_get hlt] at c0 c1 c2
      obtain ⟨k, hk⟩ : ∃ k, k0 + 3 * (i : Int) = k := ⟨_, rfl⟩
      simp only [markT] at c0 c1 c2
      rw [hk] at c0 c1 c2
      rw [show k + 2 = k + 1 + 1 by omega] at c2
      have hk0 : 0 ≤ k := by omega
      have hk1 : k + 3 ≤ 1000000000000000 := by omega
      have HKN := Lib.hid (show k0 + 3 * ((i + 1 : Nat) : Int) = k + 1 + 1 + 1 by omega)
      rw [hk]
      clear hk
      go_wp2
      go_round
      case rel => exact ⟨i + 1, by omega, by go_num, by rw [HKN.out]⟩
      case measure => simp [intOf]; omega
    · obtain rfl : i = n := by omega
      go_wp2
      go_ret
      exact ⟨rfl, rfl⟩

end Go.Proofs.Ytkefnmmpipeppaa
