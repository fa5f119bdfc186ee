/-
  Contracts: RingDrop, RingAdopt, RingCloser, RingNotify of the reference.
-/
import Derived.Test.YtojpfbbgpcafnaaStepU
namespace Go.Proofs.Ytojpfbbgpcafnaa
open Go.RowKit

theorem l4One_no (v : Value) (r : List Nd) (id : Int) (w : World) (hv : RingAt w v r) (h : (ringSafe r && okP id) = false) :
    Calls Try.prog 65 #[v, .int .i64 id] w fun e w' => e = .returned (.tuple #[.int .i64 (-1), .bool false]) ∧ Below w.heap.size w w' := by
  have := l4One_any v r id w hv
  rw [h] at this
  exact this
theorem l4One_yes (v : Value) (r : List Nd) (id : Int) (w : World) (hv : RingAt w v r) (h : (ringSafe r && okP id) = true) :
    Calls Try.prog 65 #[v, .int .i64 id] w fun e w' => e = .returned (.tuple #[.int .i64 (fnd r id), .bool true]) ∧ Below w.heap.size w w' := by
  have := l4One_any v r id w hv
  rw [h] at this
  exact this
theorem RingOwn.made (w : World) (M : Nat) (hM : M = w.heap.size) : RingOwn (w.alloc (.cells #[] 31)) M (.slice (some ⟨M, 0, none⟩) 0 0) [] := by
  subst hM
  exact ⟨[], rfl, World.ownsRow_made _ _ _ (Nat.le_refl _) (by unfold maxLen; omega) rfl, fun i hi => by simp at hi, fun i j _ hj => by simp at hj⟩

set_option maxHeartbeats 1000000 in
theorem sRingDrop_any (v : Value) (r : List Nd) (id : Int) (w : World) (hv : RingAt w v r) :
    Calls Try.prog 119 #[v, .int .i64 id] w fun e w' => ∃ u, e = .returned (.tuple #[u, .bool (rDropOk r id)]) ∧ RingOwn w' w.heap.size u (rDrop r id) ∧ Below w.heap.size w w' := by
  unfold rDropOk rDrop
  cases hc : (ringSafe r && okP id)
  · have HC := Lib.hid hc
    rw [stepR_no (by simp), stepB_no (by simp)]
    clear hc
    go_enter Try.func119, Try.ntmps119
    go_wp2_with (first | (go_at_call 65; refine (l4One_no _ r id _ hv HC.out).mono ?_; rintro e w1 ⟨rfl, hb1⟩))
    go_ret2
    exact ⟨_, rfl, (RingOwn.made w1 _ rfl).mono hb1.size, hb1.alloc hb1.size _⟩
  · have HC := Lib.hid hc
    have hsf : ringSafe r = true := by simp at hc; exact hc.1
    have hsh : Shape r := shape_valid (by unfold ringSafe at hsf; simp at hsf; exact hsf.1)
    have HS := Lib.hid hsh
    have hr10 : r.length ≤ 10 := hsh.1
    have HL := Lib.hid hsh.len
    clear hc hsf hsh

    rcases fnd_cases r id with ⟨hf, -⟩ | ⟨j, hj, hf, -, -⟩
    · have HX := Lib.hid hf
      rw [stepR_miss (by simp) hf, stepB_miss hf]
      clear hf
      go_enter Try.func119, Try.ntmps119
      go_wp2_with (first | (go_at_call 65; refine (l4One_yes _ r id _ hv HC.out).mono ?_; rw [HX.out]; rintro e w1 ⟨rfl, hb1⟩) | (go_at_call 44; refine (l3Copy_any _ r _ (hv.below hb1 (Nat.le_refl _)) (by omega) HL.out).mono ?_; rintro e w2 ⟨u, rfl, hO, hB1⟩))
      go_ret2
      exact ⟨_, rfl, hO.mono hb1.size, hb1.trans (hB1.mono hb1.size)⟩
    · have HX := Lib.hid hf
      rw [stepR_hit (by simp) hf, stepB_hit (by simp) hf]
      clear hf
      go_enter Try.func119, Try.ntmps119
      go_wp2_with (first | (go_at_call 65; refine (l4One_yes _ r id _ hv HC.out).mono ?_; rw [HX.out]; rintro e w1 ⟨rfl, hb1⟩) | (go_at_call 92; refine (l4Drop_any _ r j _ (hv.below hb1 (Nat.le_refl _)) HS.out hj).mono ?_; rintro e w2 ⟨u, rfl, hO, hB1⟩))
      go_ret2
      exact ⟨_, rfl, hO.mono hb1.size, hb1.trans (hB1.mono hb1.size)⟩

set_option maxHeartbeats 1000000 in
theorem sRingAdopt_any (v : Value) (r : List Nd) (id : Int) (w : World) (hv : RingAt w v r) :
    Calls Try.prog 120 #[v, .int .i64 id] w fun e w' => ∃ u, e = .returned (.tuple #[u, .bool (rAdoptOk r id)]) ∧ RingOwn w' w.heap.size u (rAdopt r id) ∧ Below w.heap.size w w' := by
  unfold rAdoptOk rAdopt
  cases hc : (ringSafe r && okP id)
  · have HC := Lib.hid hc
    rw [stepR_no (by simp), stepB_no (by simp)]
    clear hc
    go_enter Try.func120, Try.ntmps120
    go_wp2_with (first | (go_at_call 65; refine (l4One_no _ r id _ hv HC.out).mono ?_; rintro e w1 ⟨rfl, hb1⟩))
    go_ret2
    exact ⟨_, rfl, (RingOwn.made w1 _ rfl).mono hb1.size, hb1.alloc hb1.size _⟩
  · have HC := Lib.hid hc
    have hsf : ringSafe r = true := by simp at hc; exact hc.1
    have hsh : Shape r := shape_valid (by unfold ringSafe at hsf; simp at hsf; exact hsf.1)
    have HS := Lib.hid hsh
    have hr10 : r.length ≤ 10 := hsh.1
    have HL := Lib.hid hsh.len
    clear hc hsf hsh

    rcases fnd_cases r id with ⟨hf, -⟩ | ⟨j, hj, hf, -, -⟩
    · have HX := Lib.hid hf
      rw [stepR_miss (by simp) hf, stepB_miss hf]
      clear hf
      go_enter Try.func120, Try.ntmps120
      go_wp2_with (first | (go_at_call 65; refine (l4One_yes _ r id _ hv HC.out).mono ?_; rw [HX.out]; rintro e w1 ⟨rfl, hb1⟩) | (go_at_call 44; refine (l3Copy_any _ r _ (hv.below hb1 (Nat.le_refl _)) (by omega) HL.out).mono ?_; rintro e w2 ⟨u, rfl, hO, hB1⟩))
      go_ret2
      exact ⟨_, rfl, hO.mono hb1.size, hb1.trans (hB1.mono hb1.size)⟩
    · have HX := Lib.hid hf
      rw [stepR_hit (by simp) hf, stepB_hit (by simp) hf]
      clear hf
      go_enter Try.func120, Try.ntmps120
      go_wp2_with (first | (go_at_call 65; refine (l4One_yes _ r id _ hv HC.out).mono ?_; rw [HX.out]; rintro e w1 ⟨rfl, hb1⟩) | (go_at_call 93; refine (l4Adopt_any _ r j _ (hv.below hb1 (Nat.le_refl _)) HS.out hj).mono ?_; rintro e w2 ⟨u, rfl, hO, hB1⟩))
      go_ret2
      exact ⟨_, rfl, hO.mono hb1.size, hb1.trans (hB1.mono hb1.size)⟩

set_option maxHeartbeats 1000000 in
theorem sRingCloser_any (v : Value) (r : List Nd) (id : Int) (other : Int) (w : World) (hv : RingAt w v r) :
    Calls Try.prog 121 #[v, .int .i64 id, .int .i64 other] w fun e w' => ∃ u, e = .returned (.tuple #[u, .bool (rCloserOk r id other)]) ∧ RingOwn w' w.heap.size u (rCloser r id other) ∧ Below w.heap.size w w' := by
  unfold rCloserOk rCloser
  cases hc : (ringSafe r && okP id)
  · have HC := Lib.hid hc
    rw [stepR_no (by simp), stepB_no (by simp)]
    clear hc
    go_enter Try.func121, Try.ntmps121
    go_wp2_with (first | (go_at_call 65; refine (l4One_no _ r id _ hv HC.out).mono ?_; rintro e w1 ⟨rfl, hb1⟩))
    go_ret2
    exact ⟨_, rfl, (RingOwn.made w1 _ rfl).mono hb1.size, hb1.alloc hb1.size _⟩
  · have HC := Lib.hid hc
    have hsf : ringSafe r = true := by simp at hc; exact hc.1
    have hsh : Shape r := shape_valid (by unfold ringSafe at hsf; simp at hsf; exact hsf.1)
    have HS := Lib.hid hsh
    have hr10 : r.length ≤ 10 := hsh.1
    have HL := Lib.hid hsh.len
    clear hc hsf hsh

    cases hp : okP other
    · have HP := Lib.hid hp
      rw [stepR_no (by simp), stepB_no (by simp)]
      clear hp
      go_enter Try.func121, Try.ntmps121
      go_wp2_with (first | (go_at_call 65; refine (l4One_yes _ r id _ hv HC.out).mono ?_; rintro e w1 ⟨rfl, hb1⟩) | (go_at_call 78; refine (l1Point_any other _).mono ?_; rw [HP.out]; rintro e w' ⟨rfl, rfl⟩))
      go_ret2
      exact ⟨_, rfl, (RingOwn.made w1 _ rfl).mono hb1.size, hb1.alloc hb1.size _⟩
    · have HP := Lib.hid hp
      clear hp
      rcases fnd_cases r id with ⟨hf, -⟩ | ⟨j, hj, hf, -, -⟩
      · have HX := Lib.hid hf
        rw [stepR_miss (by simp) hf, stepB_miss hf]
        clear hf
        go_enter Try.func121, Try.ntmps121
        go_wp2_with (first | (go_at_call 65; refine (l4One_yes _ r id _ hv HC.out).mono ?_; rw [HX.out]; rintro e w1 ⟨rfl, hb1⟩) | (go_at_call 78; refine (l1Point_any other _).mono ?_; rw [HP.out]; rintro e w' ⟨rfl, rfl⟩) | (go_at_call 44; refine (l3Copy_any _ r _ (hv.below hb1 (Nat.le_refl _)) (by omega) HL.out).mono ?_; rintro e w2 ⟨u, rfl, hO, hB1⟩))
        go_ret2
        exact ⟨_, rfl, hO.mono hb1.size, hb1.trans (hB1.mono hb1.size)⟩
      · have HX := Lib.hid hf
        rw [stepR_hit (by simp) hf, stepB_hit (by simp) hf]
        clear hf
        go_enter Try.func121, Try.ntmps121
        go_wp2_with (first | (go_at_call 65; refine (l4One_yes _ r id _ hv HC.out).mono ?_; rw [HX.out]; rintro e w1 ⟨rfl, hb1⟩) | (go_at_call 78; refine (l1Point_any other _).mono ?_; rw [HP.out]; rintro e w' ⟨rfl, rfl⟩) | (go_at_call 94; refine (l4Closer_any _ r j other _ (hv.below hb1 (Nat.le_refl _)) HS.out hj).mono ?_; rintro e w2 ⟨u, rfl, hO, hB1⟩))
        go_ret2
        exact ⟨_, rfl, hO.mono hb1.size, hb1.trans (hB1.mono hb1.size)⟩

set_option maxHeartbeats 1000000 in
theorem sRingNotify_any (v : Value) (r : List Nd) (id : Int) (other : Int) (w : World) (hv : RingAt w v r) :
    Calls Try.prog 122 #[v, .int .i64 id, .int .i64 other] w fun e w' => ∃ u, e = .returned (.tuple #[u, .bool (rNotifyOk r id other)]) ∧ RingOwn w' w.heap.size u (rNotify r id other) ∧ Below w.heap.size w w' := by
  unfold rNotifyOk rNotify
  cases hc : (ringSafe r && okP id)
  · have HC := Lib.hid hc
    rw [stepR_no (by simp), stepB_no (by simp)]
    clear hc
    go_enter Try.func122, Try.ntmps122
    go_wp2_with (first | (go_at_call 65; refine (l4One_no _ r id _ hv HC.out).mono ?_; rintro e w1 ⟨rfl, hb1⟩))
    go_ret2
    exact ⟨_, rfl, (RingOwn.made w1 _ rfl).mono hb1.size, hb1.alloc hb1.size _⟩
  · have HC := Lib.hid hc
    have hsf : ringSafe r = true := by simp at hc; exact hc.1
    have hsh : Shape r := shape_valid (by unfold ringSafe at hsf; simp at hsf; exact hsf.1)
    have HS := Lib.hid hsh
    have hr10 : r.length ≤ 10 := hsh.1
    have HL := Lib.hid hsh.len
    clear hc hsf hsh

    cases hp : okP other
    · have HP := Lib.hid hp
      rw [stepR_no (by simp), stepB_no (by simp)]
      clear hp
      go_enter Try.func122, Try.ntmps122
      go_wp2_with (first | (go_at_call 65; refine (l4One_yes _ r id _ hv HC.out).mono ?_; rintro e w1 ⟨rfl, hb1⟩) | (go_at_call 78; refine (l1Point_any other _).mono ?_; rw [HP.out]; rintro e w' ⟨rfl, rfl⟩))
      go_ret2
      exact ⟨_, rfl, (RingOwn.made w1 _ rfl).mono hb1.size, hb1.alloc hb1.size _⟩
    · have HP := Lib.hid hp
      clear hp
      rcases fnd_cases r id with ⟨hf, -⟩ | ⟨j, hj, hf, -, -⟩
      · have HX := Lib.hid hf
        rw [stepR_miss (by simp) hf, stepB_miss hf]
        clear hf
        go_enter Try.func122, Try.ntmps122
        go_wp2_with (first | (go_at_call 65; refine (l4One_yes _ r id _ hv HC.out).mono ?_; rw [HX.out]; rintro e w1 ⟨rfl, hb1⟩) | (go_at_call 78; refine (l1Point_any other _).mono ?_; rw [HP.out]; rintro e w' ⟨rfl, rfl⟩) | (go_at_call 44; refine (l3Copy_any _ r _ (hv.below hb1 (Nat.le_refl _)) (by omega) HL.out).mono ?_; rintro e w2 ⟨u, rfl, hO, hB1⟩))
        go_ret2
        exact ⟨_, rfl, hO.mono hb1.size, hb1.trans (hB1.mono hb1.size)⟩
      · have HX := Lib.hid hf
        rw [stepR_hit (by simp) hf, stepB_hit (by simp) hf]
        clear hf
        go_enter Try.func122, Try.ntmps122
        go_wp2_with (first | (go_at_call 65; refine (l4One_yes _ r id _ hv HC.out).mono ?_; rw [HX.out]; rintro e w1 ⟨rfl, hb1⟩) | (go_at_call 78; refine (l1Point_any other _).mono ?_; rw [HP.out]; rintro e w' ⟨rfl, rfl⟩) | (go_at_call 95; refine (l4Notify_any _ r j other _ (hv.below hb1 (Nat.le_refl _)) HS.out hj).mono ?_; rintro e w2 ⟨u, rfl, hO, hB1⟩))
        go_ret2
        exact ⟨_, rfl, hO.mono hb1.size, hb1.trans (hB1.mono hb1.size)⟩

end Go.Proofs.Ytojpfbbgpcafnaa
