/-
  Contracts: dropping, adopting, a closer successor, notifying, of the reference.
-/
import Derived.Test.YtnoamohpkngbdaaStepS
import Derived.Test.YtnoamohpkngbdaaSafe
namespace Go.Proofs.Ytnoamohpkngbdaa
open Go.RowKit

theorem okP_of {xs : List Int} (h : posAll xs = true) {i : Nat} (hi : i < xs.length) : 0 ≤ xs.getD i 0 ∧ xs.getD i 0 < 64 := by
  have := allBelow_of.1 h i hi
  simpa [okP] using this
theorem Shape.a0b {r : List Nd} (h : Shape r) {k : Nat} (hk : k < r.length) : 0 ≤ a0 (r.getD k default) ∧ a0 (r.getD k default) < 64 := by
  obtain ⟨h1, h2, -⟩ := h.2 k hk
  exact okP_of h2 (by omega)
theorem Shape.a1b {r : List Nd} (h : Shape r) {k : Nat} (hk : k < r.length) : 0 ≤ a1 (r.getD k default) ∧ a1 (r.getD k default) < 64 := by
  obtain ⟨h1, h2, -⟩ := h.2 k hk
  exact okP_of h2 (by omega)
theorem Shape.len {r : List Nd} (h : Shape r) : ∀ j, j < r.length → (r.getD j default).after.length ≤ 1048576 := fun j hj => by have := (h.2 j hj).1; omega

set_option maxHeartbeats 1000000 in
theorem l4Drop_any (v : Value) (r : List Nd) (k : Nat) (w : World) (hv : RingAt w v r) (hs : Shape r) (hk : k < r.length) :
    Calls Try.prog 97 #[v, .int .i64 k] w fun e w' => ∃ u, e = .returned (.tuple #[u, .bool (dropOk r k)]) ∧ RingOwn w' w.heap.size u (dropK r k) ∧ Below w.heap.size w w' := by
  have HV := Lib.hid hv
  have HS := Lib.hid hs
  obtain ⟨x0, x1⟩ := hs.a1b hk
  obtain ⟨p, cap, rfl⟩ := hv.form
  obtain ⟨b, o, bk, ok, ck, rfl, -, hc, hm, hck, hck', hb, hbk, k0, k1, k2, k3, k4⟩ := hv.node hk (hs.2 k hk).1
  have hr10 : r.length ≤ 10 := hs.1
  obtain ⟨ki, hki⟩ : ∃ x, (r.getD k default).id = x := ⟨_, rfl⟩
  obtain ⟨kb, hkb⟩ : ∃ x, (r.getD k default).before = x := ⟨_, rfl⟩
  obtain ⟨s0, hs0⟩ : ∃ x, a0 (r.getD k default) = x := ⟨_, rfl⟩
  obtain ⟨s1, hs1⟩ : ∃ x, a1 (r.getD k default) = x := ⟨_, rfl⟩
  have HD := Lib.hid (show dropOk r k = decide (fnd r s0 < 0) by rw [← hs0]; rfl)
  have HK := Lib.hid (show dropK r k = if dropOk r k then r.set k ⟨ki, kb, [s1, (s1 + 1) % 64]⟩ else r by rw [← hki, ← hkb, ← hs1]; rfl)
  have HC := Lib.hid hs.len
  rw [hki] at k0
  rw [hkb] at k1
  rw [hs0] at k3
  rw [hs1] at k4 x0 x1
  have hB0 := (Below.refl w.heap.size w).alloc (Nat.le_refl _) (.cells #[.int .i64 ki, .int .i64 kb, .slice (some ⟨bk, ok, none⟩) 2 ck] 35)
  clear hki hkb hs0 hs1 hv hs
  by_cases hd : 0 ≤ fnd r s0
  · have HF := Lib.hid (show dropOk r k = false by rw [HD.out]; simpa using hd)
    go_enter Try.func97, Try.ntmps97
    go_wp2_with (first | (go_at_call 81; refine (l3Find_any _ r s0 _ (by exact HV.out.below hB0 (Nat.le_refl _))).mono ?_; rintro e w' ⟨rfl, rfl⟩) | (go_at_call 78; refine (l3Copy_any _ r _ (by exact HV.out.below hB0 (Nat.le_refl _)) (by omega) (by exact HC.out)).mono ?_; rintro e w1 ⟨u, rfl, hO, hB1⟩))
    go_ret2
    rw [HK.out, HF.out]
    exact ⟨_, rfl, hO.mono hB0.size, hB0.trans (hB1.mono hB0.size)⟩
  · have HF := Lib.hid (show dropOk r k = true by rw [HD.out]; simp; omega)
    have hd' : fnd r s0 < 0 := by omega
    have hw1 : IntKind.i64.wrap (s1 + 1) = s1 + 1 := IntWalk.i64_in _ (by omega)
    have HW := Lib.hid hw1
    clear hd hw1
    go_enter Try.func97, Try.ntmps97
    go_wp2_with (first | (go_at_call 81; refine (l3Find_any _ r s0 _ (by exact HV.out.below hB0 (Nat.le_refl _))).mono ?_; rintro e w' ⟨rfl, rfl⟩))
    have hw1 := HW.out
    go_region
    clear hw1
    go_wp2_with fail
    have hB := (((Below.refl w.heap.size w).alloc (Nat.le_refl _) (.cells #[.int .i64 ki, .int .i64 kb, .slice (some ⟨w.heap.size + 1, 0, none⟩) 2 2] 35)).alloc (by simp) (.cells #[.int .i64 s1, .int .i64 ((s1 + 1) % 64)] 3)).drew
    refine (l4Set_any _ _ r k ki kb [s1, (s1 + 1) % 64] _ (by exact HV.out.below hB (Nat.le_refl _)) HS.out hk (by exact intsAt_newN _ _ [s1, (s1 + 1) % 64] _ _ (by simp) rfl (by simp)) (by simp)).mono ?_
    rintro e w1 ⟨u, rfl, hO, hB1⟩
    go_wp2
    go_ret2
    rw [HK.out, HF.out, if_pos rfl]
    exact ⟨_, rfl, hO.mono hB.size, hB.trans (hB1.mono hB.size)⟩

set_option maxHeartbeats 1000000 in
theorem l4Adopt_any (v : Value) (r : List Nd) (k : Nat) (w : World) (hv : RingAt w v r) (hs : Shape r) (hk : k < r.length) :
    Calls Try.prog 98 #[v, .int .i64 k] w fun e w' => ∃ u, e = .returned (.tuple #[u, .bool (adoptOk r k)]) ∧ RingOwn w' w.heap.size u (adoptK r k) ∧ Below w.heap.size w w' := by
  have HV := Lib.hid hv
  have HS := Lib.hid hs
  obtain ⟨p, cap, rfl⟩ := hv.form
  obtain ⟨b, o, bk, ok, ck, rfl, -, hc, hm, hck, hck', hb, hbk, k0, k1, k2, k3, -⟩ := hv.node hk (hs.2 k hk).1
  have hr10 : r.length ≤ 10 := hs.1
  obtain ⟨s0, hs0⟩ : ∃ x, a0 (r.getD k default) = x := ⟨_, rfl⟩
  have HD := Lib.hid (show adoptOk r k = decide (0 ≤ fnd r s0) by rw [← hs0]; rfl)
  have HK := Lib.hid (show adoptK r k = if adoptOk r k then followK r k (fnd r s0).toNat else r by rw [← hs0]; rfl)
  have HC := Lib.hid hs.len
  rw [hs0] at k3
  clear hs0 hv hs k0 k1
  rcases fnd_cases r s0 with ⟨hf, -⟩ | ⟨j, hj, hf, -, -⟩
  · have HF := Lib.hid (show adoptOk r k = false by rw [HD.out, hf]; rfl)
    have HX := Lib.hid hf
    clear hf
    go_enter Try.func98, Try.ntmps98
    go_wp2_with (first | (go_at_call 81; refine (l3Find_any _ r s0 _ (by exact HV.out)).mono ?_; rw [HX.out]; rintro e w' ⟨rfl, rfl⟩) | (go_at_call 78; refine (l3Copy_any _ r _ (by exact HV.out) (by omega) (by exact HC.out)).mono ?_; rintro e w1 ⟨u, rfl, hO, hB1⟩))
    go_ret2
    rw [HK.out, HF.out]
    exact ⟨_, rfl, hO, hB1⟩
  · have HF := Lib.hid (show adoptOk r k = true by rw [HD.out, hf]; simp)
    have HX := Lib.hid hf
    clear hf
    go_enter Try.func98, Try.ntmps98
    go_wp2_with (first | (go_at_call 81; refine (l3Find_any _ r s0 _ (by exact HV.out)).mono ?_; rw [HX.out]; rintro e w' ⟨rfl, rfl⟩) | (go_at_call 102; refine (l4Follow_any _ r k j _ (by exact HV.out) HS.out hk hj).mono ?_; rintro e w1 ⟨u, rfl, hO, hB1⟩))
    go_ret2
    rw [HK.out, HF.out, HX.out, if_pos rfl, Int.toNat_natCast]
    exact ⟨_, rfl, hO, hB1⟩

set_option maxHeartbeats 1000000 in
theorem l4One_any (v : Value) (r : List Nd) (id : Int) (w : World) (hv : RingAt w v r) :
    Calls Try.prog 96 #[v, .int .i64 id] w fun e w' => e = .returned (.tuple #[.int .i64 (if ringSafe r && okP id then fnd r id else -1), .bool (ringSafe r && okP id)]) ∧ Below w.heap.size w w' := by
  cases hrs : ringSafe r <;> cases hok : okP id
  all_goals
    have HR := Lib.hid hrs
    have HO := Lib.hid hok
    clear hrs hok
    go_enter Try.func96, Try.ntmps96
    go_wp2_with (first | (go_at_call 35; refine (sRingSafe_any _ r _ hv).mono ?_; rw [HR.out]; rintro e w1 ⟨rfl, hb1⟩) | (go_at_call 54; refine (l1Point_any id _).mono ?_; rw [HO.out]; rintro e w' ⟨rfl, rfl⟩) | (go_at_call 81; refine (l3Find_any _ r id _ (by exact hv.below hb1 (Nat.le_refl _))).mono ?_; rintro e w' ⟨rfl, rfl⟩))
    go_ret2
    exact ⟨by simp, hb1⟩

end Go.Proofs.Ytnoamohpkngbdaa
