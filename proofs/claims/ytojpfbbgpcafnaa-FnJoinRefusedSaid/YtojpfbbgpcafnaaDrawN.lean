/-
  Contracts: a drawn node of a drawn ring.
-/
import Derived.Test.YtojpfbbgpcafnaaDraw8
import Derived.Test.YtojpfbbgpcafnaaIPr
namespace Go.Proofs.Ytojpfbbgpcafnaa
open Go.RowKit

def MemberPost (S p : Nat) (w : World) (e : Ending) (w' : World) : Prop := ∃ (x : Int) (p' : Nat), e = .returned (.int .i64 x) ∧ p' ≤ p + 3 ∧ RdAt w' S p' ∧ w.grownBy w' (some S)
set_option maxHeartbeats 1000000 in
theorem l91Member_any (S p : Nat) (v : Value) (r : List Nd) (w : World) (h : RdAt w S p) (hp : p ≤ 90000) (hO : RingOwn w (S + 1) v r) (h1 : 1 ≤ r.length) (h2 : r.length ≤ 10) :
    Calls Try.prog 73 #[.pointer (some ⟨S, 0, none⟩), v] w (MemberPost S p w) := by
  obtain ⟨g, cap, rfl, hg1, hg2, hgS, hgl⟩ := hO.form h1
  unfold maxLen at hg2
  have HO := Lib.hid hO
  clear hO
  have hx0 : ((r.length : Int) == 0) = false := beq_eq_false_iff_ne.2 (by omega)
  go_enter Try.func73, Try.ntmps73
  go_wp2_with fail
  refine (pick_any S p 10 _ h (by omega) (by omega) (by omega)).mono ?_
  rintro e w1 ⟨c1, hc1, rfl, hr1, hg1'⟩
  obtain h0 | h0 : ((c1 : Int) == 0) = true ∨ ((c1 : Int) == 0) = false := by cases ((c1 : Int) == 0) <;> simp
  · go_wp2_with (go_at_call 75; refine (l91Point_any S (p + 1) _ hr1 (by omega)).mono ?_; rintro e w2 ⟨x2, p2, hx21, hx22, hp2, rfl, hr2, hg2'⟩)
    go_ret
    exact ⟨_, p2, rfl, by omega, hr2, grow_trans hg1' hg2'⟩
  · go_wp2_with (go_at_call 74; refine (pick_any S (p + 1) (r.length : Int) _ hr1 (by omega) (by omega) (by omega)).mono ?_; rintro e w2 ⟨c2, hc2, rfl, hr2, hg2'⟩; obtain ⟨va2, n20, -, -, -, -, -⟩ := (HO.out.grown (grow_trans hg1' hg2') (by omega)).cells (k := c2) (by omega))
    go_ret
    exact ⟨_, p + 1 + 1, rfl, by omega, hr2, grow_trans hg1' hg2'⟩

def BentPost (S p : Nat) (w : World) (e : Ending) (w' : World) : Prop := ∃ (u : Value) (y : List Nd) (x : Int) (p' : Nat), e = .returned (.tuple #[u, .int .i64 x]) ∧ RingOwn w' (S + 1) u y ∧ Small y ∧ p' ≤ p + 200 ∧ RdAt w' S p' ∧ w.grownBy w' (some S)
set_option maxHeartbeats 1000000 in
theorem l91Bent_any (S p : Nat) (w : World) (h : RdAt w S p) (hp : p ≤ 40000) :
    Calls Try.prog 64 #[.pointer (some ⟨S, 0, none⟩)] w (BentPost S p w) := by
  go_enter Try.func64, Try.ntmps64
  go_wp2_with (go_at_call 40; refine (l91Spoilt_any S p _ h hp).mono ?_; rintro e w1 ⟨u, y, p1, rfl, hO, hsm, hp1, hr1, hg1⟩)
  obtain ⟨g, cap, rfl, hk1, hk2, hgS, hgl⟩ := hO.form hsm.1
  unfold maxLen at hk2
  have HO := Lib.hid hO
  have HS := Lib.hid hsm
  have hy1 := hsm.1
  have hy10 := hsm.2.1
  clear hO hsm
  go_loopg [2, 3, 5] y.length (fun m _ _ i wr => ∃ k pp : Nat, k ≤ y.length ∧ m = y.length - k ∧ i = .int .i64 k ∧ pp ≤ p1 + k ∧ RdAt wr S pp ∧ w1.grownBy wr (some S))
  case atStart => exact ⟨0, p1, Nat.zero_le _, rfl, rfl, by omega, hr1, grow_refl _ _⟩
  case round =>
    obtain ⟨k, pp, hk, rfl, rfl, hpp, hr, hg⟩ := hrel
    have HW := Lib.hid (HO.out.grown hg (by omega))
    have HG := Lib.hid hg
    by_cases hlt : k < y.length
    · obtain ⟨b, o, va, hcv, hia, hid, hbl⟩ : ∃ b o va, some (⟨g, 0, none⟩ : Addr) = some ⟨b, o, none⟩ ∧ (wr.cell? ⟨b, o + k * 3 + 2, none⟩ = some va ∧ IntsAt wr va (y.getD k default).after) ∧ wr.cell? ⟨b, o + k * 3, none⟩ = some (.int .i64 (y.getD k default).id) ∧ b < wr.heap.size := by
        obtain ⟨p', c', e, -, -, h4⟩ := HW.out.at
        cases e
        rcases h4 with ⟨h0, -⟩ | ⟨b, o, e2, hb, hcell⟩
        · rw [h0] at hlt; simp at hlt
        · obtain ⟨q1, q2, va, q3, q4⟩ := hcell k hlt
          exact ⟨b, o, va, e2, ⟨q3, q4⟩, q1, hb⟩
      cases hcv
      obtain ⟨hcv, hia⟩ := hia
      rw [Nat.zero_add] at hcv hid
      obtain ⟨i, hi⟩ : ∃ x, (y.getD k default).id = x := ⟨_, rfl⟩
      rw [hi] at hid
      have hl2 := HS.out.2.2 k hlt
      obtain ⟨A, hA⟩ : ∃ x, (y.getD k default).after = x := ⟨_, rfl⟩
      rw [hA] at hia hl2
      have i0 : (0 : Int) ≤ (k : Int) := by omega
      have i1 : (k : Int) < (y.length : Int) := by omega
      clear hi hA hg
      obtain ⟨pa, ca, rfl⟩ := hia.form
      rcases Nat.eq_zero_or_pos A.length with h0 | h0
      · rw [h0] at hcv
        clear h0 hl2 hia
        go_wp2
        go_roundg (y.length - (k + 1))
        case rel => exact ⟨k + 1, pp, by omega, rfl, by go_num, by omega, hr, HG.out⟩
        case measure => omega
      · obtain ⟨b2, o2, rfl, -, hc1, hc2, hbl2, hcell⟩ := hia.openAt h0
        have h00 := hcell 0 h0
        obtain ⟨x, hx⟩ : ∃ z, A.getD 0 0 = z := ⟨_, rfl⟩
        rw [hx, Nat.add_zero] at h00
        obtain ⟨f, hf⟩ : ∃ z, fnd y x = z := ⟨_, rfl⟩
        have HF := Lib.hid hf
        have hw := fun w' (hr' : RingAt w' (.slice (some ⟨g, 0, none⟩) y.length cap) y) => l3Find_any _ y x w' hr'
        rw [hf] at hw
        have HFW := Lib.hid hw
        clear hcell hx hf hw hia
        go_wp2_with (first | (go_at_call 79; refine (HFW.out _ (by exact HW.out.at)).mono ?_; rintro e w' ⟨rfl, rfl⟩) | (go_at_call 74; refine (pick_any S pp 4 _ hr (by omega) (by omega) (by omega)).mono ?_; rintro e w3 ⟨c3, hc3, rfl, hr3, hg3⟩; have hid3 := (grow_cell (o := k * 3) hg3 hbl (by omega)).trans hid))
        · go_quiet (fail)
          go_wp2
          go_ret2
          exact ⟨_, y, i, pp + 1, rfl, (HW.out.grown hg3 (by omega)).below (below_drewN (Below.refl _ w3) nq) (Nat.le_refl _), HS.out, by omega, hr3.below (below_drewN (Below.refl _ w3) nq) (Nat.le_refl _), grow_trans hg1 (grow_trans HG.out (grow_trans hg3 (grow_below (below_drewN (Below.refl _ w3) nq) (Nat.le_refl _))))⟩
        · go_roundg (y.length - (k + 1))
          case rel => exact ⟨k + 1, pp + 1, by omega, rfl, by go_num, by omega, hr3, grow_trans HG.out hg3⟩
          case measure => omega
        · go_roundg (y.length - (k + 1))
          case rel => exact ⟨k + 1, pp, by omega, rfl, by go_num, by omega, hr, HG.out⟩
          case measure => omega
    · obtain rfl : k = y.length := by omega
      clear hg
      go_wp2_with (first | (go_at_call 73; refine (l91Member_any S pp _ y _ hr (by omega) HW.out hy1 hy10).mono ?_; rintro e w3 ⟨x3, p3, rfl, hp3, hr3, hg3⟩))
      go_ret2
      exact ⟨_, y, x3, p3, rfl, HW.out.grown hg3 (by omega), HS.out, by omega, hr3, grow_trans hg1 (grow_trans HG.out hg3)⟩

def DrawnRing1 (w : World) (e : Ending) (w' : World) : Prop := ∃ (u : Value) (y : List Nd) (id : Int), e = .returned (.tuple #[u, .int .i64 id]) ∧ RingAt w' u y ∧ Small y ∧ Below w.heap.size w w'
def DrawnRing2 (w : World) (e : Ending) (w' : World) : Prop := ∃ (u : Value) (y : List Nd) (id o : Int), e = .returned (.tuple #[u, .int .i64 id, .int .i64 o]) ∧ RingAt w' u y ∧ Small y ∧ Below w.heap.size w w'
def DrawnRing0 (w : World) (e : Ending) (w' : World) : Prop := ∃ (u : Value) (y : List Nd), e = .returned u ∧ RingAt w' u y ∧ Small y ∧ Below w.heap.size w w'

end Go.Proofs.Ytojpfbbgpcafnaa
