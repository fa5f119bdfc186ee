/-
  Contract: DrawRegisterWrite.
-/
import Derived.Test.YtkefnmmpipeppaaDrp
namespace Go.Proofs.Ytkefnmmpipeppaa
open Go.RowKit

theorem results_tmp5 {fn : Func} {t u v x y : Tmp} (h : fn.results = #[.tmp t, .tmp u, .tmp v, .tmp x, .tmp y]) (tmps : Array Value) (P : Program) (w : World) :
    (results fn tmps).run P w = .ok (.tuple #[tmps.getD t undef, tmps.getD u undef, tmps.getD v undef, tmps.getD x undef, tmps.getD y undef]) w := by
  simp [results, h]
def DWPost (w : World) (e : Ending) (w' : World) : Prop := ∃ (u : Value) (xs : List Tr) (z : Value) (ks : List Int) (y : Value) (ts : List Int) (wr vl : Int), e = .returned (.tuple #[u, z, y, .int .i64 wr, .int .i64 vl]) ∧
  TrsAt w' u xs ∧ IntsAt w' z ks ∧ IntsAt w' y ts ∧ 1 ≤ xs.length ∧ xs.length ≤ 10 ∧ ks.length ≤ 11 ∧ ts.length ≤ 11 ∧ Below w.heap.size w w'
set_option maxRecDepth 100000 in
set_option maxHeartbeats 4000000 in
theorem drawWrite_any (v : Value) (w : World) (h : CodeAt w v) : Calls Try.prog 31 #[v] w (DWPost w) := by
  obtain ⟨B, hB⟩ : ∃ B, w.heap.size = B := ⟨_, rfl⟩
  go_enter Try.func31, Try.ntmps31
  go_wp2_with fail
  refine (l6Open_any _ _ h).mono ?_
  rw [hB]
  rintro e w1 ⟨rfl, hr1, hb1⟩
  go_wp2_with fail
  refine (l91Replicas_any B _ hr1).mono ?_
  rintro e w2 ⟨u, xs, p2, rfl, hu, hl1, hl10, hbd, hp2, hr2, hg2⟩
  have HU := Lib.hid hu
  obtain ⟨pu, cu, rfl, hc1, hc2⟩ := hu.at.form
  clear hu
  go_wp2_with fail
  refine (l91Some_any B p2 xs.length _ hr2 (by omega) (by omega)).mono ?_
  rintro e w3 ⟨z, ks, p3, rfl, hk, hkl, hp3, hr3, hg3⟩
  have HK := Lib.hid hk
  clear hk
  go_wp2_with fail
  refine (l91Some_any B p3 xs.length _ hr3 (by omega) (by omega)).mono ?_
  rintro e w4 ⟨y, ts, p4, rfl, ht, htl, hp4, hr4, hg4⟩
  have HT := Lib.hid ht
  clear ht
  go_wp2_with fail
  refine (pick_any B p4 4 _ hr4 (by omega) (by omega) (by omega)).mono ?_
  rintro e w5 ⟨c5, hc5, rfl, hr5, hg5⟩
  go_wp2_with fail
  refine (pick_any B (p4 + 1) 20 _ hr5 (by omega) (by omega) (by omega)).mono ?_
  rintro e w6 ⟨c6, hc6, rfl, hr6, hg6⟩
  have hdv : (c6 : Int).tdiv 19 = ((c6 / 19 : Nat) : Int) := rfl
  have hd1 : c6 / 19 ≤ 1 := by omega
  obtain ⟨d, hd⟩ : ∃ d, c6 / 19 = d := ⟨_, rfl⟩
  rw [hd] at hdv hd1
  clear hd
  go_wp2_with fail
  refine (pick_any B (p4 + 1 + 1) 102 _ hr6 (by omega) (by omega) (by omega)).mono ?_
  rintro e w7 ⟨c7, hc7, rfl, hr7, hg7⟩
  have hg47 := grow_trans (grow_trans hg5 hg6) hg7
  have hg37 := grow_trans hg4 hg47
  have hg27 := grow_trans hg3 hg37
  have hb7 : Below B w w7 := hb1.trans (below_grow (grow_trans hg2 hg27) (Nat.le_refl _) (by have := hr1.lt; omega))
  go_wp2
  ((try simp only [Exit.inBlock, Exit.then]); refine bodyPost_ret (results_tmp5 rfl _ _ _) rfl ?_)
  exact ⟨_, xs, z, ks, y, ts, _, _, rfl, HU.out _ (keeps_grow hg27), HK.out _ (keeps_grow hg37), HT.out _ (keeps_grow hg47), hl1, hl10, by omega, by omega, by rw [hB]; exact hb7⟩
end Go.Proofs.Ytkefnmmpipeppaa
