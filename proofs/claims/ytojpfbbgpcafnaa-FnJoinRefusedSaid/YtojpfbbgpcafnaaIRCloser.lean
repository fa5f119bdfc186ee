/-
  Contracts: RingCloser of the program.
-/
import Derived.Test.YtojpfbbgpcafnaaICloser
import Derived.Test.YtojpfbbgpcafnaaIRDrop
namespace Go.Proofs.Ytojpfbbgpcafnaa
open Go.RowKit

theorem box3a (w : World) (x y : Int) (t : TypeId) (cs : Array Value) : (((w.alloc (.cells #[.int .i64 x] t)).alloc (.cells #[.int .i64 y] t)).alloc (.cells cs t)).cell? ⟨w.heap.size, 0, none⟩ = some (.int .i64 x) := by
  have h1 : (w.alloc (.cells #[.int .i64 x] t)).cell? ⟨w.heap.size, 0, none⟩ = some (.int .i64 x) := by rw [World.cell?_alloc_new]; rfl
  have hb := ((Below.refl _ (w.alloc (.cells #[.int .i64 x] t))).alloc (Nat.le_refl _) (.cells #[.int .i64 y] t)).alloc (by simp) (.cells cs t)
  exact (hb.cell (p := ⟨w.heap.size, 0, none⟩) (by simp)).trans h1
theorem box3b (w : World) (x y : Int) (t : TypeId) (cs : Array Value) : (((w.alloc (.cells #[.int .i64 x] t)).alloc (.cells #[.int .i64 y] t)).alloc (.cells cs t)).cell? ⟨w.heap.size + 1, 0, none⟩ = some (.int .i64 y) := by
  have e : w.heap.size + 1 = (w.alloc (.cells #[.int .i64 x] t)).heap.size := by simp
  rw [e]
  generalize w.alloc (.cells #[.int .i64 x] t) = w1
  have h1 : (w1.alloc (.cells #[.int .i64 y] t)).cell? ⟨w1.heap.size, 0, none⟩ = some (.int .i64 y) := by rw [World.cell?_alloc_new]; rfl
  have hb := (Below.refl _ (w1.alloc (.cells #[.int .i64 y] t))).alloc (Nat.le_refl _) (.cells cs t)
  exact (hb.cell (p := ⟨w1.heap.size, 0, none⟩) (by simp)).trans h1

set_option maxHeartbeats 1000000 in
theorem closerF_any (S g cap : Nat) (r : List Nd) (id other : Int) (B A C : Nat) (w : World) (hO : RingOwn w B (.slice (some ⟨g, 0, none⟩) r.length cap) r) (hs : Shape r)
    (hS : w.cell? ⟨S, 0, none⟩ = some (.slice (some ⟨g, 0, none⟩) r.length cap)) (hSg : S ≠ g) (hBw : B ≤ w.heap.size) (hA : w.cell? ⟨A, 0, none⟩ = some (.int .i64 id)) (hC : w.cell? ⟨C, 0, none⟩ = some (.int .i64 other)) :
    Calls Try.prog 56 #[.pointer (some ⟨S, 0, none⟩), .pointer (some ⟨A, 0, none⟩), .pointer (some ⟨C, 0, none⟩)] w fun e w' => e = .returned (.bool (stepB true r id fun k => closerOk r k other)) ∧ Below B w w' ∧
      (stepB true r id (fun k => closerOk r k other) = true → ∃ u, w'.cell? ⟨S, 0, none⟩ = some u ∧ RingOwn w' B u (stepR true r id fun k => closerK r k other)) := by
  go_enter Try.func56, Try.ntmps56
  go_wp2_with (go_at_call 57; refine (iCloser_any S g cap r id other B _ hO hs hS hSg hBw).mono ?_; rintro e w1 ⟨rfl, hb1, hr1⟩)
  go_ret
  exact ⟨rfl, hb1, hr1⟩

set_option maxHeartbeats 2000000 in
theorem takeCloser_any (v va : Value) (r : List Nd) (id other : Int) (A C : Nat) (w : World) (hv : RingAt w v r) (hx : IntsAt w va [id, other]) (hA : w.cell? ⟨A, 0, none⟩ = some (.int .i64 id)) (hC : w.cell? ⟨C, 0, none⟩ = some (.int .i64 other)) :
    Calls Try.prog 55 #[v, .func (.func 56) #[] #[.pointer (some ⟨A, 0, none⟩), .pointer (some ⟨C, 0, none⟩)], va] w fun e w' => ∃ u, e = .returned (.tuple #[u, .bool (ringSafe r && posAll [id, other] && stepB true r id (fun k => closerOk r k other))]) ∧ RingOwn w' w.heap.size u (if ringSafe r && posAll [id, other] then (if stepB true r id (fun k => closerOk r k other) then stepR true r id (fun k => closerK r k other) else r) else []) ∧ Below w.heap.size w w' := by
  have HV := Lib.hid hv
  have HX := Lib.hid hx
  clear hv hx
  cases hrs : ringSafe r
  · have HR := Lib.hid hrs
    clear hrs
    go_enter Try.func55, Try.ntmps55
    go_wp2_with (go_at_call 32; refine (iRingSafe_any _ r _ HV.out).mono ?_; rw [HR.out]; rintro e w1 ⟨rfl, hb1⟩)
    go_ret2
    exact ⟨_, rfl, RingOwn.nil _ _, hb1⟩
  cases hpa : posAll [id, other]
  · have HR := Lib.hid hrs
    have HP := Lib.hid hpa
    clear hrs hpa
    go_enter Try.func55, Try.ntmps55
    go_wp2_with (first | (go_at_call 32; refine (iRingSafe_any _ r _ HV.out).mono ?_; rw [HR.out]; rintro e w1 ⟨rfl, hb1⟩) | (go_at_call 67; refine (positions_any _ [id, other] _ (by exact HX.out.below hb1 (Nat.le_refl _))).mono ?_; rw [HP.out]; rintro e w' ⟨rfl, rfl⟩))
    go_ret2
    exact ⟨_, rfl, RingOwn.nil _ _, hb1⟩
  have HR := Lib.hid hrs
  have HP := Lib.hid hpa
  have hrv : ringValid r = true := by unfold ringSafe at hrs; simp at hrs; exact hrs.1
  have hsh := shape_valid hrv
  have hl10 := hsh.1
  have hlen := hsh.len
  have HS := Lib.hid hsh
  have hpos : 0 < r.length := ringSafe_pos hrs
  have HL := Lib.hid hlen
  clear hrs hpa hrv hsh hlen
  cases hok : stepB true r id (fun k => closerOk r k other)
  · have HO := Lib.hid hok
    clear hok
    go_enter Try.func55, Try.ntmps55
    go_wp2_with (first | (go_at_call 32; refine (iRingSafe_any _ r _ HV.out).mono ?_; rw [HR.out]; rintro e w1 ⟨rfl, hb1⟩) | (go_at_call 67; refine (positions_any _ [id, other] _ (by exact HX.out.below hb1 (Nat.le_refl _))).mono ?_; rw [HP.out]; rintro e w' ⟨rfl, rfl⟩) | (go_at_call 42; refine (copyRing_any _ r _ (by exact HV.out.below hb1 (Nat.le_refl _)) (by omega) HL.out).mono ?_; rintro e w2 ⟨u, rfl, hO, hb2⟩; obtain ⟨g, cap, rfl, hg1, hg2, hg3, hg4⟩ := hO.form hpos; have hb12 := hb1.trans (hb2.mono hb1.size); have hsz2 := hb12.size; have hbox := (Below.refl w2.heap.size w2).alloc (Nat.le_refl _) (.cells #[.slice (some ⟨g, 0, none⟩) r.length cap] 80); have hO2 := hO.below hbox (Nat.le_refl _); have hBf := hb12.trans (hbox.mono hb12.size); (have hA2 := (hBf.cell (p := ⟨A, 0, none⟩) (World.block_lt_of_cell? w _ hA)).trans hA; have hC2 := (hBf.cell (p := ⟨C, 0, none⟩) (World.block_lt_of_cell? w _ hC)).trans hC)))
    go_wp2_with (first | (go_at_call 56; refine (closerF_any w2.heap.size g cap r id other w1.heap.size A C _ hO2 HS.out (by simp) (by omega) (by simp; omega) hA2 hC2).mono ?_; rw [HO.out]; rintro e w3 ⟨rfl, hb3, -⟩; have hb13 := hBf.trans (hb3.mono hb1.size)))
    go_wp2_with (first | (go_at_call 42; refine (copyRing_any _ r _ (by exact HV.out.below hb13 (Nat.le_refl _)) (by omega) HL.out).mono ?_; rintro e w4 ⟨u4, rfl, hO4, hb4⟩))
    go_ret2
    exact ⟨_, rfl, hO4.mono hb13.size, hb13.trans (hb4.mono hb13.size)⟩
  · have HO := Lib.hid hok
    clear hok
    go_enter Try.func55, Try.ntmps55
    go_wp2_with (first | (go_at_call 32; refine (iRingSafe_any _ r _ HV.out).mono ?_; rw [HR.out]; rintro e w1 ⟨rfl, hb1⟩) | (go_at_call 67; refine (positions_any _ [id, other] _ (by exact HX.out.below hb1 (Nat.le_refl _))).mono ?_; rw [HP.out]; rintro e w' ⟨rfl, rfl⟩) | (go_at_call 42; refine (copyRing_any _ r _ (by exact HV.out.below hb1 (Nat.le_refl _)) (by omega) HL.out).mono ?_; rintro e w2 ⟨u, rfl, hO, hb2⟩; obtain ⟨g, cap, rfl, hg1, hg2, hg3, hg4⟩ := hO.form hpos; have hb12 := hb1.trans (hb2.mono hb1.size); have hsz2 := hb12.size; have hbox := (Below.refl w2.heap.size w2).alloc (Nat.le_refl _) (.cells #[.slice (some ⟨g, 0, none⟩) r.length cap] 80); have hO2 := hO.below hbox (Nat.le_refl _); have hBf := hb12.trans (hbox.mono hb12.size); (have hA2 := (hBf.cell (p := ⟨A, 0, none⟩) (World.block_lt_of_cell? w _ hA)).trans hA; have hC2 := (hBf.cell (p := ⟨C, 0, none⟩) (World.block_lt_of_cell? w _ hC)).trans hC)))
    go_wp2_with (first | (go_at_call 56; refine (closerF_any w2.heap.size g cap r id other w1.heap.size A C _ hO2 HS.out (by simp) (by omega) (by simp; omega) hA2 hC2).mono ?_; rw [HO.out]; rintro e w3 ⟨rfl, hb3, hres⟩; have hb13 := hBf.trans (hb3.mono hb1.size); obtain ⟨u3, hc3, hO3⟩ := hres rfl))
    go_ret2
    exact ⟨_, rfl, hO3.mono hb1.size, hb13⟩

set_option maxHeartbeats 1000000 in
theorem iRingCloser_any (v : Value) (r : List Nd) (id other : Int) (w : World) (hv : RingAt w v r) :
    Calls Try.prog 23 #[v, .int .i64 id, .int .i64 other] w fun e w' => ∃ u, e = .returned (.tuple #[u, .bool (rCloserOk r id other)]) ∧ RingOwn w' w.heap.size u (rCloser r id other) ∧ Below w.heap.size w w' := by
  have hmf : ∀ (fn : Fn) (first cap : Array Value) (w : World), (Instr.makeFunc fn first cap).run Try.prog w = .ok (.func fn first cap) w := fun _ _ _ _ => rfl
  have HV := Lib.hid hv
  clear hv
  have hp : (ringSafe r && posAll [id, other]) = (ringSafe r && okP id && okP other) := by rw [posAll2, Bool.and_assoc]
  have H1 := Lib.hid (take_ok (r := r) (id := id) (g := fun k => closerOk r k other) hp)
  have H2 := Lib.hid (take_ring (r := r) (id := id) (g := fun k => closerOk r k other) (f := fun k => closerK r k other) hp (fun k hk => by unfold closerK; rw [hk]; rfl))
  clear hp
  have hB0 := (((Below.refl w.heap.size w).alloc (Nat.le_refl _) (.cells #[.int .i64 id] 3)).alloc (by simp) (.cells #[.int .i64 other] 3)).alloc (by simp; omega) (.cells #[.int .i64 id, .int .i64 other] 3)
  go_enter Try.func23, Try.ntmps23
  go_wp2_with (go_at_call 55; refine (takeCloser_any _ _ r id other w.heap.size (w.heap.size + 1) _ (by exact HV.out.below hB0 (Nat.le_refl _)) (by exact intsAt_newN _ _ [id, other] _ _ (by simp) rfl (by simp)) (by exact box3a _ _ _ _ _) (by exact box3b _ _ _ _ _)).mono ?_; rintro e w1 ⟨u, rfl, hO, hb1⟩)
  go_ret2
  refine ⟨u, ?_, ?_, hB0.trans (hb1.mono hB0.size)⟩
  · show Ending.returned (.tuple #[u, .bool (ringSafe r && posAll [id, other] && stepB true r id fun k => closerOk r k other)]) = _
    rw [H1.out]; rfl
  · have := hO.mono hB0.size
    rw [H2.out] at this
    exact this

end Go.Proofs.Ytojpfbbgpcafnaa
