/-
  Contracts: RingDrop of the program.
-/
import Derived.Test.YtojpfbbgpcafnaaISteps
namespace Go.Proofs.Ytojpfbbgpcafnaa
open Go.RowKit

set_option maxHeartbeats 1000000 in
theorem dropF_any (S g cap : Nat) (r : List Nd) (id : Int) (B A : Nat) (w : World) (hO : RingOwn w B (.slice (some ⟨g, 0, none⟩) r.length cap) r) (hs : Shape r)
    (hS : w.cell? ⟨S, 0, none⟩ = some (.slice (some ⟨g, 0, none⟩) r.length cap)) (hSg : S ≠ g) (hBw : B ≤ w.heap.size) (hA : w.cell? ⟨A, 0, none⟩ = some (.int .i64 id)) :
    Calls Try.prog 62 #[.pointer (some ⟨S, 0, none⟩), .pointer (some ⟨A, 0, none⟩)] w fun e w' => e = .returned (.bool (stepB true r id fun k => dropOk r k)) ∧ Below B w w' ∧
      (stepB true r id (fun k => dropOk r k) = true → ∃ u, w'.cell? ⟨S, 0, none⟩ = some u ∧ RingOwn w' B u (stepR true r id fun k => dropK r k)) := by
  go_enter Try.func62, Try.ntmps62
  go_wp2_with (go_at_call 63; refine (iDrop_any S g cap r id 0 B _ hO hs hS hSg hBw).mono ?_; rintro e w1 ⟨rfl, hb1, hr1⟩)
  go_ret
  exact ⟨rfl, hb1, hr1⟩

set_option maxHeartbeats 2000000 in
theorem takeDrop_any (v va : Value) (r : List Nd) (id : Int) (A : Nat) (w : World) (hv : RingAt w v r) (hx : IntsAt w va [id]) (hA : w.cell? ⟨A, 0, none⟩ = some (.int .i64 id)) :
    Calls Try.prog 55 #[v, .func (.func 62) #[] #[.pointer (some ⟨A, 0, none⟩)], va] w fun e w' => ∃ u, e = .returned (.tuple #[u, .bool (ringSafe r && posAll [id] && stepB true r id (fun k => dropOk r k))]) ∧ RingOwn w' w.heap.size u (if ringSafe r && posAll [id] then (if stepB true r id (fun k => dropOk r k) then stepR true r id (fun k => dropK r k) else r) else []) ∧ Below w.heap.size w w' := by
  have HV := Lib.hid hv
  have HX := Lib.hid hx
  clear hv hx
  cases hrs : ringSafe r
  · have HR := Lib.hid hrs
    clear hrs
    go_enter Try.func55, Try.ntmps55
    go_wp2_with (go_at_call 32; refine (iRingSafe_any _ r _ HV.out).mono ?_; rw [HR.out]; rintro e w1 ⟨rfl, hb1⟩)
    go_ret2
    exact ⟨_, rfl, RingOwn.nil _ _, hb1⟩
  cases hpa : posAll [id]
  · have HR := Lib.hid hrs
    have HP := Lib.hid hpa
    clear hrs hpa
    go_enter Try.func55, Try.ntmps55
    go_wp2_with (first | (go_at_call 32; refine (iRingSafe_any _ r _ HV.out).mono ?_; rw [HR.out]; rintro e w1 ⟨rfl, hb1⟩) | (go_at_call 67; refine (positions_any _ [id] _ (by exact HX.out.below hb1 (Nat.le_refl _))).mono ?_; rw [HP.out]; rintro e w' ⟨rfl, rfl⟩))
    go_ret2
    exact ⟨_, rfl, RingOwn.nil _ _, hb1⟩
  have HR := Lib.hid hrs
  have HP := Lib.hid hpa
  have hrv : ringValid r = true := by unfold ringSafe at hrs; simp at hrs; exact hrs.1
  have hsh := shape_valid hrv
  have hl10 := hsh.1
  have hlen := hsh.len
  have HS := Lib.hid hsh
  have hpos : 0 < r.length := ringSafe_pos hrs
  have HL := Lib.hid hlen
  clear hrs hpa hrv hsh hlen
  cases hok : stepB true r id (fun k => dropOk r k)
  · have HO := Lib.hid hok
    clear hok
    go_enter Try.func55, Try.ntmps55
    go_wp2_with (first | (go_at_call 32; refine (iRingSafe_any _ r _ HV.out).mono ?_; rw [HR.out]; rintro e w1 ⟨rfl, hb1⟩) | (go_at_call 67; refine (positions_any _ [id] _ (by exact HX.out.below hb1 (Nat.le_refl _))).mono ?_; rw [HP.out]; rintro e w' ⟨rfl, rfl⟩) | (go_at_call 42; refine (copyRing_any _ r _ (by exact HV.out.below hb1 (Nat.le_refl _)) (by omega) HL.out).mono ?_; rintro e w2 ⟨u, rfl, hO, hb2⟩; obtain ⟨g, cap, rfl, hg1, hg2, hg3, hg4⟩ := hO.form hpos; have hb12 := hb1.trans (hb2.mono hb1.size); have hsz2 := hb12.size; have hbox := (Below.refl w2.heap.size w2).alloc (Nat.le_refl _) (.cells #[.slice (some ⟨g, 0, none⟩) r.length cap] 80); have hO2 := hO.below hbox (Nat.le_refl _); have hBf := hb12.trans (hbox.mono hb12.size); (have hA2 := (hBf.cell (p := ⟨A, 0, none⟩) (World.block_lt_of_cell? w _ hA)).trans hA)))
    go_wp2_with (first | (go_at_call 62; refine (dropF_any w2.heap.size g cap r id w1.heap.size A _ hO2 HS.out (by simp) (by omega) (by simp; omega) hA2).mono ?_; rw [HO.out]; rintro e w3 ⟨rfl, hb3, -⟩; have hb13 := hBf.trans (hb3.mono hb1.size)))
    go_wp2_with (first | (go_at_call 42; refine (copyRing_any _ r _ (by exact HV.out.below hb13 (Nat.le_refl _)) (by omega) HL.out).mono ?_; rintro e w4 ⟨u4, rfl, hO4, hb4⟩))
    go_ret2
    exact ⟨_, rfl, hO4.mono hb13.size, hb13.trans (hb4.mono hb13.size)⟩
  · have HO := Lib.hid hok
    clear hok
    go_enter Try.func55, Try.ntmps55
    go_wp2_with (first | (go_at_call 32; refine (iRingSafe_any _ r _ HV.out).mono ?_; rw [HR.out]; rintro e w1 ⟨rfl, hb1⟩) | (go_at_call 67; refine (positions_any _ [id] _ (by exact HX.out.below hb1 (Nat.le_refl _))).mono ?_; rw [HP.out]; rintro e w' ⟨rfl, rfl⟩) | (go_at_call 42; refine (copyRing_any _ r _ (by exact HV.out.below hb1 (Nat.le_refl _)) (by omega) HL.out).mono ?_; rintro e w2 ⟨u, rfl, hO, hb2⟩; obtain ⟨g, cap, rfl, hg1, hg2, hg3, hg4⟩ := hO.form hpos; have hb12 := hb1.trans (hb2.mono hb1.size); have hsz2 := hb12.size; have hbox := (Below.refl w2.heap.size w2).alloc (Nat.le_refl _) (.cells #[.slice (some ⟨g, 0, none⟩) r.length cap] 80); have hO2 := hO.below hbox (Nat.le_refl _); have hBf := hb12.trans (hbox.mono hb12.size); (have hA2 := (hBf.cell (p := ⟨A, 0, none⟩) (World.block_lt_of_cell? w _ hA)).trans hA)))
    go_wp2_with (first | (go_at_call 62; refine (dropF_any w2.heap.size g cap r id w1.heap.size A _ hO2 HS.out (by simp) (by omega) (by simp; omega) hA2).mono ?_; rw [HO.out]; rintro e w3 ⟨rfl, hb3, hres⟩; have hb13 := hBf.trans (hb3.mono hb1.size); obtain ⟨u3, hc3, hO3⟩ := hres rfl))
    go_ret2
    exact ⟨_, rfl, hO3.mono hb1.size, hb13⟩

end Go.Proofs.Ytojpfbbgpcafnaa
