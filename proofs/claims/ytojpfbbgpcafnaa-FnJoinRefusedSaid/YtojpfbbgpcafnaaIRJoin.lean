/-
  Contracts: RingJoin of the program.
-/
import Derived.Test.YtojpfbbgpcafnaaIJn
import Derived.Test.YtojpfbbgpcafnaaIRCloser
namespace Go.Proofs.Ytojpfbbgpcafnaa
open Go.RowKit

theorem iJoin_any (S g cap : Nat) (r : List Nd) (id at' : Int) (B : Nat) (w : World) (hO : RingOwn w B (.slice (some ⟨g, 0, none⟩) r.length cap) r) (hs : ringValid r = true) (hpos : 0 < r.length)
    (hS : w.cell? ⟨S, 0, none⟩ = some (.slice (some ⟨g, 0, none⟩) r.length cap)) (hSg : S ≠ g) (hBw : B ≤ w.heap.size) (hBS : B ≤ S) (hfr : w.frozen? ⟨S, 0, none⟩ = false) (hT : boxT w S) (hp : posAll [id, at'] = true) :
    Calls Try.prog 77 #[.pointer (some ⟨S, 0, none⟩), .int .i64 id, .int .i64 at'] w fun e w' => e = .returned (.bool (stepB true r at' fun k => joinOk r id at' k)) ∧ Below B w w' ∧
      (stepB true r at' (fun k => joinOk r id at' k) = true → ∃ u, w'.cell? ⟨S, 0, none⟩ = some u ∧ RingOwn w' B u (stepR true r at' fun k => if joinOk r id at' k then joinK r id at' k else r)) := by
  rw [posAll2, Bool.and_eq_true] at hp
  cases hb : stepB true r at' (fun k => joinOk r id at' k)
  · refine (iJoin_no S g cap r id at' B w hO (shape_valid hs) hpos hS hSg hp.1 hp.2 hb).mono ?_
    rintro e w' ⟨rfl, h⟩
    exact ⟨rfl, h.mono hBw, fun h => by cases h⟩
  · obtain ⟨-, k, hk, hf, -, hok⟩ := stepB_open hb
    have hok' := hok
    unfold joinOk at hok
    simp only [Bool.and_eq_true, decide_eq_true_eq] at hok
    obtain ⟨⟨h1, h2⟩, h3⟩ := hok
    have hx : fnd r id = -1 := by
      rcases fnd_cases r id with ⟨h, -⟩ | ⟨j, -, h, -⟩
      · exact h
      · omega
    refine (iJoin_yes S g cap r id at' B k w hO hs hpos hS hSg hp.1 hp.2 hBw hBS hfr hT hk hf hx h2 h3).mono ?_
    rintro e w' ⟨rfl, h4, u, h5, h6⟩
    rw [stepR_hit rfl hf, if_pos hok']
    exact ⟨rfl, h4, fun _ => ⟨u, h5, h6⟩⟩

set_option maxHeartbeats 1000000 in
theorem joinG_any (S g cap : Nat) (r : List Nd) (id at' : Int) (B A C : Nat) (w : World) (hO : RingOwn w B (.slice (some ⟨g, 0, none⟩) r.length cap) r) (hs : ringValid r = true) (hpos : 0 < r.length)
    (hS : w.cell? ⟨S, 0, none⟩ = some (.slice (some ⟨g, 0, none⟩) r.length cap)) (hSg : S ≠ g) (hBw : B ≤ w.heap.size) (hBS : B ≤ S) (hfr : w.frozen? ⟨S, 0, none⟩ = false) (hT : boxT w S) (hp : posAll [id, at'] = true)
    (hA : w.cell? ⟨A, 0, none⟩ = some (.int .i64 id)) (hC : w.cell? ⟨C, 0, none⟩ = some (.int .i64 at')) :
    Calls Try.prog 76 #[.pointer (some ⟨S, 0, none⟩), .pointer (some ⟨A, 0, none⟩), .pointer (some ⟨C, 0, none⟩)] w fun e w' => e = .returned (.bool (stepB true r at' fun k => joinOk r id at' k)) ∧ Below B w w' ∧
      (stepB true r at' (fun k => joinOk r id at' k) = true → ∃ u, w'.cell? ⟨S, 0, none⟩ = some u ∧ RingOwn w' B u (stepR true r at' fun k => if joinOk r id at' k then joinK r id at' k else r)) := by
  have HP := Lib.hid hp
  clear hp
  go_enter Try.func76, Try.ntmps76
  go_wp2_with (go_at_call 77; refine (iJoin_any S g cap r id at' B _ hO hs hpos hS hSg hBw hBS hfr hT HP.out).mono ?_; rintro e w1 ⟨rfl, hb1, hr1⟩)
  go_ret
  exact ⟨rfl, hb1, hr1⟩

set_option maxHeartbeats 2000000 in
theorem takeJoin_any (v va : Value) (r : List Nd) (id at' : Int) (A C : Nat) (w : World) (hv : RingAt w v r) (hx : IntsAt w va [id, at']) (hA : w.cell? ⟨A, 0, none⟩ = some (.int .i64 id)) (hC : w.cell? ⟨C, 0, none⟩ = some (.int .i64 at')) :
    Calls Try.prog 55 #[v, .func (.func 76) #[] #[.pointer (some ⟨A, 0, none⟩), .pointer (some ⟨C, 0, none⟩)], va] w fun e w' => ∃ u, e = .returned (.tuple #[u, .bool (ringSafe r && posAll [id, at'] && stepB true r at' (fun k => joinOk r id at' k))]) ∧ RingOwn w' w.heap.size u (if ringSafe r && posAll [id, at'] then (if stepB true r at' (fun k => joinOk r id at' k) then stepR true r at' (fun k => if joinOk r id at' k then joinK r id at' k else r) else r) else []) ∧ Below w.heap.size w w' := by
  have HV := Lib.hid hv
  have HX := Lib.hid hx
  clear hv hx
  cases hrs : ringSafe r
  · have HR := Lib.hid hrs
    clear hrs
    go_enter Try.func55, Try.ntmps55
    go_wp2_with (go_at_call 32; refine (iRingSafe_any _ r _ HV.out).mono ?_; rw [HR.out]; rintro e w1 ⟨rfl, hb1⟩)
    go_ret2
    exact ⟨_, rfl, RingOwn.nil _ _, hb1⟩
  cases hpa : posAll [id, at']
  · have HR := Lib.hid hrs
    have HP := Lib.hid hpa
    clear hrs hpa
    go_enter Try.func55, Try.ntmps55
    go_wp2_with (first | (go_at_call 32; refine (iRingSafe_any _ r _ HV.out).mono ?_; rw [HR.out]; rintro e w1 ⟨rfl, hb1⟩) | (go_at_call 67; refine (positions_any _ [id, at'] _ (by exact HX.out.below hb1 (Nat.le_refl _))).mono ?_; rw [HP.out]; rintro e w' ⟨rfl, rfl⟩))
    go_ret2
    exact ⟨_, rfl, RingOwn.nil _ _, hb1⟩
  have HR := Lib.hid hrs
  have HP := Lib.hid hpa
  have hrv : ringValid r = true := by unfold ringSafe at hrs; simp at hrs; exact hrs.1
  have hsh := shape_valid hrv
  have hl10 := hsh.1
  have hlen := hsh.len
  have HS := Lib.hid hsh
  have hpos : 0 < r.length := ringSafe_pos hrs
  have HL := Lib.hid hlen
  clear hrs hpa hrv hsh hlen
  cases hok : stepB true r at' (fun k => joinOk r id at' k)
  · have HO := Lib.hid hok
    clear hok
    go_enter Try.func55, Try.ntmps55
    go_wp2_with (first | (go_at_call 32; refine (iRingSafe_any _ r _ HV.out).mono ?_; rw [HR.out]; rintro e w1 ⟨rfl, hb1⟩) | (go_at_call 67; refine (positions_any _ [id, at'] _ (by exact HX.out.below hb1 (Nat.le_refl _))).mono ?_; rw [HP.out]; rintro e w' ⟨rfl, rfl⟩) | (go_at_call 42; refine (copyRing_any _ r _ (by exact HV.out.below hb1 (Nat.le_refl _)) (by omega) HL.out).mono ?_; rintro e w2 ⟨u, rfl, hO, hb2⟩; obtain ⟨g, cap, rfl, hg1, hg2, hg3, hg4⟩ := hO.form hpos; have hb12 := hb1.trans (hb2.mono hb1.size); have hsz2 := hb12.size; have hbox := (Below.refl w2.heap.size w2).alloc (Nat.le_refl _) (.cells #[.slice (some ⟨g, 0, none⟩) r.length cap] 80); have hO2 := hO.below hbox (Nat.le_refl _); have hBf := hb12.trans (hbox.mono hb12.size); (have hA2 := (hBf.cell (p := ⟨A, 0, none⟩) (World.block_lt_of_cell? w _ hA)).trans hA; have hC2 := (hBf.cell (p := ⟨C, 0, none⟩) (World.block_lt_of_cell? w _ hC)).trans hC)))
    go_wp2_with (first | (go_at_call 76; refine (joinG_any w2.heap.size g cap r id at' w1.heap.size A C _ hO2 (safe_valid HR.out) hpos (by simp) (by omega) (by first | (simp; done) | (simp; omega)) (by omega) (by simp) ⟨_, _, heap_alloc_new _ _⟩ HP.out hA2 hC2).mono ?_; rw [HO.out]; rintro e w3 ⟨rfl, hb3, -⟩; have hb13 := hBf.trans (hb3.mono hb1.size)))
    go_wp2_with (first | (go_at_call 42; refine (copyRing_any _ r _ (by exact HV.out.below hb13 (Nat.le_refl _)) (by omega) HL.out).mono ?_; rintro e w4 ⟨u4, rfl, hO4, hb4⟩))
    go_ret2
    exact ⟨_, rfl, hO4.mono hb13.size, hb13.trans (hb4.mono hb13.size)⟩
  · have HO := Lib.hid hok
    clear hok
    go_enter Try.func55, Try.ntmps55
    go_wp2_with (first | (go_at_call 32; refine (iRingSafe_any _ r _ HV.out).mono ?_; rw [HR.out]; rintro e w1 ⟨rfl, hb1⟩) | (go_at_call 67; refine (positions_any _ [id, at'] _ (by exact HX.out.below hb1 (Nat.le_refl _))).mono ?_; rw [HP.out]; rintro e w' ⟨rfl, rfl⟩) | (go_at_call 42; refine (copyRing_any _ r _ (by exact HV.out.below hb1 (Nat.le_refl _)) (by omega) HL.out).mono ?_; rintro e w2 ⟨u, rfl, hO, hb2⟩; obtain ⟨g, cap, rfl, hg1, hg2, hg3, hg4⟩ := hO.form hpos; have hb12 := hb1.trans (hb2.mono hb1.size); have hsz2 := hb12.size; have hbox := (Below.refl w2.heap.size w2).alloc (Nat.le_refl _) (.cells #[.slice (some ⟨g, 0, none⟩) r.length cap] 80); have hO2 := hO.below hbox (Nat.le_refl _); have hBf := hb12.trans (hbox.mono hb12.size); (have hA2 := (hBf.cell (p := ⟨A, 0, none⟩) (World.block_lt_of_cell? w _ hA)).trans hA; have hC2 := (hBf.cell (p := ⟨C, 0, none⟩) (World.block_lt_of_cell? w _ hC)).trans hC)))
    go_wp2_with (first | (go_at_call 76; refine (joinG_any w2.heap.size g cap r id at' w1.heap.size A C _ hO2 (safe_valid HR.out) hpos (by simp) (by omega) (by first | (simp; done) | (simp; omega)) (by omega) (by simp) ⟨_, _, heap_alloc_new _ _⟩ HP.out hA2 hC2).mono ?_; rw [HO.out]; rintro e w3 ⟨rfl, hb3, hres⟩; have hb13 := hBf.trans (hb3.mono hb1.size); obtain ⟨u3, hc3, hO3⟩ := hres rfl))
    go_ret2
    exact ⟨_, rfl, hO3.mono hb1.size, hb13⟩

set_option maxHeartbeats 1000000 in
theorem iRingJoin_any (v : Value) (r : List Nd) (id at' : Int) (w : World) (hv : RingAt w v r) :
    Calls Try.prog 35 #[v, .int .i64 id, .int .i64 at'] w fun e w' => ∃ u, e = .returned (.tuple #[u, .bool (rJoinOk r id at')]) ∧ RingOwn w' w.heap.size u (rJoin r id at') ∧ Below w.heap.size w w' := by
  have hmf : ∀ (fn : Fn) (first cap : Array Value) (w : World), (Instr.makeFunc fn first cap).run Try.prog w = .ok (.func fn first cap) w := fun _ _ _ _ => rfl
  have HV := Lib.hid hv
  clear hv
  have hp : (ringSafe r && posAll [id, at']) = (ringSafe r && okP id && okP at') := by rw [posAll2, Bool.and_assoc]
  have H1 := Lib.hid (take_ok (r := r) (id := at') (g := fun k => joinOk r id at' k) hp)
  have H2 := Lib.hid (take_ring (r := r) (id := at') (g := fun k => joinOk r id at' k) (f := fun k => if joinOk r id at' k then joinK r id at' k else r) hp (fun k hk => by rw [hk]; rfl))
  clear hp
  have hB0 := (((Below.refl w.heap.size w).alloc (Nat.le_refl _) (.cells #[.int .i64 id] 3)).alloc (by simp) (.cells #[.int .i64 at'] 3)).alloc (by simp; omega) (.cells #[.int .i64 id, .int .i64 at'] 3)
  go_enter Try.func35, Try.ntmps35
  go_wp2_with (go_at_call 55; refine (takeJoin_any _ _ r id at' w.heap.size (w.heap.size + 1) _ (by exact HV.out.below hB0 (Nat.le_refl _)) (by exact intsAt_newN _ _ [id, at'] _ _ (by simp) rfl (by simp)) (by exact box3a _ _ _ _ _) (by exact box3b _ _ _ _ _)).mono ?_; rintro e w1 ⟨u, rfl, hO, hb1⟩)
  go_ret2
  refine ⟨u, ?_, ?_, hB0.trans (hb1.mono hB0.size)⟩
  · show Ending.returned (.tuple #[u, .bool (ringSafe r && posAll [id, at'] && stepB true r at' fun k => joinOk r id at' k)]) = _
    rw [H1.out]; rfl
  · have := hO.mono hB0.size
    rw [H2.out] at this
    exact this

end Go.Proofs.Ytojpfbbgpcafnaa
