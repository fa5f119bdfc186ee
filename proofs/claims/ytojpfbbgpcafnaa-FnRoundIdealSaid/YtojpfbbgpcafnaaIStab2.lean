/-
  Contracts: RingStabilize of the program, at a node of a safe ring.
-/
import Derived.Test.YtojpfbbgpcafnaaIStab
import Derived.Deep.DrawnRows
namespace Go.Proofs.Ytojpfbbgpcafnaa
open Go.RowKit
attribute [local go_sem ↓] Go.wp_at_zero Go.wp_at_succ

set_option maxRecDepth 100000 in
set_option maxHeartbeats 4000000 in
theorem iRingStabilize_hit (v : Value) (r : List Nd) (id : Int) (k : Nat) (w : World) (hv : RingAt w v r) (hs : ringSafe r = true) (ho : okP id = true) (hf : fnd r id = (k : Int)) (hk : k < r.length) :
    Calls Try.prog 22 #[v, .int .i64 id] w fun e w' => ∃ u, e = .returned (.tuple #[u, .bool true]) ∧ RingOwn w' w.heap.size u (stabK r k) ∧ Below w.heap.size w w' := by
  have hmf : ∀ (fn : Fn) (first cap : Array Value) (w : World), (Instr.makeFunc fn first cap).run Try.prog w = .ok (.func fn first cap) w := fun _ _ _ _ => rfl
  obtain ⟨r1, r2, r3, s2, s3, x2, x3, b2, SF⟩ := stabFacts hs ho hf hk
  have hpos := ringSafe_pos hs
  have hp1 := ringSafe_pos SF.s1
  have hp2 := ringSafe_pos SF.s2'
  have hp3 := ringSafe_pos SF.s3'
  have hk1 := SF.k1
  have hk2 := SF.k2
  have hk3 := SF.k3
  have hs2 := SF.hs2
  have HS := Lib.hid hs
  have HP := Lib.hid ho
  have HF := Lib.hid hf
  have hsh := safe_shape hs
  have hr10 := hsh.1
  have HL := Lib.hid hsh.len
  have HSF := Lib.hid SF
  clear hs ho hf hsh SF
  obtain ⟨dk, hdk⟩ : ∃ d, rDropOk r id = d := ⟨_, rfl⟩
  have HDK := Lib.hid hdk
  clear hdk
  go_enter Try.func22, Try.ntmps22
  go_wp2_with (first | (go_at_call 32; refine (iRingSafe_any _ r _ hv).mono ?_; rw [HS.out]; rintro e w1 ⟨rfl, hb1⟩) | (go_at_call 52; refine (posok_any _ _).mono ?_; rw [HP.out]; rintro e w' ⟨rfl, rfl⟩) | (go_at_call 42; refine (copyRing_any _ r _ (hv.below hb1 (Nat.le_refl _)) (by omega) HL.out).mono ?_; rintro e w2 ⟨u, rfl, hO, hb2⟩; obtain ⟨g, cap, rfl, hg1, hg2, hg3, hg4⟩ := hO.form hpos; have hb12 := hb1.trans (hb2.mono hb1.size); have hbox := (Below.refl w2.heap.size w2).alloc (Nat.le_refl _) (.cells #[.slice (some ⟨g, 0, none⟩) r.length cap] 23); have HO := Lib.hid (hO.below hbox (Nat.le_refl _)); clear hO; have hB := hb12.trans (hbox.mono hb12.size)) | (go_at_call 53; refine (nodeAt_own r id g cap k _ HO.out.at hk HF.out).mono ?_; rintro e w3 ⟨rfl, hb3⟩; have hc3 : w3.cell? ⟨w2.heap.size, 0, none⟩ = some (.slice (some ⟨g, 0, none⟩) r.length cap) := (hb3.cell (p := ⟨w2.heap.size, 0, none⟩) (by simp)).trans (by simp); have hf3 : w3.frozen? ⟨w2.heap.size, 0, none⟩ = false := (hb3.frozen (p := ⟨w2.heap.size, 0, none⟩) (by simp)).trans (by simp); have HO3 := Lib.hid (HO.out.below hb3 (Nat.le_refl _)); have hB3 := hB.trans (hb3.mono hB.size); have hM3 : w2.heap.size < w3.heap.size := (by have := hb3.size; simp at this; omega)))
  have hBM : w.heap.size ≤ w2.heap.size := hb12.size
  have HBX : Hid (BoxIs w3 w.heap.size w2.heap.size r) := Lib.hid ⟨_, w1.heap.size, hc3, hf3, hb1.size, HO3.out⟩
  obtain ⟨M, hM⟩ : ∃ M, w2.heap.size = M := ⟨_, rfl⟩
  rw [hM] at HBX hM3 hBM ⊢
  clear hc3 hf3 HO3 hB hbox hb3 hb12 hg1 hg2 hg3 hg4 HO hb1 hb2 hM
  go_loopg [31] (if dk then 1 else 0) (fun m _ wr => ∃ x, Hid ((m = 1 ∧ x = r ∧ dk = true) ∨ (m = 0 ∧ x = r1)) ∧ Hid (BoxIs wr w.heap.size M x) ∧ Below w.heap.size w wr ∧ M < wr.heap.size)
  case atStart =>
    cases dk
    · exact ⟨r, Lib.hid (.inr ⟨rfl, HSF.out.d0ok HDK.out⟩), HBX, hB3, hM3⟩
    · exact ⟨r, Lib.hid (.inl ⟨rfl, rfl, rfl⟩), HBX, hB3, hM3⟩
  case round =>
    obtain ⟨x, hx, HBX', hbr, hMr⟩ := hrel
    have hzr := hbr.size
    rcases hx.out with ⟨rfl, rfl, rfl⟩ | ⟨rfl, rfl⟩
    · obtain ⟨g', cap', B', e1, e2, e3, hO', e4, e5⟩ := HBX'.out.form hpos
      have HO' := Lib.hid hO'
      unfold maxLen at e5
      clear hO' hx
      go_wp2_with (first | (go_at_call 26; refine (iRingDrop_any _ x id _ HO'.out.at).mono ?_; rw [HDK.out, HSF.out.d0]; rintro e w4 ⟨u4, rfl, hO4, hb4⟩; have HB4 := Lib.hid (HBX'.out.below hMr hb4 (Nat.le_refl _)); have HO4 := Lib.hid (hO4.mono hMr); clear hO4; have hB4 := hbr.trans (hb4.mono hzr); have hM4 := Nat.lt_of_lt_of_le hMr hb4.size) | (go_at_call 54; refine (tryF_any u4 true M w.heap.size x r1 _ hBM HB4.out HO4.out).mono ?_; rintro e w5 ⟨rfl, hbx5, hb5, hz5⟩; have HB5 := Lib.hid hbx5; clear hbx5))
      go_roundg 0
      case rel => exact ⟨r1, Lib.hid (.inr ⟨rfl, rfl⟩), HB5, hB4.trans hb5, by omega⟩
      case measure => omega
    · clear hx
      obtain ⟨g', cap', B', e1, e2, e3, hO', e4, e5⟩ := HBX'.out.form hp1
      have HO' := Lib.hid hO'
      unfold maxLen at e5
      clear hO'
      go_wp2_with (first | (go_at_call 26; refine (iRingDrop_any _ x id _ HO'.out.at).mono ?_; rw [HSF.out.d1]; rintro e w4 ⟨u4, rfl, hO4, hb4⟩; have HB4 := Lib.hid (HBX'.out.below hMr hb4 (Nat.le_refl _)); have HO4 := Lib.hid (hO4.mono hMr); clear hO4; have hB4 := hbr.trans (hb4.mono hzr); have hM4 := Nat.lt_of_lt_of_le hMr hb4.size) | (go_at_call 54; refine (tryF_any u4 false M w.heap.size x _ _ hBM HB4.out HO4.out).mono ?_; rintro e w5 ⟨rfl, hbx5, hb5, hz5⟩; have HB5 := Lib.hid (show BoxIs w5 w.heap.size M x from hbx5); clear hbx5; have hB5 := hB4.trans hb5; have hM5 := Nat.lt_of_lt_of_le hM4 hz5; obtain ⟨g5, cap5, B5, e51, e52, e53, hO5, e54, e55⟩ := HB5.out.form hp1; have HO5 := Lib.hid hO5; unfold maxLen at e55; clear hO5 hb5 hz5 e1 e2 e3 e4 e5))
      clear HB4 HO4 hB4 hM4 HO' HBX' hb4 hMr hzr hbr HBX hB3 hM3
      have hz5 := hB5.size
      go_wp2_with (first | (go_at_call 25; refine (iRingAdopt_any _ x id _ HO5.out.at).mono ?_; rw [HSF.out.aok, HSF.out.a]; rintro e w6 ⟨u6, rfl, hO6, hb6⟩; have HB6 := Lib.hid (HB5.out.below hM5 hb6 (Nat.le_refl _)); have HO6 := Lib.hid (hO6.mono hM5); clear hO6; have hB6 := hB5.trans (hb6.mono hz5); have hM6 := Nat.lt_of_lt_of_le hM5 hb6.size) | (go_at_call 54; refine (tryF_any u6 true M w.heap.size x r2 _ hBM HB6.out HO6.out).mono ?_; rintro e w7 ⟨rfl, hbx7, hb7, hz7⟩; have HB7 := Lib.hid (show BoxIs w7 w.heap.size M r2 from hbx7); clear hbx7; have hB7 := hB6.trans hb7; have hM7 := Nat.lt_of_lt_of_le hM6 hz7; obtain ⟨g7, cap7, B7, e71, e72, e73, hO7, e74, e75⟩ := HB7.out.form hp2; have HO7 := Lib.hid hO7; unfold maxLen at e75; obtain ⟨bk7, ck7, hck7, hck7', -, hg7, hbk7, n70, n71, n72, n73, n74, -⟩ := hO7.nodeN hk2 ((safe_shape HSF.out.s2').two hk2) rfl rfl HSF.out.hx2 rfl; obtain ⟨bs7, cs7, -, -, -, -, -, m70, m71, m72, m73, m74, -⟩ := hO7.nodeN hs2 ((safe_shape HSF.out.s2').two hs2) rfl HSF.out.hb2 rfl rfl; clear hO7 hb7 hz7 n70 n71 n74 m70 m72 m73 m74))
      clear HB6 HO6 hB6 hM6 hb6 e51 e52 e53 e54 e55 HB5 HO5 hB5 hM5 hz5
      have hz7 := hB7.size
      go_region_held3 (fun w' => w'.cell? ⟨M, 0, none⟩ = some (.slice (some ⟨g7, 0, none⟩) r2.length cap7) ∧ w'.cell? ⟨g7, k * 3 + 2, none⟩ = some (.slice (some ⟨bk7, 0, none⟩) 2 ck7) ∧ w'.cell? ⟨bk7, 0, none⟩ = some (.int .i64 x2)) (go_keep)
        (first
          | (have _ := o81; go_at_call 53; refine (nodeAt_own r2 x2 g7 cap7 s2 _ (by exact (HO7.out.below hb8' (Nat.le_refl _)).at) hs2 HSF.out.f2x).mono ?_; rintro e w9 ⟨rfl, hb9⟩; have hb9' := hb8'.trans (hb9.mono hz78); have o91 := (hb9'.cell (p := ⟨M, 0, none⟩) hM7).trans e71; have o92 := (hb9'.cell (p := ⟨g7, k * 3 + 2, none⟩) hg7).trans n72; have o93 := (hb9'.cell (p := ⟨bk7, 0, none⟩) hbk7).trans n73)
          | (go_at_call 53; refine (nodeAt_own r2 id g7 cap7 k _ (by exact HO7.out.at) hk2 HSF.out.f2).mono ?_; rintro e w8 ⟨rfl, hb8⟩; have hb8' := (Below.refl _ w7).drew.trans hb8; have hz78 := hb8'.size; have o81 := (hb8'.cell (p := ⟨M, 0, none⟩) hM7).trans e71; have o82 := (hb8'.cell (p := ⟨g7, k * 3 + 2, none⟩) hg7).trans n72; have o83 := (hb8'.cell (p := ⟨bk7, 0, none⟩) hbk7).trans n73))
      have o94 := (hb9'.cell (p := ⟨g7, s2 * 3 + 1, none⟩) hg7).trans m71
      have HB9 := Lib.hid (HB7.out.below hM7 hb9' (Nat.le_refl _))
      have HO9 := Lib.hid (HO7.out.below hb9' (Nat.le_refl _))
      have hB9 := hB7.trans (hb9'.mono hz7)
      have hM9 := Nat.lt_of_lt_of_le hM7 hb9'.size
      clear hb9' hb8' hz78 o81 o82 o83 o92 o93 hb8 hb9 HB7 HO7 hB7 hM7 hz7 e71 e72 n72 n73 m71
      have hz9 := hB9.size
      obtain ⟨nb, hnb⟩ : ∃ c, (b2 != -1) = c := ⟨_, rfl⟩
      have HNB := Lib.hid hnb
      obtain ⟨c3, hc3⟩ : ∃ c, rCloserOk r2 id b2 = c := ⟨_, rfl⟩
      have HC3 := Lib.hid hc3
      clear hc3
      go_upto_if 57 with (fail)
      go_cut [58] (fun _ wx => Hid (BoxIs wx w.heap.size M r3) ∧ Below w.heap.size w wx ∧ M < wx.heap.size)
      case first =>
        cases nb
        · have hbb : b2 = -1 := by have := HNB.out; simpa using this
          have HR3 := Lib.hid (HSF.out.hc' hbb)
          clear hbb hnb
          go_wp2
          go_meet
          exact ⟨Lib.hid (by have := HB9.out; rw [HR3.out] at this; exact this), hB9, hM9⟩
        · have hbb : b2 ≠ -1 := by have := HNB.out; simpa using this
          have HR3 := Lib.hid (HSF.out.hc hbb)
          clear hbb
          go_wp2_with fail
          go_region_with (first | (go_at_call 23; refine (iRingCloser_any _ r2 id b2 _ (by exact HO9.out.at)).mono ?_; rw [HC3.out]; rintro e w10 ⟨u10, rfl, hO10, hb10⟩; have hb10' := (Below.refl _ w9).drew.trans hb10; have HB10 := Lib.hid (HB9.out.below hM9 hb10' (Nat.le_refl _)); have HO10 := Lib.hid (hO10.mono hM9); clear hO10; have hB10 := hB9.trans (hb10'.mono hz9); have hM10 := Nat.lt_of_lt_of_le hM9 hb10'.size) | (go_at_call 54; refine (tryF_any u10 c3 M w.heap.size r2 _ _ hBM HB10.out HO10.out).mono ?_; rintro e w11 ⟨rfl, hbx11, hb11, hz11⟩; have HB11 := Lib.hid (show BoxIs w11 w.heap.size M r3 by have h := hbx11; rw [← HC3.out, HR3.out] at h; exact h); clear hbx11; have hB11 := hB10.trans hb11; have hM11 := Nat.lt_of_lt_of_le hM10 hz11))
          all_goals
            go_wp2
            go_meet
            exact ⟨HB11, hB11, hM11⟩
      case rest =>
        obtain ⟨HB11, hB11, hM11⟩ := hcut
        have hz11 := hB11.size
        obtain ⟨g11, cap11, B11, e111, e112, e113, hO11, e114, e115⟩ := HB11.out.form hp3
        have HO11 := Lib.hid hO11
        unfold maxLen at e115
        obtain ⟨bk11, ck11, hck11, hck11', -, hg11, hbk11, n110, n111, n112, n113, n114, -⟩ := hO11.nodeN hk3 ((safe_shape HSF.out.s3').two hk3) rfl rfl HSF.out.hx3 rfl
        obtain ⟨c4, hc4⟩ : ∃ c, rNotifyOk r3 x3 id = c := ⟨_, rfl⟩
        have HC4 := Lib.hid hc4
        clear hc4 hO11 n110 n111 n114 HB9 HO9 hB9 hM9 o91 o94 hz9
        go_wp2_with fail
        go_region_with (first | (have _ := p121; go_at_call 24; refine (iRingNotify_any _ r3 x3 id _ (by exact HO12.out.at)).mono ?_; rw [HC4.out]; rintro e w13 ⟨u13, rfl, hO13, hb13⟩; have HB13 := Lib.hid (HB12.out.below hM12 hb13 (Nat.le_refl _)); have HO13 := Lib.hid (hO13.mono hM12); clear hO13; have hB13 := hB12.trans (hb13.mono hz12); have hM13 := Nat.lt_of_lt_of_le hM12 hb13.size) | (go_at_call 53; refine (nodeAt_own r3 id g11 cap11 k _ (by exact HO11.out.at) hk3 HSF.out.f3).mono ?_; rintro e w12 ⟨rfl, hb12⟩; have hb12' := (Below.refl _ wc).drew.trans hb12; have HB12 := Lib.hid (HB11.out.below hM11 hb12' (Nat.le_refl _)); have HO12 := Lib.hid (HO11.out.below hb12' (Nat.le_refl _)); have hB12 := hB11.trans (hb12'.mono hz11); have hz12 := hB12.size; have hM12 := Nat.lt_of_lt_of_le hM11 hb12'.size; have p121 := (hb12'.cell (p := ⟨M, 0, none⟩) hM11).trans e111; have p122 := (hb12'.cell (p := ⟨g11, k * 3 + 2, none⟩) hg11).trans n112; have p123 := (hb12'.cell (p := ⟨bk11, 0, none⟩) hbk11).trans n113) | (go_at_call 54; refine (tryF_any u13 c4 M w.heap.size r3 _ _ hBM HB13.out HO13.out).mono ?_; rintro e w14 ⟨rfl, hbx14, hb14, hz14⟩; have HB14 := Lib.hid (show BoxIs w14 w.heap.size M (stabK r k) by have h := hbx14; rw [← HC4.out, HSF.out.hn] at h; exact h); clear hbx14; have hB14 := hB13.trans hb14; obtain ⟨u14, B14, q1, q2, q3, q4⟩ := HB14.out; have Q4 := Lib.hid q4; clear q4))
        all_goals
          go_wp2
          go_ret2
          exact ⟨_, rfl, Q4.out.mono q3, hB14⟩

end Go.Proofs.Ytojpfbbgpcafnaa
