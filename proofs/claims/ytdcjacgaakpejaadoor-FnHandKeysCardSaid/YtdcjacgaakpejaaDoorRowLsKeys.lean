/-
  Proved: the card of the statement FnHandKeys: whatever the input, the law returns true and every argument and the two listed variables read behind the call as before. The two variables read as their sentinels, tied to the program's text. Without conditions besides.
-/
import Derived.Test.YtdcjacgaakpejaaDoorLawLK
import Derived.Test.YtdcjacgaakpejaaDoorFrL
import Derived.Test.YtdcjacgaakpejaaDoorFrameB
import Derived.Test.YtdcjacgaakpejaaDoorTie
import Derived.Test.YtdcjacgaakpejaaDoorCards
import Derived.SevenTiedAt
namespace Go.Proofs.YtdcjacgaakpejaaDoor
open Go.ChangeShapes Go.WideShapes Go.ChangeAt Go.RowKit

set_option maxRecDepth 100000 in
theorem fnHandKeys_lifted (os : Os) (started : os.Started) (H : Type) (enc : TypeId × Value → H) :
    ReturnsInHanded {} Tryd.checked os 6 .any (fun w args => (Rows.fnHandKeysSpec.pre enc Tryd.prog Tryd.f6 [] false w args ∧ laidMetH Tryd.prog laidTwo w) ∧ sizedMet enc Tryd.prog Tryd.f6 (OpenSpec.ofChange Rows.fnHandKeysSpec) false w args)
      (Rows.fnHandKeysSpec.post enc Tryd.prog Tryd.f6 false true false false) := by
  refine returnsInHanded_of_change_and (C := Tryd.checked) (X := fun w _ => laidMetH Tryd.prog laidTwo w) (fun _ _ _ hh h => h.of_heap hh) rowL_own started (by kernel_rfl) Tryd.func6
    (ChangeSpec.witness_shaped (enc := enc) (C := Tryd.checked) (os := os) (X := fun w _ => laidMetH Tryd.prog laidTwo w) false (World.laidAll Tryd.prog os laidTwo) #[.slice none 0 0] 8 (World.laidAll_os _ _ _)
      (World.shaped_of_ZipB (by kernel_rfl) (by kernel_rfl)) (by kernel_rfl) (by kernel_rfl) (by kernel_rfl) (witness_laid os _)) ?_
  intro W base args ds gs before hval0 hW _ _ hL _
  have hval : ∀ (j : Nat) t v, Tryd.f6.params[j]? = some t → args[j]? = some v → Value.okWide Tryd.prog W .any base t v := hval0
  have hW' := hW
  obtain ⟨p, q, hA0, hV0, rfl, hfz, hnd⟩ := hW
  have hA : DataW.TrodAll enc Tryd.prog W 0 (fun _ => true) true Tryd.f6.params.toList args.toList ds p := hA0
  have hV : DataW.TrodVars enc Tryd.prog W (fun _ => true) ["loop.example/ringoverlay/impl.errArgs", "loop.example/ringoverlay/impl.errRefused"] gs q := hV0
  rw [Tryd.params6] at hA hval
  obtain ⟨v0, vs0, d0, ds0, p0, q0, hargs, rfl, rfl, h0, r0⟩ := trodAll_cons hA
  obtain ⟨rfl, rfl, rfl⟩ := trodAll_nil r0
  obtain rfl : args = #[v0] := by cases args; simp_all
  obtain ⟨e0, e1, hv0, hv1, hLd⟩ := laid_of hL
  obtain ⟨rfl, rfl⟩ := hV.unique (vars_two enc hv0 hv1 _)
  have s0 := okWide_slice Tryd.underlying31 (hval 0 31 v0 rfl rfl)
  have lt0 : ∀ x ∈ p0, x.block < W.heap.size := by obtain ⟨m, hm⟩ := h0; exact DataW.trod_lt m _ _ _ hm
  have w0 := bytes_of h0 s0
  clear hA0 hV0 hval0
  refine (lawHandKeys_any v0 e0 e1 W w0 hLd).mono fun e W' ⟨he, bel⟩ => ?_
  subst he
  obtain ⟨k0, k1⟩ := vars_kept bel hLd hv0 hv1
  exact ⟨_, rfl, _, _, _, [], _, [.cell 0 0, .cell 1 0], hW', trodAll_mk1 (shut_bool Tryd.underlying4 _), (trodAll_cons_mk (Below.trod rowL_laid (by kernel_rfl) (of_decide_eq_true (by kernel_rfl)) h0 bel lt0) trodAll_mk0), vars_two enc k0 k1 _, bel.frame _, fun h => by cases h⟩

theorem fnHandKeys_over : Rows.fnHandKeysRow.holds Tryd.pinned (OpenSpec.ofChange Rows.fnHandKeysSpec) :=
  OpenClaim.holds_of_wide 6 Tryd.f6 rfl rfl rfl rfl rfl rfl rfl ⟨rfl, rfl, rfl, rfl, rfl⟩ rfl rfl rfl rfl rfl (by kernel_rfl) Tryd.func6 (by kernel_rfl)
    (of_decide_eq_true (by kernel_rfl)) (by unfold Func.isWrapper; first | (rw [if_pos (by decide +kernel)]; kernel_rfl) | (rw [if_neg (by decide +kernel)]; exact ⟨rfl, rfl⟩))
    (fun os started H enc _ => fnHandKeys_lifted os started H enc)

theorem fnHandKeys_card : Rows.FnHandKeysCardSaid :=
  Claim7.holds_tied_plain_at .later [] [.sentinel, .sentinel] true (true, "26dbefd124290bbaf80768e8a6bb7c8b1e45a3ad605eb9697aba4f984fb370b5") true
    fnHandKeys_over (fun _ h => by cases h) (by kernel_rfl) (fun _ h => by cases h) fnHandKeys_row_tie rfl ⟨rfl, rfl⟩ (by kernel_rfl) rfl
    (fun f fn hf hfn => by
      obtain rfl : f = 6 := Option.some.inj ((show Tryd.prog.funcNamed "loop.example/ringoverlay/laws.FnHandKeys" = some 6 by kernel_rfl).symm.trans hf) |>.symm
      obtain rfl : fn = Tryd.f6 := (Option.some.inj (Tryd.func6.symm.trans hfn)).symm
      exact ⟨by kernel_rfl, fun j t ht => by
        rw [Tryd.params6] at ht
        have hm : t ∈ [31] := by simpa using Array.mem_of_getElem? ht
        have hall : ([31].all fun u => !Tryd.prog.wantsStandIn u) = true := by kernel_rfl
        exact (show Tryd.prog.wantsStandIn t = false by simpa using List.all_eq_true.1 hall t hm)⟩)
    (by kernel_rfl)
#print axioms fnHandKeys_card
end Go.Proofs.YtdcjacgaakpejaaDoor
