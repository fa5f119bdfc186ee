/-
  What the laws of a read lean on: closedness; a read does not change the latest.
-/
import Derived.Test.YtddnapbdhjifiaaSr
import Derived.Test.YtddnapbdhjifiaaPc
import Derived.Test.YtddnapbdhjifiaaPe
set_option linter.unusedSimpArgs false
set_option linter.unusedVariables false
set_option linter.unusedSectionVars false
namespace Go.Proofs.Ytddnapbdhjifiaa
open Go.Conc Go.ConcN Go.RowKit Go.Conc.Lib Go.ConcR.Gen Go.ConcN.Gen Go.Proofs.Ytddnapbdhjifiaa.Rg
open Go.ConcR (KK wgBlock WgAt stA smA rd wr mk Payload Aside2 DC0 Bk)
variable [Kept]

theorem closedRS : Closed Try.prog [24, 40, 41, 43, 55, 26, 28, 46, 30, 58, 47, 29, 31, 48, 32, 42, 56, 20, 27, 22, 21, 38, 34, 36, 49, 23, 44, 45, 35, 57] := by
  intro f hf
  simp only [List.mem_cons, List.not_mem_nil, or_false] at hf
  rcases hf with rfl | rfl | rfl | rfl | rfl | rfl | rfl | rfl | rfl | rfl | rfl | rfl | rfl | rfl | rfl | rfl | rfl | rfl | rfl | rfl | rfl | rfl | rfl | rfl | rfl | rfl | rfl | rfl | rfl | rfl <;> kernel_rfl
theorem everyone_ask {rs : List Tr} (h : regB rs = true) : askB rs (fromK rs.length 0) = true := by
  have := regB_len h
  unfold askB
  rw [h, firstK_maj (Nat.le_refl _) (by omega)]
  rfl
theorem rLat_all {rs : List Tr} {j : Nat} (hj : j < rs.length) : rOlder (rLat rs (fromK rs.length 0)) (rs.getD j default) = false := by
  have := rLat_max rs (fromK rs.length 0) (m := j) (by rw [fromK_length]; omega)
  rw [fromK_get (by omega), Nat.zero_add, Int.toNat_natCast] at this
  exact this
/-- A read does not change the latest. -/
theorem lat_same {rs : List Tr} {x : Tr} {ts : List Int} (h : regB rs = true) (hx : ∃ K, K < rs.length ∧ x = rs.getD K default) :
    rLat (rPutAll x rs ts) (fromK rs.length 0) = rLat rs (fromK rs.length 0) := by
  have hv := regB_put (ts := ts) h hx
  obtain ⟨m, hm, e1⟩ := rLat_mem (everyone_ask h)
  obtain ⟨n, hn, e2⟩ := rLat_mem (everyone_ask hv)
  rw [rPutAll_length] at hn e2
  obtain ⟨K, hK, rfl⟩ := hx
  -- what stood at m stands
  have hom : (rPutAll (rs.getD K default) rs ts).getD m default = rs.getD m default := by
    rw [rPutAll_get _ _ _ hm]
    split
    · exact rPut_new (by rw [← e1]; exact rLat_all hK)
    · rfl
  have h1 := rLat_all (rs := rPutAll (rs.getD K default) rs ts) (j := m) (by rw [rPutAll_length]; exact hm)
  rw [rPutAll_length, hom, ← e1] at h1
  -- what is the latest then was one before
  have hq : ∃ q, q < rs.length ∧ rLat (rPutAll (rs.getD K default) rs ts) (fromK rs.length 0) = rs.getD q default := by
    rw [e2, rPutAll_get _ _ _ hn]
    unfold rPut
    split
    · split
      · exact ⟨K, hK, rfl⟩
      · exact ⟨n, hn, rfl⟩
    · exact ⟨n, hn, rfl⟩
  obtain ⟨q, hq, e3⟩ := hq
  have h2 := rLat_all (rs := rs) hq
  rw [← e3] at h2
  have h3 := regB_ag h hq hm
  rw [← e3, ← e1] at h3
  unfold rAg at h3
  rw [h1, h2] at h3
  simpa using h3
end Go.Proofs.Ytddnapbdhjifiaa
