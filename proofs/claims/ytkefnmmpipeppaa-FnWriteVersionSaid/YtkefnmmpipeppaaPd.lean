/-
  The latest replica is one of the register's, in plain terms.
-/
import Derived.Test.YtkefnmmpipeppaaSf
namespace Go.Proofs.Ytkefnmmpipeppaa
open Go.RowKit

theorem regB_ok {rs : List Tr} (h : regB rs = true) {k : Nat} (hk : k < rs.length) : rOk (rs.getD k default) = true := by
  unfold regB at h
  simp only [Bool.and_eq_true] at h
  have := allBelow_iff h.2 hk
  unfold regAt at this
  simp only [Bool.and_eq_true] at this
  exact this.1
theorem latN_mem {rs : List Tr} {ks : List Int} (h0 : 0 < ks.length) (hk : ∀ m, m < ks.length → 0 ≤ ks.getD m 0 ∧ ks.getD m 0 < rs.length) : ∀ m, m ≤ ks.length → ∃ K, K < rs.length ∧ latN rs ks m = rs.getD K default
  | 0, _ => ⟨(ks.getD 0 0).toNat, by have := hk 0 h0; omega, rfl⟩
  | m + 1, hm => by
    obtain ⟨K, h1, h2⟩ := latN_mem h0 hk m (by omega)
    simp only [latN]
    unfold rMax
    split
    · exact ⟨_, by have := hk m (by omega); omega, rfl⟩
    · exact ⟨K, h1, h2⟩
theorem rLat_ok {rs : List Tr} {ks : List Int} (h : askB rs ks = true) : rOk (rLat rs ks) = true := by
  unfold askB at h
  simp only [Bool.and_eq_true] at h
  obtain ⟨K, h1, h2⟩ := latN_mem (majB_pos h.2) (setB_range (majB_set h.2)) ks.length (Nat.le_refl _)
  show rOk (latN rs ks ks.length) = true
  rw [h2]
  exact regB_ok h.1 h1
theorem rOk_a {x : Tr} (h : rOk x = true) : 0 ≤ x.a ∧ x.a ≤ 99 := by
  unfold rOk at h
  simp only [Bool.or_eq_true, Bool.and_eq_true, decide_eq_true_eq, inR] at h
  rcases h with h | h
  · rw [h]; decide
  · omega
end Go.Proofs.Ytkefnmmpipeppaa
