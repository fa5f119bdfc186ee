/-
  What a write leaves, in plain terms.
-/
import Derived.Test.YtkefnmmpipeppaaRp
namespace Go.Proofs.Ytkefnmmpipeppaa

/-- What a write leaves. -/
def rPutAll (x : Tr) (rs : List Tr) (ks : List Int) : List Tr := (List.range rs.length).map fun (i : Nat) => if (i : Int) ∈ ks then rPut x (rs.getD i default) else rs.getD i default
theorem rPutAll_length (x : Tr) (rs : List Tr) (ks : List Int) : (rPutAll x rs ks).length = rs.length := by simp [rPutAll]
theorem rPutAll_get (x : Tr) (rs : List Tr) (ks : List Int) {i : Nat} (hi : i < rs.length) : (rPutAll x rs ks).getD i default = if (i : Int) ∈ ks then rPut x (rs.getD i default) else rs.getD i default := by
  simp [rPutAll, hi]
theorem trs_ext {xs ys : List Tr} (hl : xs.length = ys.length) (h : ∀ j, j < xs.length → xs.getD j default = ys.getD j default) : xs = ys := by
  refine List.ext_getElem hl fun j h1 h2 => ?_
  have := h j h1
  simpa [h1, h2] using this
theorem rPutAll_nil (x : Tr) (rs : List Tr) : rPutAll x rs [] = rs :=
  trs_ext (rPutAll_length _ _ _) fun j hj => by
    rw [rPutAll_length] at hj
    rw [rPutAll_get _ _ _ hj]
    simp
theorem rPut_put (x y : Tr) : rPut x (rPut x y) = rPut x y := by
  unfold rPut
  by_cases h : rOlder y x = true
  · rw [if_pos h]
    split <;> rfl
  · rw [if_neg h, if_neg h]
/-- One more index. -/
theorem rPutAll_snoc (x : Tr) (rs : List Tr) (ks : List Int) (k : Nat) (hk : k < rs.length) :
    rPutAll x rs (ks ++ [(k : Int)]) = (rPutAll x rs ks).set k (rPut x ((rPutAll x rs ks).getD k default)) :=
  trs_ext (by simp [rPutAll_length]) fun j hj => by
    rw [rPutAll_length] at hj
    rw [rPutAll_get _ _ _ hj, rPutAll_get _ _ _ hk]
    have e : ((rPutAll x rs ks).set k (rPut x (if (k : Int) ∈ ks then rPut x (rs.getD k default) else rs.getD k default))).getD j default = if k = j then rPut x (if (k : Int) ∈ ks then rPut x (rs.getD k default) else rs.getD k default) else (rPutAll x rs ks).getD j default := by
      rw [List.getD_eq_getElem?_getD, List.getElem?_set, rPutAll_length]
      split
      · simp [*]
      · rw [List.getD_eq_getElem?_getD]
    rw [e, rPutAll_get _ _ _ hj]
    simp only [List.mem_append, List.mem_singleton]
    by_cases hkj : k = j
    · subst hkj
      by_cases hm : (k : Int) ∈ ks
      · simp [hm, rPut_put]
      · simp [hm]
    · have : ¬ (j : Int) = (k : Int) := by omega
      simp [hkj, this]
end Go.Proofs.Ytkefnmmpipeppaa
