/-
  Plain laws: what the steps of a ring answer, as the laws ask it.
-/
import Derived.Test.YtnoamohpkngbdaaSafeX
import Derived.Test.YtnoamohpkngbdaaConv
namespace Go.Proofs.Ytnoamohpkngbdaa

/-- The node with a position, or one that is none. -/
def noNd : Nd := ⟨-1, 0, [-1, -1]⟩
def ndOf (r : List Nd) (x : Int) : Nd := if live r x then r.getD (fnd r x).toNat default else noNd
theorem ndOf_hit {r : List Nd} {x : Int} {k : Nat} (hf : fnd r x = (k : Int)) : ndOf r x = r.getD k default := by
  have hl : live r x = true := fnd_live_iff.1 (by omega)
  unfold ndOf; rw [hl, hf]; simp
theorem ndOf_no {r : List Nd} {x : Int} (h : live r x = false) : ndOf r x = noNd := by unfold ndOf; rw [h]; simp
theorem ndOf_live {r : List Nd} {x : Int} (h : live r x = true) : (ndOf r x).id = x ∧ ndOf r x ∈ r := by
  obtain ⟨k, hk, hf, -, hid⟩ := fnd_at h
  rw [ndOf_hit hf]
  exact ⟨hid, getD_mem hk⟩
theorem ndOf_self {r : List Nd} (h : ringValid r = true) {k : Nat} (hk : k < r.length) : ndOf r (r.getD k default).id = r.getD k default := ndOf_hit (fnd_self h hk)
theorem ndOf_neg {r : List Nd} (h : ringValid r = true) (x : Int) : decide ((ndOf r x).id < 0) = !live r x := by
  cases hl : live r x
  · rw [ndOf_no hl]; rfl
  · have h1 := ndOf_live hl
    have h2 := okP_def.1 (live_ok h hl)
    rw [h1.1]
    simp
    omega
theorem ndOf_two {r : List Nd} (h : ringValid r = true) (x : Int) : (ndOf r x).after.length = 2 := by
  cases hl : live r x
  · rw [ndOf_no hl]; rfl
  · exact (valid_node h (ndOf_live hl).2).2.2.1

theorem stepB_open {c : Bool} {r : List Nd} {id : Int} {g : Nat → Bool} (h : stepB c r id g = true) : c = true ∧ ∃ k, k < r.length ∧ fnd r id = (k : Int) ∧ (r.getD k default).id = id ∧ g k = true := by
  unfold stepB at h
  simp only [Bool.and_eq_true, decide_eq_true_eq] at h
  obtain ⟨⟨h1, h2⟩, h3⟩ := h
  obtain ⟨k, hk, hf, ht, hid⟩ := fnd_at (fnd_live_iff.1 h2)
  rw [ht] at h3
  exact ⟨h1, k, hk, hf, hid, h3⟩

theorem fine_ndOf {r r' : List Nd} (h : r'.map Nd.id = r.map Nd.id) {id : Int} {k : Nat} (hf : fnd r id = (k : Int)) : ndOf r' id = r'.getD k default := ndOf_hit ((fnd_ids h id).trans hf)

theorem law_closer {r : List Nd} {id o : Int} (h : rCloserOk r id o = true) :
    ringSafe r = true ∧ okP id = true ∧ okP o = true ∧ okP (a0 (ndOf r id)) = true ∧ (ndOf (rCloser r id o) id).after = [o, a0 (ndOf r o)] ∧ dist id o < dist id (a0 (ndOf r id)) ∧ Fine r (rCloser r id o) := by
  obtain ⟨hc, k, hk, hf, hid, hg⟩ := stepB_open h
  simp only [Bool.and_eq_true] at hc
  obtain ⟨⟨hs, hi⟩, ho⟩ := hc
  have hfine := closerK_fine hs hk o
  have er : rCloser r id o = closerK r k o := stepR_hit (by rw [hs, hi, ho]; rfl) hf _
  have en := ndOf_hit hf
  have hn := getD_mem hk
  have hnv := valid_node (safe_valid hs) hn
  rw [er]
  refine ⟨hs, hi, ho, by rw [en]; exact hnv.a0ok, ?_, ?_, hfine⟩
  · rw [fine_ndOf hfine.2.1 hf]
    unfold closerK
    rw [hg, if_pos rfl]
    unfold closerOk at hg
    simp only [Bool.and_eq_true, decide_eq_true_eq] at hg
    obtain ⟨s, hs', hfs, hts, hids⟩ := fnd_at (fnd_live_iff.1 hg.1)
    unfold followK
    rw [setAfter_at _ hk, hts, hids, ndOf_hit hfs]
  · unfold closerOk at hg
    simp only [Bool.and_eq_true, decide_eq_true_eq] at hg
    rw [en, ← hid]
    exact (dist_btw hnv.1 ho hnv.a0ok hg.2 (safe_order hs hn).2.1).1

theorem law_adopt {r : List Nd} {id : Int} (h : rAdoptOk r id = true) :
    ringSafe r = true ∧ okP id = true ∧ (ndOf (rAdopt r id) id).after = [a0 (ndOf r id), a0 (ndOf r (a0 (ndOf r id)))] ∧ (ndOf (rAdopt r id) id).before = (ndOf r id).before ∧ Fine r (rAdopt r id) := by
  obtain ⟨hc, k, hk, hf, hid, hg⟩ := stepB_open h
  simp only [Bool.and_eq_true] at hc
  obtain ⟨hs, hi⟩ := hc
  have hfine := adoptK_fine hs hk
  have er : rAdopt r id = adoptK r k := stepR_hit (by rw [hs, hi]; rfl) hf _
  have en := ndOf_hit hf
  have e : adoptK r k = followK r k (fnd r (a0 (r.getD k default))).toNat := by unfold adoptK; rw [hg, if_pos rfl]
  obtain ⟨s, hs', hfs, hts, hids⟩ := fnd_at (adoptOk_t.1 hg)
  rw [er]
  refine ⟨hs, hi, ?_, ?_, hfine⟩
  · rw [fine_ndOf hfine.2.1 hf, en, ndOf_hit hfs, e]
    unfold followK
    rw [setAfter_at _ hk, hts, hids]
  · rw [fine_ndOf hfine.2.1 hf, en, e]
    unfold followK
    rw [setAfter_at _ hk]

theorem law_drop {r : List Nd} {id : Int} (h : rDropOk r id = true) :
    ringSafe r = true ∧ okP id = true ∧ live r (a0 (ndOf r id)) = false ∧ live r (a1 (ndOf r id)) = true ∧ (ndOf (rDrop r id) id).after = [a1 (ndOf r id), (a1 (ndOf r id) + 1) % 64] ∧ Fine r (rDrop r id) := by
  obtain ⟨hc, k, hk, hf, hid, hg⟩ := stepB_open h
  simp only [Bool.and_eq_true] at hc
  obtain ⟨hs, hi⟩ := hc
  have hfine := dropK_fine hs hk
  have er : rDrop r id = dropK r k := stepR_hit (by rw [hs, hi]; rfl) hf _
  have en := ndOf_hit hf
  have hd := dropOk_t.1 hg
  rw [er]
  refine ⟨hs, hi, by rw [en]; exact hd, ?_, ?_, hfine⟩
  · rw [en]
    rcases (ringSafe_iff.1 hs).2.1 _ (getD_mem hk) with h1 | h1
    · rw [hd] at h1; cases h1
    · exact h1
  · rw [fine_ndOf hfine.2.1 hf, en]
    unfold dropK
    rw [hg, if_pos rfl, setAfter_at _ hk]

theorem law_notify {r : List Nd} {id o : Int} (h : rNotifyOk r id o = true) :
    ringSafe r = true ∧ okP id = true ∧ okP o = true ∧ (ndOf (rNotify r id o) id).before = o ∧ (ndOf (rNotify r id o) id).after = (ndOf r id).after ∧
      ((ndOf r id).before < 0 ∨ live r (ndOf r id).before = false ∨ (ndOf r id).before = id ∨ (okP (ndOf r id).before = true ∧ dist o id < dist (ndOf r id).before id)) ∧ Fine r (rNotify r id o) := by
  obtain ⟨hc, k, hk, hf, hid, hg⟩ := stepB_open h
  simp only [Bool.and_eq_true] at hc
  obtain ⟨⟨hs, hi⟩, ho⟩ := hc
  have hfine := notifyK_fine hs hk o
  have er : rNotify r id o = notifyK r k o := stepR_hit (by rw [hs, hi, ho]; rfl) hf _
  have en := ndOf_hit hf
  have hnv := valid_node (safe_valid hs) (getD_mem hk)
  have e : notifyK r k o = setBefore r k o := by unfold notifyK; rw [hg, if_pos rfl]
  rw [er]
  refine ⟨hs, hi, ho, ?_, ?_, ?_, hfine⟩
  · rw [fine_ndOf hfine.2.1 hf, e, setBefore_at _ hk]
  · rw [fine_ndOf hfine.2.1 hf, en, e, setBefore_at _ hk]
  · rw [en]
    unfold notifyOk at hg
    simp only [Bool.and_eq_true, Bool.not_eq_true', Bool.and_eq_false_iff, decide_eq_false_iff_not, Bool.not_eq_false'] at hg
    obtain ⟨⟨-, h2⟩, h3⟩ := hg
    rw [hid] at h2 h3
    rcases h3 with (h3 | h3) | h3
    · left; omega
    · right; left
      cases hl : live r (r.getD k default).before
      · rfl
      · exact absurd (fnd_live_iff.2 hl) h3
    · by_cases hb : (r.getD k default).before < 0
      · left; exact hb
      right; right
      by_cases hbi : (r.getD k default).before = id
      · left; exact hbi
      right
      have hbo : okP (r.getD k default).before = true := by
        rcases hnv.2.1 with h4 | h4
        · omega
        · exact h4
      exact ⟨hbo, (dist_btw hbo ho hi h3 hbi).2.1⟩

theorem between_prin {r : List Nd} (h : ringSafe r = true) {k : Nat} (hk : k < r.length) {p : Int} (hp : p ∈ prin r) (hb : btw (r.getD k default).id p (a1 (r.getD k default)) = true) : p = a0 (r.getD k default) := by
  obtain ⟨u, v⟩ := prin_skips h hp hk
  obtain ⟨g1, g2, g3, g4⟩ := safe_order h (getD_mem hk)
  rw [btw_iff] at g1 hb
  rw [btw_no] at u v
  omega
end Go.Proofs.Ytnoamohpkngbdaa
