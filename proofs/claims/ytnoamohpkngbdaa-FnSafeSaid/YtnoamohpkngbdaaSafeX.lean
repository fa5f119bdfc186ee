/-
  Plain laws: every step of a safe ring yields a safe ring. No program in sight.
-/
import Derived.Test.YtnoamohpkngbdaaJF
import Derived.Test.YtnoamohpkngbdaaIdeal
namespace Go.Proofs.Ytnoamohpkngbdaa
open Go.RowKit

theorem ringValid_pw {r : List Nd} : ringValid r = true ↔ r.length ≤ 10 ∧ (∀ n ∈ r, NdOk n) ∧ r.Pairwise fun a b => a.id < b.id := by
  constructor
  · intro h
    exact ⟨ringValid_len h, fun n hn => valid_node h hn, valid_pairwise h⟩
  · rintro ⟨h1, h2, h3⟩
    refine ringValid_iff.2 ⟨h1, fun j hj => h2 _ (getD_mem hj), fun i j hij hj => ?_⟩
    have := List.pairwise_iff_getElem.1 h3 i j (by omega) hj hij
    simpa [show i < r.length by omega, hj] using this

theorem erase_valid {r : List Nd} (h : ringValid r = true) (k : Nat) : ringValid (r.eraseIdx k) = true := by
  obtain ⟨h1, h2, h3⟩ := ringValid_pw.1 h
  have hs := List.eraseIdx_sublist r k
  exact ringValid_pw.2 ⟨Nat.le_trans hs.length_le h1, fun n hn => h2 n (hs.subset hn), h3.sublist hs⟩
theorem failK_safe {r : List Nd} (h : ringSafe r = true) (k : Nat) : ringSafe (failK r k) = true := by
  unfold failK
  split
  · rename_i hs
    unfold ringSafe
    rw [erase_valid (safe_valid h), hs]; rfl
  · exact h

theorem mem_joinK {r : List Nd} {id at' : Int} {k : Nat} {m : Nd} : m ∈ joinK r id at' k ↔ m ∈ r ∨ m = ⟨id, at', (r.getD k default).after⟩ := by
  unfold joinK
  rw [List.mem_append, List.mem_cons]
  have h : m ∈ r ↔ m ∈ r.take (ltN r id) ∨ m ∈ r.drop (ltN r id) := by
    conv => lhs; rw [← List.take_append_drop (ltN r id) r]
    exact List.mem_append
  rw [h]
  constructor
  · rintro (h | h | h)
    · exact .inl (.inl h)
    · exact .inr h
    · exact .inl (.inr h)
  · rintro ((h | h) | h)
    · exact .inl h
    · exact .inr (.inr h)
    · exact .inr (.inl h)
theorem joinK_valid {r : List Nd} (h : ringValid r = true) (hl : r.length < 10) {id at' : Int} (hid : okP id = true) (hat : okP at' = true) (hx : live r id = false) {k : Nat} (hk : k < r.length) : ringValid (joinK r id at' k) = true := by
  obtain ⟨-, h2, h3⟩ := ringValid_pw.1 h
  refine ringValid_pw.2 ⟨?_, fun m hm => ?_, ?_⟩
  · have := ltN_le id r
    unfold joinK
    simp; omega
  · rcases mem_joinK.1 hm with hm | rfl
    · exact h2 m hm
    · have := h2 _ (getD_mem hk)
      exact ⟨hid, .inr hat, this.2.2.1, this.2.2.2⟩
  · have hT : ∀ a, a ∈ r.take (ltN r id) → a.id < id := fun a ha => by
      obtain ⟨i, hi, e⟩ := List.getElem_of_mem ha
      rw [List.length_take] at hi
      have := ltN_yes (r := r) (id := id) (j := i) (by omega)
      rw [List.getElem_take] at e
      have e2 : r.getD i default = a := by rw [← e]; simp [show i < r.length by omega]
      rw [e2] at this
      exact this
    have hD : ∀ a, a ∈ r.drop (ltN r id) → id < a.id := fun a ha => by
      obtain ⟨i, hi, e⟩ := List.getElem_of_mem ha
      rw [List.length_drop] at hi
      rw [List.getElem_drop] at e
      have e2 : r.getD (ltN r id + i) default = a := by rw [← e]; simp [show ltN r id + i < r.length by omega]
      have := ltN_no (id := id) h (j := ltN r id + i) (by omega) (by omega)
      rw [e2] at this
      have hne : a.id ≠ id := fun e3 => by
        have : live r id = true := live_iff.2 ⟨a, List.mem_of_mem_drop ha, e3⟩
        rw [hx] at this; cases this
      omega
    unfold joinK
    refine List.pairwise_append.2 ⟨h3.sublist (List.take_sublist _ _), List.pairwise_cons.2 ⟨fun a ha => hD a ha, h3.sublist (List.drop_sublist _ _)⟩, fun a ha b hb => ?_⟩
    have h1 := hT a ha
    rcases List.mem_cons.1 hb with rfl | hb
    · exact h1
    · have := hD b hb; omega
theorem joinK_safe {r : List Nd} (h : ringSafe r = true) {id at' : Int} (hid : okP id = true) (hat : okP at' = true) {k : Nat} (hk : k < r.length) (hkat : (r.getD k default).id = at') (hok : joinOk r id at' k = true) :
    ringSafe (joinK r id at' k) = true ∧ ∀ p, p ∈ prin r → p ∈ prin (joinK r id at' k) := by
  unfold joinOk at hok
  simp only [Bool.and_eq_true, decide_eq_true_eq] at hok
  obtain ⟨⟨hf, hl⟩, hb⟩ := hok
  have hx := fnd_dead_iff.1 hf
  obtain ⟨h1, h2, p, q, s, a, b, c, d, e⟩ := ringSafe_iff.1 h
  have hlv : ∀ x, live r x = true → live (joinK r id at' k) x = true := fun x hx => by
    obtain ⟨n, hn, rfl⟩ := live_iff.1 hx
    exact live_iff.2 ⟨n, mem_joinK.2 (.inl hn), rfl⟩
  have hn2 := (valid_node h1 (getD_mem hk)).2.2.1
  have hkeep : ∀ p, p ∈ prin r → p ∈ prin (joinK r id at' k) := fun p hp => by
    refine mem_prin.2 ⟨hlv p (mem_prin.1 hp).1, fun m hm => ?_⟩
    rcases mem_joinK.1 hm with hm | rfl
    · exact (mem_prin.1 hp).2 m hm
    · obtain ⟨s1, s2⟩ := prin_skips h hp hk
      have e2 := after2 hn2
      rw [e2, skip_mk, s2, Bool.or_false]
      rw [hkat] at s1
      rw [btw_iff] at hb
      rw [btw_no] at s1 ⊢
      omega
  refine ⟨ringSafe_iff.2 ⟨joinK_valid h1 hl hid hat hx hk, fun m hm => ?_, p, q, s, a, b, hkeep p c, hkeep q d, hkeep s e⟩, hkeep⟩
  rcases mem_joinK.1 hm with hm | rfl
  · rcases h2 m hm with h' | h'
    · exact .inl (hlv _ h')
    · exact .inr (hlv _ h')
  · rcases h2 _ (getD_mem hk) with h' | h'
    · exact .inl (hlv _ h')
    · exact .inr (hlv _ h')

theorem stepR_safe {c : Bool} {r : List Nd} {id : Int} {f : Nat → List Nd} (h : ringSafe r = true) (hc : c = true) (hf : ∀ k, k < r.length → (r.getD k default).id = id → ringSafe (f k) = true) : ringSafe (stepR c r id f) = true := by
  rcases fnd_cases r id with ⟨h0, -⟩ | ⟨k, hk, h0, hi, -⟩
  · rw [stepR_miss hc h0]; exact h
  · rw [stepR_hit hc h0]; exact hf k hk hi
theorem rDrop_safe {r : List Nd} {id : Int} (h : ringSafe r = true) (ho : okP id = true) : ringSafe (rDrop r id) = true := stepR_safe h (by rw [h, ho]; rfl) fun _ hk _ => (dropK_fine h hk).1
theorem rAdopt_safe {r : List Nd} {id : Int} (h : ringSafe r = true) (ho : okP id = true) : ringSafe (rAdopt r id) = true := stepR_safe h (by rw [h, ho]; rfl) fun _ hk _ => (adoptK_fine h hk).1
theorem rCloser_safe {r : List Nd} {id o : Int} (h : ringSafe r = true) (ho : okP id = true) (hp : okP o = true) : ringSafe (rCloser r id o) = true := stepR_safe h (by rw [h, ho, hp]; rfl) fun _ hk _ => (closerK_fine h hk o).1
theorem rNotify_safe {r : List Nd} {id o : Int} (h : ringSafe r = true) (ho : okP id = true) (hp : okP o = true) : ringSafe (rNotify r id o) = true := stepR_safe h (by rw [h, ho, hp]; rfl) fun _ hk _ => (notifyK_fine h hk o).1
theorem rStab_safe {r : List Nd} {id : Int} (h : ringSafe r = true) (ho : okP id = true) : ringSafe (rStab r id) = true := stepR_safe h (by rw [h, ho]; rfl) fun _ hk _ => (stabK_fine h hk).1
theorem rFail_safe {r : List Nd} {id : Int} (h : ringSafe r = true) (ho : okP id = true) : ringSafe (rFail r id) = true := stepR_safe h (by rw [h, ho]; rfl) fun k _ _ => failK_safe h k
theorem rJoin_safe {r : List Nd} {id at' : Int} (h : ringSafe r = true) (ho : okP id = true) (hp : okP at' = true) : ringSafe (rJoin r id at') = true := stepR_safe h (by rw [h, ho, hp]; rfl) fun k hk hi => by
  split
  · rename_i hok; exact (joinK_safe h ho hp hk hi hok).1
  · exact h
theorem rCalm_safe {r : List Nd} (h : ringSafe r = true) : ringSafe (rCalm r) = true := by
  unfold rCalm
  rw [if_pos h]
  exact ideal_safe (nodesOk_ids (safe_valid h)) (by simpa using safe_len h)

end Go.Proofs.Ytnoamohpkngbdaa
