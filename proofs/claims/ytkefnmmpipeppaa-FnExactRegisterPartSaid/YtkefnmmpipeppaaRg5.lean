/-
  Theory of walks beside goroutines that only leave (part 5).
-/
import Derived.Test.YtkefnmmpipeppaaRg4
import Derived.Conc.CrowdRun
set_option linter.unusedSimpArgs false
set_option linter.unusedVariables false
set_option linter.unusedSectionVars false
namespace Go.Proofs.Ytkefnmmpipeppaa.Rg
open Go.Conc Go.ConcN
open Go.ConcR (KK wgBlock WgAt stA smA rd wr mk)
variable [Kept]

/-- WHERE EVERYTHING LIES while n workers run: goroutines K .. K + n - 1; below block Low lies what was there; C: the block whose cells they share out (worker m: three cells from rg m on); Wg: the group; Sn: blocks that nobody may touch. -/
structure Lay where
  K : Nat
  Low : Nat
  C : Nat
  Wg : Nat
  nC : Nat
  n : Nat
  ety : TypeId
  ty : TypeId
  rg : Nat → Nat
  Sn : Nat → Prop
  W0 : World
  fin : Nat → Nat → Value
  Cq : Nat
  nq : Nat
  vq : Nat → Value

structure Lay.Ok (Y : Lay) : Prop where
  hC : Y.C < Y.Low
  hW : Y.Wg < Y.Low
  hCW : Y.C ≠ Y.Wg
  apart : ∀ m m', m < Y.n → m' < Y.n → m ≠ m' → Y.rg m + 3 ≤ Y.rg m' ∨ Y.rg m' + 3 ≤ Y.rg m
  room : ∀ m, m < Y.n → Y.rg m + 3 ≤ Y.nC
  snC : ¬ Y.Sn Y.C
  snLow : ∀ b, Y.Sn b → b < Y.Wg
  hn : Y.n < 2147483648
  hK : 0 < Y.K
  hCq : Y.Cq < Y.Low ∧ Y.Cq ≠ Y.C ∧ Y.Cq ≠ Y.Wg

section
variable (Y : Lay)
def MineA (r : Option Nat) (ad : Addr) : Prop := ∃ m, r = some m ∧ ad.block = Y.C ∧ Y.rg m ≤ ad.off ∧ ad.off < Y.rg m + 3
/-- Blocks that are read only. -/
def Ro (b : Nat) : Prop := b < Y.Low ∧ b ≠ Y.C ∧ b ≠ Y.Wg ∧ ¬ Y.Sn b
def May (r : Option Nat) (S : List Nat) (l : Loc) (wr : Bool) : Prop := ∃ ad, l = .cell ad ∧ (ad.block ∈ S ∨ MineA Y r ad ∨ (wr = false ∧ Ro Y ad.block))
def Exc (r : Option Nat) (S : List Nat) (l : Loc) : Prop := ∃ ad, l = .cell ad ∧ (ad.block ∈ S ∨ MineA Y r ad)
def RoL (l : Loc) : Prop := ∃ ad, l = .cell ad ∧ Ro Y ad.block
def WgL (l : Loc) : Prop := ∃ ad, l = .cell ad ∧ ad.block = Y.Wg
def SnL (l : Loc) : Prop := ∃ ad, l = .cell ad ∧ Y.Sn ad.block
/-- What a goroutine of the crowd may touch, and how. -/
def TouchOk (r : Option Nat) (S : List Nat) (x : Touch) : Prop :=
  (x.kind = .atomic ∧ WgL Y x.loc) ∨ (x.kind = .plain ∧ May Y r S x.loc x.write) ∨ (r = none ∧ x.kind = .said ∧ WgL Y x.loc)
structure OpOk (r : Option Nat) (S : List Nat) (B : Nat) (op : MemOp) : Prop where
  touch : ∀ x, op.act.touch? = some x → TouchOk Y r S x
  low : op.act.low B
  norel : op.act ≠ .mark (.release (stA Y.Wg))

/-- THE TRACE's LAW while the crowd runs: j workers are started; Sw m: the blocks that are worker m's alone. -/
structure PT (Sw : Nat → List Nat) (j B : Nat) (t : Trace) : Prop where
  clean : ∀ said, ¬ Race said t
  quiet : ∀ i a, touchAt t i = some a → WgL Y a.loc → a.kind ≠ .plain
  known : ∀ i a, touchAt t i = some a → a.loc.isMemory = true → Knows t 0 i ∨ ((SnL Y a.loc ∨ WgL Y a.loc) ∧ a.kind = .atomic) ∨ ∃ m, m < j ∧ t.g? i = some (Y.K + m) ∧ a.kind = .plain ∧ May Y (some m) (Sw m) a.loc a.write
  own : ∀ m, m < j → ∀ i a, touchAt t i = some a → Exc Y (some m) (Sw m) a.loc → Knows t (Y.K + m) i
  ro : ∀ m, m < j → ∀ i a, touchAt t i = some a → RoL Y a.loc → a.write = true → Knows t (Y.K + m) i
  seen : ∀ op ∈ t, op.act.low B
  norel : NoRelease (stA Y.Wg) t
  over : ∀ i g, t.g? i = some g → g ≠ 0 → (∀ m, m < j → g ≠ Y.K + m) → t.counts i → ∃ j, t.g? j = some 0 ∧ HappensBefore t i j

/-- The workers' own blocks lie apart. -/
structure Sets (Sw : Nat → List Nat) (j B : Nat) : Prop where
  inB : ∀ m, m < j → ∀ b ∈ Sw m, Y.Low ≤ b ∧ b < B
  apart : ∀ m m', m < j → m' < j → m ≠ m' → ∀ b ∈ Sw m, b ∉ Sw m'
end

section
variable {Y : Lay} {Sw : Nat → List Nat} {j B B' : Nat} {t u : Trace}
theorem mine_apart (A : Y.Ok) {m m' : Nat} (hm : m < Y.n) (hm' : m' < Y.n) {ad : Addr} (h : MineA Y (some m) ad) (h' : MineA Y (some m') ad) : m = m' := by
  obtain ⟨_, e, h1, h2, h3⟩ := h
  obtain ⟨_, e', k1, k2, k3⟩ := h'
  cases e
  cases e'
  refine Classical.byContradiction fun hne => ?_
  have := A.apart m m' hm hm' hne
  omega
theorem exc_apart (A : Y.Ok) (S : Sets Y Sw j B) (hj : j ≤ Y.n) {m m' : Nat} (hm : m < j) (hm' : m' < j) {l : Loc} (h : Exc Y (some m) (Sw m) l) (h' : Exc Y (some m') (Sw m') l) : m = m' := by
  obtain ⟨ad, rfl, h⟩ := h
  obtain ⟨ad', e, h'⟩ := h'
  cases e
  refine Classical.byContradiction fun hne => ?_
  rcases h with h | h <;> rcases h' with h' | h'
  · exact S.apart m m' hm hm' hne _ h h'
  · obtain ⟨_, _, e, _⟩ := h'
    have := (S.inB m hm _ h).1
    have := A.hC
    omega
  · obtain ⟨_, _, e, _⟩ := h
    have := (S.inB m' hm' _ h').1
    have := A.hC
    omega
  · exact hne (mine_apart A (by omega) (by omega) h h')
theorem exc_ro (A : Y.Ok) {r : Option Nat} {S : List Nat} (hS : ∀ b ∈ S, Y.Low ≤ b) {l : Loc} (h : Exc Y r S l) (h' : RoL Y l) : False := by
  obtain ⟨ad, rfl, h⟩ := h
  obtain ⟨ad', e, h1, h2, _⟩ := h'
  cases e
  rcases h with h | ⟨_, _, e, _⟩
  · have := hS _ h; omega
  · exact h2 e
theorem exc_wg (A : Y.Ok) {r : Option Nat} {S : List Nat} (hS : ∀ b ∈ S, Y.Low ≤ b) {l : Loc} (h : Exc Y r S l) (h' : WgL Y l) : False := by
  obtain ⟨ad, rfl, h⟩ := h
  obtain ⟨ad', e, h1⟩ := h'
  cases e
  have := A.hW
  rcases h with h | ⟨_, _, e, _⟩
  · have := hS _ h; omega
  · exact A.hCW (e.symm.trans h1)
theorem exc_sn (A : Y.Ok) {r : Option Nat} {S : List Nat} (hS : ∀ b ∈ S, Y.Low ≤ b) {l : Loc} (h : Exc Y r S l) (h' : SnL Y l) : False := by
  obtain ⟨ad, rfl, h⟩ := h
  obtain ⟨ad', e, h1⟩ := h'
  cases e
  have := A.snLow _ h1
  have := A.hW
  rcases h with h | ⟨_, _, e, _⟩
  · have := hS _ h; omega
  · rw [e] at h1; exact A.snC h1
theorem may_exc {r : Option Nat} {S : List Nat} {l : Loc} {wr : Bool} (h : May Y r S l wr) : Exc Y r S l ∨ (RoL Y l ∧ wr = false) := by
  obtain ⟨ad, rfl, h | h | ⟨h, h'⟩⟩ := h
  · exact .inl ⟨ad, rfl, .inl h⟩
  · exact .inl ⟨ad, rfl, .inr h⟩
  · exact .inr ⟨⟨ad, rfl, h'⟩, h⟩
theorem exc_none {S S' : List Nat} {m : Nat} {l : Loc} (hC : Y.C < Y.Low) (hS : ∀ b ∈ S, Y.Low ≤ b ∧ b ∉ S') (h : Exc Y none S l) (h' : Exc Y (some m) S' l) : False := by
  obtain ⟨ad, rfl, h | ⟨_, e, _⟩⟩ := h
  · obtain ⟨ad', e, h' | ⟨_, _, e', _⟩⟩ := h'
    · cases e; exact (hS _ h).2 h'
    · cases e; have := (hS _ h).1; omega
  · cases e

/-- The touches of an appended piece. -/
theorem touch_app {i : Nat} {a : Touch} (h : touchAt (t ++ u) i = some a) : touchAt t i = some a ∧ i < t.size ∨ ∃ op ∈ u, (t ++ u)[i]? = some op ∧ op.act.touch? = some a := by
  obtain ⟨x, hx, hxa⟩ := touch_of h
  rcases getElem?_append_cases hx with ⟨hi, hx'⟩ | ⟨_, hxu⟩
  · exact .inl ⟨by rw [touchAt_of hx']; exact hxa, hi⟩
  · exact .inr ⟨x, hxu, hx, hxa⟩
theorem over_app {N : Nat → Prop} (h : ∀ i g, t.g? i = some g → g ≠ 0 → N g → t.counts i → ∃ j, t.g? j = some 0 ∧ HappensBefore t i j) (hu : ∀ op ∈ u, op.g = 0 ∨ ¬ N op.g ∨ op.act.touch? = none) :
    ∀ i g, (t ++ u).g? i = some g → g ≠ 0 → N g → (t ++ u).counts i → ∃ j, (t ++ u).g? j = some 0 ∧ HappensBefore (t ++ u) i j := by
  intro i g hg hne hK hc
  obtain ⟨op, hop, hog⟩ := Option.map_eq_some_iff.1 hg
  rcases getElem?_append_cases hop with ⟨hi, _⟩ | ⟨_, hou⟩
  · obtain ⟨jj, hj, hb⟩ := h i g (by rw [← g?_old (u := u) hi]; exact hg) hne hK ((counts_old hi).1 hc)
    have hjl : jj < t.size := by
      obtain ⟨z, hz, _⟩ := Option.map_eq_some_iff.1 hj
      exact lt_size_of_getElem? hz
    exact ⟨jj, by rw [g?_old hjl]; exact hj, hb_app u hb⟩
  · obtain ⟨x, hx, _⟩ := hc
    obtain ⟨op', hop', hxo⟩ := touch_of hx
    rw [hop] at hop'
    cases hop'
    rcases hu op hou with h0 | h0 | h0
    · rw [h0] at hog; exact absurd hog.symm hne
    · rw [hog] at h0; exact absurd hK h0
    · rw [h0] at hxo; cases hxo

/-- WORKER m's OPERATIONS. -/
theorem PT.appW (A : Y.Ok) (S : Sets Y Sw j B) (hj : j ≤ Y.n) (h : PT Y Sw j B t) {m : Nat} (hm : m < j) (hg : ∀ op ∈ u, op.g = Y.K + m) (hu : ∀ op ∈ u, OpOk Y (some m) (Sw m) B op) : PT Y Sw j B (t ++ u) := by
  have hS : ∀ b ∈ Sw m, Y.Low ≤ b := fun b hb => (S.inB m hm b hb).1
  have h0 := A.hK
  refine ⟨fun said => noRace_append (h.clean said) hg fun i a ha op hop b hb hc => ?_, fun i a ha hw => ?_, fun i a ha hmem => ?_, fun m' hm' i a ha hex => ?_, fun m' hm' i a ha hr hwr => ?_, seen_app h.seen fun op hop => (hu op hop).low, h.norel.app fun op hop => (hu op hop).norel,
    over_app h.over fun op hop => .inr (.inl fun h => h m hm (hg op hop))⟩
  · rcases (hu op hop).touch b hb with ⟨hk, hw⟩ | ⟨hk, hmay⟩ | ⟨e, _⟩
    · -- an atomic touch of the group's: nobody has touched it plainly
      have hp := h.quiet i a ha (hc.1 ▸ hw)
      rcases hc.2.2.2 with x | x | ⟨_, _, x⟩
      · exact absurd x hp
      · rw [hk] at x; cases x
      · rw [hk] at x; cases x
    · rcases may_exc hmay with he | ⟨hr, hwf⟩
      · exact h.own m hm i a ha (hc.1 ▸ he)
      · exact h.ro m hm i a ha (hc.1 ▸ hr) (by rcases hc.2.2.1 with x | x; exact x; rw [hwf] at x; cases x)
    · cases e
  · rcases touch_app ha with ⟨ha, _⟩ | ⟨op, hop, _, hb⟩
    · exact h.quiet i a ha hw
    · rcases (hu op hop).touch a hb with ⟨hk, _⟩ | ⟨_, hmay⟩ | ⟨e, _⟩
      · rw [hk]; simp
      · rcases may_exc hmay with he | ⟨⟨ad, e, hr⟩, _⟩
        · exact (exc_wg A hS he hw).elim
        · obtain ⟨ad', e', hw⟩ := hw
          rw [e] at e'
          cases e'
          exact absurd hw hr.2.2.1
      · cases e
  · rcases touch_app ha with ⟨ha, hi⟩ | ⟨op, hop, hi, hb⟩
    · rcases h.known i a ha hmem with hk | hk | ⟨m', hm', hg', hk⟩
      · exact .inl (hk.app u)
      · exact .inr (.inl hk)
      · exact .inr (.inr ⟨m', hm', by rw [g?_old hi]; exact hg', hk⟩)
    · rcases (hu op hop).touch a hb with ⟨hk, hw⟩ | hk | ⟨e, _⟩
      · exact .inr (.inl ⟨.inr hw, hk⟩)
      · exact .inr (.inr ⟨m, hm, by simp [Trace.g?, hi, hg op hop], hk⟩)
      · cases e
  · rcases touch_app ha with ⟨ha, _⟩ | ⟨op, hop, hi, hb⟩
    · exact (h.own m' hm' i a ha hex).app u
    · have hS' : ∀ b ∈ Sw m', Y.Low ≤ b := fun b hb => (S.inB m' hm' b hb).1
      rcases (hu op hop).touch a hb with ⟨_, hw⟩ | ⟨_, hmay⟩ | ⟨e, _⟩
      · exact (exc_wg A hS' hex hw).elim
      · rcases may_exc hmay with he | ⟨hr, _⟩
        · have := exc_apart A S hj hm hm' he hex
          subst this
          have := knows_own hi
          rwa [hg op hop] at this
        · exact (exc_ro A hS' hex hr).elim
      · cases e
  · rcases touch_app ha with ⟨ha, _⟩ | ⟨op, hop, hi, hb⟩
    · exact (h.ro m' hm' i a ha hr hwr).app u
    · rcases (hu op hop).touch a hb with ⟨_, ad, e, hw⟩ | ⟨_, hmay⟩ | ⟨e, _⟩
      · obtain ⟨ad', e', hr'⟩ := hr
        rw [e] at e'
        cases e'
        exact absurd hw hr'.2.2.1
      · rcases may_exc hmay with he | ⟨_, hwf⟩
        · exact (exc_ro A hS he hr).elim
        · rw [hwf] at hwr; cases hwr
      · cases e

/-- What the starter knows of the places that are nobody's. -/
theorem PT.knows0 (A : Y.Ok) (S : Sets Y Sw j B) (h : PT Y Sw j B t) {S0 : List Nat} (h0 : ∀ b ∈ S0, Y.Low ≤ b ∧ ∀ m, m < j → b ∉ Sw m) {i : Nat} {a : Touch} (ha : touchAt t i = some a) (he : Exc Y none S0 a.loc) : Knows t 0 i := by
  have hmem : a.loc.isMemory = true := by obtain ⟨ad, e, _⟩ := he; rw [e]; rfl
  rcases h.known i a ha hmem with hk | ⟨hk | hk, _⟩ | ⟨m, hm, _, _, hmay⟩
  · exact hk
  · exact (exc_sn A (fun b hb => (h0 b hb).1) he hk).elim
  · exact (exc_wg A (fun b hb => (h0 b hb).1) he hk).elim
  · rcases may_exc hmay with hx | ⟨hr, _⟩
    · exact (exc_none A.hC (fun b hb => ⟨(h0 b hb).1, (h0 b hb).2 m hm⟩) he hx).elim
    · exact (exc_ro A (fun b hb => (h0 b hb).1) he hr).elim
theorem PT.knowsRo (A : Y.Ok) (S : Sets Y Sw j B) (h : PT Y Sw j B t) {i : Nat} {a : Touch} (ha : touchAt t i = some a) (hr : RoL Y a.loc) (hw : a.write = true) : Knows t 0 i := by
  have hmem : a.loc.isMemory = true := by obtain ⟨ad, e, _⟩ := hr; rw [e]; rfl
  rcases h.known i a ha hmem with hk | ⟨hk | hk, _⟩ | ⟨m, hm, _, _, hmay⟩
  · exact hk
  · obtain ⟨ad, e, hr⟩ := hr
    obtain ⟨ad', e', hs⟩ := hk
    rw [e] at e'
    cases e'
    exact absurd hs hr.2.2.2
  · obtain ⟨ad, e, hr⟩ := hr
    obtain ⟨ad', e', hs⟩ := hk
    rw [e] at e'
    cases e'
    exact absurd hs hr.2.2.1
  · rcases may_exc hmay with hx | ⟨_, hwf⟩
    · exact (exc_ro A (fun b hb => (S.inB m hm b hb).1) hx hr).elim
    · rw [hwf] at hw; cases hw

/-- THE STARTER's OPERATIONS. -/
theorem PT.app0 (A : Y.Ok) (S : Sets Y Sw j B) (h : PT Y Sw j B t) {S0 : List Nat} (h0 : ∀ b ∈ S0, Y.Low ≤ b ∧ ∀ m, m < j → b ∉ Sw m) (hg : ∀ op ∈ u, op.g = 0) (hu : ∀ op ∈ u, OpOk Y none S0 B op) : PT Y Sw j B (t ++ u) := by
  have hS0 : ∀ b ∈ S0, Y.Low ≤ b := fun b hb => (h0 b hb).1
  refine ⟨fun said => noRace_append (h.clean said) hg fun i a ha op hop b hb hc => ?_, fun i a ha hw => ?_, fun i a ha hmem => ?_, fun m' hm' i a ha hex => ?_, fun m' hm' i a ha hr hwr => ?_, seen_app h.seen fun op hop => (hu op hop).low, h.norel.app fun op hop => (hu op hop).norel,
    over_app h.over fun op hop => .inl (hg op hop)⟩
  · rcases (hu op hop).touch b hb with ⟨hk, hw⟩ | ⟨hk, hmay⟩ | ⟨_, hk, hw⟩
    · have hp := h.quiet i a ha (hc.1 ▸ hw)
      rcases hc.2.2.2 with x | x | ⟨_, _, x⟩
      · exact absurd x hp
      · rw [hk] at x; cases x
      · rw [hk] at x; cases x
    · rcases may_exc hmay with he | ⟨hr, hwf⟩
      · exact h.knows0 A S h0 ha (hc.1 ▸ he)
      · exact h.knowsRo A S ha (hc.1 ▸ hr) (by rcases hc.2.2.1 with x | x; exact x; rw [hwf] at x; cases x)
    · have hp := h.quiet i a ha (hc.1 ▸ hw)
      rcases hc.2.2.2 with x | x | ⟨_, hks, _⟩
      · exact absurd x hp
      · rw [hk] at x; cases x
      · rcases h.known i a ha hc.2.1 with hkn | ⟨_, x⟩ | ⟨_, _, _, x, _⟩
        · exact hkn
        · rw [hks] at x; cases x
        · rw [hks] at x; cases x
  · rcases touch_app ha with ⟨ha, _⟩ | ⟨op, hop, _, hb⟩
    · exact h.quiet i a ha hw
    · rcases (hu op hop).touch a hb with ⟨hk, _⟩ | ⟨_, hmay⟩ | ⟨_, hk, _⟩
      · rw [hk]; simp
      · rcases may_exc hmay with he | ⟨⟨ad, e, hr⟩, _⟩
        · exact (exc_wg A hS0 he hw).elim
        · obtain ⟨ad', e', hw⟩ := hw
          rw [e] at e'
          cases e'
          exact absurd hw hr.2.2.1
      · rw [hk]; simp
  · rcases touch_app ha with ⟨ha, hi⟩ | ⟨op, hop, hi, hb⟩
    · rcases h.known i a ha hmem with hk | hk | ⟨m', hm', hg', hk⟩
      · exact .inl (hk.app u)
      · exact .inr (.inl hk)
      · exact .inr (.inr ⟨m', hm', by rw [g?_old hi]; exact hg', hk⟩)
    · have := knows_own hi
      rw [hg op hop] at this
      exact .inl this
  · rcases touch_app ha with ⟨ha, _⟩ | ⟨op, hop, hi, hb⟩
    · exact (h.own m' hm' i a ha hex).app u
    · have hS' : ∀ b ∈ Sw m', Y.Low ≤ b := fun b hb => (S.inB m' hm' b hb).1
      rcases (hu op hop).touch a hb with ⟨_, hw⟩ | ⟨_, hmay⟩ | ⟨_, _, hw⟩
      · exact (exc_wg A hS' hex hw).elim
      · rcases may_exc hmay with he | ⟨hr, _⟩
        · exact (exc_none A.hC (fun b hb => ⟨(h0 b hb).1, (h0 b hb).2 m' hm'⟩) he hex).elim
        · exact (exc_ro A hS' hex hr).elim
      · exact (exc_wg A hS' hex hw).elim
  · rcases touch_app ha with ⟨ha, _⟩ | ⟨op, hop, hi, hb⟩
    · exact (h.ro m' hm' i a ha hr hwr).app u
    · have hwg : WgL Y a.loc → False := fun ⟨ad, e, hw⟩ => by
        obtain ⟨ad', e', hr'⟩ := hr
        rw [e] at e'
        cases e'
        exact hr'.2.2.1 hw
      rcases (hu op hop).touch a hb with ⟨_, hw⟩ | ⟨_, hmay⟩ | ⟨_, _, hw⟩
      · exact (hwg hw).elim
      · rcases may_exc hmay with he | ⟨_, hwf⟩
        · exact (exc_ro A hS0 he hr).elim
        · rw [hwf] at hwr; cases hwr
      · exact (hwg hw).elim
end
end Go.Proofs.Ytkefnmmpipeppaa.Rg

namespace Go.Proofs.Ytkefnmmpipeppaa.Rg
open Go.Conc Go.ConcN
open Go.ConcR (KK wgBlock WgAt stA smA rd wr mk)
variable [Kept]

section
variable {Y : Lay} {Sw Sw' : Nat → List Nat} {j B B' : Nat} {t u : Trace}
theorem may_mono {r : Option Nat} {S S' : List Nat} (hs : ∀ b ∈ S, b ∈ S') {l : Loc} {w : Bool} (h : May Y r S l w) : May Y r S' l w := by
  obtain ⟨ad, e, h | h⟩ := h
  · exact ⟨ad, e, .inl (hs _ h)⟩
  · exact ⟨ad, e, .inr h⟩
/-- Every touch lies in a block that is there. -/
theorem PT.touch_low (h : PT Y Sw j B t) {i : Nat} {a : Touch} (ha : touchAt t i = some a) {ad : Addr} (e : a.loc = .cell ad) : ad.block < B := by
  obtain ⟨op, hop, hx⟩ := touch_of ha
  have := h.seen op (Array.mem_of_getElem? hop)
  obtain ⟨g, fn, pos, act⟩ := op
  cases act with
  | access ev =>
    simp only [MemAct.touch?, Option.some.injEq] at hx
    subst hx
    simp only at e this
    rw [show (MemAct.access ev).low B = ev.loc.low B from rfl, e] at this
    exact this
  | mark mm => cases mm <;> simp only [MemAct.touch?] at hx <;> first | (cases hx; cases e; exact this) | cases hx
  | _ => cases hx
/-- A block is made: the maker's. -/
theorem PT.grow (h : PT Y Sw j B t) (hB : B ≤ B') (hs : ∀ m, m < j → ∀ b ∈ Sw' m, b ∈ Sw m ∨ B ≤ b) (hs' : ∀ m, m < j → ∀ b ∈ Sw m, b ∈ Sw' m) : PT Y Sw' j B' t := by
  refine ⟨h.clean, h.quiet, fun i a ha hm => ?_, fun m hm i a ha hex => ?_, h.ro, fun op hop => MemAct.low_mono hB (h.seen op hop), h.norel, h.over⟩
  · rcases h.known i a ha hm with hk | hk | ⟨m, hm, h1, h2, h3⟩
    · exact .inl hk
    · exact .inr (.inl hk)
    · exact .inr (.inr ⟨m, hm, h1, h2, may_mono (hs' m hm) h3⟩)
  · obtain ⟨ad, e, hx | hx⟩ := hex
    · rcases hs m hm _ hx with hb | hb
      · exact h.own m hm i a ha ⟨ad, e, .inl hb⟩
      · have := h.touch_low ha e; omega
    · exact h.own m hm i a ha ⟨ad, e, .inr hx⟩
theorem PT.mono (h : PT Y Sw j B t) (hB : B ≤ B') : PT Y Sw j B' t := h.grow hB (fun _ _ _ hb => .inl hb) (fun _ _ _ hb => hb)
/-- An old goroutine only leaves. -/
theorem PT.appMute (h : PT Y Sw j B t) {g : Nat} (hg : ∀ op ∈ u, op.g = g) (hn : ∀ op ∈ u, op.act.touch? = none) (hl : ∀ op ∈ u, op.act.low B) (hr : ∀ op ∈ u, op.act ≠ .mark (.release (stA Y.Wg))) : PT Y Sw j B (t ++ u) := by
  have old : ∀ {i a}, touchAt (t ++ u) i = some a → touchAt t i = some a ∧ i < t.size := fun ha => by
    rcases touch_app ha with x | ⟨op, hop, _, hb⟩
    · exact x
    · rw [hn op hop] at hb; cases hb
  refine ⟨fun said => noRace_append (h.clean said) hg fun i a ha op hop b hb hc => (by rw [hn op hop] at hb; cases hb), fun i a ha => h.quiet i a (old ha).1, fun i a ha hm => ?_, fun m hm i a ha hex => (h.own m hm i a (old ha).1 hex).app u, fun m hm i a ha hr hw => (h.ro m hm i a (old ha).1 hr hw).app u,
    seen_app h.seen hl, h.norel.app hr, over_app h.over fun op hop => .inr (.inr (hn op hop))⟩
  rcases h.known i a (old ha).1 hm with hk | hk | ⟨m, hm, h1, h2⟩
  · exact .inl (hk.app u)
  · exact .inr (.inl hk)
  · exact .inr (.inr ⟨m, hm, by rw [g?_old (old ha).2]; exact h1, h2⟩)
/-- THE go STATEMENT: worker j is started; what was the starter's own is now its own. -/
theorem PT.fork (A : Y.Ok) (S : Sets Y Sw j B) (hj : j < Y.n) (h : PT Y Sw j B t) {S0 : List Nat} (h0 : ∀ b ∈ S0, Y.Low ≤ b ∧ ∀ m, m < j → b ∉ Sw m) (hs : ∀ m, m < j → Sw' m = Sw m) (hsj : Sw' j = S0)
    {x y : MemOp} (hx : x.g = 0 ∧ x.act = .go (Y.K + j)) (hy : y.g = Y.K + j ∧ y.act = .start) (hd0 : Deaf t 0 = 0) (hdj : Deaf t (Y.K + j) = 0) : PT Y Sw' (j + 1) B (t ++ #[x, y]) := by
  have hm2 : ∀ op ∈ #[x, y], op = x ∨ op = y := by intro op hop; simpa using hop
  have hn : ∀ op ∈ #[x, y], op.act.touch? = none := by
    intro op hop
    rcases hm2 op hop with rfl | rfl
    · rw [hx.2]; rfl
    · rw [hy.2]; rfl
  have old : ∀ {i a}, touchAt (t ++ #[x, y]) i = some a → touchAt t i = some a ∧ i < t.size := fun ha => by
    rcases touch_app ha with x | ⟨op, hop, _, hb⟩
    · exact x
    · rw [hn op hop] at hb; cases hb
  refine ⟨fun said => ?_, fun i a ha => h.quiet i a (old ha).1, fun i a ha hm => ?_, fun m hm i a ha hex => ?_, fun m hm i a ha hr hw => ?_, seen_app h.seen fun op hop => ?_, h.norel.app fun op hop => ?_, fun i g hg hne hN => over_app h.over (fun op hop => .inr (.inr (hn op hop))) i g hg hne fun m hm => hN m (by omega)⟩
  · have e : t ++ #[x, y] = (t ++ #[x]) ++ #[y] := by apply Array.ext'; simp
    rw [e]
    refine noRace_append (g := Y.K + j) (noRace_append (g := 0) (h.clean said) (fun op hop => by simp at hop; rw [hop]; exact hx.1) (fun i a _ op hop b hb _ => ?_))
      (fun op hop => by simp at hop; rw [hop]; exact hy.1) (fun i a _ op hop b hb _ => ?_)
    · rw [hn op (by simp at hop ⊢; exact .inl hop)] at hb; cases hb
    · rw [hn op (by simp at hop ⊢; exact .inr hop)] at hb; cases hb
  · rcases h.known i a (old ha).1 hm with hk | hk | ⟨m, hm, h1, h2, h3⟩
    · exact .inl (hk.app _)
    · exact .inr (.inl hk)
    · exact .inr (.inr ⟨m, by omega, by rw [g?_old (old ha).2]; exact h1, h2, by rw [hs m hm]; exact h3⟩)
  · rcases Nat.lt_or_ge m j with hlt | hge
    · rw [hs m hlt] at hex
      exact (h.own m hlt i a (old ha).1 hex).app _
    · obtain rfl : m = j := by omega
      rw [hsj] at hex
      refine fork_knows hx hy hd0 hdj ?_
      obtain ⟨ad, e, hb | hmi⟩ := hex
      · exact h.knows0 A S h0 (old ha).1 ⟨ad, e, .inl hb⟩
      · have hmem : a.loc.isMemory = true := by rw [e]; rfl
        have hexj : Exc Y (some m) [] a.loc := ⟨ad, e, .inr hmi⟩
        rcases h.known i a (old ha).1 hmem with hk | ⟨hk | hk, _⟩ | ⟨m', hm', _, _, hmay⟩
        · exact hk
        · exact (exc_sn A (by simp) hexj hk).elim
        · exact (exc_wg A (by simp) hexj hk).elim
        · rcases may_exc hmay with ⟨ad', e', hb' | hmi'⟩ | ⟨hr, _⟩
          · rw [e] at e'
            cases e'
            obtain ⟨_, _, hc, _⟩ := hmi
            have := (S.inB m' hm' _ hb').1
            have := A.hC
            omega
          · rw [e] at e'
            cases e'
            have := mine_apart A (by omega) (by omega) hmi hmi'
            omega
          · exact (exc_ro A (by simp) hexj hr).elim
  · rcases Nat.lt_or_ge m j with hlt | hge
    · exact (h.ro m hlt i a (old ha).1 hr hw).app _
    · obtain rfl : m = j := by omega
      exact fork_knows hx hy hd0 hdj (h.knowsRo A S (old ha).1 hr hw)
  · rcases hm2 op hop with rfl | rfl
    · rw [hx.2]; trivial
    · rw [hy.2]; trivial
  · rcases hm2 op hop with rfl | rfl
    · rw [hx.2]; simp
    · rw [hy.2]; simp

/-- WHEN THE STARTER HAS SAID 'acquire' BEHIND EVERY WORKER's RELEASE: the trace between two phases. -/
theorem PT.past (h : PT Y Sw j B t) (hd : Deaf t 0 = 0) {q : Nat} (hq : t.act? q = some (.mark (.acquire (stA Y.Wg)))) (hg : t.g? q = some 0) (hh : t.heard q) (all : ∀ m, m < j → ∃ r, RelBy (stA Y.Wg) t (Y.K + m) r ∧ r < q) :
    Past (fun l => SnL Y l ∨ WgL Y l) B t := by
  have edge : ∀ m, m < j → ∀ i, t.g? i = some (Y.K + m) → t.counts i → HappensBefore t i q := by
    intro m hm i hgi hc
    obtain ⟨r, hr, hrq⟩ := all m hm
    have e : HappensBefore t r q := .single (.inr ⟨.marked hrq (.inr hr.act) hq (fun k _ _ => h.norel k), hr.heard, hh⟩)
    have hle : i ≤ r := Nat.le_of_not_lt fun hlt => hr.after i hlt hgi hc
    rcases Nat.lt_or_ge i r with hlt | hge
    · exact .trans (.single (.inl ⟨hlt, _, hgi, hr.g⟩)) e
    · obtain rfl : i = r := by omega
      exact e
  obtain ⟨opq, hopq, hog⟩ := Option.map_eq_some_iff.1 hg
  refine ⟨h.clean, fun i a ha hm => ?_, fun i g hgi hne hc => ?_, hd, h.seen⟩
  · rcases h.known i a ha hm with hk | hk | ⟨m, hm', h1, h2, _⟩
    · exact .inl hk
    · exact .inr hk
    · refine .inl ⟨q, opq, hopq, hog, .inr (edge m hm' i h1 ⟨a, ?_, hm, .inl (by rw [h2]; simp)⟩)⟩
      exact ha
  · by_cases hN : ∃ m, m < j ∧ g = Y.K + m
    · obtain ⟨m, hm, rfl⟩ := hN
      exact ⟨q, hg, edge m hm i hgi hc⟩
    · exact h.over i g hgi hne (fun m hm e => hN ⟨m, hm, e⟩) hc
end
end Go.Proofs.Ytkefnmmpipeppaa.Rg

namespace Go.Proofs.Ytkefnmmpipeppaa.Rg
open Go.Conc Go.ConcN Go.RowKit
open Go.ConcR (KK wgBlock WgAt stA smA rd wr mk Payload Aside2 DC0 Bk g_of_ofEvents)
variable [Kept]

/-- A block of cells, open and not empty. -/
def FC (w : World) (b : Nat) : Prop := ∃ c t, w.heap[b]? = some (.cells c t (0, 0)) ∧ c.size ≠ 0
section
variable (Y : Lay)
def Pay (w : World) : Prop := ∃ cs, w.heap[Y.C]? = some (.cells cs Y.ety) ∧ cs.size = Y.nC
def HasF (m : Nat) (w : World) : Prop := ∀ i, i < 3 → w.cell? ⟨Y.C, Y.rg m + i, none⟩ = some (Y.fin m i)

/-- WHAT A GOROUTINE OF THE CROWD SUFFERS, whose own the blocks of S are. -/
structure RX (r : Option Nat) (S : List Nat) (w w₁ : World) : Prop where
  size : w.heap.size ≤ w₁.heap.size
  os : w₁.os = w.os
  output : w₁.output = w.output
  low : ∀ b, b < Y.Low → b ≠ Y.C → b ≠ Y.Wg → w₁.heap[b]? = w.heap[b]?
  own : ∀ b ∈ S, w₁.heap[b]? = w.heap[b]?
  cells : ∀ o, MineA Y r ⟨Y.C, o, none⟩ → w₁.cell? ⟨Y.C, o, none⟩ = w.cell? ⟨Y.C, o, none⟩
  pay : Pay Y w → Pay Y w₁
  live : WgLive Y.ty Y.Wg w → WgLive Y.ty Y.Wg w₁

/-- What its steps list. -/
def EvX (r : Option Nat) (S : List Nat) (e : Event) : Prop :=
  (∃ ad wr, e = ⟨.cell ad, wr, false⟩ ∧ May Y r S (.cell ad) wr) ∨ (r = none ∧ ∃ ad, ad.block = Y.Wg ∧ (e = mk (.read ad) ∨ e = mk (.write ad)))
/-- WHAT IT DOES, in a step of its own. -/
structure DX (r : Option Nat) (S : List Nat) (w w' : World) (es : Array Event) : Prop where
  size : w'.heap.size = w.heap.size
  os : w'.os = w.os
  output : w'.output = w.output
  block : ∀ b, b ∉ S → b ≠ Y.C → w'.heap[b]? = w.heap[b]?
  cells : ∀ o, ¬ MineA Y r ⟨Y.C, o, none⟩ → w'.cell? ⟨Y.C, o, none⟩ = w.cell? ⟨Y.C, o, none⟩
  pay : Pay Y w → Pay Y w'
  fc : ∀ b ∈ S, FC w b → FC w' b
  evs : ∀ e ∈ es, EvX Y r S e

/-- What holds of the world at every moment. -/
structure WIn (w : World) : Prop where
  size : Y.Low ≤ w.heap.size
  os : w.os = Y.W0.os
  output : w.output = Y.W0.output
  low : ∀ b, b < Y.Low → b ≠ Y.C → b ≠ Y.Wg → w.heap[b]? = Y.W0.heap[b]?
  fresh : ∀ b, Y.Low ≤ b → b < w.heap.size → FC w b
  pay : Pay Y w
  rest : ∀ o, (∀ m, m < Y.n → ¬ MineA Y (some m) ⟨Y.C, o, none⟩) → w.cell? ⟨Y.C, o, none⟩ = Y.W0.cell? ⟨Y.C, o, none⟩
end

section
variable {Y : Lay} {r r' : Option Nat} {S S' : List Nat} {w w₁ w₂ w' : World} {es : Array Event}
theorem RX.refl (w : World) : RX Y r S w w := ⟨Nat.le_refl _, rfl, rfl, fun _ _ _ _ => rfl, fun _ _ => rfl, fun _ _ => rfl, id, id⟩
theorem RX.trans (h : RX Y r S w w₁) (h' : RX Y r S w₁ w₂) : RX Y r S w w₂ :=
  ⟨Nat.le_trans h.size h'.size, h'.os.trans h.os, h'.output.trans h.output, fun b a c d => (h'.low b a c d).trans (h.low b a c d), fun b hb => (h'.own b hb).trans (h.own b hb), fun o ho => (h'.cells o ho).trans (h.cells o ho), h'.pay ∘ h.pay, h'.live ∘ h.live⟩
theorem RX.at (w : World) (d : Nat) : RX Y r S w (w.at d) := ⟨Nat.le_refl _, rfl, rfl, fun _ _ _ _ => rfl, fun _ _ => rfl, fun _ _ => rfl, id, id⟩
theorem DX.refl (h : ∀ e ∈ es, EvX Y r S e) (w : World) : DX Y r S w w es := ⟨rfl, rfl, rfl, fun _ _ _ => rfl, fun _ _ => rfl, id, fun _ _ h => h, h⟩
theorem cell_of_block' {b : Nat} (e : w₁.heap[b]? = w.heap[b]?) (o : Nat) : w₁.cell? ⟨b, o, none⟩ = w.cell? ⟨b, o, none⟩ := by simp [World.cell?, e]
/-- Another's step of its own. -/
theorem RX.of_dx (A : Y.Ok) (h : DX Y r S w w' es) (hS : ∀ b ∈ S, Y.Low ≤ b ∧ b ∉ S') (hr : ∀ ad, MineA Y r' ad → ¬ MineA Y r ad) (hS' : ∀ b ∈ S', Y.Low ≤ b) : RX Y r' S' w w' := by
  have hC := A.hC
  have hW := A.hW
  refine ⟨by rw [h.size]; exact Nat.le_refl _, h.os, h.output, fun b hb hc _ => h.block b (fun hs => by have := (hS b hs).1; omega) hc, fun b hb => h.block b (fun hs => (hS b hs).2 hb) (fun e => by have := hS' b hb; omega), fun o ho => h.cells o (hr _ ho), h.pay, ?_⟩
  rintro ⟨st, sm, hl⟩
  exact ⟨st, sm, hl.of_block (h.block Y.Wg (fun hs => by have := (hS _ hs).1; omega) (Ne.symm A.hCW))⟩
/-- Somebody makes a block. -/
theorem RX.alloc (A : Y.Ok) (hw : Y.Low ≤ w.heap.size) (hS : ∀ b ∈ S, b < w.heap.size) (o : Obj) : RX Y r S w (w.alloc o) := by
  have hC := A.hC
  have hW := A.hW
  have key : ∀ b, b < w.heap.size → (w.alloc o).heap[b]? = w.heap[b]? := fun b hb => Below.heap_alloc _ _ _ hb
  refine ⟨by simp, rfl, rfl, fun b hb _ _ => key b (by omega), fun b hb => key b (hS b hb), fun o _ => cell_of_block' (key _ (by omega)) o, ?_, ?_⟩
  · rintro ⟨cs, h1, h2⟩
    exact ⟨cs, (key _ (by omega)).trans h1, h2⟩
  · rintro ⟨st, sm, hl⟩
    exact ⟨st, sm, hl.of_block (key _ (by omega))⟩
/-- A turn of the group's block. -/
theorem RX.of_wg (A : Y.Ok) (h : Aside Y.Wg w w') (hl : WgLive Y.ty Y.Wg w') (hS : ∀ b ∈ S, Y.Low ≤ b) : RX Y r S w w' := by
  have hW := A.hW
  refine ⟨by rw [h.size]; exact Nat.le_refl _, h.os, h.output, fun b _ _ hb => h.block b hb, fun b hb => h.block b (fun e => by have := hS b hb; omega), fun o _ => cell_of_block' (h.block Y.C A.hCW) o, ?_, fun _ => hl⟩
  rintro ⟨cs, h1, h2⟩
  exact ⟨cs, (h.block Y.C A.hCW).trans h1, h2⟩
/-- The library's workers, on their way out, suffer no more than that. -/
theorem RX.rw [Payload] (A : Y.Ok) (h : RX Y r S w w₁) (m : Nat) : RW Y.ty Y.Wg Y.Cq Y.nq 0 m w w₁ := by
  obtain ⟨h1, h2, h3⟩ := A.hCq
  have e := h.low Y.Cq h1 h2 h3
  exact ⟨fun b hb => by omega, h.live, fun ⟨cs, k1, k2⟩ => ⟨cs, e.trans k1, k2⟩, cell_of_block' e m⟩

theorem WIn.of_dx (A : Y.Ok) (h : WIn Y w) (d : DX Y r S w w' es) (hS : ∀ b ∈ S, Y.Low ≤ b) (hr : ∀ m, r = some m → m < Y.n) : WIn Y w' := by
  refine ⟨by rw [d.size]; exact h.size, d.os.trans h.os, d.output.trans h.output, fun b hb hc hw => (d.block b (fun hs => by have := hS b hs; omega) hc).trans (h.low b hb hc hw), fun b hb hlt => ?_, d.pay h.pay, fun o ho => (d.cells o ?_).trans (h.rest o ho)⟩
  · rw [d.size] at hlt
    by_cases hs : b ∈ S
    · exact d.fc b hs (h.fresh b hb hlt)
    · have hC := A.hC
      obtain ⟨c, t, h1, h2⟩ := h.fresh b hb hlt
      exact ⟨c, t, (d.block b hs (by omega)).trans h1, h2⟩
  · rintro ⟨m, rfl, hm⟩
    exact ho m (hr m rfl) ⟨m, rfl, hm⟩
theorem WIn.alloc (A : Y.Ok) (h : WIn Y w) {c : Array Value} {t : TypeId} (hc : c.size ≠ 0) : WIn Y (w.alloc (.cells c t)) := by
  have hC := A.hC
  have hl := h.size
  have key : ∀ b, b < w.heap.size → (w.alloc (.cells c t)).heap[b]? = w.heap[b]? := fun b hb => Below.heap_alloc _ _ _ hb
  refine ⟨by simp; omega, h.os, h.output, fun b hb h1 h2 => (key b (by omega)).trans (h.low b hb h1 h2), fun b hb hlt => ?_, ?_, fun o ho => (cell_of_block' (key _ (by omega)) o).trans (h.rest o ho)⟩
  · simp only [World.size_alloc] at hlt
    rcases Nat.lt_or_ge b w.heap.size with hx | hx
    · obtain ⟨c', t', h1, h2⟩ := h.fresh b hb hx
      exact ⟨c', t', (key b hx).trans h1, h2⟩
    · obtain rfl : b = w.heap.size := by omega
      exact ⟨c, t, heap_alloc_new w _, hc⟩
  · obtain ⟨cs, h1, h2⟩ := h.pay
    exact ⟨cs, (key _ (by omega)).trans h1, h2⟩
theorem WIn.of_wg (A : Y.Ok) (h : WIn Y w) (a : Aside Y.Wg w w') : WIn Y w' := by
  have hW := A.hW
  refine ⟨by rw [a.size]; exact h.size, a.os.trans h.os, a.output.trans h.output, fun b hb h1 h2 => (a.block b h2).trans (h.low b hb h1 h2), fun b hb hlt => ?_, ?_, fun o ho => (cell_of_block' (a.block Y.C A.hCW) o).trans (h.rest o ho)⟩
  · obtain ⟨c, t, h1, h2⟩ := h.fresh b hb (by rw [← a.size]; exact hlt)
    exact ⟨c, t, (a.block b (by omega)).trans h1, h2⟩
  · obtain ⟨cs, h1, h2⟩ := h.pay
    exact ⟨cs, (a.block Y.C A.hCW).trans h1, h2⟩
theorem WIn.at (h : WIn Y w) (d : Nat) : WIn Y (w.at d) := ⟨h.size, h.os, h.output, h.low, h.fresh, h.pay, h.rest⟩

/-! ### what the steps list is well -/
theorem opOk_evX (A : Y.Ok) {B : Nat} (hB : Y.Low ≤ B) (hS : ∀ b ∈ S, b < B) {e : Event} (h : EvX Y r S e) (g : Nat) (fn : FuncId) (pos : String) : OpOk Y r S B { g, fn, pos, act := .ofEvent e } := by
  have hC := A.hC
  have hW := A.hW
  rcases h with ⟨ad, wr, rfl, hm⟩ | ⟨rfl, ad, hb, rfl | rfl⟩
  · refine ⟨fun x hx => ?_, ?_, by simp [ofEvent_cell0]⟩
    · simp only [ofEvent_cell0, MemAct.touch?, Option.some.injEq] at hx
      subst hx
      exact .inr (.inl ⟨rfl, hm⟩)
    · obtain ⟨ad', e, h1 | ⟨_, _, h1, _⟩ | ⟨_, h1⟩⟩ := hm
      · cases e; exact hS _ h1
      · cases e; show ad.block < B; omega
      · cases e; exact Nat.lt_of_lt_of_le h1.1 hB
  · refine ⟨fun x hx => ?_, ?_, by simp [mk, MemAct.ofEvent]⟩
    · simp only [mk, MemAct.ofEvent, MemAct.touch?, Option.some.injEq] at hx
      subst hx
      exact .inr (.inr ⟨rfl, rfl, ad, rfl, hb⟩)
    · show ad.block < B; omega
  · refine ⟨fun x hx => ?_, ?_, by simp [mk, MemAct.ofEvent]⟩
    · simp only [mk, MemAct.ofEvent, MemAct.touch?, Option.some.injEq] at hx
      subst hx
      exact .inr (.inr ⟨rfl, rfl, ad, rfl, hb⟩)
    · show ad.block < B; omega
theorem ops_evX (A : Y.Ok) {B : Nat} (hB : Y.Low ≤ B) (hS : ∀ b ∈ S, b < B) {g : Nat} {fn : FuncId} {pos : String} (h : ∀ e ∈ es, EvX Y r S e) : ∀ op ∈ MemOp.ofEvents g fn pos es, OpOk Y r S B op := by
  intro op hop
  obtain ⟨e, he, rfl⟩ := Go.Conc.mem_ofEvents hop
  exact opOk_evX A hB hS (h e he) g fn pos
theorem ops_bk (A : Y.Ok) {B : Nat} (hB : Y.Low ≤ B) {g : Nat} {fn : FuncId} {pos : String} (h : ∀ e ∈ es, Bk Y.Wg e) : ∀ op ∈ MemOp.ofEvents g fn pos es, OpOk Y r S B op := by
  have hW := A.hW
  intro op hop
  obtain ⟨e, he, rfl⟩ := Go.Conc.mem_ofEvents hop
  rcases h e he with h1 | h1 | ⟨a, wr, rfl, hb⟩
  · simp only [Go.ConcR.ofEvent_loc_mark h1]
    exact ⟨fun x hx => (by cases hx), trivial, by simp⟩
  · simp only [Go.ConcR.ofEvent_loc_mark h1]
    exact ⟨fun x hx => (by cases hx), trivial, by simp⟩
  · simp only [ofEvent_cell0]
    refine ⟨fun x hx => ?_, ?_, by simp⟩
    · simp only [MemAct.touch?, Option.some.injEq] at hx
      subst hx
      exact .inl ⟨rfl, a, rfl, hb⟩
    · show a.block < B; omega
theorem ops_mark (A : Y.Ok) {B : Nat} (hB : Y.Low ≤ B) {g : Nat} {fn : FuncId} {pos : String} {m : Mark} (hm : m = .releaseMerge (stA Y.Wg) ∨ m = .acquire (stA Y.Wg)) : ∀ op ∈ MemOp.ofEvents g fn pos #[mk m], OpOk Y r S B op := by
  have hW := A.hW
  intro op hop
  obtain ⟨e, he, rfl⟩ := Go.Conc.mem_ofEvents hop
  simp at he
  subst he
  rcases hm with rfl | rfl
  · exact ⟨fun x hx => (by cases hx), by show Y.Wg < B; omega, by simp [mk, MemAct.ofEvent]⟩
  · exact ⟨fun x hx => (by cases hx), by show Y.Wg < B; omega, by simp [mk, MemAct.ofEvent]⟩
theorem evX_still (h : ∀ e ∈ es, EvX Y r S e) : ∀ e ∈ es, e.loc ≠ .mark .disable ∧ e.loc ≠ .mark .enable := by
  intro e he
  rcases h e he with ⟨ad, wr, rfl, _⟩ | ⟨_, ad, _, rfl | rfl⟩ <;> simp [mk]
end
end Go.Proofs.Ytkefnmmpipeppaa.Rg

namespace Go.Proofs.Ytkefnmmpipeppaa.Rg
open Go.Conc Go.ConcN Go.RowKit
open Go.ConcR (KK wgBlock WgAt stA smA rd wr mk Payload Aside2 DC0 Bk g_of_ofEvents again_blocked)
variable [Kept]

section
variable [Payload] (P : Program) (Y : Lay)
/-- A WORKER's FRONT: r blocks are still to be made; then the library's way out. -/
def FStop (m : Nat) : Nat → List Nat → Goroutine → World → Prop
  | 0, _, g, w => HasF Y m w ∧ AtR0 P Y.ty Y.Wg Y.Cq Y.nq 0 (m + 1) (Y.vq m) g w
  | r + 1, S, g, w => g.status = .running ∧ ∃ g' c ety, c.size ≠ 0 ∧ stepG P false g w = .go g' (w.alloc (.cells c ety)) #[] ∧
      ∃ q, Goes P false (RX Y (some m) (w.heap.size :: S)) (DX Y (some m) (w.heap.size :: S)) (FStop m r (w.heap.size :: S)) q g' (w.alloc (.cells c ety))
/-- stage, blocks to be made, own blocks, fuel, deafness -/
inductive WS (m : Nat) : Nat → Nat → List Nat → Nat → Nat → Goroutine → World → Prop
  | front {r q : Nat} {S : List Nat} {g : Goroutine} {w : World} : Goes P false (RX Y (some m) S) (DX Y (some m) S) (FStop P Y m r S) q g w → WS m 7 r S q 0 g w
  | lib {s q d : Nat} {S : List Nat} {g : Goroutine} {w : World} : s ≤ 6 → WSit P Y.ty Y.Wg Y.Cq Y.nq (fun _ _ => False) (fun _ _ => False) 0 (m + 1) (Y.vq m) s q d g w → WS m s 0 S q d g w

/-! ### the starter -/
abbrev G0 (S : List Nat) (Stop : Goroutine → World → Prop) : Nat → Goroutine → World → Prop := Goes P true (RX Y none S) (DX Y none S) Stop
section
variable (AnchW Fin : Goroutine → World → Prop)
def SAcq (g : Goroutine) (w : World) : Prop :=
  g.status = .running ∧ ∃ g', stepG P true g w = .go g' w #[mk (.acquire (stA Y.Wg))] ∧ Fin g' w
def SKe (g : Goroutine) (w : World) : Prop :=
  g.status = .running ∧ ∃ g', stepG P true g w = .go g' w #[mk .enable] ∧ ∃ q, G0 P Y [] (SAcq P Y Fin) q g' w
def SW4 (g : Goroutine) (w : World) : Prop :=
  g.status = .running ∧ (WgAt Y.ty Y.Wg w 0 0 → ∃ g', stepG P true g w = .go g' w #[rd (stA Y.Wg)] ∧ ∃ q, G0 P Y [] (SKe P Y Fin) q g' w)
def SW3 (g : Goroutine) (w : World) : Prop :=
  g.status = .running ∧ g.offers = none ∧
    ((∃ st, WgAt Y.ty Y.Wg w st 0) → stepG P true g w = .go { g with status := .blocked } w #[]) ∧
    (WgAt Y.ty Y.Wg w 0 1 → ∃ g', stepG P true g w = .go g' (w.setCell (smA Y.Wg) (.int .u32 0)) (semEvents (smA Y.Wg)) ∧ ∃ q, G0 P Y [] (SW4 P Y Fin) q g' (w.setCell (smA Y.Wg) (.int .u32 0)))
def SW2 (vs : Nat) (g : Goroutine) (w : World) : Prop :=
  g.status = .running ∧ ∀ v : Nat, v < 2147483648 → WgAt Y.ty Y.Wg w (v * KK) 0 →
    (v = vs → ∃ g', stepG P true g w = .go g' (w.setCell (stA Y.Wg) (.int .u64 (v * KK + 1))) #[rd (stA Y.Wg), wr (stA Y.Wg)] ∧ ∃ q, G0 P Y [] (SW3 P Y Fin) q g' (w.setCell (stA Y.Wg) (.int .u64 (v * KK + 1)))) ∧
    (v ≠ vs → ∃ g', stepG P true g w = .go g' w #[rd (stA Y.Wg)] ∧ ∃ q, G0 P Y [] AnchW q g' w)
def SW1 (g : Goroutine) (w : World) : Prop :=
  g.status = .running ∧ ∀ v : Nat, v < 2147483648 → WgAt Y.ty Y.Wg w (v * KK) 0 → ∃ g', stepG P true g w = .go g' w #[rd (stA Y.Wg)] ∧
    (v = 0 → ∃ q, G0 P Y [] (SKe P Y Fin) q g' w) ∧ (v ≠ 0 → ∃ q, G0 P Y [] (SW2 P Y AnchW Fin v) q g' w)
def SKd (g : Goroutine) (w : World) : Prop :=
  g.status = .running ∧ ∃ g', stepG P true g w = .go g' w #[mk .disable] ∧ ∃ q, G0 P Y [] AnchW q g' w
end
section
variable (j b : Nat) (Next : Goroutine → World → Prop)
def SGo (g : Goroutine) (w : World) : Prop :=
  g.status = .running ∧ ∃ g' child, stepG P true g w = .spawn g' child w #[] ∧ child.status = .running ∧ ((∀ i, i < 3 → w.cell? ⟨Y.C, Y.rg j + i, none⟩ = Y.W0.cell? ⟨Y.C, Y.rg j + i, none⟩) → Pay Y w → ∃ q, Goes P false (RX Y (some j) [b]) (DX Y (some j) [b]) (FStop P Y j 2 [b]) q child w) ∧ Next g' w
def SKe1 (g : Goroutine) (w : World) : Prop :=
  g.status = .running ∧ ∃ g', stepG P true g w = .go g' w #[mk .enable] ∧ ∃ q, G0 P Y [b] (SGo P Y j b Next) q g' w
def SA1 (g : Goroutine) (w : World) : Prop :=
  g.status = .running ∧ ∀ v : Nat, v < 2147483647 → WgAt Y.ty Y.Wg w (v * KK) 0 →
    ∃ g', stepG P true g w = .go g' (w.setCell (stA Y.Wg) (.int .u64 ((v + 1) * KK))) #[rd (stA Y.Wg), wr (stA Y.Wg)] ∧
      ∃ q, G0 P Y [b] (SKe1 P Y j b Next) q g' (w.setCell (stA Y.Wg) (.int .u64 ((v + 1) * KK)))
def SKd1 (g : Goroutine) (w : World) : Prop :=
  g.status = .running ∧ ∃ g', stepG P true g w = .go g' w #[mk .disable] ∧ ∃ q, G0 P Y [b] (SA1 P Y j b Next) q g' w
end
def SAl (j : Nat) (Next : Goroutine → World → Prop) (g : Goroutine) (w : World) : Prop :=
  g.status = .running ∧ ∃ g' c ety, c.size ≠ 0 ∧ stepG P true g w = .go g' (w.alloc (.cells c ety)) #[] ∧ ∃ q, G0 P Y [w.heap.size] (SKd1 P Y j w.heap.size Next) q g' (w.alloc (.cells c ety))
def SSp (Last : Goroutine → World → Prop) : Nat → Goroutine → World → Prop
  | 0, g, w => Last g w
  | r + 1, g, w => ∃ q, G0 P Y [] (SAl P Y (Y.n - (r + 1)) (SSp Last r)) q g w
def SLast (AnchW : Goroutine → World → Prop) (g : Goroutine) (w : World) : Prop := ∃ q, G0 P Y [] (SKd P Y AnchW) q g w
section
variable (AnchW Fin : Goroutine → World → Prop)
/-- tag, how many are started, its own blocks, fuel, deafness -/
inductive SSit : CTag → Nat → List Nat → Nat → Nat → Goroutine → World → Prop
  | sal {r q : Nat} {g : Goroutine} {w : World} : r < Y.n → G0 P Y [] (SAl P Y (Y.n - (r + 1)) (SSp P Y (SLast P Y AnchW) r)) q g w → SSit (.sp r 6) (Y.n - (r + 1)) [] q 0 g w
  | skd {r q b : Nat} {g : Goroutine} {w : World} : r < Y.n → G0 P Y [b] (SKd1 P Y (Y.n - (r + 1)) b (SSp P Y (SLast P Y AnchW) r)) q g w → SSit (.sp r 5) (Y.n - (r + 1)) [b] q 0 g w
  | sa1 {r q b : Nat} {g : Goroutine} {w : World} : r < Y.n → G0 P Y [b] (SA1 P Y (Y.n - (r + 1)) b (SSp P Y (SLast P Y AnchW) r)) q g w → SSit (.sp r 4) (Y.n - (r + 1)) [b] q 1 g w
  | ske {r q b : Nat} {g : Goroutine} {w : World} : r < Y.n → G0 P Y [b] (SKe1 P Y (Y.n - (r + 1)) b (SSp P Y (SLast P Y AnchW) r)) q g w → SSit (.sp r 3) (Y.n - (r + 1)) [b] q 1 g w
  | sgo {r q b : Nat} {g : Goroutine} {w : World} : r < Y.n → G0 P Y [b] (SGo P Y (Y.n - (r + 1)) b (SSp P Y (SLast P Y AnchW) r)) q g w → SSit (.sp r 2) (Y.n - (r + 1)) [b] q 0 g w
  | kd {q : Nat} {g : Goroutine} {w : World} : G0 P Y [] (SKd P Y AnchW) q g w → SSit .kd Y.n [] q 0 g w
  | anch {q : Nat} {g : Goroutine} {w : World} : G0 P Y [] AnchW q g w → SSit .anch Y.n [] q 1 g w
  | w1 {q : Nat} {g : Goroutine} {w : World} : G0 P Y [] (SW1 P Y AnchW Fin) q g w → SSit .w1 Y.n [] q 1 g w
  | w2 {vs q : Nat} {g : Goroutine} {w : World} : G0 P Y [] (SW2 P Y AnchW Fin vs) q g w → SSit (.w2 vs) Y.n [] q 1 g w
  | w3 {q : Nat} {g : Goroutine} {w : World} : G0 P Y [] (SW3 P Y Fin) q g w → SSit .w3 Y.n [] (q + 1) 1 g w
  | blk {g : Goroutine} {w : World} : (∀ w₁, RX Y none [] w w₁ → SW3 P Y Fin g w₁) → SSit .blk Y.n [] 0 1 { g with status := .blocked } w
  | w4 {q : Nat} {g : Goroutine} {w : World} : G0 P Y [] (SW4 P Y Fin) q g w → SSit .w4 Y.n [] q 1 g w
  | ke {q : Nat} {g : Goroutine} {w : World} : G0 P Y [] (SKe P Y Fin) q g w → SSit .ke Y.n [] q 1 g w
  | acq {q : Nat} {g : Goroutine} {w : World} : G0 P Y [] (SAcq P Y Fin) q g w → SSit .acq Y.n [] q 0 g w
end
end

section
variable [Payload] {P : Program} {Y : Lay} {m s r q d : Nat} {S : List Nat} {g : Goroutine} {w w₁ : World}
theorem FStop.running (h : FStop P Y m r S g w) : g.status = .running := by
  cases r with
  | zero => exact h.2.1
  | succ r => exact h.1
theorem WS.rely (A : Y.Ok) (h : WS P Y m s r S q d g w) (hr : RX Y (some m) S w w₁) : WS P Y m s r S q d g w₁ := by
  cases h with
  | front h => exact .front (Goes.rely (fun _ _ _ a b => a.trans b) h hr)
  | lib hs h => exact .lib hs (h.rely (hr.rw A m))
theorem WS.running_of (h : WS P Y m s r S q d g w) (hs : s ≠ 1) : g.status = .running := by
  cases h with
  | front h => exact Goes.running (fun _ _ x => x.running) w (.refl w) h
  | lib _ h => exact h.running_of hs
theorem WS.status (h : WS P Y m s r S q d g w) : g.status = .running ∨ g.status = .finished := by
  cases h with
  | front h => exact .inl (Goes.running (fun _ _ x => x.running) w (.refl w) h)
  | lib _ h => exact h.status
theorem WS.woken (h : WS P Y m s r S q d g w) (a a' : Goroutine) (w' : World) : woken P a a' w' g = g := by
  unfold Go.Conc.woken
  split
  · exact again_running _ h.status
  · rfl
theorem WS.quits (h : WS P Y m s r S q d g w) (hs : s = 1) : QuitsD P q d g := by
  cases h with
  | front h => exact absurd hs (by decide)
  | lib _ h => exact h.quits hs
end

section
variable [Payload] {P : Program} {Y : Lay} {AnchW Fin : Goroutine → World → Prop} {tag : CTag} {j f d : Nat} {S0 : List Nat} {a : Goroutine} {w w' : World}
theorem SSit.rely (h : SSit P Y AnchW Fin tag j S0 f d a w) (hr : RX Y none S0 w w') : SSit P Y AnchW Fin tag j S0 f d a w' := by
  have tr : ∀ S x y z, RX Y none S x y → RX Y none S y z → RX Y none S x z := fun _ _ _ _ h1 h2 => h1.trans h2
  cases h with
  | sal hn h => exact .sal hn (Goes.rely (tr _) h hr)
  | skd hn h => exact .skd hn (Goes.rely (tr _) h hr)
  | sa1 hn h => exact .sa1 hn (Goes.rely (tr _) h hr)
  | ske hn h => exact .ske hn (Goes.rely (tr _) h hr)
  | sgo hn h => exact .sgo hn (Goes.rely (tr _) h hr)
  | kd h => exact .kd (Goes.rely (tr _) h hr)
  | anch h => exact .anch (Goes.rely (tr _) h hr)
  | w1 h => exact .w1 (Goes.rely (tr _) h hr)
  | w2 h => exact .w2 (Goes.rely (tr _) h hr)
  | w3 h => exact .w3 (Goes.rely (tr _) h hr)
  | blk h => exact .blk (fun w₂ h₂ => h w₂ (hr.trans h₂))
  | w4 h => exact .w4 (Goes.rely (tr _) h hr)
  | ke h => exact .ke (Goes.rely (tr _) h hr)
  | acq h => exact .acq (Goes.rely (tr _) h hr)
theorem SSit.status (hAr : ∀ g w, AnchW g w → g.status = .running) (h : SSit P Y AnchW Fin tag j S0 f d a w) : (a.status = .running ∧ tag ≠ .blk) ∨ (a.status = .blocked ∧ tag = .blk) := by
  cases h with
  | sal _ h => exact .inl ⟨Goes.running (fun _ _ x => x.1) w (.refl w) h, by simp⟩
  | skd _ h => exact .inl ⟨Goes.running (fun _ _ x => x.1) w (.refl w) h, by simp⟩
  | sa1 _ h => exact .inl ⟨Goes.running (fun _ _ x => x.1) w (.refl w) h, by simp⟩
  | ske _ h => exact .inl ⟨Goes.running (fun _ _ x => x.1) w (.refl w) h, by simp⟩
  | sgo _ h => exact .inl ⟨Goes.running (fun _ _ x => x.1) w (.refl w) h, by simp⟩
  | kd h => exact .inl ⟨Goes.running (fun _ _ x => x.1) w (.refl w) h, by simp⟩
  | anch h => exact .inl ⟨Goes.running hAr w (.refl w) h, by simp⟩
  | w1 h => exact .inl ⟨Goes.running (fun _ _ x => x.1) w (.refl w) h, by simp⟩
  | w2 h => exact .inl ⟨Goes.running (fun _ _ x => x.1) w (.refl w) h, by simp⟩
  | w3 h => exact .inl ⟨Goes.running (fun _ _ x => x.1) w (.refl w) h, by simp⟩
  | blk h => exact .inr ⟨rfl, rfl⟩
  | w4 h => exact .inl ⟨Goes.running (fun _ _ x => x.1) w (.refl w) h, by simp⟩
  | ke h => exact .inl ⟨Goes.running (fun _ _ x => x.1) w (.refl w) h, by simp⟩
  | acq h => exact .inl ⟨Goes.running (fun _ _ x => x.1) w (.refl w) h, by simp⟩
theorem SSit.bound (h : SSit P Y AnchW Fin tag j S0 f d a w) : j + pend tag ≤ Y.n := by
  cases h <;> simp only [pend] <;> (try simp) <;> omega
theorem SSit.not_ret (h : SSit P Y AnchW Fin tag j S0 f d a w) : tag ≠ .ret := by
  cases h <;> simp
/-- Under another's step. -/
theorem SSit.wokenBy (hAr : ∀ g w, AnchW g w → g.status = .running) (h : SSit P Y AnchW Fin tag j S0 f d a w) (hr : RX Y none S0 w w') (g g' : Goroutine) :
    ∃ tag' f', SSit P Y AnchW Fin tag' j S0 f' d (woken P g g' w' a) w' ∧ f' ≤ f + 1 ∧ (tag' = tag ∨ (tag = .blk ∧ tag' = .w3)) ∧ (mayWake P g = true → g'.status = .running → tag' ≠ .blk) := by
  have h' := h.rely hr
  unfold Go.Conc.woken
  split
  · rcases h'.status hAr with ⟨hs, hne⟩ | ⟨_, rfl⟩
    · exact ⟨tag, f, by rw [again_running _ (.inl hs)]; exact h', by omega, .inl rfl, fun _ _ => hne⟩
    · cases h' with
      | blk hb =>
        rename_i g0
        have h3 := hb w' (.refl w')
        exact ⟨.w3, 0 + 1, by rw [again_blocked h3.1 h3.2.1]; exact .w3 (Goes.stop hb), by omega, .inr ⟨rfl, rfl⟩, fun _ _ => by simp⟩
  · rename_i hc
    exact ⟨tag, f, h', by omega, .inl rfl, fun h1 h2 => absurd (by simp [h1, h2]) hc⟩
end
end Go.Proofs.Ytkefnmmpipeppaa.Rg

namespace Go.Proofs.Ytkefnmmpipeppaa.Rg
open Go.Conc Go.ConcN Go.RowKit
open Go.ConcR (KK wgBlock WgAt stA smA rd wr mk Payload Aside2 DC0 Bk g_of_ofEvents)
variable [Kept]

theorem upd_self {α : Type} (f : Nat → α) (i : Nat) : upd f i (f i) = f := by
  funext a
  by_cases h : a = i
  · subst h; rw [upd_same]
  · rw [upd_ne f _ h]
theorem ofEvents_nil (g : Nat) (fn : FuncId) (pos : String) : MemOp.ofEvents g fn pos #[] = #[] := by rw [ofEvents_eq]; simp
theorem g_ofEvents {g : Nat} {fn : FuncId} {pos : String} {es : Array Event} : ∀ op ∈ MemOp.ofEvents g fn pos es, op.g = g := fun op hop => by obtain ⟨e, _, rfl⟩ := Go.Conc.mem_ofEvents hop; rfl

section
variable [Payload] (P : Program) (Y : Lay)
structure Crew (j : Nat) (gs : Array Goroutine) (w : World) (t : Trace) (D : Nat → WD) (Rm : Nat → Nat) (Sw : Nat → List Nat) (S0 : List Nat) (d0 : Nat) (Q : Nat → Nat) : Prop where
  size : gs.size = Y.K + j
  jn : j ≤ Y.n
  old : ∀ i, 0 < i → i < Y.K → ∃ g, gs[i]? = some g ∧ QuitsD P (Q i) (Deaf t i) g
  wk : ∀ m, m < j → ∃ g, gs[Y.K + m]? = some g ∧ WS P Y m (D m).stage (Rm m) (Sw m) (D m).fuel (D m).deaf g w
  pt : PT Y Sw j w.heap.size t
  sets : Sets Y Sw j w.heap.size
  s0 : ∀ b ∈ S0, (Y.Low ≤ b ∧ b < w.heap.size) ∧ ∀ m, m < j → b ∉ Sw m
  win : WIn Y w
  deaf0 : Deaf t 0 = d0
  deafW : ∀ m, m < j → Deaf t (Y.K + m) = (D m).deaf
  above : ∀ i, gs.size ≤ i → Deaf t i = 0
  rel : ∀ m, m < j → (D m).stage ≤ 6 → ∃ r, RelBy (stA Y.Wg) t (Y.K + m) r
  has : ∀ m, m < j → (D m).stage ≤ 6 → HasF Y m w
  unst : ∀ m, j ≤ m → m < Y.n → ∀ i, i < 3 → w.cell? ⟨Y.C, Y.rg m + i, none⟩ = Y.W0.cell? ⟨Y.C, Y.rg m + i, none⟩
end

section
variable [Payload] {P : Program} {Y : Lay} {j : Nat} {gs : Array Goroutine} {w w' : World} {t : Trace} {D : Nat → WD} {Rm : Nat → Nat} {Sw : Nat → List Nat} {S0 : List Nat} {d0 : Nat} {Q : Nat → Nat}

theorem Crew.at (A : Y.Ok) (h : Crew P Y j gs w t D Rm Sw S0 d0 Q) (d : Nat) : Crew P Y j gs (w.at d) t D Rm Sw S0 d0 Q :=
  ⟨h.size, h.jn, h.old, fun m hm => let ⟨g, hg, hs⟩ := h.wk m hm; ⟨g, hg, hs.rely A (RX.at w d)⟩, h.pt, h.sets, h.s0, h.win.at d, h.deaf0, h.deafW, h.above, h.rel, h.has, h.unst⟩
omit [Payload] in
theorem HasF.of_rx (A : Y.Ok) {m : Nat} {S : List Nat} (h : HasF Y m w) (r : RX Y (some m) S w w') : HasF Y m w' := fun i hi =>
  (r.cells (Y.rg m + i) ⟨m, rfl, rfl, by simp, by simp; omega⟩).trans (h i hi)
omit [Payload] in
theorem un_rx {m : Nat} {S : List Nat} (r : RX Y (some m) S w w') (i : Nat) (hi : i < 3) : w'.cell? ⟨Y.C, Y.rg m + i, none⟩ = w.cell? ⟨Y.C, Y.rg m + i, none⟩ := r.cells (Y.rg m + i) ⟨m, rfl, rfl, by simp, by simp; omega⟩

/-- A STEP OF WORKER m's. -/
theorem Crew.stepW (A : Y.Ok) (h : Crew P Y j gs w t D Rm Sw S0 d0 Q) {m : Nat} (hm : m < j) {g g' : Goroutine} {fn : FuncId} {pos : String} {es : Array Event} {s' q' dd' r' : Nat} {S' : List Nat}
    (hrx : ∀ m', m' < j → m' ≠ m → RX Y (some m') (Sw m') w w') (hun : ∀ m', j ≤ m' → m' < Y.n → RX Y (some m') [] w w')
    (hs' : WS P Y m s' r' S' q' dd' g' w')
    (hpt : PT Y (upd Sw m S') j w'.heap.size (t ++ MemOp.ofEvents (Y.K + m) fn pos es)) (hsets : Sets Y (upd Sw m S') j w'.heap.size)
    (hs0 : ∀ b ∈ S0, (Y.Low ≤ b ∧ b < w'.heap.size) ∧ ∀ m', m' < j → b ∉ upd Sw m S' m') (hwin : WIn Y w')
    (hdeaf : deafBehind (D m).deaf es = dd')
    (hrel : s' ≤ 6 → ∃ r, RelBy (stA Y.Wg) (t ++ MemOp.ofEvents (Y.K + m) fn pos es) (Y.K + m) r)
    (hhas : s' ≤ 6 → HasF Y m w') :
    Crew P Y j ((gs.map (woken P g g' w')).setIfInBounds (Y.K + m) g') w' (t ++ MemOp.ofEvents (Y.K + m) fn pos es) (upd D m ⟨s', q', dd'⟩) (upd Rm m r') (upd Sw m S') S0 d0 Q := by
  have hK := A.hK
  refine ⟨by simp [h.size], h.jn, fun i h0 hi => ?_, fun m' hm' => ?_, hpt, hsets, hs0, hwin, by rw [Deaf_other t (by omega) _ g_ofEvents, h.deaf0], fun m' hm' => ?_, fun i hi => ?_, fun m' hm' hst => ?_, fun m' hm' hst => ?_, fun m' h1 h2 i hi => (un_rx (hun m' h1 h2) i hi).trans (h.unst m' h1 h2 i hi)⟩
  · obtain ⟨x, hx, hq⟩ := h.old i h0 hi
    exact ⟨x, by rw [get_map_set _ _ _ _ (by omega), hx, Option.map_some, woken_quitsD hq], by rw [Deaf_other t (by omega) _ g_ofEvents]; exact hq⟩
  · by_cases e : m' = m
    · subst e
      refine ⟨g', get_map_set_same _ _ _ (by rw [h.size]; omega), ?_⟩
      rw [upd_same, upd_same, upd_same]; exact hs'
    · obtain ⟨x, hx, hsx⟩ := h.wk m' hm'
      refine ⟨x, by rw [get_map_set _ _ _ _ (by omega), hx, Option.map_some, hsx.woken], ?_⟩
      rw [upd_ne D _ e, upd_ne Rm _ e, upd_ne Sw _ e]
      exact hsx.rely A (hrx m' hm' e)
  · by_cases e : m' = m
    · subst e; rw [Deaf_own, h.deafW m' hm', upd_same]; exact hdeaf
    · rw [Deaf_other t (by omega) _ g_ofEvents, h.deafW m' hm', upd_ne D _ e]
  · simp at hi
    rw [Deaf_other t (by have := h.size; omega) _ g_ofEvents, h.above i hi]
  · by_cases e : m' = m
    · subst e; rw [upd_same] at hst; exact hrel hst
    · rw [upd_ne D _ e] at hst
      obtain ⟨r, hr⟩ := h.rel m' hm' hst
      exact ⟨r, hr.appOther g_ofEvents (by omega)⟩
  · by_cases e : m' = m
    · subst e; rw [upd_same] at hst; exact hhas hst
    · rw [upd_ne D _ e] at hst
      exact (h.has m' hm' hst).of_rx A (hrx m' hm' e)

/-- A STEP OF THE STARTER's. -/
theorem Crew.step0 (A : Y.Ok) (h : Crew P Y j gs w t D Rm Sw S0 d0 Q) {a a' : Goroutine} {fn : FuncId} {pos : String} {es : Array Event} {S0' : List Nat}
    (hrx : ∀ m', m' < j → RX Y (some m') (Sw m') w w') (hun : ∀ m', j ≤ m' → m' < Y.n → RX Y (some m') [] w w')
    (hpt : PT Y Sw j w'.heap.size (t ++ MemOp.ofEvents 0 fn pos es)) (hsz : w.heap.size ≤ w'.heap.size)
    (hs0 : ∀ b ∈ S0', (Y.Low ≤ b ∧ b < w'.heap.size) ∧ ∀ m', m' < j → b ∉ Sw m') (hwin : WIn Y w') :
    Crew P Y j ((gs.map (woken P a a' w')).setIfInBounds 0 a') w' (t ++ MemOp.ofEvents 0 fn pos es) D Rm Sw S0' (deafBehind d0 es) Q := by
  have hK := A.hK
  refine ⟨by simp [h.size], h.jn, fun i h0 hi => ?_, fun m' hm' => ?_, hpt, ⟨fun m' hm' b hb => ⟨(h.sets.inB m' hm' b hb).1, by have := (h.sets.inB m' hm' b hb).2; omega⟩, h.sets.apart⟩, hs0, hwin, by rw [Deaf_own, h.deaf0], fun m' hm' => ?_, fun i hi => ?_, fun m' hm' hst => ?_, fun m' hm' hst => (h.has m' hm' hst).of_rx A (hrx m' hm'), fun m' h1 h2 i hi => (un_rx (hun m' h1 h2) i hi).trans (h.unst m' h1 h2 i hi)⟩
  · obtain ⟨x, hx, hq⟩ := h.old i h0 hi
    exact ⟨x, by rw [get_map_set _ _ _ _ (by omega), hx, Option.map_some, woken_quitsD hq], by rw [Deaf_other t (by omega) _ g_ofEvents]; exact hq⟩
  · obtain ⟨x, hx, hsx⟩ := h.wk m' hm'
    exact ⟨x, by rw [get_map_set _ _ _ _ (by omega), hx, Option.map_some, hsx.woken], hsx.rely A (hrx m' hm')⟩
  · rw [Deaf_other t (by omega) _ g_ofEvents, h.deafW m' hm']
  · simp at hi
    rw [Deaf_other t (by have := h.size; omega) _ g_ofEvents, h.above i hi]
  · obtain ⟨r, hr⟩ := h.rel m' hm' hst
    exact ⟨r, hr.appOther g_ofEvents (by omega)⟩

/-- A STEP OF ONE THAT ONLY LEAVES, of a phase past. -/
theorem Crew.stepO (A : Y.Ok) (h : Crew P Y j gs w t D Rm Sw S0 d0 Q) {i : Nat} (h0 : 0 < i) (hi : i < Y.K) {g g' : Goroutine} {fn : FuncId} {pos : String} {es : Array Event} {q' : Nat}
    (hmu : ∀ e ∈ es, Event.mute e = true) (hq : QuitsD P q' (deafBehind (Deaf t i) es) g') :
    Crew P Y j ((gs.map (woken P g g' w)).setIfInBounds i g') w (t ++ MemOp.ofEvents i fn pos es) D Rm Sw S0 d0 (upd Q i q') := by
  have hmt : ∀ op ∈ MemOp.ofEvents i fn pos es, op.act.touch? = none ∧ op.act.low w.heap.size ∧ op.act ≠ .mark (.release (stA Y.Wg)) := by
    intro op hop
    obtain ⟨e, he, rfl⟩ := Go.Conc.mem_ofEvents hop
    rcases Go.ConcR.bk_of_mute (Wg := Y.Wg) (hmu e he) with h1 | h1 | ⟨a, wr, rfl, _⟩
    · simp only [Go.ConcR.ofEvent_loc_mark h1]; exact ⟨rfl, trivial, by simp⟩
    · simp only [Go.ConcR.ofEvent_loc_mark h1]; exact ⟨rfl, trivial, by simp⟩
    · have := hmu _ he; simp [Event.mute] at this
  refine ⟨by simp [h.size], h.jn, fun i' h0' hi' => ?_, fun m' hm' => ?_, h.pt.appMute g_ofEvents (fun op hop => (hmt op hop).1) (fun op hop => (hmt op hop).2.1) (fun op hop => (hmt op hop).2.2), h.sets, h.s0, h.win, by rw [Deaf_other t (by omega) _ g_ofEvents, h.deaf0],
    fun m' hm' => by rw [Deaf_other t (by omega) _ g_ofEvents, h.deafW m' hm'], fun i' hi' => ?_, fun m' hm' hst => ?_, h.has, h.unst⟩
  · by_cases e : i' = i
    · subst e
      exact ⟨g', get_map_set_same _ _ _ (by rw [h.size]; omega), by rw [upd_same, Deaf_own]; exact hq⟩
    · obtain ⟨x, hx, hqx⟩ := h.old i' h0' hi'
      exact ⟨x, by rw [get_map_set _ _ _ _ (by omega), hx, Option.map_some, woken_quitsD hqx], by rw [upd_ne Q _ e, Deaf_other t (by omega) _ g_ofEvents]; exact hqx⟩
  · obtain ⟨x, hx, hsx⟩ := h.wk m' hm'
    exact ⟨x, by rw [get_map_set _ _ _ _ (by omega), hx, Option.map_some, hsx.woken], hsx⟩
  · simp at hi'
    rw [Deaf_other t (by have := h.size; omega) _ g_ofEvents, h.above i' hi']
  · obtain ⟨r, hr⟩ := h.rel m' hm' hst
    exact ⟨r, hr.appOther g_ofEvents (by omega)⟩

/-- THE go STATEMENT. -/
theorem Crew.spawn (A : Y.Ok) (h : Crew P Y j gs w t D Rm Sw S0 0 Q) (hj : j < Y.n) {a' child : Goroutine} {x y : MemOp} {q : Nat} (hx : x.g = 0 ∧ x.act = .go (Y.K + j)) (hy : y.g = Y.K + j ∧ y.act = .start)
    (hc : Goes P false (RX Y (some j) S0) (DX Y (some j) S0) (FStop P Y j 2 S0) q child w) :
    Crew P Y (j + 1) ((gs.setIfInBounds 0 a').push child) w (t ++ #[x, y]) (upd D j ⟨7, q, 0⟩) (upd Rm j 2) (upd Sw j S0) [] 0 Q := by
  have hK := A.hK
  have hm2 : ∀ op ∈ #[x, y], op = x ∨ op = y := by intro op hop; simpa using hop
  have hst : ∀ op ∈ #[x, y], op.act ≠ .mark .disable ∧ op.act ≠ .mark .enable := by
    intro op hop
    rcases hm2 op hop with rfl | rfl
    · rw [hx.2]; exact ⟨by simp, by simp⟩
    · rw [hy.2]; exact ⟨by simp, by simp⟩
  have hdj : Deaf t (Y.K + j) = 0 := h.above _ (by rw [h.size]; exact Nat.le_refl _)
  have old : ∀ i, i < Y.K + j → 0 < i → ((gs.setIfInBounds 0 a').push child)[i]? = gs[i]? := fun i hi h0 => by
    rw [Array.getElem?_push_lt (by simp [h.size]; omega), ← Array.getElem?_eq_getElem, Array.getElem?_setIfInBounds_ne (by omega)]
  refine ⟨by simp [h.size]; omega, hj, fun i h0 hi => ?_, fun m hm => ?_, ?_, ⟨fun m hm b hb => ?_, fun m m' hm hm' hne b hb => ?_⟩, by simp, h.win, by rw [Deaf_still t 0 _ hst, h.deaf0], fun m hm => ?_, fun i hi => ?_, fun m hm hs => ?_, fun m hm hs => ?_, fun m h1 h2 => h.unst m (by omega) h2⟩
  · obtain ⟨g, hg, hq⟩ := h.old i h0 hi
    exact ⟨g, by rw [old i (by omega) h0]; exact hg, by rw [Deaf_still t _ _ hst]; exact hq⟩
  · rcases Nat.lt_or_ge m j with hlt | hge
    · obtain ⟨g, hg, hs⟩ := h.wk m hlt
      refine ⟨g, by rw [old _ (by omega) (by omega)]; exact hg, ?_⟩
      rw [upd_ne D _ (by omega), upd_ne Rm _ (by omega), upd_ne Sw _ (by omega)]; exact hs
    · obtain rfl : m = j := by omega
      refine ⟨child, ?_, by rw [upd_same, upd_same, upd_same]; exact .front hc⟩
      rw [show Y.K + m = (gs.setIfInBounds 0 a').size by simp [h.size], Array.getElem?_push_size]
  · exact h.pt.fork A h.sets hj (fun b hb => ⟨(h.s0 b hb).1.1, (h.s0 b hb).2⟩) (fun m hm => upd_ne Sw _ (by omega)) (upd_same _ _ _) hx hy h.deaf0 hdj
  · by_cases e : m = j
    · subst e; rw [upd_same] at hb; exact (h.s0 b hb).1
    · rw [upd_ne Sw _ e] at hb; exact h.sets.inB m (by omega) b hb
  · by_cases e : m = j
    · subst e
      rw [upd_same] at hb
      rw [upd_ne Sw _ (by omega)]
      exact (h.s0 b hb).2 m' (by omega)
    · rw [upd_ne Sw _ e] at hb
      by_cases e' : m' = j
      · subst e'
        rw [upd_same]
        exact fun hx => (h.s0 b hx).2 m (by omega) hb
      · rw [upd_ne Sw _ e']
        exact h.sets.apart m m' (by omega) (by omega) hne b hb
  · rw [Deaf_still t _ _ hst]
    by_cases e : m = j
    · subst e; rw [upd_same]; exact hdj
    · rw [upd_ne D _ e]; exact h.deafW m (by omega)
  · rw [Deaf_still t _ _ hst]
    exact h.above i (by simp at hi; omega)
  · by_cases e : m = j
    · subst e; rw [upd_same] at hs; simp at hs
    · rw [upd_ne D _ e] at hs
      obtain ⟨r, hr⟩ := h.rel m (by omega) hs
      refine ⟨r, hr.appNot fun op hop => ?_⟩
      rcases hm2 op hop with rfl | rfl
      · rw [hx.1]; omega
      · rw [hy.1]; omega
  · by_cases e : m = j
    · subst e; rw [upd_same] at hs; simp at hs
    · rw [upd_ne D _ e] at hs
      exact h.has m (by omega) hs
end
end Go.Proofs.Ytkefnmmpipeppaa.Rg
