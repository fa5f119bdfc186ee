/-
  Theory of walks beside goroutines that only leave (part 2).
-/
import Derived.Test.YtddnapbdhjifiaaRg1
set_option linter.unusedSimpArgs false
set_option linter.unusedVariables false
set_option linter.unusedSectionVars false
namespace Go.Proofs.Ytddnapbdhjifiaa.Rg
open Go.Conc
variable [Kept]
section
variable {P : Program} {α β : Type} {ok : α → Prop}

theorem Sims.alloc (t : TypeId) : Sims P (fun _ => True) (Instr.alloc t true (.tuple #[])) := by
  unfold Instr.alloc
  repeat' (first
    | with_reducible exact Sims.pure trivial
    | with_reducible exact Sims.stuck _
    | with_reducible exact Sims.goPanic _
    | with_reducible exact Sims.runtimePanic _
    | with_reducible exact Sims.boundsPanic _ _ _ _
    | with_reducible exact Sims.unsupported _ (by simp)
    | with_reducible exact (Sims.underlying _).mono (fun _ _ => trivial)
    | with_reducible exact (Sims.sizeOf _).mono (fun _ _ => trivial)
    | with_reducible exact (Sims.typeInfo _).mono (fun _ _ => trivial)
    | with_reducible exact (Sims.asIntOf _).mono (fun _ _ => trivial)
    | with_reducible exact (Sims.asBool _).mono (fun _ _ => trivial)
    | with_reducible exact Sims.program.mono (fun _ _ => trivial)
    | with_reducible exact Sims.asInt _
    | with_reducible exact Sims.asAddr _
    | with_reducible exact Sims.sureAddr _
    | with_reducible exact Sims.zeroValue _
    | with_reducible exact Sims.isAgg _
    | with_reducible exact Sims.part _ _ _
    | with_reducible exact Sims.newVar _ _
    | with_reducible exact Sims.newRow _ _
    | with_reducible exact Sims.loadVar _ _
    | with_reducible exact Sims.storeVar _ _ _
    | with_reducible exact Sims.loadCells _ _
    | with_reducible exact Sims.storeCells _ _ _
    | with_reducible exact Sims.choose _
    | with_reducible exact Sims.askRoom _
    | with_reducible exact Sims.noRoom
    | with_reducible exact Sims.numberAt _
    | with_reducible exact Sims.viewAt _
    | (with_reducible refine Sims.then (ok := fun _ => True) ?_ (fun _ => ?_))
    | (with_reducible refine Sims.ite (fun _ => ?_) (fun _ => ?_))
    | split
    | dsimp only)
theorem Sims.box (t : TypeId) (v : Value) : Sims P (fun _ => True) (Instr.box t v) := by
  unfold Instr.box
  repeat' (first
    | with_reducible exact Sims.pure trivial
    | with_reducible exact Sims.stuck _
    | with_reducible exact Sims.goPanic _
    | with_reducible exact Sims.runtimePanic _
    | with_reducible exact Sims.boundsPanic _ _ _ _
    | with_reducible exact Sims.unsupported _ (by simp)
    | with_reducible exact (Sims.underlying _).mono (fun _ _ => trivial)
    | with_reducible exact (Sims.sizeOf _).mono (fun _ _ => trivial)
    | with_reducible exact (Sims.typeInfo _).mono (fun _ _ => trivial)
    | with_reducible exact (Sims.asIntOf _).mono (fun _ _ => trivial)
    | with_reducible exact (Sims.asBool _).mono (fun _ _ => trivial)
    | with_reducible exact Sims.program.mono (fun _ _ => trivial)
    | with_reducible exact Sims.asInt _
    | with_reducible exact Sims.asAddr _
    | with_reducible exact Sims.sureAddr _
    | with_reducible exact Sims.zeroValue _
    | with_reducible exact Sims.isAgg _
    | with_reducible exact Sims.part _ _ _
    | with_reducible exact Sims.newVar _ _
    | with_reducible exact Sims.newRow _ _
    | with_reducible exact Sims.loadVar _ _
    | with_reducible exact Sims.storeVar _ _ _
    | with_reducible exact Sims.loadCells _ _
    | with_reducible exact Sims.storeCells _ _ _
    | with_reducible exact Sims.choose _
    | with_reducible exact Sims.askRoom _
    | with_reducible exact Sims.noRoom
    | with_reducible exact Sims.numberAt _
    | with_reducible exact Sims.viewAt _
    | (with_reducible refine Sims.then (ok := fun _ => True) ?_ (fun _ => ?_))
    | (with_reducible refine Sims.ite (fun _ => ?_) (fun _ => ?_))
    | split
    | dsimp only)
theorem Sims.listMapM {f : α → Sem β} (h : ∀ a, Sims P (fun _ => True) (f a)) : ∀ l : List α, Sims P (fun _ => True) (l.mapM f)
  | [] => by rw [List.mapM_nil]; exact Sims.pure trivial
  | a :: l => by rw [List.mapM_cons]; exact (h a).then fun _ => (Sims.listMapM h l).then fun _ => Sims.pure trivial
theorem Sims.mapM {f : α → Sem β} (h : ∀ a, Sims P (fun _ => True) (f a)) (xs : Array α) : Sims P (fun _ => True) (xs.mapM f) := by
  rw [Array.mapM_eq_mapM_toList]
  exact (Sims.listMapM h _).map fun _ _ => trivial
theorem Sims.build (t : TypeId) (parts : Array (Nat × Value)) : Sims P (fun _ => True) (Instr.build t parts) := by
  unfold Instr.build
  repeat' (first
    | with_reducible exact Sims.pure trivial
    | with_reducible exact Sims.stuck _
    | with_reducible exact Sims.goPanic _
    | with_reducible exact Sims.runtimePanic _
    | with_reducible exact Sims.boundsPanic _ _ _ _
    | with_reducible exact Sims.unsupported _ (by simp)
    | with_reducible exact (Sims.underlying _).mono (fun _ _ => trivial)
    | with_reducible exact (Sims.sizeOf _).mono (fun _ _ => trivial)
    | with_reducible exact (Sims.typeInfo _).mono (fun _ _ => trivial)
    | with_reducible exact (Sims.asIntOf _).mono (fun _ _ => trivial)
    | with_reducible exact (Sims.asBool _).mono (fun _ _ => trivial)
    | with_reducible exact Sims.program.mono (fun _ _ => trivial)
    | with_reducible exact Sims.asInt _
    | with_reducible exact Sims.asAddr _
    | with_reducible exact Sims.sureAddr _
    | with_reducible exact Sims.zeroValue _
    | with_reducible exact Sims.isAgg _
    | with_reducible exact Sims.part _ _ _
    | with_reducible exact Sims.newVar _ _
    | with_reducible exact Sims.newRow _ _
    | with_reducible exact Sims.loadVar _ _
    | with_reducible exact Sims.storeVar _ _ _
    | with_reducible exact Sims.loadCells _ _
    | with_reducible exact Sims.storeCells _ _ _
    | with_reducible exact Sims.choose _
    | with_reducible exact Sims.askRoom _
    | with_reducible exact Sims.noRoom
    | with_reducible exact Sims.numberAt _
    | with_reducible exact Sims.viewAt _
    | with_reducible refine Sims.mapM (fun _ => ?_) _
    | (with_reducible refine Sims.then (ok := fun _ => True) ?_ (fun _ => ?_))
    | (with_reducible refine Sims.ite (fun _ => ?_) (fun _ => ?_))
    | split
    | dsimp only)
theorem Sims.buildSlice (t : TypeId) (n : Nat) (parts : Array (Nat × Value)) : Sims P (fun _ => True) (Instr.buildSlice t n parts) := by
  unfold Instr.buildSlice
  repeat' (first
    | with_reducible exact Sims.pure trivial
    | with_reducible exact Sims.stuck _
    | with_reducible exact Sims.goPanic _
    | with_reducible exact Sims.runtimePanic _
    | with_reducible exact Sims.boundsPanic _ _ _ _
    | with_reducible exact Sims.unsupported _ (by simp)
    | with_reducible exact (Sims.underlying _).mono (fun _ _ => trivial)
    | with_reducible exact (Sims.sizeOf _).mono (fun _ _ => trivial)
    | with_reducible exact (Sims.typeInfo _).mono (fun _ _ => trivial)
    | with_reducible exact (Sims.asIntOf _).mono (fun _ _ => trivial)
    | with_reducible exact (Sims.asBool _).mono (fun _ _ => trivial)
    | with_reducible exact Sims.program.mono (fun _ _ => trivial)
    | with_reducible exact Sims.asInt _
    | with_reducible exact Sims.asAddr _
    | with_reducible exact Sims.sureAddr _
    | with_reducible exact Sims.zeroValue _
    | with_reducible exact Sims.isAgg _
    | with_reducible exact Sims.part _ _ _
    | with_reducible exact Sims.newVar _ _
    | with_reducible exact Sims.newRow _ _
    | with_reducible exact Sims.loadVar _ _
    | with_reducible exact Sims.storeVar _ _ _
    | with_reducible exact Sims.loadCells _ _
    | with_reducible exact Sims.storeCells _ _ _
    | with_reducible exact Sims.choose _
    | with_reducible exact Sims.askRoom _
    | with_reducible exact Sims.noRoom
    | with_reducible exact Sims.numberAt _
    | with_reducible exact Sims.viewAt _
    | (with_reducible refine Sims.then (ok := fun _ => True) ?_ (fun _ => ?_))
    | (with_reducible refine Sims.ite (fun _ => ?_) (fun _ => ?_))
    | split
    | dsimp only)
theorem Sims.loadAt (t : TypeId) (v : Value) : Sims P (fun _ => True) (Instr.loadAt t v) := by
  unfold Instr.loadAt
  repeat' (first
    | with_reducible exact Sims.pure trivial
    | with_reducible exact Sims.stuck _
    | with_reducible exact Sims.goPanic _
    | with_reducible exact Sims.runtimePanic _
    | with_reducible exact Sims.boundsPanic _ _ _ _
    | with_reducible exact Sims.unsupported _ (by simp)
    | with_reducible exact (Sims.underlying _).mono (fun _ _ => trivial)
    | with_reducible exact (Sims.sizeOf _).mono (fun _ _ => trivial)
    | with_reducible exact (Sims.typeInfo _).mono (fun _ _ => trivial)
    | with_reducible exact (Sims.asIntOf _).mono (fun _ _ => trivial)
    | with_reducible exact (Sims.asBool _).mono (fun _ _ => trivial)
    | with_reducible exact Sims.program.mono (fun _ _ => trivial)
    | with_reducible exact Sims.asInt _
    | with_reducible exact Sims.asAddr _
    | with_reducible exact Sims.sureAddr _
    | with_reducible exact Sims.zeroValue _
    | with_reducible exact Sims.isAgg _
    | with_reducible exact Sims.part _ _ _
    | with_reducible exact Sims.newVar _ _
    | with_reducible exact Sims.newRow _ _
    | with_reducible exact Sims.loadVar _ _
    | with_reducible exact Sims.storeVar _ _ _
    | with_reducible exact Sims.loadCells _ _
    | with_reducible exact Sims.storeCells _ _ _
    | with_reducible exact Sims.choose _
    | with_reducible exact Sims.askRoom _
    | with_reducible exact Sims.noRoom
    | with_reducible exact Sims.numberAt _
    | with_reducible exact Sims.viewAt _
    | (with_reducible refine Sims.then (ok := fun _ => True) ?_ (fun _ => ?_))
    | (with_reducible refine Sims.ite (fun _ => ?_) (fun _ => ?_))
    | split
    | dsimp only)
theorem Sims.storeAt (t : TypeId) (v x : Value) : Sims P (fun _ => True) (Instr.storeAt t v x) := by
  unfold Instr.storeAt
  repeat' (first
    | with_reducible exact Sims.pure trivial
    | with_reducible exact Sims.stuck _
    | with_reducible exact Sims.goPanic _
    | with_reducible exact Sims.runtimePanic _
    | with_reducible exact Sims.boundsPanic _ _ _ _
    | with_reducible exact Sims.unsupported _ (by simp)
    | with_reducible exact (Sims.underlying _).mono (fun _ _ => trivial)
    | with_reducible exact (Sims.sizeOf _).mono (fun _ _ => trivial)
    | with_reducible exact (Sims.typeInfo _).mono (fun _ _ => trivial)
    | with_reducible exact (Sims.asIntOf _).mono (fun _ _ => trivial)
    | with_reducible exact (Sims.asBool _).mono (fun _ _ => trivial)
    | with_reducible exact Sims.program.mono (fun _ _ => trivial)
    | with_reducible exact Sims.asInt _
    | with_reducible exact Sims.asAddr _
    | with_reducible exact Sims.sureAddr _
    | with_reducible exact Sims.zeroValue _
    | with_reducible exact Sims.isAgg _
    | with_reducible exact Sims.part _ _ _
    | with_reducible exact Sims.newVar _ _
    | with_reducible exact Sims.newRow _ _
    | with_reducible exact Sims.loadVar _ _
    | with_reducible exact Sims.storeVar _ _ _
    | with_reducible exact Sims.loadCells _ _
    | with_reducible exact Sims.storeCells _ _ _
    | with_reducible exact Sims.choose _
    | with_reducible exact Sims.askRoom _
    | with_reducible exact Sims.noRoom
    | with_reducible exact Sims.numberAt _
    | with_reducible exact Sims.viewAt _
    | (with_reducible refine Sims.then (ok := fun _ => True) ?_ (fun _ => ?_))
    | (with_reducible refine Sims.ite (fun _ => ?_) (fun _ => ?_))
    | split
    | dsimp only)

/-- The field takes room. -/
def roomyField (P : Program) (s : TypeId) (i : Nat) : Bool :=
  match P.underlying s with
  | some (.struct fs) => match fs[i]? with
    | some f => match P.info? f.type with
      | some t => t.size != 0
      | none => false
    | none => false
  | _ => false
theorem Sims.fieldAt (s : TypeId) (v : Value) (i : Nat) (h : roomyField P s i = true) : Sims P (fun _ => True) (Instr.fieldAt s v i) := by
  unfold Instr.fieldAt
  refine (Sims.underlying s).bind fun d hd => ?_
  unfold roomyField at h
  rw [hd] at h
  split
  case h_2 => exact Sims.stuck _
  rename_i fs
  simp only at h
  split
  case h_2 => exact Sims.stuck _
  rename_i f hf
  rw [hf] at h
  simp only at h
  refine (Sims.sureAddr v).then fun a => ?_
  unfold fieldPlace
  refine Sims.then (ok := fun _ => True) ?_ fun _ => Sims.pure trivial
  refine (Sims.sizeOf _).bind fun n hn => ?_
  obtain ⟨t, ht, rfl⟩ := hn
  rw [ht] at h
  simp only [bne_iff_ne] at h
  rw [if_neg h]
  exact Sims.pure trivial
theorem Sims.indexAt (t : TypeId) (x i : Value) : Sims P (fun _ => True) (Instr.indexAt t x i) := by
  unfold Instr.indexAt
  repeat' (first
    | with_reducible exact Sims.pure trivial
    | with_reducible exact Sims.stuck _
    | with_reducible exact Sims.goPanic _
    | with_reducible exact Sims.runtimePanic _
    | with_reducible exact Sims.boundsPanic _ _ _ _
    | with_reducible exact Sims.unsupported _ (by simp)
    | with_reducible exact (Sims.underlying _).mono (fun _ _ => trivial)
    | with_reducible exact (Sims.sizeOf _).mono (fun _ _ => trivial)
    | with_reducible exact (Sims.typeInfo _).mono (fun _ _ => trivial)
    | with_reducible exact (Sims.asIntOf _).mono (fun _ _ => trivial)
    | with_reducible exact (Sims.asBool _).mono (fun _ _ => trivial)
    | with_reducible exact Sims.program.mono (fun _ _ => trivial)
    | with_reducible exact Sims.asInt _
    | with_reducible exact Sims.asAddr _
    | with_reducible exact Sims.sureAddr _
    | with_reducible exact Sims.zeroValue _
    | with_reducible exact Sims.isAgg _
    | with_reducible exact Sims.part _ _ _
    | with_reducible exact Sims.newVar _ _
    | with_reducible exact Sims.newRow _ _
    | with_reducible exact Sims.loadVar _ _
    | with_reducible exact Sims.storeVar _ _ _
    | with_reducible exact Sims.loadCells _ _
    | with_reducible exact Sims.storeCells _ _ _
    | with_reducible exact Sims.choose _
    | with_reducible exact Sims.askRoom _
    | with_reducible exact Sims.noRoom
    | with_reducible exact Sims.numberAt _
    | with_reducible exact Sims.viewAt _
    | (with_reducible refine Sims.then (ok := fun _ => True) ?_ (fun _ => ?_))
    | (with_reducible refine Sims.ite (fun _ => ?_) (fun _ => ?_))
    | split
    | dsimp only)
theorem Sims.sliceBound (x : Value) (y : Nat) (c : BoundsCode) : Sims P (fun _ => True) (Instr.sliceBound x y c) := by
  unfold Instr.sliceBound
  repeat' (first
    | with_reducible exact Sims.pure trivial
    | with_reducible exact Sims.stuck _
    | with_reducible exact Sims.goPanic _
    | with_reducible exact Sims.runtimePanic _
    | with_reducible exact Sims.boundsPanic _ _ _ _
    | with_reducible exact Sims.unsupported _ (by simp)
    | with_reducible exact (Sims.underlying _).mono (fun _ _ => trivial)
    | with_reducible exact (Sims.sizeOf _).mono (fun _ _ => trivial)
    | with_reducible exact (Sims.typeInfo _).mono (fun _ _ => trivial)
    | with_reducible exact (Sims.asIntOf _).mono (fun _ _ => trivial)
    | with_reducible exact (Sims.asBool _).mono (fun _ _ => trivial)
    | with_reducible exact Sims.program.mono (fun _ _ => trivial)
    | with_reducible exact Sims.asInt _
    | with_reducible exact Sims.asAddr _
    | with_reducible exact Sims.sureAddr _
    | with_reducible exact Sims.zeroValue _
    | with_reducible exact Sims.isAgg _
    | with_reducible exact Sims.part _ _ _
    | with_reducible exact Sims.newVar _ _
    | with_reducible exact Sims.newRow _ _
    | with_reducible exact Sims.loadVar _ _
    | with_reducible exact Sims.storeVar _ _ _
    | with_reducible exact Sims.loadCells _ _
    | with_reducible exact Sims.storeCells _ _ _
    | with_reducible exact Sims.choose _
    | with_reducible exact Sims.askRoom _
    | with_reducible exact Sims.noRoom
    | with_reducible exact Sims.numberAt _
    | with_reducible exact Sims.viewAt _
    | (with_reducible refine Sims.then (ok := fun _ => True) ?_ (fun _ => ?_))
    | (with_reducible refine Sims.ite (fun _ => ?_) (fun _ => ?_))
    | split
    | dsimp only)
theorem Sims.sliceBounds (s : Bool) (n c : Nat) (l h m : Option Value) : Sims P (fun _ => True) (Instr.sliceBounds s n c l h m) := by
  unfold Instr.sliceBounds
  repeat' (first
    | with_reducible exact Sims.pure trivial
    | with_reducible exact Sims.stuck _
    | with_reducible exact Sims.goPanic _
    | with_reducible exact Sims.runtimePanic _
    | with_reducible exact Sims.boundsPanic _ _ _ _
    | with_reducible exact Sims.unsupported _ (by simp)
    | with_reducible exact (Sims.underlying _).mono (fun _ _ => trivial)
    | with_reducible exact (Sims.sizeOf _).mono (fun _ _ => trivial)
    | with_reducible exact (Sims.typeInfo _).mono (fun _ _ => trivial)
    | with_reducible exact (Sims.asIntOf _).mono (fun _ _ => trivial)
    | with_reducible exact (Sims.asBool _).mono (fun _ _ => trivial)
    | with_reducible exact Sims.program.mono (fun _ _ => trivial)
    | with_reducible exact Sims.asInt _
    | with_reducible exact Sims.asAddr _
    | with_reducible exact Sims.sureAddr _
    | with_reducible exact Sims.zeroValue _
    | with_reducible exact Sims.isAgg _
    | with_reducible exact Sims.part _ _ _
    | with_reducible exact Sims.newVar _ _
    | with_reducible exact Sims.newRow _ _
    | with_reducible exact Sims.loadVar _ _
    | with_reducible exact Sims.storeVar _ _ _
    | with_reducible exact Sims.loadCells _ _
    | with_reducible exact Sims.storeCells _ _ _
    | with_reducible exact Sims.choose _
    | with_reducible exact Sims.askRoom _
    | with_reducible exact Sims.noRoom
    | with_reducible exact Sims.numberAt _
    | with_reducible exact Sims.viewAt _
    | with_reducible exact Sims.sliceBound _ _ _
    | (with_reducible refine Sims.then (ok := fun _ => True) ?_ (fun _ => ?_))
    | (with_reducible refine Sims.ite (fun _ => ?_) (fun _ => ?_))
    | split
    | dsimp only)
theorem Sims.slice (t : TypeId) (x : Value) (l h m : Option Value) : Sims P (fun _ => True) (Instr.slice t x l h m) := by
  unfold Instr.slice
  repeat' (first
    | with_reducible exact Sims.pure trivial
    | with_reducible exact Sims.stuck _
    | with_reducible exact Sims.goPanic _
    | with_reducible exact Sims.runtimePanic _
    | with_reducible exact Sims.boundsPanic _ _ _ _
    | with_reducible exact Sims.unsupported _ (by simp)
    | with_reducible exact (Sims.underlying _).mono (fun _ _ => trivial)
    | with_reducible exact (Sims.sizeOf _).mono (fun _ _ => trivial)
    | with_reducible exact (Sims.typeInfo _).mono (fun _ _ => trivial)
    | with_reducible exact (Sims.asIntOf _).mono (fun _ _ => trivial)
    | with_reducible exact (Sims.asBool _).mono (fun _ _ => trivial)
    | with_reducible exact Sims.program.mono (fun _ _ => trivial)
    | with_reducible exact Sims.asInt _
    | with_reducible exact Sims.asAddr _
    | with_reducible exact Sims.sureAddr _
    | with_reducible exact Sims.zeroValue _
    | with_reducible exact Sims.isAgg _
    | with_reducible exact Sims.part _ _ _
    | with_reducible exact Sims.newVar _ _
    | with_reducible exact Sims.newRow _ _
    | with_reducible exact Sims.loadVar _ _
    | with_reducible exact Sims.storeVar _ _ _
    | with_reducible exact Sims.loadCells _ _
    | with_reducible exact Sims.storeCells _ _ _
    | with_reducible exact Sims.choose _
    | with_reducible exact Sims.askRoom _
    | with_reducible exact Sims.noRoom
    | with_reducible exact Sims.numberAt _
    | with_reducible exact Sims.viewAt _
    | with_reducible exact Sims.sliceBounds _ _ _ _ _ _
    | (with_reducible refine Sims.then (ok := fun _ => True) ?_ (fun _ => ?_))
    | (with_reducible refine Sims.ite (fun _ => ?_) (fun _ => ?_))
    | split
    | dsimp only)
theorem Sims.sliceAt (t : TypeId) (x : Value) (l h m : Option Value) : Sims P (fun _ => True) (Instr.sliceAt t x l h m) := by
  unfold Instr.sliceAt
  repeat' (first
    | with_reducible exact Sims.pure trivial
    | with_reducible exact Sims.stuck _
    | with_reducible exact Sims.goPanic _
    | with_reducible exact Sims.runtimePanic _
    | with_reducible exact Sims.boundsPanic _ _ _ _
    | with_reducible exact Sims.unsupported _ (by simp)
    | with_reducible exact (Sims.underlying _).mono (fun _ _ => trivial)
    | with_reducible exact (Sims.sizeOf _).mono (fun _ _ => trivial)
    | with_reducible exact (Sims.typeInfo _).mono (fun _ _ => trivial)
    | with_reducible exact (Sims.asIntOf _).mono (fun _ _ => trivial)
    | with_reducible exact (Sims.asBool _).mono (fun _ _ => trivial)
    | with_reducible exact Sims.program.mono (fun _ _ => trivial)
    | with_reducible exact Sims.asInt _
    | with_reducible exact Sims.asAddr _
    | with_reducible exact Sims.sureAddr _
    | with_reducible exact Sims.zeroValue _
    | with_reducible exact Sims.isAgg _
    | with_reducible exact Sims.part _ _ _
    | with_reducible exact Sims.newVar _ _
    | with_reducible exact Sims.newRow _ _
    | with_reducible exact Sims.loadVar _ _
    | with_reducible exact Sims.storeVar _ _ _
    | with_reducible exact Sims.loadCells _ _
    | with_reducible exact Sims.storeCells _ _ _
    | with_reducible exact Sims.choose _
    | with_reducible exact Sims.askRoom _
    | with_reducible exact Sims.noRoom
    | with_reducible exact Sims.numberAt _
    | with_reducible exact Sims.viewAt _
    | with_reducible exact Sims.sliceBounds _ _ _ _ _ _
    | with_reducible exact Sims.slice _ _ _ _ _
    | (with_reducible refine Sims.then (ok := fun _ => True) ?_ (fun _ => ?_))
    | (with_reducible refine Sims.ite (fun _ => ?_) (fun _ => ?_))
    | split
    | dsimp only)
theorem Sims.makeSlice (t : TypeId) (l c : Value) : Sims P (fun _ => True) (Instr.makeSlice t l c) := by
  unfold Instr.makeSlice
  repeat' (first
    | with_reducible exact Sims.pure trivial
    | with_reducible exact Sims.stuck _
    | with_reducible exact Sims.goPanic _
    | with_reducible exact Sims.runtimePanic _
    | with_reducible exact Sims.boundsPanic _ _ _ _
    | with_reducible exact Sims.unsupported _ (by simp)
    | with_reducible exact (Sims.underlying _).mono (fun _ _ => trivial)
    | with_reducible exact (Sims.sizeOf _).mono (fun _ _ => trivial)
    | with_reducible exact (Sims.typeInfo _).mono (fun _ _ => trivial)
    | with_reducible exact (Sims.asIntOf _).mono (fun _ _ => trivial)
    | with_reducible exact (Sims.asBool _).mono (fun _ _ => trivial)
    | with_reducible exact Sims.program.mono (fun _ _ => trivial)
    | with_reducible exact Sims.asInt _
    | with_reducible exact Sims.asAddr _
    | with_reducible exact Sims.sureAddr _
    | with_reducible exact Sims.zeroValue _
    | with_reducible exact Sims.isAgg _
    | with_reducible exact Sims.part _ _ _
    | with_reducible exact Sims.newVar _ _
    | with_reducible exact Sims.newRow _ _
    | with_reducible exact Sims.loadVar _ _
    | with_reducible exact Sims.storeVar _ _ _
    | with_reducible exact Sims.loadCells _ _
    | with_reducible exact Sims.storeCells _ _ _
    | with_reducible exact Sims.choose _
    | with_reducible exact Sims.askRoom _
    | with_reducible exact Sims.noRoom
    | with_reducible exact Sims.numberAt _
    | with_reducible exact Sims.viewAt _
    | (with_reducible refine Sims.then (ok := fun _ => True) ?_ (fun _ => ?_))
    | (with_reducible refine Sims.ite (fun _ => ?_) (fun _ => ?_))
    | split
    | dsimp only)
theorem Sims.extract (t : Value) (i : Nat) : Sims P (fun _ => True) (Instr.extract t i) := by
  unfold Instr.extract
  repeat' (first
    | with_reducible exact Sims.pure trivial
    | with_reducible exact Sims.stuck _
    | with_reducible exact Sims.goPanic _
    | with_reducible exact Sims.runtimePanic _
    | with_reducible exact Sims.boundsPanic _ _ _ _
    | with_reducible exact Sims.unsupported _ (by simp)
    | with_reducible exact (Sims.underlying _).mono (fun _ _ => trivial)
    | with_reducible exact (Sims.sizeOf _).mono (fun _ _ => trivial)
    | with_reducible exact (Sims.typeInfo _).mono (fun _ _ => trivial)
    | with_reducible exact (Sims.asIntOf _).mono (fun _ _ => trivial)
    | with_reducible exact (Sims.asBool _).mono (fun _ _ => trivial)
    | with_reducible exact Sims.program.mono (fun _ _ => trivial)
    | with_reducible exact Sims.asInt _
    | with_reducible exact Sims.asAddr _
    | with_reducible exact Sims.sureAddr _
    | with_reducible exact Sims.zeroValue _
    | with_reducible exact Sims.isAgg _
    | with_reducible exact Sims.part _ _ _
    | with_reducible exact Sims.newVar _ _
    | with_reducible exact Sims.newRow _ _
    | with_reducible exact Sims.loadVar _ _
    | with_reducible exact Sims.storeVar _ _ _
    | with_reducible exact Sims.loadCells _ _
    | with_reducible exact Sims.storeCells _ _ _
    | with_reducible exact Sims.choose _
    | with_reducible exact Sims.askRoom _
    | with_reducible exact Sims.noRoom
    | with_reducible exact Sims.numberAt _
    | with_reducible exact Sims.viewAt _
    | (with_reducible refine Sims.then (ok := fun _ => True) ?_ (fun _ => ?_))
    | (with_reducible refine Sims.ite (fun _ => ?_) (fun _ => ?_))
    | split
    | dsimp only)
theorem Sims.asAgg (v : Value) : Sims P (fun _ => True) (Go.asAgg v) := by
  unfold Go.asAgg
  repeat' (first
    | with_reducible exact Sims.pure trivial
    | with_reducible exact Sims.stuck _
    | with_reducible exact Sims.goPanic _
    | with_reducible exact Sims.runtimePanic _
    | with_reducible exact Sims.boundsPanic _ _ _ _
    | with_reducible exact Sims.unsupported _ (by simp)
    | with_reducible exact (Sims.underlying _).mono (fun _ _ => trivial)
    | with_reducible exact (Sims.sizeOf _).mono (fun _ _ => trivial)
    | with_reducible exact (Sims.typeInfo _).mono (fun _ _ => trivial)
    | with_reducible exact (Sims.asIntOf _).mono (fun _ _ => trivial)
    | with_reducible exact (Sims.asBool _).mono (fun _ _ => trivial)
    | with_reducible exact Sims.program.mono (fun _ _ => trivial)
    | with_reducible exact Sims.asInt _
    | with_reducible exact Sims.asAddr _
    | with_reducible exact Sims.sureAddr _
    | with_reducible exact Sims.zeroValue _
    | with_reducible exact Sims.isAgg _
    | with_reducible exact Sims.part _ _ _
    | with_reducible exact Sims.newVar _ _
    | with_reducible exact Sims.newRow _ _
    | with_reducible exact Sims.loadVar _ _
    | with_reducible exact Sims.storeVar _ _ _
    | with_reducible exact Sims.loadCells _ _
    | with_reducible exact Sims.storeCells _ _ _
    | with_reducible exact Sims.choose _
    | with_reducible exact Sims.askRoom _
    | with_reducible exact Sims.noRoom
    | with_reducible exact Sims.numberAt _
    | with_reducible exact Sims.viewAt _
    | (with_reducible refine Sims.then (ok := fun _ => True) ?_ (fun _ => ?_))
    | (with_reducible refine Sims.ite (fun _ => ?_) (fun _ => ?_))
    | split
    | dsimp only)
theorem Sims.field (t : TypeId) (x : Value) (i : Nat) : Sims P (fun _ => True) (Instr.field t x i) := by
  unfold Instr.field
  repeat' (first
    | with_reducible exact Sims.pure trivial
    | with_reducible exact Sims.stuck _
    | with_reducible exact Sims.goPanic _
    | with_reducible exact Sims.runtimePanic _
    | with_reducible exact Sims.boundsPanic _ _ _ _
    | with_reducible exact Sims.unsupported _ (by simp)
    | with_reducible exact (Sims.underlying _).mono (fun _ _ => trivial)
    | with_reducible exact (Sims.sizeOf _).mono (fun _ _ => trivial)
    | with_reducible exact (Sims.typeInfo _).mono (fun _ _ => trivial)
    | with_reducible exact (Sims.asIntOf _).mono (fun _ _ => trivial)
    | with_reducible exact (Sims.asBool _).mono (fun _ _ => trivial)
    | with_reducible exact Sims.program.mono (fun _ _ => trivial)
    | with_reducible exact Sims.asInt _
    | with_reducible exact Sims.asAddr _
    | with_reducible exact Sims.sureAddr _
    | with_reducible exact Sims.zeroValue _
    | with_reducible exact Sims.isAgg _
    | with_reducible exact Sims.part _ _ _
    | with_reducible exact Sims.newVar _ _
    | with_reducible exact Sims.newRow _ _
    | with_reducible exact Sims.loadVar _ _
    | with_reducible exact Sims.storeVar _ _ _
    | with_reducible exact Sims.loadCells _ _
    | with_reducible exact Sims.storeCells _ _ _
    | with_reducible exact Sims.choose _
    | with_reducible exact Sims.askRoom _
    | with_reducible exact Sims.noRoom
    | with_reducible exact Sims.numberAt _
    | with_reducible exact Sims.viewAt _
    | with_reducible exact Sims.asAgg _
    | (with_reducible refine Sims.then (ok := fun _ => True) ?_ (fun _ => ?_))
    | (with_reducible refine Sims.ite (fun _ => ?_) (fun _ => ?_))
    | split
    | dsimp only)
theorem Sims.floatArith (op : BinOp) (k : FloatKind) (x y : Nat) : Sims P (fun _ => True) (Op.floatArith op k x y) := by
  unfold Op.floatArith
  repeat' (first
    | with_reducible exact Sims.pure trivial
    | with_reducible exact Sims.stuck _
    | with_reducible exact Sims.goPanic _
    | with_reducible exact Sims.runtimePanic _
    | with_reducible exact Sims.boundsPanic _ _ _ _
    | with_reducible exact Sims.unsupported _ (by simp)
    | with_reducible exact (Sims.underlying _).mono (fun _ _ => trivial)
    | with_reducible exact (Sims.sizeOf _).mono (fun _ _ => trivial)
    | with_reducible exact (Sims.typeInfo _).mono (fun _ _ => trivial)
    | with_reducible exact (Sims.asIntOf _).mono (fun _ _ => trivial)
    | with_reducible exact (Sims.asBool _).mono (fun _ _ => trivial)
    | with_reducible exact Sims.program.mono (fun _ _ => trivial)
    | with_reducible exact Sims.asInt _
    | with_reducible exact Sims.asAddr _
    | with_reducible exact Sims.sureAddr _
    | with_reducible exact Sims.zeroValue _
    | with_reducible exact Sims.isAgg _
    | with_reducible exact Sims.part _ _ _
    | with_reducible exact Sims.newVar _ _
    | with_reducible exact Sims.newRow _ _
    | with_reducible exact Sims.loadVar _ _
    | with_reducible exact Sims.storeVar _ _ _
    | with_reducible exact Sims.loadCells _ _
    | with_reducible exact Sims.storeCells _ _ _
    | with_reducible exact Sims.choose _
    | with_reducible exact Sims.askRoom _
    | with_reducible exact Sims.noRoom
    | with_reducible exact Sims.numberAt _
    | with_reducible exact Sims.viewAt _
    | (with_reducible refine Sims.then (ok := fun _ => True) ?_ (fun _ => ?_))
    | (with_reducible refine Sims.ite (fun _ => ?_) (fun _ => ?_))
    | split
    | dsimp only)
theorem Sims.floatCmp (op : BinOp) (k : FloatKind) (x y : Nat) : Sims P (fun _ => True) (Op.floatCmp op k x y) := by
  unfold Op.floatCmp
  repeat' (first
    | with_reducible exact Sims.pure trivial
    | with_reducible exact Sims.stuck _
    | with_reducible exact Sims.goPanic _
    | with_reducible exact Sims.runtimePanic _
    | with_reducible exact Sims.boundsPanic _ _ _ _
    | with_reducible exact Sims.unsupported _ (by simp)
    | with_reducible exact (Sims.underlying _).mono (fun _ _ => trivial)
    | with_reducible exact (Sims.sizeOf _).mono (fun _ _ => trivial)
    | with_reducible exact (Sims.typeInfo _).mono (fun _ _ => trivial)
    | with_reducible exact (Sims.asIntOf _).mono (fun _ _ => trivial)
    | with_reducible exact (Sims.asBool _).mono (fun _ _ => trivial)
    | with_reducible exact Sims.program.mono (fun _ _ => trivial)
    | with_reducible exact Sims.asInt _
    | with_reducible exact Sims.asAddr _
    | with_reducible exact Sims.sureAddr _
    | with_reducible exact Sims.zeroValue _
    | with_reducible exact Sims.isAgg _
    | with_reducible exact Sims.part _ _ _
    | with_reducible exact Sims.newVar _ _
    | with_reducible exact Sims.newRow _ _
    | with_reducible exact Sims.loadVar _ _
    | with_reducible exact Sims.storeVar _ _ _
    | with_reducible exact Sims.loadCells _ _
    | with_reducible exact Sims.storeCells _ _ _
    | with_reducible exact Sims.choose _
    | with_reducible exact Sims.askRoom _
    | with_reducible exact Sims.noRoom
    | with_reducible exact Sims.numberAt _
    | with_reducible exact Sims.viewAt _
    | (with_reducible refine Sims.then (ok := fun _ => True) ?_ (fun _ => ?_))
    | (with_reducible refine Sims.ite (fun _ => ?_) (fun _ => ?_))
    | split
    | dsimp only)
theorem Sims.intArith (op : BinOp) (k : IntKind) (x y : Int) : Sims P (fun _ => True) (Op.intArith op k x y) := by
  unfold Op.intArith
  repeat' (first
    | with_reducible exact Sims.pure trivial
    | with_reducible exact Sims.stuck _
    | with_reducible exact Sims.goPanic _
    | with_reducible exact Sims.runtimePanic _
    | with_reducible exact Sims.boundsPanic _ _ _ _
    | with_reducible exact Sims.unsupported _ (by simp)
    | with_reducible exact (Sims.underlying _).mono (fun _ _ => trivial)
    | with_reducible exact (Sims.sizeOf _).mono (fun _ _ => trivial)
    | with_reducible exact (Sims.typeInfo _).mono (fun _ _ => trivial)
    | with_reducible exact (Sims.asIntOf _).mono (fun _ _ => trivial)
    | with_reducible exact (Sims.asBool _).mono (fun _ _ => trivial)
    | with_reducible exact Sims.program.mono (fun _ _ => trivial)
    | with_reducible exact Sims.asInt _
    | with_reducible exact Sims.asAddr _
    | with_reducible exact Sims.sureAddr _
    | with_reducible exact Sims.zeroValue _
    | with_reducible exact Sims.isAgg _
    | with_reducible exact Sims.part _ _ _
    | with_reducible exact Sims.newVar _ _
    | with_reducible exact Sims.newRow _ _
    | with_reducible exact Sims.loadVar _ _
    | with_reducible exact Sims.storeVar _ _ _
    | with_reducible exact Sims.loadCells _ _
    | with_reducible exact Sims.storeCells _ _ _
    | with_reducible exact Sims.choose _
    | with_reducible exact Sims.askRoom _
    | with_reducible exact Sims.noRoom
    | with_reducible exact Sims.numberAt _
    | with_reducible exact Sims.viewAt _
    | (with_reducible refine Sims.then (ok := fun _ => True) ?_ (fun _ => ?_))
    | (with_reducible refine Sims.ite (fun _ => ?_) (fun _ => ?_))
    | split
    | dsimp only)
theorem Sims.intDiv (op : BinOp) (k : IntKind) (x y : Int) : Sims P (fun _ => True) (Op.intDiv op k x y) := by
  unfold Op.intDiv
  repeat' (first
    | with_reducible exact Sims.pure trivial
    | with_reducible exact Sims.stuck _
    | with_reducible exact Sims.goPanic _
    | with_reducible exact Sims.runtimePanic _
    | with_reducible exact Sims.boundsPanic _ _ _ _
    | with_reducible exact Sims.unsupported _ (by simp)
    | with_reducible exact (Sims.underlying _).mono (fun _ _ => trivial)
    | with_reducible exact (Sims.sizeOf _).mono (fun _ _ => trivial)
    | with_reducible exact (Sims.typeInfo _).mono (fun _ _ => trivial)
    | with_reducible exact (Sims.asIntOf _).mono (fun _ _ => trivial)
    | with_reducible exact (Sims.asBool _).mono (fun _ _ => trivial)
    | with_reducible exact Sims.program.mono (fun _ _ => trivial)
    | with_reducible exact Sims.asInt _
    | with_reducible exact Sims.asAddr _
    | with_reducible exact Sims.sureAddr _
    | with_reducible exact Sims.zeroValue _
    | with_reducible exact Sims.isAgg _
    | with_reducible exact Sims.part _ _ _
    | with_reducible exact Sims.newVar _ _
    | with_reducible exact Sims.newRow _ _
    | with_reducible exact Sims.loadVar _ _
    | with_reducible exact Sims.storeVar _ _ _
    | with_reducible exact Sims.loadCells _ _
    | with_reducible exact Sims.storeCells _ _ _
    | with_reducible exact Sims.choose _
    | with_reducible exact Sims.askRoom _
    | with_reducible exact Sims.noRoom
    | with_reducible exact Sims.numberAt _
    | with_reducible exact Sims.viewAt _
    | (with_reducible refine Sims.then (ok := fun _ => True) ?_ (fun _ => ?_))
    | (with_reducible refine Sims.ite (fun _ => ?_) (fun _ => ?_))
    | split
    | dsimp only)
theorem Sims.intBits (op : BinOp) (k : IntKind) (x y : Int) : Sims P (fun _ => True) (Op.intBits op k x y) := by
  unfold Op.intBits
  repeat' (first
    | with_reducible exact Sims.pure trivial
    | with_reducible exact Sims.stuck _
    | with_reducible exact Sims.goPanic _
    | with_reducible exact Sims.runtimePanic _
    | with_reducible exact Sims.boundsPanic _ _ _ _
    | with_reducible exact Sims.unsupported _ (by simp)
    | with_reducible exact (Sims.underlying _).mono (fun _ _ => trivial)
    | with_reducible exact (Sims.sizeOf _).mono (fun _ _ => trivial)
    | with_reducible exact (Sims.typeInfo _).mono (fun _ _ => trivial)
    | with_reducible exact (Sims.asIntOf _).mono (fun _ _ => trivial)
    | with_reducible exact (Sims.asBool _).mono (fun _ _ => trivial)
    | with_reducible exact Sims.program.mono (fun _ _ => trivial)
    | with_reducible exact Sims.asInt _
    | with_reducible exact Sims.asAddr _
    | with_reducible exact Sims.sureAddr _
    | with_reducible exact Sims.zeroValue _
    | with_reducible exact Sims.isAgg _
    | with_reducible exact Sims.part _ _ _
    | with_reducible exact Sims.newVar _ _
    | with_reducible exact Sims.newRow _ _
    | with_reducible exact Sims.loadVar _ _
    | with_reducible exact Sims.storeVar _ _ _
    | with_reducible exact Sims.loadCells _ _
    | with_reducible exact Sims.storeCells _ _ _
    | with_reducible exact Sims.choose _
    | with_reducible exact Sims.askRoom _
    | with_reducible exact Sims.noRoom
    | with_reducible exact Sims.numberAt _
    | with_reducible exact Sims.viewAt _
    | (with_reducible refine Sims.then (ok := fun _ => True) ?_ (fun _ => ?_))
    | (with_reducible refine Sims.ite (fun _ => ?_) (fun _ => ?_))
    | split
    | dsimp only)
theorem Sims.intCmp (op : BinOp) (x y : Int) : Sims P (fun _ => True) (Op.intCmp op x y) := by
  unfold Op.intCmp
  repeat' (first
    | with_reducible exact Sims.pure trivial
    | with_reducible exact Sims.stuck _
    | with_reducible exact Sims.goPanic _
    | with_reducible exact Sims.runtimePanic _
    | with_reducible exact Sims.boundsPanic _ _ _ _
    | with_reducible exact Sims.unsupported _ (by simp)
    | with_reducible exact (Sims.underlying _).mono (fun _ _ => trivial)
    | with_reducible exact (Sims.sizeOf _).mono (fun _ _ => trivial)
    | with_reducible exact (Sims.typeInfo _).mono (fun _ _ => trivial)
    | with_reducible exact (Sims.asIntOf _).mono (fun _ _ => trivial)
    | with_reducible exact (Sims.asBool _).mono (fun _ _ => trivial)
    | with_reducible exact Sims.program.mono (fun _ _ => trivial)
    | with_reducible exact Sims.asInt _
    | with_reducible exact Sims.asAddr _
    | with_reducible exact Sims.sureAddr _
    | with_reducible exact Sims.zeroValue _
    | with_reducible exact Sims.isAgg _
    | with_reducible exact Sims.part _ _ _
    | with_reducible exact Sims.newVar _ _
    | with_reducible exact Sims.newRow _ _
    | with_reducible exact Sims.loadVar _ _
    | with_reducible exact Sims.storeVar _ _ _
    | with_reducible exact Sims.loadCells _ _
    | with_reducible exact Sims.storeCells _ _ _
    | with_reducible exact Sims.choose _
    | with_reducible exact Sims.askRoom _
    | with_reducible exact Sims.noRoom
    | with_reducible exact Sims.numberAt _
    | with_reducible exact Sims.viewAt _
    | (with_reducible refine Sims.then (ok := fun _ => True) ?_ (fun _ => ?_))
    | (with_reducible refine Sims.ite (fun _ => ?_) (fun _ => ?_))
    | split
    | dsimp only)
theorem Sims.shift (op : BinOp) (k : IntKind) (x : Int) (j : IntKind) (y : Int) : Sims P (fun _ => True) (Op.shift op k x j y) := by
  unfold Op.shift
  repeat' (first
    | with_reducible exact Sims.pure trivial
    | with_reducible exact Sims.stuck _
    | with_reducible exact Sims.goPanic _
    | with_reducible exact Sims.runtimePanic _
    | with_reducible exact Sims.boundsPanic _ _ _ _
    | with_reducible exact Sims.unsupported _ (by simp)
    | with_reducible exact (Sims.underlying _).mono (fun _ _ => trivial)
    | with_reducible exact (Sims.sizeOf _).mono (fun _ _ => trivial)
    | with_reducible exact (Sims.typeInfo _).mono (fun _ _ => trivial)
    | with_reducible exact (Sims.asIntOf _).mono (fun _ _ => trivial)
    | with_reducible exact (Sims.asBool _).mono (fun _ _ => trivial)
    | with_reducible exact Sims.program.mono (fun _ _ => trivial)
    | with_reducible exact Sims.asInt _
    | with_reducible exact Sims.asAddr _
    | with_reducible exact Sims.sureAddr _
    | with_reducible exact Sims.zeroValue _
    | with_reducible exact Sims.isAgg _
    | with_reducible exact Sims.part _ _ _
    | with_reducible exact Sims.newVar _ _
    | with_reducible exact Sims.newRow _ _
    | with_reducible exact Sims.loadVar _ _
    | with_reducible exact Sims.storeVar _ _ _
    | with_reducible exact Sims.loadCells _ _
    | with_reducible exact Sims.storeCells _ _ _
    | with_reducible exact Sims.choose _
    | with_reducible exact Sims.askRoom _
    | with_reducible exact Sims.noRoom
    | with_reducible exact Sims.numberAt _
    | with_reducible exact Sims.viewAt _
    | (with_reducible refine Sims.then (ok := fun _ => True) ?_ (fun _ => ?_))
    | (with_reducible refine Sims.ite (fun _ => ?_) (fun _ => ?_))
    | split
    | dsimp only)
theorem Sims.unary (op : UnOp) (x : Value) : Sims P (fun _ => True) (Op.unary op x) := by
  unfold Op.unary
  repeat' (first
    | with_reducible exact Sims.pure trivial
    | with_reducible exact Sims.stuck _
    | with_reducible exact Sims.goPanic _
    | with_reducible exact Sims.runtimePanic _
    | with_reducible exact Sims.boundsPanic _ _ _ _
    | with_reducible exact Sims.unsupported _ (by simp)
    | with_reducible exact (Sims.underlying _).mono (fun _ _ => trivial)
    | with_reducible exact (Sims.sizeOf _).mono (fun _ _ => trivial)
    | with_reducible exact (Sims.typeInfo _).mono (fun _ _ => trivial)
    | with_reducible exact (Sims.asIntOf _).mono (fun _ _ => trivial)
    | with_reducible exact (Sims.asBool _).mono (fun _ _ => trivial)
    | with_reducible exact Sims.program.mono (fun _ _ => trivial)
    | with_reducible exact Sims.asInt _
    | with_reducible exact Sims.asAddr _
    | with_reducible exact Sims.sureAddr _
    | with_reducible exact Sims.zeroValue _
    | with_reducible exact Sims.isAgg _
    | with_reducible exact Sims.part _ _ _
    | with_reducible exact Sims.newVar _ _
    | with_reducible exact Sims.newRow _ _
    | with_reducible exact Sims.loadVar _ _
    | with_reducible exact Sims.storeVar _ _ _
    | with_reducible exact Sims.loadCells _ _
    | with_reducible exact Sims.storeCells _ _ _
    | with_reducible exact Sims.choose _
    | with_reducible exact Sims.askRoom _
    | with_reducible exact Sims.noRoom
    | with_reducible exact Sims.numberAt _
    | with_reducible exact Sims.viewAt _
    | with_reducible exact Sims.intArith _ _ _ _
    | with_reducible exact Sims.intBits _ _ _ _
    | (with_reducible refine Sims.then (ok := fun _ => True) ?_ (fun _ => ?_))
    | (with_reducible refine Sims.ite (fun _ => ?_) (fun _ => ?_))
    | split
    | dsimp only)
theorem Sims.stringOp (op : BinOp) (x y : ByteArray) : Sims P (fun _ => True) (Op.stringOp op x y) := by
  unfold Op.stringOp
  repeat' (first
    | with_reducible exact Sims.pure trivial
    | with_reducible exact Sims.stuck _
    | with_reducible exact Sims.goPanic _
    | with_reducible exact Sims.runtimePanic _
    | with_reducible exact Sims.boundsPanic _ _ _ _
    | with_reducible exact Sims.unsupported _ (by simp)
    | with_reducible exact (Sims.underlying _).mono (fun _ _ => trivial)
    | with_reducible exact (Sims.sizeOf _).mono (fun _ _ => trivial)
    | with_reducible exact (Sims.typeInfo _).mono (fun _ _ => trivial)
    | with_reducible exact (Sims.asIntOf _).mono (fun _ _ => trivial)
    | with_reducible exact (Sims.asBool _).mono (fun _ _ => trivial)
    | with_reducible exact Sims.program.mono (fun _ _ => trivial)
    | with_reducible exact Sims.asInt _
    | with_reducible exact Sims.asAddr _
    | with_reducible exact Sims.sureAddr _
    | with_reducible exact Sims.zeroValue _
    | with_reducible exact Sims.isAgg _
    | with_reducible exact Sims.part _ _ _
    | with_reducible exact Sims.newVar _ _
    | with_reducible exact Sims.newRow _ _
    | with_reducible exact Sims.loadVar _ _
    | with_reducible exact Sims.storeVar _ _ _
    | with_reducible exact Sims.loadCells _ _
    | with_reducible exact Sims.storeCells _ _ _
    | with_reducible exact Sims.choose _
    | with_reducible exact Sims.askRoom _
    | with_reducible exact Sims.noRoom
    | with_reducible exact Sims.numberAt _
    | with_reducible exact Sims.viewAt _
    | (with_reducible refine Sims.then (ok := fun _ => True) ?_ (fun _ => ?_))
    | (with_reducible refine Sims.ite (fun _ => ?_) (fun _ => ?_))
    | split
    | dsimp only)
end
end Go.Proofs.Ytddnapbdhjifiaa.Rg

namespace Go.Proofs.Ytddnapbdhjifiaa.Rg
open Go.Conc
variable [Kept]
section
variable {P : Program} {α β : Type} {ok : α → Prop}

theorem Sims.noView (a : Addr) : Sims P (fun _ => True) (Go.noView a) := by
  unfold Go.noView
  repeat' (first
    | with_reducible exact Sims.pure trivial
    | with_reducible exact Sims.stuck _
    | with_reducible exact Sims.goPanic _
    | with_reducible exact Sims.runtimePanic _
    | with_reducible exact Sims.boundsPanic _ _ _ _
    | with_reducible exact Sims.unsupported _ (by simp)
    | with_reducible exact (Sims.underlying _).mono (fun _ _ => trivial)
    | with_reducible exact (Sims.sizeOf _).mono (fun _ _ => trivial)
    | with_reducible exact (Sims.typeInfo _).mono (fun _ _ => trivial)
    | with_reducible exact (Sims.asIntOf _).mono (fun _ _ => trivial)
    | with_reducible exact (Sims.asBool _).mono (fun _ _ => trivial)
    | with_reducible exact Sims.program.mono (fun _ _ => trivial)
    | with_reducible exact Sims.asInt _
    | with_reducible exact Sims.asAddr _
    | with_reducible exact Sims.sureAddr _
    | with_reducible exact Sims.zeroValue _
    | with_reducible exact Sims.isAgg _
    | with_reducible exact Sims.part _ _ _
    | with_reducible exact Sims.newVar _ _
    | with_reducible exact Sims.newRow _ _
    | with_reducible exact Sims.loadVar _ _
    | with_reducible exact Sims.storeVar _ _ _
    | with_reducible exact Sims.loadCells _ _
    | with_reducible exact Sims.storeCells _ _ _
    | with_reducible exact Sims.choose _
    | with_reducible exact Sims.askRoom _
    | with_reducible exact Sims.noRoom
    | with_reducible exact Sims.numberAt _
    | with_reducible exact Sims.viewAt _
    | (with_reducible refine Sims.then (ok := fun _ => True) ?_ (fun _ => ?_))
    | (with_reducible refine Sims.ite (fun _ => ?_) (fun _ => ?_))
    | split
    | dsimp only)
theorem Sims.shapeT {f : Option (TypeId × Nat) → Sem β} (b : Nat) {h : Halt} (hh : fineHalt h) (hn : f none = Sem.halt h) (hs : ∀ x, Sims P (fun _ => True) (f (some x))) : Sims P (fun _ => True) (Go.shape b >>= f) :=
  Sims.shape b (fun u x u' e => by rw [hn] at e; cases e) (fun u h' u' e => by rw [hn] at e; cases e; exact hh) hs
theorem Sims.byteOf (a : Addr) : Sims P (fun _ => True) (Go.byteOf a) := by
  unfold Go.byteOf
  dsimp only
  split
  · exact Sims.pure trivial
  · refine Sims.program.then fun p => (Sims.noView a).then fun _ => Sims.shapeT _ (h := .stuck _) trivial rfl fun x => ?_
    repeat' (first
      | with_reducible exact Sims.pure trivial
      | with_reducible exact Sims.stuck _
      | with_reducible exact Sims.goPanic _
      | with_reducible exact Sims.runtimePanic _
      | with_reducible exact Sims.boundsPanic _ _ _ _
      | with_reducible exact Sims.unsupported _ (by simp)
      | with_reducible exact (Sims.underlying _).mono (fun _ _ => trivial)
      | with_reducible exact (Sims.sizeOf _).mono (fun _ _ => trivial)
      | with_reducible exact (Sims.typeInfo _).mono (fun _ _ => trivial)
      | with_reducible exact (Sims.asIntOf _).mono (fun _ _ => trivial)
      | with_reducible exact (Sims.asBool _).mono (fun _ _ => trivial)
      | with_reducible exact Sims.program.mono (fun _ _ => trivial)
      | with_reducible exact Sims.asInt _
      | with_reducible exact Sims.asAddr _
      | with_reducible exact Sims.sureAddr _
      | with_reducible exact Sims.zeroValue _
      | with_reducible exact Sims.isAgg _
      | with_reducible exact Sims.part _ _ _
      | with_reducible exact Sims.newVar _ _
      | with_reducible exact Sims.newRow _ _
      | with_reducible exact Sims.loadVar _ _
      | with_reducible exact Sims.storeVar _ _ _
      | with_reducible exact Sims.loadCells _ _
      | with_reducible exact Sims.storeCells _ _ _
      | with_reducible exact Sims.choose _
      | with_reducible exact Sims.askRoom _
      | with_reducible exact Sims.noRoom
      | with_reducible exact Sims.numberAt _
      | with_reducible exact Sims.viewAt _
      | (with_reducible refine Sims.then (ok := fun _ => True) ?_ (fun _ => ?_))
      | (with_reducible refine Sims.ite (fun _ => ?_) (fun _ => ?_))
      | split
      | dsimp only)
theorem Sims.behindNumber (n : Addr) : Sims P (fun _ => True) (Go.behindNumber n) := by
  unfold Go.behindNumber
  repeat' (first
    | with_reducible exact Sims.pure trivial
    | with_reducible exact Sims.stuck _
    | with_reducible exact Sims.goPanic _
    | with_reducible exact Sims.runtimePanic _
    | with_reducible exact Sims.boundsPanic _ _ _ _
    | with_reducible exact Sims.unsupported _ (by simp)
    | with_reducible exact (Sims.underlying _).mono (fun _ _ => trivial)
    | with_reducible exact (Sims.sizeOf _).mono (fun _ _ => trivial)
    | with_reducible exact (Sims.typeInfo _).mono (fun _ _ => trivial)
    | with_reducible exact (Sims.asIntOf _).mono (fun _ _ => trivial)
    | with_reducible exact (Sims.asBool _).mono (fun _ _ => trivial)
    | with_reducible exact Sims.program.mono (fun _ _ => trivial)
    | with_reducible exact Sims.asInt _
    | with_reducible exact Sims.asAddr _
    | with_reducible exact Sims.sureAddr _
    | with_reducible exact Sims.zeroValue _
    | with_reducible exact Sims.isAgg _
    | with_reducible exact Sims.part _ _ _
    | with_reducible exact Sims.newVar _ _
    | with_reducible exact Sims.newRow _ _
    | with_reducible exact Sims.loadVar _ _
    | with_reducible exact Sims.storeVar _ _ _
    | with_reducible exact Sims.loadCells _ _
    | with_reducible exact Sims.storeCells _ _ _
    | with_reducible exact Sims.choose _
    | with_reducible exact Sims.askRoom _
    | with_reducible exact Sims.noRoom
    | with_reducible exact Sims.numberAt _
    | with_reducible exact Sims.viewAt _
    | (with_reducible refine Sims.then (ok := fun _ => True) ?_ (fun _ => ?_))
    | (with_reducible refine Sims.ite (fun _ => ?_) (fun _ => ?_))
    | split
    | dsimp only)
theorem Sims.asNumber (a : Addr) (l : Bool) : Sims P (fun _ => True) (Go.asNumber a l) := by
  unfold Go.asNumber
  exact (Sims.newObj _ (by simp) (by simp)).then fun _ => Sims.pure trivial
theorem Sims.twoPlaces (a b : Addr) : Sims P (fun _ => True) (Op.twoPlaces a b) := by
  unfold Op.twoPlaces
  repeat' (first
    | with_reducible exact Sims.pure trivial
    | with_reducible exact Sims.stuck _
    | with_reducible exact Sims.goPanic _
    | with_reducible exact Sims.runtimePanic _
    | with_reducible exact Sims.boundsPanic _ _ _ _
    | with_reducible exact Sims.unsupported _ (by simp)
    | with_reducible exact (Sims.underlying _).mono (fun _ _ => trivial)
    | with_reducible exact (Sims.sizeOf _).mono (fun _ _ => trivial)
    | with_reducible exact (Sims.typeInfo _).mono (fun _ _ => trivial)
    | with_reducible exact (Sims.asIntOf _).mono (fun _ _ => trivial)
    | with_reducible exact (Sims.asBool _).mono (fun _ _ => trivial)
    | with_reducible exact Sims.program.mono (fun _ _ => trivial)
    | with_reducible exact Sims.asInt _
    | with_reducible exact Sims.asAddr _
    | with_reducible exact Sims.sureAddr _
    | with_reducible exact Sims.zeroValue _
    | with_reducible exact Sims.isAgg _
    | with_reducible exact Sims.part _ _ _
    | with_reducible exact Sims.newVar _ _
    | with_reducible exact Sims.newRow _ _
    | with_reducible exact Sims.loadVar _ _
    | with_reducible exact Sims.storeVar _ _ _
    | with_reducible exact Sims.loadCells _ _
    | with_reducible exact Sims.storeCells _ _ _
    | with_reducible exact Sims.choose _
    | with_reducible exact Sims.askRoom _
    | with_reducible exact Sims.noRoom
    | with_reducible exact Sims.numberAt _
    | with_reducible exact Sims.viewAt _
    | with_reducible exact Sims.byteOf _
    | (with_reducible refine Sims.then (ok := fun _ => True) ?_ (fun _ => ?_))
    | (with_reducible refine Sims.ite (fun _ => ?_) (fun _ => ?_))
    | split
    | dsimp only)
theorem Sims.addrSub (k : IntKind) (a b : Addr) : Sims P (fun _ => True) (Op.addrSub k a b) := by
  unfold Op.addrSub
  repeat' (first
    | with_reducible exact Sims.pure trivial
    | with_reducible exact Sims.stuck _
    | with_reducible exact Sims.goPanic _
    | with_reducible exact Sims.runtimePanic _
    | with_reducible exact Sims.boundsPanic _ _ _ _
    | with_reducible exact Sims.unsupported _ (by simp)
    | with_reducible exact (Sims.underlying _).mono (fun _ _ => trivial)
    | with_reducible exact (Sims.sizeOf _).mono (fun _ _ => trivial)
    | with_reducible exact (Sims.typeInfo _).mono (fun _ _ => trivial)
    | with_reducible exact (Sims.asIntOf _).mono (fun _ _ => trivial)
    | with_reducible exact (Sims.asBool _).mono (fun _ _ => trivial)
    | with_reducible exact Sims.program.mono (fun _ _ => trivial)
    | with_reducible exact Sims.asInt _
    | with_reducible exact Sims.asAddr _
    | with_reducible exact Sims.sureAddr _
    | with_reducible exact Sims.zeroValue _
    | with_reducible exact Sims.isAgg _
    | with_reducible exact Sims.part _ _ _
    | with_reducible exact Sims.newVar _ _
    | with_reducible exact Sims.newRow _ _
    | with_reducible exact Sims.loadVar _ _
    | with_reducible exact Sims.storeVar _ _ _
    | with_reducible exact Sims.loadCells _ _
    | with_reducible exact Sims.storeCells _ _ _
    | with_reducible exact Sims.choose _
    | with_reducible exact Sims.askRoom _
    | with_reducible exact Sims.noRoom
    | with_reducible exact Sims.numberAt _
    | with_reducible exact Sims.viewAt _
    | with_reducible exact Sims.twoPlaces _ _
    | (with_reducible refine Sims.then (ok := fun _ => True) ?_ (fun _ => ?_))
    | (with_reducible refine Sims.ite (fun _ => ?_) (fun _ => ?_))
    | split
    | dsimp only)
theorem Sims.addrCmp (o : BinOp) (a b : Addr) : Sims P (fun _ => True) (Op.addrCmp o a b) := by
  unfold Op.addrCmp
  repeat' (first
    | with_reducible exact Sims.pure trivial
    | with_reducible exact Sims.stuck _
    | with_reducible exact Sims.goPanic _
    | with_reducible exact Sims.runtimePanic _
    | with_reducible exact Sims.boundsPanic _ _ _ _
    | with_reducible exact Sims.unsupported _ (by simp)
    | with_reducible exact (Sims.underlying _).mono (fun _ _ => trivial)
    | with_reducible exact (Sims.sizeOf _).mono (fun _ _ => trivial)
    | with_reducible exact (Sims.typeInfo _).mono (fun _ _ => trivial)
    | with_reducible exact (Sims.asIntOf _).mono (fun _ _ => trivial)
    | with_reducible exact (Sims.asBool _).mono (fun _ _ => trivial)
    | with_reducible exact Sims.program.mono (fun _ _ => trivial)
    | with_reducible exact Sims.asInt _
    | with_reducible exact Sims.asAddr _
    | with_reducible exact Sims.sureAddr _
    | with_reducible exact Sims.zeroValue _
    | with_reducible exact Sims.isAgg _
    | with_reducible exact Sims.part _ _ _
    | with_reducible exact Sims.newVar _ _
    | with_reducible exact Sims.newRow _ _
    | with_reducible exact Sims.loadVar _ _
    | with_reducible exact Sims.storeVar _ _ _
    | with_reducible exact Sims.loadCells _ _
    | with_reducible exact Sims.storeCells _ _ _
    | with_reducible exact Sims.choose _
    | with_reducible exact Sims.askRoom _
    | with_reducible exact Sims.noRoom
    | with_reducible exact Sims.numberAt _
    | with_reducible exact Sims.viewAt _
    | with_reducible exact Sims.twoPlaces _ _
    | (with_reducible refine Sims.then (ok := fun _ => True) ?_ (fun _ => ?_))
    | (with_reducible refine Sims.ite (fun _ => ?_) (fun _ => ?_))
    | split
    | dsimp only)
theorem Sims.addrMod (k : IntKind) (a : Addr) (n : Int) : Sims P (fun _ => True) (Op.addrMod k a n) := by
  unfold Op.addrMod
  refine Sims.shapeT _ (h := .unsupported .addressObserved) trivial rfl fun x => ?_
  repeat' (first
    | with_reducible exact Sims.pure trivial
    | with_reducible exact Sims.stuck _
    | with_reducible exact Sims.goPanic _
    | with_reducible exact Sims.runtimePanic _
    | with_reducible exact Sims.boundsPanic _ _ _ _
    | with_reducible exact Sims.unsupported _ (by simp)
    | with_reducible exact (Sims.underlying _).mono (fun _ _ => trivial)
    | with_reducible exact (Sims.sizeOf _).mono (fun _ _ => trivial)
    | with_reducible exact (Sims.typeInfo _).mono (fun _ _ => trivial)
    | with_reducible exact (Sims.asIntOf _).mono (fun _ _ => trivial)
    | with_reducible exact (Sims.asBool _).mono (fun _ _ => trivial)
    | with_reducible exact Sims.program.mono (fun _ _ => trivial)
    | with_reducible exact Sims.asInt _
    | with_reducible exact Sims.asAddr _
    | with_reducible exact Sims.sureAddr _
    | with_reducible exact Sims.zeroValue _
    | with_reducible exact Sims.isAgg _
    | with_reducible exact Sims.part _ _ _
    | with_reducible exact Sims.newVar _ _
    | with_reducible exact Sims.newRow _ _
    | with_reducible exact Sims.loadVar _ _
    | with_reducible exact Sims.storeVar _ _ _
    | with_reducible exact Sims.loadCells _ _
    | with_reducible exact Sims.storeCells _ _ _
    | with_reducible exact Sims.choose _
    | with_reducible exact Sims.askRoom _
    | with_reducible exact Sims.noRoom
    | with_reducible exact Sims.numberAt _
    | with_reducible exact Sims.viewAt _
    | with_reducible exact Sims.byteOf _
    | (with_reducible refine Sims.then (ok := fun _ => True) ?_ (fun _ => ?_))
    | (with_reducible refine Sims.ite (fun _ => ?_) (fun _ => ?_))
    | split
    | dsimp only)
theorem Sims.unsafeAdd (ts : Array TypeId) (t : TypeId) (args : Array Value) : Sims P (fun _ => True) (Builtin.unsafeAdd_ ts t args) := by
  unfold Builtin.unsafeAdd_
  obtain ⟨l⟩ := args
  rcases l with _ | ⟨x, _ | ⟨y, _ | ⟨z, l⟩⟩⟩
  · exact Sims.stuck _
  · exact Sims.stuck _
  · cases x <;> first
      | exact Sims.stuck _
      | skip
    rename_i ptr
    refine (Sims.asInt _).then fun n => ?_
    dsimp only
    split
    · repeat' (first
        | with_reducible exact Sims.pure trivial
        | with_reducible exact Sims.stuck _
        | with_reducible exact Sims.goPanic _
        | with_reducible exact Sims.runtimePanic _
        | with_reducible exact Sims.boundsPanic _ _ _ _
        | with_reducible exact Sims.unsupported _ (by simp)
        | with_reducible exact (Sims.underlying _).mono (fun _ _ => trivial)
        | with_reducible exact (Sims.sizeOf _).mono (fun _ _ => trivial)
        | with_reducible exact (Sims.typeInfo _).mono (fun _ _ => trivial)
        | with_reducible exact (Sims.asIntOf _).mono (fun _ _ => trivial)
        | with_reducible exact (Sims.asBool _).mono (fun _ _ => trivial)
        | with_reducible exact Sims.program.mono (fun _ _ => trivial)
        | with_reducible exact Sims.asInt _
        | with_reducible exact Sims.asAddr _
        | with_reducible exact Sims.sureAddr _
        | with_reducible exact Sims.zeroValue _
        | with_reducible exact Sims.isAgg _
        | with_reducible exact Sims.part _ _ _
        | with_reducible exact Sims.newVar _ _
        | with_reducible exact Sims.newRow _ _
        | with_reducible exact Sims.loadVar _ _
        | with_reducible exact Sims.storeVar _ _ _
        | with_reducible exact Sims.loadCells _ _
        | with_reducible exact Sims.storeCells _ _ _
        | with_reducible exact Sims.choose _
        | with_reducible exact Sims.askRoom _
        | with_reducible exact Sims.noRoom
        | with_reducible exact Sims.numberAt _
        | with_reducible exact Sims.viewAt _
        | refine Sims.shapeT _ (h := Halt.unsupported (.unsafePointer "Add")) trivial rfl (fun _ => ?_)
        | (with_reducible refine Sims.then (ok := fun _ => True) ?_ (fun _ => ?_))
        | (with_reducible refine Sims.ite (fun _ => ?_) (fun _ => ?_))
        | split
        | dsimp only)
    · repeat' (first
        | with_reducible exact Sims.pure trivial
        | with_reducible exact Sims.stuck _
        | with_reducible exact Sims.goPanic _
        | with_reducible exact Sims.runtimePanic _
        | with_reducible exact Sims.boundsPanic _ _ _ _
        | with_reducible exact Sims.unsupported _ (by simp)
        | with_reducible exact (Sims.underlying _).mono (fun _ _ => trivial)
        | with_reducible exact (Sims.sizeOf _).mono (fun _ _ => trivial)
        | with_reducible exact (Sims.typeInfo _).mono (fun _ _ => trivial)
        | with_reducible exact (Sims.asIntOf _).mono (fun _ _ => trivial)
        | with_reducible exact (Sims.asBool _).mono (fun _ _ => trivial)
        | with_reducible exact Sims.program.mono (fun _ _ => trivial)
        | with_reducible exact Sims.asInt _
        | with_reducible exact Sims.asAddr _
        | with_reducible exact Sims.sureAddr _
        | with_reducible exact Sims.zeroValue _
        | with_reducible exact Sims.isAgg _
        | with_reducible exact Sims.part _ _ _
        | with_reducible exact Sims.newVar _ _
        | with_reducible exact Sims.newRow _ _
        | with_reducible exact Sims.loadVar _ _
        | with_reducible exact Sims.storeVar _ _ _
        | with_reducible exact Sims.loadCells _ _
        | with_reducible exact Sims.storeCells _ _ _
        | with_reducible exact Sims.choose _
        | with_reducible exact Sims.askRoom _
        | with_reducible exact Sims.noRoom
        | with_reducible exact Sims.numberAt _
        | with_reducible exact Sims.viewAt _
        | refine Sims.shapeT _ (h := Halt.unsupported (.unsafePointer "Add")) trivial rfl (fun _ => ?_)
        | (with_reducible refine Sims.then (ok := fun _ => True) ?_ (fun _ => ?_))
        | (with_reducible refine Sims.ite (fun _ => ?_) (fun _ => ?_))
        | split
        | dsimp only)
  · exact Sims.stuck _
theorem Sims.movedNumber (t : TypeId) (x y : Value) : Sims P (fun _ => True) (Go.movedNumber t x y) := by
  unfold Go.movedNumber
  repeat' (first
    | with_reducible exact Sims.pure trivial
    | with_reducible exact Sims.stuck _
    | with_reducible exact Sims.goPanic _
    | with_reducible exact Sims.runtimePanic _
    | with_reducible exact Sims.boundsPanic _ _ _ _
    | with_reducible exact Sims.unsupported _ (by simp)
    | with_reducible exact (Sims.underlying _).mono (fun _ _ => trivial)
    | with_reducible exact (Sims.sizeOf _).mono (fun _ _ => trivial)
    | with_reducible exact (Sims.typeInfo _).mono (fun _ _ => trivial)
    | with_reducible exact (Sims.asIntOf _).mono (fun _ _ => trivial)
    | with_reducible exact (Sims.asBool _).mono (fun _ _ => trivial)
    | with_reducible exact Sims.program.mono (fun _ _ => trivial)
    | with_reducible exact Sims.asInt _
    | with_reducible exact Sims.asAddr _
    | with_reducible exact Sims.sureAddr _
    | with_reducible exact Sims.zeroValue _
    | with_reducible exact Sims.isAgg _
    | with_reducible exact Sims.part _ _ _
    | with_reducible exact Sims.newVar _ _
    | with_reducible exact Sims.newRow _ _
    | with_reducible exact Sims.loadVar _ _
    | with_reducible exact Sims.storeVar _ _ _
    | with_reducible exact Sims.loadCells _ _
    | with_reducible exact Sims.storeCells _ _ _
    | with_reducible exact Sims.choose _
    | with_reducible exact Sims.askRoom _
    | with_reducible exact Sims.noRoom
    | with_reducible exact Sims.numberAt _
    | with_reducible exact Sims.viewAt _
    | with_reducible exact Sims.unsafeAdd _ _ _
    | with_reducible exact Sims.behindNumber _
    | with_reducible exact Sims.asNumber _ _
    | (with_reducible refine Sims.then (ok := fun _ => True) ?_ (fun _ => ?_))
    | (with_reducible refine Sims.ite (fun _ => ?_) (fun _ => ?_))
    | split
    | dsimp only)
theorem Sims.movedPointer (t : TypeId) (x y : Value) : Sims P (fun _ => True) (Go.movedPointer t x y) := by
  unfold Go.movedPointer
  repeat' (first
    | with_reducible exact Sims.pure trivial
    | with_reducible exact Sims.stuck _
    | with_reducible exact Sims.goPanic _
    | with_reducible exact Sims.runtimePanic _
    | with_reducible exact Sims.boundsPanic _ _ _ _
    | with_reducible exact Sims.unsupported _ (by simp)
    | with_reducible exact (Sims.underlying _).mono (fun _ _ => trivial)
    | with_reducible exact (Sims.sizeOf _).mono (fun _ _ => trivial)
    | with_reducible exact (Sims.typeInfo _).mono (fun _ _ => trivial)
    | with_reducible exact (Sims.asIntOf _).mono (fun _ _ => trivial)
    | with_reducible exact (Sims.asBool _).mono (fun _ _ => trivial)
    | with_reducible exact Sims.program.mono (fun _ _ => trivial)
    | with_reducible exact Sims.asInt _
    | with_reducible exact Sims.asAddr _
    | with_reducible exact Sims.sureAddr _
    | with_reducible exact Sims.zeroValue _
    | with_reducible exact Sims.isAgg _
    | with_reducible exact Sims.part _ _ _
    | with_reducible exact Sims.newVar _ _
    | with_reducible exact Sims.newRow _ _
    | with_reducible exact Sims.loadVar _ _
    | with_reducible exact Sims.storeVar _ _ _
    | with_reducible exact Sims.loadCells _ _
    | with_reducible exact Sims.storeCells _ _ _
    | with_reducible exact Sims.choose _
    | with_reducible exact Sims.askRoom _
    | with_reducible exact Sims.noRoom
    | with_reducible exact Sims.numberAt _
    | with_reducible exact Sims.viewAt _
    | with_reducible exact Sims.unsafeAdd _ _ _
    | (with_reducible refine Sims.then (ok := fun _ => True) ?_ (fun _ => ?_))
    | (with_reducible refine Sims.ite (fun _ => ?_) (fun _ => ?_))
    | split
    | dsimp only)
theorem Sims.f2f (k : FloatKind) (x : Nat) (j : FloatKind) : Sims P (fun _ => True) (Conv.floatToFloat k x j) := by
  unfold Conv.floatToFloat
  repeat' (first
    | with_reducible exact Sims.pure trivial
    | with_reducible exact Sims.stuck _
    | with_reducible exact Sims.goPanic _
    | with_reducible exact Sims.runtimePanic _
    | with_reducible exact Sims.boundsPanic _ _ _ _
    | with_reducible exact Sims.unsupported _ (by simp)
    | with_reducible exact (Sims.underlying _).mono (fun _ _ => trivial)
    | with_reducible exact (Sims.sizeOf _).mono (fun _ _ => trivial)
    | with_reducible exact (Sims.typeInfo _).mono (fun _ _ => trivial)
    | with_reducible exact (Sims.asIntOf _).mono (fun _ _ => trivial)
    | with_reducible exact (Sims.asBool _).mono (fun _ _ => trivial)
    | with_reducible exact Sims.program.mono (fun _ _ => trivial)
    | with_reducible exact Sims.asInt _
    | with_reducible exact Sims.asAddr _
    | with_reducible exact Sims.sureAddr _
    | with_reducible exact Sims.zeroValue _
    | with_reducible exact Sims.isAgg _
    | with_reducible exact Sims.part _ _ _
    | with_reducible exact Sims.newVar _ _
    | with_reducible exact Sims.newRow _ _
    | with_reducible exact Sims.loadVar _ _
    | with_reducible exact Sims.storeVar _ _ _
    | with_reducible exact Sims.loadCells _ _
    | with_reducible exact Sims.storeCells _ _ _
    | with_reducible exact Sims.choose _
    | with_reducible exact Sims.askRoom _
    | with_reducible exact Sims.noRoom
    | with_reducible exact Sims.numberAt _
    | with_reducible exact Sims.viewAt _
    | (with_reducible refine Sims.then (ok := fun _ => True) ?_ (fun _ => ?_))
    | (with_reducible refine Sims.ite (fun _ => ?_) (fun _ => ?_))
    | split
    | dsimp only)
theorem Sims.cArith (op : BinOp) (k : FloatKind) (x y : Nat) : Sims P (fun _ => True) (Op.Complex.arith op k x y) := by
  unfold Op.Complex.arith
  repeat' (first
    | with_reducible exact Sims.pure trivial
    | with_reducible exact Sims.stuck _
    | with_reducible exact Sims.goPanic _
    | with_reducible exact Sims.runtimePanic _
    | with_reducible exact Sims.boundsPanic _ _ _ _
    | with_reducible exact Sims.unsupported _ (by simp)
    | with_reducible exact (Sims.underlying _).mono (fun _ _ => trivial)
    | with_reducible exact (Sims.sizeOf _).mono (fun _ _ => trivial)
    | with_reducible exact (Sims.typeInfo _).mono (fun _ _ => trivial)
    | with_reducible exact (Sims.asIntOf _).mono (fun _ _ => trivial)
    | with_reducible exact (Sims.asBool _).mono (fun _ _ => trivial)
    | with_reducible exact Sims.program.mono (fun _ _ => trivial)
    | with_reducible exact Sims.asInt _
    | with_reducible exact Sims.asAddr _
    | with_reducible exact Sims.sureAddr _
    | with_reducible exact Sims.zeroValue _
    | with_reducible exact Sims.isAgg _
    | with_reducible exact Sims.part _ _ _
    | with_reducible exact Sims.newVar _ _
    | with_reducible exact Sims.newRow _ _
    | with_reducible exact Sims.loadVar _ _
    | with_reducible exact Sims.storeVar _ _ _
    | with_reducible exact Sims.loadCells _ _
    | with_reducible exact Sims.storeCells _ _ _
    | with_reducible exact Sims.choose _
    | with_reducible exact Sims.askRoom _
    | with_reducible exact Sims.noRoom
    | with_reducible exact Sims.numberAt _
    | with_reducible exact Sims.viewAt _
    | with_reducible exact Sims.floatArith _ _ _ _
    | (with_reducible refine Sims.then (ok := fun _ => True) ?_ (fun _ => ?_))
    | (with_reducible refine Sims.ite (fun _ => ?_) (fun _ => ?_))
    | split
    | dsimp only)
theorem Sims.cCmp (op : BinOp) (k : FloatKind) (x y : Nat) : Sims P (fun _ => True) (Op.Complex.cmp op k x y) := by
  unfold Op.Complex.cmp
  repeat' (first
    | with_reducible exact Sims.pure trivial
    | with_reducible exact Sims.stuck _
    | with_reducible exact Sims.goPanic _
    | with_reducible exact Sims.runtimePanic _
    | with_reducible exact Sims.boundsPanic _ _ _ _
    | with_reducible exact Sims.unsupported _ (by simp)
    | with_reducible exact (Sims.underlying _).mono (fun _ _ => trivial)
    | with_reducible exact (Sims.sizeOf _).mono (fun _ _ => trivial)
    | with_reducible exact (Sims.typeInfo _).mono (fun _ _ => trivial)
    | with_reducible exact (Sims.asIntOf _).mono (fun _ _ => trivial)
    | with_reducible exact (Sims.asBool _).mono (fun _ _ => trivial)
    | with_reducible exact Sims.program.mono (fun _ _ => trivial)
    | with_reducible exact Sims.asInt _
    | with_reducible exact Sims.asAddr _
    | with_reducible exact Sims.sureAddr _
    | with_reducible exact Sims.zeroValue _
    | with_reducible exact Sims.isAgg _
    | with_reducible exact Sims.part _ _ _
    | with_reducible exact Sims.newVar _ _
    | with_reducible exact Sims.newRow _ _
    | with_reducible exact Sims.loadVar _ _
    | with_reducible exact Sims.storeVar _ _ _
    | with_reducible exact Sims.loadCells _ _
    | with_reducible exact Sims.storeCells _ _ _
    | with_reducible exact Sims.choose _
    | with_reducible exact Sims.askRoom _
    | with_reducible exact Sims.noRoom
    | with_reducible exact Sims.numberAt _
    | with_reducible exact Sims.viewAt _
    | with_reducible exact Sims.floatCmp _ _ _ _
    | (with_reducible refine Sims.then (ok := fun _ => True) ?_ (fun _ => ?_))
    | (with_reducible refine Sims.ite (fun _ => ?_) (fun _ => ?_))
    | split
    | dsimp only)
theorem Sims.cConv (k : FloatKind) (x : Nat) (j : FloatKind) : Sims P (fun _ => True) (Op.Complex.conv k x j) := by
  unfold Op.Complex.conv
  repeat' (first
    | with_reducible exact Sims.pure trivial
    | with_reducible exact Sims.stuck _
    | with_reducible exact Sims.goPanic _
    | with_reducible exact Sims.runtimePanic _
    | with_reducible exact Sims.boundsPanic _ _ _ _
    | with_reducible exact Sims.unsupported _ (by simp)
    | with_reducible exact (Sims.underlying _).mono (fun _ _ => trivial)
    | with_reducible exact (Sims.sizeOf _).mono (fun _ _ => trivial)
    | with_reducible exact (Sims.typeInfo _).mono (fun _ _ => trivial)
    | with_reducible exact (Sims.asIntOf _).mono (fun _ _ => trivial)
    | with_reducible exact (Sims.asBool _).mono (fun _ _ => trivial)
    | with_reducible exact Sims.program.mono (fun _ _ => trivial)
    | with_reducible exact Sims.asInt _
    | with_reducible exact Sims.asAddr _
    | with_reducible exact Sims.sureAddr _
    | with_reducible exact Sims.zeroValue _
    | with_reducible exact Sims.isAgg _
    | with_reducible exact Sims.part _ _ _
    | with_reducible exact Sims.newVar _ _
    | with_reducible exact Sims.newRow _ _
    | with_reducible exact Sims.loadVar _ _
    | with_reducible exact Sims.storeVar _ _ _
    | with_reducible exact Sims.loadCells _ _
    | with_reducible exact Sims.storeCells _ _ _
    | with_reducible exact Sims.choose _
    | with_reducible exact Sims.askRoom _
    | with_reducible exact Sims.noRoom
    | with_reducible exact Sims.numberAt _
    | with_reducible exact Sims.viewAt _
    | with_reducible exact Sims.f2f _ _ _
    | (with_reducible refine Sims.then (ok := fun _ => True) ?_ (fun _ => ?_))
    | (with_reducible refine Sims.ite (fun _ => ?_) (fun _ => ?_))
    | split
    | dsimp only)
theorem Sims.cProduct (a b c d : Nat) : Sims P (fun _ => True) (Op.Complex.product a b c d) := by
  unfold Op.Complex.product Op.Complex.mul Op.Complex.sub Op.Complex.add
  repeat' (first
    | with_reducible exact Sims.pure trivial
    | with_reducible exact Sims.stuck _
    | with_reducible exact Sims.goPanic _
    | with_reducible exact Sims.runtimePanic _
    | with_reducible exact Sims.boundsPanic _ _ _ _
    | with_reducible exact Sims.unsupported _ (by simp)
    | with_reducible exact (Sims.underlying _).mono (fun _ _ => trivial)
    | with_reducible exact (Sims.sizeOf _).mono (fun _ _ => trivial)
    | with_reducible exact (Sims.typeInfo _).mono (fun _ _ => trivial)
    | with_reducible exact (Sims.asIntOf _).mono (fun _ _ => trivial)
    | with_reducible exact (Sims.asBool _).mono (fun _ _ => trivial)
    | with_reducible exact Sims.program.mono (fun _ _ => trivial)
    | with_reducible exact Sims.asInt _
    | with_reducible exact Sims.asAddr _
    | with_reducible exact Sims.sureAddr _
    | with_reducible exact Sims.zeroValue _
    | with_reducible exact Sims.isAgg _
    | with_reducible exact Sims.part _ _ _
    | with_reducible exact Sims.newVar _ _
    | with_reducible exact Sims.newRow _ _
    | with_reducible exact Sims.loadVar _ _
    | with_reducible exact Sims.storeVar _ _ _
    | with_reducible exact Sims.loadCells _ _
    | with_reducible exact Sims.storeCells _ _ _
    | with_reducible exact Sims.choose _
    | with_reducible exact Sims.askRoom _
    | with_reducible exact Sims.noRoom
    | with_reducible exact Sims.numberAt _
    | with_reducible exact Sims.viewAt _
    | with_reducible exact Sims.cArith _ _ _ _
    | (with_reducible refine Sims.then (ok := fun _ => True) ?_ (fun _ => ?_))
    | (with_reducible refine Sims.ite (fun _ => ?_) (fun _ => ?_))
    | split
    | dsimp only)
theorem Sims.cCorrected (s a b c d : Nat) : Sims P (fun _ => True) (Op.Complex.corrected s a b c d) := by
  unfold Op.Complex.corrected Op.Complex.mul Op.Complex.sub Op.Complex.add
  repeat' (first
    | with_reducible exact Sims.pure trivial
    | with_reducible exact Sims.stuck _
    | with_reducible exact Sims.goPanic _
    | with_reducible exact Sims.runtimePanic _
    | with_reducible exact Sims.boundsPanic _ _ _ _
    | with_reducible exact Sims.unsupported _ (by simp)
    | with_reducible exact (Sims.underlying _).mono (fun _ _ => trivial)
    | with_reducible exact (Sims.sizeOf _).mono (fun _ _ => trivial)
    | with_reducible exact (Sims.typeInfo _).mono (fun _ _ => trivial)
    | with_reducible exact (Sims.asIntOf _).mono (fun _ _ => trivial)
    | with_reducible exact (Sims.asBool _).mono (fun _ _ => trivial)
    | with_reducible exact Sims.program.mono (fun _ _ => trivial)
    | with_reducible exact Sims.asInt _
    | with_reducible exact Sims.asAddr _
    | with_reducible exact Sims.sureAddr _
    | with_reducible exact Sims.zeroValue _
    | with_reducible exact Sims.isAgg _
    | with_reducible exact Sims.part _ _ _
    | with_reducible exact Sims.newVar _ _
    | with_reducible exact Sims.newRow _ _
    | with_reducible exact Sims.loadVar _ _
    | with_reducible exact Sims.storeVar _ _ _
    | with_reducible exact Sims.loadCells _ _
    | with_reducible exact Sims.storeCells _ _ _
    | with_reducible exact Sims.choose _
    | with_reducible exact Sims.askRoom _
    | with_reducible exact Sims.noRoom
    | with_reducible exact Sims.numberAt _
    | with_reducible exact Sims.viewAt _
    | with_reducible exact Sims.cArith _ _ _ _
    | (with_reducible refine Sims.then (ok := fun _ => True) ?_ (fun _ => ?_))
    | (with_reducible refine Sims.ite (fun _ => ?_) (fun _ => ?_))
    | split
    | dsimp only)
theorem Sims.cQuotient (a b c d : Nat) : Sims P (fun _ => True) (Op.Complex.quotient a b c d) := by
  unfold Op.Complex.quotient Op.Complex.mul Op.Complex.sub Op.Complex.add Op.Complex.quo
  repeat' (first
    | with_reducible exact Sims.pure trivial
    | with_reducible exact Sims.stuck _
    | with_reducible exact Sims.goPanic _
    | with_reducible exact Sims.runtimePanic _
    | with_reducible exact Sims.boundsPanic _ _ _ _
    | with_reducible exact Sims.unsupported _ (by simp)
    | with_reducible exact (Sims.underlying _).mono (fun _ _ => trivial)
    | with_reducible exact (Sims.sizeOf _).mono (fun _ _ => trivial)
    | with_reducible exact (Sims.typeInfo _).mono (fun _ _ => trivial)
    | with_reducible exact (Sims.asIntOf _).mono (fun _ _ => trivial)
    | with_reducible exact (Sims.asBool _).mono (fun _ _ => trivial)
    | with_reducible exact Sims.program.mono (fun _ _ => trivial)
    | with_reducible exact Sims.asInt _
    | with_reducible exact Sims.asAddr _
    | with_reducible exact Sims.sureAddr _
    | with_reducible exact Sims.zeroValue _
    | with_reducible exact Sims.isAgg _
    | with_reducible exact Sims.part _ _ _
    | with_reducible exact Sims.newVar _ _
    | with_reducible exact Sims.newRow _ _
    | with_reducible exact Sims.loadVar _ _
    | with_reducible exact Sims.storeVar _ _ _
    | with_reducible exact Sims.loadCells _ _
    | with_reducible exact Sims.storeCells _ _ _
    | with_reducible exact Sims.choose _
    | with_reducible exact Sims.askRoom _
    | with_reducible exact Sims.noRoom
    | with_reducible exact Sims.numberAt _
    | with_reducible exact Sims.viewAt _
    | with_reducible exact Sims.cArith _ _ _ _
    | with_reducible exact Sims.cCmp _ _ _ _
    | with_reducible exact Sims.cCorrected _ _ _ _ _
    | (with_reducible refine Sims.then (ok := fun _ => True) ?_ (fun _ => ?_))
    | (with_reducible refine Sims.ite (fun _ => ?_) (fun _ => ?_))
    | split
    | dsimp only)
theorem Sims.complexOp (op : BinOp) (k : FloatKind) (a b c d : Nat) : Sims P (fun _ => True) (Op.complexOp op k a b c d) := by
  unfold Op.complexOp
  repeat' (first
    | with_reducible exact Sims.pure trivial
    | with_reducible exact Sims.stuck _
    | with_reducible exact Sims.goPanic _
    | with_reducible exact Sims.runtimePanic _
    | with_reducible exact Sims.boundsPanic _ _ _ _
    | with_reducible exact Sims.unsupported _ (by simp)
    | with_reducible exact (Sims.underlying _).mono (fun _ _ => trivial)
    | with_reducible exact (Sims.sizeOf _).mono (fun _ _ => trivial)
    | with_reducible exact (Sims.typeInfo _).mono (fun _ _ => trivial)
    | with_reducible exact (Sims.asIntOf _).mono (fun _ _ => trivial)
    | with_reducible exact (Sims.asBool _).mono (fun _ _ => trivial)
    | with_reducible exact Sims.program.mono (fun _ _ => trivial)
    | with_reducible exact Sims.asInt _
    | with_reducible exact Sims.asAddr _
    | with_reducible exact Sims.sureAddr _
    | with_reducible exact Sims.zeroValue _
    | with_reducible exact Sims.isAgg _
    | with_reducible exact Sims.part _ _ _
    | with_reducible exact Sims.newVar _ _
    | with_reducible exact Sims.newRow _ _
    | with_reducible exact Sims.loadVar _ _
    | with_reducible exact Sims.storeVar _ _ _
    | with_reducible exact Sims.loadCells _ _
    | with_reducible exact Sims.storeCells _ _ _
    | with_reducible exact Sims.choose _
    | with_reducible exact Sims.askRoom _
    | with_reducible exact Sims.noRoom
    | with_reducible exact Sims.numberAt _
    | with_reducible exact Sims.viewAt _
    | with_reducible exact Sims.cArith _ _ _ _
    | with_reducible exact Sims.cCmp _ _ _ _
    | with_reducible exact Sims.cConv _ _ _
    | with_reducible exact Sims.cProduct _ _ _ _
    | with_reducible exact Sims.cQuotient _ _ _ _
    | (with_reducible refine Sims.then (ok := fun _ => True) ?_ (fun _ => ?_))
    | (with_reducible refine Sims.ite (fun _ => ?_) (fun _ => ?_))
    | split
    | dsimp only)
end
end Go.Proofs.Ytddnapbdhjifiaa.Rg

namespace Go.Proofs.Ytddnapbdhjifiaa.Rg
open Go.Conc
variable [Kept]
section
variable {P : Program} {α β σ : Type} {ok : α → Prop}

def intT (P : Program) (t : TypeId) : Bool := match P.underlying t with | some (.int _) => true | _ => false
def flatT (P : Program) (t : TypeId) : Bool := match P.underlying t with | some (.int _) | some .bool | some (.slice _) => true | _ => false
def eqT (P : Program) (t : TypeId) : Bool :=
  flatT P t || (match P.underlying t with | some (.struct fs) => !P.stoodInHeld t && fs.all (fun f => flatT P f.type) | _ => false)

theorem Sims.forInList {f : α → σ → Sem (ForInStep σ)} : ∀ (l : List α) (s : σ), (∀ a ∈ l, ∀ s, Sims P (fun _ => True) (f a s)) → Sims P (fun _ => True) (forIn l s f)
  | [], s, _ => by rw [List.forIn_nil]; exact Sims.pure trivial
  | a :: l, s, h => by
    rw [List.forIn_cons]
    refine (h a (by simp) s).then fun r => ?_
    split
    · exact Sims.pure trivial
    · exact Sims.forInList l _ fun b hb => h b (by simp [hb])
theorem Sims.forIn {f : α → σ → Sem (ForInStep σ)} (l : Array α) (s : σ) (h : ∀ a ∈ l, ∀ s, Sims P (fun _ => True) (f a s)) : Sims P (fun _ => True) (forIn l s f) := by
  rw [← Array.forIn_toList]
  exact Sims.forInList _ _ fun a ha => h a (by simpa using ha)

theorem Sims.equalFlat (d : Nat) (t : TypeId) (x y : Value) (h : flatT P t = true) : Sims P (fun _ => True) (Op.equalIn (d + 1) t x y) := by
  unfold Op.equalIn
  refine (Sims.underlying t).bind fun u hu => ?_
  unfold flatT at h
  rw [hu] at h
  cases u <;> first | (cases h; done) | skip
  · repeat' (first
      | with_reducible exact Sims.pure trivial
      | with_reducible exact Sims.stuck _
      | with_reducible exact Sims.goPanic _
      | with_reducible exact Sims.runtimePanic _
      | with_reducible exact Sims.boundsPanic _ _ _ _
      | with_reducible exact Sims.unsupported _ (by simp)
      | with_reducible exact (Sims.underlying _).mono (fun _ _ => trivial)
      | with_reducible exact (Sims.sizeOf _).mono (fun _ _ => trivial)
      | with_reducible exact (Sims.typeInfo _).mono (fun _ _ => trivial)
      | with_reducible exact (Sims.asIntOf _).mono (fun _ _ => trivial)
      | with_reducible exact (Sims.asBool _).mono (fun _ _ => trivial)
      | with_reducible exact Sims.program.mono (fun _ _ => trivial)
      | with_reducible exact Sims.asInt _
      | with_reducible exact Sims.asAddr _
      | with_reducible exact Sims.sureAddr _
      | with_reducible exact Sims.zeroValue _
      | with_reducible exact Sims.isAgg _
      | with_reducible exact Sims.part _ _ _
      | with_reducible exact Sims.newVar _ _
      | with_reducible exact Sims.newRow _ _
      | with_reducible exact Sims.loadVar _ _
      | with_reducible exact Sims.storeVar _ _ _
      | with_reducible exact Sims.loadCells _ _
      | with_reducible exact Sims.storeCells _ _ _
      | with_reducible exact Sims.choose _
      | with_reducible exact Sims.askRoom _
      | with_reducible exact Sims.noRoom
      | with_reducible exact Sims.numberAt _
      | with_reducible exact Sims.viewAt _
      | contradiction
      | with_reducible exact Sims.behindNumber _
      | with_reducible exact Sims.byteOf _
      | (with_reducible refine Sims.then (ok := fun _ => True) ?_ (fun _ => ?_))
      | (with_reducible refine Sims.ite (fun _ => ?_) (fun _ => ?_))
      | split
      | dsimp only)
  · repeat' (first
      | with_reducible exact Sims.pure trivial
      | with_reducible exact Sims.stuck _
      | with_reducible exact Sims.goPanic _
      | with_reducible exact Sims.runtimePanic _
      | with_reducible exact Sims.boundsPanic _ _ _ _
      | with_reducible exact Sims.unsupported _ (by simp)
      | with_reducible exact (Sims.underlying _).mono (fun _ _ => trivial)
      | with_reducible exact (Sims.sizeOf _).mono (fun _ _ => trivial)
      | with_reducible exact (Sims.typeInfo _).mono (fun _ _ => trivial)
      | with_reducible exact (Sims.asIntOf _).mono (fun _ _ => trivial)
      | with_reducible exact (Sims.asBool _).mono (fun _ _ => trivial)
      | with_reducible exact Sims.program.mono (fun _ _ => trivial)
      | with_reducible exact Sims.asInt _
      | with_reducible exact Sims.asAddr _
      | with_reducible exact Sims.sureAddr _
      | with_reducible exact Sims.zeroValue _
      | with_reducible exact Sims.isAgg _
      | with_reducible exact Sims.part _ _ _
      | with_reducible exact Sims.newVar _ _
      | with_reducible exact Sims.newRow _ _
      | with_reducible exact Sims.loadVar _ _
      | with_reducible exact Sims.storeVar _ _ _
      | with_reducible exact Sims.loadCells _ _
      | with_reducible exact Sims.storeCells _ _ _
      | with_reducible exact Sims.choose _
      | with_reducible exact Sims.askRoom _
      | with_reducible exact Sims.noRoom
      | with_reducible exact Sims.numberAt _
      | with_reducible exact Sims.viewAt _
      | contradiction
      | with_reducible exact Sims.behindNumber _
      | with_reducible exact Sims.byteOf _
      | (with_reducible refine Sims.then (ok := fun _ => True) ?_ (fun _ => ?_))
      | (with_reducible refine Sims.ite (fun _ => ?_) (fun _ => ?_))
      | split
      | dsimp only)
  · repeat' (first
      | with_reducible exact Sims.pure trivial
      | with_reducible exact Sims.stuck _
      | with_reducible exact Sims.goPanic _
      | with_reducible exact Sims.runtimePanic _
      | with_reducible exact Sims.boundsPanic _ _ _ _
      | with_reducible exact Sims.unsupported _ (by simp)
      | with_reducible exact (Sims.underlying _).mono (fun _ _ => trivial)
      | with_reducible exact (Sims.sizeOf _).mono (fun _ _ => trivial)
      | with_reducible exact (Sims.typeInfo _).mono (fun _ _ => trivial)
      | with_reducible exact (Sims.asIntOf _).mono (fun _ _ => trivial)
      | with_reducible exact (Sims.asBool _).mono (fun _ _ => trivial)
      | with_reducible exact Sims.program.mono (fun _ _ => trivial)
      | with_reducible exact Sims.asInt _
      | with_reducible exact Sims.asAddr _
      | with_reducible exact Sims.sureAddr _
      | with_reducible exact Sims.zeroValue _
      | with_reducible exact Sims.isAgg _
      | with_reducible exact Sims.part _ _ _
      | with_reducible exact Sims.newVar _ _
      | with_reducible exact Sims.newRow _ _
      | with_reducible exact Sims.loadVar _ _
      | with_reducible exact Sims.storeVar _ _ _
      | with_reducible exact Sims.loadCells _ _
      | with_reducible exact Sims.storeCells _ _ _
      | with_reducible exact Sims.choose _
      | with_reducible exact Sims.askRoom _
      | with_reducible exact Sims.noRoom
      | with_reducible exact Sims.numberAt _
      | with_reducible exact Sims.viewAt _
      | contradiction
      | with_reducible exact Sims.behindNumber _
      | with_reducible exact Sims.byteOf _
      | (with_reducible refine Sims.then (ok := fun _ => True) ?_ (fun _ => ?_))
      | (with_reducible refine Sims.ite (fun _ => ?_) (fun _ => ?_))
      | split
      | dsimp only)
theorem Sims.equal (t : TypeId) (x y : Value) (h : eqT P t = true) : Sims P (fun _ => True) (Op.equal t x y) := by
  show Sims P (fun _ => True) (Op.equalIn (9998 + 1 + 1) t x y)
  unfold eqT at h
  cases hf : flatT P t with
  | true => exact Sims.equalFlat _ t x y hf
  | false =>
    rw [hf] at h
    unfold Op.equalIn
    refine (Sims.underlying t).bind fun u hu => ?_
    rw [hu] at h
    cases u <;> first | (simp at h; done) | skip
    rename_i fs
    simp only [Bool.false_or, Bool.and_eq_true, Bool.not_eq_true', Array.all_eq_true_iff_forall_mem] at h
    obtain ⟨hh, hfs⟩ := h
    have hfor : ∀ xs ys : Array Value, Sims P (fun _ => True) (do
        for f in fs do
          if f.name ≠ "_" then
            if !(← Op.equalIn (9998 + 1) f.type (← Go.part f.type xs f.offset) (← Go.part f.type ys f.offset)) then return false
        return true) := by
      intro xs ys
      refine (Sims.forIn fs _ fun f hm s => ?_).then fun r => ?_
      · have := fun a b => Sims.equalFlat (P := P) 9998 f.type a b (hfs f hm)
        repeat' (first
          | with_reducible exact Sims.pure trivial
          | with_reducible exact Sims.stuck _
          | with_reducible exact Sims.goPanic _
          | with_reducible exact Sims.runtimePanic _
          | with_reducible exact Sims.boundsPanic _ _ _ _
          | with_reducible exact Sims.unsupported _ (by simp)
          | with_reducible exact (Sims.underlying _).mono (fun _ _ => trivial)
          | with_reducible exact (Sims.sizeOf _).mono (fun _ _ => trivial)
          | with_reducible exact (Sims.typeInfo _).mono (fun _ _ => trivial)
          | with_reducible exact (Sims.asIntOf _).mono (fun _ _ => trivial)
          | with_reducible exact (Sims.asBool _).mono (fun _ _ => trivial)
          | with_reducible exact Sims.program.mono (fun _ _ => trivial)
          | with_reducible exact Sims.asInt _
          | with_reducible exact Sims.asAddr _
          | with_reducible exact Sims.sureAddr _
          | with_reducible exact Sims.zeroValue _
          | with_reducible exact Sims.isAgg _
          | with_reducible exact Sims.part _ _ _
          | with_reducible exact Sims.newVar _ _
          | with_reducible exact Sims.newRow _ _
          | with_reducible exact Sims.loadVar _ _
          | with_reducible exact Sims.storeVar _ _ _
          | with_reducible exact Sims.loadCells _ _
          | with_reducible exact Sims.storeCells _ _ _
          | with_reducible exact Sims.choose _
          | with_reducible exact Sims.askRoom _
          | with_reducible exact Sims.noRoom
          | with_reducible exact Sims.numberAt _
          | with_reducible exact Sims.viewAt _
          | with_reducible exact this _ _
          | (with_reducible refine Sims.then (ok := fun _ => True) ?_ (fun _ => ?_))
          | (with_reducible refine Sims.ite (fun _ => ?_) (fun _ => ?_))
          | split
          | dsimp only)
      · repeat' (first
          | with_reducible exact Sims.pure trivial
          | with_reducible exact Sims.stuck _
          | with_reducible exact Sims.goPanic _
          | with_reducible exact Sims.runtimePanic _
          | with_reducible exact Sims.boundsPanic _ _ _ _
          | with_reducible exact Sims.unsupported _ (by simp)
          | with_reducible exact (Sims.underlying _).mono (fun _ _ => trivial)
          | with_reducible exact (Sims.sizeOf _).mono (fun _ _ => trivial)
          | with_reducible exact (Sims.typeInfo _).mono (fun _ _ => trivial)
          | with_reducible exact (Sims.asIntOf _).mono (fun _ _ => trivial)
          | with_reducible exact (Sims.asBool _).mono (fun _ _ => trivial)
          | with_reducible exact Sims.program.mono (fun _ _ => trivial)
          | with_reducible exact Sims.asInt _
          | with_reducible exact Sims.asAddr _
          | with_reducible exact Sims.sureAddr _
          | with_reducible exact Sims.zeroValue _
          | with_reducible exact Sims.isAgg _
          | with_reducible exact Sims.part _ _ _
          | with_reducible exact Sims.newVar _ _
          | with_reducible exact Sims.newRow _ _
          | with_reducible exact Sims.loadVar _ _
          | with_reducible exact Sims.storeVar _ _ _
          | with_reducible exact Sims.loadCells _ _
          | with_reducible exact Sims.storeCells _ _ _
          | with_reducible exact Sims.choose _
          | with_reducible exact Sims.askRoom _
          | with_reducible exact Sims.noRoom
          | with_reducible exact Sims.numberAt _
          | with_reducible exact Sims.viewAt _
          | (with_reducible refine Sims.then (ok := fun _ => True) ?_ (fun _ => ?_))
          | (with_reducible refine Sims.ite (fun _ => ?_) (fun _ => ?_))
          | split
          | dsimp only)
    split <;> first | contradiction | skip
    · rename_i heq
      cases heq
      refine Sims.program.bind fun p hp => ?_
      subst hp
      simp only [hh, Bool.false_eq_true, if_false]
      exact hfor _ _
    · exact Sims.stuck _

def okBin (P : Program) (op : BinOp) (t : TypeId) : Bool := !(op == .eql || op == .neq) || (eqT P t && !P.eqGuardType P.depth t)
theorem Sims.eqGuardNil (t : TypeId) : Sims P (fun _ => True) (Op.eqGuardIn Op.maxDepth t .nilIface .nilIface) := by
  show Sims P (fun _ => True) (Op.eqGuardIn (9999 + 1) t .nilIface .nilIface)
  unfold Op.eqGuardIn
  refine (Sims.underlying t).then fun u => ?_
  split <;> first | contradiction | exact Sims.pure trivial
theorem Sims.eqGuard (op : BinOp) (t : TypeId) (x y : Operand) (a b : Value) (h : okBin P op t = true) : Sims P (fun _ => True) (Go.eqGuard op t x y a b) := by
  unfold Go.eqGuard
  cases op <;> first
    | exact Sims.pure trivial
    | skip
  · have hg : P.eqGuardType P.depth t = false := by
      unfold okBin at h
      simp at h
      exact h.2
    simp only [Bool.not_true, Bool.false_eq_true, if_false]
    split
    · repeat' (first
        | with_reducible exact Sims.pure trivial
        | with_reducible exact Sims.stuck _
        | with_reducible exact Sims.goPanic _
        | with_reducible exact Sims.runtimePanic _
        | with_reducible exact Sims.boundsPanic _ _ _ _
        | with_reducible exact Sims.unsupported _ (by simp)
        | with_reducible exact (Sims.underlying _).mono (fun _ _ => trivial)
        | with_reducible exact (Sims.sizeOf _).mono (fun _ _ => trivial)
        | with_reducible exact (Sims.typeInfo _).mono (fun _ _ => trivial)
        | with_reducible exact (Sims.asIntOf _).mono (fun _ _ => trivial)
        | with_reducible exact (Sims.asBool _).mono (fun _ _ => trivial)
        | with_reducible exact Sims.program.mono (fun _ _ => trivial)
        | with_reducible exact Sims.asInt _
        | with_reducible exact Sims.asAddr _
        | with_reducible exact Sims.sureAddr _
        | with_reducible exact Sims.zeroValue _
        | with_reducible exact Sims.isAgg _
        | with_reducible exact Sims.part _ _ _
        | with_reducible exact Sims.newVar _ _
        | with_reducible exact Sims.newRow _ _
        | with_reducible exact Sims.loadVar _ _
        | with_reducible exact Sims.storeVar _ _ _
        | with_reducible exact Sims.loadCells _ _
        | with_reducible exact Sims.storeCells _ _ _
        | with_reducible exact Sims.choose _
        | with_reducible exact Sims.askRoom _
        | with_reducible exact Sims.noRoom
        | with_reducible exact Sims.numberAt _
        | with_reducible exact Sims.viewAt _
        | with_reducible exact Sims.eqGuardNil _
        | (with_reducible refine Sims.then (ok := fun _ => True) ?_ (fun _ => ?_))
        | (with_reducible refine Sims.ite (fun _ => ?_) (fun _ => ?_))
        | split
        | dsimp only)
    · refine Sims.program.bind fun p hp => Sims.program.bind fun q hq => ?_
      subst hp
      subst hq
      rw [hg]
      exact Sims.pure trivial
    · exact Sims.pure trivial
  · have hg : P.eqGuardType P.depth t = false := by
      unfold okBin at h
      simp at h
      exact h.2
    simp only [Bool.not_true, Bool.false_eq_true, if_false]
    split
    · repeat' (first
        | with_reducible exact Sims.pure trivial
        | with_reducible exact Sims.stuck _
        | with_reducible exact Sims.goPanic _
        | with_reducible exact Sims.runtimePanic _
        | with_reducible exact Sims.boundsPanic _ _ _ _
        | with_reducible exact Sims.unsupported _ (by simp)
        | with_reducible exact (Sims.underlying _).mono (fun _ _ => trivial)
        | with_reducible exact (Sims.sizeOf _).mono (fun _ _ => trivial)
        | with_reducible exact (Sims.typeInfo _).mono (fun _ _ => trivial)
        | with_reducible exact (Sims.asIntOf _).mono (fun _ _ => trivial)
        | with_reducible exact (Sims.asBool _).mono (fun _ _ => trivial)
        | with_reducible exact Sims.program.mono (fun _ _ => trivial)
        | with_reducible exact Sims.asInt _
        | with_reducible exact Sims.asAddr _
        | with_reducible exact Sims.sureAddr _
        | with_reducible exact Sims.zeroValue _
        | with_reducible exact Sims.isAgg _
        | with_reducible exact Sims.part _ _ _
        | with_reducible exact Sims.newVar _ _
        | with_reducible exact Sims.newRow _ _
        | with_reducible exact Sims.loadVar _ _
        | with_reducible exact Sims.storeVar _ _ _
        | with_reducible exact Sims.loadCells _ _
        | with_reducible exact Sims.storeCells _ _ _
        | with_reducible exact Sims.choose _
        | with_reducible exact Sims.askRoom _
        | with_reducible exact Sims.noRoom
        | with_reducible exact Sims.numberAt _
        | with_reducible exact Sims.viewAt _
        | with_reducible exact Sims.eqGuardNil _
        | (with_reducible refine Sims.then (ok := fun _ => True) ?_ (fun _ => ?_))
        | (with_reducible refine Sims.ite (fun _ => ?_) (fun _ => ?_))
        | split
        | dsimp only)
    · refine Sims.program.bind fun p hp => Sims.program.bind fun q hq => ?_
      subst hp
      subst hq
      rw [hg]
      exact Sims.pure trivial
    · exact Sims.pure trivial
theorem Sims.binOp (op : BinOp) (t : TypeId) (x y : Value) (h : okBin P op t = true) : Sims P (fun _ => True) (Go.binOp op t x y) := by
  unfold Go.binOp
  have h1 : op = .eql ∨ op = .neq → eqT P t = true := by
    unfold okBin at h
    rintro (rfl | rfl) <;> simp at h <;> exact h.1
  have h2 : op = .eql → ∀ a b, Sims P (fun _ => True) (Op.equal t a b) := fun e a b => Sims.equal t a b (h1 (.inl e))
  have h3 : op = .neq → ∀ a b, Sims P (fun _ => True) (Op.equal t a b) := fun e a b => Sims.equal t a b (h1 (.inr e))
  clear h1 h
  repeat' (first
    | with_reducible exact Sims.pure trivial
    | with_reducible exact Sims.stuck _
    | with_reducible exact Sims.goPanic _
    | with_reducible exact Sims.runtimePanic _
    | with_reducible exact Sims.boundsPanic _ _ _ _
    | with_reducible exact Sims.unsupported _ (by simp)
    | with_reducible exact (Sims.underlying _).mono (fun _ _ => trivial)
    | with_reducible exact (Sims.sizeOf _).mono (fun _ _ => trivial)
    | with_reducible exact (Sims.typeInfo _).mono (fun _ _ => trivial)
    | with_reducible exact (Sims.asIntOf _).mono (fun _ _ => trivial)
    | with_reducible exact (Sims.asBool _).mono (fun _ _ => trivial)
    | with_reducible exact Sims.program.mono (fun _ _ => trivial)
    | with_reducible exact Sims.asInt _
    | with_reducible exact Sims.asAddr _
    | with_reducible exact Sims.sureAddr _
    | with_reducible exact Sims.zeroValue _
    | with_reducible exact Sims.isAgg _
    | with_reducible exact Sims.part _ _ _
    | with_reducible exact Sims.newVar _ _
    | with_reducible exact Sims.newRow _ _
    | with_reducible exact Sims.loadVar _ _
    | with_reducible exact Sims.storeVar _ _ _
    | with_reducible exact Sims.loadCells _ _
    | with_reducible exact Sims.storeCells _ _ _
    | with_reducible exact Sims.choose _
    | with_reducible exact Sims.askRoom _
    | with_reducible exact Sims.noRoom
    | with_reducible exact Sims.numberAt _
    | with_reducible exact Sims.viewAt _
    | contradiction
    | with_reducible exact Sims.shift _ _ _ _ _
    | with_reducible exact Sims.intArith _ _ _ _
    | with_reducible exact Sims.intDiv _ _ _ _
    | with_reducible exact Sims.intBits _ _ _ _
    | with_reducible exact Sims.intCmp _ _ _
    | with_reducible exact Sims.floatArith _ _ _ _
    | with_reducible exact Sims.floatCmp _ _ _ _
    | with_reducible exact Sims.complexOp _ _ _ _ _ _
    | with_reducible exact Sims.stringOp _ _ _
    | with_reducible exact h2 rfl _ _
    | with_reducible exact h3 rfl _ _
    | with_reducible exact Sims.movedPointer _ _ _
    | with_reducible exact Sims.movedNumber _ _ _
    | with_reducible exact Sims.addrSub _ _ _
    | with_reducible exact Sims.addrCmp _ _ _
    | with_reducible exact Sims.addrMod _ _ _
    | with_reducible exact Sims.behindNumber _
    | (with_reducible refine Sims.then (ok := fun _ => True) ?_ (fun _ => ?_))
    | (with_reducible refine Sims.ite (fun _ => ?_) (fun _ => ?_))
    | split
    | dsimp only)
theorem Sims.convert (s d : TypeId) (x : Value) (hs : intT P s = true) (hd : intT P d = true) : Sims P (fun _ => True) (Go.convert s d x) := by
  unfold Go.convert
  refine (Sims.underlying s).bind fun u hu => (Sims.underlying d).bind fun v hv => ?_
  unfold intT at hs hd
  rw [hu] at hs
  rw [hv] at hd
  cases u <;> first | (cases hs; done) | skip
  cases v <;> first | (cases hd; done) | skip
  have h1 : ∀ k n, Sims P (fun _ => True) (Conv.intToInt k n) := fun k n => Sims.pure trivial
  have h2 : ∀ s b k, Sims P (fun _ => True) (Conv.floatToInt s b k) := fun s b k => by
    unfold Conv.floatToInt
    repeat' (first
      | with_reducible exact Sims.pure trivial
      | with_reducible exact Sims.stuck _
      | with_reducible exact Sims.goPanic _
      | with_reducible exact Sims.runtimePanic _
      | with_reducible exact Sims.boundsPanic _ _ _ _
      | with_reducible exact Sims.unsupported _ (by simp)
      | with_reducible exact (Sims.underlying _).mono (fun _ _ => trivial)
      | with_reducible exact (Sims.sizeOf _).mono (fun _ _ => trivial)
      | with_reducible exact (Sims.typeInfo _).mono (fun _ _ => trivial)
      | with_reducible exact (Sims.asIntOf _).mono (fun _ _ => trivial)
      | with_reducible exact (Sims.asBool _).mono (fun _ _ => trivial)
      | with_reducible exact Sims.program.mono (fun _ _ => trivial)
      | with_reducible exact Sims.asInt _
      | with_reducible exact Sims.asAddr _
      | with_reducible exact Sims.sureAddr _
      | with_reducible exact Sims.zeroValue _
      | with_reducible exact Sims.isAgg _
      | with_reducible exact Sims.part _ _ _
      | with_reducible exact Sims.newVar _ _
      | with_reducible exact Sims.newRow _ _
      | with_reducible exact Sims.loadVar _ _
      | with_reducible exact Sims.storeVar _ _ _
      | with_reducible exact Sims.loadCells _ _
      | with_reducible exact Sims.storeCells _ _ _
      | with_reducible exact Sims.choose _
      | with_reducible exact Sims.askRoom _
      | with_reducible exact Sims.noRoom
      | with_reducible exact Sims.numberAt _
      | with_reducible exact Sims.viewAt _
      | (with_reducible refine Sims.then (ok := fun _ => True) ?_ (fun _ => ?_))
      | (with_reducible refine Sims.ite (fun _ => ?_) (fun _ => ?_))
      | split
      | dsimp only)
  repeat' (first
    | with_reducible exact Sims.pure trivial
    | with_reducible exact Sims.stuck _
    | with_reducible exact Sims.goPanic _
    | with_reducible exact Sims.runtimePanic _
    | with_reducible exact Sims.boundsPanic _ _ _ _
    | with_reducible exact Sims.unsupported _ (by simp)
    | with_reducible exact (Sims.underlying _).mono (fun _ _ => trivial)
    | with_reducible exact (Sims.sizeOf _).mono (fun _ _ => trivial)
    | with_reducible exact (Sims.typeInfo _).mono (fun _ _ => trivial)
    | with_reducible exact (Sims.asIntOf _).mono (fun _ _ => trivial)
    | with_reducible exact (Sims.asBool _).mono (fun _ _ => trivial)
    | with_reducible exact Sims.program.mono (fun _ _ => trivial)
    | with_reducible exact Sims.asInt _
    | with_reducible exact Sims.asAddr _
    | with_reducible exact Sims.sureAddr _
    | with_reducible exact Sims.zeroValue _
    | with_reducible exact Sims.isAgg _
    | with_reducible exact Sims.part _ _ _
    | with_reducible exact Sims.newVar _ _
    | with_reducible exact Sims.newRow _ _
    | with_reducible exact Sims.loadVar _ _
    | with_reducible exact Sims.storeVar _ _ _
    | with_reducible exact Sims.loadCells _ _
    | with_reducible exact Sims.storeCells _ _ _
    | with_reducible exact Sims.choose _
    | with_reducible exact Sims.askRoom _
    | with_reducible exact Sims.noRoom
    | with_reducible exact Sims.numberAt _
    | with_reducible exact Sims.viewAt _
    | contradiction
    | with_reducible exact h1 _ _
    | with_reducible exact h2 _ _ _
    | (with_reducible refine Sims.then (ok := fun _ => True) ?_ (fun _ => ?_))
    | (with_reducible refine Sims.ite (fun _ => ?_) (fun _ => ?_))
    | split
    | dsimp only)
theorem Sims.followBlind : ∀ (l : List FieldStep) (t : TypeId) (x : Option Value), Sims P (fun _ => True) (Go.followBlind l t x)
  | [], _, _ => Sims.pure trivial
  | s :: l, t, x => by
    unfold Go.followBlind
    repeat' (first
      | with_reducible exact Sims.pure trivial
      | with_reducible exact Sims.stuck _
      | with_reducible exact Sims.goPanic _
      | with_reducible exact Sims.runtimePanic _
      | with_reducible exact Sims.boundsPanic _ _ _ _
      | with_reducible exact Sims.unsupported _ (by simp)
      | with_reducible exact (Sims.underlying _).mono (fun _ _ => trivial)
      | with_reducible exact (Sims.sizeOf _).mono (fun _ _ => trivial)
      | with_reducible exact (Sims.typeInfo _).mono (fun _ _ => trivial)
      | with_reducible exact (Sims.asIntOf _).mono (fun _ _ => trivial)
      | with_reducible exact (Sims.asBool _).mono (fun _ _ => trivial)
      | with_reducible exact Sims.program.mono (fun _ _ => trivial)
      | with_reducible exact Sims.asInt _
      | with_reducible exact Sims.asAddr _
      | with_reducible exact Sims.sureAddr _
      | with_reducible exact Sims.zeroValue _
      | with_reducible exact Sims.isAgg _
      | with_reducible exact Sims.part _ _ _
      | with_reducible exact Sims.newVar _ _
      | with_reducible exact Sims.newRow _ _
      | with_reducible exact Sims.loadVar _ _
      | with_reducible exact Sims.storeVar _ _ _
      | with_reducible exact Sims.loadCells _ _
      | with_reducible exact Sims.storeCells _ _ _
      | with_reducible exact Sims.choose _
      | with_reducible exact Sims.askRoom _
      | with_reducible exact Sims.noRoom
      | with_reducible exact Sims.numberAt _
      | with_reducible exact Sims.viewAt _
      | with_reducible exact Sims.followBlind l _ _
      | (with_reducible refine Sims.then (ok := fun _ => True) ?_ (fun _ => ?_))
      | (with_reducible refine Sims.ite (fun _ => ?_) (fun _ => ?_))
      | split
      | dsimp only)
theorem Sims.nilAhead : ∀ (n : Nat) (t : TypeId) (v : Value) (m : String), Sims P (fun _ => True) (Go.nilAhead n t v m)
  | 0, _, _, _ => Sims.pure trivial
  | n + 1, t, v, m => by
    unfold Go.nilAhead
    repeat' (first
      | with_reducible exact Sims.pure trivial
      | with_reducible exact Sims.stuck _
      | with_reducible exact Sims.goPanic _
      | with_reducible exact Sims.runtimePanic _
      | with_reducible exact Sims.boundsPanic _ _ _ _
      | with_reducible exact Sims.unsupported _ (by simp)
      | with_reducible exact (Sims.underlying _).mono (fun _ _ => trivial)
      | with_reducible exact (Sims.sizeOf _).mono (fun _ _ => trivial)
      | with_reducible exact (Sims.typeInfo _).mono (fun _ _ => trivial)
      | with_reducible exact (Sims.asIntOf _).mono (fun _ _ => trivial)
      | with_reducible exact (Sims.asBool _).mono (fun _ _ => trivial)
      | with_reducible exact Sims.program.mono (fun _ _ => trivial)
      | with_reducible exact Sims.asInt _
      | with_reducible exact Sims.asAddr _
      | with_reducible exact Sims.sureAddr _
      | with_reducible exact Sims.zeroValue _
      | with_reducible exact Sims.isAgg _
      | with_reducible exact Sims.part _ _ _
      | with_reducible exact Sims.newVar _ _
      | with_reducible exact Sims.newRow _ _
      | with_reducible exact Sims.loadVar _ _
      | with_reducible exact Sims.storeVar _ _ _
      | with_reducible exact Sims.loadCells _ _
      | with_reducible exact Sims.storeCells _ _ _
      | with_reducible exact Sims.choose _
      | with_reducible exact Sims.askRoom _
      | with_reducible exact Sims.noRoom
      | with_reducible exact Sims.numberAt _
      | with_reducible exact Sims.viewAt _
      | with_reducible exact Sims.followBlind _ _ _
      | with_reducible exact Sims.nilAhead n _ _ _
      | (with_reducible refine Sims.then (ok := fun _ => True) ?_ (fun _ => ?_))
      | (with_reducible refine Sims.ite (fun _ => ?_) (fun _ => ?_))
      | split
      | dsimp only)
theorem Sims.lenOf (v : Value) : Sims P (fun _ => True) (Builtin.lenOf v) := by
  unfold Builtin.lenOf
  repeat' (first
    | with_reducible exact Sims.pure trivial
    | with_reducible exact Sims.stuck _
    | with_reducible exact Sims.goPanic _
    | with_reducible exact Sims.runtimePanic _
    | with_reducible exact Sims.boundsPanic _ _ _ _
    | with_reducible exact Sims.unsupported _ (by simp)
    | with_reducible exact (Sims.underlying _).mono (fun _ _ => trivial)
    | with_reducible exact (Sims.sizeOf _).mono (fun _ _ => trivial)
    | with_reducible exact (Sims.typeInfo _).mono (fun _ _ => trivial)
    | with_reducible exact (Sims.asIntOf _).mono (fun _ _ => trivial)
    | with_reducible exact (Sims.asBool _).mono (fun _ _ => trivial)
    | with_reducible exact Sims.program.mono (fun _ _ => trivial)
    | with_reducible exact Sims.asInt _
    | with_reducible exact Sims.asAddr _
    | with_reducible exact Sims.sureAddr _
    | with_reducible exact Sims.zeroValue _
    | with_reducible exact Sims.isAgg _
    | with_reducible exact Sims.part _ _ _
    | with_reducible exact Sims.newVar _ _
    | with_reducible exact Sims.newRow _ _
    | with_reducible exact Sims.loadVar _ _
    | with_reducible exact Sims.storeVar _ _ _
    | with_reducible exact Sims.loadCells _ _
    | with_reducible exact Sims.storeCells _ _ _
    | with_reducible exact Sims.choose _
    | with_reducible exact Sims.askRoom _
    | with_reducible exact Sims.noRoom
    | with_reducible exact Sims.numberAt _
    | with_reducible exact Sims.viewAt _
    | (with_reducible refine Sims.then (ok := fun _ => True) ?_ (fun _ => ?_))
    | (with_reducible refine Sims.ite (fun _ => ?_) (fun _ => ?_))
    | split
    | dsimp only)
theorem Sims.firstCells (s n : Nat) (v : Value) : Sims P (fun _ => True) (Builtin.firstCells s n v) := by
  unfold Builtin.firstCells
  repeat' (first
    | with_reducible exact Sims.pure trivial
    | with_reducible exact Sims.stuck _
    | with_reducible exact Sims.goPanic _
    | with_reducible exact Sims.runtimePanic _
    | with_reducible exact Sims.boundsPanic _ _ _ _
    | with_reducible exact Sims.unsupported _ (by simp)
    | with_reducible exact (Sims.underlying _).mono (fun _ _ => trivial)
    | with_reducible exact (Sims.sizeOf _).mono (fun _ _ => trivial)
    | with_reducible exact (Sims.typeInfo _).mono (fun _ _ => trivial)
    | with_reducible exact (Sims.asIntOf _).mono (fun _ _ => trivial)
    | with_reducible exact (Sims.asBool _).mono (fun _ _ => trivial)
    | with_reducible exact Sims.program.mono (fun _ _ => trivial)
    | with_reducible exact Sims.asInt _
    | with_reducible exact Sims.asAddr _
    | with_reducible exact Sims.sureAddr _
    | with_reducible exact Sims.zeroValue _
    | with_reducible exact Sims.isAgg _
    | with_reducible exact Sims.part _ _ _
    | with_reducible exact Sims.newVar _ _
    | with_reducible exact Sims.newRow _ _
    | with_reducible exact Sims.loadVar _ _
    | with_reducible exact Sims.storeVar _ _ _
    | with_reducible exact Sims.loadCells _ _
    | with_reducible exact Sims.storeCells _ _ _
    | with_reducible exact Sims.choose _
    | with_reducible exact Sims.askRoom _
    | with_reducible exact Sims.noRoom
    | with_reducible exact Sims.numberAt _
    | with_reducible exact Sims.viewAt _
    | (with_reducible refine Sims.then (ok := fun _ => True) ?_ (fun _ => ?_))
    | (with_reducible refine Sims.ite (fun _ => ?_) (fun _ => ?_))
    | split
    | dsimp only)
theorem Sims.len (ts : Array TypeId) (t : TypeId) (args : Array Value) (h : (ts[0]?).any (flatT P) = true) : Sims P (fun _ => True) (Builtin.len_ ts t args) := by
  unfold Builtin.len_
  split
  case h_2 => exact Sims.stuck _
  rename_i _ t' x hx
  have h' : ts[0]? = some t' := (Prod.mk.inj hx).1
  rw [h'] at h
  simp only [Option.any_some, flatT] at h
  refine (Sims.underlying _).bind fun u hu => ?_
  rw [hu] at h
  cases u <;> first | (cases h; done) | skip
  all_goals (split <;> first | contradiction | exact Sims.pure trivial | exact Sims.stuck _)
end
end Go.Proofs.Ytddnapbdhjifiaa.Rg

namespace Go.Proofs.Ytddnapbdhjifiaa.Rg
open Go.Conc
variable [Kept]
section
variable {P : Program} {α β σ : Type} {ok : α → Prop}

/-- Nothing comes of it, whatever the world. -/
theorem Sims.dead {s : Sem α} (h : ∀ u, ∃ hh u', s.run P u = .halt hh u' ∧ fineHalt hh) : Sims P ok s := by
  intro v w r
  obtain ⟨hh, u', e, hf⟩ := h v
  exact ⟨fun h' v' e' => (by rw [e] at e'; cases e'; exact hf), fun a v' e' => (by rw [e] at e'; cases e')⟩
theorem holdsCells_run (a : Addr) (n : Nat) (u : World) : ∃ b, (Builtin.holdsCells a n).run P u = .ok b u := by
  unfold Builtin.holdsCells
  simp only [Sem.run_bind, run_shape]
  cases u.shape? a.block with
  | none => exact ⟨_, rfl⟩
  | some x => exact ⟨_, rfl⟩
theorem mayShare_run (s l n : Nat) (b : Option Addr) (x : Value) (u : World) : ∃ c, (Builtin.mayShare s l n b x).run P u = .ok c u := by
  have key : ∃ c, (match x with
      | .slice (some b') _ _ => do Pure.pure (!(← Builtin.holdsCells b' (n * s)) || b.any (·.block == b'.block))
      | _ => Pure.pure false : Sem Bool).run P u = .ok c u := by
    split
    · rename_i b' _ _
      obtain ⟨c, hc⟩ := holdsCells_run (P := P) b' (n * s) u
      simp only [Sem.run_bind, hc]
      exact ⟨_, rfl⟩
    · exact ⟨_, rfl⟩
  unfold Builtin.mayShare
  cases b with
  | none =>
    simp only [Sem.run_bind]
    exact key
  | some a =>
    obtain ⟨c, hc⟩ := holdsCells_run (P := P) a (l * s) u
    have hfr : ∀ ad, (Go.frozen ad).run P u = .ok (u.frozen? ad) u := fun ad => rfl
    simp only [Sem.run_bind, hc, hfr, Sem.run_pure, Result.andThen_ok]
    generalize (c && !u.frozen? (a.add (l / 2 * s))) = d
    cases d with
    | false => exact ⟨_, rfl⟩
    | true => exact key
theorem Sims.append (ts : Array TypeId) (t : TypeId) (args : Array Value) (h1 : (ts[1]?).any (fun u => !intT P u) = true) : Sims P (fun _ => True) (Builtin.append_ ts t args) := by
  unfold Builtin.append_
  split
  case h_2 => exact Sims.stuck _
  rename_i _ sType s x _
  refine (Sims.underlying _).then fun d => ?_
  split
  case h_2 => exact Sims.stuck _
  rename_i elem
  split
  case h_2 => exact Sims.stuck _
  rename_i base sLen sCap _
  refine (Sims.sizeOf _).then fun size => ?_
  cases ht : ts[1]? with
  | none => rw [ht] at h1; simp at h1
  | some xt =>
    rw [ht] at h1
    simp only [Option.any_some, Bool.not_eq_true'] at h1
    dsimp only
    refine (Sims.underlying _).bind fun u hu => ?_
    refine Sims.bind (ok := fun b => b = false) (Sims.pure ?_) fun zeros hzeros => ?_
    · unfold intT at h1
      rw [hu] at h1
      cases u <;> first | rfl | simp at h1
    subst hzeros
    simp only [Bool.false_eq_true, if_false, Bool.not_false, if_true, false_or]
    refine (Sims.lenOf _).then fun n => ?_
    refine Sims.ite (fun _ => ?_) (fun _ => ?_)
    · repeat' (first
        | with_reducible exact Sims.pure trivial
        | with_reducible exact Sims.stuck _
        | with_reducible exact Sims.goPanic _
        | with_reducible exact Sims.runtimePanic _
        | with_reducible exact Sims.boundsPanic _ _ _ _
        | with_reducible exact Sims.unsupported _ (by simp)
        | with_reducible exact (Sims.underlying _).mono (fun _ _ => trivial)
        | with_reducible exact (Sims.sizeOf _).mono (fun _ _ => trivial)
        | with_reducible exact (Sims.typeInfo _).mono (fun _ _ => trivial)
        | with_reducible exact (Sims.asIntOf _).mono (fun _ _ => trivial)
        | with_reducible exact (Sims.asBool _).mono (fun _ _ => trivial)
        | with_reducible exact Sims.program.mono (fun _ _ => trivial)
        | with_reducible exact Sims.asInt _
        | with_reducible exact Sims.asAddr _
        | with_reducible exact Sims.sureAddr _
        | with_reducible exact Sims.zeroValue _
        | with_reducible exact Sims.isAgg _
        | with_reducible exact Sims.part _ _ _
        | with_reducible exact Sims.newVar _ _
        | with_reducible exact Sims.newRow _ _
        | with_reducible exact Sims.loadVar _ _
        | with_reducible exact Sims.storeVar _ _ _
        | with_reducible exact Sims.loadCells _ _
        | with_reducible exact Sims.storeCells _ _ _
        | with_reducible exact Sims.choose _
        | with_reducible exact Sims.askRoom _
        | with_reducible exact Sims.noRoom
        | with_reducible exact Sims.numberAt _
        | with_reducible exact Sims.viewAt _
        | with_reducible exact Sims.firstCells _ _ _
        | (with_reducible refine Sims.then (ok := fun _ => True) ?_ (fun _ => ?_))
        | (with_reducible refine Sims.ite (fun _ => ?_) (fun _ => ?_))
        | split
        | dsimp only)
    · have hd : ∀ s l n b x r, Sims P (fun _ => True) (do
          if !(← Builtin.mayShare s l n b x) then mark .noRoom
          (Go.unsupported (.resourceLimit r) : Sem Unit)) := by
        intro s l n b x r
        refine Sims.dead fun u => ?_
        obtain ⟨c, hc⟩ := mayShare_run (P := P) s l n b x u
        simp only [Sem.run_bind, hc]
        cases c <;> exact ⟨_, _, rfl, trivial⟩
      have tail : ∀ need : Nat, Sims P (fun _ => True) (do
          let newCap ← Go.choose (Question.appendCap need sCap elem)
          Go.askRoom (newCap * (← Go.typeInfo elem).bytes)
          let old ← Builtin.firstCells size sLen (Value.slice base sLen sCap)
          let new ← Builtin.firstCells size n x
          let rest := Builtin.zeroCells (← Go.zeroValue elem).cells (newCap - need)
          Pure.pure (Value.slice (some (← Go.newRow elem (old ++ new ++ rest))) need newCap)) := by
        intro need
        repeat' (first
          | with_reducible exact Sims.pure trivial
          | with_reducible exact Sims.stuck _
          | with_reducible exact Sims.goPanic _
          | with_reducible exact Sims.runtimePanic _
          | with_reducible exact Sims.boundsPanic _ _ _ _
          | with_reducible exact Sims.unsupported _ (by simp)
          | with_reducible exact (Sims.underlying _).mono (fun _ _ => trivial)
          | with_reducible exact (Sims.sizeOf _).mono (fun _ _ => trivial)
          | with_reducible exact (Sims.typeInfo _).mono (fun _ _ => trivial)
          | with_reducible exact (Sims.asIntOf _).mono (fun _ _ => trivial)
          | with_reducible exact (Sims.asBool _).mono (fun _ _ => trivial)
          | with_reducible exact Sims.program.mono (fun _ _ => trivial)
          | with_reducible exact Sims.asInt _
          | with_reducible exact Sims.asAddr _
          | with_reducible exact Sims.sureAddr _
          | with_reducible exact Sims.zeroValue _
          | with_reducible exact Sims.isAgg _
          | with_reducible exact Sims.part _ _ _
          | with_reducible exact Sims.newVar _ _
          | with_reducible exact Sims.newRow _ _
          | with_reducible exact Sims.loadVar _ _
          | with_reducible exact Sims.storeVar _ _ _
          | with_reducible exact Sims.loadCells _ _
          | with_reducible exact Sims.storeCells _ _ _
          | with_reducible exact Sims.choose _
          | with_reducible exact Sims.askRoom _
          | with_reducible exact Sims.noRoom
          | with_reducible exact Sims.numberAt _
          | with_reducible exact Sims.viewAt _
          | with_reducible exact Sims.firstCells _ _ _
          | (with_reducible refine Sims.then (ok := fun _ => True) ?_ (fun _ => ?_))
          | (with_reducible refine Sims.ite (fun _ => ?_) (fun _ => ?_))
          | split
          | dsimp only)
      repeat' (first
        | with_reducible exact Sims.pure trivial
        | with_reducible exact Sims.stuck _
        | with_reducible exact Sims.goPanic _
        | with_reducible exact Sims.runtimePanic _
        | with_reducible exact Sims.boundsPanic _ _ _ _
        | with_reducible exact Sims.unsupported _ (by simp)
        | with_reducible exact (Sims.underlying _).mono (fun _ _ => trivial)
        | with_reducible exact (Sims.sizeOf _).mono (fun _ _ => trivial)
        | with_reducible exact (Sims.typeInfo _).mono (fun _ _ => trivial)
        | with_reducible exact (Sims.asIntOf _).mono (fun _ _ => trivial)
        | with_reducible exact (Sims.asBool _).mono (fun _ _ => trivial)
        | with_reducible exact Sims.program.mono (fun _ _ => trivial)
        | with_reducible exact Sims.asInt _
        | with_reducible exact Sims.asAddr _
        | with_reducible exact Sims.sureAddr _
        | with_reducible exact Sims.zeroValue _
        | with_reducible exact Sims.isAgg _
        | with_reducible exact Sims.part _ _ _
        | with_reducible exact Sims.newVar _ _
        | with_reducible exact Sims.newRow _ _
        | with_reducible exact Sims.loadVar _ _
        | with_reducible exact Sims.storeVar _ _ _
        | with_reducible exact Sims.loadCells _ _
        | with_reducible exact Sims.storeCells _ _ _
        | with_reducible exact Sims.choose _
        | with_reducible exact Sims.askRoom _
        | with_reducible exact Sims.noRoom
        | with_reducible exact Sims.numberAt _
        | with_reducible exact Sims.viewAt _
        | with_reducible exact tail _
        | exact hd _ _ _ _ _ _
        | (with_reducible refine Sims.then (ok := fun _ => True) ?_ (fun _ => ?_))
        | (with_reducible refine Sims.ite (fun _ => ?_) (fun _ => ?_))
        | split
        | dsimp only)

/-- What may come of an operation: a value, nothing, the entry of a function of the list. -/
def NextOk (L : List FuncId) : Next → Prop
  | .value _ | .skip => True
  | .enter f _ => f ∈ L
  | _ => False

/-- An operation that the transfer bears. -/
def okOp (P : Program) (L : List FuncId) (o : Oper) : Bool :=
  match o.op with
  | .move _ | .assign _ | .pick _ _ _ | .alloc _ | .box _ _ | .build _ _ | .buildSlice _ _ _ | .load _ _ | .store _ _ _ | .nilCheck _ | .makeSlice _ _ _ | .slice _ _ _ _ _ | .indexAddr _ _ _ | .field _ _ _ | .extract _ _ | .unOp _ _ _ => true
  | .fieldAddr s _ i => roomyField P s i
  | .binOp op t _ _ _ => okBin P op t
  | .convert s d _ => intT P s && intT P d
  | .call c => match c.callee with
    | .builtin .len => (c.argTypes[0]?).any (flatT P)
    | .builtin .append => (c.argTypes[1]?).any (fun u => !intT P u)
    | .value (.func f) => L.contains f
    | _ => false
  | _ => false

/-- A function of the list: it has a Go body. -/
def hasBody (P : Program) (f : FuncId) : Bool := (P.funcs[f]?).any fun fn => fn.body.isSome && !(fn.name == "runtime.NumGoroutine")

theorem Sims.callFunc {L : List FuncId} (f : FuncId) (args : Array Value) (hf : f ∈ L) (hb : hasBody P f = true) : Sims P (NextOk L) (Go.callFunc f args) := by
  unfold Go.callFunc
  refine Sims.program.bind fun p hp => ?_
  subst hp
  unfold hasBody at hb
  cases h : p.funcs[f]? with
  | none => exact Sims.stuck _
  | some fn =>
    rw [h] at hb
    simp only [Option.any_some, Bool.and_eq_true, Bool.not_eq_true'] at hb
    obtain ⟨h1, h2⟩ := hb
    simp only [h2, Bool.false_eq_true, if_false]
    have h3 : fn.body.isNone = false := by cases hx : fn.body <;> simp [hx] at h1 ⊢
    simp only [h3, Bool.false_eq_true, if_false]
    exact Sims.pure hf

theorem Sims.execOp {L : List FuncId} (hL : ∀ f ∈ L, hasBody P f = true) (ρ : Operand → Value) (hρ : ∀ f, ρ (.func f) = .func (.func f) #[] #[]) (o : Oper) (h : okOp P L o = true) : Sims P (NextOk L) (Go.execOp ρ o) := by
  have v : ∀ {s : Sem Value}, Sims P (fun _ => True) s → Sims P (NextOk L) (do Pure.pure (.value (← s))) := fun hs => hs.then fun _ => Sims.pure trivial
  have u : ∀ {s : Sem Unit}, Sims P (fun _ => True) s → Sims P (NextOk L) (do s; Pure.pure .skip) := fun hs => hs.then fun _ => Sims.pure trivial
  unfold okOp at h
  unfold Go.execOp
  dsimp only
  cases ho : o.op with
  | move x => exact Sims.pure trivial
  | assign x => exact Sims.pure trivial
  | pick c a b => exact (Sims.asBool _).then fun _ => Sims.pure trivial
  | alloc e => exact v (Sims.alloc _)
  | box e x => exact v (Sims.box _ _)
  | build t parts => exact v (Sims.build _ _)
  | buildSlice t n parts => exact v (Sims.buildSlice _ _ _)
  | load t a => exact v (Sims.loadAt _ _)
  | store t a x => exact u (Sims.storeAt _ _ _)
  | nilCheck x =>
    try dsimp only
    split
    · exact Sims.runtimePanic _
    · exact Sims.runtimePanic _
    · exact Sims.runtimePanic _
    · split
      · exact Sims.runtimePanic _
      · refine Sims.program.then fun p => (Sims.nilAhead _ _ _ _).then fun b => ?_
        try dsimp only
        refine Sims.ite (fun _ => (Sims.unsupported (ok := fun _ => True) _ (by simp)).then fun _ => Sims.pure trivial) (fun _ => Sims.pure trivial)
      · exact Sims.pure trivial
    · exact Sims.pure trivial
  | makeSlice t l c => exact v (Sims.makeSlice _ _ _)
  | slice t x lo hi mx => exact v (Sims.sliceAt _ _ _ _ _)
  | indexAddr t x i => exact v (Sims.indexAt _ _ _)
  | field t x i => exact v (Sims.field _ _ _)
  | extract t i => exact v (Sims.extract _ _)
  | unOp op t x => exact v (Sims.unary _ _)
  | fieldAddr s x i => rw [ho] at h; exact v (Sims.fieldAt _ _ _ h)
  | binOp op t x y r =>
    rw [ho] at h
    exact v ((Sims.eqGuard _ _ _ _ _ _ h).then fun _ => Sims.binOp _ _ _ _ h)
  | convert s d x =>
    rw [ho] at h
    simp only [Bool.and_eq_true] at h
    exact v (Sims.convert _ _ _ h.1 h.2)
  | call c =>
    rw [ho] at h
    simp only at h
    dsimp only
    unfold resolve
    cases hc : c.callee with
    | builtin b =>
      rw [hc] at h
      cases b <;> first | (simp at h; done) | skip
      · exact v (Sims.append _ _ _ h)
      · exact v (Sims.len _ _ _ h)
    | invoke r n => rw [hc] at h; simp at h
    | value f =>
      rw [hc] at h
      cases f with
      | func f =>
        simp only [hρ, Deferred.ofValue]
        have hf : f ∈ L := by simpa using h
        exact Sims.callFunc f _ hf (hL f hf)
      | _ => simp at h
  | _ => rw [ho] at h; simp at h
end
end Go.Proofs.Ytddnapbdhjifiaa.Rg
