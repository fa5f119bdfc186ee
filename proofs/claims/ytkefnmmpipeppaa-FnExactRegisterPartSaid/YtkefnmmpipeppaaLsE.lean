/-
  Plain: '==' and '!=' at structs of three integers.
-/
import Derived.Test.YtkefnmmpipeppaaTri
import Derived.Laws.StructEq
namespace Go.Proofs.Ytkefnmmpipeppaa
open Go.RowKit

theorem eqFields3 {P : Program} (d : Nat) (ti : TypeId) (hti : P.underlying ti = some (.int .i64)) (x y : Tr) (w : World) (fs : List Field)
    (h : fs.map (fun f => (f.name == "_", f.type, f.offset)) = [(false, ti, 0), (false, ti, 1), (false, ti, 2)])
    (hp : ∀ (a b c : Int) (i : Nat) (v : Value), #[Value.int .i64 a, .int .i64 b, .int .i64 c][i]? = some v → (part ti #[.int .i64 a, .int .i64 b, .int .i64 c] i).run P w = .ok v w) :
    (Op.eqFields (d + 1) #[.int .i64 x.a, .int .i64 x.b, .int .i64 x.c] #[.int .i64 y.a, .int .i64 y.b, .int .i64 y.c] fs).run P w = .ok (decide (x = y)) w := by
  have hl : fs.length = 3 := by simpa using congrArg List.length h
  rcases fs with _ | ⟨f1, _ | ⟨f2, _ | ⟨f3, _ | ⟨f4, fr⟩⟩⟩⟩
  · simp at hl
  · simp at hl
  · simp at hl
  · simp only [List.map_cons, List.map_nil, List.cons.injEq, Prod.mk.injEq, and_true] at h
    obtain ⟨⟨a1, a2, a3⟩, ⟨b1, b2, b3⟩, c1, c2, c3⟩ := h
    have n1 : f1.name ≠ "_" := by simpa using a1
    have n2 : f2.name ≠ "_" := by simpa using b1
    have n3 : f3.name ≠ "_" := by simpa using c1
    have p0 : ∀ a b c : Int, (part ti #[.int .i64 a, .int .i64 b, .int .i64 c] 0).run P w = .ok (.int .i64 a) w := fun a b c => hp a b c 0 _ rfl
    have p1 : ∀ a b c : Int, (part ti #[.int .i64 a, .int .i64 b, .int .i64 c] 1).run P w = .ok (.int .i64 b) w := fun a b c => hp a b c 1 _ rfl
    have p2 : ∀ a b c : Int, (part ti #[.int .i64 a, .int .i64 b, .int .i64 c] 2).run P w = .ok (.int .i64 c) w := fun a b c => hp a b c 2 _ rfl
    have ea := run_equalIn_int (P := P) w d ti .i64 .i64 x.a y.a hti
    have eb := run_equalIn_int (P := P) w d ti .i64 .i64 x.b y.b hti
    have ec := run_equalIn_int (P := P) w d ti .i64 .i64 x.c y.c hti
    have hd : decide (x = y) = ((x.a == y.a) && (x.b == y.b) && (x.c == y.c)) := by
      rw [Bool.eq_iff_iff]
      cases x; cases y
      simp [and_assoc]
    rw [hd]
    generalize (x.a == y.a) = qa at *
    generalize (x.b == y.b) = qb at *
    generalize (x.c == y.c) = qc at *
    cases qa <;> cases qb <;> cases qc <;> simp [Op.eqFields, n1, n2, n3, a2, a3, b2, b3, c2, c3, Sem.run_bind, p0, p1, p2, ea, eb, ec]
  · simp at hl

/-- What the walk asks at a struct type T of three integers. -/
def NeqT (P : Program) (T : TypeId) : Prop := ∀ (x y : Tr) (w : World), (binOp .neq T (.agg #[.int .i64 x.a, .int .i64 x.b, .int .i64 x.c]) (.agg #[.int .i64 y.a, .int .i64 y.b, .int .i64 y.c])).run P w = .ok (.bool (!decide (x = y))) w
theorem neqT_of {P : Program} {T ti : TypeId} (ht : P.underlying T = some (.struct (P.fieldsOf T))) (hp : P.stoodInHeld T = false) (hti : P.underlying ti = some (.int .i64)) (hai : ∀ w, (isAgg ti).run P w = .ok false w)
    (h : (P.fieldsOf T).toList.map (fun f => (f.name == "_", f.type, f.offset)) = [(false, ti, 0), (false, ti, 1), (false, ti, 2)]) : NeqT P T := fun x y w => by
  rw [run_neq_struct, run_equalIn_agg w 9999 T _ _ ht hp, eqFields3 9998 ti hti x y w _ h (fun a b c i v hv => by simp [part, hai, hv])]
  rfl

end Go.Proofs.Ytkefnmmpipeppaa
