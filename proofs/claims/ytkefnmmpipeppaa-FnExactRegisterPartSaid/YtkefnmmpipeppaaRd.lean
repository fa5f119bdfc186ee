/-
  Contracts: is a replica valid?
-/
import Derived.Test.YtkefnmmpipeppaaRc
import Derived.Test.YtkefnmmpipeppaaLsE
namespace Go.Proofs.Ytkefnmmpipeppaa
open Go.RowKit

/-- '==' at a struct type T of three integers. -/
def EqlT (P : Program) (T : TypeId) : Prop := ∀ (x y : Tr) (w : World), (Op.equalIn 10000 T (.agg #[.int .i64 x.a, .int .i64 x.b, .int .i64 x.c]) (.agg #[.int .i64 y.a, .int .i64 y.b, .int .i64 y.c])).run P w = .ok (decide (x = y)) w
theorem eqlT_of {P : Program} {T ti : TypeId} (ht : P.underlying T = some (.struct (P.fieldsOf T))) (hp : P.stoodInHeld T = false) (hti : P.underlying ti = some (.int .i64)) (hai : ∀ w, (isAgg ti).run P w = .ok false w)
    (h : (P.fieldsOf T).toList.map (fun f => (f.name == "_", f.type, f.offset)) = [(false, ti, 0), (false, ti, 1), (false, ti, 2)]) : EqlT P T := fun x y w => by
  rw [run_equalIn_agg w 9999 T _ _ ht hp, eqFields3 9998 ti hti x y w _ h (fun a b c i v hv => by simp [part, hai, hv])]
theorem Try.eqlReplica : EqlT Try.prog 26 := eqlT_of (ti := 3) (by kernel_rfl) (by kernel_rfl) Try.underlying3 (fun w => by kernel_rfl) (by kernel_rfl)

theorem eql_at {P : Program} {T : TypeId} {x : Tr} {c : Bool} (h : EqlT P T) (h0 : decide (x = ⟨0, 0, 0⟩) = c) (w : World) : (Op.equalIn 10000 T (.agg #[.int .i64 x.a, .int .i64 x.b, .int .i64 x.c]) (.agg #[.int .i64 0, .int .i64 0, .int .i64 0])).run P w = .ok c w := by
  have := h x ⟨0, 0, 0⟩ w
  rw [h0] at this
  exact this
/-- A valid replica. -/
def rOk (x : Tr) : Bool := decide (x = ⟨0, 0, 0⟩) || (inR x.a 1 99 && okP x.b && inR x.c 0 99)

set_option maxHeartbeats 1000000 in
theorem iOk_any (x : Tr) (w : World) :
    Calls Try.prog 37 #[.agg #[.int .i64 x.a, .int .i64 x.b, .int .i64 x.c]] w fun e w' => e = .returned (.bool (rOk x)) ∧ Below w.heap.size w w' := by
  have hB := (Below.refl w.heap.size w).alloc (Nat.le_refl _) (.cells #[.int .i64 x.a, .int .i64 x.b, .int .i64 x.c] 26)
  have HB := Lib.hid hB
  clear hB
  cases h0 : decide (x = ⟨0, 0, 0⟩)
  · have qe : ∀ w, (Op.equalIn 10000 26 (.agg #[.int .i64 x.a, .int .i64 x.b, .int .i64 x.c]) (.agg #[.int .i64 0, .int .i64 0, .int .i64 0])).run Try.prog w = .ok false w := fun w => eql_at Try.eqlReplica h0 w
    have H0 := Lib.hid h0
    clear h0
    cases h1 : inR x.a 1 99 <;> cases h2 : okP x.b <;> cases h3 : inR x.c 0 99
    all_goals
      have H1 := Lib.hid h1
      have H2 := Lib.hid h2
      have H3 := Lib.hid h3
      clear h1 h2 h3
      go_enter Try.func37, Try.ntmps37
      go_wp2_with (first | (go_at_call 54; with_reducible refine (posok_any _ _).mono ?_; rw [H2.out]; rintro e w' ⟨rfl, rfl⟩) | (go_at_call 43; with_reducible refine (inRange_any x.a _ _ _).mono ?_; rw [H1.out]; rintro e w' ⟨rfl, rfl⟩) | (go_at_call 43; with_reducible refine (inRange_any x.c _ _ _).mono ?_; rw [H3.out]; rintro e w' ⟨rfl, rfl⟩))
      go_ret
      exact ⟨by simp [rOk, H0.out, H1.out, H2.out, H3.out], HB.out⟩
  · have qe : ∀ w, (Op.equalIn 10000 26 (.agg #[.int .i64 x.a, .int .i64 x.b, .int .i64 x.c]) (.agg #[.int .i64 0, .int .i64 0, .int .i64 0])).run Try.prog w = .ok true w := fun w => eql_at Try.eqlReplica h0 w
    have H0 := Lib.hid h0
    clear h0
    go_enter Try.func37, Try.ntmps37
    go_wp2
    go_ret
    exact ⟨by simp [rOk, H0.out], HB.out⟩
end Go.Proofs.Ytkefnmmpipeppaa
