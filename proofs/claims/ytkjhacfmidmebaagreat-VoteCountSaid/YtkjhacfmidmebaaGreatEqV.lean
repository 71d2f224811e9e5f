/- Two votes, two guilts: are they one? -/
import Derived.Test.YtkjhacfmidmebaaGreatCRep
import Derived.Test.YtkjhacfmidmebaaGreatSortV2
import Derived.Laws.StructEq
namespace Go.Proofs.YtkjhacfmidmebaaGreat
open Go.RowKit

theorem eqIn34 (x y : V) (w : World) : (Op.equalIn 9999 34 (vagg x) (vagg y)).run Tryz.prog w = .ok (decide (x = y)) w := by
  have hS : Tryz.prog.underlying 34 = some (.struct (Tryz.prog.fieldsOf 34)) := by kernel_rfl
  have hp : Tryz.prog.stoodInHeld 34 = false := by kernel_rfl
  unfold vagg
  rw [show (9999 : Nat) = 9998 + 1 from rfl, run_equalIn_agg w 9998 34 _ _ hS hp]
  simp only [Program.fieldsOf, Tryz.underlying34]
  go_simp
  obtain ⟨a, b, c, e, f, g⟩ := x
  obtain ⟨a', b', c', e', f', g'⟩ := y
  by_cases h1 : a = a' <;> by_cases h2 : b = b' <;> by_cases h3 : c = c' <;> by_cases h4 : e = e' <;> by_cases h5 : f = f' <;> by_cases h6 : g = g' <;> simp [h1, h2, h3, h4, h5, h6]
theorem eqV_run (x y : V) (w : World) : (binOp .eql 34 (vagg x) (vagg y)).run Tryz.prog w = .ok (.bool (decide (x = y))) w := by
  have hS : Tryz.prog.underlying 34 = some (.struct (Tryz.prog.fieldsOf 34)) := by kernel_rfl
  have hp : Tryz.prog.stoodInHeld 34 = false := by kernel_rfl
  unfold vagg
  rw [run_eql_struct, show (10000 : Nat) = 9999 + 1 from rfl, run_equalIn_agg w 9999 34 _ _ hS hp]
  simp only [Program.fieldsOf, Tryz.underlying34]
  go_simp
  obtain ⟨a, b, c, d, e, f⟩ := x
  obtain ⟨a', b', c', d', e', f'⟩ := y
  by_cases h1 : a = a' <;> by_cases h2 : b = b' <;> by_cases h3 : c = c' <;> by_cases h4 : d = d' <;> by_cases h5 : e = e' <;> by_cases h6 : f = f' <;> simp [h1, h2, h3, h4, h5, h6]
theorem neqV_run (x y : V) (w : World) : (binOp .neq 34 (vagg x) (vagg y)).run Tryz.prog w = .ok (.bool (!decide (x = y))) w := by
  have h := eqV_run x y w
  unfold vagg at h ⊢
  rw [run_eql_struct] at h
  rw [run_neq_struct]
  rcases hr : (Op.equalIn 10000 34 _ _).run Tryz.prog w with ⟨b, w'⟩ | _ | _
  all_goals (rw [hr] at h; simp [Result.andThen] at h ⊢)
  exact ⟨by rw [h.1], h.2⟩
theorem Tryz.guard34 : Tryz.prog.eqGuardType Tryz.prog.depth 34 = false := by kernel_rfl
theorem Tryz.guard36 : Tryz.prog.eqGuardType Tryz.prog.depth 36 = false := by kernel_rfl

def vcells (v : V) : Array Value := #[.int .i64 v.h, .int .i64 v.r, .int .i64 v.s, .bool v.has, .int .u64 v.blk, .int .i64 v.fr]
def V0 : V := ⟨0, 0, 0, false, 0, 0⟩
/-- A guilt. -/
def gcells (a b : V) : Array Value := #[.int .i64 a.h, .int .i64 a.r, .int .i64 a.s, .bool a.has, .int .u64 a.blk, .int .i64 a.fr, .int .i64 b.h, .int .i64 b.r, .int .i64 b.s, .bool b.has, .int .u64 b.blk, .int .i64 b.fr]
def guiltOf (v : V) (o : Option V) : Value := match o with
  | none => .agg (gcells V0 V0)
  | some u => .agg (gcells u v)
set_option maxRecDepth 100000 in
theorem neqG_run (a b : V) (w : World) : (binOp .neq 36 (.agg (gcells a b)) (.agg (gcells a b))).run Tryz.prog w = .ok (.bool false) w := by
  have hS : Tryz.prog.underlying 36 = some (.struct (Tryz.prog.fieldsOf 36)) := by kernel_rfl
  have hp : Tryz.prog.stoodInHeld 36 = false := by kernel_rfl
  have h1 := fun w => eqIn34 a a w
  have h2 := fun w => eqIn34 b b w
  unfold vagg at h1 h2
  simp at h1 h2
  unfold gcells
  rw [run_neq_struct, show (10000 : Nat) = 9999 + 1 from rfl, run_equalIn_agg w 9999 36 _ _ hS hp]
  simp only [Program.fieldsOf, Tryz.underlying36]
  go_simp
end Go.Proofs.YtkjhacfmidmebaaGreat
