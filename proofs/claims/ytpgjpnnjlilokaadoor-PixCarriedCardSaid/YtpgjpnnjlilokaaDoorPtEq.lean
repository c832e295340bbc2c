/- Pixels compared. -/
import Derived.Laws.StructEq
import Derived.Test.YtpgjpnnjlilokaaDoorPtMath
import Derived.Test.YtpgjpnnjlilokaaDoorKit
import Derived.KernelRfl
namespace Go.Proofs.YtpgjpnnjlilokaaDoor
open Go.RowKit Go.Sort
set_option linter.unusedVariables false
set_option maxRecDepth 100000 in
theorem eqPxIn (d : Nat) (p0 p1 p2 q0 q1 q2 : Int) (W : World) : Sem.run Tryd.prog (Op.equalIn (d + 1 + 1) 45 (.agg #[.int .u8 p0, .int .u8 p1, .int .u8 p2]) (.agg #[.int .u8 q0, .int .u8 q1, .int .u8 q2])) W = .ok (decide (p0 = q0 ∧ p1 = q1 ∧ p2 = q2)) W := by
  have u3 := Tryd.underlying5
  have a3 := Tryd.isAgg5
  have z3 := Tryd.sizeOf5
  have hS : Tryd.prog.underlying 45 = some (.array 3 5) := Tryd.underlying45
  rw [Op.equalIn]
  simp only [Sem.run_bind, run_underlying hS, Result.andThen_ok, z3]
  go_simp
  simp only [show List.range' 0 3 = [0, 1, 2] from rfl, List.forIn_cons, List.forIn_nil]
  go_simp
  by_cases h1 : p0 = q0 <;> by_cases h2 : p1 = q1 <;> by_cases h3 : p2 = q2 <;> simp [h1, h2, h3]
theorem eqPx (p0 p1 p2 q0 q1 q2 : Int) (W : World) : Sem.run Tryd.prog (binOp .eql 45 (.agg #[.int .u8 p0, .int .u8 p1, .int .u8 p2]) (.agg #[.int .u8 q0, .int .u8 q1, .int .u8 q2])) W = .ok (.bool (decide (p0 = q0 ∧ p1 = q1 ∧ p2 = q2))) W := by
  rw [run_eql_struct, show (10000 : Nat) = 9998 + 1 + 1 from rfl, eqPxIn]; rfl
theorem pxi0 (x y z : Int) (w : World) : (Instr.index 45 (.agg #[.int .u8 x, .int .u8 y, .int .u8 z]) (.int .i64 0)).run Tryd.prog w = .ok (.int .u8 x) w := by kernel_rfl
theorem pxi1 (x y z : Int) (w : World) : (Instr.index 45 (.agg #[.int .u8 x, .int .u8 y, .int .u8 z]) (.int .i64 1)).run Tryd.prog w = .ok (.int .u8 y) w := by kernel_rfl
theorem pxi2 (x y z : Int) (w : World) : (Instr.index 45 (.agg #[.int .u8 x, .int .u8 y, .int .u8 z]) (.int .i64 2)).run Tryd.prog w = .ok (.int .u8 z) w := by kernel_rfl
theorem guardPx : Tryd.prog.eqGuardType Tryd.prog.depth 45 = false := by kernel_rfl
end Go.Proofs.YtpgjpnnjlilokaaDoor
