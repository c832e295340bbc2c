/- where.IsName, find.low: contracts. -/
import Derived.Lib.ConvBytes
import Derived.Laws.Closers25
import Derived.Test.YthldlffkgafgaaaDoorFdStr2
namespace Go.Proofs.YthldlffkgafgaaaDoor
open Go.RowKit Go.Sort Go.Shelf
set_option linter.unusedVariables false
theorem strEmpty_no (s : ByteArray) (h : s.size ≠ 0) : s.toList.isEmpty = false := by
  rw [← decide_eq_emptyBytes]; exact decide_eq_false fun e => h (by rw [e]; rfl)
theorem strEmpty_yes (s : ByteArray) (h : s.size = 0) : s.toList.isEmpty = true := by
  rw [← decide_eq_emptyBytes]
  refine decide_eq_true ?_
  obtain ⟨d⟩ := s
  have : d = #[] := Array.eq_empty_of_size_eq_zero h
  subst this; rfl
/-- The bytes of a string in a new row. -/
theorem bytesWorld_below (w : World) (e : TypeId) (s : ByteArray) : Below w.heap.size w (Lib.bytesWorld w e s) := by
  refine ⟨rfl, rfl, rfl, by rw [Lib.bytesWorld_size]; omega, fun b hb => Lib.bytesWorld_at_old w e s b hb⟩
end Go.Proofs.YthldlffkgafgaaaDoor
