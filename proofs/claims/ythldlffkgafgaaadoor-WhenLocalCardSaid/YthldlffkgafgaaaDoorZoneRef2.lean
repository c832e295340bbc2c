/- The reference's MomentsOf: the moments with given local seconds, in order. -/
import Derived.Maps.AppendAt
import Derived.Test.YthldlffkgafgaaaDoorZoneRef
namespace Go.Proofs.YthldlffkgafgaaaDoor
open Go.RowKit Go.Sort Go.Shelf
set_option linter.unusedVariables false
/-- A list of numbers in memory of the call's own or nil. -/
def ListPost (w : World) (xs : List Int) (e : Ending) (w' : World) : Prop := ∃ a ca, e = .returned (.slice a xs.length ca) ∧ RowL w' a xs ∧ Below w.heap.size w w'
theorem own_below {w w' : World} {base : Nat} {e : TypeId} {size : Nat} {v : Value} {n : Nat} {xs : List Value} (h : w.ownsRow base e size v n xs) (hb : Below w.heap.size w w') : w'.ownsRow base e size v n xs :=
  h.kept (row := none) ⟨hb.os, hb.tape, hb.output, hb.size, fun k hk _ => hb.block k hk⟩ (by cases v.ownBlock <;> simp)
theorem own_apart {w : World} {base : Nat} {e : TypeId} {size : Nat} {v : Value} {n : Nat} {xs : List Value} (h : w.ownsRow (base + 1) e size v n xs) (b : Nat) (hb : b ≤ base) : some b ≠ v.ownBlock := by
  intro he
  have := (h.lt b he.symm).1
  omega
end Go.Proofs.YthldlffkgafgaaaDoor
