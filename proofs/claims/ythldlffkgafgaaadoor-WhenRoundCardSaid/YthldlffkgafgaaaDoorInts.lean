/- slices.Equal, Clone and Clip of integers. -/
import Derived.ArgAppend
import Derived.WalkSpells
import Derived.Test.YthldlffkgafgaaaDoorOwn
import Derived.Test.YthldlffkgafgaaaDoorEvents0
namespace Go.Proofs.YthldlffkgafgaaaDoor
open Go.RowKit Go.Sort Go.Shelf
set_option linter.unusedVariables false
theorem infoInt : (Tryd.prog.info? 3).map (fun i => (i.zero, i.size, i.bytes)) = some (some (.int .i64 0), 1, 8) := by kernel_rfl
/-- A slice of integers. -/
def RowL (w : World) (a : Option Addr) (xs : List Int) : Prop := Row w a xs.length (fun i => .int .i64 (xs[i]?.getD 0))
theorem RowL.keep {w w' : World} {a : Option Addr} {xs : List Int} (h : RowL w a xs) (hb : Below w.heap.size w w') : RowL w' a xs := Row.keep h hb
theorem RowL.nil (w : World) (a : Option Addr) : RowL w a [] := fun h => by simp at h
theorem getD_at {xs : List Int} {i : Nat} {v : Int} (h : xs[i]? = some v) : xs[i]?.getD 0 = v := by rw [h]; rfl
theorem RowL.of_own {w : World} {base : Nat} {e : TypeId} {g n cap : Nat} {xs : List Int} (h : w.ownsRow base e 1 (.slice (some ⟨g, 0, none⟩) n cap) n (xs.map (Value.int .i64))) : RowL w (some ⟨g, 0, none⟩) xs := by
  intro hl
  have hlen := h.1
  rw [List.length_map, Nat.mul_one] at hlen
  refine ⟨g, 0, rfl, (h.lt g rfl).2, fun i hi => ?_⟩
  rw [Nat.zero_add, h.cellAt i (by omega), List.getElem?_map]; simp [List.getElem?_eq_getElem hi]
theorem row_own_cell {w : World} {base : Nat} {e : TypeId} {g n cap : Nat} {xs : List Int} (h : w.ownsRow base e 1 (.slice (some ⟨g, 0, none⟩) n cap) n (xs.map (Value.int .i64))) (i : Nat) (v : Int) (hi : xs[i]? = some v) : w.cell? ⟨g, i, none⟩ = some (.int .i64 v) := by
  have hlen := h.1
  rw [List.length_map, Nat.mul_one] at hlen
  have := (List.getElem?_eq_some_iff.1 hi).1
  rw [h.cellAt i (by omega), List.getElem?_map, hi]; rfl
theorem clip_ints (a : Option Addr) (n ca : Nat) (w : World) (h : n ≤ ca) (hc : ca ≤ 9223372036854775807) : Calls Tryd.prog 50 #[.slice a n ca] w fun e w' => e = .returned (.slice a n n) ∧ w = w' := by
  go_enter Tryd.func50, Tryd.ntmps50
  go_wp2_with fail
  go_ret
  exact ⟨rfl, rfl⟩
end Go.Proofs.YthldlffkgafgaaaDoor
