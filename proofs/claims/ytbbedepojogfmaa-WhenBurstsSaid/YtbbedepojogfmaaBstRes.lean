/- What the anniversaries are, as a list; the error. -/
import Derived.Test.YtbbedepojogfmaaBstMath
import Derived.Test.YtbbedepojogfmaaEventsMath
import Derived.Test.YtbbedepojogfmaaZoneRef2
namespace Go.Proofs.Ytbbedepojogfmaa
open Go.RowKit
namespace An
def pOut (x : Int) : Bool := decide (x < 0 ∨ 73048 < x)
theorem pOut_t {x : Int} (h : x < 0 ∨ 73048 < x) : pOut x = true := decide_eq_true h
theorem pOut_f {x : Int} (h1 : 0 ≤ x) (h2 : x ≤ 73048) : pOut x = false := decide_eq_false (by omega)
def err (xs : List Int) (day s : Int) : Int := if 1000 < xs.length then 4 else if Ev.anyB pOut (fun i => xs[i]?.getD 0) xs.length = true ∨ day < 0 ∨ 73048 < day ∨ s < 0 ∨ 30 < s then 2 else 0
theorem err_large {xs : List Int} {day s : Int} (h : 1000 < xs.length) : err xs day s = 4 := if_pos h
theorem err_range {xs : List Int} {day s : Int} (h : xs.length ≤ 1000) (g : Ev.anyB pOut (fun i => xs[i]?.getD 0) xs.length = true ∨ day < 0 ∨ 73048 < day ∨ s < 0 ∨ 30 < s) : err xs day s = 2 := by
  unfold err; rw [if_neg (by omega), if_pos g]
theorem err_ok {xs : List Int} {day s : Int} (h : xs.length ≤ 1000) (g : Ev.anyB pOut (fun i => xs[i]?.getD 0) xs.length = false) (h1 : 0 ≤ day) (h2 : day ≤ 73048) (h3 : 0 ≤ s) (h4 : s ≤ 30) : err xs day s = 0 := by
  unfold err; rw [if_neg (by omega), if_neg (by rw [g]; simp; omega)]
/-- Those of the first j that come again. -/
noncomputable def flt (xs : List Int) (day s : Int) (j : Nat) : List Int := (xs.take j).filter (fun x => yes x day s)
theorem flt_0 (xs : List Int) (day s : Int) : flt xs day s 0 = [] := by simp [flt]
theorem flt_len (xs : List Int) (day s : Int) (j : Nat) : (flt xs day s j).length ≤ j := Nat.le_trans (List.length_filter_le _ _) (by rw [List.length_take]; omega)
theorem flt_t {xs : List Int} {day s : Int} {j : Nat} {x : Int} (h : xs[j]? = some x) (g : yes x day s = true) : flt xs day s (j + 1) = flt xs day s j ++ [x] := by
  unfold flt; rw [List.take_add_one, h, List.filter_append]; simp [g]
theorem flt_f {xs : List Int} {day s : Int} {j : Nat} {x : Int} (h : xs[j]? = some x) (g : yes x day s = false) : flt xs day s (j + 1) = flt xs day s j := by
  unfold flt; rw [List.take_add_one, h, List.filter_append]; simp [g]
/-- The days that are handed back. -/
noncomputable def res (xs : List Int) (day s : Int) : List Int := if err xs day s = 0 then flt xs day s xs.length else []
end An
/-- What both hand back. -/
def AnPost (w : World) (xs : List Int) (day s : Int) (e : Ending) (w' : World) : Prop := ∃ a ca, e = .returned (.tuple #[.slice a (An.res xs day s).length ca, .int .i64 (An.err xs day s)]) ∧ RowL w' a (An.res xs day s) ∧ Below w.heap.size w w'
theorem AnPost.bad {w w' : World} {xs : List Int} {day s k : Int} (h : An.err xs day s = k) (hk : k ≠ 0) (hB : Below w.heap.size w w') : AnPost w xs day s (.returned (.tuple #[.slice none 0 0, .int .i64 k])) w' := by
  have hr : An.res xs day s = [] := by unfold An.res; rw [if_neg (by rw [h]; exact hk)]
  exact ⟨none, 0, by rw [hr, h]; rfl, by rw [hr]; exact RowL.nil _ _, hB⟩
theorem AnPost.good {w w' : World} {xs zs : List Int} {day s : Int} {n ca : Nat} {a : Option Addr} (h : An.err xs day s = 0) (hz : An.flt xs day s xs.length = zs) (hn : zs.length = n) (hr : RowL w' a zs) (hB : Below w.heap.size w w') : AnPost w xs day s (.returned (.tuple #[.slice a n ca, .int .i64 0])) w' := by
  have hr' : An.res xs day s = zs := by unfold An.res; rw [if_pos h, hz]
  exact ⟨a, ca, by rw [hr', h, hn], by rw [hr']; exact hr, hB⟩
theorem AnPost.nothing {w w' : World} {xs : List Int} {day s : Int} (h : An.err xs day s = 0) (hz : An.flt xs day s xs.length = []) (hB : Below w.heap.size w w') : AnPost w xs day s (.returned (.tuple #[.slice none 0 0, .int .i64 0])) w' :=
  AnPost.good h hz rfl (RowL.nil _ _) hB
end Go.Proofs.Ytbbedepojogfmaa
