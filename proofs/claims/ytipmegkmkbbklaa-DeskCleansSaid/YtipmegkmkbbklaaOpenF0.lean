/- How lists of integers, strings and places among the arguments read. -/
import Derived.Test.YtipmegkmkbbklaaOpenP0
import Derived.Test.YtipmegkmkbbklaaRow2
import Derived.Test.YtipmegkmkbbklaaEvents0
import Derived.Deep.SlicePairs
import Derived.SliceStrings
namespace Go.Proofs.Ytipmegkmkbbklaa
open Go.ChangeShapes Go.WideShapes Go.ChangeAt Go.RowKit Go.Joins Go.Deep
set_option linter.unusedVariables false
section
variable {H : Type} {enc : TypeId × Value → H} {w : World} {base : Nat} {spare : Nat → Bool} {held : Bool}
theorem addr_add (b off j : Nat) : (⟨b, off, none⟩ : Addr).add j = ⟨b, off + j, none⟩ := by unfold Addr.add; split <;> simp_all
theorem row_of_cells {x : Addr} {len m : Nat} {V : Nat → Value} (hlm : len ≤ m) (h : ∀ i, i < m → w.cell? (x.add i) = some (V i)) : Row w (some x) len V := by
  intro h0
  obtain ⟨b, off, spot⟩ := x
  have hc := h 0 (by omega)
  have hspot : spot = none := by simpa [Addr.add] using World.cell?_spot hc
  subst hspot
  exact ⟨b, off, rfl, by simpa [Addr.add] using World.block_lt_of_cell? w _ hc, fun i hi => by have := h i (by omega); rwa [addr_add] at this⟩
theorem open_intsF {v : Value} {n : Nat} {y : DataW H × List MemPlace} (hf : DataW.trod enc Try.prog w base spare held n 24 [v] = some y) :
    ∃ (a : Option Addr) (len cap : Nat) (z : Nat → Int), v = .slice a len cap ∧ len ≤ 9223372036854775807 ∧ Row w a len (fun i => .int .i64 (z i)) := by
  rcases open_ints Try.underlying24 Try.underlying3 (by kernel_rfl) hf with ⟨hcs, _⟩ | ⟨x, len, cap, zs, hcs, _, hl, hm, hz, _, hcell, hwz⟩
  · simp at hcs
    subst hcs
    exact ⟨none, 0, 0, fun _ => 0, rfl, by omega, fun h => by omega⟩
  · simp at hcs
    subst hcs
    have hzl : len ≤ zs.length := by rw [hz]; split <;> omega
    exact ⟨some x, len, cap, fun i => zs.getD i 0, rfl, by unfold maxLen at hm; omega, row_of_cells hzl hcell⟩
theorem open_stringsF {v : Value} {n : Nat} {y : DataW H × List MemPlace} (hf : DataW.trod enc Try.prog w base spare held n 23 [v] = some y) :
    ∃ (a : Option Addr) (len cap : Nat) (z : Nat → ByteArray), v = .slice a len cap ∧ len ≤ 9223372036854775807 ∧ Row w a len (fun i => .string (z i)) ∧ ∀ i, i < len → (z i).size ≤ 9223372036854775807 := by
  rcases open_strings Try.underlying23 Try.underlying9 (by kernel_rfl) hf with ⟨hcs, _⟩ | ⟨x, len, cap, zs, hcs, _, hl, hm, hz, _, hcell, hwz⟩
  · simp at hcs
    subst hcs
    exact ⟨none, 0, 0, fun _ => ByteArray.empty, rfl, by omega, fun h => by omega, fun i hi => by omega⟩
  · simp at hcs
    subst hcs
    have hzl : len ≤ zs.length := by rw [hz]; split <;> omega
    refine ⟨some x, len, cap, fun i => zs.getD i ByteArray.empty, rfl, by unfold maxLen at hm; omega, row_of_cells hzl hcell, fun i hi => ?_⟩
    have e : zs.getD i ByteArray.empty = zs[i]'(by omega) := by simp [List.getD_eq_getElem?_getD, List.getElem?_eq_getElem (show i < zs.length by omega)]
    show (zs.getD i ByteArray.empty).size ≤ _
    rw [e]
    have := hwz _ (List.getElem_mem (show i < zs.length by omega))
    unfold maxLen at this; omega
theorem cellsPlace : Try.prog.cellsOf 71 = 2 := by kernel_rfl
theorem open_placesF {v : Value} {n : Nat} {y : DataW H × List MemPlace} (hf : DataW.trod enc Try.prog w base spare held n 22 [v] = some y) :
    ∃ (a : Option Addr) (len cap : Nat) (S T : Nat → Int), v = .slice a len cap ∧ len ≤ 9223372036854775807 ∧ Row2 w a len (fun i => .int .i64 (S i)) (fun i => .int .i64 (T i)) := by
  rcases open_slice_pairs Try.underlying22 Try.underlying71 cellsPlace rfl rfl (by kernel_rfl) (by kernel_rfl) hf with ⟨hcs, _⟩ | ⟨x, l, c, m, n, V0, V1, D0, D1, P0, P1, hcs, _, hl, hm, hmm, _, hx⟩
  · simp at hcs
    subst hcs
    exact ⟨none, 0, 0, fun _ => 0, fun _ => 0, rfl, by omega, fun h => by omega⟩
  · simp at hcs
    subst hcs
    have hlm : l ≤ m := by rw [hmm]; split <;> omega
    obtain ⟨S, T, hr, hw⟩ := row2_of (w := w) (x := x) (V0 := V0) (V1 := V1) hlm (fun i hi => by
      obtain ⟨e0, e1, t0, t1⟩ := hx i hi
      obtain ⟨n0, q0, _, w0⟩ := DataW.trod_int Try.underlying3 t0
      obtain ⟨n1, q1, _, w1⟩ := DataW.trod_int Try.underlying3 t1
      exact ⟨e0, e1, ⟨n0, by simpa using q0, w0⟩, ⟨n1, by simpa using q1, w1⟩⟩)
    exact ⟨some x, l, c, S, T, rfl, by unfold maxLen at hm; omega, hr⟩
theorem some_at {α : Type} {xs : List α} {n i : Nat} (h : xs.length = n) (hi : i < n) : ∃ y, xs[i]? = some y := ⟨_, List.getElem?_eq_getElem (by omega)⟩
end
end Go.Proofs.Ytipmegkmkbbklaa
