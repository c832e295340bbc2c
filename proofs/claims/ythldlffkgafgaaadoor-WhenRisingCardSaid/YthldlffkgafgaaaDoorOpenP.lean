/- How a slice of pairs of integers among the arguments reads. -/
import Derived.Test.YthldlffkgafgaaaDoorOpenP0
import Derived.Test.YthldlffkgafgaaaDoorClock
namespace Go.Proofs.YthldlffkgafgaaaDoor
open Go.ChangeShapes Go.WideShapes Go.ChangeAt Go.RowKit Go.Joins Go.Deep
-- open_pairs: the theorem's name; []when.Pair: the slice's type; when.Pair: the struct's
theorem cells_open_pairs : Tryd.prog.cellsOf 102 = 2 := by kernel_rfl
set_option maxRecDepth 100000 in
theorem open_pairs {H : Type} {enc : TypeId × Value → H} {w : World} {r : Reach} {b0 base : Nat} {spare : Nat → Bool} {held : Bool} {v : Value} {d : DataW H} {p : List MemPlace}
    (hv : Value.okWide Tryd.prog w r b0 27 v) (h : DataW.Trod enc Tryd.prog w base spare held 27 v d p) :
    ∃ (a : Option Addr) (len cap : Nat) (S T : Nat → Int), v = .slice a len cap ∧ len ≤ 9223372036854775807 ∧ Row2 w a len (fun i => .int .i64 (S i)) (fun i => .int .i64 (T i)) ∧ ∀ i, i < len → (Lit.int .i64 (S i)).wf = true ∧ (Lit.int .i64 (T i)).wf = true := by
  obtain ⟨a, len, cap, rfl⟩ := okWide_slice Tryd.underlying27 hv
  obtain ⟨fuel, hf⟩ := h
  rcases open_slice_pairs Tryd.underlying27 Tryd.underlying102 cells_open_pairs rfl rfl (by kernel_rfl) (by kernel_rfl) hf with ⟨hcs, _⟩ | ⟨x, l, c, m, n, V0, V1, D0, D1, P0, P1, hcs, _, hl, hm, hmm, _, hx⟩
  · simp [Value.cells] at hcs
    obtain ⟨rfl, rfl, rfl⟩ := hcs
    exact ⟨none, 0, 0, fun _ => 0, fun _ => 0, rfl, by omega, fun h => by omega, fun i hi => by omega⟩
  · simp [Value.cells] at hcs
    obtain ⟨rfl, rfl, rfl⟩ := hcs
    have hlm : len ≤ m := by rw [hmm]; split <;> omega
    obtain ⟨S, T, hr, hw⟩ := row2_of (w := w) (x := x) (V0 := V0) (V1 := V1) hlm (fun i hi => by
      obtain ⟨e0, e1, t0, t1⟩ := hx i hi
      obtain ⟨n0, q0, _, w0⟩ := DataW.trod_int Tryd.underlying3 t0
      obtain ⟨n1, q1, _, w1⟩ := DataW.trod_int Tryd.underlying3 t1
      exact ⟨e0, e1, ⟨n0, by simpa using q0, w0⟩, ⟨n1, by simpa using q1, w1⟩⟩)
    exact ⟨some x, len, cap, S, T, rfl, by unfold maxLen at hm; omega, hr, hw⟩
end Go.Proofs.YthldlffkgafgaaaDoor
