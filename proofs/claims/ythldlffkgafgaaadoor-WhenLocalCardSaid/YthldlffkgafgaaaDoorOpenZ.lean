/- How a zone among the arguments reads. -/
import Derived.Test.YthldlffkgafgaaaDoorOpenP0
namespace Go.Proofs.YthldlffkgafgaaaDoor
open Go.ChangeShapes Go.WideShapes Go.ChangeAt Go.RowKit Go.Joins Go.Deep
theorem cellsZone : Tryd.prog.cellsOf 34 = 2 := by kernel_rfl
theorem cellsChange : Tryd.prog.cellsOf 107 = 2 := by kernel_rfl
set_option maxRecDepth 100000 in
theorem open_zone {H : Type} {enc : TypeId × Value → H} {w : World} {r : Reach} {b0 base : Nat} {spare : Nat → Bool} {held : Bool} {v : Value} {d : DataW H} {p : List MemPlace}
    (hv : Value.okWide Tryd.prog w r b0 34 v) (h : DataW.Trod enc Tryd.prog w base spare held 34 v d p) :
    ∃ (f : Int) (a : Option Addr) (len cap : Nat) (S T : Nat → Int), v = .agg #[.int .i64 f, .slice a len cap] ∧ len ≤ 9223372036854775807 ∧ Row2 w a len (fun i => .int .i64 (S i)) (fun i => .int .i64 (T i)) := by
  obtain ⟨v0, v1, y0, y1, n, rfl, _, _, h0, h1⟩ := open_agg2 Tryd.underlying34 (by kernel_rfl) cellsZone hv h
  obtain ⟨f, e0, _, wf⟩ := DataW.trod_int Tryd.underlying3 h0
  simp at e0; subst e0
  have hf : DataW.trod enc Tryd.prog w base spare held n 32 [v1] = some y1 := h1
  rcases open_slice_pairs Tryd.underlying32 Tryd.underlying107 cellsChange rfl rfl (by kernel_rfl) (by kernel_rfl) hf with ⟨hcs, _⟩ | ⟨x, l, c, m, n, V0, V1, D0, D1, P0, P1, hcs, _, hl, hm, hmm, _, hx⟩
  · simp at hcs
    subst hcs
    exact ⟨f, none, 0, 0, fun _ => 0, fun _ => 0, rfl, by omega, fun h => by omega⟩
  · simp at hcs
    subst hcs
    have hlm : l ≤ m := by rw [hmm]; split <;> omega
    obtain ⟨S, T, hr, hw⟩ := row2_of (w := w) (x := x) (V0 := V0) (V1 := V1) hlm (fun i hi => by
      obtain ⟨e0, e1, t0, t1⟩ := hx i hi
      obtain ⟨n0, q0, _, w0⟩ := DataW.trod_int Tryd.underlying3 t0
      obtain ⟨n1, q1, _, w1⟩ := DataW.trod_int Tryd.underlying3 t1
      exact ⟨e0, e1, ⟨n0, by simpa using q0, w0⟩, ⟨n1, by simpa using q1, w1⟩⟩)
    exact ⟨f, some x, l, c, S, T, rfl, by unfold maxLen at hm; omega, hr⟩
end Go.Proofs.YthldlffkgafgaaaDoor
