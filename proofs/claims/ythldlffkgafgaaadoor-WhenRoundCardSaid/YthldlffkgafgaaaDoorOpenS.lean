/- How a stretch reads. -/
import Derived.Test.YthldlffkgafgaaaDoorOpen
namespace Go.Proofs.YthldlffkgafgaaaDoor
open Go.ChangeShapes Go.WideShapes Go.ChangeAt Go.RowKit Go.Joins
theorem cellsStretch : Tryd.prog.cellsOf 45 = 2 := by kernel_rfl
set_option maxRecDepth 100000 in
theorem open_stretch {H : Type} {enc : TypeId × Value → H} {w : World} {r : Reach} {b0 base : Nat} {spare : Nat → Bool} {held : Bool} {v : Value} {d : DataW H} {p : List MemPlace}
    (hv : Value.okWide Tryd.prog w r b0 45 v) (h : DataW.Trod enc Tryd.prog w base spare held 45 v d p) :
    ∃ a b : Int, v = .agg #[.int .i64 a, .int .i64 b] ∧ (Lit.int .i64 a).wf = true ∧ (Lit.int .i64 b).wf = true := by
  obtain ⟨v0, v1, y0, y1, n, rfl, _, _, h0, h1⟩ := open_agg2 Tryd.underlying45 (by kernel_rfl) cellsStretch hv h
  obtain ⟨a, e0, _, wa⟩ := DataW.trod_int Tryd.underlying3 h0
  obtain ⟨b, e1, _, wb⟩ := DataW.trod_int Tryd.underlying3 h1
  simp at e0 e1; subst e0 e1
  exact ⟨a, b, rfl, wa, wb⟩
end Go.Proofs.YthldlffkgafgaaaDoor
