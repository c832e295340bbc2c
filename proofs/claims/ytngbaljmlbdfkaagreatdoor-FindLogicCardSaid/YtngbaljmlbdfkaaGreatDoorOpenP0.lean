/- How a slice of pairs of integers among the arguments reads. -/
import Derived.Test.YtngbaljmlbdfkaaGreatDoorOpen
import Derived.Test.YtngbaljmlbdfkaaGreatDoorRow2
import Derived.Deep.SlicePairs
namespace Go.Proofs.YtngbaljmlbdfkaaGreatDoor
open Go.ChangeShapes Go.WideShapes Go.ChangeAt Go.RowKit Go.Joins Go.Deep
theorem row2_of {w : World} {x : Addr} {len m : Nat} {V0 V1 : Nat → Value} (hlm : len ≤ m) (h : ∀ i, i < m → w.cell? (x.add (i * 2)) = some (V0 i) ∧ w.cell? (x.add (i * 2 + 1)) = some (V1 i) ∧ (∃ n, V0 i = .int .i64 n ∧ (Lit.int .i64 n).wf = true) ∧ (∃ n, V1 i = .int .i64 n ∧ (Lit.int .i64 n).wf = true)) :
    ∃ S T : Nat → Int, Row2 w (some x) len (fun i => .int .i64 (S i)) (fun i => .int .i64 (T i)) ∧ (∀ i, i < len → (Lit.int .i64 (S i)).wf = true ∧ (Lit.int .i64 (T i)).wf = true) := by
  refine ⟨fun i => intOf (V0 i), fun i => intOf (V1 i), fun h0 => ?_, fun i hi => ?_⟩
  · obtain ⟨b, off, spot⟩ := x
    have hc := (h 0 (by omega)).1
    have hspot : spot = none := by simpa [Addr.add] using World.cell?_spot hc
    subst hspot
    refine ⟨b, off, rfl, by simpa [Addr.add] using World.block_lt_of_cell? w _ hc, fun i hi => ?_⟩
    obtain ⟨e0, e1, ⟨n0, q0, _⟩, ⟨n1, q1, _⟩⟩ := h i (by omega)
    rw [show (⟨b, off, none⟩ : Addr).add (i * 2) = ⟨b, off + i * 2, none⟩ from by unfold Addr.add; split <;> simp_all, q0] at e0
    rw [show (⟨b, off, none⟩ : Addr).add (i * 2 + 1) = ⟨b, off + i * 2 + 1, none⟩ from by unfold Addr.add; split <;> simp_all; omega, q1] at e1
    show _ = some (Value.int .i64 (intOf (V0 i))) ∧ _ = some (Value.int .i64 (intOf (V1 i)))
    rw [q0, q1]; exact ⟨e0, e1⟩
  · obtain ⟨e0, e1, ⟨n0, q0, w0⟩, ⟨n1, q1, w1⟩⟩ := h i (by omega)
    show (Lit.int .i64 (intOf (V0 i))).wf = true ∧ (Lit.int .i64 (intOf (V1 i))).wf = true
    rw [q0, q1]; exact ⟨w0, w1⟩
end Go.Proofs.YtngbaljmlbdfkaaGreatDoor
