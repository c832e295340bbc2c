/- How a slice of pairs of integers among the arguments reads. -/
import Derived.Test.YtdhfhcpgjokhlaaOpenL
import Derived.Test.YtdhfhcpgjokhlaaClock
import Derived.Deep.SlicePairs
namespace Go.Proofs.Ytdhfhcpgjokhlaa
open Go.ChangeShapes Go.WideShapes Go.ChangeAt Go.RowKit Go.Joins Go.Deep
theorem row2_of {w : World} {x : Addr} {len m : Nat} {V0 V1 : Nat → Value} (hlm : len ≤ m) (h : ∀ i, i < m → w.cell? (x.add (i * 2)) = some (V0 i) ∧ w.cell? (x.add (i * 2 + 1)) = some (V1 i) ∧ (∃ n, V0 i = .int .i64 n ∧ (Lit.int .i64 n).wf = true) ∧ (∃ n, V1 i = .int .i64 n ∧ (Lit.int .i64 n).wf = true)) :
    ∃ S T : Nat → Int, Row2 w (some x) len (fun i => .int .i64 (S i)) (fun i => .int .i64 (T i)) ∧ (∀ i, i < len → (Lit.int .i64 (S i)).wf = true ∧ (Lit.int .i64 (T i)).wf = true) := by
  refine ⟨fun i => intOf (V0 i), fun i => intOf (V1 i), fun h0 => ?_, fun i hi => ?_⟩
  · obtain ⟨b, off, spot⟩ := x
    have hc := (h 0 (by omega)).1
    have hspot : spot = none := by simpa [Addr.add] using World.cell?_spot hc
    subst hspot
    refine ⟨b, off, rfl, by simpa [Addr.add] using World.block_lt_of_cell? w _ hc, fun i hi => ?_⟩
    obtain ⟨e0, e1, ⟨n0, q0, _⟩, ⟨n1, q1, _⟩⟩ := h i (by omega)
    rw [show (⟨b, off, none⟩ : Addr).add (i * 2) = ⟨b, off + i * 2, none⟩ from by unfold Addr.add; split <;> simp_all, q0] at e0
    rw [show (⟨b, off, none⟩ : Addr).add (i * 2 + 1) = ⟨b, off + i * 2 + 1, none⟩ from by unfold Addr.add; split <;> simp_all; omega, q1] at e1
    show _ = some (Value.int .i64 (intOf (V0 i))) ∧ _ = some (Value.int .i64 (intOf (V1 i)))
    rw [q0, q1]; exact ⟨e0, e1⟩
  · obtain ⟨e0, e1, ⟨n0, q0, w0⟩, ⟨n1, q1, w1⟩⟩ := h i (by omega)
    show (Lit.int .i64 (intOf (V0 i))).wf = true ∧ (Lit.int .i64 (intOf (V1 i))).wf = true
    rw [q0, q1]; exact ⟨w0, w1⟩
-- open_pairs: the theorem's name; []when.Pair: the slice's type; when.Pair: the struct's
theorem cells_open_pairs : Try.prog.cellsOf 79 = 2 := by kernel_rfl
set_option maxRecDepth 100000 in
theorem open_pairs {H : Type} {enc : TypeId × Value → H} {w : World} {r : Reach} {b0 base : Nat} {spare : Nat → Bool} {held : Bool} {v : Value} {d : DataW H} {p : List MemPlace}
    (hv : Value.okWide Try.prog w r b0 45 v) (h : DataW.Trod enc Try.prog w base spare held 45 v d p) :
    ∃ (a : Option Addr) (len cap : Nat) (S T : Nat → Int), v = .slice a len cap ∧ len ≤ 9223372036854775807 ∧ Row2 w a len (fun i => .int .i64 (S i)) (fun i => .int .i64 (T i)) ∧ ∀ i, i < len → (Lit.int .i64 (S i)).wf = true ∧ (Lit.int .i64 (T i)).wf = true := by
  obtain ⟨a, len, cap, rfl⟩ := okWide_slice Try.underlying45 hv
  obtain ⟨fuel, hf⟩ := h
  rcases open_slice_pairs Try.underlying45 Try.underlying79 cells_open_pairs rfl rfl (by kernel_rfl) (by kernel_rfl) hf with ⟨hcs, _⟩ | ⟨x, l, c, m, n, V0, V1, D0, D1, P0, P1, hcs, _, hl, hm, hmm, _, hx⟩
  · simp [Value.cells] at hcs
    obtain ⟨rfl, rfl, rfl⟩ := hcs
    exact ⟨none, 0, 0, fun _ => 0, fun _ => 0, rfl, by omega, fun h => by omega, fun i hi => by omega⟩
  · simp [Value.cells] at hcs
    obtain ⟨rfl, rfl, rfl⟩ := hcs
    have hlm : len ≤ m := by rw [hmm]; split <;> omega
    obtain ⟨S, T, hr, hw⟩ := row2_of (w := w) (x := x) (V0 := V0) (V1 := V1) hlm (fun i hi => by
      obtain ⟨e0, e1, t0, t1⟩ := hx i hi
      obtain ⟨n0, q0, _, w0⟩ := DataW.trod_int Try.underlying3 t0
      obtain ⟨n1, q1, _, w1⟩ := DataW.trod_int Try.underlying3 t1
      exact ⟨e0, e1, ⟨n0, by simpa using q0, w0⟩, ⟨n1, by simpa using q1, w1⟩⟩)
    exact ⟨some x, len, cap, S, T, rfl, by unfold maxLen at hm; omega, hr, hw⟩
end Go.Proofs.Ytdhfhcpgjokhlaa
