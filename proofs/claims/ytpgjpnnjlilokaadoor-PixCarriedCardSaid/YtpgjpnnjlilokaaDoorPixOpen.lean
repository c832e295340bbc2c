/- How an image among the arguments reads. -/
import Derived.Test.YtpgjpnnjlilokaaDoorProg
import Derived.WalkKit
import Derived.ProofKit
import Derived.OpenShut
import Derived.ShutString
import Derived.ChangeOld
import Derived.Below
import Derived.SizedLaws
import Derived.Lib.SmallJoins
import Derived.Test.YtpgjpnnjlilokaaDoorPixBase
namespace Go.Proofs.YtpgjpnnjlilokaaDoor
open Go.ChangeShapes Go.WideShapes Go.ChangeAt Go.RowKit Go.Joins
set_option maxRecDepth 100000 in
theorem open_bytes {H : Type} {enc : TypeId × Value → H} {w : World} {base : Nat} {spare : Nat → Bool} {held : Bool} {v : Value} {n : Nat} {y : DataW H × List MemPlace}
    (hf : DataW.trod enc Tryd.prog w base spare held n 22 [v] = some y) :
    ∃ (a : Option Addr) (len cap : Nat) (z : Nat → Int), v = .slice a len cap ∧ len ≤ 9223372036854775807 ∧ len ≤ cap ∧ cap ≤ 9223372036854775807 ∧ Row w a len (fun i => .int .u8 (z i)) ∧ ∀ i, (Lit.int .u8 (z i)).wf = true := by
  rcases open_ints Tryd.underlying22 Tryd.underlying5 (by kernel_rfl) hf with ⟨hcs, _⟩ | ⟨x, len, cap, zs, hcs, _, hl, hm, hz, _, hcell, hwz⟩
  · simp at hcs
    subst hcs
    exact ⟨none, 0, 0, fun _ => 0, rfl, by omega, by omega, by omega, fun h => by omega, fun _ => (by decide : (Lit.int .u8 0).wf = true)⟩
  · simp at hcs
    subst hcs
    have hzl : len ≤ zs.length := by rw [hz]; split <;> omega
    refine ⟨some x, len, cap, fun i => zs.getD i 0, rfl, by unfold maxLen at hm; omega, by omega, by unfold maxLen at hm; omega, fun h0 => ?_, fun i => ?_⟩
    · obtain ⟨b, off, spot⟩ := x
      have hc := hcell 0 (by omega)
      have hspot : spot = none := by simpa [Addr.add] using World.cell?_spot hc
      subst hspot
      refine ⟨b, off, rfl, by simpa [Addr.add] using World.block_lt_of_cell? w _ hc, fun i hi => ?_⟩
      have := hcell i (by omega)
      rwa [show (⟨b, off, none⟩ : Addr).add i = ⟨b, off + i, none⟩ from by unfold Addr.add; split <;> simp_all] at this
    · show (Lit.int .u8 (zs.getD i 0)).wf = true
      by_cases hi : i < zs.length
      · have e : zs.getD i 0 = zs[i] := by simp [hi]
        rw [e]; exact hwz _ (List.getElem_mem hi)
      · have e : zs.getD i 0 = 0 := by simp [List.getElem?_eq_none (by omega : zs.length ≤ i)]
        rw [e]; decide
theorem cellsImage : Tryd.prog.cellsOf 24 = 3 := by kernel_rfl
set_option maxRecDepth 100000 in
theorem open_image {H : Type} {enc : TypeId × Value → H} {w : World} {r : Reach} {b0 base : Nat} {spare : Nat → Bool} {held : Bool} {v : Value} {d : DataW H} {p : List MemPlace}
    (hv : Value.okWide Tryd.prog w r b0 24 v) (h : DataW.Trod enc Tryd.prog w base spare held 24 v d p) :
    ∃ (W H : Int) (a : Option Addr) (len cap : Nat) (z : Nat → Int), v = .agg #[.int .i64 W, .int .i64 H, .slice a len cap] ∧ (Lit.int .i64 W).wf = true ∧ (Lit.int .i64 H).wf = true ∧ len ≤ 9223372036854775807 ∧ len ≤ cap ∧ cap ≤ 9223372036854775807 ∧ Row w a len (fun i => .int .u8 (z i)) ∧ ∀ i, (Lit.int .u8 (z i)).wf = true := by
  obtain ⟨v0, v1, v2, y0, y1, y2, n, rfl, _, _, h0, h1, h2⟩ := open_agg3 Tryd.underlying24 (by kernel_rfl) cellsImage hv h
  obtain ⟨a, e0, _, wa⟩ := DataW.trod_int Tryd.underlying3 h0
  obtain ⟨b, e1, _, wb⟩ := DataW.trod_int Tryd.underlying3 h1
  have h2' : DataW.trod enc Tryd.prog w base spare held n 22 [v2] = some y2 := h2
  obtain ⟨x, len, cap, z, e2, rest⟩ := open_bytes h2'
  simp at e0 e1; subst e0 e1 e2
  exact ⟨a, b, x, len, cap, z, rfl, wa, wb, rest⟩
end Go.Proofs.YtpgjpnnjlilokaaDoor
