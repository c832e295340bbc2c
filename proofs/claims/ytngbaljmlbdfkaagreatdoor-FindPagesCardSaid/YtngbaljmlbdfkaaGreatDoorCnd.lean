/- A condition as a tree; how it lies in memory. -/
import Derived.Test.YtngbaljmlbdfkaaGreatDoorKit
import Derived.Test.YtngbaljmlbdfkaaGreatDoorEvents0
import Derived.Test.YtngbaljmlbdfkaaGreatDoorRow2
namespace Go.Proofs.YtngbaljmlbdfkaaGreatDoor
open Go.RowKit Go.Sort
set_option linter.unusedVariables false
/-- A condition; its conditions are a function of the place. -/
inductive Cnd where
  | zero
  | mk (op : Int) (ka : Option Addr) (kn kc : Nat) (kids : Nat → Cnd) (text : ByteArray) (low high : Int) (aa : Option Addr) (an ac : Nat) (lat lon : Nat → Int)
namespace Cnd
def cells : Cnd → List Value
  | zero => []
  | mk op ka kn kc _ text low high aa an ac _ _ => [.int .i64 op, .slice ka kn kc, .string text, .int .i64 low, .int .i64 high, .slice aa an ac]
/-- It lies in memory. -/
def In (w : World) : Cnd → Prop
  | zero => False
  | mk op ka kn kc kids text low high aa an ac lat lon =>
    (0 < kn → ∃ b off, ka = some ⟨b, off, none⟩ ∧ b < w.heap.size ∧ ∀ i, i < kn → ∀ j v, (kids i).cells[j]? = some v → w.cell? ⟨b, off + i * 6 + j, none⟩ = some v) ∧
    (∀ i, i < kn → (kids i).In w) ∧ Row2 w aa an (fun i => .int .i64 (lat i)) (fun i => .int .i64 (lon i))
/-- Its lengths are those of Go. -/
def Fits : Cnd → Prop
  | zero => True
  | mk op ka kn kc kids text low high aa an ac lat lon => kn ≤ 9223372036854775807 ∧ an ≤ 9223372036854775807 ∧ text.size ≤ 9223372036854775807 ∧ ∀ i, i < kn → (kids i).Fits
theorem In.keep {w w' : World} (hb : Below w.heap.size w w') : ∀ {c : Cnd}, c.In w → c.In w'
  | zero, h => h
  | mk op ka kn kc kids text low high aa an ac lat lon, ⟨h1, h2, h3⟩ =>
    ⟨fun hk => by
      obtain ⟨b, off, e, hlt, hc⟩ := h1 hk
      exact ⟨b, off, e, Nat.lt_of_lt_of_le hlt hb.size, fun i hi j v hv => (hb.cell (p := ⟨b, off + i * 6 + j, none⟩) hlt).trans (hc i hi j v hv)⟩,
    fun i hi => In.keep hb (h2 i hi), h3.keep hb⟩
end Cnd
end Go.Proofs.YtngbaljmlbdfkaaGreatDoor
