/- slices.Clone and Clip of a photo's slices. -/
import Derived.Test.YtngbaljmlbdfkaaGreatDoorFdPh
import Derived.Test.YtngbaljmlbdfkaaGreatDoorOwn
import Derived.Deep.AppendLies
import Derived.Deep.DeepCutAuto
import Derived.Laws.Tables
import Derived.Laws.Rows
import Derived.Laws.CopyOwn
namespace Go.Proofs.YtngbaljmlbdfkaaGreatDoor
open Go.RowKit Go.Sort Go.Shelf
set_option linter.unusedVariables false
/-- A slice's cells, k of each element. -/
def RowK (w : World) (a : Option Addr) (n k : Nat) (F : Nat → Value) : Prop := 0 < n → ∃ b off, a = some ⟨b, off, none⟩ ∧ b < w.heap.size ∧ ∀ i, i < n * k → w.cell? ⟨b, off + i, none⟩ = some (F i)
/-- The slice lies in new memory. -/
def NewK (B : Nat) (a : Option Addr) (n : Nat) : Prop := 0 < n → ∃ g, a = some ⟨g, 0, none⟩ ∧ B ≤ g
def ClonePost (w : World) (n k : Nat) (F : Nat → Value) (e : Ending) (w' : World) : Prop := ∃ a' ca', e = .returned (.slice a' n ca') ∧ n ≤ ca' ∧ ca' ≤ 9223372036854775807 ∧ RowK w' a' n k F ∧ NewK w.heap.size a' n ∧ Below w.heap.size w w'
theorem RowK.of_own {w : World} {base g n cap k : Nat} {e : TypeId} {F : Nat → Value} (h : w.ownsRow base e k (.slice (some ⟨g, 0, none⟩) n cap) n ((List.range (n * k)).map F)) : RowK w (some ⟨g, 0, none⟩) n k F := by
  intro _
  refine ⟨g, 0, rfl, (h.lt g rfl).2, fun i hi => ?_⟩
  rw [Nat.zero_add, h.cellAt i hi, List.getElem?_map, List.getElem?_range hi]; rfl
theorem RowK.setNew {w : World} {a : Option Addr} {n k B : Nat} {F : Nat → Value} (h : RowK w a n k F) (hn : NewK B a n) {p : Addr} (hp : p.block < B) (v : Value) : RowK (w.setCell p v) a n k F := by
  intro h0
  obtain ⟨b, off, rfl, hb, hc⟩ := h h0
  obtain ⟨g, hg, hB⟩ := hn h0
  injection hg with hg
  injection hg with hg1 hg2
  subst hg1 hg2
  refine ⟨b, 0, rfl, by simpa using hb, fun i hi => ?_⟩
  have := hc i hi
  unfold World.cell? at this ⊢
  rw [Below.heap_setCell w _ v b (by omega)]
  exact this
theorem NewK.down {B B' : Nat} {a : Option Addr} {n : Nat} (h : NewK B a n) (hB : B' ≤ B) : NewK B' a n := fun h0 => by
  obtain ⟨g, hg, hb⟩ := h h0
  exact ⟨g, hg, by omega⟩
theorem infoIntC : (Tryz.prog.info? 3).map (fun i => (i.zero, i.size, i.bytes)) = some (some (.int .i64 0), 1, 8) := by kernel_rfl
theorem infoStrC : (Tryz.prog.info? 9).map (fun i => (i.zero, i.size, i.bytes)) = some (some (.string ByteArray.empty), 1, 16) := by kernel_rfl
theorem infoPlaceC : (Tryz.prog.info? 112).map (fun i => (i.zero, i.size, i.bytes)) = some (some (.agg #[.int .i64 0, .int .i64 0]), 2, 16) := by kernel_rfl
-- [[]int,int]: the function's type arguments; []int: the slice's type; int: the element's; infoIntC: its info; .int .i64 0: its zero; 1: its size; 8: its bytes; cloneI: the name
theorem cloneI_clip (a : Option Addr) (n ca : Nat) (w : World) (h : n ≤ ca) (hc : ca ≤ 9223372036854775807) : Calls Tryz.prog 82 #[.slice a n ca] w fun e w' => e = .returned (.slice a n n) ∧ w = w' := by
  go_enter Tryz.func82, Tryz.ntmps82
  go_wp2_with fail
  go_ret
  exact ⟨rfl, rfl⟩
-- [[]string,string]: the function's type arguments; []string: the slice's type; string: the element's; infoStrC: its info; .string ByteArray.empty: its zero; 1: its size; 16: its bytes; cloneS: the name
-- [[]tintype/api.Place,tintype/api.Place]: the function's type arguments; []api.Place: the slice's type; api.Place: the element's; infoPlaceC: its info; .agg #[.int .i64 0, .int .i64 0]: its zero; 2: its size; 16: its bytes; cloneP: the name
end Go.Proofs.YtngbaljmlbdfkaaGreatDoor
namespace Go.Proofs.YtngbaljmlbdfkaaGreatDoor
open Go.RowKit Go.Sort Go.Shelf
set_option linter.unusedVariables false
theorem infoPh : (Tryz.prog.info? 49).map (·.size) = some 13 := by kernel_rfl
theorem RowK.setRow {w : World} {a : Option Addr} {n k B : Nat} {F : Nat → Value} (h : RowK w a n k F) (hn : NewK B a n) {b0 : Nat} (hp : b0 < B) (cs : Array Value) : RowK (w.setRow b0 cs) a n k F := by
  intro h0
  obtain ⟨b, off, rfl, hb, hc⟩ := h h0
  obtain ⟨g, hg, hB⟩ := hn h0
  injection hg with hg
  injection hg with hg1 hg2
  subst hg1 hg2
  exact ⟨b, 0, rfl, by simpa using hb, fun i hi => (cell_setRow_other w b0 cs ⟨b, 0 + i, none⟩ (by simp; omega)).trans (hc i hi)⟩
/-- The photo with other slices of the same data. -/
def Ph.moved (p : Ph) (a1 a2 a3 : Option Addr) : Ph := { p with wa := a1, wc := p.wn, ta := a2, tc := p.tn, pa := a3, pc := p.pn }
def Fd.pair2 (f g : Nat → Int) (i : Nat) : Value := if i % 2 = 0 then .int .i64 (f (i / 2)) else .int .i64 (g (i / 2))
theorem rowK_places {w : World} {a : Option Addr} {n : Nat} {f g : Nat → Int} (h : Row2 w a n (fun i => .int .i64 (f i)) (fun i => .int .i64 (g i))) : RowK w a n 2 (Fd.pair2 f g) := by
  intro h0
  obtain ⟨b, off, rfl, hb, hc⟩ := h h0
  refine ⟨b, off, rfl, hb, fun i hi => ?_⟩
  obtain ⟨c1, c2⟩ := hc (i / 2) (by omega)
  unfold Fd.pair2
  split
  · rw [show off + i = off + i / 2 * 2 by omega]; exact c1
  · rw [show off + i = off + i / 2 * 2 + 1 by omega]; exact c2
theorem places_rowK {w : World} {a : Option Addr} {n : Nat} {f g : Nat → Int} (h : RowK w a n 2 (Fd.pair2 f g)) : Row2 w a n (fun i => .int .i64 (f i)) (fun i => .int .i64 (g i)) := by
  intro h0
  obtain ⟨b, off, rfl, hb, hc⟩ := h h0
  refine ⟨b, off, rfl, hb, fun i hi => ⟨?_, ?_⟩⟩
  · have := hc (i * 2) (by omega)
    unfold Fd.pair2 at this
    rw [if_pos (by omega), show i * 2 / 2 = i by omega] at this; exact this
  · have := hc (i * 2 + 1) (by omega)
    unfold Fd.pair2 at this
    rw [if_neg (by omega), show (i * 2 + 1) / 2 = i by omega] at this; exact this
theorem rowK_row {w : World} {a : Option Addr} {n : Nat} {F : Nat → Value} (h : Row w a n F) : RowK w a n 1 F := by
  intro h0
  obtain ⟨b, off, rfl, hb, hc⟩ := h h0
  exact ⟨b, off, rfl, hb, fun i hi => hc i (by omega)⟩
theorem row_rowK {w : World} {a : Option Addr} {n : Nat} {F : Nat → Value} (h : RowK w a n 1 F) : Row w a n F := by
  intro h0
  obtain ⟨b, off, rfl, hb, hc⟩ := h h0
  exact ⟨b, off, rfl, hb, fun i hi => hc i (by omega)⟩
theorem RowK.keep {w w' : World} {a : Option Addr} {n k : Nat} {F : Nat → Value} (h : RowK w a n k F) (hb : Below w.heap.size w w') : RowK w' a n k F := by
  intro h0
  obtain ⟨b, off, rfl, hlt, hc⟩ := h h0
  exact ⟨b, off, rfl, Nat.lt_of_lt_of_le hlt hb.size, fun i hi => (hb.cell (p := ⟨b, off + i, none⟩) hlt).trans (hc i hi)⟩
/-- The sizes of a photo that is right. -/
structure Ph.Few (p : Ph) : Prop where
  w : p.wn ≤ 1000000
  t : p.tn ≤ 1000000
  p : p.pn ≤ 1000000
theorem opt_ex (n : Nat) (a : Option Addr) : 0 < n ∨ a = none ∨ ∃ p, a = some p := by cases a with | none => exact .inr (.inl rfl) | some p => exact .inr (.inr ⟨p, rfl⟩)
end Go.Proofs.YtngbaljmlbdfkaaGreatDoor
