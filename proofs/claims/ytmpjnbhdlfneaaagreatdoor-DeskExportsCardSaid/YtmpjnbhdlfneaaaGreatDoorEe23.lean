/- Parts of the proof, no condition: Cnd, CndForm, CndOp, CndK, OpenF, OpenX. -/
import Derived.Test.YtmpjnbhdlfneaaaGreatDoorEe1
import Derived.Test.YtmpjnbhdlfneaaaGreatDoorEe3
import Derived.Test.YtmpjnbhdlfneaaaGreatDoorEe9
import Derived.Test.YtmpjnbhdlfneaaaGreatDoorEe8
import Derived.Deep.SlicePairs
import Derived.SliceStrings
import Derived.Test.YtmpjnbhdlfneaaaGreatDoorEe16
import Derived.Test.YtmpjnbhdlfneaaaGreatDoorEe17
set_option maxRecDepth 100000
set_option maxHeartbeats 4000000
set_option linter.unusedVariables false
namespace Go.Proofs.YtmpjnbhdlfneaaaGreatDoor
open Go.RowKit Go.Sort
inductive Cnd where
 | zero
 | mk (op : Int) (ka : Option Addr) (kn kc : Nat) (kids : Nat → Cnd) (text : ByteArray) (low high : Int) (aa : Option Addr) (an ac : Nat) (lat lon : Nat → Int)
namespace Cnd
def cells : Cnd → List Value
 | zero => []
 | mk op ka kn kc _ text low high aa an ac _ _ => [.int .i64 op, .slice ka kn kc, .string text, .int .i64 low, .int .i64 high, .slice aa an ac]
def In (w : World) : Cnd → Prop
 | zero => False
 | mk op ka kn kc kids text low high aa an ac lat lon =>
   (0 < kn → ∃ b off, ka = some ⟨b, off, none⟩ ∧ b < w.heap.size ∧ ∀ i, i < kn → ∀ j v, (kids i).cells[j]? = some v → w.cell? ⟨b, off + i * 6 + j, none⟩ = some v) ∧
   (∀ i, i < kn → (kids i).In w) ∧ Row2 w aa an (fun i => .int .i64 (lat i)) (fun i => .int .i64 (lon i))
def Fits : Cnd → Prop
 | zero => True
 | mk op ka kn kc kids text low high aa an ac lat lon => kn ≤ 9223372036854775807 ∧ an ≤ 9223372036854775807 ∧ text.size ≤ 9223372036854775807 ∧ ∀ i, i < kn → (kids i).Fits
theorem In.keep {w w' : World} (hb : Below w.heap.size w w') : ∀ {c : Cnd}, c.In w → c.In w'
 | zero, h => h
 | mk op ka kn kc kids text low high aa an ac lat lon, ⟨h1, h2, h3⟩ =>
   ⟨fun hk => by
    obtain ⟨b, off, e, hlt, hc⟩ := h1 hk
    exact ⟨b, off, e, Nat.lt_of_lt_of_le hlt hb.size, fun i hi j v hv => (hb.cell (p := ⟨b, off + i * 6 + j, none⟩) hlt).trans (hc i hi j v hv)⟩,
   fun i hi => In.keep hb (h2 i hi), h3.keep hb⟩
end Cnd
namespace Cnd
def fText (op : Int) : Bool := decide (op = 4 ∨ op = 5)
def fLow (op : Int) : Bool := decide (op = 6 ∨ op = 7 ∨ op = 8 ∨ op = 14)
def fHigh (op : Int) : Bool := decide (op = 7 ∨ op = 8)
def fAt (op : Int) : Int := if op = 14 then 1 else if op = 15 then 2 else 0
def kidsB (op : Int) (kn : Nat) : Bool := if op = 3 then decide (kn = 1) else if 4 ≤ op then decide (kn = 0) else true
def formB (op : Int) (kn an : Nat) (text : ByteArray) (low high : Int) : Bool :=
 kidsB op kn && decide ((an : Int) = fAt op) && (fText op || text.toList.isEmpty) && (fLow op || low == 0) && (fHigh op || high == 0)
def textE (op : Int) (text : ByteArray) : Int :=
 if op = 4 then (if Fd.nameB text = true then 0 else 3) else if op = 5 then (if 1 ≤ text.size ∧ text.size ≤ 200 then (if Fd.plainB text = true then 0 else 9) else 4) else 0
def most (op : Int) : Int := if op = 6 then 1000000 else if op = 7 then 5 else if op = 8 then 6311433599 else if op = 14 then 20100000 else 0
def least (op : Int) : Int := if op = 6 then 1 else 0
def inB (op x : Int) : Bool := decide (least op ≤ x ∧ x ≤ most op)
def numE (op low high : Int) (an : Nat) (lat lon : Nat → Int) : Int :=
 if (fLow op = true → inB op low = true) ∧ (fHigh op = true → inB op high = true) ∧ (∀ k, k < an → Fd.placeB (lat k) (lon k) = true) then
  (if (fHigh op = true ∧ high < low) ∨ (op = 15 ∧ lat 1 < lat 0) then 5 else 0) else 2
def bareE (op : Int) (kn : Nat) (text : ByteArray) (low high : Int) (an : Nat) (lat lon : Nat → Int) : Int :=
 if 1 ≤ op ∧ op ≤ 16 then (if formB op kn an text low high = true then (if textE op text = 0 then numE op low high an lat lon else textE op text) else 1) else 10
def bare : Cnd → Int
 | zero => 0
 | mk op ka kn kc kids text low high aa an ac lat lon => bareE op kn text low high an lat lon
def aheadK (f : Nat → List (Cnd × Nat) → List (Cnd × Nat)) : Nat → List (Cnd × Nat) → List (Cnd × Nat)
 | 0, l => l
 | k + 1, l => f k (aheadK f k l)
def ahead : Cnd → Nat → List (Cnd × Nat) → List (Cnd × Nat)
 | zero, _, l => l
 | mk op ka kn kc kids text low high aa an ac lat lon, d, l =>
   if 100 < l.length then l else if 12 < d then l ++ [(mk op ka kn kc kids text low high aa an ac lat lon, d)]
   else aheadK (fun i => ahead (kids i) (d + 1)) kn (l ++ [(mk op ka kn kc kids text low high aa an ac lat lon, d)])
def errAt (i : Nat) (p : Cnd × Nat) : Int := if 100 ≤ i ∨ 12 < p.2 then 4 else p.1.bare
def errL : Nat → List (Cnd × Nat) → Int
 | _, [] => 0
 | i, p :: l => if errAt i p = 0 then errL (i + 1) l else errAt i p
def err (c : Cnd) : Int := errL 0 (ahead c 0 [])
end Cnd
theorem Blk.six {w : World} {b : Nat} {c0 c1 c2 c3 c4 c5 : Value} {t : TypeId} (h : Blk w b #[c0, c1, c2, c3, c4, c5] t) :
  w.cell? ⟨b, 0, none⟩ = some c0 ∧ w.cell? ⟨b, 1, none⟩ = some c1 ∧ w.cell? ⟨b, 2, none⟩ = some c2 ∧ w.cell? ⟨b, 3, none⟩ = some c3 ∧ w.cell? ⟨b, 4, none⟩ = some c4 ∧ w.cell? ⟨b, 5, none⟩ = some c5 :=
 ⟨by rw [h.cell]; rfl, by rw [h.cell]; rfl, by rw [h.cell]; rfl, by rw [h.cell]; rfl, by rw [h.cell]; rfl, by rw [h.cell]; rfl⟩
theorem Blk.four {w : World} {b : Nat} {c0 c1 c2 c3 : Value} {t : TypeId} (h : Blk w b #[c0, c1, c2, c3] t) :
  w.cell? ⟨b, 0, none⟩ = some c0 ∧ w.cell? ⟨b, 1, none⟩ = some c1 ∧ w.cell? ⟨b, 2, none⟩ = some c2 ∧ w.cell? ⟨b, 3, none⟩ = some c3 :=
 ⟨by rw [h.cell]; rfl, by rw [h.cell]; rfl, by rw [h.cell]; rfl, by rw [h.cell]; rfl⟩
namespace Cnd
def op : Cnd → Int | zero => 0 | mk x _ _ _ _ _ _ _ _ _ _ _ _ => x
def ka : Cnd → Option Addr | zero => none | mk _ x _ _ _ _ _ _ _ _ _ _ _ => x
def kn : Cnd → Nat | zero => 0 | mk _ _ x _ _ _ _ _ _ _ _ _ _ => x
def kc : Cnd → Nat | zero => 0 | mk _ _ _ x _ _ _ _ _ _ _ _ _ => x
def kids : Cnd → Nat → Cnd | zero => fun _ => zero | mk _ _ _ _ x _ _ _ _ _ _ _ _ => x
def text : Cnd → ByteArray | zero => ByteArray.empty | mk _ _ _ _ _ x _ _ _ _ _ _ _ => x
def low : Cnd → Int | zero => 0 | mk _ _ _ _ _ _ x _ _ _ _ _ _ => x
def high : Cnd → Int | zero => 0 | mk _ _ _ _ _ _ _ x _ _ _ _ _ => x
def aa : Cnd → Option Addr | zero => none | mk _ _ _ _ _ _ _ _ x _ _ _ _ => x
def an : Cnd → Nat | zero => 0 | mk _ _ _ _ _ _ _ _ _ x _ _ _ => x
def ac : Cnd → Nat | zero => 0 | mk _ _ _ _ _ _ _ _ _ _ x _ _ => x
def lat : Cnd → Nat → Int | zero => fun _ => 0 | mk _ _ _ _ _ _ _ _ _ _ _ x _ => x
def lon : Cnd → Nat → Int | zero => fun _ => 0 | mk _ _ _ _ _ _ _ _ _ _ _ _ x => x
theorem In.ne {w : World} {c : Cnd} (h : c.In w) : c ≠ zero := by intro e; subst e; exact h
def At (w : World) (b o : Nat) (x : Cnd) : Prop :=
 w.cell? ⟨b, o, none⟩ = some (.int .i64 x.op) ∧ w.cell? ⟨b, o + 1, none⟩ = some (.slice x.ka x.kn x.kc) ∧ w.cell? ⟨b, o + 2, none⟩ = some (.string x.text) ∧ w.cell? ⟨b, o + 3, none⟩ = some (.int .i64 x.low) ∧ w.cell? ⟨b, o + 4, none⟩ = some (.int .i64 x.high) ∧ w.cell? ⟨b, o + 5, none⟩ = some (.slice x.aa x.an x.ac)
theorem At.of {w : World} {b o : Nat} {x : Cnd} (hx : x ≠ zero) (h : ∀ j v, x.cells[j]? = some v → w.cell? ⟨b, o + j, none⟩ = some v) : At w b o x := by
 cases x with
 | zero => exact absurd rfl hx
 | mk => exact ⟨h 0 _ rfl, h 1 _ rfl, h 2 _ rfl, h 3 _ rfl, h 4 _ rfl, h 5 _ rfl⟩
theorem In.each {w : World} {c : Cnd} (h : c.In w) (i : Nat) (hi : i < c.kn) : (c.kids i).In w := by
 cases c with
 | zero => exact absurd rfl h.ne
 | mk => exact h.2.1 i hi
theorem In.row {w : World} {c : Cnd} (h : c.In w) : Row2 w c.aa c.an (fun i => .int .i64 (c.lat i)) (fun i => .int .i64 (c.lon i)) := by
 cases c with
 | zero => exact absurd rfl h.ne
 | mk => exact h.2.2
theorem In.cells {w : World} {c : Cnd} (h : c.In w) : c.cells = [.int .i64 c.op, .slice c.ka c.kn c.kc, .string c.text, .int .i64 c.low, .int .i64 c.high, .slice c.aa c.an c.ac] := by
 cases c with
 | zero => exact absurd rfl h.ne
 | mk => rfl
theorem Fits.size {c : Cnd} (h : c.Fits) : c.kn ≤ 9223372036854775807 ∧ c.an ≤ 9223372036854775807 ∧ c.text.size ≤ 9223372036854775807 := by
 cases c with
 | zero => exact ⟨by decide, by decide, by decide⟩
 | mk => exact ⟨h.1, h.2.1, h.2.2.1⟩
theorem Fits.each {c : Cnd} (h : c.Fits) (i : Nat) (hi : i < c.kn) : (c.kids i).Fits := by
 cases c with
 | zero => exact absurd hi (Nat.not_lt_zero _)
 | mk => exact h.2.2.2 i hi
end Cnd
end Go.Proofs.YtmpjnbhdlfneaaaGreatDoor
namespace Go.Proofs.YtmpjnbhdlfneaaaGreatDoor
open Go.ChangeShapes Go.WideShapes Go.ChangeAt Go.RowKit Go.Joins Go.Deep
section
variable {H : Type} {enc : TypeId × Value → H} {w : World} {base : Nat} {spare : Nat → Bool} {held : Bool}
theorem addr_add (b off j : Nat) : (⟨b, off, none⟩ : Addr).add j = ⟨b, off + j, none⟩ := by unfold Addr.add; split <;> simp_all
theorem row_of_cells {x : Addr} {len m : Nat} {V : Nat → Value} (hlm : len ≤ m) (h : ∀ i, i < m → w.cell? (x.add i) = some (V i)) : Row w (some x) len V := by
 intro h0
 obtain ⟨b, off, spot⟩ := x
 have hc := h 0 (by omega)
 have hspot : spot = none := by simpa [Addr.add] using World.cell?_spot hc
 subst hspot
 exact ⟨b, off, rfl, by simpa [Addr.add] using World.block_lt_of_cell? w _ hc, fun i hi => by have := h i (by omega); rwa [addr_add] at this⟩
theorem open_intsF {v : Value} {n : Nat} {y : DataW H × List MemPlace} (hf : DataW.trod enc Tryz.prog w base spare held n 39 [v] = some y) :
  ∃ (a : Option Addr) (len cap : Nat) (z : Nat → Int), v = .slice a len cap ∧ len ≤ 9223372036854775807 ∧ Row w a len (fun i => .int .i64 (z i)) := by
 rcases open_ints Tryz.underlying39 Tryz.underlying3 (by kernel_rfl) hf with ⟨hcs, _⟩ | ⟨x, len, cap, zs, hcs, _, hl, hm, hz, _, hcell, hwz⟩
 ·simp at hcs
  subst hcs
  exact ⟨none, 0, 0, fun _ => 0, rfl, by omega, fun h => by omega⟩
 ·simp at hcs
  subst hcs
  have hzl : len ≤ zs.length := by rw [hz]; split <;> omega
  exact ⟨some x, len, cap, fun i => zs.getD i 0, rfl, by unfold maxLen at hm; omega, row_of_cells hzl hcell⟩
theorem cellsPlace : Tryz.prog.cellsOf 59 = 2 := by kernel_rfl
theorem open_placesF {v : Value} {n : Nat} {y : DataW H × List MemPlace} (hf : DataW.trod enc Tryz.prog w base spare held n 37 [v] = some y) :
  ∃ (a : Option Addr) (len cap : Nat) (S T : Nat → Int), v = .slice a len cap ∧ len ≤ 9223372036854775807 ∧ Row2 w a len (fun i => .int .i64 (S i)) (fun i => .int .i64 (T i)) := by
 rcases open_slice_pairs Tryz.underlying37 Tryz.underlying59 cellsPlace rfl rfl (by kernel_rfl) (by kernel_rfl) hf with ⟨hcs, _⟩ | ⟨x, l, c, m, n, V0, V1, D0, D1, P0, P1, hcs, _, hl, hm, hmm, _, hx⟩
 ·simp at hcs
  subst hcs
  exact ⟨none, 0, 0, fun _ => 0, fun _ => 0, rfl, by omega, fun h => by omega⟩
 ·simp at hcs
  subst hcs
  have hlm : l ≤ m := by rw [hmm]; split <;> omega
  obtain ⟨S, T, hr, hw⟩ := row2_of (w := w) (x := x) (V0 := V0) (V1 := V1) hlm (fun i hi => by
   obtain ⟨e0, e1, t0, t1⟩ := hx i hi
   obtain ⟨n0, q0, _, w0⟩ := DataW.trod_int Tryz.underlying3 t0
   obtain ⟨n1, q1, _, w1⟩ := DataW.trod_int Tryz.underlying3 t1
   exact ⟨e0, e1, ⟨n0, by simpa using q0, w0⟩, ⟨n1, by simpa using q1, w1⟩⟩)
  exact ⟨some x, l, c, S, T, rfl, by unfold maxLen at hm; omega, hr⟩
theorem some_at {α : Type} {xs : List α} {n i : Nat} (h : xs.length = n) (hi : i < n) : ∃ y, xs[i]? = some y := ⟨_, List.getElem?_eq_getElem (by omega)⟩
end
section
variable {H : Type} {enc : TypeId × Value → H} {w : World} {base : Nat} {spare : Nat → Bool} {held : Bool}
theorem cellsPhoto : Tryz.prog.cellsOf 41 = 13 := by kernel_rfl
theorem list13 {α : Type} {cs : List α} (h : cs.length = 13) : ∃ c0 c1 c2 c3 c4 c5 c6 c7 c8 c9 c10 c11 c12, cs = [c0, c1, c2, c3, c4, c5, c6, c7, c8, c9, c10, c11, c12] := by
 match cs, h with
 | [c0, c1, c2, c3, c4, c5, c6, c7, c8, c9, c10, c11, c12], _ => exact ⟨c0, c1, c2, c3, c4, c5, c6, c7, c8, c9, c10, c11, c12, rfl⟩
def PhotoAt (w : World) (x : Addr) (i : Nat) (q : Ph) : Prop := (∀ k v, [.int .i64 q.id, .string q.file, .int .i64 q.mom, .int .i64 q.zone, .slice q.wa q.wn q.wc, .int .i64 q.W, .int .i64 q.H, .int .i64 q.turn, .int .i64 q.stars, .slice q.ta q.tn q.tc, .string q.cap, .slice q.pa q.pn q.pc, .bool q.hid][k]? = some v → w.cell? (x.add (i * 13 + k)) = some v) ∧ q.In w ∧ q.Fits
def noPhoto : Ph := ⟨0, 0, 0, 0, 0, 0, 0, ByteArray.empty, ByteArray.empty, none, 0, 0, fun _ => 0, fun _ => 0, none, 0, 0, fun _ => ByteArray.empty, none, 0, 0, fun _ => 0, false⟩
end
section
variable {H : Type} {enc : TypeId × Value → H} {w : World} {base : Nat} {spare : Nat → Bool} {held : Bool}
end
section
variable {H : Type} {enc : TypeId × Value → H} {w : World} {base : Nat} {spare : Nat → Bool} {held : Bool}
end
section
variable {H : Type} {enc : TypeId × Value → H} {w : World} {base : Nat} {spare : Nat → Bool} {held : Bool}
theorem open_stringsX {v : Value} {n : Nat} {y : DataW H × List MemPlace} (hf : DataW.trod enc Tryz.prog w base spare held n 38 [v] = some y) :
  ∃ (a : Option Addr) (len cap : Nat) (z : Nat → ByteArray), v = .slice a len cap ∧ len ≤ 9223372036854775807 ∧ Row w a len (fun i => .string (z i)) ∧ (∀ i, i < len → (z i).size ≤ 9223372036854775807) ∧ len ≤ cap ∧ cap ≤ 9223372036854775807 := by
 rcases open_strings Tryz.underlying38 Tryz.underlying9 (by kernel_rfl) hf with ⟨hcs, _⟩ | ⟨x, len, cap, zs, hcs, _, hl, hm, hz, _, hcell, hwz⟩
 ·simp at hcs
  subst hcs
  exact ⟨none, 0, 0, fun _ => ByteArray.empty, rfl, by omega, fun h => by omega, fun i hi => by omega, by omega, by omega⟩
 ·simp at hcs
  subst hcs
  have hzl : len ≤ zs.length := by rw [hz]; split <;> omega
  refine ⟨some x, len, cap, fun i => zs.getD i ByteArray.empty, rfl, by unfold maxLen at hm; omega, row_of_cells hzl hcell, fun i hi => ?_, by omega, by unfold maxLen at hm; omega⟩
  have e : zs.getD i ByteArray.empty = zs[i]'(by omega) := by simp [List.getD_eq_getElem?_getD, List.getElem?_eq_getElem (show i < zs.length by omega)]
  show (zs.getD i ByteArray.empty).size ≤ _
  rw [e]
  have := hwz _ (List.getElem_mem (show i < zs.length by omega))
  unfold maxLen at this; omega
theorem open_photo_cellsX {cs : List Value} {fuel : Nat} {y : DataW H × List MemPlace} (hf : DataW.trod enc Tryz.prog w base spare held fuel 41 cs = some y) :
  ∃ p : Ph, cs = [.int .i64 p.id, .string p.file, .int .i64 p.mom, .int .i64 p.zone, .slice p.wa p.wn p.wc, .int .i64 p.W, .int .i64 p.H, .int .i64 p.turn, .int .i64 p.stars, .slice p.ta p.tn p.tc, .string p.cap, .slice p.pa p.pn p.pc, .bool p.hid] ∧ p.In w ∧ p.Fits ∧ p.Room := by
 obtain ⟨xs, n, _, _, hl, hlen, hg⟩ := DataW.trod_struct Tryz.underlying41 hf
 have hlen : xs.length = 13 := hlen
 rw [cellsPhoto] at hl
 obtain ⟨c0, c1, c2, c3, c4, c5, c6, c7, c8, c9, c10, c11, c12, rfl⟩ := list13 hl
 obtain ⟨y0, e0⟩ := some_at hlen (show 0 < 13 by omega)
 obtain ⟨y1, e1⟩ := some_at hlen (show 1 < 13 by omega)
 obtain ⟨y2, e2⟩ := some_at hlen (show 2 < 13 by omega)
 obtain ⟨y3, e3⟩ := some_at hlen (show 3 < 13 by omega)
 obtain ⟨y4, e4⟩ := some_at hlen (show 4 < 13 by omega)
 obtain ⟨y5, e5⟩ := some_at hlen (show 5 < 13 by omega)
 obtain ⟨y6, e6⟩ := some_at hlen (show 6 < 13 by omega)
 obtain ⟨y7, e7⟩ := some_at hlen (show 7 < 13 by omega)
 obtain ⟨y8, e8⟩ := some_at hlen (show 8 < 13 by omega)
 obtain ⟨y9, e9⟩ := some_at hlen (show 9 < 13 by omega)
 obtain ⟨y10, e10⟩ := some_at hlen (show 10 < 13 by omega)
 obtain ⟨y11, e11⟩ := some_at hlen (show 11 < 13 by omega)
 obtain ⟨y12, e12⟩ := some_at hlen (show 12 < 13 by omega)
 have g0 : DataW.trod enc Tryz.prog w base spare held n 3 [c0] = some y0 := (hg 0 _ rfl).trans e0
 have g1 : DataW.trod enc Tryz.prog w base spare held n 9 [c1] = some y1 := (hg 1 _ rfl).trans e1
 have g2 : DataW.trod enc Tryz.prog w base spare held n 3 [c2] = some y2 := (hg 2 _ rfl).trans e2
 have g3 : DataW.trod enc Tryz.prog w base spare held n 3 [c3] = some y3 := (hg 3 _ rfl).trans e3
 have g4 : DataW.trod enc Tryz.prog w base spare held n 37 [c4] = some y4 := (hg 4 _ rfl).trans e4
 have g5 : DataW.trod enc Tryz.prog w base spare held n 3 [c5] = some y5 := (hg 5 _ rfl).trans e5
 have g6 : DataW.trod enc Tryz.prog w base spare held n 3 [c6] = some y6 := (hg 6 _ rfl).trans e6
 have g7 : DataW.trod enc Tryz.prog w base spare held n 3 [c7] = some y7 := (hg 7 _ rfl).trans e7
 have g8 : DataW.trod enc Tryz.prog w base spare held n 3 [c8] = some y8 := (hg 8 _ rfl).trans e8
 have g9 : DataW.trod enc Tryz.prog w base spare held n 38 [c9] = some y9 := (hg 9 _ rfl).trans e9
 have g10 : DataW.trod enc Tryz.prog w base spare held n 9 [c10] = some y10 := (hg 10 _ rfl).trans e10
 have g11 : DataW.trod enc Tryz.prog w base spare held n 39 [c11] = some y11 := (hg 11 _ rfl).trans e11
 have g12 : DataW.trod enc Tryz.prog w base spare held n 4 [c12] = some y12 := (hg 12 _ rfl).trans e12
 clear hg hf
 obtain ⟨id, q0, _, _⟩ := DataW.trod_int Tryz.underlying3 g0
 obtain ⟨file, q1, _, s1⟩ := DataW.trod_string Tryz.underlying9 g1
 obtain ⟨mom, q2, _, _⟩ := DataW.trod_int Tryz.underlying3 g2
 obtain ⟨zone, q3, _, _⟩ := DataW.trod_int Tryz.underlying3 g3
 obtain ⟨wa, wn, wc, lat, lon, rfl, s4, r4⟩ := open_placesF g4
 obtain ⟨W, q5, _, _⟩ := DataW.trod_int Tryz.underlying3 g5
 obtain ⟨Hh, q6, _, _⟩ := DataW.trod_int Tryz.underlying3 g6
 obtain ⟨turn, q7, _, _⟩ := DataW.trod_int Tryz.underlying3 g7
 obtain ⟨stars, q8, _, _⟩ := DataW.trod_int Tryz.underlying3 g8
 obtain ⟨ta, tn, tc, tag, rfl, s9, r9, z9, u9, v9⟩ := open_stringsX g9
 obtain ⟨cap, q10, _, s10⟩ := DataW.trod_string Tryz.underlying9 g10
 obtain ⟨pa, pn, pc, who, rfl, s11, r11⟩ := open_intsF g11
 obtain ⟨hid, q12, _⟩ := DataW.trod_bool Tryz.underlying4 g12
 simp only [List.cons.injEq, and_true] at q0 q1 q2 q3 q5 q6 q7 q8 q10 q12
 subst q0 q1 q2 q3 q5 q6 q7 q8 q10 q12
 refine ⟨⟨id, mom, zone, W, Hh, turn, stars, file, cap, wa, wn, wc, lat, lon, ta, tn, tc, tag, pa, pn, pc, who, hid⟩, rfl, ⟨r4, r9, r11⟩, ⟨?_, ?_, z9, s4, s9, s11⟩, u9, v9⟩
 ·show file.size ≤ _; unfold maxLen at s1; omega
 ·show cap.size ≤ _; unfold maxLen at s10; omega
theorem open_photosX {r : Reach} {b0 : Nat} {v : Value} {d : DataW H} {p : List MemPlace} (hv : Value.okWide Tryz.prog w r b0 22 v) (h : DataW.Trod enc Tryz.prog w base spare held 22 v d p) :
  ∃ (a : Option Addr) (len cap : Nat) (z : Nat → Ph), v = .slice a len cap ∧ len ≤ 9223372036854775807 ∧ Phs w a len z ∧ (∀ i, i < len → (z i).Fits) ∧ ∀ i, i < len → (z i).Room := by
 obtain ⟨a, len, cap, rfl⟩ := okWide_slice Tryz.underlying22 hv
 obtain ⟨fuel, hf⟩ := h
 rcases open_slice Tryz.underlying22 hf with ⟨hcs, _⟩ | ⟨x, l, c, m, n, D, Pl, hcs, _, hl, hm, hmm, _, hx⟩
 ·simp [Value.cells] at hcs
  obtain ⟨rfl, rfl, rfl⟩ := hcs
  exact ⟨none, 0, 0, fun _ => noPhoto, rfl, by omega, ⟨fun h => by omega, fun i h => by omega⟩, fun i h => by omega, fun i h => by omega⟩
 ·simp [Value.cells] at hcs
  obtain ⟨rfl, rfl, rfl⟩ := hcs
  have hlm : len ≤ m := by rw [hmm]; split <;> omega
  have each : ∀ i, i < m → ∃ q, (PhotoAt w x i q ∧ q.Room) := by
   intro i hi
   obtain ⟨cs', h1, h2⟩ := hx i hi
   rw [cellsPhoto] at h1
   obtain ⟨_, hlen, hcell⟩ := World.cells?_some h1
   obtain ⟨q, hq, hI, hF, hR⟩ := open_photo_cellsX h2
   refine ⟨q, ⟨fun k v hk => ?_, hI, hF⟩, hR⟩
   rw [← hq] at hk
   have hk13 : k < 13 := by have := (List.getElem?_eq_some_iff.1 hk).1; omega
   have := hcell k (by omega)
   rw [Addr.add_add] at this
   rw [this, hk]
  obtain ⟨Q, hQ⟩ : ∃ Q : Nat → Ph, ∀ i, i < m → (PhotoAt w x i (Q i) ∧ (Q i).Room) :=
   ⟨fun i => if h : i < m then Classical.choose (each i h) else noPhoto, fun i hi => by simp only [dif_pos hi]; exact Classical.choose_spec (each i hi)⟩
  refine ⟨some x, len, cap, Q, rfl, by unfold maxLen at hm; omega, ⟨fun h0 => ?_, fun i hi => (hQ i (by omega)).1.2.1⟩, fun i hi => (hQ i (by omega)).1.2.2, fun i hi => (hQ i (by omega)).2⟩
  obtain ⟨b, off, spot⟩ := x
  have hc := (hQ 0 (by omega)).1.1 0 _ rfl
  have hspot : spot = none := by simpa [Addr.add] using World.cell?_spot hc
  subst hspot
  refine ⟨b, off, rfl, by simpa [Addr.add] using World.block_lt_of_cell? w _ hc, fun i hi => ?_⟩
  have g := (hQ i (by omega)).1.1
  have ha : ∀ k, (⟨b, off, none⟩ : Addr).add (i * 13 + k) = ⟨b, off + i * 13 + k, none⟩ := fun k => by rw [addr_add, Nat.add_assoc]
  exact ⟨by have := g 0 _ rfl; rwa [ha] at this, by have := g 1 _ rfl; rwa [ha] at this, by have := g 2 _ rfl; rwa [ha] at this, by have := g 3 _ rfl; rwa [ha] at this, by have := g 4 _ rfl; rwa [ha] at this, by have := g 5 _ rfl; rwa [ha] at this, by have := g 6 _ rfl; rwa [ha] at this, by have := g 7 _ rfl; rwa [ha] at this, by have := g 8 _ rfl; rwa [ha] at this, by have := g 9 _ rfl; rwa [ha] at this, by have := g 10 _ rfl; rwa [ha] at this, by have := g 11 _ rfl; rwa [ha] at this, by have := g 12 _ rfl; rwa [ha] at this⟩
end
end Go.Proofs.YtmpjnbhdlfneaaaGreatDoor
