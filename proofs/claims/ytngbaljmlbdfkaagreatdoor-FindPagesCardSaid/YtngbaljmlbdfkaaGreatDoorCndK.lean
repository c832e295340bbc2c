/- The parts of a condition; induction over one. -/
import Derived.Test.YtngbaljmlbdfkaaGreatDoorCndForm
import Derived.Test.YtngbaljmlbdfkaaGreatDoorCndOp
namespace Go.Proofs.YtngbaljmlbdfkaaGreatDoor
open Go.RowKit Go.Sort
set_option linter.unusedVariables false
namespace Cnd
def op : Cnd → Int | zero => 0 | mk x _ _ _ _ _ _ _ _ _ _ _ _ => x
def ka : Cnd → Option Addr | zero => none | mk _ x _ _ _ _ _ _ _ _ _ _ _ => x
def kn : Cnd → Nat | zero => 0 | mk _ _ x _ _ _ _ _ _ _ _ _ _ => x
def kc : Cnd → Nat | zero => 0 | mk _ _ _ x _ _ _ _ _ _ _ _ _ => x
def kids : Cnd → Nat → Cnd | zero => fun _ => zero | mk _ _ _ _ x _ _ _ _ _ _ _ _ => x
def text : Cnd → ByteArray | zero => ByteArray.empty | mk _ _ _ _ _ x _ _ _ _ _ _ _ => x
def low : Cnd → Int | zero => 0 | mk _ _ _ _ _ _ x _ _ _ _ _ _ => x
def high : Cnd → Int | zero => 0 | mk _ _ _ _ _ _ _ x _ _ _ _ _ => x
def aa : Cnd → Option Addr | zero => none | mk _ _ _ _ _ _ _ _ x _ _ _ _ => x
def an : Cnd → Nat | zero => 0 | mk _ _ _ _ _ _ _ _ _ x _ _ _ => x
def ac : Cnd → Nat | zero => 0 | mk _ _ _ _ _ _ _ _ _ _ x _ _ => x
def lat : Cnd → Nat → Int | zero => fun _ => 0 | mk _ _ _ _ _ _ _ _ _ _ _ x _ => x
def lon : Cnd → Nat → Int | zero => fun _ => 0 | mk _ _ _ _ _ _ _ _ _ _ _ _ x => x
theorem In.ne {w : World} {c : Cnd} (h : c.In w) : c ≠ zero := by intro e; subst e; exact h
/-- A condition's cells from place o on in block b. -/
def At (w : World) (b o : Nat) (x : Cnd) : Prop :=
  w.cell? ⟨b, o, none⟩ = some (.int .i64 x.op) ∧ w.cell? ⟨b, o + 1, none⟩ = some (.slice x.ka x.kn x.kc) ∧ w.cell? ⟨b, o + 2, none⟩ = some (.string x.text) ∧ w.cell? ⟨b, o + 3, none⟩ = some (.int .i64 x.low) ∧ w.cell? ⟨b, o + 4, none⟩ = some (.int .i64 x.high) ∧ w.cell? ⟨b, o + 5, none⟩ = some (.slice x.aa x.an x.ac)
theorem At.of {w : World} {b o : Nat} {x : Cnd} (hx : x ≠ zero) (h : ∀ j v, x.cells[j]? = some v → w.cell? ⟨b, o + j, none⟩ = some v) : At w b o x := by
  cases x with
  | zero => exact absurd rfl hx
  | mk => exact ⟨h 0 _ rfl, h 1 _ rfl, h 2 _ rfl, h 3 _ rfl, h 4 _ rfl, h 5 _ rfl⟩
theorem In.kid {w : World} {c : Cnd} (h : c.In w) (hk : 0 < c.kn) : ∃ b off, c.ka = some ⟨b, off, none⟩ ∧ b < w.heap.size ∧ ∀ i, i < c.kn → At w b (off + i * 6) (c.kids i) := by
  cases c with
  | zero => exact absurd rfl h.ne
  | mk =>
    obtain ⟨b, off, e, hl, hc⟩ := h.1 hk
    exact ⟨b, off, e, hl, fun i hi => At.of (In.ne (h.2.1 i hi)) (hc i hi)⟩
theorem In.each {w : World} {c : Cnd} (h : c.In w) (i : Nat) (hi : i < c.kn) : (c.kids i).In w := by
  cases c with
  | zero => exact absurd rfl h.ne
  | mk => exact h.2.1 i hi
theorem In.row {w : World} {c : Cnd} (h : c.In w) : Row2 w c.aa c.an (fun i => .int .i64 (c.lat i)) (fun i => .int .i64 (c.lon i)) := by
  cases c with
  | zero => exact absurd rfl h.ne
  | mk => exact h.2.2
theorem In.cells {w : World} {c : Cnd} (h : c.In w) : c.cells = [.int .i64 c.op, .slice c.ka c.kn c.kc, .string c.text, .int .i64 c.low, .int .i64 c.high, .slice c.aa c.an c.ac] := by
  cases c with
  | zero => exact absurd rfl h.ne
  | mk => rfl
theorem Fits.size {c : Cnd} (h : c.Fits) : c.kn ≤ 9223372036854775807 ∧ c.an ≤ 9223372036854775807 ∧ c.text.size ≤ 9223372036854775807 := by
  cases c with
  | zero => exact ⟨by decide, by decide, by decide⟩
  | mk => exact ⟨h.1, h.2.1, h.2.2.1⟩
theorem Fits.each {c : Cnd} (h : c.Fits) (i : Nat) (hi : i < c.kn) : (c.kids i).Fits := by
  cases c with
  | zero => exact absurd hi (Nat.not_lt_zero _)
  | mk => exact h.2.2.2 i hi
theorem ind {P : Cnd → Prop} (h0 : P zero) (h : ∀ c, c ≠ zero → (∀ i, P (c.kids i)) → P c) : ∀ c, P c := by
  intro c
  induction c with
  | zero => exact h0
  | mk op ka kn kc kids text low high aa an ac lat lon ih => exact h _ (by intro e; cases e) ih
theorem bare_eq {c : Cnd} (h : c ≠ zero) : c.bare = bareE c.op c.kn c.text c.low c.high c.an c.lat c.lon := by
  cases c with
  | zero => exact absurd rfl h
  | mk => rfl
theorem ahead_eq {c : Cnd} (h : c ≠ zero) {d : Nat} {l : List (Cnd × Nat)} (h1 : l.length ≤ 100) (h2 : d ≤ 12) : ahead c d l = aheadK (fun i => ahead (c.kids i) (d + 1)) c.kn (l ++ [(c, d)]) := by
  cases c with
  | zero => exact absurd rfl h
  | mk => exact ahead_kids h1 h2
theorem ahead_deep {c : Cnd} (h : c ≠ zero) {d : Nat} {l : List (Cnd × Nat)} (h1 : l.length ≤ 100) (h2 : 12 < d) : ahead c d l = l ++ [(c, d)] := by
  cases c with
  | zero => exact absurd rfl h
  | mk => rw [ahead, if_neg (by omega), if_pos h2]
theorem ahead_full {c : Cnd} (h : c ≠ zero) {d : Nat} {l : List (Cnd × Nat)} (h1 : 100 < l.length) : ahead c d l = l := by
  cases c with
  | zero => exact absurd rfl h
  | mk => rw [ahead, if_pos h1]
end Cnd
end Go.Proofs.YtngbaljmlbdfkaaGreatDoor
