/- What a photo is, in memory and by its error. -/
import Derived.Test.YtngbaljmlbdfkaaGreatDoorFdLow
import Derived.Test.YtngbaljmlbdfkaaGreatDoorRow2
namespace Go.Proofs.YtngbaljmlbdfkaaGreatDoor
open Go.RowKit Go.Sort Go.Shelf
set_option linter.unusedVariables false
structure Ph where
  id : Int
  mom : Int
  zone : Int
  W : Int
  H : Int
  turn : Int
  stars : Int
  file : ByteArray
  cap : ByteArray
  wa : Option Addr
  wn : Nat
  wc : Nat
  lat : Nat → Int
  lon : Nat → Int
  ta : Option Addr
  tn : Nat
  tc : Nat
  tag : Nat → ByteArray
  pa : Option Addr
  pn : Nat
  pc : Nat
  who : Nat → Int
  hid : Bool
/-- A photo's slices lie in memory. -/
structure Ph.In (p : Ph) (w : World) : Prop where
  places : Row2 w p.wa p.wn (fun i => .int .i64 (p.lat i)) (fun i => .int .i64 (p.lon i))
  tags : Row w p.ta p.tn (fun i => .string (p.tag i))
  people : Row w p.pa p.pn (fun i => .int .i64 (p.who i))
/-- Its sizes are those of a machine. -/
structure Ph.Fits (p : Ph) : Prop where
  file : p.file.size ≤ 9223372036854775807
  cap : p.cap.size ≤ 9223372036854775807
  tag : ∀ i, i < p.tn → (p.tag i).size ≤ 9223372036854775807
  wn : p.wn ≤ 9223372036854775807
  tn : p.tn ≤ 9223372036854775807
  pn : p.pn ≤ 9223372036854775807
theorem Ph.In.keep {p : Ph} {w w' : World} (h : p.In w) (hb : Below w.heap.size w w') : p.In w' := ⟨h.places.keep hb, h.tags.keep hb, h.people.keep hb⟩
theorem Blk.photo {w : World} {b : Nat} {c0 c1 c2 c3 c4 c5 c6 c7 c8 c9 c10 c11 c12 : Value} {t : TypeId} (h : Blk w b #[c0, c1, c2, c3, c4, c5, c6, c7, c8, c9, c10, c11, c12] t) :
    w.cell? ⟨b, 0, none⟩ = some c0 ∧ w.cell? ⟨b, 1, none⟩ = some c1 ∧ w.cell? ⟨b, 2, none⟩ = some c2 ∧ w.cell? ⟨b, 3, none⟩ = some c3 ∧ w.cell? ⟨b, 4, none⟩ = some c4 ∧ w.cell? ⟨b, 5, none⟩ = some c5 ∧ w.cell? ⟨b, 6, none⟩ = some c6 ∧ w.cell? ⟨b, 7, none⟩ = some c7 ∧ w.cell? ⟨b, 8, none⟩ = some c8 ∧ w.cell? ⟨b, 9, none⟩ = some c9 ∧ w.cell? ⟨b, 10, none⟩ = some c10 ∧ w.cell? ⟨b, 11, none⟩ = some c11 ∧ w.cell? ⟨b, 12, none⟩ = some c12 := by
  simp only [h.cell]; exact ⟨rfl, rfl, rfl, rfl, rfl, rfl, rfl, rfl, rfl, rfl, rfl, rfl, rfl⟩
namespace Fd
def leS (a b : ByteArray) : Bool := Op.bytesLess a.toList b.toList || a.toList == b.toList
def whenB (m z : Int) : Bool := decide ((-1 ≤ m ∧ m ≤ 6311433599) ∧ (-840 ≤ z ∧ z ≤ 840) ∧ (0 ≤ m → 0 ≤ m + 60 * z ∧ m + 60 * z ≤ 6311433599))
def placeB (a o : Int) : Bool := decide ((-90000000 ≤ a ∧ a ≤ 90000000) ∧ (-180000000 ≤ o ∧ o ≤ 179999999))
def shapeB (W H t s : Int) : Bool := decide ((1 ≤ W ∧ W ≤ 100000) ∧ (1 ≤ H ∧ H ≤ 100000) ∧ (1 ≤ t ∧ t ≤ 8) ∧ (0 ≤ s ∧ s ≤ 5))
def tbad (tag : Nat → ByteArray) (i : Nat) : Int := if nameB (tag i) = true then (if i = 0 then 0 else if leS (tag i) (tag (i - 1)) = true then 5 else 0) else 3
def pbad (who : Nat → Int) (i : Nat) : Int := if 1 ≤ who i ∧ who i ≤ 1000000 then (if i = 0 then 0 else if who i ≤ who (i - 1) then 5 else 0) else 2
/-- The first error among i, i + 1 .. i + k - 1. -/
def scan (bad : Nat → Int) : Nat → Nat → Int
  | _, 0 => 0
  | i, k + 1 => if bad i = 0 then scan bad (i + 1) k else bad i
theorem scan_ok {bad : Nat → Int} {i k : Nat} (h : bad i = 0) : scan bad i (k + 1) = scan bad (i + 1) k := by rw [scan, if_pos h]
theorem scan_bad {bad : Nat → Int} {i k : Nat} (h : bad i ≠ 0) : scan bad i (k + 1) = bad i := by rw [scan, if_neg h]
theorem scan_here {bad : Nat → Int} {n j : Nat} {q e : Int} (h : scan bad j (n - j) = q) (hj : j < n) (hb : bad j = e) (he : e ≠ 0) : e = q := by
  rw [show n - j = (n - j - 1) + 1 by omega, scan_bad (by rw [hb]; exact he), hb] at h; exact h
theorem scan_next {bad : Nat → Int} {n j : Nat} {q : Int} (h : scan bad j (n - j) = q) (hj : j < n) (hb : bad j = 0) : scan bad (j + 1) (n - (j + 1)) = q := by
  rw [show n - j = (n - (j + 1)) + 1 by omega, scan_ok hb] at h; exact h
theorem scan_end {bad : Nat → Int} {n : Nat} {q : Int} (h : scan bad n (n - n) = q) : q = 0 := by rw [Nat.sub_self] at h; exact h.symm
theorem tbad_name {tag : Nat → ByteArray} {i : Nat} (h : nameB (tag i) = false) : tbad tag i = 3 := by unfold tbad; rw [if_neg (by rw [h]; simp)]
theorem tbad_first {tag : Nat → ByteArray} {i : Nat} (h : nameB (tag i) = true) (h0 : i = 0) : tbad tag i = 0 := by unfold tbad; rw [if_pos h, if_pos h0]
theorem tbad_ord {tag : Nat → ByteArray} {i : Nat} (h : nameB (tag i) = true) (h0 : i ≠ 0) (g : leS (tag i) (tag (i - 1)) = true) : tbad tag i = 5 := by unfold tbad; rw [if_pos h, if_neg h0, if_pos g]
theorem tbad_ok {tag : Nat → ByteArray} {i : Nat} (h : nameB (tag i) = true) (h0 : i ≠ 0) (g : leS (tag i) (tag (i - 1)) = false) : tbad tag i = 0 := by unfold tbad; rw [if_pos h, if_neg h0, if_neg (by rw [g]; simp)]
theorem pbad_out {who : Nat → Int} {i : Nat} (h : decide (1 ≤ who i ∧ who i ≤ 1000000) = false) : pbad who i = 2 := by unfold pbad; rw [if_neg (of_decide_eq_false h)]
theorem pbad_first {who : Nat → Int} {i : Nat} (h : decide (1 ≤ who i ∧ who i ≤ 1000000) = true) (h0 : i = 0) : pbad who i = 0 := by unfold pbad; rw [if_pos (of_decide_eq_true h), if_pos h0]
theorem pbad_ord {who : Nat → Int} {i : Nat} (h : decide (1 ≤ who i ∧ who i ≤ 1000000) = true) (h0 : i ≠ 0) (g : who i ≤ who (i - 1)) : pbad who i = 5 := by unfold pbad; rw [if_pos (of_decide_eq_true h), if_neg h0, if_pos g]
theorem pbad_ok {who : Nat → Int} {i : Nat} (h : decide (1 ≤ who i ∧ who i ≤ 1000000) = true) (h0 : i ≠ 0) (g : ¬ who i ≤ who (i - 1)) : pbad who i = 0 := by unfold pbad; rw [if_pos (of_decide_eq_true h), if_neg h0, if_neg g]
theorem shapeB_no {W H t s : Int} (h : decide (1 ≤ W ∧ W ≤ 100000) = false ∨ decide (1 ≤ H ∧ H ≤ 100000) = false ∨ decide (1 ≤ t ∧ t ≤ 8) = false ∨ decide (0 ≤ s ∧ s ≤ 5) = false) : shapeB W H t s = false := by
  unfold shapeB
  rw [decide_eq_false_iff_not]
  rintro ⟨g1, g2, g3, g4⟩
  rcases h with h | h | h | h
  · exact of_decide_eq_false h g1
  · exact of_decide_eq_false h g2
  · exact of_decide_eq_false h g3
  · exact of_decide_eq_false h g4
theorem shapeB_yes {W H t s : Int} (h1 : decide (1 ≤ W ∧ W ≤ 100000) = true) (h2 : decide (1 ≤ H ∧ H ≤ 100000) = true) (h3 : decide (1 ≤ t ∧ t ≤ 8) = true) (h4 : decide (0 ≤ s ∧ s ≤ 5) = true) : shapeB W H t s = true :=
  decide_eq_true ⟨of_decide_eq_true h1, of_decide_eq_true h2, of_decide_eq_true h3, of_decide_eq_true h4⟩
theorem places_next {lat lon : Nat → Int} {j : Nat} (h : ∀ k, k < j → placeB (lat k) (lon k) = true) (g : placeB (lat j) (lon j) = true) : ∀ k, k < j + 1 → placeB (lat k) (lon k) = true := by
  intro k hk
  by_cases e : k = j
  · subst e; exact g
  · exact h k (by omega)
end Fd
/-- The error of a photo's tags, caption and people. -/
def Ph.words (p : Ph) : Int :=
  if 20 < p.tn then 4 else if Fd.scan (Fd.tbad p.tag) 0 p.tn = 0 then (if 200 < p.cap.size then 4 else if Fd.plainB p.cap = true then (if 20 < p.pn then 4 else Fd.scan (Fd.pbad p.who) 0 p.pn) else 9) else Fd.scan (Fd.tbad p.tag) 0 p.tn
/-- The error of a photo. -/
def Ph.err (p : Ph) : Int :=
  if decide (1 ≤ p.id ∧ p.id ≤ 1000000) = true then (if Fd.fileB p.file = true then (if Fd.whenB p.mom p.zone = true then (if 1 < p.wn then 1 else if p.wn = 1 ∧ Fd.placeB (p.lat 0) (p.lon 0) = false then 2 else if Fd.shapeB p.W p.H p.turn p.stars = true then p.words else 2) else 2) else 1) else 2
end Go.Proofs.YtngbaljmlbdfkaaGreatDoor
