/- Clean: the data. -/
import Derived.Test.YtngbaljmlbdfkaaGreatDoorCpy
import Derived.Test.YtngbaljmlbdfkaaGreatDoorDistW
import Derived.Test.YtngbaljmlbdfkaaGreatDoorFdSame
import Derived.Test.YtngbaljmlbdfkaaGreatDoorOrdM
namespace Go.Proofs.YtngbaljmlbdfkaaGreatDoor
open Go.RowKit Go.Sort Go.Shelf
set_option linter.unusedVariables false
/-- Areas: three cells each. -/
def Ars (w : World) (a : Option Addr) (n : Nat) (la lo ra : Nat → Int) : Prop :=
  0 < n → ∃ b off, a = some ⟨b, off, none⟩ ∧ b < w.heap.size ∧ ∀ i, i < n → w.cell? ⟨b, off + i * 3, none⟩ = some (.int .i64 (la i)) ∧ w.cell? ⟨b, off + i * 3 + 1, none⟩ = some (.int .i64 (lo i)) ∧ w.cell? ⟨b, off + i * 3 + 2, none⟩ = some (.int .i64 (ra i))
theorem Ars.keep {w w' : World} {a : Option Addr} {n : Nat} {la lo ra : Nat → Int} (h : Ars w a n la lo ra) (hb : Below w.heap.size w w') : Ars w' a n la lo ra := by
  intro h0
  obtain ⟨b, off, rfl, hlt, hc⟩ := h h0
  exact ⟨b, off, rfl, Nat.lt_of_lt_of_le hlt hb.size, fun i hi => ⟨(hb.cell (p := ⟨b, off + i * 3, none⟩) hlt).trans (hc i hi).1, (hb.cell (p := ⟨b, off + i * 3 + 1, none⟩) hlt).trans (hc i hi).2.1, (hb.cell (p := ⟨b, off + i * 3 + 2, none⟩) hlt).trans (hc i hi).2.2⟩⟩
/-- Is one of the first n areas near? -/
def Fd.hit (near : Nat → Bool) : Nat → Bool
  | 0 => false
  | n + 1 => Fd.hit near n || near n
/-- The photo r is p, cleaned: kw, kp, kt: its place, people, words are kept. -/
structure Ph.Like (p r : Ph) (kw kp kt : Bool) : Prop where
  id : r.id = p.id
  mom : r.mom = p.mom
  zone : r.zone = p.zone
  W : r.W = p.W
  H : r.H = p.H
  turn : r.turn = p.turn
  stars : r.stars = p.stars
  file : r.file = p.file
  hid : r.hid = p.hid
  cap : r.cap = if kt = true then p.cap else ⟨#[]⟩
  wn : r.wn = if kw = true then p.wn else 0
  tn : r.tn = if kt = true then p.tn else 0
  pn : r.pn = if kp = true then p.pn else 0
  lat : r.lat = p.lat
  lon : r.lon = p.lon
  tag : r.tag = p.tag
  who : r.who = p.who
theorem Ph.Like.same {p r s : Ph} {kw kp kt : Bool} (h : p.Like r kw kp kt) (g : p.Like s kw kp kt) : r.same s = true := by
  have hw : r.wn = s.wn := h.wn.trans g.wn.symm
  have ht : r.tn = s.tn := h.tn.trans g.tn.symm
  have hp : r.pn = s.pn := h.pn.trans g.pn.symm
  refine Ph.same_yes ?_ ?_ ?_ ?_ ?_ ?_ ?_ ?_ ?_ ?_ ?_ ?_ ?_
  · rw [h.id, g.id]; simp
  · rw [h.file, g.file]; simp
  · rw [h.mom, g.mom]; simp
  · rw [h.zone, g.zone]; simp
  · rw [hw, h.lat, g.lat, h.lon, g.lon]; exact Fd.eqRow_self _ _ (fun i => by simp)
  · rw [h.W, g.W]; simp
  · rw [h.H, g.H]; simp
  · rw [h.turn, g.turn]; simp
  · rw [h.stars, g.stars]; simp
  · rw [ht, h.tag, g.tag]; exact Fd.eqRow_self _ _ (fun i => by simp)
  · rw [h.cap, g.cap]; simp
  · rw [hp, h.who, g.who]; exact Fd.eqRow_self _ _ (fun i => by simp)
  · rw [h.hid, g.hid]; simp
/-- The photo as it is cleaned. -/
def Ph.cl (p : Ph) (kw kp kt : Bool) (a1 : Option Addr) (c1 : Nat) (a2 : Option Addr) (c2 : Nat) (a3 : Option Addr) (c3 : Nat) : Ph :=
  { p with wa := if kw = true then a1 else none, wn := if kw = true then p.wn else 0, wc := if kw = true then c1 else 0, ta := if kt = true then a2 else none, tn := if kt = true then p.tn else 0, tc := if kt = true then c2 else 0, cap := if kt = true then p.cap else ⟨#[]⟩, pa := if kp = true then a3 else none, pn := if kp = true then p.pn else 0, pc := if kp = true then c3 else 0 }
theorem Ph.cl_in {p : Ph} {kw kp kt : Bool} {a1 a2 a3 : Option Addr} {c1 c2 c3 : Nat} {w : World} (h1 : RowK w a1 p.wn 2 (Fd.pair2 p.lat p.lon)) (h2 : RowK w a2 p.tn 1 (fun i => .string (p.tag i))) (h3 : RowK w a3 p.pn 1 (fun i => .int .i64 (p.who i))) : (p.cl kw kp kt a1 c1 a2 c2 a3 c3).In w := by
  refine ⟨?_, ?_, ?_⟩
  · cases kw
    · exact fun h => absurd h (by show ¬ 0 < 0; omega)
    · exact places_rowK h1
  · cases kt
    · exact fun h => absurd h (by show ¬ 0 < 0; omega)
    · exact row_rowK h2
  · cases kp
    · exact fun h => absurd h (by show ¬ 0 < 0; omega)
    · exact row_rowK h3
theorem Ph.cl_like {p : Ph} {kw kw' kp kt : Bool} {a1 a2 a3 : Option Addr} {c1 c2 c3 : Nat} (h : kw = kw' ∨ p.wn = 0) : p.Like (p.cl kw kp kt a1 c1 a2 c2 a3 c3) kw' kp kt := by
  refine ⟨rfl, rfl, rfl, rfl, rfl, rfl, rfl, rfl, rfl, rfl, ?_, rfl, rfl, rfl, rfl, rfl, rfl⟩
  show (if kw = true then p.wn else 0) = _
  rcases h with rfl | h
  · rfl
  · rw [h]; simp
end Go.Proofs.YtngbaljmlbdfkaaGreatDoor
