/- Albums. -/
import Derived.Test.YtbbedepojogfmaaCndK
import Derived.Test.YtbbedepojogfmaaFdIds
namespace Go.Proofs.Ytbbedepojogfmaa
open Go.RowKit Go.Sort
set_option linter.unusedVariables false
/-- A condition that has nothing. -/
def Cnd.blank (c : Cnd) : Bool := decide (c.op = 0 ∧ c.kn = 0 ∧ c.text.size = 0 ∧ c.low = 0 ∧ c.high = 0 ∧ c.an = 0)
structure Alb where
  name : ByteArray
  smart : Bool
  rule : Cnd
  pa : Option Addr
  pn : Nat
  pc : Nat
  pin : Nat → Int
  ba : Option Addr
  bn : Nat
  bc : Nat
  bar : Nat → Int
structure Alb.In (w : World) (a : Alb) : Prop where
  rule : a.rule.In w
  pins : Row w a.pa a.pn (fun i => .int .i64 (a.pin i))
  bars : Row w a.ba a.bn (fun i => .int .i64 (a.bar i))
theorem Alb.In.keep {w w' : World} {a : Alb} (h : a.In w) (hb : Below w.heap.size w w') : a.In w' := ⟨Cnd.In.keep hb h.rule, h.pins.keep hb, h.bars.keep hb⟩
structure Alb.Fits (a : Alb) : Prop where
  name : a.name.size ≤ 9223372036854775807
  rule : a.rule.Fits
  pn : a.pn ≤ 9223372036854775807
  bn : a.bn ≤ 9223372036854775807
namespace Alb
/-- Whether one is pinned and barred. -/
def twice (a : Alb) : Bool := Ev.anyB (fun x => Fd.hasB a.pin a.pn x) a.bar a.bn
/-- The error behind the rule's. -/
def listE (a : Alb) : Int :=
  if Fd.scan (Fd.pbad a.pin) 0 a.pn = 0 then (if Fd.scan (Fd.pbad a.bar) 0 a.bn = 0 then (if a.twice = true then 6 else if 1000 < a.pn ∨ 1000 < a.bn then 4 else 0) else Fd.scan (Fd.pbad a.bar) 0 a.bn) else Fd.scan (Fd.pbad a.pin) 0 a.pn
/-- An album's error, but for its name. -/
def err (a : Alb) : Int :=
  if a.smart = true then (if a.rule.err = 0 then a.listE else a.rule.err) else if a.rule.blank = true ∧ a.bn = 0 then a.listE else 1
/-- The error of album i behind the first i, which are right. -/
def bad (x : Nat → Alb) (i : Nat) : Int :=
  if Fd.nameB (x i).name = true then (if i ≠ 0 ∧ Fd.leS (x i).name (x (i - 1)).name = true then 5 else (x i).err) else 3
theorem bad_name {x : Nat → Alb} {i : Nat} (h : Fd.nameB (x i).name = false) : bad x i = 3 := if_neg (by rw [h]; simp)
theorem bad_ord {x : Nat → Alb} {i : Nat} (h : Fd.nameB (x i).name = true) (h0 : i ≠ 0) (g : Fd.leS (x i).name (x (i - 1)).name = true) : bad x i = 5 := by unfold bad; rw [if_pos h, if_pos ⟨h0, g⟩]
theorem bad_first {x : Nat → Alb} {i : Nat} {e : Int} (h : Fd.nameB (x i).name = true) (h0 : i = 0) (g : (x i).err = e) : bad x i = e := by unfold bad; rw [if_pos h, if_neg (fun k => k.1 h0), g]
theorem bad_ok {x : Nat → Alb} {i : Nat} {e : Int} (h : Fd.nameB (x i).name = true) (k : Fd.leS (x i).name (x (i - 1)).name = false) (g : (x i).err = e) : bad x i = e := by
  unfold bad; rw [if_pos h, if_neg (fun q => by have := q.2; rw [k] at this; cases this), g]
def errs (x : Nat → Alb) (n : Nat) : Int := if 50 < n then 4 else Fd.scan (bad x) 0 n
end Alb
theorem Blk.ten {w : World} {b : Nat} {c0 c1 c2 c3 c4 c5 c6 c7 c8 c9 : Value} {t : TypeId} (h : Blk w b #[c0, c1, c2, c3, c4, c5, c6, c7, c8, c9] t) :
    w.cell? ⟨b, 0, none⟩ = some c0 ∧ w.cell? ⟨b, 1, none⟩ = some c1 ∧ w.cell? ⟨b, 2, none⟩ = some c2 ∧ w.cell? ⟨b, 3, none⟩ = some c3 ∧ w.cell? ⟨b, 4, none⟩ = some c4 ∧ w.cell? ⟨b, 5, none⟩ = some c5 ∧ w.cell? ⟨b, 6, none⟩ = some c6 ∧ w.cell? ⟨b, 7, none⟩ = some c7 ∧ w.cell? ⟨b, 8, none⟩ = some c8 ∧ w.cell? ⟨b, 9, none⟩ = some c9 :=
  ⟨by rw [h.cell]; rfl, by rw [h.cell]; rfl, by rw [h.cell]; rfl, by rw [h.cell]; rfl, by rw [h.cell]; rfl, by rw [h.cell]; rfl, by rw [h.cell]; rfl, by rw [h.cell]; rfl, by rw [h.cell]; rfl, by rw [h.cell]; rfl⟩
end Go.Proofs.Ytbbedepojogfmaa
