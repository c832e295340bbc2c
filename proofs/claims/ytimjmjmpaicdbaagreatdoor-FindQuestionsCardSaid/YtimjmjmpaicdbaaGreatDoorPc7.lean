/- Parts of the proof, no condition: CutLays, TxMath, CutIs, StrRow, DigMath, FtMath, DigFix, DigLays, Digits, Fits, DaysMath, DaysWalks, DaysRef. -/
import Derived.Shelf.Strings.Shaped
import Derived.Test.YtimjmjmpaicdbaaGreatDoorProg
import Derived.Lib.ItoaLen
import Derived.Lib.Repeat
import Derived.Test.YtimjmjmpaicdbaaGreatDoorPc1
import Derived.Shelf.Unicode.PredsPay
import Derived.Test.YtimjmjmpaicdbaaGreatDoorPc5
import Derived.Lib.Atoi
import Derived.Lib.SlTrimSet
import Derived.Shelf.Strings.SlTrimAscii
import Derived.Shelf.Strconv.Atoi
import Derived.Lib.ConvBytes
import Derived.Lib.AtoiErrMem
import Derived.Shelf.Abstract
import Derived.Maps.AppendAt
import Derived.WalkMore
set_option maxRecDepth 100000
set_option maxHeartbeats 8000000
set_option linter.unusedVariables false
namespace Go.Proofs.YtimjmjmpaicdbaaGreatDoor
open Go.Shelf
def Lay.cutM_ren : Go.Shelf.Ren := ⟨fun | 145 => 160 | 220 => 193 | 219 => 205 | 217 => 180 | 225 => 229 | 224 => 230 | 267 => 231 | 266 => 217 | 314 => 250 | n => n, fun | 9 => 9 | 4 => 4 | 59 => 194 | 3 => 3 | 5 => 5 | 46 => 227 | 146 => 282 | 51 => 179 | n => n, fun | 1 => 0 | n => n⟩
theorem Lay.cutM : Go.Proofs.LaysM.n145 Tryz.prog Lay.cutM_ren := {
 mixed := by kernel_rfl
 f145 := Tryz.func160.trans (congrArg some (by kernel_rfl))
 f217 := Tryz.func180.trans (congrArg some (by kernel_rfl))
 f219 := Tryz.func205.trans (congrArg some (by kernel_rfl))
 f220 := Tryz.func193.trans (congrArg some (by kernel_rfl))
 f224 := Tryz.func230.trans (congrArg some (by kernel_rfl))
 f225 := Tryz.func229.trans (congrArg some (by kernel_rfl))
 f266 := Tryz.func217.trans (congrArg some (by kernel_rfl))
 f267 := Tryz.func231.trans (congrArg some (by kernel_rfl))
 f314 := Tryz.func250.trans (congrArg some (by kernel_rfl))
 t3 := Tryz.underlying3
 a3 := Tryz.isAgg3
 z3 := Tryz.sizeOf3
 v3 := Tryz.zeroValue3
 t4 := Tryz.underlying4
 a4 := Tryz.isAgg4
 z4 := Tryz.sizeOf4
 v4 := Tryz.zeroValue4
 t5 := Tryz.underlying5
 a5 := Tryz.isAgg5
 z5 := Tryz.sizeOf5
 v5 := Tryz.zeroValue5
 t9 := Tryz.underlying9
 a9 := Tryz.isAgg9
 z9 := Tryz.sizeOf9
 v9 := Tryz.zeroValue9
 t46 := Tryz.underlying227
 a46 := Tryz.isAgg227
 z46 := Tryz.sizeOf227
 v46 := Tryz.zeroValue227
 t51 := Tryz.underlying179
 a51 := Tryz.isAgg179
 z51 := Tryz.sizeOf179
 v51 := Tryz.zeroValue179
 t59 := Tryz.underlying194
 a59 := Tryz.isAgg194
 z59 := Tryz.sizeOf194
 v59 := Tryz.zeroValue194
 t146 := Tryz.underlying282
 a146 := Tryz.isAgg282
 z146 := Tryz.sizeOf282
 v146 := Tryz.zeroValue282
 g1 := by kernel_rfl
 i3 := by kernel_rfl
 i4 := by kernel_rfl
 i5 := by kernel_rfl
 i9 := by kernel_rfl
 i46 := by kernel_rfl
 i51 := by kernel_rfl
 i59 := by kernel_rfl
 i146 := by kernel_rfl
 m1 := by kernel_rfl
 s1_3 := fun w h => Go.Proofs.cell_of_shapedOpen_int (zero := #[.int .i64 0]) (t := 3) h (of_decide_eq_true (by kernel_rfl)) (by kernel_rfl) rfl (by kernel_rfl) (by kernel_rfl) Tryz.underlying3 }
end Go.Proofs.YtimjmjmpaicdbaaGreatDoor
namespace Go.Proofs.YtimjmjmpaicdbaaGreatDoor
namespace Tx
open Go.Lib
abbrev mk (l : List UInt8) : ByteArray := ⟨l.toArray⟩
theorem mk_append (a b : List UInt8) : mk a ++ mk b = mk (a ++ b) := by
 apply ByteArray.ext
 simp [mk]
theorem mk_size (a : List UInt8) : (mk a).size = a.length := by simp [ByteArray.size]
theorem mk_toList (a : List UInt8) : (mk a).data.toList = a := by simp
def dl (n : Nat) : Nat := (decDigits n).length
theorem dl_one {n : Nat} (h : n < 10) : dl n = 1 := by unfold dl; rw [decDigits, dif_pos h]; rfl
theorem dl_succ {n : Nat} (h : 10 ≤ n) : dl n = dl (n / 10) + 1 := by unfold dl; rw [decDigits, dif_neg (by omega)]; simp
theorem dl_two {n : Nat} (h : 10 ≤ n) (h2 : n < 100) : dl n = 2 := by rw [dl_succ h, dl_one (by omega)]
theorem dl_three {n : Nat} (h : 100 ≤ n) (h2 : n < 1000) : dl n = 3 := by rw [dl_succ (by omega), dl_two (by omega) (by omega)]
theorem dl_four {n : Nat} (h : 1000 ≤ n) (h2 : n < 10000) : dl n = 4 := by rw [dl_succ (by omega), dl_three (by omega) (by omega)]
theorem dl_le (n : Nat) (h : n ≤ 9223372036854775807) : dl n ≤ 19 := by
 have key : ∀ k n, n < 10 ^ (k + 1) → dl n ≤ k + 1 := by
  intro k
  induction k with
  | zero => intro n hn; rw [dl_one (by simpa using hn)]; omega
  | succ k ih =>
    intro n hn
    by_cases h1 : n < 10
    ·rw [dl_one h1]; omega
    ·rw [dl_succ (by omega)]
     have h2 : n / 10 < 10 ^ (k + 1) := by rw [Nat.pow_succ] at hn; omega
     have := ih _ h2; omega
 exact key 18 n (by omega)
def pad (n k : Nat) : List UInt8 := List.replicate (k - dl n) 48 ++ decDigits n
theorem pad_len {n k : Nat} (h : dl n ≤ k) : (pad n k).length = k := by
 have e : (decDigits n).length = dl n := rfl
 unfold pad; rw [List.length_append, List.length_replicate, e]; omega
theorem pad_big {n k : Nat} (h : k ≤ dl n) : pad n k = decDigits n := by
 unfold pad; rw [show k - dl n = 0 by omega]; rfl
def date (y m d : Nat) (sep : List UInt8) : List UInt8 := pad y 4 ++ sep ++ pad m 2 ++ sep ++ pad d 2
end Tx
end Go.Proofs.YtimjmjmpaicdbaaGreatDoor
namespace Go.Proofs.YtimjmjmpaicdbaaGreatDoor
open Go.RowKit Go.Sort Go.Shelf
def Mx (w : World) : Prop := ∃ m, w.cell? ⟨0, 0, none⟩ = some (.int .i64 m)
theorem Mx.below {w w' : World} (h : Mx w) (hb : Below w.heap.size w w') : Mx w' := by
 obtain ⟨m, hm⟩ := h
 exact ⟨m, cell_below hb hm⟩
theorem mx_of_shaped {w : World} (h : w.ShapedOpen Tryz.prog) : Mx w := Lay.cutM.s1_3 w h
theorem cut_is (s sep : List UInt8) (hs : s.length < 4294967281) (w : World) (hm : Mx w) :
  Calls Tryz.prog 160 #[.string (Tx.mk s), .string (Tx.mk sep)] w fun e w' => e = .returned (.tuple #[.string (Tx.mk (Lib.cut s sep).1), .string (Tx.mk (Lib.cut s sep).2.1), .bool (Lib.cut s sep).2.2]) ∧ Below w.heap.size w w' := by
 obtain ⟨m, hm⟩ := hm
 refine (Any.strings_Cut { Lay.cutM with } (Tx.mk s) (Tx.mk sep) m w (by rw [Tx.mk_size]; exact hs) hm).mono ?_
 rintro e w' ⟨rfl, n, rfl⟩
 exact ⟨rfl, below_drewN (Below.refl _ _) n⟩
theorem cut_len (s sep : List UInt8) : (Lib.cut s sep).1.length ≤ s.length ∧ (Lib.cut s sep).2.1.length ≤ s.length := by
 unfold Lib.cut
 split
 ·simp; omega
 ·simp
end Go.Proofs.YtimjmjmpaicdbaaGreatDoor
namespace Go.Proofs.YtimjmjmpaicdbaaGreatDoor
open Go.RowKit Go.Sort
theorem cell_set_other {W : World} {a p : Addr} {v x : Value} (ha : p.block ≠ a.block) (h : W.cell? p = some x) : (W.setCell a v).cell? p = some x := by
 unfold World.cell? at h ⊢
 rw [Below.heap_setCell W a v p.block ha]
 exact h
def StrRow (w : World) (g : Nat) (ss : List (List UInt8)) : Prop := g < w.heap.size ∧ ∀ i, i < ss.length → w.cell? ⟨g, i, none⟩ = some (.string (Tx.mk (ss.getD i [])))
theorem StrRow.keep {w w' : World} {g : Nat} {ss : List (List UInt8)} (h : StrRow w g ss) (hb : Below w.heap.size w w') : StrRow w' g ss :=
 ⟨Nat.lt_of_lt_of_le h.1 hb.size, fun i hi => (hb.cell (World.block_lt_of_cell? w _ (h.2 i hi))).trans (h.2 i hi)⟩
theorem StrRow.grown {w w' : World} {g : Nat} {ss : List (List UInt8)} {row : Option Nat} (h : StrRow w g ss) (hg : w.grownBy w' row) (hne : some g ≠ row) (hz : w.heap.size ≤ w'.heap.size) : StrRow w' g ss := by
 refine ⟨Nat.lt_of_lt_of_le h.1 hz, fun i hi => ?_⟩
 have := hg.block g h.1 hne
 have h2 := h.2 i hi
 unfold World.cell? at h2 ⊢
 rw [this]; exact h2
theorem StrRow.setOther {w : World} {g b i : Nat} {v : Value} {ss : List (List UInt8)} (h : StrRow w g ss) (hne : g ≠ b) : StrRow (w.setCell ⟨b, i, none⟩ v) g ss :=
 ⟨by simpa using h.1, fun j hj => cell_set_other hne (h.2 j hj)⟩
theorem StrRow.alloc {w : World} {g : Nat} {ss : List (List UInt8)} (h : StrRow w g ss) (o : Obj) : StrRow (w.alloc o) g ss := h.keep ((Below.refl _ _).alloc (Nat.le_refl _) o)
end Go.Proofs.YtimjmjmpaicdbaaGreatDoor
namespace Go.Proofs.YtimjmjmpaicdbaaGreatDoor
namespace Dg
open Go.Lib
def isD (b : UInt8) : Bool := decide (48 ≤ b.toNat ∧ b.toNat ≤ 57)
def allD (l : List UInt8) : Bool := l.all isD
def valF (n : Nat) : List UInt8 → Nat
 | [] => n
 | b :: r => valF (10 * n + (b.toNat - 48)) r
def val (l : List UInt8) : Nat := valF 0 l
def digits : List UInt8 := [48, 49, 50, 51, 52, 53, 54, 55, 56, 57]
theorem mem_digits (b : UInt8) : digits.contains b = isD b := by
 rw [Bool.eq_iff_iff]
 unfold digits isD
 rw [decide_eq_true_iff, List.contains_iff_mem]
 simp only [List.mem_cons, List.not_mem_nil, or_false, ← UInt8.toNat_inj]
 simp only [UInt8.reduceToNat]
 omega
theorem decFrom_val (l : List UInt8) : ∀ n : Nat, allD l = true → decFrom n l = some (valF n l) := by
 induction l with
 | nil => intro n _; rfl
 | cons b r ih =>
   intro n h
   simp only [allD, List.all_cons, Bool.and_eq_true] at h
   have hb : 48 ≤ b.toNat ∧ b.toNat ≤ 57 := by simpa [isD] using h.1
   have e : digitVal b = some (b.toNat - 48) := by unfold digitVal; rw [if_pos hb]
   have := ih (n * 10 + (b.toNat - 48)) (by unfold allD; exact h.2)
   unfold decFrom valF
   rw [e, Nat.mul_comm 10 n]
   exact this
theorem atoi_val {l : List UInt8} (h0 : l ≠ []) (h : allD l = true) : atoi l = some (val l : Int) := by
 cases l with
 | nil => exact absurd rfl h0
 | cons b r =>
   have hb : isD b = true := by simp only [allD, List.all_cons, Bool.and_eq_true] at h; exact h.1
   have hb' := of_decide_eq_true hb
   have n1 : (b == 45) = false := by
    apply beq_eq_false_iff_ne.2; rintro rfl; revert hb; decide
   have n2 : (b == 43) = false := by
    apply beq_eq_false_iff_ne.2; rintro rfl; revert hb; decide
   rw [atoi, n1, n2]
   simp only [Bool.false_eq_true, if_false]
   rw [decNat, if_neg (by simp), decFrom_val _ _ h]
   rfl
theorem dropWhile_nil {α : Type} (p : α → Bool) : ∀ l : List α, l.dropWhile p = [] ↔ l.all p = true
 | [] => by simp
 | a :: r => by
   rw [List.dropWhile_cons, List.all_cons]
   cases hp : p a
   ·simp
   ·simpa using dropWhile_nil p r
theorem dropWhile_head {α : Type} (p : α → Bool) : ∀ l : List α, l.dropWhile p ≠ [] → (l.dropWhile p).all p = false
 | [], h => absurd rfl h
 | a :: r, h => by
   rw [List.dropWhile_cons] at h ⊢
   cases hp : p a
   ·simp [hp]
   ·rw [hp, if_pos rfl] at h; rw [if_pos rfl]; exact dropWhile_head p r h
theorem trim_nil (l : List UInt8) : trimS l digits = [] ↔ allD l = true := by
 have e : (fun x => digits.contains x) = isD := funext mem_digits
 unfold trimS trimLeftS trimRightS
 rw [e]
 unfold allD
 constructor
 ·intro h
  by_cases c : l.reverse.dropWhile isD = []
  ·have := (dropWhile_nil isD l.reverse).1 c
   rwa [List.all_reverse] at this
  ·have h1 := dropWhile_head isD l.reverse c
   have h2 := (dropWhile_nil isD _).1 h
   rw [List.all_reverse, h1] at h2
   exact absurd h2 (by simp)
 ·intro h
  have : l.reverse.dropWhile isD = [] := (dropWhile_nil isD l.reverse).2 (by rw [List.all_reverse]; exact h)
  rw [this]; rfl
theorem valF_lt (l : List UInt8) : ∀ n m : Nat, allD l = true → n + 1 ≤ m → valF n l + 1 ≤ m * 10 ^ l.length := by
 induction l with
 | nil => intro n m _ h; rw [List.length_nil, Nat.pow_zero, Nat.mul_one]; exact h
 | cons b r ih =>
   intro n m h hn
   simp only [allD, List.all_cons, Bool.and_eq_true] at h
   have hb : 48 ≤ b.toNat ∧ b.toNat ≤ 57 := by simpa [isD] using h.1
   have h1 := ih (10 * n + (b.toNat - 48)) (m * 10) h.2 (by omega)
   rw [List.length_cons, Nat.pow_succ, Nat.mul_comm (10 ^ r.length), ← Nat.mul_assoc]
   exact h1
theorem val_lt {l : List UInt8} (h : allD l = true) : val l < 10 ^ l.length := by
 have h1 := valF_lt l 0 1 h (Nat.le_refl _)
 rw [Nat.one_mul] at h1
 exact h1
end Dg
namespace Ft
def win (s : List UInt8) (fr j : Nat) : List UInt8 := (s.drop fr).take (j - fr)
theorem win_len (s : List UInt8) (fr j : Nat) (h : j ≤ s.length) : (win s fr j).length = j - fr := by
 unfold win; rw [List.length_take, List.length_drop]; omega
theorem win_ne {s : List UInt8} {fr j : Nat} (h : fr < j) (hj : j ≤ s.length) : win s fr j ≠ [] := by
 intro e; have := win_len s fr j hj; rw [e] at this; simp at this; omega
def grp (s : List UInt8) (fr j : Nat) (acc : List Int) : Option (List Int) :=
 if fr < j then (if Dg.allD (win s fr j) = true then some (acc ++ [(Dg.val (win s fr j) : Int)]) else none) else some acc
def go (s form : List UInt8) : Nat → Nat → Nat → List Int → Option (List Int)
 | 0, _, _, acc => some acc
 | k + 1, j, fr, acc =>
   if form[j]? = some 48 then go s form k (j + 1) fr acc
   else (grp s fr j acc).bind fun acc' => if j < form.length ∧ s[j]? ≠ form[j]? then none else go s form k (j + 1) (j + 1) acc'
def res (s form : List UInt8) : Option (List Int) := if s.length = form.length then go s form (form.length + 1) 0 0 [] else none
theorem go_zero {s form : List UInt8} {k j fr : Nat} {acc : List Int} (h : form[j]? = some 48) : go s form (k + 1) j fr acc = go s form k (j + 1) fr acc := by
 rw [go, if_pos h]
theorem go_bad {s form : List UInt8} {k j fr : Nat} {acc : List Int} (h : form[j]? ≠ some 48) (h1 : fr < j) (h2 : Dg.allD (win s fr j) = false) : go s form (k + 1) j fr acc = none := by
 rw [go, if_neg h]; unfold grp; rw [if_pos h1, if_neg (by rw [h2]; simp)]; rfl
theorem go_num {s form : List UInt8} {k j fr : Nat} {acc : List Int} (h : form[j]? ≠ some 48) (h1 : fr < j) (h2 : Dg.allD (win s fr j) = true) (h3 : ¬ (j < form.length ∧ s[j]? ≠ form[j]?)) : go s form (k + 1) j fr acc = go s form k (j + 1) (j + 1) (acc ++ [(Dg.val (win s fr j) : Int)]) := by
 rw [go, if_neg h]; unfold grp; rw [if_pos h1, if_pos h2, Option.bind_some, if_neg h3]
theorem go_numSep {s form : List UInt8} {k j fr : Nat} {acc : List Int} (h : form[j]? ≠ some 48) (h1 : fr < j) (h2 : Dg.allD (win s fr j) = true) (h3 : j < form.length) (h4 : s[j]? ≠ form[j]?) : go s form (k + 1) j fr acc = none := by
 rw [go, if_neg h]; unfold grp; rw [if_pos h1, if_pos h2, Option.bind_some, if_pos ⟨h3, h4⟩]
theorem go_sep {s form : List UInt8} {k j fr : Nat} {acc : List Int} (h : form[j]? ≠ some 48) (h1 : ¬ fr < j) (h3 : ¬ (j < form.length ∧ s[j]? ≠ form[j]?)) : go s form (k + 1) j fr acc = go s form k (j + 1) (j + 1) acc := by
 rw [go, if_neg h]; unfold grp; rw [if_neg h1, Option.bind_some, if_neg h3]
theorem go_sepBad {s form : List UInt8} {k j fr : Nat} {acc : List Int} (h : form[j]? ≠ some 48) (h1 : ¬ fr < j) (h3 : j < form.length) (h4 : s[j]? ≠ form[j]?) : go s form (k + 1) j fr acc = none := by
 rw [go, if_neg h]; unfold grp; rw [if_neg h1, Option.bind_some, if_pos ⟨h3, h4⟩]
def Few (form : List UInt8) : Prop := form.length ≤ 18 ∨ (form.length ≤ 19 ∧ ∃ p, p < form.length ∧ form[p]? ≠ some 48)
theorem few {form : List UInt8} (h : Few form) {fr j : Nat} (hj : j ≤ form.length) (hf : fr ≤ j) (ha : ∀ k, fr ≤ k → k < j → form[k]? = some 48) : j - fr ≤ 18 := by
 rcases h with h | ⟨h, p, hp, hn⟩
 ·omega
 ·by_cases c : fr ≤ p ∧ p < j
  ·exact absurd (ha p c.1 c.2) hn
  ·omega
end Ft
theorem ext_mk (s : List UInt8) (fr j : Nat) : (Tx.mk s).extract fr j = Tx.mk (Ft.win s fr j) := by
 apply ByteArray.ext
 unfold Ft.win
 simp [ByteArray.data_extract]
end Go.Proofs.YtimjmjmpaicdbaaGreatDoor
namespace Go.Proofs.YtimjmjmpaicdbaaGreatDoor
open Go.RowKit Go.Sort
namespace Dg
theorem allD_snoc {l : List UInt8} {j : Nat} (h : allD (l.take j) = true) {b : UInt8} (hb : l[j]? = some b) (hd : isD b = true) : allD (l.take (j + 1)) = true := by
 rw [List.take_add_one, hb]
 unfold allD at *
 simp [List.all_append, h, hd]
theorem valF_snoc (l : List UInt8) (b : UInt8) : ∀ n, valF n (l ++ [b]) = 10 * valF n l + (b.toNat - 48) := by
 induction l with
 | nil => intro n; rfl
 | cons a r ih => intro n; exact ih _
theorem val_snoc {l : List UInt8} {j : Nat} {b : UInt8} (hb : l[j]? = some b) : val (l.take (j + 1)) = 10 * val (l.take j) + (b.toNat - 48) := by
 rw [List.take_add_one, hb]
 exact valF_snoc _ _ _
theorem allD_no {l : List UInt8} {j : Nat} {b : UInt8} (hb : l[j]? = some b) (hd : isD b = false) : allD l = false := by
 unfold allD
 rw [List.all_eq_false]
 exact ⟨b, List.mem_of_getElem? hb, by rw [hd]; simp⟩
end Dg
theorem strIdx (l : List UInt8) (j : Nat) (b : UInt8) (hb : l[j]? = some b) (V : World) : (Instr.index 9 (.string (Tx.mk l)) (.int .i64 (j : Int))).run Tryz.prog V = .ok (.int .u8 (b.toNat : Int)) V := by
 obtain ⟨hj, e⟩ := List.getElem?_eq_some_iff.1 hb
 have h0 : (0 : Int) ≤ (j : Int) := by omega
 have hsz := Tx.mk_size l
 have h1 : (j : Int) < ((Tx.mk l).size : Int) := by rw [hsz]; omega
 have h2 : (j : Int) < (l.length : Int) := by omega
 go_simp
 have h3 : (Tx.mk l)[j]'(by rw [hsz]; exact hj) = b := by
  show l.toArray[j]'(by simpa using hj) = b
  simpa using e
 rw [h3]
theorem fixed_is (l : List UInt8) (many : Nat) (hm : many ≤ 18) (hl : l.length ≤ 9223372036854775807) (w : World) :
  Calls Tryz.prog 196 #[.string (Tx.mk l), .int .i64 many] w fun e w' => e = .returned (.int .i64 (if l.length = many ∧ Dg.allD l = true then (Dg.val l : Int) else -1)) ∧ w' = w := by
 have hsz := Tx.mk_size l
 obtain ⟨q, hq⟩ : ∃ q : Int, (if l.length = many ∧ Dg.allD l = true then (Dg.val l : Int) else -1) = q := ⟨_, rfl⟩
 rw [hq]
 have HQ := Lib.hid hq
 clear hq
 by_cases h0 : l.length = many
 ·have HL := Lib.hid h0
  go_enter Tryz.func196, Tryz.ntmps196
  go_wp2_with fail
  go_loopg [5, 13] many (fun gk v i wr => ∃ j : Nat, j ≤ many ∧ gk = many - j ∧ v = .int .i64 (Dg.val (l.take j)) ∧ i = .int .i64 j ∧ Dg.allD (l.take j) = true ∧ w = wr)
  case atStart => exact ⟨0, by omega, rfl, rfl, rfl, rfl, rfl⟩
  case round =>
   obtain ⟨j, hj, rfl, rfl, rfl, had, rfl⟩ := hrel
   by_cases hlt : j < many
   ·have hjl : j < l.length := by rw [HL.out]; exact hlt
    obtain ⟨b, hb⟩ : ∃ b, l[j]? = some b := ⟨_, List.getElem?_eq_getElem hjl⟩
    have hidx := strIdx l j b hb
    have hbt := b.toNat_lt
    have hlti : (j : Int) < (many : Int) := by omega
    have hs1 := Dg.val_snoc hb
    have hvb : Dg.val (l.take j) < 100000000000000000 := by
     have h1 := Dg.val_lt had
     have h2 : (l.take j).length ≤ 17 := by rw [List.length_take]; omega
     exact Nat.lt_of_lt_of_le h1 (Nat.pow_le_pow_right (by omega) h2)
    cases hd : Dg.isD b
    ·have hn := Dg.allD_no hb hd
     have HR : Hid ((-1 : Int) = q) := by show _ = _; rw [← HQ.out, if_neg (by rw [hn]; simp)]
     have hd' : ¬ (48 ≤ b.toNat ∧ b.toNat ≤ 57) := by simpa [Dg.isD] using hd
     have HB := Lib.hid hb
     generalize Dg.val (l.take j) = v at *
     clear hb hs1 hn hd had
     by_cases c1 : b.toNat < 48
     ·generalize b.toNat = u at *
      go_wp2_with fail
      go_ret
      exact ⟨ret_int HR.out, rfl⟩
     ·have c2 : 57 < b.toNat := by omega
      generalize b.toNat = u at *
      go_wp2_with fail
      go_ret
      exact ⟨ret_int HR.out, rfl⟩
    ·have hd' : 48 ≤ b.toNat ∧ b.toNat ≤ 57 := by simpa [Dg.isD] using hd
     have had2 := Lib.hid (Dg.allD_snoc had hb hd)
     have HS1 := Lib.hid hs1
     have HB := Lib.hid hb
     clear hs1 hb hd had
     generalize Dg.val (l.take j) = v at *
     generalize b.toNat = u at *
     go_wp2_with fail
     go_roundg (many - (j + 1))
     case rel => exact ⟨j + 1, by omega, rfl, by rw [HS1.out]; refine congrArg _ ?_; first | omega | (unfold wrap64; omega), by go_num, had2.out, rfl⟩
     case measure => omega
   ·obtain rfl : j = many := by omega
    have e : l.take j = l := by rw [← HL.out, List.take_length]
    rw [e] at had
    have HR : Hid ((Dg.val (l.take j) : Int) = q) := by show _ = _; rw [e, ← HQ.out, if_pos ⟨HL.out, had⟩]
    clear e had
    go_wp2_with fail
    go_ret
    exact ⟨ret_int HR.out, rfl⟩
 ·have HR : Hid ((-1 : Int) = q) := by show _ = _; rw [← HQ.out, if_neg (fun h => h0 h.1)]
  have h1 : ¬ (l.length : Int) = (many : Int) := by omega
  have h2 : ((l.length : Int) == (many : Int)) = false := by simp; omega
  have h3 : ((l.length : Int) != (many : Int)) = true := by simp; omega
  go_enter Tryz.func196, Tryz.ntmps196
  go_wp2_with fail
  go_ret
  exact ⟨ret_int HR.out, rfl⟩
end Go.Proofs.YtimjmjmpaicdbaaGreatDoor
namespace Go.Proofs.YtimjmjmpaicdbaaGreatDoor
open Go.Shelf
def Lay.trimS_ren : Go.Shelf.Ren := ⟨fun | 160 => 248 | 232 => 268 | 231 => 267 | 227 => 269 | 234 => 271 | 233 => 270 | 236 => 273 | 235 => 272 | 228 => 281 | 271 => 284 | 151 => 283 | 197 => 282 | 120 => 287 | 152 => 286 | 260 => 285 | 137 => 144 | 119 => 288 | 224 => 230 | 225 => 229 | 217 => 180 | 266 => 217 | n => n, fun | 9 => 9 | 4 => 4 | 3 => 3 | 5 => 5 | 117 => 303 | 116 => 302 | 0 => 0 | 124 => 306 | 21 => 21 | 105 => 310 | 46 => 227 | 119 => 245 | 139 => 316 | 138 => 315 | n => n, fun | 3 => 7 | 4 => 8 | n => n⟩
theorem Lay.trimS : Go.Proofs.Lays.n160 Tryz.prog Lay.trimS_ren := {
 mixed := by kernel_rfl
 f119 := Tryz.func288.trans (congrArg some (by kernel_rfl))
 f120 := Tryz.func287.trans (congrArg some (by kernel_rfl))
 f137 := Tryz.func144.trans (congrArg some (by kernel_rfl))
 f151 := Tryz.func283.trans (congrArg some (by kernel_rfl))
 f152 := Tryz.func286.trans (congrArg some (by kernel_rfl))
 f160 := Tryz.func248.trans (congrArg some (by kernel_rfl))
 f197 := Tryz.func282.trans (congrArg some (by kernel_rfl))
 f217 := Tryz.func180.trans (congrArg some (by kernel_rfl))
 f224 := Tryz.func230.trans (congrArg some (by kernel_rfl))
 f225 := Tryz.func229.trans (congrArg some (by kernel_rfl))
 f227 := Tryz.func269.trans (congrArg some (by kernel_rfl))
 f228 := Tryz.func281.trans (congrArg some (by kernel_rfl))
 f231 := Tryz.func267.trans (congrArg some (by kernel_rfl))
 f232 := Tryz.func268.trans (congrArg some (by kernel_rfl))
 f233 := Tryz.func270.trans (congrArg some (by kernel_rfl))
 f234 := Tryz.func271.trans (congrArg some (by kernel_rfl))
 f235 := Tryz.func272.trans (congrArg some (by kernel_rfl))
 f236 := Tryz.func273.trans (congrArg some (by kernel_rfl))
 f260 := Tryz.func285.trans (congrArg some (by kernel_rfl))
 f266 := Tryz.func217.trans (congrArg some (by kernel_rfl))
 f271 := Tryz.func284.trans (congrArg some (by kernel_rfl))
 t0 := Tryz.underlying0
 a0 := Tryz.isAgg0
 z0 := Tryz.sizeOf0
 v0 := Tryz.zeroValue0
 t3 := Tryz.underlying3
 a3 := Tryz.isAgg3
 z3 := Tryz.sizeOf3
 v3 := Tryz.zeroValue3
 t4 := Tryz.underlying4
 a4 := Tryz.isAgg4
 z4 := Tryz.sizeOf4
 v4 := Tryz.zeroValue4
 t5 := Tryz.underlying5
 a5 := Tryz.isAgg5
 z5 := Tryz.sizeOf5
 v5 := Tryz.zeroValue5
 t9 := Tryz.underlying9
 a9 := Tryz.isAgg9
 z9 := Tryz.sizeOf9
 v9 := Tryz.zeroValue9
 t21 := Tryz.underlying21
 a21 := Tryz.isAgg21
 z21 := Tryz.sizeOf21
 v21 := Tryz.zeroValue21
 t46 := Tryz.underlying227
 a46 := Tryz.isAgg227
 z46 := Tryz.sizeOf227
 v46 := Tryz.zeroValue227
 t105 := Tryz.underlying310
 a105 := Tryz.isAgg310
 z105 := Tryz.sizeOf310
 v105 := Tryz.zeroValue310
 t116 := Tryz.underlying302
 a116 := Tryz.isAgg302
 z116 := Tryz.sizeOf302
 t117 := Tryz.underlying303
 a117 := Tryz.isAgg303
 z117 := Tryz.sizeOf303
 v117 := Tryz.zeroValue303
 t119 := Tryz.underlying245
 a119 := Tryz.isAgg245
 z119 := Tryz.sizeOf245
 t124 := Tryz.underlying306
 a124 := Tryz.isAgg306
 z124 := Tryz.sizeOf306
 v124 := Tryz.zeroValue306
 t138 := Tryz.underlying315
 a138 := Tryz.isAgg315
 z138 := Tryz.sizeOf315
 v138 := Tryz.zeroValue315
 t139 := Tryz.underlying316
 a139 := Tryz.isAgg316
 z139 := Tryz.sizeOf316
 v139 := Tryz.zeroValue316
 g3 := by kernel_rfl
 g4 := by kernel_rfl }
def Lay.atoiS_ren : Go.Shelf.Ren := ⟨fun | 172 => 142 | 244 => 176 | 245 => 177 | 247 => 211 | 279 => 212 | 280 => 213 | 281 => 214 | 282 => 215 | 287 => 236 | 316 => 237 | 171 => 28 | 205 => 238 | 321 => 253 | 322 => 254 | 243 => 75 | 246 => 112 | 283 => 165 | 284 => 166 | 285 => 167 | 286 => 168 | 129 => 199 | 317 => 198 | 318 => 200 | 319 => 201 | 320 => 202 | 337 => 226 | 338 => 227 | n => n, fun | 9 => 9 | 3 => 3 | 75 => 66 | 76 => 67 | 4 => 4 | 5 => 5 | 167 => 231 | 37 => 62 | 0 => 0 | 85 => 232 | 2 => 2 | 168 => 234 | 53 => 199 | 175 => 258 | 46 => 227 | 210 => 261 | 127 => 117 | 145 => 287 | 143 => 285 | 21 => 21 | 171 => 198 | 173 => 202 | 212 => 225 | 51 => 179 | 20 => 20 | 213 => 226 | 232 => 280 | 233 => 281 | 80 => 74 | n => n, fun | 15 => 2 | 16 => 3 | 17 => 1 | 18 => 4 | 19 => 5 | n => n⟩
theorem Lay.atoiS : Go.Proofs.Lays.n172 Tryz.prog Lay.atoiS_ren := {
 mixed := by kernel_rfl
 f129 := Tryz.func199.trans (congrArg some (by kernel_rfl))
 f171 := Tryz.func28.trans (congrArg some (by kernel_rfl))
 f172 := Tryz.func142.trans (congrArg some (by kernel_rfl))
 f205 := Tryz.func238.trans (congrArg some (by kernel_rfl))
 f243 := Tryz.func75.trans (congrArg some (by kernel_rfl))
 f244 := Tryz.func176.trans (congrArg some (by kernel_rfl))
 f245 := Tryz.func177.trans (congrArg some (by kernel_rfl))
 f246 := Tryz.func112.trans (congrArg some (by kernel_rfl))
 f247 := Tryz.func211.trans (congrArg some (by kernel_rfl))
 f279 := Tryz.func212.trans (congrArg some (by kernel_rfl))
 f280 := Tryz.func213.trans (congrArg some (by kernel_rfl))
 f281 := Tryz.func214.trans (congrArg some (by kernel_rfl))
 f282 := Tryz.func215.trans (congrArg some (by kernel_rfl))
 f283 := Tryz.func165.trans (congrArg some (by kernel_rfl))
 f284 := Tryz.func166.trans (congrArg some (by kernel_rfl))
 f285 := Tryz.func167.trans (congrArg some (by kernel_rfl))
 f286 := Tryz.func168.trans (congrArg some (by kernel_rfl))
 f287 := Tryz.func236.trans (congrArg some (by kernel_rfl))
 f316 := Tryz.func237.trans (congrArg some (by kernel_rfl))
 f317 := Tryz.func198.trans (congrArg some (by kernel_rfl))
 f318 := Tryz.func200.trans (congrArg some (by kernel_rfl))
 f319 := Tryz.func201.trans (congrArg some (by kernel_rfl))
 f320 := Tryz.func202.trans (congrArg some (by kernel_rfl))
 f321 := Tryz.func253.trans (congrArg some (by kernel_rfl))
 f322 := Tryz.func254.trans (congrArg some (by kernel_rfl))
 f337 := Tryz.func226.trans (congrArg some (by kernel_rfl))
 f338 := Tryz.func227.trans (congrArg some (by kernel_rfl))
 t0 := Tryz.underlying0
 a0 := Tryz.isAgg0
 z0 := Tryz.sizeOf0
 v0 := Tryz.zeroValue0
 t2 := Tryz.underlying2
 a2 := Tryz.isAgg2
 z2 := Tryz.sizeOf2
 v2 := Tryz.zeroValue2
 t3 := Tryz.underlying3
 a3 := Tryz.isAgg3
 z3 := Tryz.sizeOf3
 v3 := Tryz.zeroValue3
 t4 := Tryz.underlying4
 a4 := Tryz.isAgg4
 z4 := Tryz.sizeOf4
 v4 := Tryz.zeroValue4
 t5 := Tryz.underlying5
 a5 := Tryz.isAgg5
 z5 := Tryz.sizeOf5
 v5 := Tryz.zeroValue5
 t9 := Tryz.underlying9
 a9 := Tryz.isAgg9
 z9 := Tryz.sizeOf9
 v9 := Tryz.zeroValue9
 t20 := Tryz.underlying20
 a20 := Tryz.isAgg20
 z20 := Tryz.sizeOf20
 v20 := Tryz.zeroValue20
 t21 := Tryz.underlying21
 a21 := Tryz.isAgg21
 z21 := Tryz.sizeOf21
 v21 := Tryz.zeroValue21
 t37 := Tryz.underlying62
 a37 := Tryz.isAgg62
 z37 := Tryz.sizeOf62
 v37 := Tryz.zeroValue62
 t46 := Tryz.underlying227
 a46 := Tryz.isAgg227
 z46 := Tryz.sizeOf227
 v46 := Tryz.zeroValue227
 t51 := Tryz.underlying179
 a51 := Tryz.isAgg179
 z51 := Tryz.sizeOf179
 v51 := Tryz.zeroValue179
 t53 := Tryz.underlying199
 a53 := Tryz.isAgg199
 z53 := Tryz.sizeOf199
 v53 := Tryz.zeroValue199
 t75 := Tryz.underlying66
 a75 := Tryz.isAgg66
 z75 := Tryz.sizeOf66
 v75 := Tryz.zeroValue66
 t76 := Tryz.underlying67
 a76 := Tryz.isAgg67
 z76 := Tryz.sizeOf67
 v76 := Tryz.zeroValue67
 t85 := Tryz.underlying232
 a85 := Tryz.isAgg232
 z85 := Tryz.sizeOf232
 v85 := Tryz.zeroValue232
 t127 := Tryz.underlying117
 a127 := Tryz.isAgg117
 z127 := Tryz.sizeOf117
 v127 := Tryz.zeroValue117
 t143 := Tryz.underlying285
 a143 := Tryz.isAgg285
 z143 := Tryz.sizeOf285
 v143 := Tryz.zeroValue285
 t145 := Tryz.underlying287
 a145 := Tryz.isAgg287
 z145 := Tryz.sizeOf287
 v145 := Tryz.zeroValue287
 t167 := Tryz.underlying231
 a167 := Tryz.isAgg231
 z167 := Tryz.sizeOf231
 v167 := Tryz.zeroValue231
 t168 := Tryz.underlying234
 a168 := Tryz.isAgg234
 z168 := Tryz.sizeOf234
 v168 := Tryz.zeroValue234
 t171 := Tryz.underlying198
 a171 := Tryz.isAgg198
 z171 := Tryz.sizeOf198
 v171 := Tryz.zeroValue198
 t173 := Tryz.underlying202
 a173 := Tryz.isAgg202
 z173 := Tryz.sizeOf202
 v173 := Tryz.zeroValue202
 t175 := Tryz.underlying258
 a175 := Tryz.isAgg258
 z175 := Tryz.sizeOf258
 v175 := Tryz.zeroValue258
 t210 := Tryz.underlying261
 a210 := Tryz.isAgg261
 z210 := Tryz.sizeOf261
 v210 := Tryz.zeroValue261
 t212 := Tryz.underlying225
 a212 := Tryz.isAgg225
 z212 := Tryz.sizeOf225
 v212 := Tryz.zeroValue225
 t213 := Tryz.underlying226
 a213 := Tryz.isAgg226
 z213 := Tryz.sizeOf226
 t232 := Tryz.underlying280
 a232 := Tryz.isAgg280
 z232 := Tryz.sizeOf280
 v232 := Tryz.zeroValue280
 t233 := Tryz.underlying281
 a233 := Tryz.isAgg281
 z233 := Tryz.sizeOf281
 v233 := Tryz.zeroValue281
 g15 := by kernel_rfl
 g16 := by kernel_rfl
 g17 := by kernel_rfl
 g18 := by kernel_rfl
 g19 := by kernel_rfl }
end Go.Proofs.YtimjmjmpaicdbaaGreatDoor
namespace Go.Proofs.YtimjmjmpaicdbaaGreatDoor
open Go.RowKit Go.Sort Go.Shelf
theorem trim_is (l : List UInt8) (h0 : l ≠ []) (hl : l.length ≤ 9223372036854775807) (w : World) :
  Calls Tryz.prog 248 #[.string (Tx.mk l), .string ⟨#[48, 49, 50, 51, 52, 53, 54, 55, 56, 57]⟩] w fun e w' => e = .returned (.string (Tx.mk (Lib.trimS l Dg.digits))) ∧ Below w.heap.size w w' := by
 have hp : 0 < l.length := by cases l with | nil => exact absurd rfl h0 | cons a r => simp
 refine (Any.strings_Trim_set Lay.trimS Tryz.zeroValue302 (by kernel_rfl) (Tx.mk l) (Tx.mk Dg.digits) w (by rw [Tx.mk_size]; decide) (by rw [Tx.mk_size]; exact hp) (by rw [Tx.mk_size]; exact hl) (by rw [Tx.mk_size]; decide) (fun j b hb => ?_)).mono ?_
 ·rw [Tx.mk_toList] at hb
  have hm : b ∈ Dg.digits := List.mem_of_getElem? hb
  have hd : Dg.isD b = true := by rw [← Dg.mem_digits]; exact List.contains_iff_mem.2 hm
  have := of_decide_eq_true hd
  omega
 ·rintro e w' ⟨he, q, rfl⟩
  exact ⟨he, below_drewN (((Below.refl _ _).alloc (Nat.le_refl _) _).alloc (by simp) _) q⟩
theorem atoi_is (l : List UInt8) (h0 : l ≠ []) (h : Dg.allD l = true) (hl : l.length ≤ 18) (w : World) :
  Calls Tryz.prog 142 #[.string (Tx.mk l)] w fun e w' => e = .returned (.tuple #[.int .i64 (Dg.val l : Int), .nilIface]) ∧ Below w.heap.size w w' := by
 refine (Any.strconv_Atoi Lay.atoiS (Tx.mk l) (Dg.val l) (by rw [Tx.mk_size]; exact hl) (by rw [Tx.mk_toList]; exact Dg.atoi_val h0 h) w).mono ?_
 rintro e w' ⟨he, t, rfl⟩
 exact ⟨he, Lib.bytesWorld_below _ _ _⟩
theorem mkEmpty_no (l : List UInt8) (h : l ≠ []) : (Tx.mk l).toList.isEmpty = false := by
 have e : (Tx.mk l).toList = l := by rw [ByteArray.toList_eq]
 rw [e]; cases l with | nil => exact absurd rfl h | cons a r => rfl
theorem digits_is (l : List UInt8) (hl : l.length ≤ 18) (w : World) :
  Calls Tryz.prog 225 #[.string (Tx.mk l)] w fun e w' => e = .returned (.tuple #[.int .i64 (if l ≠ [] ∧ Dg.allD l = true then (Dg.val l : Int) else 0), .bool (if l ≠ [] ∧ Dg.allD l = true then true else false)]) ∧ Below w.heap.size w w' := by
 by_cases h0 : l = []
 ·subst h0
  rw [if_neg (by simp), if_neg (by simp)]
  go_enter Tryz.func225, Tryz.ntmps225
  go_wp2_with fail
  go_ret2
  exact ⟨rfl, Below.refl _ _⟩
 ·have HT := Lib.hid (trim_is l h0 (by omega) w)
  have e0 := mkEmpty_no l h0
  have e0' : l.isEmpty = false := by cases l with | nil => exact absurd rfl h0 | cons a r => rfl
  by_cases h1 : Dg.allD l = true
  ·rw [if_pos ⟨h0, h1⟩, if_pos ⟨h0, h1⟩]
   have HA := Lib.hid (fun W => atoi_is l h0 h1 hl W)
   rw [(Dg.trim_nil l).2 h1] at HT
   clear h1
   generalize Dg.val l = v at *
   go_enter Tryz.func225, Tryz.ntmps225
   go_wp2_with (first | (go_at_call 248; refine HT.out.mono ?_; rintro e w1 ⟨rfl, hB⟩) | (go_at_call 142; refine (HA.out _).mono ?_; rintro e w2 ⟨rfl, hB2⟩))
   go_quiet (fail)
   go_wp2_with fail
   go_ret2
   exact ⟨rfl, below_drewN (below_up hB hB2) _⟩
  ·rw [if_neg (fun h => h1 h.2), if_neg (fun h => h1 h.2)]
   have e1 := mkEmpty_no (Lib.trimS l Dg.digits) (fun h => h1 ((Dg.trim_nil l).1 h))
   generalize Tx.mk (Lib.trimS l Dg.digits) = t at *
   clear h1
   go_enter Tryz.func225, Tryz.ntmps225
   go_wp2_with (go_at_call 248; refine HT.out.mono ?_; rintro e w1 ⟨rfl, hB⟩)
   go_ret2
   exact ⟨rfl, hB⟩
def FtPost (w : World) (r : Option (List Int)) (e : Ending) (w' : World) : Prop :=
 (r = none ∧ e = .returned (.tuple #[.slice none 0 0, .bool false]) ∧ Below w.heap.size w w') ∨
 (∃ xs a ca, r = some xs ∧ e = .returned (.tuple #[.slice a xs.length ca, .bool true]) ∧ RowL w' a xs ∧ Below w.heap.size w w' ∧ ∀ x, a = some x → w.heap.size ≤ x.block)
theorem FtPost.no {w w' : World} {r : Option (List Int)} (h : r = none) (hB : Below w.heap.size w w') : FtPost w r (.returned (.tuple #[.slice none 0 0, .bool false])) w' := .inl ⟨h, rfl, hB⟩
theorem own_keep {W W' : World} {B : Nat} {e : TypeId} {size : Nat} {v : Value} {n : Nat} {xs : List Value} (h : W.ownsRow B e size v n xs) (hb : Below W.heap.size W W') : W'.ownsRow B e size v n xs := by
 refine ⟨h.1, ?_⟩
 rcases h.2 with hn | ⟨g, cap, cur, rfl, hB, hgg, rest⟩
 ·exact .inl hn
 ·exact .inr ⟨g, cap, cur, rfl, hB, (hb.block g (Array.getElem?_eq_some_iff.1 hgg).1).trans hgg, rest⟩
theorem fits_is (s form : List UInt8) (hs : s.length ≤ 1000000000000) (hf : Ft.Few form) (w : World) :
  Calls Tryz.prog 194 #[.string (Tx.mk s), .string (Tx.mk form)] w (FtPost w (Ft.res s form)) := by
 have hsz := Tx.mk_size s
 have hfz := Tx.mk_size form
 have hfl : form.length ≤ 19 := by rcases hf with h | ⟨h, _⟩ <;> omega
 obtain ⟨R, hR⟩ : ∃ R, Ft.res s form = R := ⟨_, rfl⟩
 rw [hR]
 by_cases h0 : s.length = form.length
 ·have HL := Lib.hid h0
  have hgo : Ft.go s form (form.length + 1) 0 0 [] = R := by rw [← hR]; unfold Ft.res; rw [if_pos h0]
  have HGO := Lib.hid hgo
  have HF := Lib.hid hf
  obtain ⟨i0, hi, hz0, hz1', hz2⟩ := info_parts infoInt
  have HI0 := Lib.hid hi; have HI1 := Lib.hid hz0; have HI2 := Lib.hid hz1'; have HI3 := Lib.hid hz2
  obtain ⟨n, hn⟩ : ∃ n, form.length = n := ⟨_, rfl⟩
  have HN := Lib.hid hn
  have hsn : s.length = n := by omega
  have HSN := Lib.hid hsn
  rw [hn] at hfz hfl
  rw [hsn] at hsz
  clear hi hz0 hz1' hz2 hR hgo hf h0 hn hsn hs
  go_enter Tryz.func194, Tryz.ntmps194
  go_wp2_with fail
  go_step3
  go_wp2_with fail
  go_step3
  go_wp2_with fail
  go_loopg [4, 6, 7] (n + 1) (fun gk v f i wr => ∃ (fr j : Nat) (acc : List Int), fr ≤ j ∧ j ≤ n + 1 ∧ gk = n + 1 - j ∧ f = .int .i64 fr ∧ i = .int .i64 j ∧ Ft.go s form (n + 1 - j) j fr acc = R ∧ (∀ k, fr ≤ k → k < j → form[k]? = some 48) ∧ acc.length ≤ j ∧ wr.ownsRow w.heap.size 3 1 v acc.length (acc.map (Value.int .i64)) ∧ Below w.heap.size w wr)
  case atStart => exact ⟨0, 0, [], by omega, by omega, by omega, rfl, rfl, by rw [← HGO.out, HN.out]; rfl, fun k _ h => by omega, by simp, World.ownsRow_nil _ _ _ _, Below.refl _ _⟩
  case round =>
   obtain ⟨fr, j, acc, hfr, hj, rfl, rfl, rfl, hgo, hall, hal, hown, hB⟩ := hrel
   by_cases hjn : j ≤ n
   ·have hk : n + 1 - j = (n - j) + 1 := by omega
    rw [hk] at hgo
    by_cases hlt : j < n
    ·obtain ⟨c, hc⟩ : ∃ c, form[j]? = some c := ⟨_, List.getElem?_eq_getElem (by rw [HN.out]; exact hlt)⟩
     obtain ⟨d, hd⟩ : ∃ d, s[j]? = some d := ⟨_, List.getElem?_eq_getElem (by rw [HSN.out]; exact hlt)⟩
     have hic := strIdx form j c hc
     have hid := strIdx s j d hd
     have hjf : (j : Int) < (n : Int) := by omega
     by_cases h48 : c = 48
     ·subst h48
      rw [Ft.go_zero hc] at hgo
      have HG := Lib.hid hgo
      have HALL : Hid (∀ k, fr ≤ k → k < j + 1 → form[k]? = some 48) := by
       intro k h1 h2
       by_cases e : k = j
       ·rw [e]; exact hc
       ·exact hall k h1 (by omega)
      have HC := Lib.hid hc
      clear hgo hall hc hd hid
      go_wp2_with fail
      go_roundg (n - j)
      case rel => exact ⟨fr, j + 1, acc, by omega, by omega, by omega, rfl, by go_num, by rw [show n + 1 - (j + 1) = n - j by omega]; exact HG.out, HALL.out, by omega, hown, hB⟩
      case measure => omega
     ·have hn48 : form[j]? ≠ some 48 := by rw [hc]; intro e; injection e with e; exact h48 e
      have c1 : ¬ (c.toNat : Int) = 48 := by
       intro e; apply h48; apply UInt8.toNat_inj.1; have : c.toNat = 48 := by omega
       rw [this]; rfl
      have c2 : ((c.toNat : Int) == 48) = false := by simpa using c1
      by_cases hg : fr < j
      ·-- a group of digits ends at j; FTSEP: what follows it
       have hw18 : j - fr ≤ 18 := Ft.few HF.out (by rw [HN.out]; omega) (by omega) hall
       have hwl := Ft.win_len s fr j (by rw [HSN.out]; omega)
       have hwn := Ft.win_ne hg (by rw [HSN.out]; omega : j ≤ s.length)
       have hext := ext_mk s fr j
       have HD := Lib.hid (digits_is (Ft.win s fr j) (by omega) wr)
       have hfrj : (fr : Int) < (j : Int) := by omega
       have hg1 : decide ((fr : Int) < (j : Int)) = true := decide_eq_true hfrj
       cases hd1 : Dg.allD (Ft.win s fr j)
       ·rw [if_neg (by rw [hd1]; simp), if_neg (by rw [hd1]; simp)] at HD
        have HR : Hid (R = none) := by show _ = _; rw [← hgo]; exact Ft.go_bad hn48 hg hd1
        generalize Ft.win s fr j = ws at *
        clear hgo hall hc hn48 hd1
        go_wp2_with (go_at_call 225; (first | rw [hext] | skip); refine HD.out.mono ?_; rintro e w5 ⟨rfl, hB5⟩)
        rw [Exit.noGoto_ret]
        go_ret2
        exact FtPost.no HR.out (below_up hB hB5)
       ·rw [if_pos ⟨hwn, hd1⟩, if_pos ⟨hwn, hd1⟩] at HD
        have jd : decide ((j : Int) < (n : Int)) = true := decide_eq_true hjf
        have jt : ((j : Int) < (n : Int)) = True := eq_true hjf
        have jd2 : decide (j < n) = true := decide_eq_true hlt
        have jt2 : (j < n) = True := eq_true hlt
        by_cases hsep : d = c
        ·have heq : s[j]? = form[j]? := by rw [hc, hd, hsep]
         have HG : Hid (Ft.go s form (n - j) (j + 1) (j + 1) (acc ++ [(Dg.val (Ft.win s fr j) : Int)]) = R) := by
          show _ = _
          rw [← hgo]; exact (Ft.go_num hn48 hg hd1 (fun h => h.2 heq)).symm
         subst hsep
         have hq1 : ((d.toNat : Int) != (d.toNat : Int)) = false := by simp
         clear hgo hall hc hd hn48 heq
         go_wp2_with (first | (go_at_call 225; (first | rw [hext] | skip); refine HD.out.mono ?_; rintro e w5 ⟨rfl, hB5⟩; have hown5 := own_keep hown hB5; have hBs := below_up hB hB5) | (at_builtin; refine wpList_append_own2 _ rfl _ _ 40 rfl w.heap.size 3 i0 (.int .i64 0) 1 8 Tryz.underlying40 HI0.out HI1.out HI2.out HI3.out rfl (by decide) _ _ _ rfl (hown5.alloc _) ⟨w5.heap.size, 0, none⟩ 1 1 [.int .i64 (Dg.val (Ft.win s fr j) : Int)] rfl (by decide) rfl (cell_one_new _ _ _) (by simp [Value.oneCell']) (by unfold maxLen; omega) (by omega) (by have := hBs.size; simp; omega) ?_; intro g cap w6 hown6 hgrow6 hnew6))
         go_quiet (fail)
         go_wp2_with fail
         go_roundg (n - j)
         case rel => exact ⟨j + 1, j + 1, acc ++ [(Dg.val (Ft.win s fr j) : Int)], by omega, by omega, by omega, by go_num, by go_num, by rw [show n + 1 - (j + 1) = n - j by omega]; exact HG.out, fun k h1 h2 => by omega, by first | omega | (simp; omega), own_keep (by rw [List.length_append, List.map_append]; exact hown6) (below_drewN (Below.refl _ _) _), below_drewN ((below_allocs hBs (.cells #[.int .i64 (Dg.val (Ft.win s fr j) : Int)] 3)).grown hgrow6 (by simp; have := hBs.size; omega) (fun k e => by have := (hown5.lt k e).1; omega)) _⟩
         case measure => omega
        ·have heq : s[j]? ≠ form[j]? := by rw [hc, hd]; intro e; injection e with e; exact hsep e
         have HR : Hid (R = none) := by
          show _ = _
          rw [← hgo]; exact Ft.go_numSep hn48 hg hd1 (by rw [HN.out]; exact hlt) heq
         have hne : ¬ (d.toNat : Int) = (c.toNat : Int) := by intro e; apply hsep; apply UInt8.toNat_inj.1; omega
         have hq1 : ((d.toNat : Int) != (c.toNat : Int)) = true := by simpa using hne
         have hq2 : ((d.toNat : Int) == (c.toNat : Int)) = false := by simpa using hne
         clear hgo hall hc hd hn48 heq
         go_wp2_with (first | (go_at_call 225; (first | rw [hext] | skip); refine HD.out.mono ?_; rintro e w5 ⟨rfl, hB5⟩; have hown5 := own_keep hown hB5; have hBs := below_up hB hB5) | (at_builtin; refine wpList_append_own2 _ rfl _ _ 40 rfl w.heap.size 3 i0 (.int .i64 0) 1 8 Tryz.underlying40 HI0.out HI1.out HI2.out HI3.out rfl (by decide) _ _ _ rfl (hown5.alloc _) ⟨w5.heap.size, 0, none⟩ 1 1 [.int .i64 (Dg.val (Ft.win s fr j) : Int)] rfl (by decide) rfl (cell_one_new _ _ _) (by simp [Value.oneCell']) (by unfold maxLen; omega) (by omega) (by have := hBs.size; simp; omega) ?_; intro g cap w6 hown6 hgrow6 hnew6))
         go_quiet (fail)
         go_wp2_with fail
         rw [Exit.noGoto_ret]
         go_ret2
         exact FtPost.no HR.out (below_drewN ((below_allocs hBs (.cells #[.int .i64 (Dg.val (Ft.win s fr j) : Int)] 3)).grown hgrow6 (by simp; have := hBs.size; omega) (fun k e => by have := (hown5.lt k e).1; omega)) _)
      ·obtain rfl : j = fr := by omega
       have jd : decide ((j : Int) < (n : Int)) = true := decide_eq_true hjf
       have jt : ((j : Int) < (n : Int)) = True := eq_true hjf
       have jd2 : decide (j < n) = true := decide_eq_true hlt
       have jt2 : (j < n) = True := eq_true hlt
       by_cases hsep : d = c
       ·have heq : s[j]? = form[j]? := by rw [hc, hd, hsep]
        have HG : Hid (Ft.go s form (n - j) (j + 1) (j + 1) (acc) = R) := by
         show _ = _
         rw [← hgo]; exact (Ft.go_sep hn48 hg (fun h => h.2 heq)).symm
        subst hsep
        have hq1 : ((d.toNat : Int) != (d.toNat : Int)) = false := by simp
        clear hgo hall hc hd hn48 heq
        go_wp2_with fail
        go_quiet (fail)
        go_wp2_with fail
        go_roundg (n - j)
        case rel => exact ⟨j + 1, j + 1, acc, by omega, by omega, by omega, by go_num, by go_num, by rw [show n + 1 - (j + 1) = n - j by omega]; exact HG.out, fun k h1 h2 => by omega, by first | omega | (simp; omega), own_keep hown (below_drewN (Below.refl _ _) _), below_drewN hB _⟩
        case measure => omega
       ·have heq : s[j]? ≠ form[j]? := by rw [hc, hd]; intro e; injection e with e; exact hsep e
        have HR : Hid (R = none) := by
         show _ = _
         rw [← hgo]; exact Ft.go_sepBad hn48 hg (by rw [HN.out]; exact hlt) heq
        have hne : ¬ (d.toNat : Int) = (c.toNat : Int) := by intro e; apply hsep; apply UInt8.toNat_inj.1; omega
        have hq1 : ((d.toNat : Int) != (c.toNat : Int)) = true := by simpa using hne
        have hq2 : ((d.toNat : Int) == (c.toNat : Int)) = false := by simpa using hne
        clear hgo hall hc hd hn48 heq
        go_wp2_with fail
        go_quiet (fail)
        go_wp2_with fail
        rw [Exit.noGoto_ret]
        go_ret2
        exact FtPost.no HR.out (below_drewN hB _)
    ·obtain rfl : j = n := by omega
     have hc : form[j]? = none := List.getElem?_eq_none (by rw [HN.out]; exact Nat.le_refl _)
     have hn48 : form[j]? ≠ some 48 := by rw [hc]; simp
     have hjf : ¬ (j : Int) < (j : Int) := by omega
     by_cases hg : fr < j
     ·-- a group of digits ends at j; FTEND: what follows it
      have hw18 : j - fr ≤ 18 := Ft.few HF.out (by rw [HN.out]; omega) (by omega) hall
      have hwl := Ft.win_len s fr j (by rw [HSN.out]; omega)
      have hwn := Ft.win_ne hg (by rw [HSN.out]; omega : j ≤ s.length)
      have hext := ext_mk s fr j
      have HD := Lib.hid (digits_is (Ft.win s fr j) (by omega) wr)
      have hfrj : (fr : Int) < (j : Int) := by omega
      have hg1 : decide ((fr : Int) < (j : Int)) = true := decide_eq_true hfrj
      cases hd1 : Dg.allD (Ft.win s fr j)
      ·rw [if_neg (by rw [hd1]; simp), if_neg (by rw [hd1]; simp)] at HD
       have HR : Hid (R = none) := by show _ = _; rw [← hgo]; exact Ft.go_bad hn48 hg hd1
       generalize Ft.win s fr j = ws at *
       clear hgo hall hc hn48 hd1
       go_wp2_with (go_at_call 225; (first | rw [hext] | skip); refine HD.out.mono ?_; rintro e w5 ⟨rfl, hB5⟩)
       rw [Exit.noGoto_ret]
       go_ret2
       exact FtPost.no HR.out (below_up hB hB5)
      ·rw [if_pos ⟨hwn, hd1⟩, if_pos ⟨hwn, hd1⟩] at HD
       have HG : Hid (Ft.go s form (j - j) (j + 1) (j + 1) (acc ++ [(Dg.val (Ft.win s fr j) : Int)]) = R) := by
        show _ = _
        rw [← hgo]; exact (Ft.go_num hn48 hg hd1 (fun h => by have := h.1; rw [HN.out] at this; omega)).symm
       have jd : decide ((j : Int) < (j : Int)) = false := decide_eq_false hjf
       have jt : ((j : Int) < (j : Int)) = False := eq_false hjf
       clear hgo hall hc hn48
       go_wp2_with (first | (go_at_call 225; (first | rw [hext] | skip); refine HD.out.mono ?_; rintro e w5 ⟨rfl, hB5⟩; have hown5 := own_keep hown hB5; have hBs := below_up hB hB5) | (at_builtin; refine wpList_append_own2 _ rfl _ _ 40 rfl w.heap.size 3 i0 (.int .i64 0) 1 8 Tryz.underlying40 HI0.out HI1.out HI2.out HI3.out rfl (by decide) _ _ _ rfl (hown5.alloc _) ⟨w5.heap.size, 0, none⟩ 1 1 [.int .i64 (Dg.val (Ft.win s fr j) : Int)] rfl (by decide) rfl (cell_one_new _ _ _) (by simp [Value.oneCell']) (by unfold maxLen; omega) (by omega) (by have := hBs.size; simp; omega) ?_; intro g cap w6 hown6 hgrow6 hnew6))
       go_quiet (fail)
       go_wp2_with fail
       go_roundg 0
       case rel => exact ⟨j + 1, j + 1, acc ++ [(Dg.val (Ft.win s fr j) : Int)], by omega, by omega, by omega, by go_num, by go_num, by rw [show j + 1 - (j + 1) = j - j by omega]; exact HG.out, fun k h1 h2 => by omega, by first | omega | (simp; omega), own_keep (by rw [List.length_append, List.map_append]; exact hown6) (below_drewN (Below.refl _ _) _), below_drewN ((below_allocs hBs (.cells #[.int .i64 (Dg.val (Ft.win s fr j) : Int)] 3)).grown hgrow6 (by simp; have := hBs.size; omega) (fun k e => by have := (hown5.lt k e).1; omega)) _⟩
       case measure => omega
     ·obtain rfl : j = fr := by omega
      have HG : Hid (Ft.go s form (j - j) (j + 1) (j + 1) (acc) = R) := by
       show _ = _
       rw [← hgo]; exact (Ft.go_sep hn48 hg (fun h => by have := h.1; rw [HN.out] at this; omega)).symm
      have jd : decide ((j : Int) < (j : Int)) = false := decide_eq_false hjf
      have jt : ((j : Int) < (j : Int)) = False := eq_false hjf
      clear hgo hall hc hn48
      go_wp2_with fail
      go_quiet (fail)
      go_wp2_with fail
      go_roundg 0
      case rel => exact ⟨j + 1, j + 1, acc, by omega, by omega, by omega, by go_num, by go_num, by rw [show j + 1 - (j + 1) = j - j by omega]; exact HG.out, fun k h1 h2 => by omega, by first | omega | (simp; omega), own_keep hown (below_drewN (Below.refl _ _) _), below_drewN hB _⟩
      case measure => omega
   ·have hj1 : j = n + 1 := by omega
    rw [show n + 1 - j = 0 by omega, Ft.go] at hgo
    have HR : Hid (R = some acc) := by show _ = _; rw [← hgo]
    have hjf : ¬ (j : Int) ≤ (n : Int) := by omega
    clear hgo hall
    go_wp2_with fail
    rcases hown.2 with ⟨rfl, h0⟩ | ⟨g, cap, cur, rfl, hBg, _⟩
    ·have h1 : acc = [] := List.eq_nil_of_length_eq_zero h0
     subst h1
     go_ret2
     exact .inr ⟨[], none, 0, HR.out, rfl, RowL.nil _ _, hB, fun x h => by cases h⟩
    ·have HOW := Lib.hid (RowL.of_own hown)
     go_ret2
     exact .inr ⟨acc, _, _, HR.out, rfl, HOW.out, hB, fun x h => by injection h with h; subst h; exact hBg⟩
 ·have h1 : ¬ (s.length : Int) = (form.length : Int) := by omega
  have h2 : ((s.length : Int) == (form.length : Int)) = false := by simp; omega
  have h3 : ((s.length : Int) != (form.length : Int)) = true := by simp; omega
  have HR : Hid (R = none) := by show _ = _; rw [← hR]; unfold Ft.res; rw [if_neg h0]
  clear hR h0
  go_enter Tryz.func194, Tryz.ntmps194
  go_wp2_with fail
  go_step3
  go_wp2_with fail
  rw [Exit.noGoto_ret]
  go_ret2
  exact FtPost.no HR.out (Below.refl _ _)
end Go.Proofs.YtimjmjmpaicdbaaGreatDoor
namespace Go.Proofs.YtimjmjmpaicdbaaGreatDoor.Cal
def leapB (y : Int) : Bool := y % 4 == 0 && (y % 100 != 0 || y % 400 == 0)
def lp (y : Int) : Int := if leapB y then 1 else 0
def len (y m : Int) : Int := if m = 2 then 28 + lp y else if m = 4 ∨ m = 6 ∨ m = 9 ∨ m = 11 then 30 else 31
def bef (y : Int) : Int := 365 * (y - 1900) + (y - 1) / 4 - 474 - (y - 1) / 100 + 18 + (y - 1) / 400 - 4
def cum (y m : Int) : Int := if m ≤ 1 then 0 else if m ≤ 2 then 31 else (if m ≤ 3 then 59 else if m ≤ 4 then 90 else if m ≤ 5 then 120 else if m ≤ 6 then 151 else if m ≤ 7 then 181 else if m ≤ 8 then 212 else if m ≤ 9 then 243 else if m ≤ 10 then 273 else if m ≤ 11 then 304 else if m ≤ 12 then 334 else 365) + lp y
def num (y m d : Int) : Int := bef y + cum y m + d - 1
def vld (y m d : Int) : Bool := decide (1900 ≤ y ∧ y ≤ 2099 ∧ 1 ≤ m ∧ m ≤ 12 ∧ 1 ≤ d ∧ d ≤ len y m)
theorem vld_iff (y m d : Int) : vld y m d = true ↔ 1900 ≤ y ∧ y ≤ 2099 ∧ 1 ≤ m ∧ m ≤ 12 ∧ 1 ≤ d ∧ d ≤ len y m := by simp [vld]
theorem lp_01 (y : Int) : 0 ≤ lp y ∧ lp y ≤ 1 := by unfold lp; split <;> omega
theorem lp_eq (y : Int) : lp y = if y % 4 = 0 ∧ (y % 100 ≠ 0 ∨ y % 400 = 0) then 1 else 0 := by
 unfold lp leapB; congr 1; simp
theorem bef_1900 : bef 1900 = 0 := by decide
theorem bef_2100 : bef 2100 = 73049 := by decide
theorem bef_succ (y : Int) : bef (y + 1) = bef y + 365 + lp y := by
 rw [lp_eq]; unfold bef; split <;> omega
theorem bef_mono (a b : Int) (h : a ≤ b) : bef a + 365 * (b - a) ≤ bef b := by unfold bef; omega
theorem cum_succ (y m : Int) (h1 : 1 ≤ m) (h2 : m ≤ 12) : cum y (m + 1) = cum y m + len y m := by
 have : m = 1 ∨ m = 2 ∨ m = 3 ∨ m = 4 ∨ m = 5 ∨ m = 6 ∨ m = 7 ∨ m = 8 ∨ m = 9 ∨ m = 10 ∨ m = 11 ∨ m = 12 := by omega
 rcases this with h | h | h | h | h | h | h | h | h | h | h | h <;> subst h <;> simp [cum, len] <;> omega
theorem cum_bd (y m : Int) (h1 : 1 ≤ m) (h2 : m ≤ 13) : 0 ≤ cum y m ∧ cum y m ≤ 365 + lp y := by
 have hl := lp_01 y
 have : m = 1 ∨ m = 2 ∨ m = 3 ∨ m = 4 ∨ m = 5 ∨ m = 6 ∨ m = 7 ∨ m = 8 ∨ m = 9 ∨ m = 10 ∨ m = 11 ∨ m = 12 ∨ m = 13 := by omega
 rcases this with h | h | h | h | h | h | h | h | h | h | h | h | h <;> subst h <;> simp [cum] <;> omega
theorem cum_13 (y : Int) : cum y 13 = 365 + lp y := by simp [cum]
theorem cum_1 (y : Int) : cum y 1 = 0 := by simp [cum]
theorem len_bd (y m : Int) : 28 ≤ len y m ∧ len y m ≤ 31 := by
 have hl := lp_01 y
 unfold len; repeat' split
 all_goals omega
theorem cum_mono (y a b : Int) (h1 : 1 ≤ a) (h : a < b) (h2 : b ≤ 13) : cum y a + len y a ≤ cum y b := by
 obtain ⟨k, hk⟩ : ∃ k : Nat, b = a + 1 + k := ⟨(b - a - 1).toNat, by omega⟩
 induction k generalizing b with
 | zero => rw [hk]; simp; rw [cum_succ y a h1 (by omega)]; omega
 | succ k ih =>
   have := ih (b - 1) (by omega) (by omega) (by omega)
   have c := cum_succ y (b - 1) (by omega) (by omega)
   have l := len_bd y (b - 1)
   rw [show b - 1 + 1 = b from by omega] at c; omega
theorem num_bd (y m d : Int) (h : vld y m d = true) : 0 ≤ num y m d ∧ num y m d ≤ 73048 ∧ bef y ≤ num y m d ∧ num y m d < bef (y + 1) := by
 obtain ⟨h1, h2, h3, h4, h5, h6⟩ := (vld_iff y m d).1 h
 have hb := bef_mono 1900 y h1; rw [bef_1900] at hb
 have hb' := bef_mono (y + 1) 2100 (by omega); rw [bef_2100] at hb'
 have hs := bef_succ y
 have hc := cum_bd y m (by omega) (by omega)
 have hm := cum_mono y m 13 h3 (by omega) (by omega); rw [cum_13] at hm
 unfold num; omega
theorem num_inj (y m d y' m' d' : Int) (h : vld y m d = true) (h' : vld y' m' d' = true) (e : num y m d = num y' m' d') : y = y' ∧ m = m' ∧ d = d' := by
 have b := num_bd y m d h
 have b' := num_bd y' m' d' h'
 obtain ⟨h1, h2, h3, h4, h5, h6⟩ := (vld_iff y m d).1 h
 obtain ⟨g1, g2, g3, g4, g5, g6⟩ := (vld_iff y' m' d').1 h'
 have ey : y = y' := by
  rcases Int.lt_trichotomy y y' with c | c | c
  ·have := bef_mono (y + 1) y' (by omega); omega
  ·exact c
  ·have := bef_mono (y' + 1) y (by omega); omega
 subst ey
 have em : m = m' := by
  rcases Int.lt_trichotomy m m' with c | c | c
  ·have := cum_mono y m m' h3 c (by omega); unfold num at e; omega
  ·exact c
  ·have := cum_mono y m' m g3 c (by omega); unfold num at e; omega
 subst em
 unfold num at e; exact ⟨rfl, rfl, by omega⟩
end Go.Proofs.YtimjmjmpaicdbaaGreatDoor.Cal
namespace Go.Proofs.YtimjmjmpaicdbaaGreatDoor
open Go.RowKit
theorem before_any (y : Int) (w : World) (h1 : 1 ≤ y) (h2 : y ≤ 1000000) :
  Calls Tryz.prog 157 #[.int .i64 y] w fun e w' => e = .returned (.int .i64 (Cal.bef y)) ∧ w = w' := by
 go_enter Tryz.func157, Tryz.ntmps157
 go_wp2
 go_ret
 exact ⟨ret_int (by unfold Cal.bef; omega), rfl⟩
theorem leap_any (y : Int) (w : World) (h1 : 0 ≤ y) :
  Calls Tryz.prog 191 #[.int .i64 y] w fun e w' => e = .returned (.bool (Cal.leapB y)) ∧ w = w' := by
 by_cases c : y % 4 = 0
 ·by_cases d : y % 100 = 0
  ·go_enter Tryz.func191, Tryz.ntmps191
   go_wp2
   go_ret
   exact ⟨ret_bool (by simp [Cal.leapB, c, d]), rfl⟩
  ·go_enter Tryz.func191, Tryz.ntmps191
   go_wp2
   go_ret
   exact ⟨ret_bool (by simp [Cal.leapB, c, d]), rfl⟩
 ·go_enter Tryz.func191, Tryz.ntmps191
  go_wp2
  go_ret
  exact ⟨ret_bool (by simp [Cal.leapB, c]), rfl⟩
theorem leapR_any (y : Int) (w : World) (h1 : 0 ≤ y) :
  Calls Tryz.prog 186 #[.int .i64 y] w fun e w' => e = .returned (.bool (Cal.leapB y)) ∧ w = w' := by
 by_cases c : y % 4 = 0
 ·by_cases d : y % 100 = 0
  ·go_enter Tryz.func186, Tryz.ntmps186
   go_wp2
   go_ret
   exact ⟨ret_bool (by simp [Cal.leapB, c, d]), rfl⟩
  ·go_enter Tryz.func186, Tryz.ntmps186
   go_wp2
   go_ret
   exact ⟨ret_bool (by simp [Cal.leapB, c, d]), rfl⟩
 ·go_enter Tryz.func186, Tryz.ntmps186
  go_wp2
  go_ret
  exact ⟨ret_bool (by simp [Cal.leapB, c]), rfl⟩
theorem len_2 (y : Int) (h : Cal.leapB y = true) : Cal.len y 2 = 29 := by simp [Cal.len, Cal.lp, h]
theorem len_2' (y : Int) (h : Cal.leapB y = false) : Cal.len y 2 = 28 := by simp [Cal.len, Cal.lp, h]
theorem months (m : Int) (h1 : 1 ≤ m) (h2 : m ≤ 12) : m = 1 ∨ m = 2 ∨ m = 3 ∨ m = 4 ∨ m = 5 ∨ m = 6 ∨ m = 7 ∨ m = 8 ∨ m = 9 ∨ m = 10 ∨ m = 11 ∨ m = 12 := by omega
theorem lengthOf_any (y m : Int) (w : World) (h0 : 0 ≤ y) (h1 : 1 ≤ m) (h2 : m ≤ 12) :
  Calls Tryz.prog 158 #[.int .i64 y, .int .i64 m] w fun e w' => e = .returned (.int .i64 (Cal.len y m)) ∧ Below w.heap.size w w' := by
 by_cases c : m = 2
 ·subst c
  cases hl : Cal.leapB y
  ·have hc : ∀ W, Calls Tryz.prog 191 #[.int .i64 y] W fun e w' => e = .returned (.bool false) ∧ W = w' := fun W => by rw [← hl]; exact leap_any y W h0
   have HL := Lib.hid hl; clear hl
   have HC := Lib.hid hc; clear hc
   go_enter Tryz.func158, Tryz.ntmps158
   go_wp2_with (go_at_call 191; refine (HC.out _).mono ?_; rintro e w' ⟨rfl, rfl⟩)
   go_ret
   exact ⟨ret_int (len_2' y HL.out).symm, (Below.refl _ _).alloc (Nat.le_refl _) _⟩
  ·have hc : ∀ W, Calls Tryz.prog 191 #[.int .i64 y] W fun e w' => e = .returned (.bool true) ∧ W = w' := fun W => by rw [← hl]; exact leap_any y W h0
   have HL := Lib.hid hl; clear hl
   have HC := Lib.hid hc; clear hc
   go_enter Tryz.func158, Tryz.ntmps158
   go_wp2_with (go_at_call 191; refine (HC.out _).mono ?_; rintro e w' ⟨rfl, rfl⟩)
   go_ret
   exact ⟨ret_int (len_2 y HL.out).symm, (Below.refl _ _).alloc (Nat.le_refl _) _⟩
 ·rcases months m h1 h2 with h | h | h | h | h | h | h | h | h | h | h | h
  case inr.inl => exact absurd h c
  all_goals
   subst h
   go_enter Tryz.func158, Tryz.ntmps158
   go_wp2_with fail
   go_ret
   exact ⟨ret_int (by simp [Cal.len]), (Below.refl _ _).alloc (Nat.le_refl _) _⟩
theorem long_any (y m : Int) (w : World) (h0 : 0 ≤ y) :
  Calls Tryz.prog 185 #[.int .i64 y, .int .i64 m] w fun e w' => e = .returned (.int .i64 (Cal.len y m)) ∧ w = w' := by
 by_cases c : m = 2
 ·subst c
  cases hl : Cal.leapB y
  ·have hc : ∀ W, Calls Tryz.prog 186 #[.int .i64 y] W fun e w' => e = .returned (.bool false) ∧ W = w' := fun W => by rw [← hl]; exact leapR_any y W h0
   have HL := Lib.hid hl; clear hl
   have HC := Lib.hid hc; clear hc
   go_enter Tryz.func185, Tryz.ntmps185
   go_wp2_with (go_at_call 186; refine (HC.out _).mono ?_; rintro e w' ⟨rfl, rfl⟩)
   go_ret
   exact ⟨ret_int (len_2' y HL.out).symm, rfl⟩
  ·have hc : ∀ W, Calls Tryz.prog 186 #[.int .i64 y] W fun e w' => e = .returned (.bool true) ∧ W = w' := fun W => by rw [← hl]; exact leapR_any y W h0
   have HL := Lib.hid hl; clear hl
   have HC := Lib.hid hc; clear hc
   go_enter Tryz.func185, Tryz.ntmps185
   go_wp2_with (go_at_call 186; refine (HC.out _).mono ?_; rintro e w' ⟨rfl, rfl⟩)
   go_ret
   exact ⟨ret_int (len_2 y HL.out).symm, rfl⟩
 ·by_cases h4 : m = 4
  ·subst h4
   go_enter Tryz.func185, Tryz.ntmps185
   go_wp2_with fail
   go_ret
   exact ⟨ret_int (by simp [Cal.len]), rfl⟩
  ·by_cases h6 : m = 6
   ·subst h6
    go_enter Tryz.func185, Tryz.ntmps185
    go_wp2_with fail
    go_ret
    exact ⟨ret_int (by simp [Cal.len]), rfl⟩
   ·by_cases h9 : m = 9
    ·subst h9
     go_enter Tryz.func185, Tryz.ntmps185
     go_wp2_with fail
     go_ret
     exact ⟨ret_int (by simp [Cal.len]), rfl⟩
    ·by_cases h11 : m = 11
     ·subst h11
      go_enter Tryz.func185, Tryz.ntmps185
      go_wp2_with fail
      go_ret
      exact ⟨ret_int (by simp [Cal.len]), rfl⟩
     ·go_enter Tryz.func185, Tryz.ntmps185
      go_wp2_with fail
      go_ret
      exact ⟨ret_int (by simp [Cal.len, c, h4, h6, h9, h11]), rfl⟩
theorem num_eq (y m d a : Int) (h : a = Cal.bef y + Cal.cum y m) : a + d - 1 = Cal.num y m d := by unfold Cal.num; omega
theorem bef_t (y : Int) (h : Cal.leapB y = true) : Cal.bef (y + 1) = Cal.bef y + 365 + 1 := by rw [Cal.bef_succ, Cal.lp, if_pos h]
theorem bef_f (y : Int) (h : Cal.leapB y = false) : Cal.bef (y + 1) = Cal.bef y + 365 := by rw [Cal.bef_succ, Cal.lp, h]; simp
theorem bef_bd (y : Int) (h1 : 1900 ≤ y) (h2 : y ≤ 2100) : 0 ≤ Cal.bef y ∧ Cal.bef y ≤ 73049 := by
 have := Cal.bef_mono 1900 y h1; rw [Cal.bef_1900] at this
 have g := Cal.bef_mono y 2100 h2; rw [Cal.bef_2100] at g
 omega
theorem dayFor_yes (y m d : Int) (w : World) (h : Cal.vld y m d = true) :
  Calls Tryz.prog 152 #[.agg #[.int .i64 y, .int .i64 m, .int .i64 d]] w fun e w' => e = .returned (.int .i64 (Cal.num y m d)) ∧ Below w.heap.size w w' := by
 obtain ⟨h1, h2, h3, h4, h5, h6⟩ := (Cal.vld_iff y m d).1 h
 have hd := Cal.len_bd y m
 clear h
 go_enter Tryz.func152, Tryz.ntmps152
 go_wp2_with fail
 go_quiet ((go_at_call 185; exact quiet_same (long_any _ _ _ (by omega))))
 go_wp2_with fail
 go_loop [3, 4] (fun n i => ∃ k : Int, 1900 ≤ k ∧ k ≤ y ∧ i = .int .i64 k ∧ n = .int .i64 (Cal.bef k)) (fun _ i => (y - intOf i).toNat)
 case atStart => exact ⟨1900, by omega, by omega, rfl, by rw [Cal.bef_1900]⟩
 case round =>
  obtain ⟨k, hk1, hk2, rfl, rfl⟩ := hrel
  have hb := bef_bd k hk1 (by omega)
  by_cases hlt : k < y
  ·cases hl : Cal.leapB k
   ·have HC := Lib.hid (leapR_any k)
    rw [hl] at HC
    have HL := Lib.hid hl; clear hl
    go_wp2_with (go_at_call 186; refine (HC.out _ (by omega)).mono ?_; rintro e w' ⟨rfl, rfl⟩)
    go_round
    case rel => exact ⟨k + 1, by omega, by omega, rfl, by rw [bef_f k HL.out]⟩
    case measure => simp [intOf]; omega
   ·have HC := Lib.hid (leapR_any k)
    rw [hl] at HC
    have HL := Lib.hid hl; clear hl
    go_wp2_with (go_at_call 186; refine (HC.out _ (by omega)).mono ?_; rintro e w' ⟨rfl, rfl⟩)
    go_round
    case rel => exact ⟨k + 1, by omega, by omega, rfl, by rw [bef_t k HL.out]⟩
    case measure => simp [intOf]; omega
  ·obtain rfl : k = y := by omega
   clear hk1 hk2
   go_wp2_with fail
   go_loop [3, 5] (fun n i => ∃ j : Int, 1 ≤ j ∧ j ≤ m ∧ i = .int .i64 j ∧ n = .int .i64 (Cal.bef k + Cal.cum k j)) (fun _ i => (m - intOf i).toNat)
   case atStart => exact ⟨1, by omega, by omega, rfl, by rw [Cal.cum_1]; simp⟩
   case round =>
    obtain ⟨j, hj1, hj2, rfl, rfl⟩ := hrel
    have hc := Cal.cum_bd k j hj1 (by omega)
    have hp := Cal.lp_01 k
    have hn := Cal.len_bd k j
    by_cases hlt2 : j < m
    ·go_wp2_with (go_at_call 185; refine (long_any _ _ _ (by omega)).mono ?_; rintro e w' ⟨rfl, rfl⟩)
     go_round
     case rel => exact ⟨j + 1, by omega, by omega, rfl, by rw [Cal.cum_succ k j hj1 (by omega), Int.add_assoc]⟩
     case measure => simp [intOf]; omega
    ·obtain rfl : j = m := by omega
     go_wp2_with fail
     go_ret
     exact ⟨ret_int (num_eq _ _ _ _ rfl), below_drewN ((Below.refl _ _).alloc (Nat.le_refl _) _) _⟩
theorem vld_no (y m d : Int) (h : Cal.vld y m d = false) : y < 1900 ∨ 2099 < y ∨ m < 1 ∨ 12 < m ∨ d < 1 ∨ Cal.len y m < d := by
 simp only [Cal.vld, decide_eq_false_iff_not] at h; omega
theorem dayFor_no (y m d : Int) (w : World) (h : Cal.vld y m d = false) :
  Calls Tryz.prog 152 #[.agg #[.int .i64 y, .int .i64 m, .int .i64 d]] w fun e w' => e = .returned (.int .i64 (-1)) ∧ Below w.heap.size w w' := by
 have hv := vld_no y m d h
 clear h
 by_cases g0 : y < 1900
 ·clear hv
  go_enter Tryz.func152, Tryz.ntmps152
  go_wp2_with fail
  go_quiet (fail)
  go_wp2_with fail
  go_ret
  exact ⟨rfl, below_drewN ((Below.refl _ _).alloc (Nat.le_refl _) _) _⟩
 ·have e0 : decide (y < 1900) = false := by simpa using g0
  by_cases g1 : 2099 < y
  ·clear hv
   go_enter Tryz.func152, Tryz.ntmps152
   go_wp2_with fail
   go_quiet (fail)
   go_wp2_with fail
   go_ret
   exact ⟨rfl, below_drewN ((Below.refl _ _).alloc (Nat.le_refl _) _) _⟩
  ·have e1 : decide (2099 < y) = false := by simpa using g1
   by_cases g2 : m < 1
   ·clear hv
    go_enter Tryz.func152, Tryz.ntmps152
    go_wp2_with fail
    go_quiet (fail)
    go_wp2_with fail
    go_ret
    exact ⟨rfl, below_drewN ((Below.refl _ _).alloc (Nat.le_refl _) _) _⟩
   ·have e2 : decide (m < 1) = false := by simpa using g2
    by_cases g3 : 12 < m
    ·clear hv
     go_enter Tryz.func152, Tryz.ntmps152
     go_wp2_with fail
     go_quiet (fail)
     go_wp2_with fail
     go_ret
     exact ⟨rfl, below_drewN ((Below.refl _ _).alloc (Nat.le_refl _) _) _⟩
    ·have e3 : decide (12 < m) = false := by simpa using g3
     by_cases g4 : d < 1
     ·clear hv
      go_enter Tryz.func152, Tryz.ntmps152
      go_wp2_with fail
      go_quiet (fail)
      go_wp2_with fail
      go_ret
      exact ⟨rfl, below_drewN ((Below.refl _ _).alloc (Nat.le_refl _) _) _⟩
     ·have e4 : decide (d < 1) = false := by simpa using g4
      have g5 : Cal.len y m < d := by omega
      have hd := Cal.len_bd y m
      clear hv
      go_enter Tryz.func152, Tryz.ntmps152
      go_wp2_with fail
      go_quiet ((go_at_call 185; exact quiet_same (long_any _ _ _ (by omega))))
      go_wp2_with fail
      go_ret
      exact ⟨rfl, below_drewN ((Below.refl _ _).alloc (Nat.le_refl _) _) _⟩
end Go.Proofs.YtimjmjmpaicdbaaGreatDoor
