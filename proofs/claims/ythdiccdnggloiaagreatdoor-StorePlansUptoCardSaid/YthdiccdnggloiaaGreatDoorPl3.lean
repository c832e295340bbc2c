/- Parts of the proof, no condition: StMath, EventsMath, FdMath, StErr, Less, StKey, StRow, StFil, StIn, StHas, StRight, StSet, StHeld, StImp, TxMath, DigMath. -/
import Derived.Test.YthdiccdnggloiaaGreatDoorPl2
import Derived.Test.YthdiccdnggloiaaGreatDoorPl1
import Derived.Maps.OwnSet
import Derived.Maps.OwnOps
import Derived.StringKeys
import Derived.Shelf.Abstract
import Derived.Lib.ItoaLen
import Derived.Lib.Repeat
import Derived.Test.YthdiccdnggloiaaGreatDoorProg
import Derived.Lib.Atoi
import Derived.Lib.SlTrimSet
set_option maxRecDepth 100000
set_option maxHeartbeats 4000000
set_option linter.unusedSimpArgs false
set_option linter.unusedVariables false
namespace Go.Proofs.YthdiccdnggloiaaGreatDoor
open Go.RowKit
structure Tir where
 name : ByteArray
 room : Int
 cost : Int
 away : Bool
structure Fil where
 dig : ByteArray
 size : Int
 kind : Int
 frm : ByteArray
structure Cop where
 dig : ByteArray
 tier : ByteArray
 good : Bool
 asked : Int
structure Gon where
 dig : ByteArray
 day : Int
structure Sto where
 least : Int
 wait : Int
 tiers : List Tir
 files : List Fil
 copies : List Cop
 held : List ByteArray
 bin : List Gon
structure StA where
 ta : Option Addr
 tc : Nat
 fa : Option Addr
 fc : Nat
 ca : Option Addr
 cc : Nat
 ha : Option Addr
 hc : Nat
 ba : Option Addr
 bc : Nat
namespace St
def eT : Enc Tir := ⟨4, fun t => [.string t.name, .int .i64 t.room, .int .i64 t.cost, .bool t.away], fun _ => rfl, fun t u h => by simp only [List.mem_cons, List.not_mem_nil, or_false] at h; rcases h with rfl | rfl | rfl | rfl <;> rfl⟩
def eF : Enc Fil := ⟨4, fun f => [.string f.dig, .int .i64 f.size, .int .i64 f.kind, .string f.frm], fun _ => rfl, fun t u h => by simp only [List.mem_cons, List.not_mem_nil, or_false] at h; rcases h with rfl | rfl | rfl | rfl <;> rfl⟩
def eC : Enc Cop := ⟨4, fun c => [.string c.dig, .string c.tier, .bool c.good, .int .i64 c.asked], fun _ => rfl, fun t u h => by simp only [List.mem_cons, List.not_mem_nil, or_false] at h; rcases h with rfl | rfl | rfl | rfl <;> rfl⟩
def eS : Enc ByteArray := ⟨1, fun s => [.string s], fun _ => rfl, fun t u h => by simp only [List.mem_cons, List.not_mem_nil, or_false] at h; subst h; rfl⟩
def eG : Enc Gon := ⟨2, fun g => [.string g.dig, .int .i64 g.day], fun _ => rfl, fun t u h => by simp only [List.mem_cons, List.not_mem_nil, or_false] at h; rcases h with rfl | rfl <;> rfl⟩
def eq (a b : ByteArray) : Bool := a.toList == b.toList
def le (a b : ByteArray) : Bool := Op.bytesLess a.toList b.toList || a.toList == b.toList
def lt (a b : ByteArray) : Bool := Op.bytesLess a.toList b.toList
def idx {α : Type} (p : α → Bool) : List α → Nat → Int
 | [], _ => -1
 | x :: r, i => if p x = true then (i : Int) else idx p r (i + 1)
theorem idx_none {α : Type} {p : α → Bool} {L : List α} {i : Nat} (h : ∀ x, x ∈ L → p x = false) : idx p L i = -1 := by
 induction L generalizing i with
 | nil => rfl
 | cons x r ih => rw [idx, if_neg (by rw [h x (by simp)]; decide)]; exact ih (fun y hy => h y (by simp [hy]))
theorem idx_at {α : Type} {p : α → Bool} {A B : List α} {x : α} {i : Nat} (h : ∀ y, y ∈ A → p y = false) (hx : p x = true) : idx p (A ++ x :: B) i = ((i + A.length : Nat) : Int) := by
 induction A generalizing i with
 | nil => rw [List.nil_append, idx, if_pos hx]; rfl
 | cons y A ih =>
   rw [List.cons_append, idx, if_neg (by rw [h y (by simp)]; decide), ih (fun z hz => h z (by simp [hz])), List.length_cons]
   congr 1; omega
theorem idx_neg {α : Type} {p : α → Bool} {L : List α} {i : Nat} : idx p L i < 0 ↔ ∀ x, x ∈ L → p x = false := by
 constructor
 ·intro h
  induction L generalizing i with
  | nil => intro x hx; simp at hx
  | cons y r ih =>
    rw [idx] at h
    split at h
    ·omega
    ·rename_i hn
     intro x hx
     rcases List.mem_cons.1 hx with rfl | hx
     ·simpa using hn
     ·exact ih h x hx
 ·intro h; rw [idx_none h]; omega
def scan {α : Type} (bad : List α → α → Int) : List α → List α → Int
 | _, [] => 0
 | pre, x :: r => if bad pre x = 0 then scan bad (pre ++ [x]) r else bad pre x
theorem scan_ok {α : Type} {bad : List α → α → Int} {pre r : List α} {x : α} (h : bad pre x = 0) : scan bad pre (x :: r) = scan bad (pre ++ [x]) r := by rw [scan, if_pos h]
theorem scan_bad {α : Type} {bad : List α → α → Int} {pre r : List α} {x : α} (h : bad pre x ≠ 0) : scan bad pre (x :: r) = bad pre x := by rw [scan, if_neg h]
theorem scan_0 {α : Type} {bad : List α → α → Int} {L : List α} : ∀ {pre : List α}, scan bad pre L = 0 → ∀ (A B : List α) (x : α), L = A ++ x :: B → bad (pre ++ A) x = 0 := by
 induction L with
 | nil => intro pre _ A B x h; simp at h
 | cons y r ih =>
   intro pre h A B x he
   by_cases hb : bad pre y = 0
   ·rw [scan_ok hb] at h
    cases A with
    | nil =>
      rw [List.nil_append] at he
      obtain ⟨rfl, _⟩ := List.cons.inj he
      rw [List.append_nil]; exact hb
    | cons z A =>
      rw [List.cons_append] at he
      obtain ⟨rfl, he2⟩ := List.cons.inj he
      have := ih h A B x he2
      rwa [List.append_assoc] at this
   ·rw [scan_bad hb] at h; exact absurd h hb
def tierAt (L : List Tir) (name : ByteArray) : Int := idx (fun t => eq t.name name) L 0
def fileOf (L : List Fil) (d : ByteArray) : Option Fil := L.find? fun f => eq f.dig d
def kindOf (L : List Fil) (d : ByteArray) : Int := match fileOf L d with | some f => f.kind | none => 0
def sizeOf (L : List Fil) (d : ByteArray) : Int := match fileOf L d with | some f => f.size | none => 0
def used (F : List Fil) (name : ByteArray) : List Cop → Int
 | [] => 0
 | c :: r => (if eq c.tier name = true then sizeOf F c.dig else 0) + used F name r
def isMom (n : Int) : Bool := decide (0 ≤ n ∧ n ≤ 6311433599)
end St
end Go.Proofs.YthdiccdnggloiaaGreatDoor
namespace Go.Proofs.YthdiccdnggloiaaGreatDoor.Ev
def mom (n : Int) : Bool := decide (0 ≤ n ∧ n ≤ 6311433599)
theorem mom_iff (n : Int) : mom n = true ↔ 0 ≤ n ∧ n ≤ 6311433599 := by simp [mom]
theorem mom_no (n : Int) : mom n = false ↔ n < 0 ∨ 6311433599 < n := by simp only [mom, decide_eq_false_iff_not]; omega
def meets (x s y k : Int) : Bool := decide (-k ≤ x + s - y ∧ x + s - y ≤ k)
def anyB (p : Int → Bool) (z : Nat → Int) (n : Nat) : Bool := (List.range n).any fun j => p (z j)
def near (z : Nat → Int) (n : Nat) (s y k : Int) : Bool := (List.range n).any fun j => meets (z j) s y k
def hits (z y : Nat → Int) (n : Nat) (s k : Int) : Nat → Int
 | 0 => 0
 | m + 1 => hits z y n s k m + if near z n s (y m) k then 1 else 0
def abs (s : Int) : Int := max s (-s)
def nearer (s t : Int) : Bool := decide (abs s < abs t ∨ abs s = abs t ∧ t < s)
def takes (best many s n : Int) : Bool := decide (many < n) || (decide (n = many) && nearer s best)
def step (z y : Nat → Int) (n m : Nat) (k : Int) (st : Int × Int) (s o : Int) : Int × Int := if takes st.1 st.2 o (hits z y n s k m) = true then (o, hits z y n s k m) else st
def err (z y : Nat → Int) (n m : Nat) (k : Int) : Int :=
 if 50 < n ∨ 50 < m then 4 else if anyB (fun x => !mom x) z n = true then 2 else if anyB (fun x => !mom x) y m = true then 2 else if 0 ≤ k ∧ k ≤ 86400 then 0 else 2
end Go.Proofs.YthdiccdnggloiaaGreatDoor.Ev
namespace Go.Proofs.YthdiccdnggloiaaGreatDoor.Fd
def hexN (c : Nat) : Bool := decide (48 ≤ c ∧ c ≤ 57 ∨ 97 ≤ c ∧ c ≤ 102)
def letN (c : Nat) : Bool := decide (97 ≤ c ∧ c ≤ 122)
def tailN (c : Nat) : Bool := decide (97 ≤ c ∧ c ≤ 122 ∨ 48 ≤ c ∧ c ≤ 57 ∨ c = 45)
def nmN (i c : Nat) : Bool := if i = 0 then letN c else tailN c
theorem letN_iff (c : Nat) : letN c = true ↔ 97 ≤ c ∧ c ≤ 122 := by simp [letN]
theorem tailN_iff (c : Nat) : tailN c = true ↔ 97 ≤ c ∧ c ≤ 122 ∨ 48 ≤ c ∧ c ≤ 57 ∨ c = 45 := by simp [tailN]
theorem nmN_zero (c : Nat) : nmN 0 c = letN c := rfl
theorem nmN_pos (i c : Nat) (h : i ≠ 0) : nmN i c = tailN c := by unfold nmN; rw [if_neg h]
theorem nmN_tail (i c : Nat) (h : nmN i c = true) : tailN c = true := by
 unfold nmN at h; split at h
 ·rw [letN_iff] at h; rw [tailN_iff]; omega
 ·exact h
def fileB (s : ByteArray) : Bool := decide (s.size = 16 ∧ ∀ i, (h : i < s.size) → hexN s[i].toNat = true)
def nameB (s : ByteArray) : Bool := decide ((1 ≤ s.size ∧ s.size ≤ 40) ∧ ∀ i, (h : i < s.size) → nmN i s[i].toNat = true)
theorem fileB_yes {s : ByteArray} (h : s.size = 16) (g : ∀ i, (h : i < s.size) → hexN s[i].toNat = true) : fileB s = true := decide_eq_true ⟨h, g⟩
theorem fileB_size {s : ByteArray} (h : s.size ≠ 16) : fileB s = false := decide_eq_false fun g => h g.1
theorem fileB_at {s : ByteArray} (i : Nat) (h : i < s.size) (g : hexN s[i].toNat = false) : fileB s = false := decide_eq_false fun k => by have := k.2 i h; rw [g] at this; cases this
theorem nameB_yes {s : ByteArray} (h : 1 ≤ s.size ∧ s.size ≤ 40) (g : ∀ i, (h : i < s.size) → nmN i s[i].toNat = true) : nameB s = true := decide_eq_true ⟨h, g⟩
theorem nameB_size {s : ByteArray} (h : ¬ (1 ≤ s.size ∧ s.size ≤ 40)) : nameB s = false := decide_eq_false fun g => h g.1
theorem nameB_at {s : ByteArray} (i : Nat) (h : i < s.size) (g : nmN i s[i].toNat = false) : nameB s = false := decide_eq_false fun k => by have := k.2 i h; rw [g] at this; cases this
theorem upto_next {s : ByteArray} {P : Nat → Nat → Prop} {j : Nat} (h : ∀ i, (h : i < s.size) → i < j → P i s[i].toNat) (hj : j < s.size) (g : P j s[j].toNat) : ∀ i, (h : i < s.size) → i < j + 1 → P i s[i].toNat := by
 intro i hi hij
 by_cases e : i = j
 ·subst e; exact g
 ·exact h i hi (by omega)
end Go.Proofs.YthdiccdnggloiaaGreatDoor.Fd
namespace Go.Proofs.YthdiccdnggloiaaGreatDoor
open Go.RowKit
namespace St
def inB (n lo hi : Int) : Bool := decide (lo ≤ n ∧ n ≤ hi)
def sizesE (s : Sto) : Int :=
 if inB s.least 1 8 = true ∧ inB s.wait 0 1000 = true then
  (if 8 < s.tiers.length ∨ 500 < s.files.length ∨ 4000 < s.copies.length ∨ 500 < s.held.length ∨ 500 < s.bin.length then 4 else 0) else 2
def hasTier (L : List Tir) (n : ByteArray) : Bool := L.any fun t => eq t.name n
def tierE (pre : List Tir) (t : Tir) : Int :=
 if Fd.nameB t.name = true then (if hasTier pre t.name = true then 6 else if inB t.room 0 1000000000000 = true ∧ inB t.cost 0 1000000 = true then 0 else 2) else 3
def fileR (f : Fil) : Int :=
 if inB f.size 0 1000000000 = true then (if inB f.kind 1 3 = true then (if f.kind = 1 ∧ f.frm.toList.isEmpty = false then 1 else 0) else 10) else 2
def fileE (pre : List Fil) (f : Fil) : Int :=
 if Fd.fileB f.dig = true then (match pre.getLast? with | some p => (if le f.dig p.dig = true then 5 else fileR f) | none => fileR f) else 1
def fromE (L : List Fil) (_ : List Fil) (f : Fil) : Int := if f.kind ≠ 1 ∧ kindOf L f.frm ≠ 1 then 7 else 0
def filesE (L : List Fil) : Int := if scan fileE [] L = 0 then scan (fromE L) [] L else scan fileE [] L
def ahead (a b : Cop) : Bool := lt a.dig b.dig || (eq a.dig b.dig && lt a.tier b.tier)
def copyE (T : List Tir) (F : List Fil) (pre : List Cop) (c : Cop) : Int :=
 if (fileOf F c.dig).isSome = true ∧ hasTier T c.tier = true then
  (match pre.getLast? with | some p => (if ahead p c = true then (if isMom c.asked = true then 0 else 2) else 5) | none => (if isMom c.asked = true then 0 else 2)) else 7
def fullE (F : List Fil) (C : List Cop) (_ : List Tir) (t : Tir) : Int := if t.room - used F t.name C < 0 then 12 else 0
def copiesE (s : Sto) : Int := if scan (copyE s.tiers s.files) [] s.copies = 0 then scan (fullE s.files s.copies) [] s.tiers else scan (copyE s.tiers s.files) [] s.copies
def heldE (F : List Fil) (pre : List ByteArray) (d : ByteArray) : Int :=
 if kindOf F d = 1 then (match pre.getLast? with | some p => (if le d p = true then 5 else 0) | none => 0) else 7
def hasS (L : List ByteArray) (d : ByteArray) : Bool := L.any fun x => eq x d
def binR (H : List ByteArray) (g : Gon) : Int := if inB g.day 0 73048 = true then (if hasS H g.dig = true then 6 else 0) else 2
def binE (F : List Fil) (H : List ByteArray) (pre : List Gon) (g : Gon) : Int :=
 if kindOf F g.dig = 1 then (match pre.getLast? with | some p => (if le g.dig p.dig = true then 5 else binR H g) | none => binR H g) else 7
def keptE (s : Sto) : Int := if scan (heldE s.files) [] s.held = 0 then scan (binE s.files s.held) [] s.bin else scan (heldE s.files) [] s.held
def err (s : Sto) : Int :=
 if sizesE s = 0 then (if scan tierE [] s.tiers = 0 then (if filesE s.files = 0 then (if copiesE s = 0 then keptE s else copiesE s) else filesE s.files) else scan tierE [] s.tiers) else sizesE s
theorem scan_here {α : Type} {bad : List α → α → Int} {L : List α} {j : Nat} {q : Int} {x : α} (h : scan bad (L.take j) (L.drop j) = q) (hx : L[j]? = some x) (he : bad (L.take j) x ≠ 0) : q = bad (L.take j) x := by
 obtain ⟨hlt, hg⟩ := List.getElem?_eq_some_iff.1 hx
 rw [List.drop_eq_getElem_cons hlt, hg, scan_bad he] at h
 exact h.symm
theorem scan_next {α : Type} {bad : List α → α → Int} {L : List α} {j : Nat} {q : Int} {x : α} (h : scan bad (L.take j) (L.drop j) = q) (hx : L[j]? = some x) (he : bad (L.take j) x = 0) : scan bad (L.take (j + 1)) (L.drop (j + 1)) = q := by
 obtain ⟨hlt, hg⟩ := List.getElem?_eq_some_iff.1 hx
 rw [List.drop_eq_getElem_cons hlt, hg, scan_ok he] at h
 rw [List.take_add_one, hx]
 exact h
theorem scan_done {α : Type} {bad : List α → α → Int} {L : List α} {q : Int} (h : scan bad (L.take L.length) (L.drop L.length) = q) : q = 0 := by
 rw [List.drop_length] at h; exact h.symm
theorem last_take {α : Type} {L : List α} {j : Nat} {x : α} (h : L[j]? = some x) : (L.take (j + 1)).getLast? = some x := by
 rw [List.take_add_one, h]; simp
theorem last_at {α : Type} {L : List α} {j : Nat} (h : j < L.length) (h0 : 0 < j) : ∃ p, L[j - 1]? = some p ∧ (L.take j).getLast? = some p := by
 obtain ⟨p, hp⟩ : ∃ p, L[j - 1]? = some p := ⟨_, List.getElem?_eq_getElem (by omega)⟩
 refine ⟨p, hp, ?_⟩
 have := last_take hp
 rwa [show j - 1 + 1 = j by omega] at this
theorem last_zero {α : Type} {L : List α} : (L.take 0).getLast? = none := by simp
end St
end Go.Proofs.YthdiccdnggloiaaGreatDoor
namespace Go.Proofs.YthdiccdnggloiaaGreatDoor
open Go.RowKit
open Go.Op (bytesLess)
namespace Sx
theorem less_irr : ∀ a : List UInt8, bytesLess a a = false
 | [] => rfl
 | a :: x => by
   show (decide (a < a) || (a == a && bytesLess x x)) = false
   rw [less_irr x]; simp
theorem less_tri : ∀ a b : List UInt8, bytesLess a b = false → bytesLess b a = false → a = b
 | [], [], _, _ => rfl
 | [], _ :: _, h, _ => by exact absurd h (by simp [bytesLess])
 | _ :: _, [], _, h => by exact absurd h (by simp [bytesLess])
 | a :: x, b :: y, h1, h2 => by
   simp only [bytesLess, Bool.or_eq_false_iff, decide_eq_false_iff_not, Bool.and_eq_false_iff, beq_eq_false_iff_ne, UInt8.not_lt] at h1 h2
   have e : a = b := UInt8.le_antisymm h2.1 h1.1
   subst e
   have t := less_tri x y (by rcases h1.2 with h | h; exact absurd rfl h; exact h) (by rcases h2.2 with h | h; exact absurd rfl h; exact h)
   rw [t]
theorem less_trans : ∀ a b c : List UInt8, bytesLess a b = true → bytesLess b c = true → bytesLess a c = true
 | [], b, [], _, h => by cases b <;> simp [bytesLess] at h
 | [], _, _ :: _, _, _ => by simp [bytesLess]
 | _ :: _, [], _, h, _ => by simp [bytesLess] at h
 | _ :: _, _ :: _, [], _, h => by simp [bytesLess] at h
 | a :: x, b :: y, c :: z, h1, h2 => by
   simp only [bytesLess, Bool.or_eq_true, decide_eq_true_eq, Bool.and_eq_true, beq_iff_eq] at h1 h2 ⊢
   rcases h1 with h1 | ⟨rfl, h1⟩
   ·rcases h2 with h2 | ⟨rfl, h2⟩
    ·exact .inl (UInt8.lt_trans h1 h2)
    ·exact .inl h1
   ·rcases h2 with h2 | ⟨rfl, h2⟩
    ·exact .inl h2
    ·exact .inr ⟨rfl, less_trans x y z h1 h2⟩
end Sx
end Go.Proofs.YthdiccdnggloiaaGreatDoor
namespace Go.Proofs.YthdiccdnggloiaaGreatDoor
open Go.RowKit
namespace St
theorem less_app {a b : List UInt8} (x y : List UInt8) (h : a.length = b.length) : Op.bytesLess (a ++ x) (b ++ y) = (Op.bytesLess a b || (a == b && Op.bytesLess x y)) := by
 induction a generalizing b with
 | nil =>
   cases b with
   | nil => simp [Op.bytesLess]
   | cons c b => simp at h
 | cons c a ih =>
   cases b with
   | nil => simp at h
   | cons d b =>
     have h' : a.length = b.length := by simpa using h
     simp only [List.cons_append, Op.bytesLess]
     rw [ih h']
     by_cases h1 : c < d
     ·simp [h1]
     ·by_cases h2 : c = d
      ·subst h2; simp
      ·have h3 : (c == d) = false := by simpa using h2
       simp [h1, h3]
theorem size_len (a : ByteArray) : a.toList.length = a.size := by rw [ByteArray.toList_eq]; rfl
theorem toList_app (a b : ByteArray) : (a ++ b).toList = a.toList ++ b.toList := by rw [ByteArray.toList_eq, ByteArray.toList_eq, ByteArray.toList_eq]; simp
def key (d t : ByteArray) : ByteArray := d ++ ⟨#[0]⟩ ++ t
theorem key_list (d t : ByteArray) : (key d t).toList = d.toList ++ 0 :: t.toList := by
 unfold key
 have h : (⟨#[0]⟩ : ByteArray).toList = [0] := by rw [ByteArray.toList_eq]
 rw [toList_app, toList_app, List.append_assoc, h]; rfl
theorem eq_iff {a b : ByteArray} : eq a b = true ↔ a = b := by
 unfold eq
 rw [beq_iff_eq]
 constructor
 ·intro h
  rw [ByteArray.toList_eq, ByteArray.toList_eq] at h
  exact ByteArray.ext (Array.toList_inj.1 h)
 ·rintro rfl; rfl
theorem eq_refl (a : ByteArray) : eq a a = true := eq_iff.2 rfl
theorem lt_irr (a : ByteArray) : lt a a = false := Sx.less_irr _
theorem lt_trans {a b c : ByteArray} (h1 : lt a b = true) (h2 : lt b c = true) : lt a c = true := Sx.less_trans _ _ _ h1 h2
theorem le_not {a b : ByteArray} : le a b = !(lt b a) := by
 unfold le lt
 cases h1 : Op.bytesLess b.toList a.toList with
 | true =>
   cases h2 : Op.bytesLess a.toList b.toList with
   | true => have := Sx.less_trans _ _ _ h1 h2; rw [Sx.less_irr] at this; cases this
   | false =>
     have : (a.toList == b.toList) = false := by
      rw [beq_eq_false_iff_ne]; intro e; rw [e, Sx.less_irr] at h1; cases h1
     rw [this]; rfl
 | false =>
   cases h2 : Op.bytesLess a.toList b.toList with
   | true => rfl
   | false =>
     have := Sx.less_tri _ _ h1 h2
     rw [this]; simp
theorem lt_key {d t d' t' : ByteArray} (h : d.size = d'.size) : lt (key d t) (key d' t') = (lt d d' || (eq d d' && lt t t')) := by
 unfold lt eq
 rw [key_list, key_list, less_app _ _ (by rw [size_len, size_len, h])]
 simp [Op.bytesLess]
theorem le_key {d t d' t' : ByteArray} (h : d.size = d'.size) : le (key d' t') (key d t) = !(lt d d' || (eq d d' && lt t t')) := by rw [le_not, lt_key h]
theorem eq_key {d t d' t' : ByteArray} (h : d.size = d'.size) : eq (key d t) (key d' t') = (eq d d' && eq t t') := by
 rw [Bool.eq_iff_iff, Bool.and_eq_true, eq_iff, eq_iff, eq_iff]
 constructor
 ·intro e
  have e2 := congrArg ByteArray.toList e
  rw [key_list, key_list] at e2
  obtain ⟨e3, e4⟩ := List.append_inj e2 (by rw [size_len, size_len, h])
  have e5 := List.tail_eq_of_cons_eq e4
  rw [ByteArray.toList_eq, ByteArray.toList_eq] at e3 e5
  exact ⟨ByteArray.ext (Array.toList_inj.1 e3), ByteArray.ext (Array.toList_inj.1 e5)⟩
 ·rintro ⟨rfl, rfl⟩; rfl
end St
namespace St
def pos {α : Type} (key : α → ByteArray) (k : ByteArray) : List α → Nat
 | [] => 0
 | x :: r => if lt (key x) k = true then pos key k r + 1 else 0
def Up {α : Type} (key : α → ByteArray) (L : List α) : Prop := L.Pairwise fun x y => lt (key x) (key y) = true
def hasK {α : Type} (key : α → ByteArray) (L : List α) (k : ByteArray) : Bool := L.any fun x => eq (key x) k
theorem pos_le {α : Type} (key : α → ByteArray) (k : ByteArray) : ∀ L : List α, pos key k L ≤ L.length
 | [] => Nat.le_refl _
 | x :: r => by
   have := pos_le key k r
   rw [pos, List.length_cons]
   split <;> omega
theorem pos_before {α : Type} {key : α → ByteArray} {k : ByteArray} : ∀ {L : List α} {i : Nat} {x : α}, L[i]? = some x → i < pos key k L → lt (key x) k = true
 | [], i, x, h, _ => by simp at h
 | y :: r, i, x, h, hi => by
   rw [pos] at hi
   split at hi
   ·rename_i hy
    cases i with
    | zero => simp at h; subst h; exact hy
    | succ i => exact pos_before (L := r) (by simpa using h) (by omega)
   ·omega
theorem pos_at {α : Type} {key : α → ByteArray} {k : ByteArray} : ∀ {L : List α} {x : α}, L[pos key k L]? = some x → lt (key x) k = false
 | [], x, h => by simp at h
 | y :: r, x, h => by
   rw [pos] at h
   split at h
   ·exact pos_at (L := r) (by simpa using h)
   ·rename_i hy
    simp at h; subst h; simpa using hy
theorem Up.lt {α : Type} {key : α → ByteArray} {L : List α} (h : Up key L) {i j : Nat} {x y : α} (hi : L[i]? = some x) (hj : L[j]? = some y) (hij : i < j) : lt (key x) (key y) = true := by
 obtain ⟨h1, rfl⟩ := List.getElem?_eq_some_iff.1 hi
 obtain ⟨h2, rfl⟩ := List.getElem?_eq_some_iff.1 hj
 exact List.pairwise_iff_getElem.1 h i j h1 h2 hij
theorem pos_from {α : Type} {key : α → ByteArray} {k : ByteArray} {L : List α} (h : Up key L) {i : Nat} {x : α} (hi : L[i]? = some x) (hp : pos key k L ≤ i) : St.lt (key x) k = false := by
 obtain ⟨h1, _⟩ := List.getElem?_eq_some_iff.1 hi
 obtain ⟨y, hy⟩ : ∃ y, L[pos key k L]? = some y := ⟨_, List.getElem?_eq_getElem (by omega)⟩
 have h2 := pos_at hy
 by_cases e : pos key k L = i
 ·subst e
  rw [hy] at hi
  obtain rfl := Option.some.inj hi
  exact h2
 ·have h3 := h.lt hy hi (by omega)
  cases h4 : St.lt (key x) k with
  | false => rfl
  | true => rw [lt_trans h3 h4] at h2; cases h2
theorem pos_is {α : Type} {key : α → ByteArray} {k : ByteArray} {L : List α} {n : Nat} (hn : n ≤ L.length) (h1 : ∀ i x, L[i]? = some x → i < n → lt (key x) k = true) (h2 : ∀ x, L[n]? = some x → lt (key x) k = false) : pos key k L = n := by
 rcases Nat.lt_trichotomy (pos key k L) n with h | h | h
 ·obtain ⟨x, hx⟩ : ∃ x, L[pos key k L]? = some x := ⟨_, List.getElem?_eq_getElem (by omega)⟩
  have := h1 _ _ hx h
  rw [pos_at hx] at this; cases this
 ·exact h
 ·have := pos_le key k L
  obtain ⟨x, hx⟩ : ∃ x, L[n]? = some x := ⟨_, List.getElem?_eq_getElem (by omega)⟩
  have h3 := pos_before hx h
  rw [h2 x hx] at h3; cases h3
theorem has_pos {α : Type} {key : α → ByteArray} {k : ByteArray} {L : List α} (h : Up key L) : hasK key L k = (match L[pos key k L]? with | some x => eq (key x) k | none => false) := by
 cases hx : L[pos key k L]? with
 | none =>
   show hasK key L k = false
   unfold hasK
   rw [List.any_eq_false]
   intro y hy e
   obtain ⟨i, hi⟩ := List.getElem?_of_mem hy
   have hl := (List.getElem?_eq_some_iff.1 hi).1
   rw [List.getElem?_eq_none_iff] at hx
   have := pos_before (key := key) (k := k) hi (by omega)
   rw [eq_iff.1 e, lt_irr] at this; cases this
 | some x =>
   show hasK key L k = eq (key x) k
   cases he : eq (key x) k with
   | true =>
     unfold hasK
     exact List.any_eq_true.2 ⟨x, List.mem_of_getElem? hx, he⟩
   | false =>
     unfold hasK
     rw [List.any_eq_false]
     intro y hy e
     obtain ⟨i, hi⟩ := List.getElem?_of_mem hy
     rcases Nat.lt_trichotomy i (pos key k L) with h1 | h1 | h1
     ·have := pos_before hi h1
      rw [eq_iff.1 e, lt_irr] at this; cases this
     ·rw [h1, hx] at hi
      obtain rfl := Option.some.inj hi
      rw [e] at he; cases he
     ·have h2 := h.lt hx hi h1
      rw [eq_iff.1 e] at h2
      rw [pos_at hx] at h2; cases h2
def wth {α : Type} (key : α → ByteArray) (x : α) (L : List α) : List α := if hasK key L (key x) = true then L.set (pos key (key x) L) x else L.take (pos key (key x) L) ++ x :: L.drop (pos key (key x) L)
def wo {α : Type} (key : α → ByteArray) (k : ByteArray) (L : List α) : List α := if hasK key L k = true then L.eraseIdx (pos key k L) else L
end St
namespace St
def zeroF : Fil := ⟨⟨#[]⟩, 0, 0, ⟨#[]⟩⟩
def lastOf (L : List Fil) (d : ByteArray) : Option Fil := L.reverse.find? fun f => eq f.dig d
theorem lastOf_nil (d : ByteArray) : lastOf [] d = none := rfl
theorem lastOf_snoc (L : List Fil) (f : Fil) (d : ByteArray) : lastOf (L ++ [f]) d = if eq f.dig d = true then some f else lastOf L d := by
 unfold lastOf
 rw [List.reverse_append]
 simp only [List.reverse_cons, List.reverse_nil, List.nil_append, List.cons_append, List.find?_cons]
 cases eq f.dig d <;> simp
theorem find_mem {L : List Fil} {d : ByteArray} {f : Fil} (h : fileOf L d = some f) : f ∈ L ∧ eq f.dig d = true := ⟨List.mem_of_find?_eq_some h, by have := List.find?_some h; exact this⟩
theorem last_mem {L : List Fil} {d : ByteArray} {f : Fil} (h : lastOf L d = some f) : f ∈ L ∧ eq f.dig d = true := ⟨List.mem_reverse.1 (List.mem_of_find?_eq_some h), by have := List.find?_some h; exact this⟩
theorem Up.one {α : Type} {key : α → ByteArray} {L : List α} (h : Up key L) {x y : α} (hx : x ∈ L) (hy : y ∈ L) (he : key x = key y) : x = y := by
 obtain ⟨i, hi⟩ := List.getElem?_of_mem hx
 obtain ⟨j, hj⟩ := List.getElem?_of_mem hy
 rcases Nat.lt_trichotomy i j with h1 | h1 | h1
 ·have := h.lt hi hj h1; rw [he, lt_irr] at this; cases this
 ·subst h1; rw [hi] at hj; exact Option.some.inj hj
 ·have := h.lt hj hi h1; rw [he, lt_irr] at this; cases this
theorem lastOf_up {L : List Fil} (h : Up (·.dig) L) (d : ByteArray) : lastOf L d = fileOf L d := by
 cases hl : lastOf L d with
 | none =>
   cases hf : fileOf L d with
   | none => rfl
   | some f =>
     obtain ⟨h1, h2⟩ := find_mem hf
     unfold lastOf at hl
     rw [List.find?_eq_none] at hl
     have := hl f (List.mem_reverse.2 h1)
     rw [h2] at this; exact absurd rfl this
 | some f =>
   obtain ⟨h1, h2⟩ := last_mem hl
   cases hf : fileOf L d with
   | none =>
     unfold fileOf at hf
     rw [List.find?_eq_none] at hf
     have := hf f h1
     rw [h2] at this; exact absurd rfl this
   | some g =>
     obtain ⟨h3, h4⟩ := find_mem hf
     rw [h.one h1 h3 (by show f.dig = g.dig; rw [eq_iff.1 h2, eq_iff.1 h4])]
def filD (L : List Fil) (d : ByteArray) : Fil := (fileOf L d).getD zeroF
theorem filD_kind (L : List Fil) (d : ByteArray) : (filD L d).kind = kindOf L d := by
 unfold filD kindOf
 cases fileOf L d <;> rfl
theorem filD_size (L : List Fil) (d : ByteArray) : (filD L d).size = sizeOf L d := by
 unfold filD sizeOf
 cases fileOf L d <;> rfl
theorem up_of_scan {α : Type} {key : α → ByteArray} {bad : List α → α → Int} {L : List α} (h : scan bad [] L = 0) (hb : ∀ pre x p, bad pre x = 0 → pre.getLast? = some p → lt (key p) (key x) = true) : Up key L := by
 unfold Up
 rw [List.pairwise_iff_getElem]
 have step : ∀ k, (hk : k + 1 < L.length) → lt (key L[k]) (key L[k + 1]) = true := by
  intro k hk
  have h1 := scan_0 h (L.take (k + 1)) (L.drop (k + 2)) L[k + 1] (by
   conv => lhs; rw [← List.take_append_drop (k + 1) L]
   rw [List.drop_eq_getElem_cons hk])
  rw [List.nil_append] at h1
  exact hb _ _ _ h1 (last_take (List.getElem?_eq_getElem (by omega)))
 intro i j hi hj hij
 induction j with
 | zero => omega
 | succ j ih =>
   by_cases e : i = j
   ·subst e; exact step i hj
   ·exact lt_trans (ih (by omega) (by omega)) (step j hj)
theorem files_up {L : List Fil} (h : scan fileE [] L = 0) : Up (·.dig) L := by
 refine up_of_scan h fun pre x p hb hp => ?_
 unfold fileE at hb
 split at hb
 ·rw [hp] at hb
  simp only at hb
  split at hb
  ·cases hb
  ·rename_i g
   rw [le_not] at g
   simpa using g
 ·cases hb
theorem file_dig {L : List Fil} (h : scan fileE [] L = 0) {f : Fil} (hf : f ∈ L) : Fd.fileB f.dig = true := by
 obtain ⟨i, hi⟩ := List.getElem?_of_mem hf
 obtain ⟨hlt, hg⟩ := List.getElem?_eq_some_iff.1 hi
 have h1 := scan_0 h (L.take i) (L.drop (i + 1)) f (by
  conv => lhs; rw [← List.take_append_drop i L]
  rw [List.drop_eq_getElem_cons hlt, hg])
 rw [List.nil_append] at h1
 unfold fileE at h1
 split at h1
 ·rename_i g; exact g
 ·cases h1
theorem file_dig16 {L : List Fil} (h : scan fileE [] L = 0) {f : Fil} (hf : f ∈ L) : f.dig.size = 16 := by
 have := file_dig h hf
 unfold Fd.fileB at this
 exact (of_decide_eq_true this).1
end St
end Go.Proofs.YthdiccdnggloiaaGreatDoor
namespace Go.Proofs.YthdiccdnggloiaaGreatDoor
open Go.RowKit Go.Sort Go.Maps
structure StIn (w : World) (s : Sto) (a : StA) : Prop where
 ti : RowE St.eT w a.ta s.tiers
 fi : RowE St.eF w a.fa s.files
 co : RowE St.eC w a.ca s.copies
 he : RowE St.eS w a.ha s.held
 bi : RowE St.eG w a.ba s.bin
 tl : s.tiers.length ≤ a.tc ∧ a.tc ≤ 9223372036854775807
 fl : s.files.length ≤ a.fc ∧ a.fc ≤ 9223372036854775807
 cl : s.copies.length ≤ a.cc ∧ a.cc ≤ 9223372036854775807
 hl : s.held.length ≤ a.hc ∧ a.hc ≤ 9223372036854775807
 bl : s.bin.length ≤ a.bc ∧ a.bc ≤ 9223372036854775807
 tz : ∀ t ∈ s.tiers, t.name.size ≤ 9223372036854775807
 fz : ∀ f ∈ s.files, f.dig.size ≤ 9223372036854775807 ∧ f.frm.size ≤ 9223372036854775807
 cz : ∀ c ∈ s.copies, c.dig.size ≤ 9223372036854775807 ∧ c.tier.size ≤ 9223372036854775807
 hz : ∀ d ∈ s.held, d.size ≤ 9223372036854775807
 bz : ∀ g ∈ s.bin, g.dig.size ≤ 9223372036854775807
theorem StIn.keep {w w' : World} {s : Sto} {a : StA} (h : StIn w s a) (hb : Below w.heap.size w w') : StIn w' s a :=
 ⟨h.ti.keep hb, h.fi.keep hb, h.co.keep hb, h.he.keep hb, h.bi.keep hb, h.tl, h.fl, h.cl, h.hl, h.bl, h.tz, h.fz, h.cz, h.hz, h.bz⟩
namespace St
def fval (f : Fil) : Value := .agg #[.string f.dig, .int .i64 f.size, .int .i64 f.kind, .string f.frm]
def rdF (v : Value) : Option (DataW Value × List MemPlace) := some (.held v, [])
def kl (d : ByteArray) : Lit := .string d.data.toList
theorem kl_inj {d d' : ByteArray} (h : kl d = kl d') : d = d' := by
 unfold kl at h
 injection h with h
 exact ByteArray.ext (Array.toList_inj.1 h)
theorem kl_ne {d d' : ByteArray} (h : d ≠ d') : kl d ≠ kl d' := fun e => h (kl_inj e)
end St
def FMap (w : World) (b : Nat) (L : List Fil) : Prop :=
 ∃ D : DataW Value, w.ownsMap Tryz.prog 9 St.rdF b L.length D ∧ Tidy D ∧ ∀ d : ByteArray, (∀ z, D.atKey (St.kl d) z = match St.lastOf L d with | some f => .held (St.fval f) | none => z) ∧ has D (St.kl d) = (St.lastOf L d).isSome
theorem FMap.lt {w : World} {b : Nat} {L : List Fil} (h : FMap w b L) : b < w.heap.size := by
 obtain ⟨D, h1, _⟩ := h; exact h1.lt
theorem FMap.made (w : World) : FMap (w.alloc (.map #[] 0)) w.heap.size [] :=
 ⟨.map [], World.ownsMap_made w _ _ _, (World.ownsMap_made w Tryz.prog 9 St.rdF).tidy (string_keyed Tryz.underlying9), fun d => ⟨fun z => by simp [St.lastOf_nil, DataW.atKey], by simp [St.lastOf_nil, has]⟩⟩
theorem FMap.kept {w w' : World} {b : Nat} {L : List Fil} {row : Option Nat} (h : FMap w b L) (hg : w.grownBy w' row) (hne : some b ≠ row) : FMap w' b L := by
 obtain ⟨D, h1, h2, h3⟩ := h
 exact ⟨D, h1.kept hg hne, h2, h3⟩
theorem FMap.keep {w w' : World} {b : Nat} {L : List Fil} (h : FMap w b L) (hb : Below w.heap.size w w') : FMap w' b L :=
 h.kept (row := none) ⟨hb.os, hb.tape, hb.output, hb.size, fun k hk _ => hb.block k hk⟩ (by simp)
theorem FMap.put {w w' : World} {b : Nat} {L : List Fil} {f : Fil} {D : DataW Value} (h2 : Tidy D) (h3 : ∀ d : ByteArray, (∀ z, D.atKey (St.kl d) z = match St.lastOf L d with | some f => .held (St.fval f) | none => z) ∧ has D (St.kl d) = (St.lastOf L d).isSome)
  (h4 : w'.ownsMap Tryz.prog 9 St.rdF b (L.length + 1) (D.put (St.kl f.dig) (.held (St.fval f)))) : FMap w' b (L ++ [f]) := by
 refine ⟨_, by rw [List.length_append]; exact h4, h4.tidy (string_keyed Tryz.underlying9), fun d => ?_⟩
 have hk : WideAt.IsKeyLit (St.kl f.dig) := trivial
 rw [St.lastOf_snoc]
 by_cases e : St.eq f.dig d = true
 ·rw [if_pos e]
  obtain rfl := St.eq_iff.1 e
  exact ⟨fun z => atKey_put_same h2.isMap hk _ _, has_put_same h2.isMap hk _⟩
 ·rw [if_neg e]
  have hne : St.kl d ≠ St.kl f.dig := St.kl_ne fun e2 => e (St.eq_iff.2 e2.symm)
  exact ⟨fun z => by rw [atKey_put_other hne]; exact (h3 d).1 z, by rw [has_put_other hne]; exact (h3 d).2⟩
theorem zeroFil (w : World) : (zeroValue 30).run Tryz.prog w = .ok (St.fval St.zeroF) w := by kernel_rfl
theorem keyS {d : ByteArray} (h : d.size ≤ 9223372036854775807) : keyOf Tryz.prog 9 (.string d) = some (St.kl d) := WideMaps.keyOf_string_mk Tryz.underlying9 h
theorem FMap.look {w : World} {b : Nat} {L : List Fil} (h : FMap w b L) {d : ByteArray} (hd : d.size ≤ 9223372036854775807) :
  (Instr.lookup 133 (.map (some b)) (.string d) false).run Tryz.prog w = .ok (St.fval ((St.lastOf L d).getD St.zeroF)) w := by
 obtain ⟨D, h1, h2, h3⟩ := h
 obtain ⟨v, ps, hr, hv⟩ := h1.lookup (string_keyed Tryz.underlying9) Tryz.underlying133 (zeroFil w) (zd := .held (St.fval St.zeroF)) (zp := []) rfl (keyS hd)
 rw [(h3 d).1] at hv
 rw [hr]
 cases hl : St.lastOf L d with
 | none => rw [hl] at hv; unfold St.rdF at hv; simp at hv; rw [hv.1]; rfl
 | some f => rw [hl] at hv; unfold St.rdF at hv; simp at hv; rw [hv.1]; rfl
theorem FMap.look_ok {w : World} {b : Nat} {L : List Fil} (h : FMap w b L) {d : ByteArray} (hd : d.size ≤ 9223372036854775807) :
  (Instr.lookup 133 (.map (some b)) (.string d) true).run Tryz.prog w = .ok (.tuple #[St.fval ((St.lastOf L d).getD St.zeroF), .bool (St.lastOf L d).isSome]) w := by
 obtain ⟨D, h1, h2, h3⟩ := h
 obtain ⟨v, ps, hr, hv⟩ := h1.look_ok (string_keyed Tryz.underlying9) Tryz.underlying133 (zeroFil w) (zd := .held (St.fval St.zeroF)) (zp := []) rfl (keyS hd)
 rw [(h3 d).1] at hv
 rw [hr, (h3 d).2]
 cases hl : St.lastOf L d with
 | none => rw [hl] at hv; unfold St.rdF at hv; simp at hv; rw [hv.1]; rfl
 | some f => rw [hl] at hv; unfold St.rdF at hv; simp at hv; rw [hv.1]; rfl
theorem Blk.sv7 {w : World} {b : Nat} {t : TypeId} {x0 x1 x2 x3 x4 x5 x6 : Value} (h : Blk w b #[x0, x1, x2, x3, x4, x5, x6] t) : w.cell? ⟨b, 0, none⟩ = some x0 ∧ w.cell? ⟨b, 1, none⟩ = some x1 ∧ w.cell? ⟨b, 2, none⟩ = some x2 ∧ w.cell? ⟨b, 3, none⟩ = some x3 ∧ w.cell? ⟨b, 4, none⟩ = some x4 ∧ w.cell? ⟨b, 5, none⟩ = some x5 ∧ w.cell? ⟨b, 6, none⟩ = some x6 :=
 ⟨(h.cell 0).trans rfl, (h.cell 1).trans rfl, (h.cell 2).trans rfl, (h.cell 3).trans rfl, (h.cell 4).trans rfl, (h.cell 5).trans rfl, (h.cell 6).trans rfl⟩
end Go.Proofs.YthdiccdnggloiaaGreatDoor
namespace Go.Proofs.YthdiccdnggloiaaGreatDoor
open Go.RowKit Go.Sort Go.Shelf Go.Maps
namespace St
def cmpS (a b : ByteArray) : Int := if lt a b = true then -1 else if lt b a = true then 1 else 0
theorem cmpS_lt {a b : ByteArray} : cmpS a b < 0 ↔ lt a b = true := by
 unfold cmpS
 cases lt a b <;> cases lt b a <;> simp
theorem cmpS_eq {a b : ByteArray} : (cmpS a b == 0) = eq a b := by
 have h := le_not (a := a) (b := b)
 unfold le at h
 unfold cmpS
 have h0 : Op.bytesLess a.toList b.toList = lt a b := rfl
 have h1 : (a.toList == b.toList) = eq a b := rfl
 rw [h0, h1] at h
 cases h2 : eq a b with
 | true =>
   obtain rfl := eq_iff.1 h2
   rw [lt_irr]; rfl
 | false =>
   rw [h2, Bool.or_false] at h
   rw [h]
   cases lt b a <;> rfl
end St
theorem isNaNs_is (a : ByteArray) (w : World) : Calls Tryz.prog 191 #[.string a] w fun e w' => e = .returned (.bool false) ∧ w = w' := by
 go_enter Tryz.func191, Tryz.ntmps191
 go_wp2_with fail
 go_ret
 exact ⟨by simp, rfl⟩
theorem cmpStr_is (a b : ByteArray) (w : World) : Calls Tryz.prog 147 #[.string a, .string b] w fun e w' => e = .returned (.int .i64 (St.cmpS a b)) ∧ w = w' := by
 have HN := Lib.hid (fun x W => isNaNs_is x W)
 obtain ⟨q, hq⟩ : ∃ q, St.cmpS a b = q := ⟨_, rfl⟩
 rw [hq]
 unfold St.cmpS at hq
 have h1 : St.lt a b = Op.bytesLess a.toList b.toList := rfl
 have h2 : St.lt b a = Op.bytesLess b.toList a.toList := rfl
 rw [h1, h2] at hq
 clear h1 h2
 cases hx : Op.bytesLess a.toList b.toList
 ·have hle := St.le_not (a := a) (b := b)
  unfold St.le at hle
  rw [hx, Bool.false_or] at hle
  have hlb : Op.bytesLess b.toList a.toList = St.lt b a := rfl
  rw [hlb] at hq
  cases hy : (a.toList == b.toList)
  case true =>
   have HQ : Hid ((0 : Int) = q) := Lib.hid (by rw [← hq, hx]; rw [hy] at hle; cases hb : St.lt b a; rfl; rw [hb] at hle; cases hle)
   clear hq hle hlb
   go_enter Tryz.func147, Tryz.ntmps147
   go_wp2_with (go_at_call 191; (with_reducible refine (HN.out _ _).mono ?_); rintro e w4 ⟨rfl, rfl⟩)
   go_ret
   exact ⟨ret_int HQ.out, rfl⟩
  case false =>
   have HQ : Hid ((1 : Int) = q) := Lib.hid (by rw [← hq, hx]; rw [hy] at hle; cases hb : St.lt b a; rw [hb] at hle; cases hle; rfl)
   clear hq hle hlb
   go_enter Tryz.func147, Tryz.ntmps147
   go_wp2_with (go_at_call 191; (with_reducible refine (HN.out _ _).mono ?_); rintro e w4 ⟨rfl, rfl⟩)
   go_ret
   exact ⟨ret_int HQ.out, rfl⟩
 ·have HQ : Hid ((-1 : Int) = q) := Lib.hid (by rw [← hq, hx]; rfl)
  clear hq
  go_enter Tryz.func147, Tryz.ntmps147
  go_wp2_with (go_at_call 191; (with_reducible refine (HN.out _ _).mono ?_); rintro e w4 ⟨rfl, rfl⟩)
  go_ret
  exact ⟨ret_int HQ.out, rfl⟩
theorem enters_held : ∀ args w, (callFunc 149 args).run Tryz.prog w = .ok (.enter 149 args) w := enters_of Tryz.func149 (by kernel_rfl) rfl
theorem enters_place : ∀ args w, (callFunc 195 args).run Tryz.prog w = .ok (.enter 195 args) w := enters_of Tryz.func195 (by kernel_rfl) rfl
theorem heldK_is (x : ByteArray) (w : World) : Calls Tryz.prog 149 #[.string x] w fun e w' => e = .returned (.string x) ∧ w = w' := by
 go_enter Tryz.func149, Tryz.ntmps149
 go_wp2_with fail
 go_ret
 exact ⟨rfl, rfl⟩
theorem placeK_is (x k : ByteArray) (a : Option Addr) (n ca bk : Nat) (t : TypeId) (w : World) (hs : Blk w bk #[.func (.func 149) #[] #[], .slice a n ca] t) :
  Calls Tryz.prog 195 #[.string x, .string k, .pointer (some ⟨bk, 0, none⟩)] w fun e w' => e = .returned (.int .i64 (St.cmpS x k)) ∧ w = w' := by
 have r0 : w.cell? ⟨bk, 0, none⟩ = some (.func (.func 149) #[] #[]) := (hs.cell 0).trans rfl
 have eg := enters_held
 have HK := Lib.hid (fun W => heldK_is x W)
 have HC := Lib.hid (fun W => cmpStr_is x k W)
 clear hs
 go_enter Tryz.func195, Tryz.ntmps195
 go_wp2_with (first | (go_at_fn 149; (with_reducible refine (HK.out _).mono ?_); rintro e w4 ⟨rfl, rfl⟩) | (go_at_call 147; (with_reducible refine (HC.out _).mono ?_); rintro e w4 ⟨rfl, rfl⟩))
 go_ret
 exact ⟨rfl, rfl⟩
theorem bsS_is (L : List ByteArray) (hu : St.Up id L) (h1m : L.length ≤ 1000000) (k : ByteArray) (a : Option Addr) (ca bk : Nat) (t : TypeId) (w : World) (hl : L.length ≤ ca ∧ ca ≤ 9223372036854775807) (hr : RowE St.eS w a L) (hs : Blk w bk #[.func (.func 149) #[] #[], .slice a L.length ca] t) :
  Calls Tryz.prog 194 #[.slice a L.length ca, .string k, .func (.func 195) #[] #[.pointer (some ⟨bk, 0, none⟩)]] w fun e w' => e = .returned (.tuple #[.int .i64 (St.pos id k L), .bool (St.hasK id L k)]) ∧ w = w' := by
 have eg := enters_place
 have HR := Lib.hid hr; have HS := Lib.hid hs; have HU := Lib.hid hu
 obtain ⟨n, hn⟩ : ∃ n, L.length = n := ⟨_, rfl⟩
 have HN := Lib.hid hn
 have HC0 := Lib.hid (fun x => placeK_is x k a L.length ca bk t w hs)
 rw [hn] at hl h1m ⊢
 clear hr hs hu hn
 go_enter Tryz.func194, Tryz.ntmps194
 go_wp2_with fail
 go_loopg [9, 10] n (fun g s7 s8 wr => ∃ lo hi : Nat, s7 = .int .i64 lo ∧ s8 = .int .i64 hi ∧ lo ≤ hi ∧ hi ≤ n ∧ g = 0 + (hi - lo) ∧ w = wr ∧ (∀ i x, L[i]? = some x → i < lo → St.lt x k = true) ∧ (∀ i x, L[i]? = some x → hi ≤ i → St.lt x k = false))
 case atStart => exact ⟨0, n, rfl, rfl, Nat.zero_le _, Nat.le_refl _, by omega, rfl, fun i x _ h => absurd h (Nat.not_lt_zero _), fun i x hx h => by have := (List.getElem?_eq_some_iff.1 hx).1; have := HN.out; omega⟩
 case round =>
  obtain ⟨lo, hi, rfl, rfl, hlh, hin, rfl, rfl, h1, h2⟩ := hrel
  have I1 := Lib.hid h1; have I2 := Lib.hid h2
  clear h1 h2
  by_cases hlt : lo < hi
  ·obtain ⟨x, hx⟩ : ∃ x, L[(lo + hi) / 2]? = some x := ⟨_, List.getElem?_eq_getElem (by rw [HN.out]; omega)⟩
   obtain ⟨b, off, ha, hb, hcell⟩ := HR.out (by rw [HN.out]; omega)
   have c0 : w.cell? ⟨b, off + (lo + hi) / 2, none⟩ = some (.string x) := by have := hcell _ x hx 0 (.string x) rfl; rw [show off + (lo + hi) / 2 * St.eS.k + 0 = off + (lo + hi) / 2 by simp [St.eS]] at this; exact this
   clear hcell
   have HX := Lib.hid hx
   obtain ⟨s, hsg⟩ : ∃ s, St.cmpS x k = s := ⟨_, rfl⟩
   have HC := Lib.hid (HC0.out x)
   rw [hsg] at HC
   have HSG : Hid (s < 0 ↔ St.lt x k = true) := Lib.hid (by rw [← hsg]; exact St.cmpS_lt)
   rw [ha]
   clear hsg hx
   by_cases hyx : s < 0
   ·go_wp2_with (go_at_fn 195; (with_reducible refine HC.out.mono ?_); rintro e w4 ⟨rfl, rfl⟩)
    rw [← ha]
    go_roundg (hi - ((lo + hi) / 2 + 1))
    case measure => omega
    case rel =>
     refine ⟨(lo + hi) / 2 + 1, hi, by rw [show ((lo : Int) + (hi : Int)) / 2 + 1 = (((lo + hi) / 2 + 1 : Nat) : Int) by omega], rfl, by omega, hin, by omega, rfl, fun i y hy hi2 => ?_, I2.out⟩
     by_cases e : i = (lo + hi) / 2
     ·subst e; rw [HX.out] at hy; obtain rfl := Option.some.inj hy; exact HSG.out.1 hyx
     ·exact St.lt_trans (HU.out.lt hy HX.out (by omega)) (HSG.out.1 hyx)
   ·go_wp2_with (go_at_fn 195; (with_reducible refine HC.out.mono ?_); rintro e w4 ⟨rfl, rfl⟩)
    rw [← ha]
    go_roundg ((lo + hi) / 2 - lo)
    case measure => omega
    case rel =>
     refine ⟨lo, (lo + hi) / 2, rfl, by rw [show ((lo : Int) + (hi : Int)) / 2 = (((lo + hi) / 2 : Nat) : Int) by omega], by omega, by omega, by omega, rfl, I1.out, fun i y hy hi2 => ?_⟩
     have hxk : St.lt x k = false := by
      cases h : St.lt x k
      ·rfl
      ·exact absurd (HSG.out.2 h) (by omega)
     by_cases e : i = (lo + hi) / 2
     ·subst e; rw [HX.out] at hy; obtain rfl := Option.some.inj hy; exact hxk
     ·have h3 : St.lt x y = true := HU.out.lt HX.out hy (by omega)
      cases h : St.lt y k
      ·rfl
      ·rw [St.lt_trans h3 h] at hxk; cases hxk
  ·have : hi = lo := by omega
   subst this
   have HP : Hid (St.pos id k L = hi) := Lib.hid (St.pos_is (by rw [HN.out]; exact hin) (fun i x h1 h2 => I1.out i x h1 h2) (fun x hx => I2.out hi x hx (Nat.le_refl _)))
   by_cases hnn : hi < n
   ·obtain ⟨x, hx⟩ : ∃ x, L[hi]? = some x := ⟨_, List.getElem?_eq_getElem (by rw [HN.out]; omega)⟩
    have HH : Hid (St.hasK id L k = St.eq x k) := Lib.hid (by rw [St.has_pos HU.out, HP.out, hx]; rfl)
    obtain ⟨b, off, ha, hb, hcell⟩ := HR.out (by rw [HN.out]; omega)
    have c0 : w.cell? ⟨b, off + hi, none⟩ = some (.string x) := by have := hcell _ x hx 0 (.string x) rfl; rw [show off + hi * St.eS.k + 0 = off + hi by simp [St.eS]] at this; exact this
    clear hcell hx
    have HEQ : Hid ((St.cmpS x k == 0) = St.eq x k) := Lib.hid St.cmpS_eq
    have HC := Lib.hid (HC0.out x)
    have HV : Hid (St.hasK id L k = (St.cmpS x k == 0)) := Lib.hid (HH.out.trans HEQ.out.symm)
    clear HEQ HH
    generalize St.cmpS x k = s at HC HV
    rw [ha]
    by_cases hs0 : s = 0
    ·subst hs0
     go_wp2_with (go_at_fn 195; (with_reducible refine HC.out.mono ?_); rintro e w4 ⟨rfl, rfl⟩)
     go_ret2
     exact ⟨by rw [HP.out, HV.out]; rfl, rfl⟩
    ·have hs1 : (s == 0) = false := by simpa using hs0
     go_wp2_with (go_at_fn 195; (with_reducible refine HC.out.mono ?_); rintro e w4 ⟨rfl, rfl⟩)
     go_ret2
     exact ⟨by rw [HP.out, HV.out, hs1]; rfl, rfl⟩
   ·obtain rfl : n = hi := by omega
    have HH : Hid (St.hasK id L k = false) := Lib.hid (by rw [St.has_pos HU.out, HP.out, List.getElem?_eq_none (by rw [HN.out]; exact Nat.le_refl _)])
    go_wp2_with fail
    go_ret2
    exact ⟨by rw [HP.out, HH.out]; rfl, rfl⟩
theorem placeS_is (L : List ByteArray) (hu : St.Up id L) (h1m : L.length ≤ 1000000) (k : ByteArray) (a : Option Addr) (ca : Nat) (w : World) (hl : L.length ≤ ca ∧ ca ≤ 9223372036854775807) (hr : RowE St.eS w a L) :
  Calls Tryz.prog 150 #[.agg #[.func (.func 149) #[] #[], .slice a L.length ca], .string k] w fun e w' => e = .returned (.tuple #[.int .i64 (St.pos id k L), .bool (St.hasK id L k)]) ∧ Below w.heap.size w w' := by
 obtain ⟨W1, hW1, hP, hz1, hB1⟩ := box w #[.func (.func 149) #[] #[], .slice a L.length ca] 103
 have HW1 := Lib.hid hW1; have HB1 := Lib.hid hB1
 have r1 : W1.cell? ⟨w.heap.size, 1, none⟩ = some (.slice a L.length ca) := (hP.cell 1).trans rfl
 have HC := Lib.hid (bsS_is L hu h1m k a ca w.heap.size _ W1 hl (hr.keep hB1) hP)
 have hmf : ∀ (fn : Fn) (first cap : Array Value) (w : World), (Instr.makeFunc fn first cap).run Tryz.prog w = .ok (.func fn first cap) w := fun _ _ _ _ => rfl
 clear hW1 hP hz1 hB1 hr
 go_enter Tryz.func150, Tryz.ntmps150
 go_wp2_with fail
 rw [HW1.out]
 go_wp2_with (go_at_call 194; (with_reducible refine HC.out.mono ?_); rintro e w4 ⟨rfl, rfl⟩)
 go_ret2
 exact ⟨rfl, HB1.out⟩
theorem hasS_is (L : List ByteArray) (hu : St.Up id L) (h1m : L.length ≤ 1000000) (k : ByteArray) (a : Option Addr) (ca : Nat) (w : World) (hl : L.length ≤ ca ∧ ca ≤ 9223372036854775807) (hr : RowE St.eS w a L) :
  Calls Tryz.prog 63 #[.agg #[.func (.func 149) #[] #[], .slice a L.length ca], .string k] w fun e w' => e = .returned (.bool (St.hasS L k)) ∧ Below w.heap.size w w' := by
 obtain ⟨W1, hW1, hP, hz1, hB1⟩ := box w #[.func (.func 149) #[] #[], .slice a L.length ca] 103
 have HW1 := Lib.hid hW1; have HB1 := Lib.hid hB1
 have r0 : W1.cell? ⟨w.heap.size, 0, none⟩ = some (.func (.func 149) #[] #[]) := (hP.cell 0).trans rfl
 have r1 : W1.cell? ⟨w.heap.size, 1, none⟩ = some (.slice a L.length ca) := (hP.cell 1).trans rfl
 have HC := Lib.hid (placeS_is L hu h1m k a ca W1 hl (hr.keep hB1))
 have e : St.hasS L k = St.hasK id L k := rfl
 rw [e]
 clear hW1 hP hz1 hB1 hr e
 go_enter Tryz.func63, Tryz.ntmps63
 go_wp2_with fail
 rw [HW1.out]
 go_wp2_with (go_at_call 150; (with_reducible refine HC.out.mono ?_); rintro e w4 ⟨rfl, hB4⟩)
 go_ret
 exact ⟨rfl, below_up HB1.out hB4⟩
end Go.Proofs.YthdiccdnggloiaaGreatDoor
namespace Go.Proofs.YthdiccdnggloiaaGreatDoor
open Go.RowKit
namespace St
theorem scan_all {α : Type} {bad : List α → α → Int} {L : List α} : ∀ {pre : List α}, (∀ i x, L[i]? = some x → bad (pre ++ L.take i) x = 0) → scan bad pre L = 0 := by
 induction L with
 | nil => intro pre _; rfl
 | cons y r ih =>
   intro pre h
   have h0 := h 0 y rfl
   rw [List.take_zero, List.append_nil] at h0
   rw [scan_ok h0]
   refine ih fun i x hx => ?_
   have := h (i + 1) x (by simpa using hx)
   rwa [List.take_succ_cons, List.append_cons] at this
theorem scan_iff {α : Type} {bad : List α → α → Int} {L : List α} : scan bad [] L = 0 ↔ ∀ i x, L[i]? = some x → bad (L.take i) x = 0 := by
 constructor
 ·intro h i x hx
  obtain ⟨hlt, hg⟩ := List.getElem?_eq_some_iff.1 hx
  have h1 := scan_0 h (L.take i) (L.drop (i + 1)) x (by
   conv => lhs; rw [← List.take_append_drop i L]
   rw [List.drop_eq_getElem_cons hlt, hg])
  rwa [List.nil_append] at h1
 ·intro h
  exact scan_all fun i x hx => by rw [List.nil_append]; exact h i x hx
theorem rise_iff {α : Type} {bad : List α → α → Int} {L : List α} (good : α → Prop) (before : α → α → Bool) (tr : ∀ a b c, a ∈ L → b ∈ L → c ∈ L → before a b = true → before b c = true → before a c = true)
  (hb : ∀ pre x, x ∈ L → (bad pre x = 0 ↔ good x ∧ ∀ p, pre.getLast? = some p → before p x = true)) :
  scan bad [] L = 0 ↔ (∀ x ∈ L, good x) ∧ L.Pairwise (fun x y => before x y = true) := by
 rw [scan_iff]
 constructor
 ·intro h
  refine ⟨fun x hx => ?_, ?_⟩
  ·obtain ⟨i, hi⟩ := List.getElem?_of_mem hx
   exact ((hb _ _ hx).1 (h i x hi)).1
  ·rw [List.pairwise_iff_getElem]
   have step : ∀ k, (hk : k + 1 < L.length) → before L[k] L[k + 1] = true := by
    intro k hk
    exact ((hb _ _ (List.getElem_mem hk)).1 (h (k + 1) _ (List.getElem?_eq_getElem hk))).2 _ (last_take (List.getElem?_eq_getElem (by omega)))
   intro i j hi hj hij
   induction j with
   | zero => omega
   | succ j ih =>
     by_cases e : i = j
     ·subst e; exact step i hj
     ·exact tr _ _ _ (List.getElem_mem hi) (List.getElem_mem _) (List.getElem_mem hj) (ih (by omega) (by omega)) (step j hj)
 ·rintro ⟨h1, h2⟩ i x hx
  have hm := List.mem_of_getElem? hx
  refine (hb _ _ hm).2 ⟨h1 x hm, fun p hp => ?_⟩
  obtain ⟨hlt, hg⟩ := List.getElem?_eq_some_iff.1 hx
  by_cases h0 : i = 0
  ·subst h0; rw [last_zero] at hp; cases hp
  ·obtain ⟨q, hq, hl⟩ := last_at hlt (by omega)
   rw [hl] at hp
   obtain rfl := Option.some.inj hp
   obtain ⟨hlt2, hg2⟩ := List.getElem?_eq_some_iff.1 hq
   have := List.pairwise_iff_getElem.1 h2 (i - 1) i (by omega) hlt (by omega)
   rwa [hg, hg2] at this
theorem held_iff {F : List Fil} {H : List ByteArray} : scan (heldE F) [] H = 0 ↔ (∀ d ∈ H, kindOf F d = 1) ∧ Up id H := by
 refine rise_iff (fun d => kindOf F d = 1) (fun a b => lt a b) (fun a b c _ _ _ => lt_trans) fun pre x _ => ?_
 unfold heldE
 by_cases hk : kindOf F x = 1
 ·rw [if_pos hk]
  cases hp : pre.getLast? with
  | none => simp [hk]
  | some p =>
    simp only
    rw [le_not]
    cases hl : lt p x <;> simp [hk, hl]
 ·rw [if_neg hk]; simp [hk]
theorem bin_iff {F : List Fil} {H : List ByteArray} {B : List Gon} : scan (binE F H) [] B = 0 ↔ (∀ g ∈ B, kindOf F g.dig = 1 ∧ binR H g = 0) ∧ Up (·.dig) B := by
 refine rise_iff (fun g => kindOf F g.dig = 1 ∧ binR H g = 0) (fun a b => lt a.dig b.dig) (fun a b c _ _ _ => lt_trans) fun pre x _ => ?_
 unfold binE
 by_cases hk : kindOf F x.dig = 1
 ·rw [if_pos hk]
  cases hp : pre.getLast? with
  | none => simp [hk]
  | some p =>
    simp only
    rw [le_not]
    cases hl : lt p.dig x.dig <;> simp [hk, hl]
 ·rw [if_neg hk]; simp [hk]
theorem files_iff {F : List Fil} : scan fileE [] F = 0 ↔ (∀ f ∈ F, Fd.fileB f.dig = true ∧ fileR f = 0) ∧ Up (·.dig) F := by
 refine rise_iff (fun f => Fd.fileB f.dig = true ∧ fileR f = 0) (fun a b => lt a.dig b.dig) (fun a b c _ _ _ => lt_trans) fun pre x _ => ?_
 unfold fileE
 by_cases hk : Fd.fileB x.dig = true
 ·rw [if_pos hk]
  cases hp : pre.getLast? with
  | none => simp [hk]
  | some p =>
    simp only
    rw [le_not]
    cases hl : lt p.dig x.dig <;> simp [hk, hl]
 ·rw [if_neg hk]; simp [hk]
theorem ahead_trans {a b c : Cop} (h1 : ahead a b = true) (h2 : ahead b c = true) : ahead a c = true := by
 unfold ahead at *
 simp only [Bool.or_eq_true, Bool.and_eq_true] at *
 rcases h1 with h1 | ⟨h1, h1'⟩
 ·rcases h2 with h2 | ⟨h2, h2'⟩
  ·exact .inl (lt_trans h1 h2)
  ·rw [← eq_iff.1 h2]; exact .inl h1
 ·rcases h2 with h2 | ⟨h2, h2'⟩
  ·rw [eq_iff.1 h1]; exact .inl h2
  ·exact .inr ⟨eq_iff.2 ((eq_iff.1 h1).trans (eq_iff.1 h2)), lt_trans h1' h2'⟩
theorem copies_iff {T : List Tir} {F : List Fil} {C : List Cop} : scan (copyE T F) [] C = 0 ↔ (∀ c ∈ C, (fileOf F c.dig).isSome = true ∧ hasTier T c.tier = true ∧ isMom c.asked = true) ∧ C.Pairwise (fun a b => ahead a b = true) := by
 refine rise_iff (fun c => (fileOf F c.dig).isSome = true ∧ hasTier T c.tier = true ∧ isMom c.asked = true) ahead (fun a b c _ _ _ => ahead_trans) fun pre x _ => ?_
 unfold copyE
 by_cases hk : (fileOf F x.dig).isSome = true ∧ hasTier T x.tier = true
 ·rw [if_pos hk]
  obtain ⟨hk1, hk2⟩ := hk
  cases hp : pre.getLast? with
  | none => cases hm : isMom x.asked <;> simp [hk1, hk2, hm]
  | some p =>
    simp only
    cases hl : ahead p x <;> cases hm : isMom x.asked <;> simp [hk1, hk2, hl, hm]
 ·rw [if_neg hk]
  constructor
  ·intro h; cases h
  ·rintro ⟨⟨g1, g2, _⟩, _⟩; exact absurd ⟨g1, g2⟩ hk
structure Right (s : Sto) : Prop where
 sizes : sizesE s = 0
 tiers : scan tierE [] s.tiers = 0
 dig : ∀ f ∈ s.files, Fd.fileB f.dig = true ∧ fileR f = 0
 fup : Up (·.dig) s.files
 frm : ∀ f ∈ s.files, f.kind ≠ 1 → kindOf s.files f.frm = 1
 cop : ∀ c ∈ s.copies, (fileOf s.files c.dig).isSome = true ∧ hasTier s.tiers c.tier = true ∧ isMom c.asked = true
 cup : s.copies.Pairwise (fun a b => ahead a b = true)
 room : ∀ t ∈ s.tiers, 0 ≤ t.room - used s.files t.name s.copies
 held : ∀ d ∈ s.held, kindOf s.files d = 1
 hup : Up id s.held
 bin : ∀ g ∈ s.bin, kindOf s.files g.dig = 1 ∧ binR s.held g = 0
 bup : Up (·.dig) s.bin
theorem from_iff {L M : List Fil} : scan (fromE L) [] M = 0 ↔ ∀ f ∈ M, f.kind ≠ 1 → kindOf L f.frm = 1 := by
 rw [scan_iff]
 constructor
 ·intro h f hf hk
  obtain ⟨i, hi⟩ := List.getElem?_of_mem hf
  have := h i f hi
  unfold fromE at this
  by_cases g : kindOf L f.frm = 1
  ·exact g
  ·rw [if_pos ⟨hk, g⟩] at this; cases this
 ·intro h i f hi
  unfold fromE
  rw [if_neg]
  rintro ⟨h1, h2⟩
  exact h2 (h f (List.mem_of_getElem? hi) h1)
theorem full_iff {F : List Fil} {C : List Cop} {T : List Tir} : scan (fullE F C) [] T = 0 ↔ ∀ t ∈ T, 0 ≤ t.room - used F t.name C := by
 rw [scan_iff]
 constructor
 ·intro h t ht
  obtain ⟨i, hi⟩ := List.getElem?_of_mem ht
  have := h i t hi
  unfold fullE at this
  by_cases g : t.room - used F t.name C < 0
  ·rw [if_pos g] at this; cases this
  ·omega
 ·intro h i t hi
  unfold fullE
  rw [if_neg]
  have := h t (List.mem_of_getElem? hi)
  omega
theorem err_iff {s : Sto} : err s = 0 ↔ Right s := by
 unfold err
 constructor
 ·intro h
  by_cases h1 : sizesE s = 0
  ·rw [if_pos h1] at h
   by_cases h2 : scan tierE [] s.tiers = 0
   ·rw [if_pos h2] at h
    by_cases h3 : filesE s.files = 0
    ·rw [if_pos h3] at h
     by_cases h4 : copiesE s = 0
     ·rw [if_pos h4] at h
      unfold filesE at h3
      by_cases h5 : scan fileE [] s.files = 0
      ·rw [if_pos h5] at h3
       unfold copiesE at h4
       by_cases h6 : scan (copyE s.tiers s.files) [] s.copies = 0
       ·rw [if_pos h6] at h4
        unfold keptE at h
        by_cases h7 : scan (heldE s.files) [] s.held = 0
        ·rw [if_pos h7] at h
         exact ⟨h1, h2, (files_iff.1 h5).1, (files_iff.1 h5).2, from_iff.1 h3, (copies_iff.1 h6).1, (copies_iff.1 h6).2, full_iff.1 h4, (held_iff.1 h7).1, (held_iff.1 h7).2, (bin_iff.1 h).1, (bin_iff.1 h).2⟩
        ·rw [if_neg h7] at h; exact absurd h h7
       ·rw [if_neg h6] at h4; exact absurd h4 h6
      ·rw [if_neg h5] at h3; exact absurd h3 h5
     ·rw [if_neg h4] at h; exact absurd h h4
    ·rw [if_neg h3] at h; exact absurd h h3
   ·rw [if_neg h2] at h; exact absurd h h2
  ·rw [if_neg h1] at h; exact absurd h h1
 ·intro r
  have h5 := files_iff.2 ⟨r.dig, r.fup⟩
  have h3 : filesE s.files = 0 := by unfold filesE; rw [if_pos h5]; exact from_iff.2 r.frm
  have h6 := copies_iff.2 ⟨r.cop, r.cup⟩
  have h4 : copiesE s = 0 := by unfold copiesE; rw [if_pos h6]; exact full_iff.2 r.room
  have h7 := held_iff.2 ⟨r.held, r.hup⟩
  rw [if_pos r.sizes, if_pos r.tiers, if_pos h3, if_pos h4]
  unfold keptE
  rw [if_pos h7]
  exact bin_iff.2 ⟨r.bin, r.bup⟩
end St
namespace St
theorem up_ext {α : Type} {key : α → ByteArray} : ∀ {L M : List α}, Up key L → Up key M → (∀ x, x ∈ L ↔ x ∈ M) → L = M
 | [], M, _, _, h => by
   cases M with
   | nil => rfl
   | cons y M => have := (h y).2 (by simp); cases this
 | x :: L, [], _, _, h => by have := (h x).1 (by simp); cases this
 | x :: L, y :: M, hL, hM, h => by
   obtain ⟨l1, l2⟩ := List.pairwise_cons.1 hL
   obtain ⟨m1, m2⟩ := List.pairwise_cons.1 hM
   have hxy : x = y := by
    rcases List.mem_cons.1 ((h x).1 (by simp)) with e | hx
    ·exact e
    ·rcases List.mem_cons.1 ((h y).2 (by simp)) with e | hy
     ·exact e.symm
     ·have := lt_trans (l1 y hy) (m1 x hx)
      rw [lt_irr] at this; cases this
   subst hxy
   have : L = M := up_ext l2 m2 fun z => by
    constructor
    ·intro hz
     rcases List.mem_cons.1 ((h z).1 (by simp [hz])) with e | g
     ·subst e; have := l1 z hz; rw [lt_irr] at this; cases this
     ·exact g
    ·intro hz
     rcases List.mem_cons.1 ((h z).2 (by simp [hz])) with e | g
     ·subst e; have := m1 z hz; rw [lt_irr] at this; cases this
     ·exact g
   rw [this]
theorem Up.sub {α : Type} {key : α → ByteArray} {L M : List α} (h : Up key M) (hs : L.Sublist M) : Up key L := List.Pairwise.sublist hs h
theorem hasK_iff {α : Type} {key : α → ByteArray} {L : List α} {k : ByteArray} : hasK key L k = true ↔ ∃ x ∈ L, key x = k := by
 unfold hasK
 rw [List.any_eq_true]
 exact ⟨fun ⟨x, h1, h2⟩ => ⟨x, h1, eq_iff.1 h2⟩, fun ⟨x, h1, h2⟩ => ⟨x, h1, eq_iff.2 h2⟩⟩
theorem hasK_at {α : Type} {key : α → ByteArray} {L : List α} {k : ByteArray} (h : Up key L) (hk : hasK key L k = true) : ∃ x, L[pos key k L]? = some x ∧ key x = k := by
 rw [has_pos h] at hk
 cases hx : L[pos key k L]? with
 | none => rw [hx] at hk; cases hk
 | some x => rw [hx] at hk; exact ⟨x, rfl, eq_iff.1 hk⟩
theorem split_pos {α : Type} {key : α → ByteArray} {L : List α} (h : Up key L) (k : ByteArray) (hk : hasK key L k = false) : (∀ x ∈ L.take (pos key k L), lt (key x) k = true) ∧ (∀ x ∈ L.drop (pos key k L), lt k (key x) = true) := by
 constructor
 ·intro x hx
  obtain ⟨i, hi⟩ := List.getElem?_of_mem hx
  rw [List.getElem?_take] at hi
  split at hi
  ·rename_i hlt; exact pos_before hi hlt
  ·cases hi
 ·intro x hx
  obtain ⟨i, hi⟩ := List.getElem?_of_mem hx
  rw [List.getElem?_drop] at hi
  have h1 := pos_from (k := k) h hi (by omega)
  have h2 : eq (key x) k = false := by
   cases he : eq (key x) k with
   | false => rfl
   | true => rw [hasK_iff.2 ⟨x, List.mem_of_getElem? hi, eq_iff.1 he⟩] at hk; cases hk
  cases h3 : lt k (key x) with
  | true => rfl
  | false =>
    have := Sx.less_tri _ _ h1 h3
    unfold eq at h2
    rw [this] at h2; simp at h2
theorem up_wth {α : Type} {key : α → ByteArray} {L : List α} (h : Up key L) (x : α) : Up key (wth key x L) := by
 unfold wth
 split
 ·rename_i hk
  obtain ⟨y, hy, hyk⟩ := hasK_at h hk
  unfold Up
  rw [List.pairwise_iff_getElem]
  intro i j hi hj hij
  rw [List.length_set] at hi hj
  have hp := List.pairwise_iff_getElem.1 h i j hi hj hij
  obtain ⟨hlt, hg⟩ := List.getElem?_eq_some_iff.1 hy
  rw [List.getElem_set, List.getElem_set]
  split
  ·rename_i e
   split
   ·omega
   ·subst e; rw [hg, hyk] at hp; exact hp
  ·split
   ·rename_i e; subst e; rw [hg, hyk] at hp; exact hp
   ·exact hp
 ·rename_i hk
  obtain ⟨h1, h2⟩ := split_pos h (key x) (by simpa using hk)
  unfold Up
  rw [List.pairwise_append]
  refine ⟨h.sub (List.take_sublist _ _), List.pairwise_cons.2 ⟨fun y hy => h2 y hy, h.sub (List.drop_sublist _ _)⟩, fun a ha b hb => ?_⟩
  rcases List.mem_cons.1 hb with rfl | hb
  ·exact h1 a ha
  ·exact lt_trans (h1 a ha) (h2 b hb)
theorem mem_wth {α : Type} {key : α → ByteArray} {L : List α} (h : Up key L) (x y : α) : y ∈ wth key x L ↔ y = x ∨ (y ∈ L ∧ key y ≠ key x) := by
 unfold wth
 split
 ·rename_i hk
  obtain ⟨z, hz, hzk⟩ := hasK_at h hk
  obtain ⟨hlt, hg⟩ := List.getElem?_eq_some_iff.1 hz
  constructor
  ·intro hy
   obtain ⟨i, hi⟩ := List.getElem?_of_mem hy
   rw [List.getElem?_set] at hi
   split at hi
   ·first | exact .inl (Option.some.inj hi).symm | (rw [if_pos hlt] at hi; exact .inl (Option.some.inj hi).symm)
   ·rename_i hne
    refine .inr ⟨List.mem_of_getElem? hi, fun e => ?_⟩
    rcases Nat.lt_trichotomy i (pos key (key x) L) with h1 | h1 | h1
    ·have := h.lt hi hz h1; rw [e, hzk, lt_irr] at this; cases this
    ·exact hne h1.symm
    ·have := h.lt hz hi h1; rw [e, hzk, lt_irr] at this; cases this
  ·rintro (rfl | ⟨hy, hne⟩)
   ·refine List.mem_of_getElem? (i := pos key (key y) L) ?_
    rw [List.getElem?_set, if_pos rfl]
    first | rfl | exact if_pos hlt | (simp [hlt])
   ·obtain ⟨i, hi⟩ := List.getElem?_of_mem hy
    refine List.mem_of_getElem? (i := i) ?_
    rw [List.getElem?_set, if_neg]
    ·exact hi
    ·intro e; subst e; rw [hz] at hi; obtain rfl := Option.some.inj hi; exact hne hzk
 ·rename_i hk
  have hno : ∀ z ∈ L, key z ≠ key x := fun z hz e => hk (hasK_iff.2 ⟨z, hz, e⟩)
  rw [List.mem_append, List.mem_cons]
  constructor
  ·rintro (hy | rfl | hy)
   ·exact .inr ⟨List.mem_of_mem_take hy, hno y (List.mem_of_mem_take hy)⟩
   ·exact .inl rfl
   ·exact .inr ⟨List.mem_of_mem_drop hy, hno y (List.mem_of_mem_drop hy)⟩
  ·rintro (rfl | ⟨hy, _⟩)
   ·exact .inr (.inl rfl)
   ·have : y ∈ L.take (pos key (key x) L) ++ L.drop (pos key (key x) L) := by rw [List.take_append_drop]; exact hy
    rcases List.mem_append.1 this with g | g
    ·exact .inl g
    ·exact .inr (.inr g)
theorem up_wo {α : Type} {key : α → ByteArray} {L : List α} (h : Up key L) (k : ByteArray) : Up key (wo key k L) := by
 unfold wo
 split
 ·exact h.sub (List.eraseIdx_sublist _ _)
 ·exact h
theorem mem_wo {α : Type} {key : α → ByteArray} {L : List α} (h : Up key L) (k : ByteArray) (y : α) : y ∈ wo key k L ↔ y ∈ L ∧ key y ≠ k := by
 unfold wo
 split
 ·rename_i hk
  obtain ⟨z, hz, hzk⟩ := hasK_at h hk
  rw [List.mem_eraseIdx_iff_getElem?]
  constructor
  ·rintro ⟨i, hne, hi⟩
   refine ⟨List.mem_of_getElem? hi, fun e => ?_⟩
   rcases Nat.lt_trichotomy i (pos key k L) with h1 | h1 | h1
   ·have := h.lt hi hz h1; rw [e, hzk, lt_irr] at this; cases this
   ·exact hne h1
   ·have := h.lt hz hi h1; rw [e, hzk, lt_irr] at this; cases this
  ·rintro ⟨hy, hne⟩
   obtain ⟨i, hi⟩ := List.getElem?_of_mem hy
   exact ⟨i, fun e => by subst e; rw [hz] at hi; obtain rfl := Option.some.inj hi; exact hne hzk, hi⟩
 ·rename_i hk
  exact ⟨fun hy => ⟨hy, fun e => hk (hasK_iff.2 ⟨y, hy, e⟩)⟩, fun hy => hy.1⟩
theorem wo_filter {α : Type} {key : α → ByteArray} {L : List α} (h : Up key L) (k : ByteArray) : wo key k L = L.filter fun x => !eq (key x) k := by
 refine up_ext (up_wo h k) (h.sub List.filter_sublist) fun y => ?_
 rw [mem_wo h, List.mem_filter]
 constructor
 ·rintro ⟨h1, h2⟩
  exact ⟨h1, by cases he : eq (key y) k with
   | false => rfl
   | true => exact absurd (eq_iff.1 he) h2⟩
 ·rintro ⟨h1, h2⟩
  exact ⟨h1, fun e => by rw [eq_iff.2 e] at h2; cases h2⟩
theorem up_nodup {α : Type} {key : α → ByteArray} {L : List α} (h : Up key L) : (L.map key).Nodup := by
 unfold List.Nodup
 rw [List.pairwise_map]
 exact h.imp fun {a b} hab e => by rw [e, lt_irr] at hab; cases hab
end St
namespace St
def gdig (g : Gon) : ByteArray := g.dig
def kept (s : Sto) (d : ByteArray) : Bool := hasK id s.held d || hasK gdig s.bin d
def needed (s : Sto) (f : Fil) : Bool := if f.kind = 1 then kept s f.dig else if f.kind = 2 then kept s f.frm else false
def neededL (s : Sto) : List ByteArray := (s.files.filter (needed s)).map (·.dig)
def stays (s : Sto) (day : Int) (g : Gon) : Bool := !decide (g.day + s.wait ≤ day)
def empty (s : Sto) (day : Int) : Sto := { s with bin := s.bin.filter (stays s day) }
def hold (s : Sto) (d : ByteArray) : Sto := { s with held := wth id d s.held, bin := wo gdig d s.bin }
theorem few_of_sub {α : Type} : ∀ {l m : List α}, l.Nodup → (∀ x ∈ l, x ∈ m) → l.length ≤ m.length
 | [], m, _, _ => by simp
 | x :: l, m, hn, hs => by
   obtain ⟨h1, h2⟩ := List.nodup_cons.1 hn
   obtain ⟨a, b, rfl⟩ := List.append_of_mem (hs x (by simp))
   have := few_of_sub (l := l) (m := a ++ b) h2 fun y hy => by
    have hy2 := hs y (by simp [hy])
    have hne : y ≠ x := fun e => h1 (e ▸ hy)
    simp only [List.mem_append, List.mem_cons] at hy2 ⊢
    rcases hy2 with g | g | g
    ·exact .inl g
    ·exact absurd g hne
    ·exact .inr g
   simp only [List.length_append, List.length_cons] at this ⊢
   omega
theorem kind_mem {F : List Fil} {d : ByteArray} (h : kindOf F d = 1) : ∃ f, fileOf F d = some f ∧ f ∈ F ∧ f.dig = d ∧ f.kind = 1 := by
 unfold kindOf at h
 cases hf : fileOf F d with
 | none => rw [hf] at h; cases h
 | some f =>
   rw [hf] at h
   obtain ⟨h1, h2⟩ := find_mem hf
   exact ⟨f, rfl, h1, eq_iff.1 h2, h⟩
theorem sizes_iff {s : Sto} : sizesE s = 0 ↔ (inB s.least 1 8 = true ∧ inB s.wait 0 1000 = true) ∧ s.tiers.length ≤ 8 ∧ s.files.length ≤ 500 ∧ s.copies.length ≤ 4000 ∧ s.held.length ≤ 500 ∧ s.bin.length ≤ 500 := by
 unfold sizesE
 split
 ·rename_i h
  split
  ·rename_i g
   constructor
   ·intro e; cases e
   ·rintro ⟨_, h1, h2, h3, h4, h5⟩; omega
  ·rename_i g
   constructor
   ·intro _; exact ⟨h, by omega, by omega, by omega, by omega, by omega⟩
   ·intro _; rfl
 ·rename_i h
  constructor
  ·intro e; cases e
  ·intro e; exact absurd e.1 h
end St
namespace St
def fdig (f : Fil) : ByteArray := f.dig
def ckey (c : Cop) : ByteArray := key c.dig c.tier
def hasCopy (s : Sto) (d t : ByteArray) : Bool := s.copies.any fun c => eq c.dig d && eq c.tier t
def askedOf (s : Sto) (d t : ByteArray) (now : Int) : Int := match s.copies.find? (fun c => eq c.dig d && eq c.tier t) with | some c => c.asked | none => now
def roomOf (L : List Tir) (n : ByteArray) : Int := match L.find? (fun t => eq t.name n) with | some t => t.room | none => 0
def freeIn (s : Sto) (n : ByteArray) : Int := roomOf s.tiers n - used s.files n s.copies
def imp (s : Sto) (f : Fil) (tier : ByteArray) (now : Int) : Sto :=
 { s with files := wth fdig f s.files, copies := wth ckey ⟨f.dig, tier, true, askedOf s f.dig tier now⟩ s.copies, held := if f.kind = 1 then wth id f.dig s.held else s.held, bin := if f.kind = 1 then wo gdig f.dig s.bin else s.bin }
theorem dig16 {d : ByteArray} (h : Fd.fileB d = true) : d.size = 16 := by
 unfold Fd.fileB at h
 exact (of_decide_eq_true h).1
theorem cop_dig {s : Sto} (r : Right s) {c : Cop} (hc : c ∈ s.copies) : c.dig.size = 16 := by
 obtain ⟨h1, _⟩ := r.cop c hc
 cases hf : fileOf s.files c.dig with
 | none => rw [hf] at h1; cases h1
 | some f =>
   obtain ⟨h2, h3⟩ := find_mem hf
   rw [← eq_iff.1 h3]
   exact dig16 (r.dig f h2).1
theorem ahead_key {a b : Cop} (h : a.dig.size = b.dig.size) : ahead a b = lt (ckey a) (ckey b) := by
 unfold ahead ckey
 rw [lt_key h]
theorem cop_up {s : Sto} (r : Right s) : Up ckey s.copies := by
 unfold Up
 refine List.Pairwise.imp_of_mem (fun {a b} ha hb h => ?_) r.cup
 rwa [← ahead_key ((cop_dig r ha).trans (cop_dig r hb).symm)]
theorem hasCopy_key {s : Sto} (r : Right s) {d t : ByteArray} (hd : d.size = 16) : hasCopy s d t = hasK ckey s.copies (key d t) := by
 unfold hasCopy hasK
 rw [Bool.eq_iff_iff, List.any_eq_true, List.any_eq_true]
 constructor
 ·rintro ⟨c, hc, h⟩
  exact ⟨c, hc, by unfold ckey; rw [eq_key ((cop_dig r hc).trans hd.symm)]; exact h⟩
 ·rintro ⟨c, hc, h⟩
  refine ⟨c, hc, ?_⟩
  unfold ckey at h
  rwa [eq_key ((cop_dig r hc).trans hd.symm)] at h
theorem hasK_not {α : Type} {key : α → ByteArray} {L : List α} {k : ByteArray} (h : hasK key L k = false) (x : α) (hx : x ∈ L) : key x ≠ k := fun e => by rw [hasK_iff.2 ⟨x, hx, e⟩] at h; cases h
theorem wth_new {α : Type} {key : α → ByteArray} {L : List α} {x : α} (h : hasK key L (key x) = false) : wth key x L = L.take (pos key (key x) L) ++ x :: L.drop (pos key (key x) L) := by unfold wth; rw [if_neg (by rw [h]; decide)]
end St
end Go.Proofs.YthdiccdnggloiaaGreatDoor
namespace Go.Proofs.YthdiccdnggloiaaGreatDoor
namespace Tx
open Go.Lib
abbrev mk (l : List UInt8) : ByteArray := ⟨l.toArray⟩
theorem mk_size (a : List UInt8) : (mk a).size = a.length := by simp [ByteArray.size]
theorem mk_toList (a : List UInt8) : (mk a).data.toList = a := by simp
def dl (n : Nat) : Nat := (decDigits n).length
def pad (n k : Nat) : List UInt8 := List.replicate (k - dl n) 48 ++ decDigits n
def clock (s : Nat) : List UInt8 := pad (s / 3600) 2 ++ [58] ++ pad (s / 60 % 60) 2 ++ [58] ++ pad (s % 60) 2
end Tx
namespace Dg
open Go.Lib
def valF (n : Nat) : List UInt8 → Nat
 | [] => n
 | b :: r => valF (10 * n + (b.toNat - 48)) r
def val (l : List UInt8) : Nat := valF 0 l
def digits : List UInt8 := [48, 49, 50, 51, 52, 53, 54, 55, 56, 57]
theorem dropWhile_nil {α : Type} (p : α → Bool) : ∀ l : List α, l.dropWhile p = [] ↔ l.all p = true
 | [] => by simp
 | a :: r => by
   rw [List.dropWhile_cons, List.all_cons]
   cases hp : p a
   ·simp
   ·simpa using dropWhile_nil p r
theorem dropWhile_head {α : Type} (p : α → Bool) : ∀ l : List α, l.dropWhile p ≠ [] → (l.dropWhile p).all p = false
 | [], h => absurd rfl h
 | a :: r, h => by
   rw [List.dropWhile_cons] at h ⊢
   cases hp : p a
   ·simp [hp]
   ·rw [hp, if_pos rfl] at h; rw [if_pos rfl]; exact dropWhile_head p r h
end Dg
end Go.Proofs.YthdiccdnggloiaaGreatDoor
