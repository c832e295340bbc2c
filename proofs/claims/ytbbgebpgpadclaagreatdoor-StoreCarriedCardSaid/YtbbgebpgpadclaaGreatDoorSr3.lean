/- Parts of the proof, no condition: StMath, EventsMath, FdMath, StErr, Less, StKey, StRow, StFil, StRight, StSet, StHeld, StImp, StText, TxMath, SplMath, DigMath, StRpM, StIn. -/
import Derived.Test.YtbbgebpgpadclaaGreatDoorSr2
import Derived.Test.YtbbgebpgpadclaaGreatDoorSr1
import Derived.Lib.Join
import Derived.Lib.ItoaLen
import Derived.Lib.Repeat
import Derived.Test.YtbbgebpgpadclaaGreatDoorProg
import Derived.Lib.Split
import Derived.Lib.Atoi
import Derived.Lib.SlTrimSet
import Derived.Maps.OwnSet
import Derived.Maps.OwnOps
import Derived.StringKeys
set_option linter.unusedSimpArgs false
set_option linter.unusedVariables false
namespace Go.Proofs.YtbbgebpgpadclaaGreatDoor
open Go.RowKit
structure Tir where
 name : ByteArray
 room : Int
 cost : Int
 away : Bool
structure Fil where
 dig : ByteArray
 size : Int
 kind : Int
 frm : ByteArray
structure Cop where
 dig : ByteArray
 tier : ByteArray
 good : Bool
 asked : Int
structure Gon where
 dig : ByteArray
 day : Int
structure Sto where
 least : Int
 wait : Int
 tiers : List Tir
 files : List Fil
 copies : List Cop
 held : List ByteArray
 bin : List Gon
structure StA where
 ta : Option Addr
 tc : Nat
 fa : Option Addr
 fc : Nat
 ca : Option Addr
 cc : Nat
 ha : Option Addr
 hc : Nat
 ba : Option Addr
 bc : Nat
namespace St
def eT : Enc Tir := ⟨4, fun t => [.string t.name, .int .i64 t.room, .int .i64 t.cost, .bool t.away], fun _ => rfl, fun t u h => by simp only [List.mem_cons, List.not_mem_nil, or_false] at h; rcases h with rfl | rfl | rfl | rfl <;> rfl⟩
def eF : Enc Fil := ⟨4, fun f => [.string f.dig, .int .i64 f.size, .int .i64 f.kind, .string f.frm], fun _ => rfl, fun t u h => by simp only [List.mem_cons, List.not_mem_nil, or_false] at h; rcases h with rfl | rfl | rfl | rfl <;> rfl⟩
def eC : Enc Cop := ⟨4, fun c => [.string c.dig, .string c.tier, .bool c.good, .int .i64 c.asked], fun _ => rfl, fun t u h => by simp only [List.mem_cons, List.not_mem_nil, or_false] at h; rcases h with rfl | rfl | rfl | rfl <;> rfl⟩
def eS : Enc ByteArray := ⟨1, fun s => [.string s], fun _ => rfl, fun t u h => by simp only [List.mem_cons, List.not_mem_nil, or_false] at h; subst h; rfl⟩
def eG : Enc Gon := ⟨2, fun g => [.string g.dig, .int .i64 g.day], fun _ => rfl, fun t u h => by simp only [List.mem_cons, List.not_mem_nil, or_false] at h; rcases h with rfl | rfl <;> rfl⟩
def eq (a b : ByteArray) : Bool := a.toList == b.toList
def le (a b : ByteArray) : Bool := Op.bytesLess a.toList b.toList || a.toList == b.toList
def lt (a b : ByteArray) : Bool := Op.bytesLess a.toList b.toList
def idx {α : Type} (p : α → Bool) : List α → Nat → Int
 | [], _ => -1
 | x :: r, i => if p x = true then (i : Int) else idx p r (i + 1)
theorem idx_none {α : Type} {p : α → Bool} {L : List α} {i : Nat} (h : ∀ x, x ∈ L → p x = false) : idx p L i = -1 := by
 induction L generalizing i with
 | nil => rfl
 | cons x r ih => rw [idx, if_neg (by rw [h x (by simp)]; decide)]; exact ih (fun y hy => h y (by simp [hy]))
theorem idx_neg {α : Type} {p : α → Bool} {L : List α} {i : Nat} : idx p L i < 0 ↔ ∀ x, x ∈ L → p x = false := by
 constructor
 ·intro h
  induction L generalizing i with
  | nil => intro x hx; simp at hx
  | cons y r ih =>
    rw [idx] at h
    split at h
    ·omega
    ·rename_i hn
     intro x hx
     rcases List.mem_cons.1 hx with rfl | hx
     ·simpa using hn
     ·exact ih h x hx
 ·intro h; rw [idx_none h]; omega
def scan {α : Type} (bad : List α → α → Int) : List α → List α → Int
 | _, [] => 0
 | pre, x :: r => if bad pre x = 0 then scan bad (pre ++ [x]) r else bad pre x
theorem scan_ok {α : Type} {bad : List α → α → Int} {pre r : List α} {x : α} (h : bad pre x = 0) : scan bad pre (x :: r) = scan bad (pre ++ [x]) r := by rw [scan, if_pos h]
theorem scan_bad {α : Type} {bad : List α → α → Int} {pre r : List α} {x : α} (h : bad pre x ≠ 0) : scan bad pre (x :: r) = bad pre x := by rw [scan, if_neg h]
theorem scan_0 {α : Type} {bad : List α → α → Int} {L : List α} : ∀ {pre : List α}, scan bad pre L = 0 → ∀ (A B : List α) (x : α), L = A ++ x :: B → bad (pre ++ A) x = 0 := by
 induction L with
 | nil => intro pre _ A B x h; simp at h
 | cons y r ih =>
   intro pre h A B x he
   by_cases hb : bad pre y = 0
   ·rw [scan_ok hb] at h
    cases A with
    | nil =>
      rw [List.nil_append] at he
      obtain ⟨rfl, _⟩ := List.cons.inj he
      rw [List.append_nil]; exact hb
    | cons z A =>
      rw [List.cons_append] at he
      obtain ⟨rfl, he2⟩ := List.cons.inj he
      have := ih h A B x he2
      rwa [List.append_assoc] at this
   ·rw [scan_bad hb] at h; exact absurd h hb
def tierAt (L : List Tir) (name : ByteArray) : Int := idx (fun t => eq t.name name) L 0
def fileOf (L : List Fil) (d : ByteArray) : Option Fil := L.find? fun f => eq f.dig d
def kindOf (L : List Fil) (d : ByteArray) : Int := match fileOf L d with | some f => f.kind | none => 0
def sizeOf (L : List Fil) (d : ByteArray) : Int := match fileOf L d with | some f => f.size | none => 0
def used (F : List Fil) (name : ByteArray) : List Cop → Int
 | [] => 0
 | c :: r => (if eq c.tier name = true then sizeOf F c.dig else 0) + used F name r
def isMom (n : Int) : Bool := decide (0 ≤ n ∧ n ≤ 6311433599)
end St
end Go.Proofs.YtbbgebpgpadclaaGreatDoor
namespace Go.Proofs.YtbbgebpgpadclaaGreatDoor.Ev
def mom (n : Int) : Bool := decide (0 ≤ n ∧ n ≤ 6311433599)
theorem mom_iff (n : Int) : mom n = true ↔ 0 ≤ n ∧ n ≤ 6311433599 := by simp [mom]
theorem mom_no (n : Int) : mom n = false ↔ n < 0 ∨ 6311433599 < n := by simp only [mom, decide_eq_false_iff_not]; omega
def meets (x s y k : Int) : Bool := decide (-k ≤ x + s - y ∧ x + s - y ≤ k)
def anyB (p : Int → Bool) (z : Nat → Int) (n : Nat) : Bool := (List.range n).any fun j => p (z j)
def near (z : Nat → Int) (n : Nat) (s y k : Int) : Bool := (List.range n).any fun j => meets (z j) s y k
def hits (z y : Nat → Int) (n : Nat) (s k : Int) : Nat → Int
 | 0 => 0
 | m + 1 => hits z y n s k m + if near z n s (y m) k then 1 else 0
def abs (s : Int) : Int := max s (-s)
def nearer (s t : Int) : Bool := decide (abs s < abs t ∨ abs s = abs t ∧ t < s)
def takes (best many s n : Int) : Bool := decide (many < n) || (decide (n = many) && nearer s best)
def step (z y : Nat → Int) (n m : Nat) (k : Int) (st : Int × Int) (s o : Int) : Int × Int := if takes st.1 st.2 o (hits z y n s k m) = true then (o, hits z y n s k m) else st
def err (z y : Nat → Int) (n m : Nat) (k : Int) : Int :=
 if 50 < n ∨ 50 < m then 4 else if anyB (fun x => !mom x) z n = true then 2 else if anyB (fun x => !mom x) y m = true then 2 else if 0 ≤ k ∧ k ≤ 86400 then 0 else 2
end Go.Proofs.YtbbgebpgpadclaaGreatDoor.Ev
namespace Go.Proofs.YtbbgebpgpadclaaGreatDoor.Fd
def hexN (c : Nat) : Bool := decide (48 ≤ c ∧ c ≤ 57 ∨ 97 ≤ c ∧ c ≤ 102)
def letN (c : Nat) : Bool := decide (97 ≤ c ∧ c ≤ 122)
def tailN (c : Nat) : Bool := decide (97 ≤ c ∧ c ≤ 122 ∨ 48 ≤ c ∧ c ≤ 57 ∨ c = 45)
def nmN (i c : Nat) : Bool := if i = 0 then letN c else tailN c
theorem letN_iff (c : Nat) : letN c = true ↔ 97 ≤ c ∧ c ≤ 122 := by simp [letN]
theorem tailN_iff (c : Nat) : tailN c = true ↔ 97 ≤ c ∧ c ≤ 122 ∨ 48 ≤ c ∧ c ≤ 57 ∨ c = 45 := by simp [tailN]
theorem nmN_zero (c : Nat) : nmN 0 c = letN c := rfl
theorem nmN_pos (i c : Nat) (h : i ≠ 0) : nmN i c = tailN c := by unfold nmN; rw [if_neg h]
theorem nmN_tail (i c : Nat) (h : nmN i c = true) : tailN c = true := by
 unfold nmN at h; split at h
 ·rw [letN_iff] at h; rw [tailN_iff]; omega
 ·exact h
def fileB (s : ByteArray) : Bool := decide (s.size = 16 ∧ ∀ i, (h : i < s.size) → hexN s[i].toNat = true)
def nameB (s : ByteArray) : Bool := decide ((1 ≤ s.size ∧ s.size ≤ 40) ∧ ∀ i, (h : i < s.size) → nmN i s[i].toNat = true)
theorem fileB_yes {s : ByteArray} (h : s.size = 16) (g : ∀ i, (h : i < s.size) → hexN s[i].toNat = true) : fileB s = true := decide_eq_true ⟨h, g⟩
theorem fileB_size {s : ByteArray} (h : s.size ≠ 16) : fileB s = false := decide_eq_false fun g => h g.1
theorem fileB_at {s : ByteArray} (i : Nat) (h : i < s.size) (g : hexN s[i].toNat = false) : fileB s = false := decide_eq_false fun k => by have := k.2 i h; rw [g] at this; cases this
theorem nameB_yes {s : ByteArray} (h : 1 ≤ s.size ∧ s.size ≤ 40) (g : ∀ i, (h : i < s.size) → nmN i s[i].toNat = true) : nameB s = true := decide_eq_true ⟨h, g⟩
theorem nameB_size {s : ByteArray} (h : ¬ (1 ≤ s.size ∧ s.size ≤ 40)) : nameB s = false := decide_eq_false fun g => h g.1
theorem nameB_at {s : ByteArray} (i : Nat) (h : i < s.size) (g : nmN i s[i].toNat = false) : nameB s = false := decide_eq_false fun k => by have := k.2 i h; rw [g] at this; cases this
theorem upto_next {s : ByteArray} {P : Nat → Nat → Prop} {j : Nat} (h : ∀ i, (h : i < s.size) → i < j → P i s[i].toNat) (hj : j < s.size) (g : P j s[j].toNat) : ∀ i, (h : i < s.size) → i < j + 1 → P i s[i].toNat := by
 intro i hi hij
 by_cases e : i = j
 ·subst e; exact g
 ·exact h i hi (by omega)
end Go.Proofs.YtbbgebpgpadclaaGreatDoor.Fd
namespace Go.Proofs.YtbbgebpgpadclaaGreatDoor
open Go.RowKit
namespace St
def inB (n lo hi : Int) : Bool := decide (lo ≤ n ∧ n ≤ hi)
def sizesE (s : Sto) : Int :=
 if inB s.least 1 8 = true ∧ inB s.wait 0 1000 = true then
  (if 8 < s.tiers.length ∨ 500 < s.files.length ∨ 4000 < s.copies.length ∨ 500 < s.held.length ∨ 500 < s.bin.length then 4 else 0) else 2
def hasTier (L : List Tir) (n : ByteArray) : Bool := L.any fun t => eq t.name n
def tierE (pre : List Tir) (t : Tir) : Int :=
 if Fd.nameB t.name = true then (if hasTier pre t.name = true then 6 else if inB t.room 0 1000000000000 = true ∧ inB t.cost 0 1000000 = true then 0 else 2) else 3
def fileR (f : Fil) : Int :=
 if inB f.size 0 1000000000 = true then (if inB f.kind 1 3 = true then (if f.kind = 1 ∧ f.frm.toList.isEmpty = false then 1 else 0) else 10) else 2
def fileE (pre : List Fil) (f : Fil) : Int :=
 if Fd.fileB f.dig = true then (match pre.getLast? with | some p => (if le f.dig p.dig = true then 5 else fileR f) | none => fileR f) else 1
def fromE (L : List Fil) (_ : List Fil) (f : Fil) : Int := if f.kind ≠ 1 ∧ kindOf L f.frm ≠ 1 then 7 else 0
def filesE (L : List Fil) : Int := if scan fileE [] L = 0 then scan (fromE L) [] L else scan fileE [] L
def ahead (a b : Cop) : Bool := lt a.dig b.dig || (eq a.dig b.dig && lt a.tier b.tier)
def copyE (T : List Tir) (F : List Fil) (pre : List Cop) (c : Cop) : Int :=
 if (fileOf F c.dig).isSome = true ∧ hasTier T c.tier = true then
  (match pre.getLast? with | some p => (if ahead p c = true then (if isMom c.asked = true then 0 else 2) else 5) | none => (if isMom c.asked = true then 0 else 2)) else 7
def fullE (F : List Fil) (C : List Cop) (_ : List Tir) (t : Tir) : Int := if t.room - used F t.name C < 0 then 12 else 0
def copiesE (s : Sto) : Int := if scan (copyE s.tiers s.files) [] s.copies = 0 then scan (fullE s.files s.copies) [] s.tiers else scan (copyE s.tiers s.files) [] s.copies
def heldE (F : List Fil) (pre : List ByteArray) (d : ByteArray) : Int :=
 if kindOf F d = 1 then (match pre.getLast? with | some p => (if le d p = true then 5 else 0) | none => 0) else 7
def hasS (L : List ByteArray) (d : ByteArray) : Bool := L.any fun x => eq x d
def binR (H : List ByteArray) (g : Gon) : Int := if inB g.day 0 73048 = true then (if hasS H g.dig = true then 6 else 0) else 2
def binE (F : List Fil) (H : List ByteArray) (pre : List Gon) (g : Gon) : Int :=
 if kindOf F g.dig = 1 then (match pre.getLast? with | some p => (if le g.dig p.dig = true then 5 else binR H g) | none => binR H g) else 7
def keptE (s : Sto) : Int := if scan (heldE s.files) [] s.held = 0 then scan (binE s.files s.held) [] s.bin else scan (heldE s.files) [] s.held
def err (s : Sto) : Int :=
 if sizesE s = 0 then (if scan tierE [] s.tiers = 0 then (if filesE s.files = 0 then (if copiesE s = 0 then keptE s else copiesE s) else filesE s.files) else scan tierE [] s.tiers) else sizesE s
theorem scan_here {α : Type} {bad : List α → α → Int} {L : List α} {j : Nat} {q : Int} {x : α} (h : scan bad (L.take j) (L.drop j) = q) (hx : L[j]? = some x) (he : bad (L.take j) x ≠ 0) : q = bad (L.take j) x := by
 obtain ⟨hlt, hg⟩ := List.getElem?_eq_some_iff.1 hx
 rw [List.drop_eq_getElem_cons hlt, hg, scan_bad he] at h
 exact h.symm
theorem scan_next {α : Type} {bad : List α → α → Int} {L : List α} {j : Nat} {q : Int} {x : α} (h : scan bad (L.take j) (L.drop j) = q) (hx : L[j]? = some x) (he : bad (L.take j) x = 0) : scan bad (L.take (j + 1)) (L.drop (j + 1)) = q := by
 obtain ⟨hlt, hg⟩ := List.getElem?_eq_some_iff.1 hx
 rw [List.drop_eq_getElem_cons hlt, hg, scan_ok he] at h
 rw [List.take_add_one, hx]
 exact h
theorem scan_done {α : Type} {bad : List α → α → Int} {L : List α} {q : Int} (h : scan bad (L.take L.length) (L.drop L.length) = q) : q = 0 := by
 rw [List.drop_length] at h; exact h.symm
theorem last_take {α : Type} {L : List α} {j : Nat} {x : α} (h : L[j]? = some x) : (L.take (j + 1)).getLast? = some x := by
 rw [List.take_add_one, h]; simp
theorem last_at {α : Type} {L : List α} {j : Nat} (h : j < L.length) (h0 : 0 < j) : ∃ p, L[j - 1]? = some p ∧ (L.take j).getLast? = some p := by
 obtain ⟨p, hp⟩ : ∃ p, L[j - 1]? = some p := ⟨_, List.getElem?_eq_getElem (by omega)⟩
 refine ⟨p, hp, ?_⟩
 have := last_take hp
 rwa [show j - 1 + 1 = j by omega] at this
theorem last_zero {α : Type} {L : List α} : (L.take 0).getLast? = none := by simp
end St
end Go.Proofs.YtbbgebpgpadclaaGreatDoor
namespace Go.Proofs.YtbbgebpgpadclaaGreatDoor
open Go.RowKit
open Go.Op (bytesLess)
namespace Sx
theorem less_irr : ∀ a : List UInt8, bytesLess a a = false
 | [] => rfl
 | a :: x => by
   show (decide (a < a) || (a == a && bytesLess x x)) = false
   rw [less_irr x]; simp
theorem less_tri : ∀ a b : List UInt8, bytesLess a b = false → bytesLess b a = false → a = b
 | [], [], _, _ => rfl
 | [], _ :: _, h, _ => by exact absurd h (by simp [bytesLess])
 | _ :: _, [], _, h => by exact absurd h (by simp [bytesLess])
 | a :: x, b :: y, h1, h2 => by
   simp only [bytesLess, Bool.or_eq_false_iff, decide_eq_false_iff_not, Bool.and_eq_false_iff, beq_eq_false_iff_ne, UInt8.not_lt] at h1 h2
   have e : a = b := UInt8.le_antisymm h2.1 h1.1
   subst e
   have t := less_tri x y (by rcases h1.2 with h | h; exact absurd rfl h; exact h) (by rcases h2.2 with h | h; exact absurd rfl h; exact h)
   rw [t]
theorem less_trans : ∀ a b c : List UInt8, bytesLess a b = true → bytesLess b c = true → bytesLess a c = true
 | [], b, [], _, h => by cases b <;> simp [bytesLess] at h
 | [], _, _ :: _, _, _ => by simp [bytesLess]
 | _ :: _, [], _, h, _ => by simp [bytesLess] at h
 | _ :: _, _ :: _, [], _, h => by simp [bytesLess] at h
 | a :: x, b :: y, c :: z, h1, h2 => by
   simp only [bytesLess, Bool.or_eq_true, decide_eq_true_eq, Bool.and_eq_true, beq_iff_eq] at h1 h2 ⊢
   rcases h1 with h1 | ⟨rfl, h1⟩
   ·rcases h2 with h2 | ⟨rfl, h2⟩
    ·exact .inl (UInt8.lt_trans h1 h2)
    ·exact .inl h1
   ·rcases h2 with h2 | ⟨rfl, h2⟩
    ·exact .inl h2
    ·exact .inr ⟨rfl, less_trans x y z h1 h2⟩
end Sx
end Go.Proofs.YtbbgebpgpadclaaGreatDoor
namespace Go.Proofs.YtbbgebpgpadclaaGreatDoor
open Go.RowKit
namespace St
theorem less_app {a b : List UInt8} (x y : List UInt8) (h : a.length = b.length) : Op.bytesLess (a ++ x) (b ++ y) = (Op.bytesLess a b || (a == b && Op.bytesLess x y)) := by
 induction a generalizing b with
 | nil =>
   cases b with
   | nil => simp [Op.bytesLess]
   | cons c b => simp at h
 | cons c a ih =>
   cases b with
   | nil => simp at h
   | cons d b =>
     have h' : a.length = b.length := by simpa using h
     simp only [List.cons_append, Op.bytesLess]
     rw [ih h']
     by_cases h1 : c < d
     ·simp [h1]
     ·by_cases h2 : c = d
      ·subst h2; simp
      ·have h3 : (c == d) = false := by simpa using h2
       simp [h1, h3]
theorem size_len (a : ByteArray) : a.toList.length = a.size := by rw [ByteArray.toList_eq]; rfl
theorem toList_app (a b : ByteArray) : (a ++ b).toList = a.toList ++ b.toList := by rw [ByteArray.toList_eq, ByteArray.toList_eq, ByteArray.toList_eq]; simp
def key (d t : ByteArray) : ByteArray := d ++ ⟨#[0]⟩ ++ t
theorem key_list (d t : ByteArray) : (key d t).toList = d.toList ++ 0 :: t.toList := by
 unfold key
 have h : (⟨#[0]⟩ : ByteArray).toList = [0] := by rw [ByteArray.toList_eq]
 rw [toList_app, toList_app, List.append_assoc, h]; rfl
theorem eq_iff {a b : ByteArray} : eq a b = true ↔ a = b := by
 unfold eq
 rw [beq_iff_eq]
 constructor
 ·intro h
  rw [ByteArray.toList_eq, ByteArray.toList_eq] at h
  exact ByteArray.ext (Array.toList_inj.1 h)
 ·rintro rfl; rfl
theorem eq_refl (a : ByteArray) : eq a a = true := eq_iff.2 rfl
theorem lt_irr (a : ByteArray) : lt a a = false := Sx.less_irr _
theorem lt_trans {a b c : ByteArray} (h1 : lt a b = true) (h2 : lt b c = true) : lt a c = true := Sx.less_trans _ _ _ h1 h2
theorem le_not {a b : ByteArray} : le a b = !(lt b a) := by
 unfold le lt
 cases h1 : Op.bytesLess b.toList a.toList with
 | true =>
   cases h2 : Op.bytesLess a.toList b.toList with
   | true => have := Sx.less_trans _ _ _ h1 h2; rw [Sx.less_irr] at this; cases this
   | false =>
     have : (a.toList == b.toList) = false := by
      rw [beq_eq_false_iff_ne]; intro e; rw [e, Sx.less_irr] at h1; cases h1
     rw [this]; rfl
 | false =>
   cases h2 : Op.bytesLess a.toList b.toList with
   | true => rfl
   | false =>
     have := Sx.less_tri _ _ h1 h2
     rw [this]; simp
theorem lt_key {d t d' t' : ByteArray} (h : d.size = d'.size) : lt (key d t) (key d' t') = (lt d d' || (eq d d' && lt t t')) := by
 unfold lt eq
 rw [key_list, key_list, less_app _ _ (by rw [size_len, size_len, h])]
 simp [Op.bytesLess]
theorem le_key {d t d' t' : ByteArray} (h : d.size = d'.size) : le (key d' t') (key d t) = !(lt d d' || (eq d d' && lt t t')) := by rw [le_not, lt_key h]
end St
namespace St
def pos {α : Type} (key : α → ByteArray) (k : ByteArray) : List α → Nat
 | [] => 0
 | x :: r => if lt (key x) k = true then pos key k r + 1 else 0
def Up {α : Type} (key : α → ByteArray) (L : List α) : Prop := L.Pairwise fun x y => lt (key x) (key y) = true
def hasK {α : Type} (key : α → ByteArray) (L : List α) (k : ByteArray) : Bool := L.any fun x => eq (key x) k
theorem pos_le {α : Type} (key : α → ByteArray) (k : ByteArray) : ∀ L : List α, pos key k L ≤ L.length
 | [] => Nat.le_refl _
 | x :: r => by
   have := pos_le key k r
   rw [pos, List.length_cons]
   split <;> omega
theorem pos_before {α : Type} {key : α → ByteArray} {k : ByteArray} : ∀ {L : List α} {i : Nat} {x : α}, L[i]? = some x → i < pos key k L → lt (key x) k = true
 | [], i, x, h, _ => by simp at h
 | y :: r, i, x, h, hi => by
   rw [pos] at hi
   split at hi
   ·rename_i hy
    cases i with
    | zero => simp at h; subst h; exact hy
    | succ i => exact pos_before (L := r) (by simpa using h) (by omega)
   ·omega
theorem pos_at {α : Type} {key : α → ByteArray} {k : ByteArray} : ∀ {L : List α} {x : α}, L[pos key k L]? = some x → lt (key x) k = false
 | [], x, h => by simp at h
 | y :: r, x, h => by
   rw [pos] at h
   split at h
   ·exact pos_at (L := r) (by simpa using h)
   ·rename_i hy
    simp at h; subst h; simpa using hy
theorem Up.lt {α : Type} {key : α → ByteArray} {L : List α} (h : Up key L) {i j : Nat} {x y : α} (hi : L[i]? = some x) (hj : L[j]? = some y) (hij : i < j) : lt (key x) (key y) = true := by
 obtain ⟨h1, rfl⟩ := List.getElem?_eq_some_iff.1 hi
 obtain ⟨h2, rfl⟩ := List.getElem?_eq_some_iff.1 hj
 exact List.pairwise_iff_getElem.1 h i j h1 h2 hij
theorem pos_is {α : Type} {key : α → ByteArray} {k : ByteArray} {L : List α} {n : Nat} (hn : n ≤ L.length) (h1 : ∀ i x, L[i]? = some x → i < n → lt (key x) k = true) (h2 : ∀ x, L[n]? = some x → lt (key x) k = false) : pos key k L = n := by
 rcases Nat.lt_trichotomy (pos key k L) n with h | h | h
 ·obtain ⟨x, hx⟩ : ∃ x, L[pos key k L]? = some x := ⟨_, List.getElem?_eq_getElem (by omega)⟩
  have := h1 _ _ hx h
  rw [pos_at hx] at this; cases this
 ·exact h
 ·have := pos_le key k L
  obtain ⟨x, hx⟩ : ∃ x, L[n]? = some x := ⟨_, List.getElem?_eq_getElem (by omega)⟩
  have h3 := pos_before hx h
  rw [h2 x hx] at h3; cases h3
theorem has_pos {α : Type} {key : α → ByteArray} {k : ByteArray} {L : List α} (h : Up key L) : hasK key L k = (match L[pos key k L]? with | some x => eq (key x) k | none => false) := by
 cases hx : L[pos key k L]? with
 | none =>
   show hasK key L k = false
   unfold hasK
   rw [List.any_eq_false]
   intro y hy e
   obtain ⟨i, hi⟩ := List.getElem?_of_mem hy
   have hl := (List.getElem?_eq_some_iff.1 hi).1
   rw [List.getElem?_eq_none_iff] at hx
   have := pos_before (key := key) (k := k) hi (by omega)
   rw [eq_iff.1 e, lt_irr] at this; cases this
 | some x =>
   show hasK key L k = eq (key x) k
   cases he : eq (key x) k with
   | true =>
     unfold hasK
     exact List.any_eq_true.2 ⟨x, List.mem_of_getElem? hx, he⟩
   | false =>
     unfold hasK
     rw [List.any_eq_false]
     intro y hy e
     obtain ⟨i, hi⟩ := List.getElem?_of_mem hy
     rcases Nat.lt_trichotomy i (pos key k L) with h1 | h1 | h1
     ·have := pos_before hi h1
      rw [eq_iff.1 e, lt_irr] at this; cases this
     ·rw [h1, hx] at hi
      obtain rfl := Option.some.inj hi
      rw [e] at he; cases he
     ·have h2 := h.lt hx hi h1
      rw [eq_iff.1 e] at h2
      rw [pos_at hx] at h2; cases h2
def wth {α : Type} (key : α → ByteArray) (x : α) (L : List α) : List α := if hasK key L (key x) = true then L.set (pos key (key x) L) x else L.take (pos key (key x) L) ++ x :: L.drop (pos key (key x) L)
def wo {α : Type} (key : α → ByteArray) (k : ByteArray) (L : List α) : List α := if hasK key L k = true then L.eraseIdx (pos key k L) else L
end St
namespace St
def zeroF : Fil := ⟨⟨#[]⟩, 0, 0, ⟨#[]⟩⟩
def lastOf (L : List Fil) (d : ByteArray) : Option Fil := L.reverse.find? fun f => eq f.dig d
theorem lastOf_nil (d : ByteArray) : lastOf [] d = none := rfl
theorem lastOf_snoc (L : List Fil) (f : Fil) (d : ByteArray) : lastOf (L ++ [f]) d = if eq f.dig d = true then some f else lastOf L d := by
 unfold lastOf
 rw [List.reverse_append]
 simp only [List.reverse_cons, List.reverse_nil, List.nil_append, List.cons_append, List.find?_cons]
 cases eq f.dig d <;> simp
theorem find_mem {L : List Fil} {d : ByteArray} {f : Fil} (h : fileOf L d = some f) : f ∈ L ∧ eq f.dig d = true := ⟨List.mem_of_find?_eq_some h, by have := List.find?_some h; exact this⟩
theorem last_mem {L : List Fil} {d : ByteArray} {f : Fil} (h : lastOf L d = some f) : f ∈ L ∧ eq f.dig d = true := ⟨List.mem_reverse.1 (List.mem_of_find?_eq_some h), by have := List.find?_some h; exact this⟩
theorem Up.one {α : Type} {key : α → ByteArray} {L : List α} (h : Up key L) {x y : α} (hx : x ∈ L) (hy : y ∈ L) (he : key x = key y) : x = y := by
 obtain ⟨i, hi⟩ := List.getElem?_of_mem hx
 obtain ⟨j, hj⟩ := List.getElem?_of_mem hy
 rcases Nat.lt_trichotomy i j with h1 | h1 | h1
 ·have := h.lt hi hj h1; rw [he, lt_irr] at this; cases this
 ·subst h1; rw [hi] at hj; exact Option.some.inj hj
 ·have := h.lt hj hi h1; rw [he, lt_irr] at this; cases this
theorem lastOf_up {L : List Fil} (h : Up (·.dig) L) (d : ByteArray) : lastOf L d = fileOf L d := by
 cases hl : lastOf L d with
 | none =>
   cases hf : fileOf L d with
   | none => rfl
   | some f =>
     obtain ⟨h1, h2⟩ := find_mem hf
     unfold lastOf at hl
     rw [List.find?_eq_none] at hl
     have := hl f (List.mem_reverse.2 h1)
     rw [h2] at this; exact absurd rfl this
 | some f =>
   obtain ⟨h1, h2⟩ := last_mem hl
   cases hf : fileOf L d with
   | none =>
     unfold fileOf at hf
     rw [List.find?_eq_none] at hf
     have := hf f h1
     rw [h2] at this; exact absurd rfl this
   | some g =>
     obtain ⟨h3, h4⟩ := find_mem hf
     rw [h.one h1 h3 (by show f.dig = g.dig; rw [eq_iff.1 h2, eq_iff.1 h4])]
def filD (L : List Fil) (d : ByteArray) : Fil := (fileOf L d).getD zeroF
theorem filD_kind (L : List Fil) (d : ByteArray) : (filD L d).kind = kindOf L d := by
 unfold filD kindOf
 cases fileOf L d <;> rfl
theorem filD_size (L : List Fil) (d : ByteArray) : (filD L d).size = sizeOf L d := by
 unfold filD sizeOf
 cases fileOf L d <;> rfl
theorem up_of_scan {α : Type} {key : α → ByteArray} {bad : List α → α → Int} {L : List α} (h : scan bad [] L = 0) (hb : ∀ pre x p, bad pre x = 0 → pre.getLast? = some p → lt (key p) (key x) = true) : Up key L := by
 unfold Up
 rw [List.pairwise_iff_getElem]
 have step : ∀ k, (hk : k + 1 < L.length) → lt (key L[k]) (key L[k + 1]) = true := by
  intro k hk
  have h1 := scan_0 h (L.take (k + 1)) (L.drop (k + 2)) L[k + 1] (by
   conv => lhs; rw [← List.take_append_drop (k + 1) L]
   rw [List.drop_eq_getElem_cons hk])
  rw [List.nil_append] at h1
  exact hb _ _ _ h1 (last_take (List.getElem?_eq_getElem (by omega)))
 intro i j hi hj hij
 induction j with
 | zero => omega
 | succ j ih =>
   by_cases e : i = j
   ·subst e; exact step i hj
   ·exact lt_trans (ih (by omega) (by omega)) (step j hj)
theorem files_up {L : List Fil} (h : scan fileE [] L = 0) : Up (·.dig) L := by
 refine up_of_scan h fun pre x p hb hp => ?_
 unfold fileE at hb
 split at hb
 ·rw [hp] at hb
  simp only at hb
  split at hb
  ·cases hb
  ·rename_i g
   rw [le_not] at g
   simpa using g
 ·cases hb
theorem file_dig {L : List Fil} (h : scan fileE [] L = 0) {f : Fil} (hf : f ∈ L) : Fd.fileB f.dig = true := by
 obtain ⟨i, hi⟩ := List.getElem?_of_mem hf
 obtain ⟨hlt, hg⟩ := List.getElem?_eq_some_iff.1 hi
 have h1 := scan_0 h (L.take i) (L.drop (i + 1)) f (by
  conv => lhs; rw [← List.take_append_drop i L]
  rw [List.drop_eq_getElem_cons hlt, hg])
 rw [List.nil_append] at h1
 unfold fileE at h1
 split at h1
 ·rename_i g; exact g
 ·cases h1
theorem file_dig16 {L : List Fil} (h : scan fileE [] L = 0) {f : Fil} (hf : f ∈ L) : f.dig.size = 16 := by
 have := file_dig h hf
 unfold Fd.fileB at this
 exact (of_decide_eq_true this).1
end St
namespace St
theorem scan_all {α : Type} {bad : List α → α → Int} {L : List α} : ∀ {pre : List α}, (∀ i x, L[i]? = some x → bad (pre ++ L.take i) x = 0) → scan bad pre L = 0 := by
 induction L with
 | nil => intro pre _; rfl
 | cons y r ih =>
   intro pre h
   have h0 := h 0 y rfl
   rw [List.take_zero, List.append_nil] at h0
   rw [scan_ok h0]
   refine ih fun i x hx => ?_
   have := h (i + 1) x (by simpa using hx)
   rwa [List.take_succ_cons, List.append_cons] at this
theorem scan_iff {α : Type} {bad : List α → α → Int} {L : List α} : scan bad [] L = 0 ↔ ∀ i x, L[i]? = some x → bad (L.take i) x = 0 := by
 constructor
 ·intro h i x hx
  obtain ⟨hlt, hg⟩ := List.getElem?_eq_some_iff.1 hx
  have h1 := scan_0 h (L.take i) (L.drop (i + 1)) x (by
   conv => lhs; rw [← List.take_append_drop i L]
   rw [List.drop_eq_getElem_cons hlt, hg])
  rwa [List.nil_append] at h1
 ·intro h
  exact scan_all fun i x hx => by rw [List.nil_append]; exact h i x hx
theorem rise_iff {α : Type} {bad : List α → α → Int} {L : List α} (good : α → Prop) (before : α → α → Bool) (tr : ∀ a b c, a ∈ L → b ∈ L → c ∈ L → before a b = true → before b c = true → before a c = true)
  (hb : ∀ pre x, x ∈ L → (bad pre x = 0 ↔ good x ∧ ∀ p, pre.getLast? = some p → before p x = true)) :
  scan bad [] L = 0 ↔ (∀ x ∈ L, good x) ∧ L.Pairwise (fun x y => before x y = true) := by
 rw [scan_iff]
 constructor
 ·intro h
  refine ⟨fun x hx => ?_, ?_⟩
  ·obtain ⟨i, hi⟩ := List.getElem?_of_mem hx
   exact ((hb _ _ hx).1 (h i x hi)).1
  ·rw [List.pairwise_iff_getElem]
   have step : ∀ k, (hk : k + 1 < L.length) → before L[k] L[k + 1] = true := by
    intro k hk
    exact ((hb _ _ (List.getElem_mem hk)).1 (h (k + 1) _ (List.getElem?_eq_getElem hk))).2 _ (last_take (List.getElem?_eq_getElem (by omega)))
   intro i j hi hj hij
   induction j with
   | zero => omega
   | succ j ih =>
     by_cases e : i = j
     ·subst e; exact step i hj
     ·exact tr _ _ _ (List.getElem_mem hi) (List.getElem_mem _) (List.getElem_mem hj) (ih (by omega) (by omega)) (step j hj)
 ·rintro ⟨h1, h2⟩ i x hx
  have hm := List.mem_of_getElem? hx
  refine (hb _ _ hm).2 ⟨h1 x hm, fun p hp => ?_⟩
  obtain ⟨hlt, hg⟩ := List.getElem?_eq_some_iff.1 hx
  by_cases h0 : i = 0
  ·subst h0; rw [last_zero] at hp; cases hp
  ·obtain ⟨q, hq, hl⟩ := last_at hlt (by omega)
   rw [hl] at hp
   obtain rfl := Option.some.inj hp
   obtain ⟨hlt2, hg2⟩ := List.getElem?_eq_some_iff.1 hq
   have := List.pairwise_iff_getElem.1 h2 (i - 1) i (by omega) hlt (by omega)
   rwa [hg, hg2] at this
theorem held_iff {F : List Fil} {H : List ByteArray} : scan (heldE F) [] H = 0 ↔ (∀ d ∈ H, kindOf F d = 1) ∧ Up id H := by
 refine rise_iff (fun d => kindOf F d = 1) (fun a b => lt a b) (fun a b c _ _ _ => lt_trans) fun pre x _ => ?_
 unfold heldE
 by_cases hk : kindOf F x = 1
 ·rw [if_pos hk]
  cases hp : pre.getLast? with
  | none => simp [hk]
  | some p =>
    simp only
    rw [le_not]
    cases hl : lt p x <;> simp [hk, hl]
 ·rw [if_neg hk]; simp [hk]
theorem bin_iff {F : List Fil} {H : List ByteArray} {B : List Gon} : scan (binE F H) [] B = 0 ↔ (∀ g ∈ B, kindOf F g.dig = 1 ∧ binR H g = 0) ∧ Up (·.dig) B := by
 refine rise_iff (fun g => kindOf F g.dig = 1 ∧ binR H g = 0) (fun a b => lt a.dig b.dig) (fun a b c _ _ _ => lt_trans) fun pre x _ => ?_
 unfold binE
 by_cases hk : kindOf F x.dig = 1
 ·rw [if_pos hk]
  cases hp : pre.getLast? with
  | none => simp [hk]
  | some p =>
    simp only
    rw [le_not]
    cases hl : lt p.dig x.dig <;> simp [hk, hl]
 ·rw [if_neg hk]; simp [hk]
theorem files_iff {F : List Fil} : scan fileE [] F = 0 ↔ (∀ f ∈ F, Fd.fileB f.dig = true ∧ fileR f = 0) ∧ Up (·.dig) F := by
 refine rise_iff (fun f => Fd.fileB f.dig = true ∧ fileR f = 0) (fun a b => lt a.dig b.dig) (fun a b c _ _ _ => lt_trans) fun pre x _ => ?_
 unfold fileE
 by_cases hk : Fd.fileB x.dig = true
 ·rw [if_pos hk]
  cases hp : pre.getLast? with
  | none => simp [hk]
  | some p =>
    simp only
    rw [le_not]
    cases hl : lt p.dig x.dig <;> simp [hk, hl]
 ·rw [if_neg hk]; simp [hk]
theorem ahead_trans {a b c : Cop} (h1 : ahead a b = true) (h2 : ahead b c = true) : ahead a c = true := by
 unfold ahead at *
 simp only [Bool.or_eq_true, Bool.and_eq_true] at *
 rcases h1 with h1 | ⟨h1, h1'⟩
 ·rcases h2 with h2 | ⟨h2, h2'⟩
  ·exact .inl (lt_trans h1 h2)
  ·rw [← eq_iff.1 h2]; exact .inl h1
 ·rcases h2 with h2 | ⟨h2, h2'⟩
  ·rw [eq_iff.1 h1]; exact .inl h2
  ·exact .inr ⟨eq_iff.2 ((eq_iff.1 h1).trans (eq_iff.1 h2)), lt_trans h1' h2'⟩
theorem copies_iff {T : List Tir} {F : List Fil} {C : List Cop} : scan (copyE T F) [] C = 0 ↔ (∀ c ∈ C, (fileOf F c.dig).isSome = true ∧ hasTier T c.tier = true ∧ isMom c.asked = true) ∧ C.Pairwise (fun a b => ahead a b = true) := by
 refine rise_iff (fun c => (fileOf F c.dig).isSome = true ∧ hasTier T c.tier = true ∧ isMom c.asked = true) ahead (fun a b c _ _ _ => ahead_trans) fun pre x _ => ?_
 unfold copyE
 by_cases hk : (fileOf F x.dig).isSome = true ∧ hasTier T x.tier = true
 ·rw [if_pos hk]
  obtain ⟨hk1, hk2⟩ := hk
  cases hp : pre.getLast? with
  | none => cases hm : isMom x.asked <;> simp [hk1, hk2, hm]
  | some p =>
    simp only
    cases hl : ahead p x <;> cases hm : isMom x.asked <;> simp [hk1, hk2, hl, hm]
 ·rw [if_neg hk]
  constructor
  ·intro h; cases h
  ·rintro ⟨⟨g1, g2, _⟩, _⟩; exact absurd ⟨g1, g2⟩ hk
structure Right (s : Sto) : Prop where
 sizes : sizesE s = 0
 tiers : scan tierE [] s.tiers = 0
 dig : ∀ f ∈ s.files, Fd.fileB f.dig = true ∧ fileR f = 0
 fup : Up (·.dig) s.files
 frm : ∀ f ∈ s.files, f.kind ≠ 1 → kindOf s.files f.frm = 1
 cop : ∀ c ∈ s.copies, (fileOf s.files c.dig).isSome = true ∧ hasTier s.tiers c.tier = true ∧ isMom c.asked = true
 cup : s.copies.Pairwise (fun a b => ahead a b = true)
 room : ∀ t ∈ s.tiers, 0 ≤ t.room - used s.files t.name s.copies
 held : ∀ d ∈ s.held, kindOf s.files d = 1
 hup : Up id s.held
 bin : ∀ g ∈ s.bin, kindOf s.files g.dig = 1 ∧ binR s.held g = 0
 bup : Up (·.dig) s.bin
theorem from_iff {L M : List Fil} : scan (fromE L) [] M = 0 ↔ ∀ f ∈ M, f.kind ≠ 1 → kindOf L f.frm = 1 := by
 rw [scan_iff]
 constructor
 ·intro h f hf hk
  obtain ⟨i, hi⟩ := List.getElem?_of_mem hf
  have := h i f hi
  unfold fromE at this
  by_cases g : kindOf L f.frm = 1
  ·exact g
  ·rw [if_pos ⟨hk, g⟩] at this; cases this
 ·intro h i f hi
  unfold fromE
  rw [if_neg]
  rintro ⟨h1, h2⟩
  exact h2 (h f (List.mem_of_getElem? hi) h1)
theorem full_iff {F : List Fil} {C : List Cop} {T : List Tir} : scan (fullE F C) [] T = 0 ↔ ∀ t ∈ T, 0 ≤ t.room - used F t.name C := by
 rw [scan_iff]
 constructor
 ·intro h t ht
  obtain ⟨i, hi⟩ := List.getElem?_of_mem ht
  have := h i t hi
  unfold fullE at this
  by_cases g : t.room - used F t.name C < 0
  ·rw [if_pos g] at this; cases this
  ·omega
 ·intro h i t hi
  unfold fullE
  rw [if_neg]
  have := h t (List.mem_of_getElem? hi)
  omega
theorem err_iff {s : Sto} : err s = 0 ↔ Right s := by
 unfold err
 constructor
 ·intro h
  by_cases h1 : sizesE s = 0
  ·rw [if_pos h1] at h
   by_cases h2 : scan tierE [] s.tiers = 0
   ·rw [if_pos h2] at h
    by_cases h3 : filesE s.files = 0
    ·rw [if_pos h3] at h
     by_cases h4 : copiesE s = 0
     ·rw [if_pos h4] at h
      unfold filesE at h3
      by_cases h5 : scan fileE [] s.files = 0
      ·rw [if_pos h5] at h3
       unfold copiesE at h4
       by_cases h6 : scan (copyE s.tiers s.files) [] s.copies = 0
       ·rw [if_pos h6] at h4
        unfold keptE at h
        by_cases h7 : scan (heldE s.files) [] s.held = 0
        ·rw [if_pos h7] at h
         exact ⟨h1, h2, (files_iff.1 h5).1, (files_iff.1 h5).2, from_iff.1 h3, (copies_iff.1 h6).1, (copies_iff.1 h6).2, full_iff.1 h4, (held_iff.1 h7).1, (held_iff.1 h7).2, (bin_iff.1 h).1, (bin_iff.1 h).2⟩
        ·rw [if_neg h7] at h; exact absurd h h7
       ·rw [if_neg h6] at h4; exact absurd h4 h6
      ·rw [if_neg h5] at h3; exact absurd h3 h5
     ·rw [if_neg h4] at h; exact absurd h h4
    ·rw [if_neg h3] at h; exact absurd h h3
   ·rw [if_neg h2] at h; exact absurd h h2
  ·rw [if_neg h1] at h; exact absurd h h1
 ·intro r
  have h5 := files_iff.2 ⟨r.dig, r.fup⟩
  have h3 : filesE s.files = 0 := by unfold filesE; rw [if_pos h5]; exact from_iff.2 r.frm
  have h6 := copies_iff.2 ⟨r.cop, r.cup⟩
  have h4 : copiesE s = 0 := by unfold copiesE; rw [if_pos h6]; exact full_iff.2 r.room
  have h7 := held_iff.2 ⟨r.held, r.hup⟩
  rw [if_pos r.sizes, if_pos r.tiers, if_pos h3, if_pos h4]
  unfold keptE
  rw [if_pos h7]
  exact bin_iff.2 ⟨r.bin, r.bup⟩
end St
namespace St
theorem Up.sub {α : Type} {key : α → ByteArray} {L M : List α} (h : Up key M) (hs : L.Sublist M) : Up key L := List.Pairwise.sublist hs h
theorem up_nodup {α : Type} {key : α → ByteArray} {L : List α} (h : Up key L) : (L.map key).Nodup := by
 unfold List.Nodup
 rw [List.pairwise_map]
 exact h.imp fun {a b} hab e => by rw [e, lt_irr] at hab; cases hab
end St
namespace St
def gdig (g : Gon) : ByteArray := g.dig
def kept (s : Sto) (d : ByteArray) : Bool := hasK id s.held d || hasK gdig s.bin d
def stays (s : Sto) (day : Int) (g : Gon) : Bool := !decide (g.day + s.wait ≤ day)
def empty (s : Sto) (day : Int) : Sto := { s with bin := s.bin.filter (stays s day) }
def hold (s : Sto) (d : ByteArray) : Sto := { s with held := wth id d s.held, bin := wo gdig d s.bin }
theorem few_of_sub {α : Type} : ∀ {l m : List α}, l.Nodup → (∀ x ∈ l, x ∈ m) → l.length ≤ m.length
 | [], m, _, _ => by simp
 | x :: l, m, hn, hs => by
   obtain ⟨h1, h2⟩ := List.nodup_cons.1 hn
   obtain ⟨a, b, rfl⟩ := List.append_of_mem (hs x (by simp))
   have := few_of_sub (l := l) (m := a ++ b) h2 fun y hy => by
    have hy2 := hs y (by simp [hy])
    have hne : y ≠ x := fun e => h1 (e ▸ hy)
    simp only [List.mem_append, List.mem_cons] at hy2 ⊢
    rcases hy2 with g | g | g
    ·exact .inl g
    ·exact absurd g hne
    ·exact .inr g
   simp only [List.length_append, List.length_cons] at this ⊢
   omega
theorem kind_mem {F : List Fil} {d : ByteArray} (h : kindOf F d = 1) : ∃ f, fileOf F d = some f ∧ f ∈ F ∧ f.dig = d ∧ f.kind = 1 := by
 unfold kindOf at h
 cases hf : fileOf F d with
 | none => rw [hf] at h; cases h
 | some f =>
   rw [hf] at h
   obtain ⟨h1, h2⟩ := find_mem hf
   exact ⟨f, rfl, h1, eq_iff.1 h2, h⟩
theorem kind_dig {F : List Fil} {d : ByteArray} (h : kindOf F d = 1) : d ∈ F.map (·.dig) := by
 obtain ⟨f, _, h1, h2, _⟩ := kind_mem h
 exact List.mem_map.2 ⟨f, h1, h2⟩
theorem few_keys {α : Type} {key : α → ByteArray} {F : List Fil} {L : List α} (h : Up key L) (hk : ∀ x ∈ L, kindOf F (key x) = 1) : L.length ≤ F.length := by
 have := few_of_sub (m := F.map (·.dig)) (up_nodup h) fun y hy => by
  obtain ⟨x, hx, rfl⟩ := List.mem_map.1 hy
  exact kind_dig (hk x hx)
 simpa using this
theorem sizes_iff {s : Sto} : sizesE s = 0 ↔ (inB s.least 1 8 = true ∧ inB s.wait 0 1000 = true) ∧ s.tiers.length ≤ 8 ∧ s.files.length ≤ 500 ∧ s.copies.length ≤ 4000 ∧ s.held.length ≤ 500 ∧ s.bin.length ≤ 500 := by
 unfold sizesE
 split
 ·rename_i h
  split
  ·rename_i g
   constructor
   ·intro e; cases e
   ·rintro ⟨_, h1, h2, h3, h4, h5⟩; omega
  ·rename_i g
   constructor
   ·intro _; exact ⟨h, by omega, by omega, by omega, by omega, by omega⟩
   ·intro _; rfl
 ·rename_i h
  constructor
  ·intro e; cases e
  ·intro e; exact absurd e.1 h
theorem Right.kept {s : Sto} (r : Right s) {H : List ByteArray} {B : List Gon} (h1 : ∀ d ∈ H, kindOf s.files d = 1) (h2 : Up id H) (h3 : ∀ g ∈ B, kindOf s.files g.dig = 1 ∧ binR H g = 0) (h4 : Up gdig B) : Right { s with held := H, bin := B } := by
 obtain ⟨z1, z2, z3, z4, z5, z6⟩ := sizes_iff.1 r.sizes
 have e1 := few_keys (F := s.files) h2 h1
 have e2 := few_keys (F := s.files) h4 fun g hg => (h3 g hg).1
 exact ⟨sizes_iff.2 ⟨z1, z2, z3, z4, by show H.length ≤ 500; omega, by show B.length ≤ 500; omega⟩, r.tiers, r.dig, r.fup, r.frm, r.cop, r.cup, r.room, h1, h2, h3, h4⟩
end St
namespace St
def fdig (f : Fil) : ByteArray := f.dig
def ckey (c : Cop) : ByteArray := key c.dig c.tier
def askedOf (s : Sto) (d t : ByteArray) (now : Int) : Int := match s.copies.find? (fun c => eq c.dig d && eq c.tier t) with | some c => c.asked | none => now
def imp (s : Sto) (f : Fil) (tier : ByteArray) (now : Int) : Sto :=
 { s with files := wth fdig f s.files, copies := wth ckey ⟨f.dig, tier, true, askedOf s f.dig tier now⟩ s.copies, held := if f.kind = 1 then wth id f.dig s.held else s.held, bin := if f.kind = 1 then wo gdig f.dig s.bin else s.bin }
end St
namespace St
def tow (b : Bool) (x y : List UInt8) : List UInt8 := if b = true then x else y
def kindT (k : Int) : List UInt8 := if k = 1 then [111, 114, 105, 103, 105, 110, 97, 108] else if k = 2 then [115, 105, 100, 101, 99, 97, 114] else [100, 101, 114, 105, 118, 101, 100]
def w0 (s : Sto) : List (List UInt8) := [[115, 116, 111, 114, 101], Lib.itoa s.least, Lib.itoa s.wait]
def wT (t : Tir) : List (List UInt8) := [[116, 105, 101, 114], t.name.data.toList, Lib.itoa t.room, Lib.itoa t.cost, tow t.away [97, 119, 97, 121] [104, 101, 114, 101]]
def wF (f : Fil) : List (List UInt8) := [[102, 105, 108, 101], f.dig.data.toList, Lib.itoa f.size, kindT f.kind] ++ (if f.kind = 1 then [] else [f.frm.data.toList])
def wC (c : Cop) : List (List UInt8) := [[99, 111, 112, 121], c.dig.data.toList, c.tier.data.toList, tow c.good [103, 111, 111, 100] [98, 97, 100], Lib.itoa c.asked]
def wH (d : ByteArray) : List (List UInt8) := [[104, 101, 108, 100], d.data.toList]
def wB (g : Gon) : List (List UInt8) := [[98, 105, 110], g.dig.data.toList, Lib.itoa g.day]
def ln (w : List (List UInt8)) : List UInt8 := Lib.join w [32]
def linesT (L : List (List UInt8)) : List UInt8 := L.flatMap fun l => l ++ [10]
def all (s : Sto) : List (List UInt8) := [ln (w0 s)] ++ s.tiers.map (fun t => ln (wT t)) ++ s.files.map (fun f => ln (wF f)) ++ s.copies.map (fun c => ln (wC c)) ++ s.held.map (fun d => ln (wH d)) ++ s.bin.map (fun g => ln (wB g))
def text (s : Sto) : List UInt8 := linesT (all s)
end St
end Go.Proofs.YtbbgebpgpadclaaGreatDoor
namespace Go.Proofs.YtbbgebpgpadclaaGreatDoor
namespace Tx
open Go.Lib
abbrev mk (l : List UInt8) : ByteArray := ⟨l.toArray⟩
theorem mk_size (a : List UInt8) : (mk a).size = a.length := by simp [ByteArray.size]
theorem mk_toList (a : List UInt8) : (mk a).data.toList = a := by simp
end Tx
namespace Pr
open Go.Lib
def spl (c : UInt8) : List UInt8 → List (List UInt8)
 | [] => [[]]
 | b :: l => if b = c then [] :: spl c l else match spl c l with | [] => [[b]] | x :: r => (b :: x) :: r
theorem spl_ne (c : UInt8) : ∀ l, spl c l ≠ []
 | [] => by simp [spl]
 | b :: l => by
   unfold spl
   split
   ·simp
   ·split <;> simp
def cut1 (c : UInt8) : List UInt8 → Option (List UInt8 × List UInt8)
 | [] => none
 | b :: l => if b = c then some ([], l) else (cut1 c l).map fun p => (b :: p.1, p.2)
theorem index_cons_eq (c : UInt8) (l : List UInt8) : index (c :: l) [c] = 0 := by simp [index]
theorem index_cons_ne {b c : UInt8} (h : b ≠ c) (l : List UInt8) : index (b :: l) [c] = if index l [c] == -1 then -1 else index l [c] + 1 := by
 have : ¬ c = b := fun e => h e.symm
 simp [index, this]
theorem index_cut1 (c : UInt8) : ∀ l : List UInt8, (cut1 c l = none ∧ index l [c] = -1) ∨ ∃ i : Nat, index l [c] = i ∧ cut1 c l = some (l.take i, l.drop (i + 1))
 | [] => .inl ⟨rfl, by simp [index]⟩
 | b :: l => by
   by_cases h : b = c
   ·subst h
    exact .inr ⟨0, index_cons_eq _ _, by simp [cut1]⟩
   ·rcases index_cut1 c l with ⟨h1, h2⟩ | ⟨i, h1, h2⟩
    ·exact .inl ⟨by rw [cut1, if_neg h, h1]; rfl, by rw [index_cons_ne h, h2]; rfl⟩
    ·refine .inr ⟨i + 1, ?_, by rw [cut1, if_neg h, h2]; rfl⟩
     rw [index_cons_ne h, h1, if_neg (by rw [beq_iff_eq]; omega)]; omega
theorem cut_cut1 (c : UInt8) (l : List UInt8) : cut l [c] = match cut1 c l with | some p => (p.1, p.2, true) | none => (l, [], false) := by
 unfold cut
 rcases index_cut1 c l with ⟨h1, h2⟩ | ⟨i, h1, h2⟩
 ·rw [h1, h2, if_neg (by omega)]
 ·rw [h1, h2, if_pos (by omega)]; simp
theorem split_miss {s sub : List UInt8} (h : index s sub = -1) : split s sub = [s] := by unfold split; rw [count_miss h]; rfl
theorem split_hit {s sub : List UInt8} {i : Nat} (hsub : sub ≠ []) (h : index s sub = i) : split s sub = s.take i :: split (s.drop (i + sub.length)) sub := by
 unfold split
 rw [count_hit hsub h, Nat.add_comm, splitK, if_neg (by rw [h, beq_iff_eq]; omega), h]
 simp
theorem split_cut1 (c : UInt8) (l : List UInt8) : split l [c] = match cut1 c l with | some p => p.1 :: split p.2 [c] | none => [l] := by
 rcases index_cut1 c l with ⟨h1, h2⟩ | ⟨i, h1, h2⟩
 ·rw [h1, split_miss h2]
 ·rw [h2, split_hit (by simp) h1]; simp
theorem spl_cut1 (c : UInt8) : ∀ l, spl c l = match cut1 c l with | some p => p.1 :: spl c p.2 | none => [l]
 | [] => rfl
 | b :: l => by
   by_cases h : b = c
   ·simp [spl, cut1, h]
   ·have ih := spl_cut1 c l
    rw [spl, if_neg h, cut1, if_neg h, ih]
    cases cut1 c l <;> rfl
theorem cut1_len {c : UInt8} : ∀ {l : List UInt8} {a b : List UInt8}, cut1 c l = some (a, b) → l = a ++ c :: b
 | [], _, _, h => by simp [cut1] at h
 | x :: l, a, b, h => by
   unfold cut1 at h
   split at h
   ·rename_i hx
    injection h with h; injection h with h1 h2
    subst h1 h2 hx; rfl
   ·cases hc : cut1 c l with
    | none => rw [hc] at h; cases h
    | some p =>
      rw [hc] at h; injection h with h; injection h with h1 h2
      subst h1 h2
      rw [cut1_len (a := p.1) (b := p.2) hc]; rfl
theorem split_spl (c : UInt8) : ∀ (n : Nat) (l : List UInt8), l.length ≤ n → split l [c] = spl c l
 | n, l, hn => by
   rw [split_cut1, spl_cut1]
   cases hc : cut1 c l with
   | none => rfl
   | some p =>
     have hl := cut1_len (a := p.1) (b := p.2) hc
     have hl2 : l.length = p.1.length + (p.2.length + 1) := by rw [hl]; simp
     match n, hn with
     | 0, hn => omega
     | n + 1, hn => simp only [split_spl c n p.2 (by omega)]
theorem splitB_spl (c : UInt8) (s : List UInt8) : (splitB (Tx.mk [c]) 0 (countB (Tx.mk s) (Tx.mk [c])) (Tx.mk s)) = (spl c s).map Tx.mk := by
 have h := splitB_data (Tx.mk [c]) 0 (countB (Tx.mk s) (Tx.mk [c])) (Tx.mk s)
 have h2 : splitK (Tx.mk [c]).data.toList 0 (countB (Tx.mk s) (Tx.mk [c])) (Tx.mk s).data.toList = spl c s := by
  rw [← split_spl c _ s (Nat.le_refl _)]; rfl
 rw [h2] at h
 rw [← h, List.map_map]
 conv => lhs; rw [← List.map_id (splitB _ _ _ _)]
 refine List.map_congr_left fun x _ => ?_
 rfl
theorem spl_len_le (c : UInt8) (l : List UInt8) : (spl c l).length ≤ l.length + 1 := by
 induction l with
 | nil => simp [spl]
 | cons b l ih =>
   unfold spl
   split
   ·simp; omega
   ·split
    ·simp
    ·rename_i h; rw [h] at ih; simp at ih ⊢; omega
theorem spl_mem_le (c : UInt8) : ∀ (l : List UInt8) (x : List UInt8), x ∈ spl c l → x.length ≤ l.length
 | [], x, h => by simp [spl] at h; simp [h]
 | b :: l, x, h => by
   unfold spl at h
   split at h
   ·rcases List.mem_cons.1 h with e | e
    ·subst e; simp
    ·have := spl_mem_le c l x e; simp; omega
   ·split at h
    ·simp at h; subst h; simp
    ·rename_i y r hs
     rcases List.mem_cons.1 h with e | e
     ·subst e
      have := spl_mem_le c l y (by rw [hs]; simp)
      simp; omega
     ·have := spl_mem_le c l x (by rw [hs]; exact List.mem_cons_of_mem _ e)
      simp; omega
theorem countB_spl (c : UInt8) (s : List UInt8) : countB (Tx.mk s) (Tx.mk [c]) + 1 = (spl c s).length := by
 have : ∀ n (l : List UInt8), l.length ≤ n → count l [c] + 1 = (spl c l).length := by
  intro n
  induction n with
  | zero =>
    intro l hl
    have : l = [] := List.length_eq_zero_iff.1 (by omega)
    subst this
    rw [count_miss (by simp [index])]; rfl
  | succ n ih =>
    intro l hl
    rw [spl_cut1]
    rcases index_cut1 c l with ⟨h1, h2⟩ | ⟨i, h1, h2⟩
    ·rw [h1, count_miss h2]; rfl
    ·rw [h2, count_hit (by simp) h1]
     have hl2 := congrArg List.length (cut1_len h2)
     simp only [List.length_append, List.length_cons] at hl2
     have := ih (l.drop (i + 1)) (by rw [List.length_drop]; omega)
     simp only [List.length_cons, List.length_nil, Nat.zero_add] at this ⊢; omega
 exact this _ s (Nat.le_refl _)
end Pr
namespace Dg
open Go.Lib
def isD (b : UInt8) : Bool := decide (48 ≤ b.toNat ∧ b.toNat ≤ 57)
def allD (l : List UInt8) : Bool := l.all isD
def valF (n : Nat) : List UInt8 → Nat
 | [] => n
 | b :: r => valF (10 * n + (b.toNat - 48)) r
def val (l : List UInt8) : Nat := valF 0 l
def digits : List UInt8 := [48, 49, 50, 51, 52, 53, 54, 55, 56, 57]
theorem mem_digits (b : UInt8) : digits.contains b = isD b := by
 rw [Bool.eq_iff_iff]
 unfold digits isD
 rw [decide_eq_true_iff, List.contains_iff_mem]
 simp only [List.mem_cons, List.not_mem_nil, or_false, ← UInt8.toNat_inj]
 simp only [UInt8.reduceToNat]
 omega
theorem decFrom_val (l : List UInt8) : ∀ n : Nat, allD l = true → decFrom n l = some (valF n l) := by
 induction l with
 | nil => intro n _; rfl
 | cons b r ih =>
   intro n h
   simp only [allD, List.all_cons, Bool.and_eq_true] at h
   have hb : 48 ≤ b.toNat ∧ b.toNat ≤ 57 := by simpa [isD] using h.1
   have e : digitVal b = some (b.toNat - 48) := by unfold digitVal; rw [if_pos hb]
   have := ih (n * 10 + (b.toNat - 48)) (by unfold allD; exact h.2)
   unfold decFrom valF
   rw [e, Nat.mul_comm 10 n]
   exact this
theorem atoi_val {l : List UInt8} (h0 : l ≠ []) (h : allD l = true) : atoi l = some (val l : Int) := by
 cases l with
 | nil => exact absurd rfl h0
 | cons b r =>
   have hb : isD b = true := by simp only [allD, List.all_cons, Bool.and_eq_true] at h; exact h.1
   have hb' := of_decide_eq_true hb
   have n1 : (b == 45) = false := by
    apply beq_eq_false_iff_ne.2; rintro rfl; revert hb; decide
   have n2 : (b == 43) = false := by
    apply beq_eq_false_iff_ne.2; rintro rfl; revert hb; decide
   rw [atoi, n1, n2]
   simp only [Bool.false_eq_true, if_false]
   rw [decNat, if_neg (by simp), decFrom_val _ _ h]
   rfl
theorem dropWhile_nil {α : Type} (p : α → Bool) : ∀ l : List α, l.dropWhile p = [] ↔ l.all p = true
 | [] => by simp
 | a :: r => by
   rw [List.dropWhile_cons, List.all_cons]
   cases hp : p a
   ·simp
   ·simpa using dropWhile_nil p r
theorem dropWhile_head {α : Type} (p : α → Bool) : ∀ l : List α, l.dropWhile p ≠ [] → (l.dropWhile p).all p = false
 | [], h => absurd rfl h
 | a :: r, h => by
   rw [List.dropWhile_cons] at h ⊢
   cases hp : p a
   ·simp [hp]
   ·rw [hp, if_pos rfl] at h; rw [if_pos rfl]; exact dropWhile_head p r h
theorem trim_nil (l : List UInt8) : trimS l digits = [] ↔ allD l = true := by
 have e : (fun x => digits.contains x) = isD := funext mem_digits
 unfold trimS trimLeftS trimRightS
 rw [e]
 unfold allD
 constructor
 ·intro h
  by_cases c : l.reverse.dropWhile isD = []
  ·have := (dropWhile_nil isD l.reverse).1 c
   rwa [List.all_reverse] at this
  ·have h1 := dropWhile_head isD l.reverse c
   have h2 := (dropWhile_nil isD _).1 h
   rw [List.all_reverse, h1] at h2
   exact absurd h2 (by simp)
 ·intro h
  have : l.reverse.dropWhile isD = [] := (dropWhile_nil isD l.reverse).2 (by rw [List.all_reverse]; exact h)
  rw [this]; rfl
theorem valF_lt (l : List UInt8) : ∀ n m : Nat, allD l = true → n + 1 ≤ m → valF n l + 1 ≤ m * 10 ^ l.length := by
 induction l with
 | nil => intro n m _ h; rw [List.length_nil, Nat.pow_zero, Nat.mul_one]; exact h
 | cons b r ih =>
   intro n m h hn
   simp only [allD, List.all_cons, Bool.and_eq_true] at h
   have hb : 48 ≤ b.toNat ∧ b.toNat ≤ 57 := by simpa [isD] using h.1
   have h1 := ih (10 * n + (b.toNat - 48)) (m * 10) h.2 (by omega)
   rw [List.length_cons, Nat.pow_succ, Nat.mul_comm (10 ^ r.length), ← Nat.mul_assoc]
   exact h1
theorem val_lt {l : List UInt8} (h : allD l = true) : val l < 10 ^ l.length := by
 have h1 := valF_lt l 0 1 h (Nat.le_refl _)
 rw [Nat.one_mul] at h1
 exact h1
end Dg
end Go.Proofs.YtbbgebpgpadclaaGreatDoor
namespace Go.Proofs.YtbbgebpgpadclaaGreatDoor
open Go.RowKit
namespace St
def num13 (a : List UInt8) : Option Nat := if (1 ≤ a.length ∧ a.length ≤ 13) ∧ Dg.allD a = true ∧ ¬ (1 < a.length ∧ a[0]? = some 48) then some (Dg.val a) else none
def two (x yes no : List UInt8) : Option Bool := if x = yes then some true else if x = no then some false else none
def kS : List UInt8 := [115, 116, 111, 114, 101]
def kT : List UInt8 := [116, 105, 101, 114]
def kF : List UInt8 := [102, 105, 108, 101]
def kC : List UInt8 := [99, 111, 112, 121]
def kH : List UInt8 := [104, 101, 108, 100]
def kB : List UInt8 := [98, 105, 110]
def wOrig : List UInt8 := [111, 114, 105, 103, 105, 110, 97, 108]
def wSide : List UInt8 := [115, 105, 100, 101, 99, 97, 114]
def wDeri : List UInt8 := [100, 101, 114, 105, 118, 101, 100]
def wAway : List UInt8 := [97, 119, 97, 121]
def wHere : List UInt8 := [104, 101, 114, 101]
def wGood : List UInt8 := [103, 111, 111, 100]
def wBad : List UInt8 := [98, 97, 100]
inductive Ent
 | sto (a b : Nat)
 | tir (t : Tir)
 | fil (f : Fil)
 | cop (c : Cop)
 | hld (d : ByteArray)
 | bin (g : Gon)
def Ent.sec : Ent → Nat
 | .sto _ _ => 1
 | .tir _ => 2
 | .fil _ => 3
 | .cop _ => 4
 | .hld _ => 5
 | .bin _ => 6
def Ent.put (s : Sto) : Ent → Sto
 | .sto a b => { s with least := a, wait := b }
 | .tir t => { s with tiers := s.tiers ++ [t] }
 | .fil f => { s with files := s.files ++ [f] }
 | .cop c => { s with copies := s.copies ++ [c] }
 | .hld d => { s with held := s.held ++ [d] }
 | .bin g => { s with bin := s.bin ++ [g] }
def kindW (x : List UInt8) : Int := if x = wOrig then 1 else if x = wSide then 2 else if x = wDeri then 3 else 0
def entS (R : List (List UInt8)) : Option Ent := match R with
 | [a, b] => (num13 a).bind fun x => (num13 b).map fun y => .sto x y
 | _ => none
def entT (R : List (List UInt8)) : Option Ent := match R with
 | [a, b, c, d] => if a = [] then none else (num13 b).bind fun x => (num13 c).bind fun y => (two d wAway wHere).map fun z => .tir ⟨Tx.mk a, x, y, z⟩
 | _ => none
def entF (R : List (List UInt8)) : Option Ent := match R with
 | [a, b, c] => if a = [] then none else (num13 b).bind fun x => if kindW c = 1 then some (.fil ⟨Tx.mk a, x, 1, ⟨#[]⟩⟩) else none
 | [a, b, c, d] => if a = [] ∨ d = [] then none else (num13 b).bind fun x => if kindW c = 2 ∨ kindW c = 3 then some (.fil ⟨Tx.mk a, x, kindW c, Tx.mk d⟩) else none
 | _ => none
def entC (R : List (List UInt8)) : Option Ent := match R with
 | [a, b, c, d] => if a = [] ∨ b = [] then none else (two c wGood wBad).bind fun z => (num13 d).map fun (y : Nat) => Ent.cop ⟨Tx.mk a, Tx.mk b, z, (y : Int)⟩
 | _ => none
def entH (R : List (List UInt8)) : Option Ent := match R with
 | [a] => if a = [] then none else some (.hld (Tx.mk a))
 | _ => none
def entB (R : List (List UInt8)) : Option Ent := match R with
 | [a, b] => if a = [] then none else (num13 b).map fun (y : Nat) => Ent.bin ⟨Tx.mk a, (y : Int)⟩
 | _ => none
def secW (k : List UInt8) : Nat := if k = kS then 0 else if k = kT then 1 else if k = kF then 2 else if k = kC then 3 else if k = kH then 4 else if k = kB then 5 else 6
def entK (n : Nat) (R : List (List UInt8)) : Option Ent := match n with
 | 0 => entS R
 | 1 => entT R
 | 2 => entF R
 | 3 => entC R
 | 4 => entH R
 | 5 => entB R
 | _ => none
def ent (W : List (List UInt8)) : Option Ent := match W with
 | [] => none
 | k :: R => entK (secW k) R
theorem ent_sec {n : Nat} {R : List (List UInt8)} {e : Ent} (h : entK n R = some e) : e.sec = n + 1 := by
 unfold entK at h
 split at h
 ·unfold entS at h
  split at h
  ·rename_i a b
   cases ha : num13 a with
   | none => rw [ha] at h; cases h
   | some x => cases hb : num13 b with
     | none => rw [ha, hb] at h; cases h
     | some y => rw [ha, hb] at h; cases h; rfl
  ·cases h
 ·unfold entT at h
  split at h
  ·rename_i a b c d
   split at h
   ·cases h
   ·cases hb : num13 b with
    | none => rw [hb] at h; cases h
    | some x => cases hc : num13 c with
      | none => rw [hb, hc] at h; cases h
      | some y => cases hd : two d wAway wHere with
        | none => rw [hb, hc, hd] at h; cases h
        | some z => rw [hb, hc, hd] at h; cases h; rfl
  ·cases h
 ·unfold entF at h
  split at h
  ·rename_i a b c
   split at h
   ·cases h
   ·cases hb : num13 b with
    | none => rw [hb] at h; cases h
    | some x =>
      rw [hb] at h
      simp only [Option.bind_some] at h
      split at h
      ·cases h; rfl
      ·cases h
  ·rename_i a b c d
   split at h
   ·cases h
   ·cases hb : num13 b with
    | none => rw [hb] at h; cases h
    | some x =>
      rw [hb] at h
      simp only [Option.bind_some] at h
      split at h
      ·cases h; rfl
      ·cases h
  ·cases h
 ·unfold entC at h
  split at h
  ·rename_i a b c d
   split at h
   ·cases h
   ·cases hc : two c wGood wBad with
    | none => rw [hc] at h; cases h
    | some z => cases hd : num13 d with
      | none => rw [hc, hd] at h; cases h
      | some y => rw [hc, hd] at h; cases h; rfl
  ·cases h
 ·unfold entH at h
  split at h
  ·split at h
   ·cases h
   ·cases h; rfl
  ·cases h
 ·unfold entB at h
  split at h
  ·rename_i a b
   split at h
   ·cases h
   ·cases hb : num13 b with
    | none => rw [hb] at h; cases h
    | some y => rw [hb] at h; cases h; rfl
  ·cases h
 ·cases h
def rd : Nat → Sto → List (List UInt8) → Option (Nat × Sto)
 | last, s, [] => some (last, s)
 | last, s, l :: L => match ent (Pr.spl 32 l) with
   | none => none
   | some e => if e.sec < last ∨ ¬ (e.sec = 1 ↔ last = 0) then none else rd e.sec (e.put s) L
def rdX (last : Nat) (s : Sto) (t : List UInt8) : Option Sto := match rd last s (Pr.spl 10 t).dropLast with
 | none => none
 | some p => if p.1 = 0 ∨ (Pr.spl 10 t).getLast? ≠ some [] then none else some p.2
theorem rdX_nil (last : Nat) (s : Sto) : rdX last s [] = if last = 0 then none else some s := by
 unfold rdX
 show (match rd last s [] with | none => none | some p => _) = _
 simp only [rd, Pr.spl]
 by_cases h : last = 0 <;> simp [h]
theorem rdX_open {last : Nat} {s : Sto} {t : List UInt8} (h0 : t ≠ []) (h : Pr.cut1 10 t = none) : rdX last s t = none := by
 unfold rdX
 rw [Pr.spl_cut1, h]
 show (match rd last s [] with | none => none | some p => _) = _
 simp only [rd]
 rw [if_pos (.inr (by simp [h0]))]
theorem rdX_next {last : Nat} {s : Sto} {t l r : List UInt8} (h : Pr.cut1 10 t = some (l, r)) : rdX last s t = match ent (Pr.spl 32 l) with
  | none => none
  | some e => if e.sec < last ∨ ¬ (e.sec = 1 ↔ last = 0) then none else rdX e.sec (e.put s) r := by
 have hs : Pr.spl 10 t = l :: Pr.spl 10 r := by rw [Pr.spl_cut1, h]
 have hne := Pr.spl_ne 10 r
 unfold rdX
 rw [hs, List.dropLast_cons_of_ne_nil hne, List.getLast?_cons_of_ne_nil hne, rd]
 cases ent (Pr.spl 32 l) with
 | none => rfl
 | some e =>
   by_cases hc : e.sec < last ∨ ¬ (e.sec = 1 ↔ last = 0)
   ·simp only [if_pos hc]
   ·simp only [if_neg hc]
def readE (t : List UInt8) : Int × Sto := if 1000000 < t.length then (4, ⟨0, 0, [], [], [], [], []⟩) else match rdX 0 ⟨0, 0, [], [], [], [], []⟩ t with
 | none => (8, ⟨0, 0, [], [], [], [], []⟩)
 | some s => if err s = 0 then (0, s) else (err s, ⟨0, 0, [], [], [], [], []⟩)
end St
end Go.Proofs.YtbbgebpgpadclaaGreatDoor
namespace Go.Proofs.YtbbgebpgpadclaaGreatDoor
open Go.RowKit Go.Sort Go.Maps
structure StIn (w : World) (s : Sto) (a : StA) : Prop where
 ti : RowE St.eT w a.ta s.tiers
 fi : RowE St.eF w a.fa s.files
 co : RowE St.eC w a.ca s.copies
 he : RowE St.eS w a.ha s.held
 bi : RowE St.eG w a.ba s.bin
 tl : s.tiers.length ≤ a.tc ∧ a.tc ≤ 9223372036854775807
 fl : s.files.length ≤ a.fc ∧ a.fc ≤ 9223372036854775807
 cl : s.copies.length ≤ a.cc ∧ a.cc ≤ 9223372036854775807
 hl : s.held.length ≤ a.hc ∧ a.hc ≤ 9223372036854775807
 bl : s.bin.length ≤ a.bc ∧ a.bc ≤ 9223372036854775807
 tz : ∀ t ∈ s.tiers, t.name.size ≤ 9223372036854775807
 fz : ∀ f ∈ s.files, f.dig.size ≤ 9223372036854775807 ∧ f.frm.size ≤ 9223372036854775807
 cz : ∀ c ∈ s.copies, c.dig.size ≤ 9223372036854775807 ∧ c.tier.size ≤ 9223372036854775807
 hz : ∀ d ∈ s.held, d.size ≤ 9223372036854775807
 bz : ∀ g ∈ s.bin, g.dig.size ≤ 9223372036854775807
theorem StIn.keep {w w' : World} {s : Sto} {a : StA} (h : StIn w s a) (hb : Below w.heap.size w w') : StIn w' s a :=
 ⟨h.ti.keep hb, h.fi.keep hb, h.co.keep hb, h.he.keep hb, h.bi.keep hb, h.tl, h.fl, h.cl, h.hl, h.bl, h.tz, h.fz, h.cz, h.hz, h.bz⟩
namespace St
def fval (f : Fil) : Value := .agg #[.string f.dig, .int .i64 f.size, .int .i64 f.kind, .string f.frm]
def rdF (v : Value) : Option (DataW Value × List MemPlace) := some (.held v, [])
def kl (d : ByteArray) : Lit := .string d.data.toList
theorem kl_inj {d d' : ByteArray} (h : kl d = kl d') : d = d' := by
 unfold kl at h
 injection h with h
 exact ByteArray.ext (Array.toList_inj.1 h)
theorem kl_ne {d d' : ByteArray} (h : d ≠ d') : kl d ≠ kl d' := fun e => h (kl_inj e)
end St
def FMap (w : World) (b : Nat) (L : List Fil) : Prop :=
 ∃ D : DataW Value, w.ownsMap Tryz.prog 9 St.rdF b L.length D ∧ Tidy D ∧ ∀ d : ByteArray, (∀ z, D.atKey (St.kl d) z = match St.lastOf L d with | some f => .held (St.fval f) | none => z) ∧ has D (St.kl d) = (St.lastOf L d).isSome
theorem FMap.lt {w : World} {b : Nat} {L : List Fil} (h : FMap w b L) : b < w.heap.size := by
 obtain ⟨D, h1, _⟩ := h; exact h1.lt
theorem FMap.made (w : World) : FMap (w.alloc (.map #[] 0)) w.heap.size [] :=
 ⟨.map [], World.ownsMap_made w _ _ _, (World.ownsMap_made w Tryz.prog 9 St.rdF).tidy (string_keyed Tryz.underlying9), fun d => ⟨fun z => by simp [St.lastOf_nil, DataW.atKey], by simp [St.lastOf_nil, has]⟩⟩
theorem FMap.kept {w w' : World} {b : Nat} {L : List Fil} {row : Option Nat} (h : FMap w b L) (hg : w.grownBy w' row) (hne : some b ≠ row) : FMap w' b L := by
 obtain ⟨D, h1, h2, h3⟩ := h
 exact ⟨D, h1.kept hg hne, h2, h3⟩
theorem FMap.keep {w w' : World} {b : Nat} {L : List Fil} (h : FMap w b L) (hb : Below w.heap.size w w') : FMap w' b L :=
 h.kept (row := none) ⟨hb.os, hb.tape, hb.output, hb.size, fun k hk _ => hb.block k hk⟩ (by simp)
theorem FMap.put {w w' : World} {b : Nat} {L : List Fil} {f : Fil} {D : DataW Value} (h2 : Tidy D) (h3 : ∀ d : ByteArray, (∀ z, D.atKey (St.kl d) z = match St.lastOf L d with | some f => .held (St.fval f) | none => z) ∧ has D (St.kl d) = (St.lastOf L d).isSome)
  (h4 : w'.ownsMap Tryz.prog 9 St.rdF b (L.length + 1) (D.put (St.kl f.dig) (.held (St.fval f)))) : FMap w' b (L ++ [f]) := by
 refine ⟨_, by rw [List.length_append]; exact h4, h4.tidy (string_keyed Tryz.underlying9), fun d => ?_⟩
 have hk : WideAt.IsKeyLit (St.kl f.dig) := trivial
 rw [St.lastOf_snoc]
 by_cases e : St.eq f.dig d = true
 ·rw [if_pos e]
  obtain rfl := St.eq_iff.1 e
  exact ⟨fun z => atKey_put_same h2.isMap hk _ _, has_put_same h2.isMap hk _⟩
 ·rw [if_neg e]
  have hne : St.kl d ≠ St.kl f.dig := St.kl_ne fun e2 => e (St.eq_iff.2 e2.symm)
  exact ⟨fun z => by rw [atKey_put_other hne]; exact (h3 d).1 z, by rw [has_put_other hne]; exact (h3 d).2⟩
theorem zeroFil (w : World) : (zeroValue 68).run Tryz.prog w = .ok (St.fval St.zeroF) w := by kernel_rfl
theorem keyS {d : ByteArray} (h : d.size ≤ 9223372036854775807) : keyOf Tryz.prog 9 (.string d) = some (St.kl d) := WideMaps.keyOf_string_mk Tryz.underlying9 h
theorem FMap.look {w : World} {b : Nat} {L : List Fil} (h : FMap w b L) {d : ByteArray} (hd : d.size ≤ 9223372036854775807) :
  (Instr.lookup 112 (.map (some b)) (.string d) false).run Tryz.prog w = .ok (St.fval ((St.lastOf L d).getD St.zeroF)) w := by
 obtain ⟨D, h1, h2, h3⟩ := h
 obtain ⟨v, ps, hr, hv⟩ := h1.lookup (string_keyed Tryz.underlying9) Tryz.underlying112 (zeroFil w) (zd := .held (St.fval St.zeroF)) (zp := []) rfl (keyS hd)
 rw [(h3 d).1] at hv
 rw [hr]
 cases hl : St.lastOf L d with
 | none => rw [hl] at hv; unfold St.rdF at hv; simp at hv; rw [hv.1]; rfl
 | some f => rw [hl] at hv; unfold St.rdF at hv; simp at hv; rw [hv.1]; rfl
theorem FMap.look_ok {w : World} {b : Nat} {L : List Fil} (h : FMap w b L) {d : ByteArray} (hd : d.size ≤ 9223372036854775807) :
  (Instr.lookup 112 (.map (some b)) (.string d) true).run Tryz.prog w = .ok (.tuple #[St.fval ((St.lastOf L d).getD St.zeroF), .bool (St.lastOf L d).isSome]) w := by
 obtain ⟨D, h1, h2, h3⟩ := h
 obtain ⟨v, ps, hr, hv⟩ := h1.look_ok (string_keyed Tryz.underlying9) Tryz.underlying112 (zeroFil w) (zd := .held (St.fval St.zeroF)) (zp := []) rfl (keyS hd)
 rw [(h3 d).1] at hv
 rw [hr, (h3 d).2]
 cases hl : St.lastOf L d with
 | none => rw [hl] at hv; unfold St.rdF at hv; simp at hv; rw [hv.1]; rfl
 | some f => rw [hl] at hv; unfold St.rdF at hv; simp at hv; rw [hv.1]; rfl
end Go.Proofs.YtbbgebpgpadclaaGreatDoor
