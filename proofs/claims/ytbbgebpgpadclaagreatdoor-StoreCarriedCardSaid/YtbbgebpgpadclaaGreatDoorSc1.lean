/- Parts of the proof, no condition: Own, Stb, FdMath, StHeld, StImp, StText, TxMath, SplMath, StGood, StTextB, StPart, JoinLays, StrV, JoinC, BldLays, Bld, TxLays, TxTab, TxTld, StLine, StMkb, StEvM, StMem, StRel, StRen, StHgR, HexMath, StHx, StDgM, RepLays, StDg. -/
import Derived.Test.YtbbgebpgpadclaaGreatDoorSr20
import Derived.Maps.AppendAt
import Derived.OwnWalk
import Derived.Laws.IdiomCopy
import Derived.Lib.AppendZeros
import Derived.Deep.RegionLaw
import Derived.ArgAppend
import Derived.Deep.MidRow
import Derived.BigRegion
import Derived.Maps.RangeWalk
import Derived.Deep.Cut
import Derived.Lib.Join
import Derived.Lib.ItoaLen
import Derived.Lib.Repeat
import Derived.Test.YtbbgebpgpadclaaGreatDoorProg
import Derived.Lib.Split
import Derived.Shelf.Strings.OnBuilder
import Derived.Shelf.Strings.Builder1
import Derived.Shelf.Strings.Builder2
import Derived.Shelf.Strings.BuilderF
import Derived.Shelf.Strings.BuilderK
import Derived.Shelf.Strconv.Itoa3
import Derived.Lib.LaidTab
import Derived.LaidMore
import Derived.Stop.LaidErr
import Derived.Shelf.Unicode.PredsPay
import Derived.Laws.IdiomStrings
import Derived.Laws.Bits64b
import Derived.Lib.TrailingZeros
import Derived.Lib.SmallJoins
import Derived.Shelf.Strings.Repeat
import Derived.Laws.Bits64
set_option maxRecDepth 100000
set_option maxHeartbeats 4000000
set_option linter.unusedSimpArgs false
set_option linter.unusedVariables false
namespace Go.Proofs.YtbbgebpgpadclaaGreatDoor
open Go.RowKit
theorem ownsRow_new (w : World) (base : Nat) (e : TypeId) (c : Array Value) (hb : base ≤ w.heap.size) (hm : c.size ≤ maxLen) :
  (w.alloc (.cells c e)).ownsRow base e 1 (.slice (some ⟨w.heap.size, 0, none⟩) c.size c.size) c.size c.toList :=
 ⟨by simp, .inr ⟨w.heap.size, c.size, c, rfl, hb, heap_alloc_new w _, Nat.le_refl _, hm, by simp, by rw [Nat.mul_one, ← Array.length_toList, List.take_length]⟩⟩
section
variable {w : World} {B k g n cap : Nat} {e : TypeId} {xs : List Value}
end
namespace Enc
variable {α : Type} (E : Enc α)
end Enc
end Go.Proofs.YtbbgebpgpadclaaGreatDoor
namespace Go.Proofs.YtbbgebpgpadclaaGreatDoor
namespace Stb
variable {α : Type} (lt : α → α → Prop) (neg : α → α → Bool)
structure Ord : Prop where
 tr : ∀ x y z, lt x y → lt y z → lt x z
 asym : ∀ x y, lt x y → ¬ lt y x
variable {lt neg}
theorem unique (O : Ord lt) : ∀ {L M : List α}, List.Perm L M → L.Pairwise lt → M.Pairwise lt → L = M := by
 intro L
 induction L with
 | nil => intro M hp _ _; exact (List.nil_perm.1 hp).symm
 | cons x L ih =>
   intro M hp h1 h2
   cases M with
   | nil => exact absurd (hp.length_eq) (by simp)
   | cons y M =>
     have hxy : x = y := by
      rcases List.mem_cons.1 (hp.mem_iff.1 (List.mem_cons_self ..) : x ∈ y :: M) with e | e
      ·exact e
      ·rcases List.mem_cons.1 (hp.mem_iff.2 (List.mem_cons_self ..) : y ∈ x :: L) with g | g
       ·exact g.symm
       ·exact absurd ((List.pairwise_cons.1 h1).1 y g) (O.asym _ _ ((List.pairwise_cons.1 h2).1 x e))
     subst hxy
     rw [ih (List.Perm.cons_inv hp) (List.pairwise_cons.1 h1).2 (List.pairwise_cons.1 h2).2]
end Stb
end Go.Proofs.YtbbgebpgpadclaaGreatDoor
namespace Go.Proofs.YtbbgebpgpadclaaGreatDoor
open Go.RowKit
namespace SRow
variable {α : Type} {E : Enc α} {w w' : World} {B g cap n : Nat} {e : TypeId} {L : List α}
end SRow
namespace SRow
variable {α : Type} {E : Enc α} {w w' : World} {B g cap n : Nat} {e : TypeId} {L : List α}
end SRow
end Go.Proofs.YtbbgebpgpadclaaGreatDoor
namespace Go.Proofs.YtbbgebpgpadclaaGreatDoor
namespace Stb
variable {α : Type}
variable {lt : α → α → Prop} {neg : α → α → Bool}
end Stb
end Go.Proofs.YtbbgebpgpadclaaGreatDoor
namespace Go.Proofs.YtbbgebpgpadclaaGreatDoor
open Go.RowKit Go.Sort
section
variable {P : Program} {ops : Array Oper} {Q : Exit → Act → World → Prop} {md : Region.Mode} {C : World → Prop} {m : Nat}
variable {f : Nat} {l : Array Bool} {a : Act} {w : World} {oi : Oper}
end





namespace Stb
variable {α : Type} {lt : α → α → Prop} {neg : α → α → Bool}
end Stb

end Go.Proofs.YtbbgebpgpadclaaGreatDoor
namespace Go.Proofs.YtbbgebpgpadclaaGreatDoor.Fd
theorem hexN_iff (c : Nat) : hexN c = true ↔ 48 ≤ c ∧ c ≤ 57 ∨ 97 ≤ c ∧ c ≤ 102 := by simp [hexN]
end Go.Proofs.YtbbgebpgpadclaaGreatDoor.Fd
namespace Go.Proofs.YtbbgebpgpadclaaGreatDoor
open Go.RowKit
namespace St
def needed (s : Sto) (f : Fil) : Bool := if f.kind = 1 then kept s f.dig else if f.kind = 2 then kept s f.frm else false
theorem binR_iff {H : List ByteArray} {g : Gon} : binR H g = 0 ↔ inB g.day 0 73048 = true ∧ hasK id H g.dig = false := by
 have e : hasS H g.dig = hasK id H g.dig := rfl
 unfold binR
 rw [e]
 cases inB g.day 0 73048 <;> cases hasK id H g.dig <;> simp
end St
namespace St
theorem dig16 {d : ByteArray} (h : Fd.fileB d = true) : d.size = 16 := by
 unfold Fd.fileB at h
 exact (of_decide_eq_true h).1
theorem cop_dig {s : Sto} (r : Right s) {c : Cop} (hc : c ∈ s.copies) : c.dig.size = 16 := by
 obtain ⟨h1, _⟩ := r.cop c hc
 cases hf : fileOf s.files c.dig with
 | none => rw [hf] at h1; cases h1
 | some f =>
   obtain ⟨h2, h3⟩ := find_mem hf
   rw [← eq_iff.1 h3]
   exact dig16 (r.dig f h2).1
end St
namespace St
theorem linesT_snoc (L : List (List UInt8)) (l : List UInt8) : linesT (L ++ [l]) = linesT L ++ (l ++ [10]) := by simp [linesT]
theorem linesT_app (L M : List (List UInt8)) : linesT (L ++ M) = linesT L ++ linesT M := by simp [linesT]
theorem linesT_len (k : Nat) : ∀ L : List (List UInt8), (∀ l ∈ L, l.length ≤ k) → (linesT L).length ≤ L.length * (k + 1)
 | [], _ => by simp [linesT]
 | l :: L, h => by
   have h1 := linesT_len k L fun x hx => h x (by simp [hx])
   have h2 := h l (by simp)
   have e : linesT (l :: L) = (l ++ [10]) ++ linesT L := by simp [linesT]
   rw [e]
   simp only [List.length_append, List.length_cons, List.length_nil, Nat.add_mul] at h1 ⊢
   omega
end St
end Go.Proofs.YtbbgebpgpadclaaGreatDoor
namespace Go.Proofs.YtbbgebpgpadclaaGreatDoor
namespace Tx
open Go.Lib
theorem mk_append (a b : List UInt8) : mk a ++ mk b = mk (a ++ b) := by
 apply ByteArray.ext
 simp [mk]
def dl (n : Nat) : Nat := (decDigits n).length
end Tx
namespace Pr
open Go.Lib
theorem cut1_append {c : UInt8} : ∀ {a : List UInt8} (b : List UInt8), c ∉ a → cut1 c (a ++ c :: b) = some (a, b)
 | [], b, _ => by simp [cut1]
 | x :: a, b, h => by
   have hx : x ≠ c := fun e => h (by simp [e])
   rw [List.cons_append, cut1, if_neg hx, cut1_append b (fun hm => h (List.mem_cons_of_mem _ hm))]; rfl
theorem cut1_none {c : UInt8} : ∀ {a : List UInt8}, c ∉ a → cut1 c a = none
 | [], _ => rfl
 | x :: a, h => by
   have hx : x ≠ c := fun e => h (by simp [e])
   rw [cut1, if_neg hx, cut1_none (fun hm => h (List.mem_cons_of_mem _ hm))]; rfl
theorem spl_append {c : UInt8} {a : List UInt8} (b : List UInt8) (h : c ∉ a) : spl c (a ++ c :: b) = a :: spl c b := by rw [spl_cut1, cut1_append b h]
theorem spl_none {c : UInt8} {a : List UInt8} (h : c ∉ a) : spl c a = [a] := by rw [spl_cut1, cut1_none h]
end Pr
end Go.Proofs.YtbbgebpgpadclaaGreatDoor
namespace Go.Proofs.YtbbgebpgpadclaaGreatDoor
open Go.RowKit
namespace St
def neededD (s : Sto) (d : ByteArray) : Bool := needed s (filD s.files d)
def garbage (s : Sto) (c : Cop) : Bool :=
 !(neededD s c.dig || (decide ((filD s.files c.dig).kind = 3) && neededD s (filD s.files c.dig).frm)) || (!c.good && decide (0 < (goodL s c.dig).length))
end St
namespace St
theorem linesT_sum (L : List (List UInt8)) (k n : Nat) (h : ∀ l ∈ L, l.length ≤ k) (hn : L.length ≤ n) : (linesT L).length ≤ n * (k + 1) := Nat.le_trans (linesT_len k L h) (Nat.mul_le_mul_right _ hn)
theorem ln3 (a b c : List UInt8) : ln [a, b, c] = a ++ [32] ++ b ++ [32] ++ c := by unfold ln; rw [Lib.join_cons]; simp [Lib.joinTail]
theorem ln2 (a b : List UInt8) : ln [a, b] = a ++ [32] ++ b := by unfold ln; rw [Lib.join_cons]; simp [Lib.joinTail]
theorem ln4 (a b c d : List UInt8) : ln [a, b, c, d] = a ++ [32] ++ b ++ [32] ++ c ++ [32] ++ d := by unfold ln; rw [Lib.join_cons]; simp [Lib.joinTail]
theorem ln5 (a b c d e : List UInt8) : ln [a, b, c, d, e] = a ++ [32] ++ b ++ [32] ++ c ++ [32] ++ d ++ [32] ++ e := by unfold ln; rw [Lib.join_cons]; simp [Lib.joinTail]
theorem inB_iff {n lo hi : Int} : inB n lo hi = true ↔ lo ≤ n ∧ n ≤ hi := by unfold inB; exact decide_eq_true_iff
theorem itoa21 {n : Int} (h : -1000000000000000 ≤ n ∧ n ≤ 1000000000000000) : (Lib.itoa n).length ≤ 21 := Lib.itoa_length_le n (by omega) (by omega)
theorem tier_good {s : Sto} (r : Right s) {t : Tir} (ht : t ∈ s.tiers) : Fd.nameB t.name = true ∧ (0 ≤ t.room ∧ t.room ≤ 1000000000000) ∧ (0 ≤ t.cost ∧ t.cost ≤ 1000000) := by
 obtain ⟨i, hi⟩ := List.getElem?_of_mem ht
 have h := scan_iff.1 r.tiers i t hi
 unfold tierE at h
 split at h
 ·rename_i h1
  split at h
  ·cases h
  ·split at h
   ·rename_i h2
    exact ⟨h1, inB_iff.1 h2.1, inB_iff.1 h2.2⟩
   ·cases h
 ·cases h
theorem name40 {n : ByteArray} (h : Fd.nameB n = true) : n.size ≤ 40 := by
 unfold Fd.nameB at h
 exact (of_decide_eq_true h).1.2
theorem file_good {s : Sto} (r : Right s) {f : Fil} (hf : f ∈ s.files) : f.dig.size = 16 ∧ (0 ≤ f.size ∧ f.size ≤ 1000000000) ∧ (1 ≤ f.kind ∧ f.kind ≤ 3) ∧ (f.kind ≠ 1 → f.frm.size = 16) := by
 obtain ⟨h1, h2⟩ := r.dig f hf
 unfold fileR at h2
 split at h2
 ·rename_i h3
  split at h2
  ·rename_i h4
   refine ⟨dig16 h1, inB_iff.1 h3, inB_iff.1 h4, fun hk => ?_⟩
   obtain ⟨g, _, hg, hd, _⟩ := kind_mem (r.frm f hf hk)
   rw [← hd]
   exact dig16 (r.dig g hg).1
  ·cases h2
 ·cases h2
theorem hasTier_mem {L : List Tir} {n : ByteArray} (h : hasTier L n = true) : ∃ t ∈ L, t.name = n := by
 unfold hasTier at h
 obtain ⟨t, h1, h2⟩ := List.any_eq_true.1 h
 exact ⟨t, h1, eq_iff.1 h2⟩
theorem cop_good {s : Sto} (r : Right s) {c : Cop} (hc : c ∈ s.copies) : c.dig.size = 16 ∧ c.tier.size ≤ 40 ∧ (0 ≤ c.asked ∧ c.asked ≤ 6311433599) := by
 obtain ⟨h1, h2, h3⟩ := r.cop c hc
 obtain ⟨t, ht, hn⟩ := hasTier_mem h2
 refine ⟨cop_dig r hc, by rw [← hn]; exact name40 (tier_good r ht).1, ?_⟩
 unfold isMom at h3
 exact of_decide_eq_true h3
theorem kind16 {s : Sto} (r : Right s) {d : ByteArray} (h : kindOf s.files d = 1) : d.size = 16 := by
 obtain ⟨g, _, hg, hd, _⟩ := kind_mem h
 rw [← hd]
 exact dig16 (r.dig g hg).1
theorem dl (d : ByteArray) : d.data.toList.length = d.size := rfl
theorem text_len {s : Sto} (r : Right s) : (text s).length ≤ 600000 := by
 obtain ⟨⟨z0, z1⟩, z2, z3, z4, z5, z6⟩ := sizes_iff.1 r.sizes
 have b0 := inB_iff.1 z0
 have b1 := inB_iff.1 z1
 have e0 : (linesT [ln (w0 s)]).length ≤ 1 * (60 + 1) := linesT_sum _ 60 1 (fun l hl => by
  rw [List.mem_singleton] at hl; subst hl
  have h1 := itoa21 (n := s.least) (by omega); have h2 := itoa21 (n := s.wait) (by omega)
  unfold w0; rw [ln3]; simp only [List.length_append, List.length_cons, List.length_nil]; omega) (by simp)
 have e1 : (linesT (s.tiers.map fun t => ln (wT t))).length ≤ 8 * (120 + 1) := linesT_sum _ 120 8 (fun l hl => by
  obtain ⟨t, ht, rfl⟩ := List.mem_map.1 hl
  obtain ⟨g1, g2, g3⟩ := tier_good r ht
  have h0 := name40 g1
  have h1 := itoa21 (n := t.room) (by omega); have h2 := itoa21 (n := t.cost) (by omega)
  have h3 : (tow t.away [97, 119, 97, 121] [104, 101, 114, 101]).length = 4 := by unfold tow; split <;> rfl
  unfold wT; rw [ln5]; simp only [List.length_append, List.length_cons, List.length_nil, h3, dl]; omega) (by simpa using z2)
 have e2 : (linesT (s.files.map fun f => ln (wF f))).length ≤ 500 * (90 + 1) := linesT_sum _ 90 500 (fun l hl => by
  obtain ⟨f, hf, rfl⟩ := List.mem_map.1 hl
  obtain ⟨g1, g2, g3, g4⟩ := file_good r hf
  have h1 := itoa21 (n := f.size) (by omega)
  have h3 : (kindT f.kind).length ≤ 8 := by unfold kindT; split; · decide
                                            split <;> decide
  unfold wF
  by_cases hk : f.kind = 1
  ·rw [if_pos hk, List.append_nil, ln4]; simp only [List.length_append, List.length_cons, List.length_nil, dl]; omega
  ·have h4 := g4 hk
   rw [if_neg hk]
   show (ln [_, _, _, _, _]).length ≤ 90
   rw [ln5]; simp only [List.length_append, List.length_cons, List.length_nil, dl]; omega) (by simpa using z3)
 have e3 : (linesT (s.copies.map fun c => ln (wC c))).length ≤ 4000 * (90 + 1) := linesT_sum _ 90 4000 (fun l hl => by
  obtain ⟨c, hc, rfl⟩ := List.mem_map.1 hl
  obtain ⟨g1, g2, g3⟩ := cop_good r hc
  have h1 := itoa21 (n := c.asked) (by omega)
  have h3 : (tow c.good [103, 111, 111, 100] [98, 97, 100]).length ≤ 4 := by unfold tow; split <;> decide
  unfold wC; rw [ln5]; simp only [List.length_append, List.length_cons, List.length_nil, dl]; omega) (by simpa using z4)
 have e4 : (linesT (s.held.map fun d => ln (wH d))).length ≤ 500 * (30 + 1) := linesT_sum _ 30 500 (fun l hl => by
  obtain ⟨d, hd, rfl⟩ := List.mem_map.1 hl
  have g := kind16 r (r.held d hd)
  unfold wH; rw [ln2]; simp only [List.length_append, List.length_cons, List.length_nil, dl]; omega) (by simpa using z5)
 have e5 : (linesT (s.bin.map fun g => ln (wB g))).length ≤ 500 * (50 + 1) := linesT_sum _ 50 500 (fun l hl => by
  obtain ⟨g, hg, rfl⟩ := List.mem_map.1 hl
  have h0 := kind16 r (r.bin g hg).1
  have hb := inB_iff.1 (binR_iff.1 (r.bin g hg).2).1
  have h1 := itoa21 (n := g.day) (by omega)
  unfold wB; rw [ln3]; simp only [List.length_append, List.length_cons, List.length_nil, dl]; omega) (by simpa using z6)
 unfold text all
 rw [linesT_app, linesT_app, linesT_app, linesT_app, linesT_app]
 simp only [List.length_append]
 omega
end St
namespace St
def fZ (s : Sto) : List UInt8 := ln (w0 s)
def fT (t : Tir) : List UInt8 := ln (wT t)
def fF (f : Fil) : List UInt8 := ln (wF f)
def fC (c : Cop) : List UInt8 := ln (wC c)
def fH (d : ByteArray) : List UInt8 := ln (wH d)
def fB (g : Gon) : List UInt8 := ln (wB g)
def A0 (s : Sto) : List (List UInt8) := [ln (w0 s)]
def A1 (s : Sto) : List (List UInt8) := A0 s ++ s.tiers.map fT
def A2 (s : Sto) : List (List UInt8) := A1 s ++ s.files.map fF
def A3 (s : Sto) : List (List UInt8) := A2 s ++ s.copies.map fC
def A4 (s : Sto) : List (List UInt8) := A3 s ++ s.held.map fH
def A5 (s : Sto) : List (List UInt8) := A4 s ++ s.bin.map fB
def partL {α : Type} (A : List (List UInt8)) (f : α → List UInt8) (L : List α) (j : Nat) : List (List UInt8) := A ++ (L.take j).map f
def part {α : Type} (A : List (List UInt8)) (f : α → List UInt8) (L : List α) (j : Nat) : List UInt8 := linesT (partL A f L j)
theorem partL_zero {α : Type} (A : List (List UInt8)) (f : α → List UInt8) (L : List α) : partL A f L 0 = A := by simp [partL]
theorem partL_succ {α : Type} {A : List (List UInt8)} {f : α → List UInt8} {L : List α} {j : Nat} {x : α} (h : L[j]? = some x) : partL A f L (j + 1) = partL A f L j ++ [f x] := by
 unfold partL
 rw [List.take_add_one, h]
 simp
theorem partL_all {α : Type} (A : List (List UInt8)) (f : α → List UInt8) (L : List α) : partL A f L L.length = A ++ L.map f := by simp [partL]
theorem part_zero {α : Type} (A : List (List UInt8)) (f : α → List UInt8) (L : List α) : part A f L 0 = linesT A := by unfold part; rw [partL_zero]
theorem part_succ {α : Type} {A : List (List UInt8)} {f : α → List UInt8} {L : List α} {j : Nat} {x : α} (h : L[j]? = some x) : part A f L (j + 1) = part A f L j ++ (f x ++ [10]) := by
 unfold part; rw [partL_succ h, linesT_snoc]
theorem part_all {α : Type} (A : List (List UInt8)) (f : α → List UInt8) (L : List α) : part A f L L.length = linesT (A ++ L.map f) := by unfold part; rw [partL_all]
theorem linesT_le (A B : List (List UInt8)) : (linesT A).length ≤ (linesT (A ++ B)).length := by rw [linesT_app, List.length_append]; omega
theorem part_le {α : Type} (A : List (List UInt8)) (f : α → List UInt8) (L : List α) (j : Nat) : (part A f L j).length ≤ (linesT (A ++ L.map f)).length := by
 unfold part partL
 have : L.map f = (L.take j).map f ++ (L.drop j).map f := by rw [← List.map_append, List.take_append_drop]
 rw [this, ← List.append_assoc]
 exact linesT_le _ _
theorem A_len {s : Sto} (r : Right s) : (linesT (A0 s)).length ≤ 600000 ∧ (linesT (A1 s)).length ≤ 600000 ∧ (linesT (A2 s)).length ≤ 600000 ∧ (linesT (A3 s)).length ≤ 600000 ∧ (linesT (A4 s)).length ≤ 600000 ∧ (linesT (A5 s)).length ≤ 600000 := by
 have h5 : (linesT (A5 s)).length ≤ 600000 := text_len r
 have h4 := linesT_le (A4 s) (s.bin.map fB)
 have h3 := linesT_le (A3 s) (s.held.map fH)
 have h2 := linesT_le (A2 s) (s.copies.map fC)
 have h1 := linesT_le (A1 s) (s.files.map fF)
 have h0 := linesT_le (A0 s) (s.tiers.map fT)
 have e5 : (linesT (A4 s ++ s.bin.map fB)).length ≤ 600000 := h5
 have e4 : (linesT (A3 s ++ s.held.map fH)).length ≤ 600000 := Nat.le_trans h4 e5
 have e3 : (linesT (A2 s ++ s.copies.map fC)).length ≤ 600000 := Nat.le_trans h3 e4
 have e2 : (linesT (A1 s ++ s.files.map fF)).length ≤ 600000 := Nat.le_trans h2 e3
 have e1 : (linesT (A0 s ++ s.tiers.map fT)).length ≤ 600000 := Nat.le_trans h1 e2
 exact ⟨Nat.le_trans h0 e1, e1, e2, e3, e4, h5⟩
end St
end Go.Proofs.YtbbgebpgpadclaaGreatDoor
namespace Go.Proofs.YtbbgebpgpadclaaGreatDoor
open Go.Shelf
def Lay.joinS_ren : Go.Shelf.Ren := ⟨fun | 156 => 71 | 165 => 95 | 166 => 23 | 169 => 29 | 240 => 70 | 241 => 126 | 276 => 96 | 277 => 146 | n => n, fun | 31 => 25 | 9 => 9 | 3 => 3 | 4 => 4 | 0 => 0 | 20 => 20 | 72 => 57 | 76 => 60 | 70 => 54 | 37 => 55 | 75 => 59 | 127 => 106 | 164 => 124 | 5 => 5 | 80 => 47 | n => n, fun | n => n⟩
theorem Lay.joinS : Go.Proofs.Lays.n156 Tryz.prog Lay.joinS_ren := {
 mixed := by kernel_rfl
 f156 := Tryz.func71.trans (congrArg some (by kernel_rfl))
 f165 := Tryz.func95.trans (congrArg some (by kernel_rfl))
 f166 := Tryz.func23.trans (congrArg some (by kernel_rfl))
 f169 := Tryz.func29.trans (congrArg some (by kernel_rfl))
 f240 := Tryz.func70.trans (congrArg some (by kernel_rfl))
 f241 := Tryz.func126.trans (congrArg some (by kernel_rfl))
 f276 := Tryz.func96.trans (congrArg some (by kernel_rfl))
 f277 := Tryz.func146.trans (congrArg some (by kernel_rfl))
 t0 := Tryz.underlying0
 a0 := Tryz.isAgg0
 z0 := Tryz.sizeOf0
 v0 := Tryz.zeroValue0
 t3 := Tryz.underlying3
 a3 := Tryz.isAgg3
 z3 := Tryz.sizeOf3
 v3 := Tryz.zeroValue3
 t4 := Tryz.underlying4
 a4 := Tryz.isAgg4
 z4 := Tryz.sizeOf4
 v4 := Tryz.zeroValue4
 t9 := Tryz.underlying9
 a9 := Tryz.isAgg9
 z9 := Tryz.sizeOf9
 v9 := Tryz.zeroValue9
 t20 := Tryz.underlying20
 a20 := Tryz.isAgg20
 z20 := Tryz.sizeOf20
 v20 := Tryz.zeroValue20
 t31 := Tryz.underlying25
 a31 := Tryz.isAgg25
 z31 := Tryz.sizeOf25
 v31 := Tryz.zeroValue25
 t37 := Tryz.underlying55
 a37 := Tryz.isAgg55
 z37 := Tryz.sizeOf55
 v37 := Tryz.zeroValue55
 t70 := Tryz.underlying54
 a70 := Tryz.isAgg54
 z70 := Tryz.sizeOf54
 v70 := Tryz.zeroValue54
 t72 := Tryz.underlying57
 a72 := Tryz.isAgg57
 z72 := Tryz.sizeOf57
 v72 := Tryz.zeroValue57
 t75 := Tryz.underlying59
 a75 := Tryz.isAgg59
 z75 := Tryz.sizeOf59
 v75 := Tryz.zeroValue59
 t76 := Tryz.underlying60
 a76 := Tryz.isAgg60
 z76 := Tryz.sizeOf60
 v76 := Tryz.zeroValue60
 t127 := Tryz.underlying106
 a127 := Tryz.isAgg106
 z127 := Tryz.sizeOf106
 v127 := Tryz.zeroValue106
 t164 := Tryz.underlying124
 a164 := Tryz.isAgg124
 z164 := Tryz.sizeOf124
 v164 := Tryz.zeroValue124 }
end Go.Proofs.YtbbgebpgpadclaaGreatDoor
namespace Go.Proofs.YtbbgebpgpadclaaGreatDoor
open Go.RowKit Go.Sort
theorem infoStr : (Tryz.prog.info? 9).map (fun i => (i.zero, i.size, i.bytes)) = some (some (.string ByteArray.empty), 1, 16) := by kernel_rfl
end Go.Proofs.YtbbgebpgpadclaaGreatDoor
namespace Go.Proofs.YtbbgebpgpadclaaGreatDoor
open Go.RowKit Go.Sort Go.Shelf
theorem Lay.extJoin : Builder.Extra Tryz.prog Lay.joinS_ren := {
 sizeBuilder := by kernel_rfl
 liesBuilder := by kernel_rfl
 t5 := Tryz.underlying5
 a5 := Tryz.isAgg5
 z5 := Tryz.sizeOf5
 v5 := Tryz.zeroValue5
 infoByte := by kernel_rfl
 cellsByte := by kernel_rfl
 sizeByte := by kernel_rfl
 neB5 := by decide }
end Go.Proofs.YtbbgebpgpadclaaGreatDoor
namespace Go.Proofs.YtbbgebpgpadclaaGreatDoor
open Go.Shelf
def Lay.wrStrS_ren : Go.Shelf.Ren := ⟨fun | 166 => 23 | 169 => 29 | 170 => 28 | 240 => 70 | 276 => 96 | 277 => 146 | 165 => 95 | 241 => 126 | n => n, fun | 31 => 25 | 20 => 20 | 72 => 57 | 76 => 60 | 70 => 54 | 37 => 55 | 75 => 59 | 127 => 106 | 164 => 124 | 80 => 47 | n => n, fun | n => n⟩
theorem Lay.wrStrS : Go.Proofs.Lays.n166 Tryz.prog Lay.wrStrS_ren := {
 mixed := by kernel_rfl
 f166 := Tryz.func23.trans (congrArg some (by kernel_rfl))
 f240 := Tryz.func70.trans (congrArg some (by kernel_rfl))
 f276 := Tryz.func96.trans (congrArg some (by kernel_rfl))
 t0 := Tryz.underlying0
 a0 := Tryz.isAgg0
 z0 := Tryz.sizeOf0
 v0 := Tryz.zeroValue0
 t3 := Tryz.underlying3
 a3 := Tryz.isAgg3
 z3 := Tryz.sizeOf3
 v3 := Tryz.zeroValue3
 t4 := Tryz.underlying4
 a4 := Tryz.isAgg4
 z4 := Tryz.sizeOf4
 v4 := Tryz.zeroValue4
 t9 := Tryz.underlying9
 a9 := Tryz.isAgg9
 z9 := Tryz.sizeOf9
 v9 := Tryz.zeroValue9
 t20 := Tryz.underlying20
 a20 := Tryz.isAgg20
 z20 := Tryz.sizeOf20
 v20 := Tryz.zeroValue20
 t37 := Tryz.underlying55
 a37 := Tryz.isAgg55
 z37 := Tryz.sizeOf55
 v37 := Tryz.zeroValue55
 t70 := Tryz.underlying54
 a70 := Tryz.isAgg54
 z70 := Tryz.sizeOf54
 v70 := Tryz.zeroValue54
 t72 := Tryz.underlying57
 a72 := Tryz.isAgg57
 z72 := Tryz.sizeOf57
 v72 := Tryz.zeroValue57
 t75 := Tryz.underlying59
 a75 := Tryz.isAgg59
 z75 := Tryz.sizeOf59
 v75 := Tryz.zeroValue59
 t164 := Tryz.underlying124
 a164 := Tryz.isAgg124
 z164 := Tryz.sizeOf124
 v164 := Tryz.zeroValue124 }
def Lay.bStrS_ren : Go.Shelf.Ren := ⟨fun | 166 => 23 | 169 => 29 | 170 => 28 | 240 => 70 | 276 => 96 | 277 => 146 | 165 => 95 | 241 => 126 | n => n, fun | 31 => 25 | 20 => 20 | 72 => 57 | 76 => 60 | 70 => 54 | 37 => 55 | 75 => 59 | 127 => 106 | 164 => 124 | 80 => 47 | n => n, fun | n => n⟩
theorem Lay.bStrS : Go.Proofs.Lays.n169 Tryz.prog Lay.bStrS_ren := {
 mixed := by kernel_rfl
 f169 := Tryz.func29.trans (congrArg some (by kernel_rfl))
 t0 := Tryz.underlying0
 a0 := Tryz.isAgg0
 z0 := Tryz.sizeOf0
 v0 := Tryz.zeroValue0
 t3 := Tryz.underlying3
 a3 := Tryz.isAgg3
 z3 := Tryz.sizeOf3
 v3 := Tryz.zeroValue3
 t9 := Tryz.underlying9
 a9 := Tryz.isAgg9
 z9 := Tryz.sizeOf9
 v9 := Tryz.zeroValue9
 t37 := Tryz.underlying55
 a37 := Tryz.isAgg55
 z37 := Tryz.sizeOf55
 v37 := Tryz.zeroValue55
 t70 := Tryz.underlying54
 a70 := Tryz.isAgg54
 z70 := Tryz.sizeOf54
 v70 := Tryz.zeroValue54
 t72 := Tryz.underlying57
 a72 := Tryz.isAgg57
 z72 := Tryz.sizeOf57
 v72 := Tryz.zeroValue57
 t127 := Tryz.underlying106
 a127 := Tryz.isAgg106
 z127 := Tryz.sizeOf106
 v127 := Tryz.zeroValue106 }
def Lay.bLenS_ren : Go.Shelf.Ren := ⟨fun | 166 => 23 | 169 => 29 | 170 => 28 | 240 => 70 | 276 => 96 | 277 => 146 | 165 => 95 | 241 => 126 | n => n, fun | 31 => 25 | 20 => 20 | 72 => 57 | 76 => 60 | 70 => 54 | 37 => 55 | 75 => 59 | 127 => 106 | 164 => 124 | 80 => 47 | n => n, fun | n => n⟩
theorem Lay.bLenS : Go.Proofs.Lays.n170 Tryz.prog Lay.bLenS_ren := {
 mixed := by kernel_rfl
 f170 := Tryz.func28.trans (congrArg some (by kernel_rfl))
 t0 := Tryz.underlying0
 a0 := Tryz.isAgg0
 z0 := Tryz.sizeOf0
 v0 := Tryz.zeroValue0
 t3 := Tryz.underlying3
 a3 := Tryz.isAgg3
 z3 := Tryz.sizeOf3
 v3 := Tryz.zeroValue3
 t37 := Tryz.underlying55
 a37 := Tryz.isAgg55
 z37 := Tryz.sizeOf55
 v37 := Tryz.zeroValue55
 t70 := Tryz.underlying54
 a70 := Tryz.isAgg54
 z70 := Tryz.sizeOf54
 v70 := Tryz.zeroValue54
 t72 := Tryz.underlying57
 a72 := Tryz.isAgg57
 z72 := Tryz.sizeOf57
 v72 := Tryz.zeroValue57 }
end Go.Proofs.YtbbgebpgpadclaaGreatDoor
namespace Go.Proofs.YtbbgebpgpadclaaGreatDoor
open Go.RowKit Go.Sort Go.Shelf
theorem Lay.extStr : Builder.Extra Tryz.prog Lay.wrStrS_ren := {
 sizeBuilder := by kernel_rfl
 liesBuilder := by kernel_rfl
 t5 := Tryz.underlying5
 a5 := Tryz.isAgg5
 z5 := Tryz.sizeOf5
 v5 := Tryz.zeroValue5
 infoByte := by kernel_rfl
 cellsByte := by kernel_rfl
 sizeByte := by kernel_rfl
 neB5 := by decide }
theorem Lay.extGet : Builder.Extra Tryz.prog Lay.bStrS_ren := {
 sizeBuilder := by kernel_rfl
 liesBuilder := by kernel_rfl
 t5 := Tryz.underlying5
 a5 := Tryz.isAgg5
 z5 := Tryz.sizeOf5
 v5 := Tryz.zeroValue5
 infoByte := by kernel_rfl
 cellsByte := by kernel_rfl
 sizeByte := by kernel_rfl
 neB5 := by decide }
theorem Blk.others {w w' : World} {b pb : Nat} {c : Array Value} {t : TypeId} (h : Blk w pb c t) (hk : Lib.OthersKept 5 (some b) w w') (hb : pb ≠ b) (ht : t ≠ 5) : Blk w' pb c t :=
 hk pb _ h (by simpa using hb) (fun c' fz e => ht (by injection e))
theorem writeString_is (b : Nat) (l : List UInt8) (s : List UInt8) (w : World) (h : Bld w b l) (hlen : l.length + s.length ≤ 140737488355328) :
  Calls Tryz.prog 23 #[.pointer (some ⟨b, 0, none⟩), .string (Tx.mk s)] w fun e w' => e = .returned (.tuple #[.int .i64 (Tx.mk s).size, .nilIface]) ∧ Bld w' b (l ++ s) ∧ Below b w w' ∧ Lib.OthersKept 5 (some b) w w' := by
 refine (Any.Builder_WriteString_k Lay.wrStrS Lay.extStr b b (Lib.byteCells l) (Tx.mk s) w h (by rw [Lib.byteCells_length, Tx.mk_size]; exact hlen) (Nat.le_of_lt h.lt)).mono ?_
 rintro e w' ⟨he, h1, h2, h3⟩
 refine ⟨he, .inr ?_, h2, h3⟩
 rw [Lib.byteCells_append]
 have e2 : Lib.strCells (Tx.mk s) = Lib.byteCells s := by rw [Lib.strCells_eq]
 rw [← e2]
 exact h1
theorem bldString_is (b : Nat) (l : List UInt8) (w : World) (h : Bld w b l) :
  Calls Tryz.prog 29 #[.pointer (some ⟨b, 0, none⟩)] w fun e w' => e = .returned (.string (Tx.mk l)) ∧ Below b w w' :=
 (Any.Builder_String_any_f Lay.bStrS Lay.extGet b b l w h (Nat.le_of_lt h.lt)).mono fun e w' hh => ⟨hh.1, hh.2.2⟩
end Go.Proofs.YtbbgebpgpadclaaGreatDoor
namespace Go.Proofs.YtbbgebpgpadclaaGreatDoor
open Go.Shelf
def Lay.itoaM_ren : Go.Shelf.Ren := ⟨fun | 171 => 25 | 243 => 72 | 246 => 97 | 283 => 119 | 284 => 120 | 285 => 121 | 286 => 122 | 129 => 142 | 317 => 141 | 318 => 143 | 319 => 144 | 320 => 145 | 337 => 153 | 338 => 154 | n => n, fun | 3 => 3 | 9 => 9 | 2 => 2 | 4 => 4 | 171 => 141 | 0 => 0 | 53 => 101 | 37 => 55 | 5 => 5 | 173 => 144 | 212 => 162 | 51 => 146 | 20 => 20 | 213 => 163 | 46 => 120 | 232 => 182 | 233 => 183 | n => n, fun | 17 => 1 | 18 => 6 | 19 => 7 | n => n⟩
theorem Lay.itoaM : Go.Proofs.LaysM.n171 Tryz.prog Lay.itoaM_ren := {
 mixed := by kernel_rfl
 f129 := Tryz.func142.trans (congrArg some (by kernel_rfl))
 f171 := Tryz.func25.trans (congrArg some (by kernel_rfl))
 f243 := Tryz.func72.trans (congrArg some (by kernel_rfl))
 f246 := Tryz.func97.trans (congrArg some (by kernel_rfl))
 f283 := Tryz.func119.trans (congrArg some (by kernel_rfl))
 f284 := Tryz.func120.trans (congrArg some (by kernel_rfl))
 f285 := Tryz.func121.trans (congrArg some (by kernel_rfl))
 f286 := Tryz.func122.trans (congrArg some (by kernel_rfl))
 f317 := Tryz.func141.trans (congrArg some (by kernel_rfl))
 f318 := Tryz.func143.trans (congrArg some (by kernel_rfl))
 f319 := Tryz.func144.trans (congrArg some (by kernel_rfl))
 f320 := Tryz.func145.trans (congrArg some (by kernel_rfl))
 f337 := Tryz.func153.trans (congrArg some (by kernel_rfl))
 f338 := Tryz.func154.trans (congrArg some (by kernel_rfl))
 t0 := Tryz.underlying0
 a0 := Tryz.isAgg0
 z0 := Tryz.sizeOf0
 v0 := Tryz.zeroValue0
 t2 := Tryz.underlying2
 a2 := Tryz.isAgg2
 z2 := Tryz.sizeOf2
 v2 := Tryz.zeroValue2
 t3 := Tryz.underlying3
 a3 := Tryz.isAgg3
 z3 := Tryz.sizeOf3
 v3 := Tryz.zeroValue3
 t4 := Tryz.underlying4
 a4 := Tryz.isAgg4
 z4 := Tryz.sizeOf4
 v4 := Tryz.zeroValue4
 t5 := Tryz.underlying5
 a5 := Tryz.isAgg5
 z5 := Tryz.sizeOf5
 v5 := Tryz.zeroValue5
 t9 := Tryz.underlying9
 a9 := Tryz.isAgg9
 z9 := Tryz.sizeOf9
 v9 := Tryz.zeroValue9
 t20 := Tryz.underlying20
 a20 := Tryz.isAgg20
 z20 := Tryz.sizeOf20
 v20 := Tryz.zeroValue20
 t37 := Tryz.underlying55
 a37 := Tryz.isAgg55
 z37 := Tryz.sizeOf55
 v37 := Tryz.zeroValue55
 t46 := Tryz.underlying120
 a46 := Tryz.isAgg120
 z46 := Tryz.sizeOf120
 v46 := Tryz.zeroValue120
 t51 := Tryz.underlying146
 a51 := Tryz.isAgg146
 z51 := Tryz.sizeOf146
 v51 := Tryz.zeroValue146
 t53 := Tryz.underlying101
 a53 := Tryz.isAgg101
 z53 := Tryz.sizeOf101
 v53 := Tryz.zeroValue101
 t171 := Tryz.underlying141
 a171 := Tryz.isAgg141
 z171 := Tryz.sizeOf141
 v171 := Tryz.zeroValue141
 t173 := Tryz.underlying144
 a173 := Tryz.isAgg144
 z173 := Tryz.sizeOf144
 v173 := Tryz.zeroValue144
 t212 := Tryz.underlying162
 a212 := Tryz.isAgg162
 z212 := Tryz.sizeOf162
 v212 := Tryz.zeroValue162
 t213 := Tryz.underlying163
 a213 := Tryz.isAgg163
 z213 := Tryz.sizeOf163
 t232 := Tryz.underlying182
 a232 := Tryz.isAgg182
 z232 := Tryz.sizeOf182
 v232 := Tryz.zeroValue182
 t233 := Tryz.underlying183
 a233 := Tryz.isAgg183
 z233 := Tryz.sizeOf183
 v233 := Tryz.zeroValue183
 g17 := by kernel_rfl
 g18 := by kernel_rfl
 g19 := by kernel_rfl
 i0 := by kernel_rfl
 i2 := by kernel_rfl
 i3 := by kernel_rfl
 i4 := by kernel_rfl
 i5 := by kernel_rfl
 i9 := by kernel_rfl
 i20 := by kernel_rfl
 i37 := by kernel_rfl
 i46 := by kernel_rfl
 i51 := by kernel_rfl
 i53 := by kernel_rfl
 i171 := by kernel_rfl
 i173 := by kernel_rfl
 i212 := by kernel_rfl
 i232 := by kernel_rfl
 i233 := by kernel_rfl
 m17 := by kernel_rfl
 m18 := by kernel_rfl
 m19 := by kernel_rfl }
end Go.Proofs.YtbbgebpgpadclaaGreatDoor
namespace Go.Proofs.YtbbgebpgpadclaaGreatDoor
open Go.RowKit Go.Sort Go.Shelf
namespace Tx
abbrev Tab (w : World) : Prop := Lib.TabIs Tryz.prog w "internal/strconv.uint64pow10" .u64 Lib.pow10Tab
theorem tab_global : Tryz.prog.globalNamed "internal/strconv.uint64pow10" = some 1 := by kernel_rfl
theorem tab_below {w w' : World} (h : Tab w) (hb : Below w.heap.size w w') : Tab w' := TabIs_below tab_global h hb
theorem tab_of_laid {W : World} {x y : String × DataW Unit} {rest : List (String × DataW Unit)} (h : laidMet Tryz.prog (x :: y :: ("internal/strconv.uint64pow10", Lib.tabData .u64 Lib.pow10Tab) :: rest) W) : Tab W :=
 Lib.tabIs_of_head (t := 162) (e := 101) (n := 20) tab_global (by kernel_rfl) (by kernel_rfl) (by kernel_rfl) (by kernel_rfl) (by kernel_rfl) h.tail.tail
end Tx
theorem itoa_any (n : Int) (h0 : -9223372036854775808 ≤ n) (h1 : n ≤ 9223372036854775807) (w : World) (ht : Tx.Tab w) : Calls Tryz.prog 25 #[.int .i64 n] w fun e w' => e = .returned (.string ⟨(Lib.itoa n).toArray⟩) ∧ ∃ k os, w' = grow (w.drewN k) os := Any.strconv_Itoa Lay.itoaM n h0 h1 w ht
end Go.Proofs.YtbbgebpgpadclaaGreatDoor
namespace Go.Proofs.YtbbgebpgpadclaaGreatDoor
open Go.RowKit Go.Sort
namespace Tx
open Go.Lib
theorem digs {n : Nat} (h : 10 ≤ n) : decDigits n = decDigits (n / 10) ++ [UInt8.ofNat (48 + n % 10)] := by rw [decDigits, dif_neg (by omega)]
end Tx
end Go.Proofs.YtbbgebpgpadclaaGreatDoor
namespace Go.Proofs.YtbbgebpgpadclaaGreatDoor
open Go.RowKit Go.Sort Go.Shelf
namespace St
def sw (b : Bool) (x y : ByteArray) : ByteArray := if b = true then x else y
def num (n : Int) : ByteArray := Tx.mk (Lib.itoa n)
theorem sw_list (b : Bool) (x y : List UInt8) : Tx.mk (tow b x y) = sw b (Tx.mk x) (Tx.mk y) := by unfold tow sw; cases b <;> rfl
end St
theorem itoaN_is (n : Int) (h : -9223372036854775808 ≤ n ∧ n ≤ 9223372036854775807) (V : World) (ht : Tx.Tab V) : Calls Tryz.prog 25 #[.int .i64 n] V fun e w' => e = .returned (.string (St.num n)) ∧ Below V.heap.size V w' := by
 refine (itoa_any n h.1 h.2 V ht).mono ?_
 rintro e w' ⟨rfl, k, os, rfl⟩
 exact ⟨rfl, rfl, rfl, rfl, by simp [grow], fun j hj => by simp [grow, Array.getElem?_append, hj]⟩
theorem word_is (b : Bool) (x y : ByteArray) (w : World) : Calls Tryz.prog 26 #[.bool b, .string x, .string y] w fun e w' => e = .returned (.string (St.sw b x y)) ∧ w = w' := by
 cases b
 all_goals
  go_enter Tryz.func26, Tryz.ntmps26
  go_wp2_with fail
  go_ret
  exact ⟨rfl, rfl⟩
theorem bldLenS_is (b : Nat) (l : List UInt8) (w : World) (h : Bld w b l) :
  Calls Tryz.prog 28 #[.pointer (some ⟨b, 0, none⟩)] w fun e w' => e = .returned (.int .i64 (l.length : Nat)) ∧ w' = w := by
 have := Any.Builder_Len_f Lay.bLenS b b (Lib.byteCells l) w h
 rw [Lib.byteCells_length] at this
 exact this
theorem joinCells_is (xs : List ByteArray) (g cap : Nat) (sep : List UInt8) (w : World) (hc : ∀ j x, xs[j]? = some x → w.cell? ⟨g, j, none⟩ = some (.string x)) (hg : g < w.heap.size) (hcap : xs.length ≤ cap) (hn : xs.length ≤ 1000000) (hlen : (Lib.join (xs.map fun x => x.data.toList) sep).length ≤ 100000000) :
  Calls Tryz.prog 71 #[.slice (some ⟨g, 0, none⟩) xs.length cap, .string (Tx.mk sep)] w fun e w' => e = .returned (.string (Tx.mk (Lib.join (xs.map fun x => x.data.toList) sep))) ∧ Below w.heap.size w w' := by
 have := Any.strings_Join Lay.joinS Lay.extJoin g 0 cap xs (Tx.mk sep) w (fun j x hj => by rw [Nat.zero_add]; exact hc j x hj) hg (by omega) hcap (by rw [Tx.mk_toList]; omega)
 rw [Tx.mk_toList] at this
 exact this
theorem line_is (xs : List ByteArray) (g cap : Nat) (w : World) (hc : ∀ j x, xs[j]? = some x → w.cell? ⟨g, j, none⟩ = some (.string x)) (hg : g < w.heap.size) (hcap : xs.length ≤ cap) (hn : xs.length ≤ 5) (hlen : (St.ln (xs.map fun x => x.data.toList)).length ≤ 1000) :
  Calls Tryz.prog 24 #[.slice (some ⟨g, 0, none⟩) xs.length cap] w fun e w' => e = .returned (.string (Tx.mk (St.ln (xs.map fun x => x.data.toList) ++ [10]))) ∧ Below w.heap.size w w' := by
 have HJ := Lib.hid (joinCells_is xs g cap [32] w hc hg hcap (by omega) (by have : (Lib.join (xs.map fun x => x.data.toList) [32]).length ≤ 1000 := hlen; omega))
 have e0 : Lib.join (xs.map fun x => x.data.toList) [32] = St.ln (xs.map fun x => x.data.toList) := rfl
 rw [e0] at HJ
 have hs : (Tx.mk (St.ln (xs.map fun x => x.data.toList))).size ≤ 1000 := by rw [Tx.mk_size]; exact hlen
 have HE : Hid (Tx.mk (St.ln (xs.map fun x => x.data.toList) ++ [10]) = Tx.mk (St.ln (xs.map fun x => x.data.toList)) ++ ⟨#[10]⟩) := Lib.hid (by rw [← Tx.mk_append])
 generalize Tx.mk (St.ln (xs.map fun x => x.data.toList) ++ [10]) = Y at *
 generalize Tx.mk (St.ln (xs.map fun x => x.data.toList)) = X at *
 clear hc hg e0 hlen
 have hsp : Tx.mk [32] = ⟨#[32]⟩ := rfl
 rw [hsp] at HJ
 clear hsp
 generalize xs.length = n at *
 go_enter Tryz.func24, Tryz.ntmps24
 go_wp2_with (go_at_call 71; refine HJ.out.mono ?_; rintro e w4 ⟨rfl, hB4⟩)
 go_ret
 exact ⟨by rw [HE.out]; rfl, hB4⟩
theorem lineLit_is (xs : List ByteArray) (t : TypeId) (V : World) (hn : xs.length ≤ 5) (hlen : (St.ln (xs.map fun x => x.data.toList)).length ≤ 1000) :
  Calls Tryz.prog 24 #[.slice (some ⟨V.heap.size, 0, none⟩) xs.length xs.length] (V.alloc (.cells (xs.map Value.string).toArray t)) fun e w' => e = .returned (.string (Tx.mk (St.ln (xs.map fun x => x.data.toList) ++ [10]))) ∧ Below V.heap.size V w' := by
 refine (line_is xs V.heap.size xs.length _ (fun j x hj => ?_) (by simp) (Nat.le_refl _) hn hlen).mono ?_
 ·rw [(Blk.new V (xs.map Value.string).toArray t).cell j]
  simp [hj]
 ·rintro e w' ⟨he, hb⟩
  exact ⟨he, below_up ((Below.refl _ _).alloc (Nat.le_refl _) _) hb⟩
theorem lineOwn_is (xs : List ByteArray) (B g cap : Nat) (w : World) (h : w.ownsRow B 9 1 (.slice (some ⟨g, 0, none⟩) xs.length cap) xs.length (xs.map Value.string)) (hn : xs.length ≤ 5) (hlen : (St.ln (xs.map fun x => x.data.toList)).length ≤ 1000) :
  Calls Tryz.prog 24 #[.slice (some ⟨g, 0, none⟩) xs.length cap] w fun e w' => e = .returned (.string (Tx.mk (St.ln (xs.map fun x => x.data.toList) ++ [10]))) ∧ Below w.heap.size w w' := by
 have hcap : xs.length ≤ cap := by
  rcases h.2 with ⟨h0, _⟩ | ⟨g', cap', cur, h0, _, _, hk, _⟩
  ·cases h0
  ·cases h0; exact hk
 refine line_is xs g cap w (fun j x hj => ?_) (h.lt g rfl).2 hcap hn hlen
 rw [h.cellAt j (by have := (List.getElem?_eq_some_iff.1 hj).1; omega), List.getElem?_map, hj]; rfl
theorem line2_is (a b : ByteArray) (t : TypeId) (V : World) (hlen : (St.ln [a.data.toList, b.data.toList]).length ≤ 1000) :
  Calls Tryz.prog 24 #[.slice (some ⟨V.heap.size, 0, none⟩) 2 2] (V.alloc (.cells #[.string a, .string b] t)) fun e w' => e = .returned (.string (Tx.mk (St.ln [a.data.toList, b.data.toList] ++ [10]))) ∧ Below V.heap.size V w' := lineLit_is [a, b] t V (by simp) hlen
theorem line3_is (a b c : ByteArray) (t : TypeId) (V : World) (hlen : (St.ln [a.data.toList, b.data.toList, c.data.toList]).length ≤ 1000) :
  Calls Tryz.prog 24 #[.slice (some ⟨V.heap.size, 0, none⟩) 3 3] (V.alloc (.cells #[.string a, .string b, .string c] t)) fun e w' => e = .returned (.string (Tx.mk (St.ln [a.data.toList, b.data.toList, c.data.toList] ++ [10]))) ∧ Below V.heap.size V w' := lineLit_is [a, b, c] t V (by simp) hlen
theorem line4_is (a b c d : ByteArray) (t : TypeId) (V : World) (hlen : (St.ln [a.data.toList, b.data.toList, c.data.toList, d.data.toList]).length ≤ 1000) :
  Calls Tryz.prog 24 #[.slice (some ⟨V.heap.size, 0, none⟩) 4 4] (V.alloc (.cells #[.string a, .string b, .string c, .string d] t)) fun e w' => e = .returned (.string (Tx.mk (St.ln [a.data.toList, b.data.toList, c.data.toList, d.data.toList] ++ [10]))) ∧ Below V.heap.size V w' := lineLit_is [a, b, c, d] t V (by simp) hlen
theorem line5_is (a b c d x : ByteArray) (t : TypeId) (V : World) (hlen : (St.ln [a.data.toList, b.data.toList, c.data.toList, d.data.toList, x.data.toList]).length ≤ 1000) :
  Calls Tryz.prog 24 #[.slice (some ⟨V.heap.size, 0, none⟩) 5 5] (V.alloc (.cells #[.string a, .string b, .string c, .string d, .string x] t)) fun e w' => e = .returned (.string (Tx.mk (St.ln [a.data.toList, b.data.toList, c.data.toList, d.data.toList, x.data.toList] ++ [10]))) ∧ Below V.heap.size V w' := lineLit_is [a, b, c, d, x] t V (by simp) hlen
end Go.Proofs.YtbbgebpgpadclaaGreatDoor
namespace Go.Proofs.YtbbgebpgpadclaaGreatDoor
open Go.RowKit Go.Sort Go.Shelf Go.Maps
namespace St
def mkb (s : Sto) (d : ByteArray) : Bool := decide ((filD s.files d).kind = 3) && decide (0 < (goodL s (filD s.files d).frm).length)
end St
end Go.Proofs.YtbbgebpgpadclaaGreatDoor
namespace Go.Proofs.YtbbgebpgpadclaaGreatDoor
open Go.RowKit
namespace St
def evLt (a b : Cop) : Prop := a.asked < b.asked ∨ (a.asked = b.asked ∧ lt (ckey a) (ckey b) = true)
theorem ev_ord : Stb.Ord evLt := by
 refine ⟨fun x y z h1 h2 => ?_, fun x y h1 h2 => ?_⟩
 ·rcases h1 with h1 | ⟨h1, k1⟩ <;> rcases h2 with h2 | ⟨h2, k2⟩
  ·exact .inl (by omega)
  ·exact .inl (by omega)
  ·exact .inl (by omega)
  ·exact .inr ⟨by omega, lt_trans k1 k2⟩
 ·rcases h1 with h1 | ⟨h1, k1⟩ <;> rcases h2 with h2 | ⟨h2, k2⟩
  ·omega
  ·omega
  ·omega
  ·have := lt_trans k1 k2
   rw [lt_irr] at this; cases this
def evA (s : Sto) (t : ByteArray) (c : Cop) : Bool := eq c.tier t && garbage s c
def evB (s : Sto) (t : ByteArray) (c : Cop) : Bool := eq c.tier t && (!garbage s c && mkb s c.dig)
def evG (s : Sto) (t : ByteArray) : List Cop := s.copies.filter (evA s t)
def evK (s : Sto) (t : ByteArray) : List Cop := s.copies.filter (evB s t)
def Goers (s : Sto) (t : ByteArray) (L : List Cop) : Prop := ∃ M, L = evG s t ++ M ∧ List.Perm M (evK s t) ∧ M.Pairwise evLt
theorem Goers.one {s : Sto} {t : ByteArray} {L L' : List Cop} (h : Goers s t L) (h' : Goers s t L') : L = L' := by
 obtain ⟨M, rfl, p, q⟩ := h
 obtain ⟨M', rfl, p', q'⟩ := h'
 rw [Stb.unique ev_ord (p.trans p'.symm) q q']
def run (F : List Fil) (b : Int) : List Cop → Int → List Cop × Int
 | [], f => ([], f)
 | c :: r, f => if b ≤ f then ([], f) else (c :: (run F b r (f + sizeOf F c.dig)).1, (run F b r (f + sizeOf F c.dig)).2)
end St
end Go.Proofs.YtbbgebpgpadclaaGreatDoor
namespace Go.Proofs.YtbbgebpgpadclaaGreatDoor
open Go.RowKit Go.Sort Go.Shelf Go.Maps
theorem OwnC.setCell {w : World} {B k g n cap : Nat} {e : TypeId} {xs : List Value} (h : OwnC w B e k g n cap xs) {p : Nat} (hp : p < n * k) (v : Value) : OwnC (w.setCell ⟨g, p, none⟩ v) B e k g n cap (xs.set p v) := by
 obtain ⟨cur, hB, hc, hn, hm, hs, ht, hl⟩ := h
 have hb : Blk w g cur e := hc
 refine ⟨cur.setIfInBounds p v, hB, hb.set p v, hn, hm, by simpa using hs, ?_, by simpa using hl⟩
 rw [← ht, Array.toList_setIfInBounds, List.take_set]
theorem StIn.two {w : World} {s : Sto} {a : StA} (h : StIn w s a) {H : List ByteArray} {B : List Gon} {ga gb : Option Addr} {gc gd : Nat} (h1 : RowE St.eS w ga H) (h2 : H.length ≤ gc ∧ gc ≤ 9223372036854775807) (h3 : RowE St.eG w gb B) (h4 : B.length ≤ gd ∧ gd ≤ 9223372036854775807) (h5 : ∀ d ∈ H, d.size ≤ 9223372036854775807) (h6 : ∀ g ∈ B, g.dig.size ≤ 9223372036854775807) :
  StIn w { s with held := H, bin := B } ⟨a.ta, a.tc, a.fa, a.fc, a.ca, a.cc, ga, gc, gb, gd⟩ :=
 ⟨h.ti, h.fi, h.co, h1, h3, h.tl, h.fl, h.cl, h2, h4, h.tz, h.fz, h.cz, h5, h6⟩
theorem OwnV.far {w w' : World} {B k n g : Nat} {e e' : TypeId} {v : Value} {xs : List Value} {cur : Array Value} (h : OwnV w B e k v n xs) (hg : w.heap[g]? = some (.cells cur e' (0, 0))) (hne : e ≠ e') (hw : w.grownBy w' (some g)) : OwnV w' B e k v n xs := by
 rcases h with h | ⟨g0, cap, h, hc⟩
 ·exact .inl h
 ·refine .inr ⟨g0, cap, h, hc.of_block (hw.block g0 hc.lt.2 ?_)⟩
  obtain ⟨cur0, _, h0, _⟩ := hc
  intro e2
  cases e2
  rw [hg] at h0
  cases h0
  exact hne rfl
theorem OwnV.beside {w w' : World} {B B0 k n k' m : Nat} {e e' : TypeId} {v u : Value} {xs ys : List Value} (h : OwnV w B e k v n xs) (o : OwnV w B0 e' k' u m ys) (hne : e ≠ e') (hg : w.grownBy w' u.ownBlock) : OwnV w' B e k v n xs := by
 rcases o with ⟨rfl, _, _⟩ | ⟨g, cap, rfl, hc⟩
 ·exact h.keep ⟨hg.os, hg.tape, hg.output, hg.size, fun j hj => hg.block j hj (by simp [Value.ownBlock])⟩
 ·obtain ⟨cur, _, h0, _⟩ := hc
  exact h.far h0 hne hg
theorem OwnV.seven {w : World} {B k n b : Nat} {e : TypeId} {v : Value} {xs : List Value} (h : OwnV w B e k v n xs) (hb : b < B) (i0 i1 i2 i3 i4 i5 i6 : Nat) (u0 u1 u2 u3 u4 u5 u6 : Value) : OwnV (((((((w.setCell ⟨b, i0, none⟩ u0).setCell ⟨b, i1, none⟩ u1).setCell ⟨b, i2, none⟩ u2).setCell ⟨b, i3, none⟩ u3).setCell ⟨b, i4, none⟩ u4).setCell ⟨b, i5, none⟩ u5).setCell ⟨b, i6, none⟩ u6).drew B e k v n xs := by
 refine OwnV.keep ?_ (Below.refl _ _).drew
 exact ((((((h.next (Below.refl _ _) hb).next (Below.refl _ _) hb).next (Below.refl _ _) hb).next (Below.refl _ _) hb).next (Below.refl _ _) hb).next (Below.refl _ _) hb).next (Below.refl _ _) hb
structure StOff (a : StA) (q : Nat) : Prop where
 ti : (Value.slice a.ta 0 0).ownBlock ≠ some q
 fi : (Value.slice a.fa 0 0).ownBlock ≠ some q
 co : (Value.slice a.ca 0 0).ownBlock ≠ some q
 he : (Value.slice a.ha 0 0).ownBlock ≠ some q
 bi : (Value.slice a.ba 0 0).ownBlock ≠ some q
theorem ownBlock_len (a : Option Addr) (n c n' c' : Nat) : (Value.slice a n c).ownBlock = (Value.slice a n' c').ownBlock := by cases a <;> rfl
theorem StOwn.off {w : World} {B q : Nat} {s : Sto} {a : StA} (h : StOwn w B s a) (hq : w.heap.size ≤ q) : StOff a q :=
 ⟨fun e => by have := (h.ti.lt q ((ownBlock_len _ _ _ 0 0).trans e)).2; omega, fun e => by have := (h.fi.lt q ((ownBlock_len _ _ _ 0 0).trans e)).2; omega, fun e => by have := (h.co.lt q ((ownBlock_len _ _ _ 0 0).trans e)).2; omega, fun e => by have := (h.he.lt q ((ownBlock_len _ _ _ 0 0).trans e)).2; omega, fun e => by have := (h.bi.lt q ((ownBlock_len _ _ _ 0 0).trans e)).2; omega⟩
end Go.Proofs.YtbbgebpgpadclaaGreatDoor
namespace Go.Proofs.YtbbgebpgpadclaaGreatDoor
open Go.RowKit
namespace Hx
def hx (n : Nat) : UInt8 := if n < 10 then UInt8.ofNat (48 + n) else UInt8.ofNat (87 + n)
def digs (n : Nat) : List UInt8 := if h : n < 16 then [hx n] else digs (n / 16) ++ [hx (n % 16)]
def low : Nat → Nat → List UInt8
 | _, 0 => []
 | n, k + 1 => low (n / 16) k ++ [hx (n % 16)]
theorem digs_small {n : Nat} (h : n < 16) : digs n = [hx n] := by rw [digs, dif_pos h]
theorem digs_big {n : Nat} (h : 16 ≤ n) : digs n = digs (n / 16) ++ [hx (n % 16)] := by rw [digs, dif_neg (by omega)]
theorem low_zero : ∀ k, low 0 k = List.replicate k 48
 | 0 => rfl
 | k + 1 => by
   rw [low, Nat.zero_div, low_zero k]
   show List.replicate k 48 ++ [hx 0] = _
   rw [List.replicate_succ']; rfl
theorem digs_pos (n : Nat) : 1 ≤ (digs n).length := by
 rw [digs]; split <;> simp
theorem digs_low : ∀ k n, n < 16 ^ (k + 1) → (digs n).length ≤ k + 1 ∧ List.replicate (k + 1 - (digs n).length) 48 ++ digs n = low n (k + 1)
 | 0, n, h => by
   have h16 : n < 16 := by simpa using h
   rw [digs_small h16]
   refine ⟨by simp, ?_⟩
   rw [low, low]
   simp [Nat.mod_eq_of_lt h16]
 | k + 1, n, h => by
   by_cases h16 : n < 16
   ·rw [digs_small h16]
    refine ⟨by simp, ?_⟩
    rw [low, show n / 16 = 0 by omega, low_zero, Nat.mod_eq_of_lt h16]
    simp
   ·have hd : n / 16 < 16 ^ (k + 1) := by rw [Nat.pow_succ] at h; omega
    obtain ⟨h1, h2⟩ := digs_low k (n / 16) hd
    rw [digs_big (by omega)]
    refine ⟨by rw [List.length_append]; simp; omega, ?_⟩
    rw [low, ← h2, List.length_append, ← List.append_assoc]
    congr 2
    simp
end Hx
namespace Hx
def tab : List Int := Lib.deBruijn64tab.map fun n : Nat => (n : Int)
abbrev DB (w : World) : Prop := Lib.TabIs Tryz.prog w "math/bits.deBruijn64tab" .u8 tab
theorem db_global : Tryz.prog.globalNamed "math/bits.deBruijn64tab" = some 7 := by kernel_rfl
theorem db_below {w w' : World} (h : DB w) (hb : Below w.heap.size w w') : DB w' := Go.Joins.tab_stays db_global h hb (Nat.le_refl _)
theorem db_of_laid {W : World} {x : String × DataW Unit} {rest : List (String × DataW Unit)} (h : laidMet Tryz.prog (x :: ("math/bits.deBruijn64tab", Lib.tabData .u8 tab) :: rest) W) : DB W :=
 Lib.tabIs_of_head (t := 183) (e := 5) (n := 64) db_global (by kernel_rfl) (by kernel_rfl) (by kernel_rfl) (by kernel_rfl) (by kernel_rfl) h.tail
end Hx
theorem tz64_16 (w : World) (h : Hx.DB w) : Calls Tryz.prog 154 #[.int .u64 16] w fun e w' => e = .returned (.int .i64 4) ∧ w' = w := by
 have hc := h.cell Hx.db_global 15 (by decide)
 rw [show Hx.tab.getD 15 0 = 4 from by decide] at hc
 have key : IntKind.u64.wrap (bits BinOp.and IntKind.u64 (16 : Int) (IntKind.u64.wrap (-16)) * 285870213051353865) / 288230376151711744 = 15 := by decide +kernel
 go_enter Tryz.func154, Tryz.ntmps154
 go_wp2_with (simp only [key])
 go_ret
 exact ⟨rfl, rfl⟩
theorem tz_16 (w : World) (h : Hx.DB w) : Calls Tryz.prog 145 #[.int .u64 16] w fun e w' => e = .returned (.int .i64 4) ∧ w' = w := by
 have HT := Lib.hid (tz64_16 w h)
 clear h
 go_enter Tryz.func145, Tryz.ntmps145
 go_wp2_with (go_at_call 154; (with_reducible refine HT.out.mono ?_); rintro e w' ⟨rfl, rfl⟩)
 go_ret
 exact ⟨rfl, rfl⟩
theorem pow2_16 (w : World) : Calls Tryz.prog 144 #[.int .i64 16] w fun e w' => e = .returned (.bool true) ∧ w' = w := by
 have key : bits BinOp.and IntKind.i64 (16 : Int) 15 = 0 := by decide +kernel
 go_enter Tryz.func144, Tryz.ntmps144
 go_wp2_with (simp only [key])
 go_ret
 exact ⟨rfl, rfl⟩
theorem hx36 : ∀ d : Fin 16, ((ByteArray.mk #[48, 49, 50, 51, 52, 53, 54, 55, 56, 57, 97, 98, 99, 100, 101, 102, 103, 104, 105, 106, 107, 108, 109, 110, 111, 112, 113, 114, 115, 116, 117, 118, 119, 120, 121, 122]).data[d.val]'(by have := d.isLt; simp; omega)).toNat = (Hx.hx d.val).toNat := by decide
theorem hx36At (d : Nat) (h : d < 16) (hs : d < (ByteArray.mk #[48, 49, 50, 51, 52, 53, 54, 55, 56, 57, 97, 98, 99, 100, 101, 102, 103, 104, 105, 106, 107, 108, 109, 110, 111, 112, 113, 114, 115, 116, 117, 118, 119, 120, 121, 122]).size) : ((ByteArray.mk #[48, 49, 50, 51, 52, 53, 54, 55, 56, 57, 97, 98, 99, 100, 101, 102, 103, 104, 105, 106, 107, 108, 109, 110, 111, 112, 113, 114, 115, 116, 117, 118, 119, 120, 121, 122])[d]'hs).toNat = (Hx.hx d).toNat := hx36 ⟨d, h⟩
theorem and15U (m : Nat) (h : m < 18446744073709551616) : bits .and .u64 (m : Int) 15 = ((m % 16 : Nat) : Int) := by
 have := bits_and_u64_nat m 15 h (by decide)
 rw [show ((15 : Nat) : Int) = 15 from rfl] at this
 rw [this]
 congr 1
 exact Nat.and_two_pow_sub_one_eq_mod m 4
def Hx.cells (L : List UInt8) : List Value := L.map fun x => Value.int .u8 (x.toNat : Int)
theorem Hx.put {cur : Array Value} {k : Nat} {L : List UInt8} {x : UInt8} (hk : k + 1 + L.length = 65) (hs : cur.size = 65) (hd : cur.toList.drop (k + 1) = Hx.cells L) : (cur.setIfInBounds k (.int .u8 (x.toNat : Int))).toList.drop k = Hx.cells (x :: L) := by
 rw [Array.toList_setIfInBounds]
 have hkl : k < cur.toList.length := by rw [Array.length_toList]; omega
 rw [List.drop_eq_getElem_cons (by rw [List.length_set]; exact hkl), List.getElem_set_self, List.drop_set_of_lt (by omega), hd]
 rfl
theorem fmtBits_16 (n : Nat) (hn : n < 18446744073709551616) (w : World) (h : Hx.DB w) : Calls Tryz.prog 122 #[.slice none 0 0, .int .u64 n, .int .i64 16, .bool false, .bool false] w fun e w' => e = .returned (.tuple #[.slice none 0 0, .string ⟨(Hx.digs n).toArray⟩]) ∧ Below w.heap.size w w' := by
 have HP := Lib.hid (fun V => pow2_16 V)
 have HT := Lib.hid (fun V (hb : Below w.heap.size w V) => tz_16 V (Hx.db_below h hb))
 have hd16 := (Hx.digs_low 15 n (by simpa using hn)).1
 have HDL := Lib.hid hd16
 have HN := Lib.hid hn
 obtain ⟨W1, hW1, hX1, hz1, hB1⟩ := box w Tryz.zeroCells163 163
 have HW1 := Lib.hid hW1
 have HX1 := Lib.hid hX1; have HB1 := Lib.hid hB1
 clear h hn hd16 hW1 hX1 hz1 hB1
 go_enter Tryz.func122, Tryz.ntmps122
 go_upto_region 4 with fail
 rw [HW1.out]
 go_wp2_with (first
  | (go_at_call 144; (with_reducible refine (HP.out _).mono ?_); rintro e w3 ⟨rfl, rfl⟩)
  | (go_at_call 145; (with_reducible refine (HT.out _ HB1.out).mono ?_); rintro e w4 ⟨rfl, rfl⟩))
 go_loopg [1, 13] n (fun gk u i wr => ∃ (m k : Nat) (L : List UInt8) (cur : Array Value), gk = m ∧ u = .int .u64 m ∧ i = .int .i64 k ∧ m ≤ n ∧ Hx.digs n = Hx.digs m ++ L ∧ k + L.length = 65 ∧ Blk wr w.heap.size cur 163 ∧ cur.size = 65 ∧ cur.toList.drop k = Hx.cells L ∧ Below w.heap.size w wr)
 case atStart => exact ⟨n, 65, [], _, rfl, rfl, rfl, Nat.le_refl _, by simp, rfl, HX1.out, by kernel_rfl, by rfl, HB1.out⟩
 case round =>
  obtain ⟨m, k, L, cur, rfl, rfl, rfl, hmn, hdg, hk, hX, hsz, hdr, hB⟩ := hrel
  have HDG := Lib.hid hdg; have HX := Lib.hid hX; have HDR := Lib.hid hdr
  have hdl := HDL.out
  rw [hdg, List.length_append] at hdl
  have hdp := Hx.digs_pos gk
  have hn := HN.out
  have hm64 : gk < 18446744073709551616 := by omega
  have hL : L.length ≤ 15 := by omega
  clear hdg hdr hdl hdp hn
  by_cases hge : 16 ≤ gk
  ·have hgd : decide ((16 : Int) ≤ (gk : Int)) = true := decide_eq_true (by omega)
   have hgt : ((16 : Int) ≤ (gk : Int)) = True := eq_true (by omega)
   obtain ⟨d, hd⟩ : ∃ d, gk % 16 = d := ⟨_, rfl⟩
   obtain ⟨q, hq⟩ : ∃ q, gk / 16 = q := ⟨_, rfl⟩
   have hand := and15U gk hm64
   have hshr : (gk : Int) / 16 = (q : Int) := by omega
   rw [hd] at hand
   have HDQ := Lib.hid (And.intro hd hq)
   obtain ⟨k, rfl⟩ : ∃ k', k = k' + 1 := ⟨k - 1, by omega⟩
   have hkw : ((k + 1 : Nat) : Int) = (k : Int) + 1 := by omega
   have hki : IntKind.i64.wrap ((k : Int) + 1 - 1) = (k : Int) := by rw [IntKind.wrap_i64]; omega
   have hk0 : (0 : Int) ≤ (k : Int) := by omega
   have hk1 : (k : Int) < 65 := by omega
   have hce : wr.cell? ⟨w.heap.size, k, none⟩ = some (cur[k]'(by omega)) := by rw [hX.cell, Array.getElem?_eq_getElem]
   have hfz := frozen_of hX k
   have hidx := hx36At (d) (by omega)
   have hd0 : (0 : Int) ≤ ((d : Nat) : Int) := by omega
   have hd1 : ((d : Nat) : Int) < 36 := by omega
   rw [hkw]
   clear hd hq
   go_wp2_with fail
   go_roundg q
   case rel =>
    have hq := HDQ.out.2
    have hd := HDQ.out.1
    refine ⟨q, k, Hx.hx d :: L, _, rfl, rfl, rfl, by omega, ?_, by simp; omega, HX.out.set k _, by simpa using hsz, Hx.put hk hsz HDR.out, hB.setCell (p := ⟨w.heap.size, k, none⟩) (by simp) _⟩
    rw [HDG.out, Hx.digs_big hge, hd, hq, List.append_assoc]; rfl
   case measure => have := HDQ.out.2; omega
  ·have hgd : decide ((16 : Int) ≤ (gk : Int)) = false := decide_eq_false (by omega)
   have hgt : ((16 : Int) ≤ (gk : Int)) = False := eq_false (by omega)
   obtain ⟨k, rfl⟩ : ∃ k', k = k' + 1 := ⟨k - 1, by omega⟩
   have hkw : ((k + 1 : Nat) : Int) = (k : Int) + 1 := by omega
   have hki : IntKind.i64.wrap ((k : Int) + 1 - 1) = (k : Int) := by rw [IntKind.wrap_i64]; omega
   have hk0 : (0 : Int) ≤ (k : Int) := by omega
   have hk1 : (k : Int) < 65 := by omega
   have hce : wr.cell? ⟨w.heap.size, k, none⟩ = some (cur[k]'(by omega)) := by rw [hX.cell, Array.getElem?_eq_getElem]
   have hfz := frozen_of hX k
   have hidx := hx36At (gk) (by omega)
   have hd0 : (0 : Int) ≤ ((gk : Nat) : Int) := by omega
   have hd1 : ((gk : Nat) : Int) < 36 := by omega
   rw [hkw]
   have hk65 : (k : Int) ≤ 65 := by omega
   have hput := Hx.put (x := Hx.hx gk) hk hsz HDR.out
   have hXS := HX.out.set k (.int .u8 ((Hx.hx gk).toNat : Int))
   have HE : Hid (Hx.digs n = Hx.hx gk :: L) := Lib.hid (by rw [HDG.out, Hx.digs_small (by omega)]; rfl)
   have hconv : ∀ ty, (convert ty 9 (.slice (some ⟨w.heap.size, k, none⟩) (65 - k) (65 - k))).run Tryz.prog (wr.setCell ⟨w.heap.size, k, none⟩ (.int .u8 ((Hx.hx gk).toNat : Int))) = .ok (.string ⟨(Hx.digs n).toArray⟩) (wr.setCell ⟨w.heap.size, k, none⟩ (.int .u8 ((Hx.hx gk).toNat : Int))) ∨ ty ≠ 55 := fun ty => by
    by_cases hty : ty = 55
    ·left
     subst hty
     rw [HE.out, show 65 - k = (Hx.hx gk :: L).length by simp; omega]
     refine run_convert_bytes_back _ _ _ 5 ⟨w.heap.size, k, none⟩ _ (Hx.hx gk :: L) Tryz.underlying55 Tryz.underlying5 Tryz.underlying9 ?_
     intro j hj
     rw [show (⟨w.heap.size, k, none⟩ : Addr).add j = ⟨w.heap.size, k + j, none⟩ from by unfold Addr.add; split <;> simp_all, hXS.cell, ← Array.getElem?_toList]
     have h2 := congrArg (fun l => l[j]?) hput
     simp only [List.getElem?_drop] at h2
     rw [h2]
     unfold Hx.cells
     rw [List.getElem?_map, List.getElem?_eq_getElem hj]; rfl
    ·exact .inr hty
   have hcv := (hconv 55).resolve_right (fun h => h rfl)
   have HCV := Lib.hid hcv
   clear hconv hcv hput hXS
   go_upto_region 30 with fail
   have hcv := HCV.out
   go_wp2_with fail
   go_ret2
   exact ⟨rfl, hB.setCell (p := ⟨w.heap.size, k, none⟩) (by simp) _⟩
theorem fmtUintI_16 (n : Nat) (hn : n < 18446744073709551616) (w : World) (h : Hx.DB w) : Calls Tryz.prog 92 #[.int .u64 n, .int .i64 16] w fun e w' => e = .returned (.string ⟨(Hx.digs n).toArray⟩) ∧ Below w.heap.size w w' := by
 have HF := Lib.hid (fmtBits_16 n hn w h)
 clear h hn
 go_enter Tryz.func92, Tryz.ntmps92
 go_wp2_with (go_at_call 122; (with_reducible refine HF.out.mono ?_); rintro e w3 ⟨rfl, hB3⟩)
 go_ret
 exact ⟨rfl, hB3⟩
theorem fmtUint_16 (n : Nat) (hn : n < 18446744073709551616) (w : World) (h : Hx.DB w) : Calls Tryz.prog 68 #[.int .u64 n, .int .i64 16] w fun e w' => e = .returned (.string ⟨(Hx.digs n).toArray⟩) ∧ Below w.heap.size w w' := by
 have HF := Lib.hid (fmtUintI_16 n hn w h)
 clear h hn
 go_enter Tryz.func68, Tryz.ntmps68
 go_wp2_with (go_at_call 92; (with_reducible refine HF.out.mono ?_); rintro e w3 ⟨rfl, hB3⟩)
 go_ret
 exact ⟨rfl, hB3⟩
namespace Hx
def step (h : Nat) (b : UInt8) : Nat := ((h ^^^ b.toNat) * 1099511628211) % 18446744073709551616
def fnv0 : Nat := 14695981039346656037
def fnv (l : List UInt8) : Nat := l.foldl step fnv0
theorem fnv0_lt : fnv0 < 18446744073709551616 := by decide
theorem step_lt (h : Nat) (b : UInt8) : step h b < 18446744073709551616 := Nat.mod_lt _ (by decide)
theorem fnv_lt (l : List UInt8) : fnv l < 18446744073709551616 := by
 unfold fnv
 cases hl : l.reverse with
 | nil => have : l = [] := List.reverse_eq_nil_iff.1 hl; subst this; exact fnv0_lt
 | cons b r =>
   have : l = r.reverse ++ [b] := by rw [← List.reverse_reverse l, hl]; simp
   rw [this, List.foldl_append, List.foldl_cons, List.foldl_nil]
   exact step_lt _ _
theorem fnv_next {l : List UInt8} {j : Nat} {b : UInt8} (h : l[j]? = some b) : fnv (l.take (j + 1)) = step (fnv (l.take j)) b := by
 unfold fnv
 rw [List.take_add_one, h, List.foldl_append, Option.toList_some, List.foldl_cons, List.foldl_nil]
def dig (l : List UInt8) : ByteArray := ⟨(low (fnv l) 16).toArray⟩
end Hx
end Go.Proofs.YtbbgebpgpadclaaGreatDoor
namespace Go.Proofs.YtbbgebpgpadclaaGreatDoor
open Go.Shelf
def Lay.repeatS_ren : Go.Shelf.Ren := ⟨fun | 105 => 69 | 212 => 93 | 99 => 94 | 165 => 95 | 166 => 23 | 170 => 28 | 169 => 29 | 263 => 123 | 264 => 124 | 206 => 125 | 240 => 70 | 241 => 126 | 276 => 96 | 277 => 146 | n => n, fun | 9 => 9 | 3 => 3 | 4 => 4 | 20 => 20 | 0 => 0 | 46 => 120 | 109 => 121 | 5 => 5 | 72 => 57 | 76 => 60 | 51 => 146 | 146 => 147 | 53 => 101 | 148 => 149 | 70 => 54 | 37 => 55 | 75 => 59 | 127 => 106 | 164 => 124 | 80 => 47 | n => n, fun | n => n⟩
theorem Lay.repeatS : Go.Proofs.Lays.n105 Tryz.prog Lay.repeatS_ren := {
 mixed := by kernel_rfl
 f99 := Tryz.func94.trans (congrArg some (by kernel_rfl))
 f105 := Tryz.func69.trans (congrArg some (by kernel_rfl))
 f165 := Tryz.func95.trans (congrArg some (by kernel_rfl))
 f166 := Tryz.func23.trans (congrArg some (by kernel_rfl))
 f169 := Tryz.func29.trans (congrArg some (by kernel_rfl))
 f170 := Tryz.func28.trans (congrArg some (by kernel_rfl))
 f206 := Tryz.func125.trans (congrArg some (by kernel_rfl))
 f212 := Tryz.func93.trans (congrArg some (by kernel_rfl))
 f240 := Tryz.func70.trans (congrArg some (by kernel_rfl))
 f241 := Tryz.func126.trans (congrArg some (by kernel_rfl))
 f263 := Tryz.func123.trans (congrArg some (by kernel_rfl))
 f264 := Tryz.func124.trans (congrArg some (by kernel_rfl))
 f276 := Tryz.func96.trans (congrArg some (by kernel_rfl))
 f277 := Tryz.func146.trans (congrArg some (by kernel_rfl))
 t0 := Tryz.underlying0
 a0 := Tryz.isAgg0
 z0 := Tryz.sizeOf0
 v0 := Tryz.zeroValue0
 t3 := Tryz.underlying3
 a3 := Tryz.isAgg3
 z3 := Tryz.sizeOf3
 v3 := Tryz.zeroValue3
 t4 := Tryz.underlying4
 a4 := Tryz.isAgg4
 z4 := Tryz.sizeOf4
 v4 := Tryz.zeroValue4
 t5 := Tryz.underlying5
 a5 := Tryz.isAgg5
 z5 := Tryz.sizeOf5
 v5 := Tryz.zeroValue5
 t9 := Tryz.underlying9
 a9 := Tryz.isAgg9
 z9 := Tryz.sizeOf9
 v9 := Tryz.zeroValue9
 t20 := Tryz.underlying20
 a20 := Tryz.isAgg20
 z20 := Tryz.sizeOf20
 v20 := Tryz.zeroValue20
 t37 := Tryz.underlying55
 a37 := Tryz.isAgg55
 z37 := Tryz.sizeOf55
 v37 := Tryz.zeroValue55
 t46 := Tryz.underlying120
 a46 := Tryz.isAgg120
 z46 := Tryz.sizeOf120
 v46 := Tryz.zeroValue120
 t51 := Tryz.underlying146
 a51 := Tryz.isAgg146
 z51 := Tryz.sizeOf146
 v51 := Tryz.zeroValue146
 t53 := Tryz.underlying101
 a53 := Tryz.isAgg101
 z53 := Tryz.sizeOf101
 v53 := Tryz.zeroValue101
 t70 := Tryz.underlying54
 a70 := Tryz.isAgg54
 z70 := Tryz.sizeOf54
 v70 := Tryz.zeroValue54
 t72 := Tryz.underlying57
 a72 := Tryz.isAgg57
 z72 := Tryz.sizeOf57
 v72 := Tryz.zeroValue57
 t75 := Tryz.underlying59
 a75 := Tryz.isAgg59
 z75 := Tryz.sizeOf59
 v75 := Tryz.zeroValue59
 t76 := Tryz.underlying60
 a76 := Tryz.isAgg60
 z76 := Tryz.sizeOf60
 v76 := Tryz.zeroValue60
 t109 := Tryz.underlying121
 a109 := Tryz.isAgg121
 z109 := Tryz.sizeOf121
 v109 := Tryz.zeroValue121
 t127 := Tryz.underlying106
 a127 := Tryz.isAgg106
 z127 := Tryz.sizeOf106
 v127 := Tryz.zeroValue106
 t146 := Tryz.underlying147
 a146 := Tryz.isAgg147
 z146 := Tryz.sizeOf147
 v146 := Tryz.zeroValue147
 t148 := Tryz.underlying149
 a148 := Tryz.isAgg149
 z148 := Tryz.sizeOf149
 v148 := Tryz.zeroValue149
 t164 := Tryz.underlying124
 a164 := Tryz.isAgg124
 z164 := Tryz.sizeOf124
 v164 := Tryz.zeroValue124 }
end Go.Proofs.YtbbgebpgpadclaaGreatDoor
namespace Go.Proofs.YtbbgebpgpadclaaGreatDoor
open Go.RowKit Go.Sort Go.Shelf
theorem Lay.extRep : Builder.Extra Tryz.prog Lay.repeatS_ren := {
 sizeBuilder := by kernel_rfl
 liesBuilder := by kernel_rfl
 t5 := Tryz.underlying5
 a5 := Tryz.isAgg5
 z5 := Tryz.sizeOf5
 v5 := Tryz.zeroValue5
 infoByte := by kernel_rfl
 cellsByte := by kernel_rfl
 sizeByte := by kernel_rfl
 neB5 := by decide }
theorem repL48 : ∀ c, Lib.repeatL [48] c = List.replicate c 48
 | 0 => rfl
 | c + 1 => by
   show [48] ++ Lib.repeatL [48] c = _
   rw [repL48 c]; rfl
theorem rep48 (c : Nat) (hc : c ≤ 16) (w : World) : Calls Tryz.prog 69 #[.string ⟨#[48]⟩, .int .i64 c] w fun e w' => e = .returned (.string ⟨(List.replicate c 48).toArray⟩) ∧ Below w.heap.size w w' := by
 have h := Any.strings_Repeat Lay.repeatS Lay.extRep ⟨#[48]⟩ c w (by omega) (by show 1 * c ≤ _; omega)
 have e : Lib.repeatL (ByteArray.mk #[48]).data.toList c = List.replicate c 48 := repL48 c
 rw [e] at h
 exact h
theorem digest_is (s : ByteArray) (hs : s.size ≤ 9223372036854775807) (w : World) (hd : Hx.DB w) : Calls Tryz.prog 22 #[.string s] w fun e w' => e = .returned (.string (Hx.dig s.data.toList)) ∧ Below w.heap.size w w' := by
 obtain ⟨n, hn⟩ : ∃ n, s.size = n := ⟨_, rfl⟩
 have HN := Lib.hid hn
 have HD := Lib.hid hd
 rw [hn] at hs
 clear hd
 go_enter Tryz.func22, Tryz.ntmps22
 go_wp2_with fail
 go_loopg [3, 8] n (fun gk u i wr => ∃ (j h : Nat), j ≤ n ∧ gk = n - j ∧ i = .int .i64 j ∧ u = .int .u64 h ∧ h = Hx.fnv (s.data.toList.take j) ∧ w = wr)
 case atStart => exact ⟨0, _, by omega, rfl, rfl, rfl, rfl, rfl⟩
 case round =>
  obtain ⟨j, h, hj, rfl, rfl, rfl, hh, rfl⟩ := hrel
  have h64 : h < 18446744073709551616 := by rw [hh]; exact Hx.fnv_lt _
  have HH := Lib.hid hh
  clear hh
  by_cases hlt : j < n
  ·obtain ⟨b, hb⟩ : ∃ b, s[j]'(by rw [HN.out]; exact hlt) = b := ⟨_, rfl⟩
   have hj0 : (0 : Int) ≤ (j : Int) := by omega
   have hj1 : (j : Int) < (n : Int) := by omega
   have hbw : IntKind.u64.wrap (b.toNat : Int) = (b.toNat : Int) := by have := b.toNat_lt; rw [IntKind.wrap_u64]; omega
   have hxr := bits_xor_u64_nat h b.toNat (by omega) (by have := b.toNat_lt; omega)
   have hmu : IntKind.u64.wrap (((h ^^^ b.toNat : Nat) : Int) * 1099511628211) = ((Hx.step h b : Nat) : Int) := by
    rw [IntKind.wrap_u64]
    unfold Hx.step
    omega
   have hjs : j < s.size := by rw [HN.out]; exact hlt
   have HB : Hid (s.data.toList[j]? = some b) := Lib.hid (by
    rw [← hb]
    show _ = some (s.data[j]'_)
    rw [Array.getElem?_toList, Array.getElem?_eq_getElem])
   go_wp2_with fail
   go_roundg (n - (j + 1))
   case rel => exact ⟨j + 1, Hx.step h b, by omega, rfl, by go_num, rfl, by rw [Hx.fnv_next HB.out, HH.out], rfl⟩
   case measure => omega
  ·obtain rfl : j = n := by omega
   have HFN : Hid (h = Hx.fnv s.data.toList) := Lib.hid (by
    rw [HH.out, List.take_of_length_le (by rw [Array.length_toList]; exact Nat.le_of_eq HN.out)])
   have HFM := Lib.hid (fmtUint_16 h h64 w HD.out)
   obtain ⟨hl16, hlow⟩ := Hx.digs_low 15 h (by simpa using h64)
   have HE : Hid ((⟨(List.replicate (16 - (Hx.digs h).length) 48).toArray⟩ : ByteArray) ++ ⟨(Hx.digs h).toArray⟩ = Hx.dig s.data.toList) := Lib.hid (by
    unfold Hx.dig
    rw [← HFN.out, ← hlow]
    apply ByteArray.ext
    rw [ByteArray.data_append]
    simp)
   obtain ⟨D, hD⟩ : ∃ D : ByteArray, (⟨(Hx.digs h).toArray⟩ : ByteArray) = D := ⟨_, rfl⟩
   have hDs : D.size = (Hx.digs h).length := by rw [← hD]; show (Hx.digs h).toArray.size = _; simp
   rw [hD] at HFM HE
   obtain ⟨l, hl⟩ : ∃ l, (Hx.digs h).length = l := ⟨_, rfl⟩
   rw [hl] at hDs HE hl16
   obtain ⟨c, hc⟩ : ∃ c, 16 - l = c := ⟨_, rfl⟩
   have hci : IntKind.i64.wrap (16 - (l : Int)) = (c : Int) := by rw [IntKind.wrap_i64]; omega
   rw [hc] at HE
   have HRP := Lib.hid (fun V => rep48 c (by omega) V)
   have hadd : ∀ V, (Op.stringOp .add (⟨(List.replicate c 48).toArray⟩ : ByteArray) D).run Tryz.prog V = .ok (.string ((⟨(List.replicate c 48).toArray⟩ : ByteArray) ++ D)) V := fun V => run_string_add_sum V _ _ (by
    have h1 : (⟨(List.replicate c 48).toArray⟩ : ByteArray).size = c := by show (List.replicate c 48).toArray.size = c; simp
    rw [h1]; omega)
   generalize (⟨(List.replicate c 48).toArray⟩ : ByteArray) = R at *
   clear hD hl hlow
   go_wp2_with (first
    | (go_at_call 68; (with_reducible refine HFM.out.mono ?_); rintro e w3 ⟨rfl, hB3⟩)
    | (go_at_call 69; (with_reducible refine (HRP.out _).mono ?_); rintro e w4 ⟨rfl, hB4⟩))
   go_ret
   exact ⟨by rw [HE.out]; rfl, below_up hB3 hB4⟩
end Go.Proofs.YtbbgebpgpadclaaGreatDoor
