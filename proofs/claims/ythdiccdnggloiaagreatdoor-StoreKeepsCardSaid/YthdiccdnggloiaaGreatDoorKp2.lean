/- Parts of the proof, no condition: StRow, StFil, StIn, StCln, StInsC. -/
import Derived.Test.YthdiccdnggloiaaGreatDoorKp1
import Derived.Maps.OwnSet
import Derived.Maps.OwnOps
import Derived.StringKeys
import Derived.Deep.DeepCutAuto
import Derived.Shelf.Abstract
import Derived.Deep.AppendLies
import Derived.Laws.Tables
import Derived.Laws.Rows
import Derived.Laws.CopyOwn
import Derived.Lib.Overlaps
import Derived.Lib.AppendZerosOnto
set_option maxRecDepth 100000
set_option maxHeartbeats 4000000
set_option linter.unusedSimpArgs false
set_option linter.unusedVariables false
namespace Go.Proofs.YthdiccdnggloiaaGreatDoor
open Go.RowKit
namespace St
def pos {α : Type} (key : α → ByteArray) (k : ByteArray) : List α → Nat
 | [] => 0
 | x :: r => if lt (key x) k = true then pos key k r + 1 else 0
def Up {α : Type} (key : α → ByteArray) (L : List α) : Prop := L.Pairwise fun x y => lt (key x) (key y) = true
def hasK {α : Type} (key : α → ByteArray) (L : List α) (k : ByteArray) : Bool := L.any fun x => eq (key x) k
theorem pos_le {α : Type} (key : α → ByteArray) (k : ByteArray) : ∀ L : List α, pos key k L ≤ L.length
 | [] => Nat.le_refl _
 | x :: r => by
   have := pos_le key k r
   rw [pos, List.length_cons]
   split <;> omega
theorem pos_before {α : Type} {key : α → ByteArray} {k : ByteArray} : ∀ {L : List α} {i : Nat} {x : α}, L[i]? = some x → i < pos key k L → lt (key x) k = true
 | [], i, x, h, _ => by simp at h
 | y :: r, i, x, h, hi => by
   rw [pos] at hi
   split at hi
   ·rename_i hy
    cases i with
    | zero => simp at h; subst h; exact hy
    | succ i => exact pos_before (L := r) (by simpa using h) (by omega)
   ·omega
theorem pos_at {α : Type} {key : α → ByteArray} {k : ByteArray} : ∀ {L : List α} {x : α}, L[pos key k L]? = some x → lt (key x) k = false
 | [], x, h => by simp at h
 | y :: r, x, h => by
   rw [pos] at h
   split at h
   ·exact pos_at (L := r) (by simpa using h)
   ·rename_i hy
    simp at h; subst h; simpa using hy
theorem Up.lt {α : Type} {key : α → ByteArray} {L : List α} (h : Up key L) {i j : Nat} {x y : α} (hi : L[i]? = some x) (hj : L[j]? = some y) (hij : i < j) : lt (key x) (key y) = true := by
 obtain ⟨h1, rfl⟩ := List.getElem?_eq_some_iff.1 hi
 obtain ⟨h2, rfl⟩ := List.getElem?_eq_some_iff.1 hj
 exact List.pairwise_iff_getElem.1 h i j h1 h2 hij
theorem pos_from {α : Type} {key : α → ByteArray} {k : ByteArray} {L : List α} (h : Up key L) {i : Nat} {x : α} (hi : L[i]? = some x) (hp : pos key k L ≤ i) : St.lt (key x) k = false := by
 obtain ⟨h1, _⟩ := List.getElem?_eq_some_iff.1 hi
 obtain ⟨y, hy⟩ : ∃ y, L[pos key k L]? = some y := ⟨_, List.getElem?_eq_getElem (by omega)⟩
 have h2 := pos_at hy
 by_cases e : pos key k L = i
 ·subst e
  rw [hy] at hi
  obtain rfl := Option.some.inj hi
  exact h2
 ·have h3 := h.lt hy hi (by omega)
  cases h4 : St.lt (key x) k with
  | false => rfl
  | true => rw [lt_trans h3 h4] at h2; cases h2
theorem pos_is {α : Type} {key : α → ByteArray} {k : ByteArray} {L : List α} {n : Nat} (hn : n ≤ L.length) (h1 : ∀ i x, L[i]? = some x → i < n → lt (key x) k = true) (h2 : ∀ x, L[n]? = some x → lt (key x) k = false) : pos key k L = n := by
 rcases Nat.lt_trichotomy (pos key k L) n with h | h | h
 ·obtain ⟨x, hx⟩ : ∃ x, L[pos key k L]? = some x := ⟨_, List.getElem?_eq_getElem (by omega)⟩
  have := h1 _ _ hx h
  rw [pos_at hx] at this; cases this
 ·exact h
 ·have := pos_le key k L
  obtain ⟨x, hx⟩ : ∃ x, L[n]? = some x := ⟨_, List.getElem?_eq_getElem (by omega)⟩
  have h3 := pos_before hx h
  rw [h2 x hx] at h3; cases h3
theorem has_pos {α : Type} {key : α → ByteArray} {k : ByteArray} {L : List α} (h : Up key L) : hasK key L k = (match L[pos key k L]? with | some x => eq (key x) k | none => false) := by
 cases hx : L[pos key k L]? with
 | none =>
   show hasK key L k = false
   unfold hasK
   rw [List.any_eq_false]
   intro y hy e
   obtain ⟨i, hi⟩ := List.getElem?_of_mem hy
   have hl := (List.getElem?_eq_some_iff.1 hi).1
   rw [List.getElem?_eq_none_iff] at hx
   have := pos_before (key := key) (k := k) hi (by omega)
   rw [eq_iff.1 e, lt_irr] at this; cases this
 | some x =>
   show hasK key L k = eq (key x) k
   cases he : eq (key x) k with
   | true =>
     unfold hasK
     exact List.any_eq_true.2 ⟨x, List.mem_of_getElem? hx, he⟩
   | false =>
     unfold hasK
     rw [List.any_eq_false]
     intro y hy e
     obtain ⟨i, hi⟩ := List.getElem?_of_mem hy
     rcases Nat.lt_trichotomy i (pos key k L) with h1 | h1 | h1
     ·have := pos_before hi h1
      rw [eq_iff.1 e, lt_irr] at this; cases this
     ·rw [h1, hx] at hi
      obtain rfl := Option.some.inj hi
      rw [e] at he; cases he
     ·have h2 := h.lt hx hi h1
      rw [eq_iff.1 e] at h2
      rw [pos_at hx] at h2; cases h2
def wth {α : Type} (key : α → ByteArray) (x : α) (L : List α) : List α := if hasK key L (key x) = true then L.set (pos key (key x) L) x else L.take (pos key (key x) L) ++ x :: L.drop (pos key (key x) L)
def wo {α : Type} (key : α → ByteArray) (k : ByteArray) (L : List α) : List α := if hasK key L k = true then L.eraseIdx (pos key k L) else L
end St
namespace St
def zeroF : Fil := ⟨⟨#[]⟩, 0, 0, ⟨#[]⟩⟩
def lastOf (L : List Fil) (d : ByteArray) : Option Fil := L.reverse.find? fun f => eq f.dig d
theorem lastOf_nil (d : ByteArray) : lastOf [] d = none := rfl
theorem lastOf_snoc (L : List Fil) (f : Fil) (d : ByteArray) : lastOf (L ++ [f]) d = if eq f.dig d = true then some f else lastOf L d := by
 unfold lastOf
 rw [List.reverse_append]
 simp only [List.reverse_cons, List.reverse_nil, List.nil_append, List.cons_append, List.find?_cons]
 cases eq f.dig d <;> simp
theorem find_mem {L : List Fil} {d : ByteArray} {f : Fil} (h : fileOf L d = some f) : f ∈ L ∧ eq f.dig d = true := ⟨List.mem_of_find?_eq_some h, by have := List.find?_some h; exact this⟩
theorem last_mem {L : List Fil} {d : ByteArray} {f : Fil} (h : lastOf L d = some f) : f ∈ L ∧ eq f.dig d = true := ⟨List.mem_reverse.1 (List.mem_of_find?_eq_some h), by have := List.find?_some h; exact this⟩
theorem Up.one {α : Type} {key : α → ByteArray} {L : List α} (h : Up key L) {x y : α} (hx : x ∈ L) (hy : y ∈ L) (he : key x = key y) : x = y := by
 obtain ⟨i, hi⟩ := List.getElem?_of_mem hx
 obtain ⟨j, hj⟩ := List.getElem?_of_mem hy
 rcases Nat.lt_trichotomy i j with h1 | h1 | h1
 ·have := h.lt hi hj h1; rw [he, lt_irr] at this; cases this
 ·subst h1; rw [hi] at hj; exact Option.some.inj hj
 ·have := h.lt hj hi h1; rw [he, lt_irr] at this; cases this
theorem lastOf_up {L : List Fil} (h : Up (·.dig) L) (d : ByteArray) : lastOf L d = fileOf L d := by
 cases hl : lastOf L d with
 | none =>
   cases hf : fileOf L d with
   | none => rfl
   | some f =>
     obtain ⟨h1, h2⟩ := find_mem hf
     unfold lastOf at hl
     rw [List.find?_eq_none] at hl
     have := hl f (List.mem_reverse.2 h1)
     rw [h2] at this; exact absurd rfl this
 | some f =>
   obtain ⟨h1, h2⟩ := last_mem hl
   cases hf : fileOf L d with
   | none =>
     unfold fileOf at hf
     rw [List.find?_eq_none] at hf
     have := hf f h1
     rw [h2] at this; exact absurd rfl this
   | some g =>
     obtain ⟨h3, h4⟩ := find_mem hf
     rw [h.one h1 h3 (by show f.dig = g.dig; rw [eq_iff.1 h2, eq_iff.1 h4])]
def filD (L : List Fil) (d : ByteArray) : Fil := (fileOf L d).getD zeroF
theorem filD_kind (L : List Fil) (d : ByteArray) : (filD L d).kind = kindOf L d := by
 unfold filD kindOf
 cases fileOf L d <;> rfl
theorem filD_size (L : List Fil) (d : ByteArray) : (filD L d).size = sizeOf L d := by
 unfold filD sizeOf
 cases fileOf L d <;> rfl
theorem up_of_scan {α : Type} {key : α → ByteArray} {bad : List α → α → Int} {L : List α} (h : scan bad [] L = 0) (hb : ∀ pre x p, bad pre x = 0 → pre.getLast? = some p → lt (key p) (key x) = true) : Up key L := by
 unfold Up
 rw [List.pairwise_iff_getElem]
 have step : ∀ k, (hk : k + 1 < L.length) → lt (key L[k]) (key L[k + 1]) = true := by
  intro k hk
  have h1 := scan_0 h (L.take (k + 1)) (L.drop (k + 2)) L[k + 1] (by
   conv => lhs; rw [← List.take_append_drop (k + 1) L]
   rw [List.drop_eq_getElem_cons hk])
  rw [List.nil_append] at h1
  exact hb _ _ _ h1 (last_take (List.getElem?_eq_getElem (by omega)))
 intro i j hi hj hij
 induction j with
 | zero => omega
 | succ j ih =>
   by_cases e : i = j
   ·subst e; exact step i hj
   ·exact lt_trans (ih (by omega) (by omega)) (step j hj)
theorem files_up {L : List Fil} (h : scan fileE [] L = 0) : Up (·.dig) L := by
 refine up_of_scan h fun pre x p hb hp => ?_
 unfold fileE at hb
 split at hb
 ·rw [hp] at hb
  simp only at hb
  split at hb
  ·cases hb
  ·rename_i g
   rw [le_not] at g
   simpa using g
 ·cases hb
theorem file_dig {L : List Fil} (h : scan fileE [] L = 0) {f : Fil} (hf : f ∈ L) : Fd.fileB f.dig = true := by
 obtain ⟨i, hi⟩ := List.getElem?_of_mem hf
 obtain ⟨hlt, hg⟩ := List.getElem?_eq_some_iff.1 hi
 have h1 := scan_0 h (L.take i) (L.drop (i + 1)) f (by
  conv => lhs; rw [← List.take_append_drop i L]
  rw [List.drop_eq_getElem_cons hlt, hg])
 rw [List.nil_append] at h1
 unfold fileE at h1
 split at h1
 ·rename_i g; exact g
 ·cases h1
theorem file_dig16 {L : List Fil} (h : scan fileE [] L = 0) {f : Fil} (hf : f ∈ L) : f.dig.size = 16 := by
 have := file_dig h hf
 unfold Fd.fileB at this
 exact (of_decide_eq_true this).1
end St
end Go.Proofs.YthdiccdnggloiaaGreatDoor
namespace Go.Proofs.YthdiccdnggloiaaGreatDoor
open Go.RowKit Go.Sort Go.Maps
structure StIn (w : World) (s : Sto) (a : StA) : Prop where
 ti : RowE St.eT w a.ta s.tiers
 fi : RowE St.eF w a.fa s.files
 co : RowE St.eC w a.ca s.copies
 he : RowE St.eS w a.ha s.held
 bi : RowE St.eG w a.ba s.bin
 tl : s.tiers.length ≤ a.tc ∧ a.tc ≤ 9223372036854775807
 fl : s.files.length ≤ a.fc ∧ a.fc ≤ 9223372036854775807
 cl : s.copies.length ≤ a.cc ∧ a.cc ≤ 9223372036854775807
 hl : s.held.length ≤ a.hc ∧ a.hc ≤ 9223372036854775807
 bl : s.bin.length ≤ a.bc ∧ a.bc ≤ 9223372036854775807
 tz : ∀ t ∈ s.tiers, t.name.size ≤ 9223372036854775807
 fz : ∀ f ∈ s.files, f.dig.size ≤ 9223372036854775807 ∧ f.frm.size ≤ 9223372036854775807
 cz : ∀ c ∈ s.copies, c.dig.size ≤ 9223372036854775807 ∧ c.tier.size ≤ 9223372036854775807
 hz : ∀ d ∈ s.held, d.size ≤ 9223372036854775807
 bz : ∀ g ∈ s.bin, g.dig.size ≤ 9223372036854775807
theorem StIn.keep {w w' : World} {s : Sto} {a : StA} (h : StIn w s a) (hb : Below w.heap.size w w') : StIn w' s a :=
 ⟨h.ti.keep hb, h.fi.keep hb, h.co.keep hb, h.he.keep hb, h.bi.keep hb, h.tl, h.fl, h.cl, h.hl, h.bl, h.tz, h.fz, h.cz, h.hz, h.bz⟩
namespace St
def fval (f : Fil) : Value := .agg #[.string f.dig, .int .i64 f.size, .int .i64 f.kind, .string f.frm]
def rdF (v : Value) : Option (DataW Value × List MemPlace) := some (.held v, [])
def kl (d : ByteArray) : Lit := .string d.data.toList
theorem kl_inj {d d' : ByteArray} (h : kl d = kl d') : d = d' := by
 unfold kl at h
 injection h with h
 exact ByteArray.ext (Array.toList_inj.1 h)
theorem kl_ne {d d' : ByteArray} (h : d ≠ d') : kl d ≠ kl d' := fun e => h (kl_inj e)
end St
def FMap (w : World) (b : Nat) (L : List Fil) : Prop :=
 ∃ D : DataW Value, w.ownsMap Tryz.prog 9 St.rdF b L.length D ∧ Tidy D ∧ ∀ d : ByteArray, (∀ z, D.atKey (St.kl d) z = match St.lastOf L d with | some f => .held (St.fval f) | none => z) ∧ has D (St.kl d) = (St.lastOf L d).isSome
theorem FMap.lt {w : World} {b : Nat} {L : List Fil} (h : FMap w b L) : b < w.heap.size := by
 obtain ⟨D, h1, _⟩ := h; exact h1.lt
theorem FMap.made (w : World) : FMap (w.alloc (.map #[] 0)) w.heap.size [] :=
 ⟨.map [], World.ownsMap_made w _ _ _, (World.ownsMap_made w Tryz.prog 9 St.rdF).tidy (string_keyed Tryz.underlying9), fun d => ⟨fun z => by simp [St.lastOf_nil, DataW.atKey], by simp [St.lastOf_nil, has]⟩⟩
theorem FMap.kept {w w' : World} {b : Nat} {L : List Fil} {row : Option Nat} (h : FMap w b L) (hg : w.grownBy w' row) (hne : some b ≠ row) : FMap w' b L := by
 obtain ⟨D, h1, h2, h3⟩ := h
 exact ⟨D, h1.kept hg hne, h2, h3⟩
theorem FMap.keep {w w' : World} {b : Nat} {L : List Fil} (h : FMap w b L) (hb : Below w.heap.size w w') : FMap w' b L :=
 h.kept (row := none) ⟨hb.os, hb.tape, hb.output, hb.size, fun k hk _ => hb.block k hk⟩ (by simp)
theorem FMap.put {w w' : World} {b : Nat} {L : List Fil} {f : Fil} {D : DataW Value} (h2 : Tidy D) (h3 : ∀ d : ByteArray, (∀ z, D.atKey (St.kl d) z = match St.lastOf L d with | some f => .held (St.fval f) | none => z) ∧ has D (St.kl d) = (St.lastOf L d).isSome)
  (h4 : w'.ownsMap Tryz.prog 9 St.rdF b (L.length + 1) (D.put (St.kl f.dig) (.held (St.fval f)))) : FMap w' b (L ++ [f]) := by
 refine ⟨_, by rw [List.length_append]; exact h4, h4.tidy (string_keyed Tryz.underlying9), fun d => ?_⟩
 have hk : WideAt.IsKeyLit (St.kl f.dig) := trivial
 rw [St.lastOf_snoc]
 by_cases e : St.eq f.dig d = true
 ·rw [if_pos e]
  obtain rfl := St.eq_iff.1 e
  exact ⟨fun z => atKey_put_same h2.isMap hk _ _, has_put_same h2.isMap hk _⟩
 ·rw [if_neg e]
  have hne : St.kl d ≠ St.kl f.dig := St.kl_ne fun e2 => e (St.eq_iff.2 e2.symm)
  exact ⟨fun z => by rw [atKey_put_other hne]; exact (h3 d).1 z, by rw [has_put_other hne]; exact (h3 d).2⟩
theorem zeroFil (w : World) : (zeroValue 30).run Tryz.prog w = .ok (St.fval St.zeroF) w := by kernel_rfl
theorem keyS {d : ByteArray} (h : d.size ≤ 9223372036854775807) : keyOf Tryz.prog 9 (.string d) = some (St.kl d) := WideMaps.keyOf_string_mk Tryz.underlying9 h
theorem FMap.look {w : World} {b : Nat} {L : List Fil} (h : FMap w b L) {d : ByteArray} (hd : d.size ≤ 9223372036854775807) :
  (Instr.lookup 133 (.map (some b)) (.string d) false).run Tryz.prog w = .ok (St.fval ((St.lastOf L d).getD St.zeroF)) w := by
 obtain ⟨D, h1, h2, h3⟩ := h
 obtain ⟨v, ps, hr, hv⟩ := h1.lookup (string_keyed Tryz.underlying9) Tryz.underlying133 (zeroFil w) (zd := .held (St.fval St.zeroF)) (zp := []) rfl (keyS hd)
 rw [(h3 d).1] at hv
 rw [hr]
 cases hl : St.lastOf L d with
 | none => rw [hl] at hv; unfold St.rdF at hv; simp at hv; rw [hv.1]; rfl
 | some f => rw [hl] at hv; unfold St.rdF at hv; simp at hv; rw [hv.1]; rfl
theorem FMap.look_ok {w : World} {b : Nat} {L : List Fil} (h : FMap w b L) {d : ByteArray} (hd : d.size ≤ 9223372036854775807) :
  (Instr.lookup 133 (.map (some b)) (.string d) true).run Tryz.prog w = .ok (.tuple #[St.fval ((St.lastOf L d).getD St.zeroF), .bool (St.lastOf L d).isSome]) w := by
 obtain ⟨D, h1, h2, h3⟩ := h
 obtain ⟨v, ps, hr, hv⟩ := h1.look_ok (string_keyed Tryz.underlying9) Tryz.underlying133 (zeroFil w) (zd := .held (St.fval St.zeroF)) (zp := []) rfl (keyS hd)
 rw [(h3 d).1] at hv
 rw [hr, (h3 d).2]
 cases hl : St.lastOf L d with
 | none => rw [hl] at hv; unfold St.rdF at hv; simp at hv; rw [hv.1]; rfl
 | some f => rw [hl] at hv; unfold St.rdF at hv; simp at hv; rw [hv.1]; rfl
end Go.Proofs.YthdiccdnggloiaaGreatDoor
namespace Go.Proofs.YthdiccdnggloiaaGreatDoor
open Go.RowKit Go.Sort Go.Shelf Go.Maps
theorem RowE.flatAt {α : Type} {E : Enc α} (hk : 0 < E.k) {w : World} {b off : Nat} {L : List α} (h : RowE E w (some ⟨b, off, none⟩) L) : ∀ j u, (E.flat L)[j]? = some u → w.cell? ⟨b, off + j, none⟩ = some u := by
 intro j u hj
 have hlt := (List.getElem?_eq_some_iff.1 hj).1
 rw [E.flat_len] at hlt
 have hdm := Nat.div_add_mod j E.k
 have hmod := Nat.mod_lt j hk
 have hi : j / E.k < L.length := Nat.div_lt_of_lt_mul (by rw [Nat.mul_comm]; exact hlt)
 obtain ⟨b', off', e, hb, hc⟩ := h (Nat.lt_of_le_of_lt (Nat.zero_le _) hi)
 cases e
 have he : j / E.k * E.k + j % E.k = j := by rw [Nat.mul_comm]; exact hdm
 have hg := E.flat_get L (j / E.k) _ (List.getElem?_eq_getElem hi) (j % E.k) hmod
 rw [he, hj] at hg
 have := hc (j / E.k) _ (List.getElem?_eq_getElem hi) (j % E.k) u hg.symm
 rwa [Nat.add_assoc, he] at this
def ClnPost {α : Type} (E : Enc α) (t : TypeId) (w : World) (L : List α) (e : Ending) (w' : World) : Prop := ∃ a ca, e = .returned (.slice a L.length ca) ∧ OwnV w' w.heap.size t E.k (.slice a L.length ca) L.length (E.flat L) ∧ Below w.heap.size w w'
theorem infoTir : (Tryz.prog.info? 46).map (fun i => (i.zero, i.size, i.bytes)) = some (some (.agg #[.string ByteArray.empty, .int .i64 0, .int .i64 0, .bool false]), 4, 40) := by kernel_rfl
theorem infoFil : (Tryz.prog.info? 30).map (fun i => (i.zero, i.size, i.bytes)) = some (some (.agg #[.string ByteArray.empty, .int .i64 0, .int .i64 0, .string ByteArray.empty]), 4, 48) := by kernel_rfl
theorem infoCop : (Tryz.prog.info? 74).map (fun i => (i.zero, i.size, i.bytes)) = some (some (.agg #[.string ByteArray.empty, .string ByteArray.empty, .bool false, .int .i64 0]), 4, 48) := by kernel_rfl
theorem infoGon : (Tryz.prog.info? 112).map (fun i => (i.zero, i.size, i.bytes)) = some (some (.agg #[.string ByteArray.empty, .int .i64 0]), 2, 24) := by kernel_rfl
theorem infoStS : (Tryz.prog.info? 9).map (fun i => (i.zero, i.size, i.bytes)) = some (some (.string ByteArray.empty), 1, 16) := by kernel_rfl

theorem clnT_none (ca : Nat) (w : World) : Calls Tryz.prog 135 #[.slice none 0 ca] w (ClnPost St.eT 46 w []) := by
 have hnil := fun (W : World) => Lib.run_eql_slice_nil (P := Tryz.prog) W 22 46 none 0 ca 0 0 Tryz.underlying22
 go_enter Tryz.func135, Tryz.ntmps135
 go_wp2_with fail
 go_ret
 exact ⟨none, 0, rfl, .inl ⟨rfl, rfl, rfl⟩, Below.refl _ _⟩
theorem clnT_empty (p : Addr) (ca : Nat) (w : World) : Calls Tryz.prog 135 #[.slice (some p) 0 ca] w (ClnPost St.eT 46 w []) := by
 obtain ⟨i0, hi0, hz0, hz1, hz2⟩ := info_parts infoTir
 have HI0 := Lib.hid hi0; have HI2 := Lib.hid hz1
 clear hi0 hz0 hz1 hz2
 have hnil := fun (W : World) => Lib.run_eql_slice_nil (P := Tryz.prog) W 22 46 (some p) 0 ca 0 0 Tryz.underlying22
 have HO : Hid ((w.alloc (.cells #[] 46)).ownsRow w.heap.size 46 4 (.slice (some ⟨w.heap.size, 0, none⟩) 0 0) 0 []) := ⟨rfl, .inr ⟨w.heap.size, 0, #[], rfl, Nat.le_refl _, heap_alloc_new w _, Nat.le_refl _, by simp, by simp, by simp⟩⟩
 go_enter Tryz.func135, Tryz.ntmps135
 go_wp2_with (at_builtin; refine wpList_append_fits _ rfl _ _ 22 rfl w.heap.size 46 i0 4 Tryz.underlying22 HI0.out HI2.out w.heap.size 0 0 [] rfl HO.out p 0 ca [] rfl rfl (fun j u hj => by simp at hj) (by simp) (by omega) ?_; intro w1 hown hgrow)
 go_ret
 exact ⟨_, _, rfl, OwnV.of_own hown, ((Below.refl _ w).alloc (Nat.le_refl _) _).grown hgrow (by simp) (fun k e => by cases e; exact Nat.le_refl _)⟩
theorem clnT_is {L : List _} (a : Option Addr) (ca : Nat) (w : World) (hx : RowE St.eT w a L) (hn2 : L.length ≤ 1000000) : Calls Tryz.prog 135 #[.slice a L.length ca] w (ClnPost St.eT 46 w L) := by
 rcases Nat.eq_zero_or_pos L.length with h0 | hn
 ·obtain rfl := List.length_eq_zero_iff.1 h0
  cases a with
  | none => exact clnT_none ca w
  | some p => exact clnT_empty p ca w
 ·obtain ⟨b, off, rfl, hb, _⟩ := id (hx hn)
  have hc := hx.flatAt (by decide)
  obtain ⟨i0, hi0, hz0, hz1, hz2⟩ := info_parts infoTir
  have HI0 := Lib.hid hi0; have HI1 := Lib.hid hz0; have HI2 := Lib.hid hz1; have HI3 := Lib.hid hz2
  clear hi0 hz0 hz1 hz2
  have hnw : ∀ j u, (Enc.flat St.eT L)[j]? = some u → (w.alloc (.cells #[] 46)).cell? ((⟨b, off, none⟩ : Addr).add j) = some u := by
   intro j u hj
   rw [show (⟨b, off, none⟩ : Addr).add j = ⟨b, off + j, none⟩ from by unfold Addr.add; split <;> simp_all]
   exact (((Below.refl w.heap.size w).alloc (Nat.le_refl _) (.cells #[] 46)).cell (p := ⟨b, off + j, none⟩) hb).trans (hc j u hj)
  have HNW := Lib.hid hnw; have H1C := Lib.hid (Enc.flat_one St.eT L); have HNL : Hid ((Enc.flat St.eT L).length = L.length * 4) := Lib.hid (Enc.flat_len St.eT L)
  clear hnw hc hx hb
  show Calls Tryz.prog 135 #[.slice (some ⟨b, off, none⟩) L.length ca] w fun e w' => ∃ a ca, e = .returned (.slice a L.length ca) ∧ OwnV w' w.heap.size 46 4 (.slice a L.length ca) L.length (Enc.flat St.eT L) ∧ Below w.heap.size w w'
  generalize Enc.flat St.eT L = FL at *
  generalize L.length = n at *
  have hmx : 0 + n ≤ maxLen := by unfold maxLen; omega
  have hbz : (0 + n) * 40 ≤ 140737488355328 := by omega
  have hnil := fun (W : World) => Lib.run_eql_slice_nil (P := Tryz.prog) W 22 46 (some ⟨b, off, none⟩) n ca 0 0 Tryz.underlying22
  go_enter Tryz.func135, Tryz.ntmps135
  go_wp2_with (at_builtin; refine wpList_append_grows _ rfl _ _ 22 rfl 46 i0 (.agg #[.string ByteArray.empty, .int .i64 0, .int .i64 0, .bool false]) 4 40 Tryz.underlying22 HI0.out HI1.out HI2.out HI3.out rfl (by decide) (some ⟨w.heap.size, 0, none⟩) 0 0 [] rfl (fun h => by cases h) rfl (fun b hb j u hj => by simp at hj) ⟨b, off, none⟩ n ca FL rfl HNL.out HNW.out H1C.out (by omega) hmx hbz ?_; intro v' w1 hown hgrow)
  rw [Nat.zero_add, List.nil_append] at hown
  rcases hown.2 with ⟨_, h0⟩ | ⟨g, cap, cur, rfl, hg, hcell, hk, hm, _⟩
  ·omega
  have hB1 := ((Below.refl w.heap.size w).alloc (Nat.le_refl _) (.cells #[] 46)).grown hgrow (by simp) (fun k e => by cases e)
  have HOW := Lib.hid (ownsRow_down hown (show w.heap.size ≤ _ by simp))
  have hm2 : cap ≤ 9223372036854775807 := hm
  clear hown hgrow hcell hm hg
  go_wp2_with fail
  go_ret
  exact ⟨_, _, rfl, OwnV.of_own HOW.out, hB1⟩

theorem clnF_none (ca : Nat) (w : World) : Calls Tryz.prog 137 #[.slice none 0 ca] w (ClnPost St.eF 30 w []) := by
 have hnil := fun (W : World) => Lib.run_eql_slice_nil (P := Tryz.prog) W 23 30 none 0 ca 0 0 Tryz.underlying23
 go_enter Tryz.func137, Tryz.ntmps137
 go_wp2_with fail
 go_ret
 exact ⟨none, 0, rfl, .inl ⟨rfl, rfl, rfl⟩, Below.refl _ _⟩
theorem clnF_empty (p : Addr) (ca : Nat) (w : World) : Calls Tryz.prog 137 #[.slice (some p) 0 ca] w (ClnPost St.eF 30 w []) := by
 obtain ⟨i0, hi0, hz0, hz1, hz2⟩ := info_parts infoFil
 have HI0 := Lib.hid hi0; have HI2 := Lib.hid hz1
 clear hi0 hz0 hz1 hz2
 have hnil := fun (W : World) => Lib.run_eql_slice_nil (P := Tryz.prog) W 23 30 (some p) 0 ca 0 0 Tryz.underlying23
 have HO : Hid ((w.alloc (.cells #[] 30)).ownsRow w.heap.size 30 4 (.slice (some ⟨w.heap.size, 0, none⟩) 0 0) 0 []) := ⟨rfl, .inr ⟨w.heap.size, 0, #[], rfl, Nat.le_refl _, heap_alloc_new w _, Nat.le_refl _, by simp, by simp, by simp⟩⟩
 go_enter Tryz.func137, Tryz.ntmps137
 go_wp2_with (at_builtin; refine wpList_append_fits _ rfl _ _ 23 rfl w.heap.size 30 i0 4 Tryz.underlying23 HI0.out HI2.out w.heap.size 0 0 [] rfl HO.out p 0 ca [] rfl rfl (fun j u hj => by simp at hj) (by simp) (by omega) ?_; intro w1 hown hgrow)
 go_ret
 exact ⟨_, _, rfl, OwnV.of_own hown, ((Below.refl _ w).alloc (Nat.le_refl _) _).grown hgrow (by simp) (fun k e => by cases e; exact Nat.le_refl _)⟩
theorem clnF_is {L : List _} (a : Option Addr) (ca : Nat) (w : World) (hx : RowE St.eF w a L) (hn2 : L.length ≤ 1000000) : Calls Tryz.prog 137 #[.slice a L.length ca] w (ClnPost St.eF 30 w L) := by
 rcases Nat.eq_zero_or_pos L.length with h0 | hn
 ·obtain rfl := List.length_eq_zero_iff.1 h0
  cases a with
  | none => exact clnF_none ca w
  | some p => exact clnF_empty p ca w
 ·obtain ⟨b, off, rfl, hb, _⟩ := id (hx hn)
  have hc := hx.flatAt (by decide)
  obtain ⟨i0, hi0, hz0, hz1, hz2⟩ := info_parts infoFil
  have HI0 := Lib.hid hi0; have HI1 := Lib.hid hz0; have HI2 := Lib.hid hz1; have HI3 := Lib.hid hz2
  clear hi0 hz0 hz1 hz2
  have hnw : ∀ j u, (Enc.flat St.eF L)[j]? = some u → (w.alloc (.cells #[] 30)).cell? ((⟨b, off, none⟩ : Addr).add j) = some u := by
   intro j u hj
   rw [show (⟨b, off, none⟩ : Addr).add j = ⟨b, off + j, none⟩ from by unfold Addr.add; split <;> simp_all]
   exact (((Below.refl w.heap.size w).alloc (Nat.le_refl _) (.cells #[] 30)).cell (p := ⟨b, off + j, none⟩) hb).trans (hc j u hj)
  have HNW := Lib.hid hnw; have H1C := Lib.hid (Enc.flat_one St.eF L); have HNL : Hid ((Enc.flat St.eF L).length = L.length * 4) := Lib.hid (Enc.flat_len St.eF L)
  clear hnw hc hx hb
  show Calls Tryz.prog 137 #[.slice (some ⟨b, off, none⟩) L.length ca] w fun e w' => ∃ a ca, e = .returned (.slice a L.length ca) ∧ OwnV w' w.heap.size 30 4 (.slice a L.length ca) L.length (Enc.flat St.eF L) ∧ Below w.heap.size w w'
  generalize Enc.flat St.eF L = FL at *
  generalize L.length = n at *
  have hmx : 0 + n ≤ maxLen := by unfold maxLen; omega
  have hbz : (0 + n) * 48 ≤ 140737488355328 := by omega
  have hnil := fun (W : World) => Lib.run_eql_slice_nil (P := Tryz.prog) W 23 30 (some ⟨b, off, none⟩) n ca 0 0 Tryz.underlying23
  go_enter Tryz.func137, Tryz.ntmps137
  go_wp2_with (at_builtin; refine wpList_append_grows _ rfl _ _ 23 rfl 30 i0 (.agg #[.string ByteArray.empty, .int .i64 0, .int .i64 0, .string ByteArray.empty]) 4 48 Tryz.underlying23 HI0.out HI1.out HI2.out HI3.out rfl (by decide) (some ⟨w.heap.size, 0, none⟩) 0 0 [] rfl (fun h => by cases h) rfl (fun b hb j u hj => by simp at hj) ⟨b, off, none⟩ n ca FL rfl HNL.out HNW.out H1C.out (by omega) hmx hbz ?_; intro v' w1 hown hgrow)
  rw [Nat.zero_add, List.nil_append] at hown
  rcases hown.2 with ⟨_, h0⟩ | ⟨g, cap, cur, rfl, hg, hcell, hk, hm, _⟩
  ·omega
  have hB1 := ((Below.refl w.heap.size w).alloc (Nat.le_refl _) (.cells #[] 30)).grown hgrow (by simp) (fun k e => by cases e)
  have HOW := Lib.hid (ownsRow_down hown (show w.heap.size ≤ _ by simp))
  have hm2 : cap ≤ 9223372036854775807 := hm
  clear hown hgrow hcell hm hg
  go_wp2_with fail
  go_ret
  exact ⟨_, _, rfl, OwnV.of_own HOW.out, hB1⟩

theorem clnC_none (ca : Nat) (w : World) : Calls Tryz.prog 139 #[.slice none 0 ca] w (ClnPost St.eC 74 w []) := by
 have hnil := fun (W : World) => Lib.run_eql_slice_nil (P := Tryz.prog) W 24 74 none 0 ca 0 0 Tryz.underlying24
 go_enter Tryz.func139, Tryz.ntmps139
 go_wp2_with fail
 go_ret
 exact ⟨none, 0, rfl, .inl ⟨rfl, rfl, rfl⟩, Below.refl _ _⟩
theorem clnC_empty (p : Addr) (ca : Nat) (w : World) : Calls Tryz.prog 139 #[.slice (some p) 0 ca] w (ClnPost St.eC 74 w []) := by
 obtain ⟨i0, hi0, hz0, hz1, hz2⟩ := info_parts infoCop
 have HI0 := Lib.hid hi0; have HI2 := Lib.hid hz1
 clear hi0 hz0 hz1 hz2
 have hnil := fun (W : World) => Lib.run_eql_slice_nil (P := Tryz.prog) W 24 74 (some p) 0 ca 0 0 Tryz.underlying24
 have HO : Hid ((w.alloc (.cells #[] 74)).ownsRow w.heap.size 74 4 (.slice (some ⟨w.heap.size, 0, none⟩) 0 0) 0 []) := ⟨rfl, .inr ⟨w.heap.size, 0, #[], rfl, Nat.le_refl _, heap_alloc_new w _, Nat.le_refl _, by simp, by simp, by simp⟩⟩
 go_enter Tryz.func139, Tryz.ntmps139
 go_wp2_with (at_builtin; refine wpList_append_fits _ rfl _ _ 24 rfl w.heap.size 74 i0 4 Tryz.underlying24 HI0.out HI2.out w.heap.size 0 0 [] rfl HO.out p 0 ca [] rfl rfl (fun j u hj => by simp at hj) (by simp) (by omega) ?_; intro w1 hown hgrow)
 go_ret
 exact ⟨_, _, rfl, OwnV.of_own hown, ((Below.refl _ w).alloc (Nat.le_refl _) _).grown hgrow (by simp) (fun k e => by cases e; exact Nat.le_refl _)⟩
theorem clnC_is {L : List _} (a : Option Addr) (ca : Nat) (w : World) (hx : RowE St.eC w a L) (hn2 : L.length ≤ 1000000) : Calls Tryz.prog 139 #[.slice a L.length ca] w (ClnPost St.eC 74 w L) := by
 rcases Nat.eq_zero_or_pos L.length with h0 | hn
 ·obtain rfl := List.length_eq_zero_iff.1 h0
  cases a with
  | none => exact clnC_none ca w
  | some p => exact clnC_empty p ca w
 ·obtain ⟨b, off, rfl, hb, _⟩ := id (hx hn)
  have hc := hx.flatAt (by decide)
  obtain ⟨i0, hi0, hz0, hz1, hz2⟩ := info_parts infoCop
  have HI0 := Lib.hid hi0; have HI1 := Lib.hid hz0; have HI2 := Lib.hid hz1; have HI3 := Lib.hid hz2
  clear hi0 hz0 hz1 hz2
  have hnw : ∀ j u, (Enc.flat St.eC L)[j]? = some u → (w.alloc (.cells #[] 74)).cell? ((⟨b, off, none⟩ : Addr).add j) = some u := by
   intro j u hj
   rw [show (⟨b, off, none⟩ : Addr).add j = ⟨b, off + j, none⟩ from by unfold Addr.add; split <;> simp_all]
   exact (((Below.refl w.heap.size w).alloc (Nat.le_refl _) (.cells #[] 74)).cell (p := ⟨b, off + j, none⟩) hb).trans (hc j u hj)
  have HNW := Lib.hid hnw; have H1C := Lib.hid (Enc.flat_one St.eC L); have HNL : Hid ((Enc.flat St.eC L).length = L.length * 4) := Lib.hid (Enc.flat_len St.eC L)
  clear hnw hc hx hb
  show Calls Tryz.prog 139 #[.slice (some ⟨b, off, none⟩) L.length ca] w fun e w' => ∃ a ca, e = .returned (.slice a L.length ca) ∧ OwnV w' w.heap.size 74 4 (.slice a L.length ca) L.length (Enc.flat St.eC L) ∧ Below w.heap.size w w'
  generalize Enc.flat St.eC L = FL at *
  generalize L.length = n at *
  have hmx : 0 + n ≤ maxLen := by unfold maxLen; omega
  have hbz : (0 + n) * 48 ≤ 140737488355328 := by omega
  have hnil := fun (W : World) => Lib.run_eql_slice_nil (P := Tryz.prog) W 24 74 (some ⟨b, off, none⟩) n ca 0 0 Tryz.underlying24
  go_enter Tryz.func139, Tryz.ntmps139
  go_wp2_with (at_builtin; refine wpList_append_grows _ rfl _ _ 24 rfl 74 i0 (.agg #[.string ByteArray.empty, .string ByteArray.empty, .bool false, .int .i64 0]) 4 48 Tryz.underlying24 HI0.out HI1.out HI2.out HI3.out rfl (by decide) (some ⟨w.heap.size, 0, none⟩) 0 0 [] rfl (fun h => by cases h) rfl (fun b hb j u hj => by simp at hj) ⟨b, off, none⟩ n ca FL rfl HNL.out HNW.out H1C.out (by omega) hmx hbz ?_; intro v' w1 hown hgrow)
  rw [Nat.zero_add, List.nil_append] at hown
  rcases hown.2 with ⟨_, h0⟩ | ⟨g, cap, cur, rfl, hg, hcell, hk, hm, _⟩
  ·omega
  have hB1 := ((Below.refl w.heap.size w).alloc (Nat.le_refl _) (.cells #[] 74)).grown hgrow (by simp) (fun k e => by cases e)
  have HOW := Lib.hid (ownsRow_down hown (show w.heap.size ≤ _ by simp))
  have hm2 : cap ≤ 9223372036854775807 := hm
  clear hown hgrow hcell hm hg
  go_wp2_with fail
  go_ret
  exact ⟨_, _, rfl, OwnV.of_own HOW.out, hB1⟩

theorem clnS_none (ca : Nat) (w : World) : Calls Tryz.prog 140 #[.slice none 0 ca] w (ClnPost St.eS 9 w []) := by
 have hnil := fun (W : World) => Lib.run_eql_slice_nil (P := Tryz.prog) W 25 9 none 0 ca 0 0 Tryz.underlying25
 go_enter Tryz.func140, Tryz.ntmps140
 go_wp2_with fail
 go_ret
 exact ⟨none, 0, rfl, .inl ⟨rfl, rfl, rfl⟩, Below.refl _ _⟩
theorem clnS_empty (p : Addr) (ca : Nat) (w : World) : Calls Tryz.prog 140 #[.slice (some p) 0 ca] w (ClnPost St.eS 9 w []) := by
 obtain ⟨i0, hi0, hz0, hz1, hz2⟩ := info_parts infoStS
 have HI0 := Lib.hid hi0; have HI2 := Lib.hid hz1
 clear hi0 hz0 hz1 hz2
 have hnil := fun (W : World) => Lib.run_eql_slice_nil (P := Tryz.prog) W 25 9 (some p) 0 ca 0 0 Tryz.underlying25
 have HO : Hid ((w.alloc (.cells #[] 9)).ownsRow w.heap.size 9 1 (.slice (some ⟨w.heap.size, 0, none⟩) 0 0) 0 []) := ⟨rfl, .inr ⟨w.heap.size, 0, #[], rfl, Nat.le_refl _, heap_alloc_new w _, Nat.le_refl _, by simp, by simp, by simp⟩⟩
 go_enter Tryz.func140, Tryz.ntmps140
 go_wp2_with (at_builtin; refine wpList_append_fits _ rfl _ _ 25 rfl w.heap.size 9 i0 1 Tryz.underlying25 HI0.out HI2.out w.heap.size 0 0 [] rfl HO.out p 0 ca [] rfl rfl (fun j u hj => by simp at hj) (by simp) (by omega) ?_; intro w1 hown hgrow)
 go_ret
 exact ⟨_, _, rfl, OwnV.of_own hown, ((Below.refl _ w).alloc (Nat.le_refl _) _).grown hgrow (by simp) (fun k e => by cases e; exact Nat.le_refl _)⟩
theorem clnS_is {L : List _} (a : Option Addr) (ca : Nat) (w : World) (hx : RowE St.eS w a L) (hn2 : L.length ≤ 1000000) : Calls Tryz.prog 140 #[.slice a L.length ca] w (ClnPost St.eS 9 w L) := by
 rcases Nat.eq_zero_or_pos L.length with h0 | hn
 ·obtain rfl := List.length_eq_zero_iff.1 h0
  cases a with
  | none => exact clnS_none ca w
  | some p => exact clnS_empty p ca w
 ·obtain ⟨b, off, rfl, hb, _⟩ := id (hx hn)
  have hc := hx.flatAt (by decide)
  obtain ⟨i0, hi0, hz0, hz1, hz2⟩ := info_parts infoStS
  have HI0 := Lib.hid hi0; have HI1 := Lib.hid hz0; have HI2 := Lib.hid hz1; have HI3 := Lib.hid hz2
  clear hi0 hz0 hz1 hz2
  have hnw : ∀ j u, (Enc.flat St.eS L)[j]? = some u → (w.alloc (.cells #[] 9)).cell? ((⟨b, off, none⟩ : Addr).add j) = some u := by
   intro j u hj
   rw [show (⟨b, off, none⟩ : Addr).add j = ⟨b, off + j, none⟩ from by unfold Addr.add; split <;> simp_all]
   exact (((Below.refl w.heap.size w).alloc (Nat.le_refl _) (.cells #[] 9)).cell (p := ⟨b, off + j, none⟩) hb).trans (hc j u hj)
  have HNW := Lib.hid hnw; have H1C := Lib.hid (Enc.flat_one St.eS L); have HNL : Hid ((Enc.flat St.eS L).length = L.length * 1) := Lib.hid (Enc.flat_len St.eS L)
  clear hnw hc hx hb
  show Calls Tryz.prog 140 #[.slice (some ⟨b, off, none⟩) L.length ca] w fun e w' => ∃ a ca, e = .returned (.slice a L.length ca) ∧ OwnV w' w.heap.size 9 1 (.slice a L.length ca) L.length (Enc.flat St.eS L) ∧ Below w.heap.size w w'
  generalize Enc.flat St.eS L = FL at *
  generalize L.length = n at *
  have hmx : 0 + n ≤ maxLen := by unfold maxLen; omega
  have hbz : (0 + n) * 16 ≤ 140737488355328 := by omega
  have hnil := fun (W : World) => Lib.run_eql_slice_nil (P := Tryz.prog) W 25 9 (some ⟨b, off, none⟩) n ca 0 0 Tryz.underlying25
  go_enter Tryz.func140, Tryz.ntmps140
  go_wp2_with (at_builtin; refine wpList_append_grows _ rfl _ _ 25 rfl 9 i0 (.string ByteArray.empty) 1 16 Tryz.underlying25 HI0.out HI1.out HI2.out HI3.out rfl (by decide) (some ⟨w.heap.size, 0, none⟩) 0 0 [] rfl (fun h => by cases h) rfl (fun b hb j u hj => by simp at hj) ⟨b, off, none⟩ n ca FL rfl HNL.out HNW.out H1C.out (by omega) hmx hbz ?_; intro v' w1 hown hgrow)
  rw [Nat.zero_add, List.nil_append] at hown
  rcases hown.2 with ⟨_, h0⟩ | ⟨g, cap, cur, rfl, hg, hcell, hk, hm, _⟩
  ·omega
  have hB1 := ((Below.refl w.heap.size w).alloc (Nat.le_refl _) (.cells #[] 9)).grown hgrow (by simp) (fun k e => by cases e)
  have HOW := Lib.hid (ownsRow_down hown (show w.heap.size ≤ _ by simp))
  have hm2 : cap ≤ 9223372036854775807 := hm
  clear hown hgrow hcell hm hg
  go_wp2_with fail
  go_ret
  exact ⟨_, _, rfl, OwnV.of_own HOW.out, hB1⟩

theorem clnG_none (ca : Nat) (w : World) : Calls Tryz.prog 141 #[.slice none 0 ca] w (ClnPost St.eG 112 w []) := by
 have hnil := fun (W : World) => Lib.run_eql_slice_nil (P := Tryz.prog) W 26 112 none 0 ca 0 0 Tryz.underlying26
 go_enter Tryz.func141, Tryz.ntmps141
 go_wp2_with fail
 go_ret
 exact ⟨none, 0, rfl, .inl ⟨rfl, rfl, rfl⟩, Below.refl _ _⟩
theorem clnG_empty (p : Addr) (ca : Nat) (w : World) : Calls Tryz.prog 141 #[.slice (some p) 0 ca] w (ClnPost St.eG 112 w []) := by
 obtain ⟨i0, hi0, hz0, hz1, hz2⟩ := info_parts infoGon
 have HI0 := Lib.hid hi0; have HI2 := Lib.hid hz1
 clear hi0 hz0 hz1 hz2
 have hnil := fun (W : World) => Lib.run_eql_slice_nil (P := Tryz.prog) W 26 112 (some p) 0 ca 0 0 Tryz.underlying26
 have HO : Hid ((w.alloc (.cells #[] 112)).ownsRow w.heap.size 112 2 (.slice (some ⟨w.heap.size, 0, none⟩) 0 0) 0 []) := ⟨rfl, .inr ⟨w.heap.size, 0, #[], rfl, Nat.le_refl _, heap_alloc_new w _, Nat.le_refl _, by simp, by simp, by simp⟩⟩
 go_enter Tryz.func141, Tryz.ntmps141
 go_wp2_with (at_builtin; refine wpList_append_fits _ rfl _ _ 26 rfl w.heap.size 112 i0 2 Tryz.underlying26 HI0.out HI2.out w.heap.size 0 0 [] rfl HO.out p 0 ca [] rfl rfl (fun j u hj => by simp at hj) (by simp) (by omega) ?_; intro w1 hown hgrow)
 go_ret
 exact ⟨_, _, rfl, OwnV.of_own hown, ((Below.refl _ w).alloc (Nat.le_refl _) _).grown hgrow (by simp) (fun k e => by cases e; exact Nat.le_refl _)⟩
theorem clnG_is {L : List _} (a : Option Addr) (ca : Nat) (w : World) (hx : RowE St.eG w a L) (hn2 : L.length ≤ 1000000) : Calls Tryz.prog 141 #[.slice a L.length ca] w (ClnPost St.eG 112 w L) := by
 rcases Nat.eq_zero_or_pos L.length with h0 | hn
 ·obtain rfl := List.length_eq_zero_iff.1 h0
  cases a with
  | none => exact clnG_none ca w
  | some p => exact clnG_empty p ca w
 ·obtain ⟨b, off, rfl, hb, _⟩ := id (hx hn)
  have hc := hx.flatAt (by decide)
  obtain ⟨i0, hi0, hz0, hz1, hz2⟩ := info_parts infoGon
  have HI0 := Lib.hid hi0; have HI1 := Lib.hid hz0; have HI2 := Lib.hid hz1; have HI3 := Lib.hid hz2
  clear hi0 hz0 hz1 hz2
  have hnw : ∀ j u, (Enc.flat St.eG L)[j]? = some u → (w.alloc (.cells #[] 112)).cell? ((⟨b, off, none⟩ : Addr).add j) = some u := by
   intro j u hj
   rw [show (⟨b, off, none⟩ : Addr).add j = ⟨b, off + j, none⟩ from by unfold Addr.add; split <;> simp_all]
   exact (((Below.refl w.heap.size w).alloc (Nat.le_refl _) (.cells #[] 112)).cell (p := ⟨b, off + j, none⟩) hb).trans (hc j u hj)
  have HNW := Lib.hid hnw; have H1C := Lib.hid (Enc.flat_one St.eG L); have HNL : Hid ((Enc.flat St.eG L).length = L.length * 2) := Lib.hid (Enc.flat_len St.eG L)
  clear hnw hc hx hb
  show Calls Tryz.prog 141 #[.slice (some ⟨b, off, none⟩) L.length ca] w fun e w' => ∃ a ca, e = .returned (.slice a L.length ca) ∧ OwnV w' w.heap.size 112 2 (.slice a L.length ca) L.length (Enc.flat St.eG L) ∧ Below w.heap.size w w'
  generalize Enc.flat St.eG L = FL at *
  generalize L.length = n at *
  have hmx : 0 + n ≤ maxLen := by unfold maxLen; omega
  have hbz : (0 + n) * 24 ≤ 140737488355328 := by omega
  have hnil := fun (W : World) => Lib.run_eql_slice_nil (P := Tryz.prog) W 26 112 (some ⟨b, off, none⟩) n ca 0 0 Tryz.underlying26
  go_enter Tryz.func141, Tryz.ntmps141
  go_wp2_with (at_builtin; refine wpList_append_grows _ rfl _ _ 26 rfl 112 i0 (.agg #[.string ByteArray.empty, .int .i64 0]) 2 24 Tryz.underlying26 HI0.out HI1.out HI2.out HI3.out rfl (by decide) (some ⟨w.heap.size, 0, none⟩) 0 0 [] rfl (fun h => by cases h) rfl (fun b hb j u hj => by simp at hj) ⟨b, off, none⟩ n ca FL rfl HNL.out HNW.out H1C.out (by omega) hmx hbz ?_; intro v' w1 hown hgrow)
  rw [Nat.zero_add, List.nil_append] at hown
  rcases hown.2 with ⟨_, h0⟩ | ⟨g, cap, cur, rfl, hg, hcell, hk, hm, _⟩
  ·omega
  have hB1 := ((Below.refl w.heap.size w).alloc (Nat.le_refl _) (.cells #[] 112)).grown hgrow (by simp) (fun k e => by cases e)
  have HOW := Lib.hid (ownsRow_down hown (show w.heap.size ≤ _ by simp))
  have hm2 : cap ≤ 9223372036854775807 := hm
  clear hown hgrow hcell hm hg
  go_wp2_with fail
  go_ret
  exact ⟨_, _, rfl, OwnV.of_own HOW.out, hB1⟩
theorem clnT_clip (a : Option Addr) (n ca : Nat) (w : World) (h : n ≤ ca) (hc : ca ≤ 9223372036854775807) : Calls Tryz.prog 134 #[.slice a n ca] w fun e w' => e = .returned (.slice a n n) ∧ w = w' := by
 go_enter Tryz.func134, Tryz.ntmps134
 go_wp2_with fail
 go_ret
 exact ⟨rfl, rfl⟩
theorem clnF_clip (a : Option Addr) (n ca : Nat) (w : World) (h : n ≤ ca) (hc : ca ≤ 9223372036854775807) : Calls Tryz.prog 136 #[.slice a n ca] w fun e w' => e = .returned (.slice a n n) ∧ w = w' := by
 go_enter Tryz.func136, Tryz.ntmps136
 go_wp2_with fail
 go_ret
 exact ⟨rfl, rfl⟩
theorem clnC_clip (a : Option Addr) (n ca : Nat) (w : World) (h : n ≤ ca) (hc : ca ≤ 9223372036854775807) : Calls Tryz.prog 138 #[.slice a n ca] w fun e w' => e = .returned (.slice a n n) ∧ w = w' := by
 go_enter Tryz.func138, Tryz.ntmps138
 go_wp2_with fail
 go_ret
 exact ⟨rfl, rfl⟩
theorem clnS_clip (a : Option Addr) (n ca : Nat) (w : World) (h : n ≤ ca) (hc : ca ≤ 9223372036854775807) : Calls Tryz.prog 104 #[.slice a n ca] w fun e w' => e = .returned (.slice a n n) ∧ w = w' := by
 go_enter Tryz.func104, Tryz.ntmps104
 go_wp2_with fail
 go_ret
 exact ⟨rfl, rfl⟩
theorem clnG_clip (a : Option Addr) (n ca : Nat) (w : World) (h : n ≤ ca) (hc : ca ≤ 9223372036854775807) : Calls Tryz.prog 67 #[.slice a n ca] w fun e w' => e = .returned (.slice a n n) ∧ w = w' := by
 go_enter Tryz.func67, Tryz.ntmps67
 go_wp2_with fail
 go_ret
 exact ⟨rfl, rfl⟩
end Go.Proofs.YthdiccdnggloiaaGreatDoor
namespace Go.Proofs.YthdiccdnggloiaaGreatDoor
open Go.RowKit Go.Sort Go.Shelf

theorem cp_ins_grown (B n ca : Nat) (a : Option Addr) (xs ys : List Value) (w : World) (hnone : a = none → n = 0 ∧ ca = 0) (hlo : xs.length = n * 4) (holds : ∀ b, a = some b → ∀ j u, xs[j]? = some u → w.cell? (b.add j) = some u) (hcm : ca ≤ 9223372036854775807) (hfull : ca < n + 1) (hnc : n ≤ ca) (hB : B ≤ w.heap.size) (hn : n ≤ 1000000) (bv : Nat) (cv : Array Value) (tv : TypeId) (hbv : w.heap[bv]? = some (.cells cv tv (0, 0))) (hys : cv.toList = ys) (hy : ys.length = 4) (h1 : ∀ v ∈ ys, v.oneCell' = true) :
  Calls Tryz.prog 148 #[.slice a n ca, .int .i64 n, .slice (some ⟨bv, 0, none⟩) 1 1] w (OwnPost w B 74 4 (.slice a n ca) (n + 1) (xs ++ ys)) := by
 obtain ⟨i0, hi0, hz0, hz1, hz2⟩ := info_parts infoCop
 have HI0 := Lib.hid hi0; have HI1 := Lib.hid hz0; have HI2 := Lib.hid hz1; have HI3 := Lib.hid hz2
 have hsrc : ∀ j u, ys[j]? = some u → w.cell? ((⟨bv, 0, none⟩ : Addr).add j) = some u := by
  intro j u hj
  rw [show (⟨bv, 0, none⟩ : Addr).add j = ⟨bv, j, none⟩ from by unfold Addr.add; split <;> simp_all, World.cell?]
  simp only [hbv]
  rw [← hys] at hj
  simpa using hj
 have HS := Lib.hid hsrc; have HO := Lib.hid holds; have HL := Lib.hid hy; have H1 := Lib.hid h1; have HBB := Lib.hid hB; have HNN := Lib.hid hnone; have HLO := Lib.hid hlo
 obtain rfl : ca = n := by omega
 clear hi0 hz0 hz1 hz2 hsrc holds hy h1 hB hbv hys hnone hlo
 go_enter Tryz.func148, Tryz.ntmps148
 go_wp2_with (at_builtin; refine wpList_append_grows _ rfl _ _ 24 rfl 74 i0 (.agg #[.string ByteArray.empty, .string ByteArray.empty, .bool false, .int .i64 0]) 4 48 Tryz.underlying24 HI0.out HI1.out HI2.out HI3.out rfl (by decide) a ca ca xs rfl HNN.out HLO.out HO.out ⟨bv, 0, none⟩ 1 1 ys rfl HL.out HS.out H1.out hfull (by unfold maxLen; omega) (by omega) ?_; intro v8 w8 hown8 hgrow8; obtain ⟨g8, cap8, rfl, hoc8⟩ : ∃ g8 cap8, v8 = .slice (some ⟨g8, 0, none⟩) (ca + 1) cap8 ∧ OwnC w8 w.heap.size 74 4 g8 (ca + 1) cap8 (xs ++ ys) := by { rcases OwnV.of_own hown8 with ⟨_, h0, _⟩ | h; exact absurd h0 (by omega); exact h })
 go_ret
 exact ⟨g8, cap8, rfl, hoc8.down HBB.out, ⟨hgrow8.os, hgrow8.tape, hgrow8.output, hgrow8.size, fun j hj _ => hgrow8.block j hj (by simp)⟩, .inr hoc8.lt.1⟩
theorem cp_ins_last (B g n cap : Nat) (xs ys : List Value) (w : World) (h : OwnC w B 74 4 g n cap xs) (hroom : n + 1 ≤ cap) (hn : n ≤ 1000000) (bv : Nat) (cv : Array Value) (tv : TypeId) (hbv : w.heap[bv]? = some (.cells cv tv (0, 0))) (hys : cv.toList = ys) (hy : ys.length = 4) (h1 : ∀ v ∈ ys, v.oneCell' = true) :
  Calls Tryz.prog 148 #[.slice (some ⟨g, 0, none⟩) n cap, .int .i64 n, .slice (some ⟨bv, 0, none⟩) 1 1] w (OwnPost w B 74 4 (.slice (some ⟨g, 0, none⟩) n cap) (n + 1) (xs ++ ys)) := by
 obtain ⟨i0, hi0, hz0, hz1, hz2⟩ := info_parts infoCop
 have hsrc : ∀ j u, ys[j]? = some u → w.cell? ((⟨bv, 0, none⟩ : Addr).add j) = some u := by
  intro j u hj
  rw [show (⟨bv, 0, none⟩ : Addr).add j = ⟨bv, j, none⟩ from by unfold Addr.add; split <;> simp_all, World.cell?]
  simp only [hbv]
  rw [← hys] at hj
  simpa using hj
 obtain ⟨w1, hr1, ho1, hg1⟩ := own_append (P := Tryz.prog) h 24 i0 Tryz.underlying24 hi0 hz1 ⟨bv, 0, none⟩ 1 ys (by rw [hy]) hsrc h1 hroom
 obtain ⟨_, _, _, hnc, hcm, _⟩ := h
 have hcm2 : cap ≤ 9223372036854775807 := hcm
 have hcn : ¬ cap = n := by omega
 have HO := Lib.hid ho1; have HG := Lib.hid hg1
 clear hi0 hz0 hz1 hz2 hsrc hy h1 hbv hys ho1 hg1
 go_enter Tryz.func148, Tryz.ntmps148
 go_wp2_with (at_builtin; refine Lib.wpList_append_run _ rfl _ _ _ _ rfl _ _ rfl rfl _ _ (hr1 _ _) ?_)
 go_ret
 exact ⟨g, cap, rfl, HO.out, HG.out, .inl rfl⟩
theorem cp_ins_room (B g n cap i : Nat) (xs ys : List Value) (w : World) (h : OwnC w B 74 4 g n cap xs) (hi : i < n) (hroom : n + 1 ≤ cap) (hn : n ≤ 1000000) (hx1 : ∀ v ∈ xs, v.oneCell' = true) (bv : Nat) (cv : Array Value) (tv : TypeId) (hbv : w.heap[bv]? = some (.cells cv tv (0, 0))) (hbg : bv ≠ g) (hys : cv.toList = ys) (hy : ys.length = 4) (h1 : ∀ v ∈ ys, v.oneCell' = true) :
  Calls Tryz.prog 148 #[.slice (some ⟨g, 0, none⟩) n cap, .int .i64 i, .slice (some ⟨bv, 0, none⟩) 1 1] w (OwnPost w B 74 4 (.slice (some ⟨g, 0, none⟩) n cap) (n + 1) (xs.take (i * 4) ++ ys ++ xs.drop (i * 4))) := by
 have HH0 := h
 obtain ⟨cur, hB, hc, hnc, hcm, hcs, htk, hl⟩ := HH0
 obtain ⟨i0, hi0, hz0, hz1, hz2⟩ := info_parts infoCop
 have hcm2 : cap ≤ 9223372036854775807 := hcm
 have hsz : (Tryz.prog.info? 74).map (·.size) = some 4 := by rw [hi0]; simp [hz1]
 obtain ⟨tail, htl, ho0⟩ := own_more h hroom
 have hdl : (xs.drop (i * 4)).length = (n - i) * 4 := by rw [List.length_drop, hl]; omega
 obtain ⟨w1, hr1, ho1, hg1⟩ := own_copy (P := Tryz.prog) (w := w.drew) ho0 24 24 Tryz.underlying24 hsz ((i + 1) * 4) (n - i) (cap - (i + 1)) ⟨g, i * 4, none⟩ (n + 1 - i) (cap - i) (xs.drop (i * 4)) (by rw [hdl]; congr 1; exact (Nat.min_eq_right (by omega)).symm)
  (fun j u hj => by
   rw [List.getElem?_drop] at hj
   have hjl := (List.getElem?_eq_some_iff.1 hj).1
   rw [show (⟨g, i * 4, none⟩ : Addr).add j = ⟨g, i * 4 + j, none⟩ from by unfold Addr.add; split <;> simp_all]
   exact (h.cellAt (i * 4 + j) (by omega)).trans hj)
  (by rw [hdl]; omega) (fun v hv => hx1 v (List.mem_of_mem_drop hv))
 have hbv1 : w1.heap[bv]? = some (.cells cv tv (0, 0)) := by
  rw [hg1.block bv (Array.getElem?_eq_some_iff.1 hbv).1 (by simpa using hbg)]; exact hbv
 obtain ⟨w2, hr2, ho2, hg2⟩ := own_copy (P := Tryz.prog) (w := w1) ho1 24 24 Tryz.underlying24 hsz (i * 4) (n + 1 - i) (cap - i) ⟨bv, 0, none⟩ 1 1 ys (by rw [hy, show Nat.min 1 (n + 1 - i) = 1 from Nat.min_eq_left (by omega)])
  (fun j u hj => by
   rw [show (⟨bv, 0, none⟩ : Addr).add j = ⟨bv, j, none⟩ from by unfold Addr.add; split <;> simp_all, World.cell?]
   simp only [hbv1]
   rw [← hys] at hj
   simpa using hj)
  (by rw [hy]; omega) h1
 rw [show (i + 1) * 4 = i * 4 + 4 by omega, ins_shift hl htl hy (by omega)] at ho2
 have hov : ∀ lb cb, (callFunc 192 #[.slice (some ⟨bv, 0, none⟩) 1 1, .slice (some ⟨g, (i + 1) * 4, none⟩) lb cb]).run Tryz.prog w = .ok (.value (.bool false)) w := fun lb cb => by
  rw [run_callFunc_extern Tryz.func192 (by kernel_rfl) (by kernel_rfl) (by kernel_rfl) (e := Extern.SlicesOverlaps.overlaps #[24, 24] #[4]) (by kernel_rfl),
   Lib.run_overlaps_apart w 24 4 74 Tryz.underlying24 4 (fun w => by kernel_rfl) ⟨bv, 0, none⟩ ⟨g, (i + 1) * 4, none⟩ 1 1 lb cb hbg tv 74 cv.size cur.size (shape_of hbv) (shape_of hc) (by omega) (frozen_of hbv 0) (frozen_of hbv cv.size)]
  rfl
 have HO := Lib.hid ho2
 have HG := Lib.hid (grown_up hg1 hg2)
 have hz2' : ¬ ((i : Int) = (n : Int)) := by omega
 have hz2b : ((i : Int) == (n : Int)) = false := by simpa using hz2'
 have hw1 : IntKind.i64.wrap ((n : Int) + 1) = (n : Int) + 1 := by rw [IntKind.wrap_i64]; omega
 have hw2 : IntKind.i64.wrap ((i : Int) + 1) = (i : Int) + 1 := by rw [IntKind.wrap_i64]; omega
 have hb0 : ¬ ((cap : Int) < (n : Int) + 1) := by omega
 have hb0' : ((n : Int) + 1 ≤ (cap : Int)) := by omega
 have hb1 : (0 : Int) ≤ (i : Int) + 1 := by omega
 have hb2 : (0 : Int) ≤ (n : Int) + 1 := by omega
 have hb3 : (i : Int) ≤ (n : Int) + 1 := by omega
 have hb4 : (i : Int) + 1 ≤ (n : Int) + 1 := by omega
 have hb5 : ¬ cap = i := by omega
 have hb6 : ¬ cap = i + 1 := by omega
 have hin : i ≤ n := by omega
 clear ho2 ho1 ho0 hg1 hg2 h1 hx1 hbv hbv1 hc hcs htk hl hdl htl hys hy h
 go_enter Tryz.func148, Tryz.ntmps148
 go_wp2_with (simp only [hov])
 go_region_law (refine step_copy_run rfl _ _ _ _ rfl (.slice (some ⟨g, (i + 1) * 4, none⟩) (n - i) (cap - (i + 1))) (.slice (some ⟨g, i * 4, none⟩) (n + 1 - i) (cap - i)) (by simp [Act.eval, Act.put]) (by simp [Act.eval, Act.put]) (hr1 _) ?_)
 go_wp2_with (at_builtin; refine wpList_copy_run _ rfl _ _ _ _ rfl _ _ rfl rfl (hr2 _) ?_)
 go_ret
 exact ⟨g, cap, rfl, HO.out, HG.out, .inl rfl⟩

theorem cp_ins_grow (B g n i : Nat) (xs ys : List Value) (w : World) (h : OwnC w B 74 4 g n n xs) (hi : i < n) (hn : n ≤ 1000000) (hx1 : ∀ v ∈ xs, v.oneCell' = true) (bv : Nat) (cv : Array Value) (tv : TypeId) (hbv : w.heap[bv]? = some (.cells cv tv (0, 0))) (hys : cv.toList = ys) (hy : ys.length = 4) (h1 : ∀ v ∈ ys, v.oneCell' = true) :
  Calls Tryz.prog 148 #[.slice (some ⟨g, 0, none⟩) n n, .int .i64 i, .slice (some ⟨bv, 0, none⟩) 1 1] w (OwnPost w B 74 4 (.slice (some ⟨g, 0, none⟩) n n) (n + 1) (xs.take (i * 4) ++ ys ++ xs.drop (i * 4))) := by
 have HH0 := h
 obtain ⟨cur, hB, hc, hnc, hcm, hcs, htk, hl⟩ := HH0
 obtain ⟨i0, hi0, hz0, hz1, hz2⟩ := info_parts infoCop
 have hgw := (Array.getElem?_eq_some_iff.1 hc).1
 have hbw := (Array.getElem?_eq_some_iff.1 hbv).1
 have hsz : (Tryz.prog.info? 74).map (·.size) = some 4 := by rw [hi0]; simp [hz1]
 have hcl : ∀ j u, xs[j]? = some u → w.cell? ⟨g, j, none⟩ = some u := fun j u hj => (h.cellAt j (by have := (List.getElem?_eq_some_iff.1 hj).1; omega)).trans hj
 have hik : i + (n + 1 - i) = n + 1 := by omega
 have hkk : (n : Int) + 1 - (i : Int) = ((n + 1 - i : Nat) : Int) := by omega
 have htl : (xs.take (i * 4)).length = i * 4 := by rw [List.length_take, hl]; omega
 have hold : (Builtin.firstCells i0.size i (.slice (some ⟨g, 0, none⟩) i n)).run Tryz.prog w.drew = .ok (xs.take (i * 4)).toArray w.drew := by
  rw [hz1]
  exact run_firstCells_some w.drew 4 i ⟨g, 0, none⟩ i n (xs.take (i * 4)) htl (fun j u hj => by
   rw [show (⟨g, 0, none⟩ : Addr).add j = ⟨g, j, none⟩ from by unfold Addr.add; split <;> simp_all]
   rw [List.getElem?_take] at hj
   split at hj
   ·exact hcl j u hj
   ·cases hj)
 have hrz := fun ty => Lib.run_append_grow_zeros w 24 3 ty 74 i0 (.agg #[.string ByteArray.empty, .string ByteArray.empty, .bool false, .int .i64 0]) .i64 .i64 Tryz.underlying24 Tryz.underlying3 hi0 hz0 (some ⟨g, 0, none⟩) i n (xs.take (i * 4)) hold (n + 1 - i) (by omega) (by omega) (by omega) (by omega) (by rw [hz2]; omega) (by rw [hz2, hik]; exact growslice_fits (by omega) (by omega))
 rw [hik, ← hkk] at hrz
 have hGn : n + 1 ≤ grownCap w (n + 1) n 74 := grownCap_ge w _ _ _
 have hGm : grownCap w (n + 1) n 74 ≤ maxLen := grownCap_le_maxLen w _ _ _ (by unfold maxLen; omega)
 generalize grownCap w (n + 1) n 74 = G at hrz hGn hGm
 have hzl : (Builtin.zeroCells (Value.cells (.agg #[.string ByteArray.empty, .string ByteArray.empty, .bool false, .int .i64 0])) (n + 1 - i)).toList.length = (n + 1 - i) * 4 := by
  rw [Array.length_toList]; simp [Builtin.zeroCells] <;> (first | rfl | exact Or.inl rfl)
 have hzl2 : (Builtin.zeroCells (Value.cells (.agg #[.string ByteArray.empty, .string ByteArray.empty, .bool false, .int .i64 0])) (G - (n + 1))).toList.length = (G - (n + 1)) * 4 := by
  rw [Array.length_toList]; simp [Builtin.zeroCells] <;> (first | rfl | exact Or.inl rfl)
 obtain ⟨ROW, hROW⟩ : ∃ ROW : Array Value, (xs.take (i * 4)).toArray ++ Builtin.zeroCells (Value.cells (.agg #[.string ByteArray.empty, .string ByteArray.empty, .bool false, .int .i64 0])) (n + 1 - i) ++ Builtin.zeroCells (Value.cells (.agg #[.string ByteArray.empty, .string ByteArray.empty, .bool false, .int .i64 0])) (G - (n + 1)) = ROW := ⟨_, rfl⟩
 rw [hROW] at hrz
 have hRl : ROW.toList = xs.take (i * 4) ++ (Builtin.zeroCells (Value.cells (.agg #[.string ByteArray.empty, .string ByteArray.empty, .bool false, .int .i64 0])) (n + 1 - i)).toList ++ (Builtin.zeroCells (Value.cells (.agg #[.string ByteArray.empty, .string ByteArray.empty, .bool false, .int .i64 0])) (G - (n + 1))).toList := by rw [← hROW]; simp
 generalize (Builtin.zeroCells (Value.cells (.agg #[.string ByteArray.empty, .string ByteArray.empty, .bool false, .int .i64 0])) (n + 1 - i)).toList = zs at hzl hRl
 generalize (Builtin.zeroCells (Value.cells (.agg #[.string ByteArray.empty, .string ByteArray.empty, .bool false, .int .i64 0])) (G - (n + 1))).toList = zs2 at hzl2 hRl
 clear hROW
 obtain ⟨W1, hW1⟩ : ∃ W1, w.drew.alloc (.cells ROW 74) = W1 := ⟨_, rfl⟩
 rw [hW1] at hrz
 have hnew : W1.heap[w.heap.size]? = some (.cells ROW 74 (0, 0)) := by rw [← hW1]; exact heap_alloc_new w.drew _
 have hbl : ∀ b, b < w.heap.size → W1.heap[b]? = w.heap[b]? := fun b hb => by rw [← hW1]; exact Below.heap_alloc w.drew _ b hb
 have hs1 : W1.heap.size = w.heap.size + 1 := by rw [← hW1]; simp
 have hbs : W1.os = w.os ∧ W1.tape = w.tape ∧ W1.output = w.output := by rw [← hW1]; exact ⟨rfl, rfl, rfl⟩
 have ho0 : OwnC W1 B 74 4 w.heap.size (n + 1) G (xs.take (i * 4) ++ zs) := own_make (by omega) hnew hGn hGm (by rw [← Array.length_toList, hRl, List.length_append, List.length_append, htl, hzl, hzl2]; omega)
  (by rw [hRl]; exact List.take_left' (by rw [List.length_append, htl, hzl]; omega))
 obtain ⟨w2, hr1, ho1, hg1⟩ := own_copy (P := Tryz.prog) (w := W1) ho0 24 24 Tryz.underlying24 hsz (i * 4) (n + 1 - i) (G - i) ⟨bv, 0, none⟩ 1 1 ys (by rw [hy, show Nat.min 1 (n + 1 - i) = 1 from Nat.min_eq_left (by omega)])
  (fun j u hj => by
   rw [show (⟨bv, 0, none⟩ : Addr).add j = ⟨bv, j, none⟩ from by unfold Addr.add; split <;> simp_all, World.cell?]
   simp only [hbl bv hbw, hbv]
   rw [← hys] at hj
   simpa using hj)
  (by rw [hy]; omega) h1
 have hdl : (xs.drop (i * 4)).length = (n - i) * 4 := by rw [List.length_drop, hl]; omega
 have hg2w : w2.heap[g]? = w.heap[g]? := (hg1.block g (by omega) (by simp; omega)).trans (hbl g hgw)
 obtain ⟨w3, hr2, ho2, hg2⟩ := own_copy (P := Tryz.prog) (w := w2.drew) ho1 24 24 Tryz.underlying24 hsz ((i + 1) * 4) (n - i) (G - (i + 1)) ⟨g, i * 4, none⟩ (n - i) (n - i) (xs.drop (i * 4)) (by rw [hdl]; congr 1; exact (Nat.min_eq_left (Nat.le_refl _)).symm)
  (fun j u hj => by
   rw [List.getElem?_drop] at hj
   rw [show (⟨g, i * 4, none⟩ : Addr).add j = ⟨g, i * 4 + j, none⟩ from by unfold Addr.add; split <;> simp_all]
   have := hcl _ _ hj
   unfold World.cell? at this ⊢
   rw [show w2.drew.heap[g]? = w.heap[g]? from hg2w]
   exact this)
  (by rw [hdl]; omega) (fun v hv => hx1 v (List.mem_of_mem_drop hv))
 rw [show (i + 1) * 4 = i * 4 + 4 by omega, ins_grow (N := n * 4) hl (by rw [hzl]; omega) hy (by omega)] at ho2
 have HO := Lib.hid ho2
 have HG : Hid (w.grownBy w3 (some g)) := Lib.hid ⟨hg2.os.trans (hg1.os.trans hbs.1), hg2.tape.trans (hg1.tape.trans hbs.2.1), hg2.output.trans (hg1.output.trans hbs.2.2), by have := hg2.size; have h3 : w2.drew.heap.size = w2.heap.size := rfl; have := hg1.size; omega, fun b hb _ => (hg2.block b (by have h3 : w2.drew.heap.size = w2.heap.size := rfl; have := hg1.size; omega) (by simp; omega)).trans ((hg1.block b (by omega) (by simp; omega)).trans (hbl b hb))⟩
 have hGm2 : G ≤ 9223372036854775807 := hGm
 have hz2' : ¬ ((i : Int) = (n : Int)) := by omega
 have hz2b : ((i : Int) == (n : Int)) = false := by simpa using hz2'
 have hw1 : IntKind.i64.wrap ((n : Int) + 1) = (n : Int) + 1 := by rw [IntKind.wrap_i64]; omega
 have hw2 : IntKind.i64.wrap ((i : Int) + 1) = (i : Int) + 1 := by rw [IntKind.wrap_i64]; omega
 have hw3 : IntKind.i64.wrap ((n : Int) + 1 - (i : Int)) = (n : Int) + 1 - (i : Int) := by rw [IntKind.wrap_i64]; omega
 have hb1 : (0 : Int) ≤ (i : Int) + 1 := by omega
 have hb3 : (i : Int) ≤ (n : Int) + 1 := by omega
 have hb3' : (i : Int) ≤ (n : Int) := by omega
 have hb4 : (i : Int) + 1 ≤ (n : Int) + 1 := by omega
 have hb5 : ¬ G = i := by omega
 have hb6 : ¬ G = i + 1 := by omega
 have hb7 : ¬ n = i := by omega
 have hin : i ≤ n := by omega
 clear ho2 ho1 ho0 hg1 hg2 h1 hx1 hbv hc hcs htk hl hdl htl hys hy h hcl hold hkk hik hW1 hnew hbl hRl hzl hzl2 hs1 hbs hg2w
 go_enter Tryz.func148, Tryz.ntmps148
 go_wp2_with (first
  | (at_builtin; refine Lib.wpList_append_run _ rfl _ _ _ _ rfl _ _ rfl rfl _ _ (hrz _) ?_)
  | (at_builtin; refine wpList_copy_run _ rfl _ _ _ _ rfl _ _ rfl rfl (hr1 _) ?_))
 go_region_law (refine step_copy_run rfl _ _ _ _ rfl (.slice (some ⟨w.heap.size, (i + 1) * 4, none⟩) (n - i) (G - (i + 1))) (.slice (some ⟨g, i * 4, none⟩) (n - i) (n - i)) (by simp [Act.eval, Act.put]) (by simp [Act.eval, Act.put]) (hr2 _) ?_)
 go_wp2_with fail
 go_ret
 exact ⟨w.heap.size, G, rfl, HO.out, HG.out, .inr (Nat.le_refl _)⟩
theorem cp_ins (B n i : Nat) (v : Value) (xs ys : List Value) (w : World) (h : OwnV w B 74 4 v n xs) (hB : B ≤ w.heap.size) (hi : i ≤ n) (hn : n ≤ 1000000) (hx1 : ∀ v ∈ xs, v.oneCell' = true) (bv : Nat) (cv : Array Value) (tv : TypeId) (hbv : w.heap[bv]? = some (.cells cv tv (0, 0))) (hbg : v.ownBlock ≠ some bv) (hys : cv.toList = ys) (hy : ys.length = 4) (h1 : ∀ v ∈ ys, v.oneCell' = true) :
  Calls Tryz.prog 148 #[v, .int .i64 i, .slice (some ⟨bv, 0, none⟩) 1 1] w (OwnPost w B 74 4 v (n + 1) (xs.take (i * 4) ++ ys ++ xs.drop (i * 4))) := by
 have hl := h.len
 rcases Nat.eq_or_lt_of_le hi with rfl | hi
 ·rw [List.take_of_length_le (by omega), List.drop_eq_nil_of_le (by omega), List.append_nil]
  rcases h with ⟨rfl, rfl, rfl⟩ | ⟨g, cap, rfl, hc⟩
  ·exact cp_ins_grown B 0 0 none [] ys w (fun _ => ⟨rfl, rfl⟩) hl (fun b h => by cases h) (by omega) (by omega) (by omega) hB hn bv cv tv hbv hys hy h1
  ·by_cases hr : i + 1 ≤ cap
   ·exact cp_ins_last B g i cap xs ys w hc hr hn bv cv tv hbv hys hy h1
   ·have hc2 := hc
    obtain ⟨_, _, _, hnc, hcm, _⟩ := hc2
    exact cp_ins_grown B i cap (some ⟨g, 0, none⟩) xs ys w (fun h => by cases h) hl (fun b h j u hj => by
     cases h
     rw [show (⟨g, 0, none⟩ : Addr).add j = ⟨g, j, none⟩ from by unfold Addr.add; split <;> simp_all]
     exact (hc.cellAt j (by have := (List.getElem?_eq_some_iff.1 hj).1; omega)).trans hj) hcm (by omega) hnc hB hn bv cv tv hbv hys hy h1
 ·rcases h with ⟨_, h0, _⟩ | ⟨g, cap, rfl, hc⟩
  ·omega
  ·by_cases hr : n + 1 ≤ cap
   ·exact cp_ins_room B g n cap i xs ys w hc hi hr hn hx1 bv cv tv hbv (fun e => hbg (by rw [e]; rfl)) hys hy h1
   ·have hc2 := hc
    obtain ⟨_, _, _, hnc, _⟩ := hc2
    obtain rfl : cap = n := by omega
    exact cp_ins_grow B g cap i xs ys w hc hi hn hx1 bv cv tv hbv hys hy h1
end Go.Proofs.YthdiccdnggloiaaGreatDoor
