/- Parts of the proof, no condition: Stb, RepB, RepO, CouLays. -/
import Derived.Test.YtimjmjmpaicdbaaGreatDoorPc5
import Derived.OwnWalk
import Derived.Laws.IdiomCopy
import Derived.Lib.AppendZeros
import Derived.Deep.RegionLaw
import Derived.ArgAppend
import Derived.Deep.MidRow
import Derived.BigRegion
import Derived.Maps.RangeWalk
import Derived.Test.YtimjmjmpaicdbaaGreatDoorPc6
import Derived.Deep.Cut
import Derived.Test.YtimjmjmpaicdbaaGreatDoorPc12
import Derived.Deep.CutRange
import Derived.Deep.WholeRow
import Derived.Lib.SmallJoins
import Derived.Laws.IdiomStrings
import Derived.Shelf.Strings.Count
import Derived.Test.YtimjmjmpaicdbaaGreatDoorProg
set_option maxRecDepth 100000
set_option maxHeartbeats 2000000
set_option linter.unusedSimpArgs false
set_option linter.unusedVariables false
namespace Go.Proofs.YtimjmjmpaicdbaaGreatDoor
open Go.RowKit
theorem wp_copy_run {P : Program} (w : World) {o : Oper} {a : Act} {K : Act → World → Prop} {Q : Exit → Act → World → Prop} (d s : Operand) (t t' : TypeId)
  (ho : o.op = .call { callee := .builtin .copy, args := #[d, s], argTypes := #[t, t'] }) (v u : Value) (hd : a.eval d = v) (hs : a.eval s = u) {v' : Value} {w' : World}
  (hr : (Builtin.copy_ #[t, t'] o.type #[v, u]).run P w = .ok v' w') (h : K (a.put o.dst v') w') : o.wp P a w K Q := by
 unfold Oper.wp execOp
 simp only [ho, resolve, invoke, builtin, Sem.run_bind, Sem.run_pure, Result.andThen_ok, List.map_toArray, List.map_cons, List.map_nil, hd, hs, hr]
 exact h
theorem step_copy_run {P : Program} {ops : Array Oper} {o : Oper} {a : Act} {w : World} {K : Act → World → Prop} {Q : Exit → Act → World → Prop} {E : Prop}
  (hg : o.guard = none) (d x : Operand) (dT sT : TypeId) (hop : o.op = Op.call { callee := Callee.builtin Builtin.copy, args := #[d, x], argTypes := #[dT, sT] })
  (v u : Value) (hd : a.eval d = v) (hx : a.eval x = u) {v' : Value} {w' : World} (hr : (Builtin.copy_ #[dT, sT] o.type #[v, u]).run P w = .ok v' w') (hK : K (a.put o.dst v') w') :
  if Region.wanted o (yielded ops a.tmps) = true then Oper.wp P o a w K Q else E := by
 have hw : Region.wanted o (yielded ops a.tmps) = true := by simp [Region.wanted, hg]
 rw [if_pos hw]
 exact wp_copy_run w d x dT sT hop v u hd hx hr hK
def OwnC (w : World) (B : Nat) (e : TypeId) (k g n cap : Nat) (xs : List Value) : Prop :=
 ∃ cur, B ≤ g ∧ w.heap[g]? = some (.cells cur e (0, 0)) ∧ n ≤ cap ∧ cap ≤ maxLen ∧ cap * k ≤ cur.size ∧ cur.toList.take (n * k) = xs ∧ xs.length = n * k
section
variable {w : World} {B k g n cap : Nat} {e : TypeId} {xs : List Value}
theorem OwnC.of_own (h : w.ownsRow B e k (.slice (some ⟨g, 0, none⟩) n cap) n xs) : OwnC w B e k g n cap xs := by
 rcases h.2 with ⟨h0, _⟩ | ⟨g', cap', cur, h0, hB, hc, hn, hm, hs, ht⟩
 ·cases h0
 ·cases h0
  exact ⟨cur, hB, hc, hn, hm, by omega, ht, h.1⟩
theorem own_make {cur : Array Value} (hB : B ≤ g) (hc : w.heap[g]? = some (.cells cur e (0, 0))) (hn : n ≤ cap) (hm : cap ≤ maxLen) (hs : cap * k ≤ cur.size) (ht : cur.toList.take (n * k) = xs) : OwnC w B e k g n cap xs := by
 refine ⟨cur, hB, hc, hn, hm, hs, ht, ?_⟩
 rw [← ht, List.length_take, Array.length_toList]
 exact Nat.min_eq_left (Nat.le_trans (Nat.mul_le_mul_right k hn) hs)
theorem OwnC.down {B' : Nat} (h : OwnC w B e k g n cap xs) (hb : B' ≤ B) : OwnC w B' e k g n cap xs := by
 obtain ⟨cur, hB, rest⟩ := h
 exact ⟨cur, by omega, rest⟩
theorem OwnC.lt (h : OwnC w B e k g n cap xs) : B ≤ g ∧ g < w.heap.size := by
 obtain ⟨cur, hB, hc, _⟩ := h
 exact ⟨hB, (Array.getElem?_eq_some_iff.1 hc).1⟩
theorem OwnC.of_block {w' : World} (h : OwnC w B e k g n cap xs) (hb : w'.heap[g]? = w.heap[g]?) : OwnC w' B e k g n cap xs := by
 obtain ⟨cur, hB, hc, rest⟩ := h
 exact ⟨cur, hB, hb.trans hc, rest⟩
theorem OwnC.keep {w' : World} (h : OwnC w B e k g n cap xs) (hb : Below w.heap.size w w') : OwnC w' B e k g n cap xs := h.of_block (hb.block g h.lt.2)
theorem OwnC.alloc (h : OwnC w B e k g n cap xs) (o : Obj) : OwnC (w.alloc o) B e k g n cap xs := h.of_block (Below.heap_alloc w o g h.lt.2)
theorem OwnC.cellAt (h : OwnC w B e k g n cap xs) (j : Nat) (hj : j < n * k) : w.cell? ⟨g, j, none⟩ = xs[j]? := by
 obtain ⟨cur, hB, hc, hn, hm, hs, ht, hl⟩ := h
 rw [World.cell?]
 simp only [hc]
 rw [← ht, List.getElem?_take, if_pos hj]
 simp
theorem own_setRow (h : OwnC w B e k g n cap xs) (p : Nat) (cs : List Value) (hf : p + cs.length ≤ n * k) :
  ∃ cur : Array Value, w.heap[g]? = some (.cells cur e (0, 0)) ∧ p + cs.length ≤ cur.size ∧ OwnC (w.setRow g (cur.toList.take p ++ cs ++ cur.toList.drop (p + cs.length)).toArray) B e k g n cap (xs.take p ++ cs ++ xs.drop (p + cs.length)) ∧
    w.grownBy (w.setRow g (cur.toList.take p ++ cs ++ cur.toList.drop (p + cs.length)).toArray) (some g) := by
 obtain ⟨cur, hB, hc, hn, hx, hs, ht, hl⟩ := h
 have hk : n * k ≤ cap * k := Nat.mul_le_mul_right k hn
 have hcl : cur.toList.length = cur.size := Array.length_toList
 refine ⟨cur, hc, by omega, own_make hB (setRow_heap w g cur _ e (0, 0) hc) hn hx ?_ ?_, ?_⟩
 ·simp only [List.size_toArray, List.length_append, List.length_take, List.length_drop, hcl]; omega
 ·have hal : (cur.toList.take p ++ cs).length = p + cs.length := by rw [List.length_append, List.length_take, hcl]; omega
  rw [List.toList_toArray, List.take_append, List.take_of_length_le (by rw [hal]; exact hf), hal, ← List.drop_take, ht]
  congr 2
  rw [← ht, List.take_take, Nat.min_eq_left (by omega)]
 ·refine ⟨rfl, rfl, rfl, by simp, fun j hj hne => setRow_other w g j _ (fun e => hne (by rw [e]))⟩
theorem own_append {P : Program} (h : OwnC w B e k g n cap xs) (t : TypeId) (i : TypeInfo) (ht : P.underlying t = some (.slice e)) (hi : P.info? e = some i) (hsize : i.size = k)
  (a : Addr) (m : Nat) (news : List Value) (hl : news.length = m * k) (hnews : ∀ j u, news[j]? = some u → w.cell? (a.add j) = some u) (h1 : ∀ u ∈ news, u.oneCell' = true) (hroom : n + m ≤ cap) :
  ∃ w', (∀ ty c, (Builtin.append_ #[t, t] ty #[.slice (some ⟨g, 0, none⟩) n cap, .slice (some a) m c]).run P w = .ok (.slice (some ⟨g, 0, none⟩) (n + m) cap) w') ∧ OwnC w' B e k g (n + m) cap (xs ++ news) ∧ w.grownBy w' (some g) := by
 obtain ⟨cur, hB, hg, hnc, hcm, hcs, htake, hxl⟩ := h
 subst hsize
 have hk : (n + m) * i.size ≤ cap * i.size := Nat.mul_le_mul_right _ hroom
 have hka : (n + m) * i.size = n * i.size + m * i.size := Nat.add_mul _ _ _
 have hfit : n * i.size + news.length ≤ cur.size := by rw [hl]; omega
 refine ⟨_, fun ty c => run_append_room (P := P) w t ty e i ht hi g n cap cur hg a m c news hl hnews h1 hroom hfit, own_make hB (setRow_heap w g cur _ e _ hg) hroom hcm ?_ ?_, ⟨rfl, rfl, rfl, by simp, fun j _ hj => setRow_other w g j _ (fun e => hj (by simp [e]))⟩⟩
 ·simp only [List.size_toArray, List.length_append, List.length_take, List.length_drop, Array.length_toList]
  omega
 ·rw [List.toList_toArray, htake]
  exact List.take_left' (by rw [List.length_append, hxl, hl, hka])
theorem own_copy {P : Program} (h : OwnC w B e k g n cap xs) (dT sT : TypeId) (hu : P.underlying dT = some (.slice e)) (hsz : (P.info? e).map (·.size) = some k)
  (p dLen dCap : Nat) (a : Addr) (sLen sCap : Nat) (cs : List Value) (hn : cs.length = Nat.min sLen dLen * k) (hsrc : ∀ j v, cs[j]? = some v → w.cell? (a.add j) = some v) (hfit : p + cs.length ≤ n * k) (h1 : ∀ v ∈ cs, v.oneCell' = true) :
  ∃ w', (∀ ty, (Builtin.copy_ #[dT, sT] ty #[.slice (some ⟨g, p, none⟩) dLen dCap, .slice (some a) sLen sCap]).run P w = .ok (goInt (Nat.min sLen dLen)) w') ∧ OwnC w' B e k g n cap (xs.take p ++ cs ++ xs.drop (p + cs.length)) ∧ w.grownBy w' (some g) := by
 obtain ⟨cur, hc, hl, ho, hg⟩ := own_setRow h p cs hfit
 refine ⟨_, fun ty => ?_, ho, hg⟩
 have hst := run_storeCells_at (P := P) g p e cs 0 cur w hc (by omega) h1
 have hld := run_firstCells_some (P := P) w k (Nat.min sLen dLen) a sLen sCap cs hn hsrc
 rw [Nat.add_zero] at hst
 cases hq : P.info? e with
 | none => rw [hq] at hsz; cases hsz
 | some i =>
   have hi : i.size = k := by rw [hq] at hsz; simpa using hsz
   simp [Builtin.copy_, run_underlying hu, Builtin.lenOf, sizeOf, typeInfo, hq, hi, hld, hst]
end
def OwnV (w : World) (B : Nat) (e : TypeId) (k : Nat) (v : Value) (n : Nat) (xs : List Value) : Prop :=
 (v = .slice none 0 0 ∧ n = 0 ∧ xs = []) ∨ ∃ g cap, v = .slice (some ⟨g, 0, none⟩) n cap ∧ OwnC w B e k g n cap xs
theorem OwnV.of_own {w : World} {B k n : Nat} {e : TypeId} {v : Value} {xs : List Value} (h : w.ownsRow B e k v n xs) : OwnV w B e k v n xs := by
 have h0 := h
 have hl := h.1
 rcases h.2 with ⟨rfl, rfl⟩ | ⟨g, cap, cur, rfl, _⟩
 ·exact .inl ⟨rfl, rfl, List.eq_nil_of_length_eq_zero (by omega)⟩
 ·exact .inr ⟨g, cap, rfl, OwnC.of_own h0⟩
theorem OwnV.len {w : World} {B k n : Nat} {e : TypeId} {v : Value} {xs : List Value} (h : OwnV w B e k v n xs) : xs.length = n * k := by
 rcases h with ⟨_, rfl, rfl⟩ | ⟨g, cap, _, cur, _, _, _, _, _, _, hl⟩
 ·simp
 ·exact hl
theorem OwnV.lt {w : World} {B k n : Nat} {e : TypeId} {v : Value} {xs : List Value} (h : OwnV w B e k v n xs) : ∀ b, v.ownBlock = some b → B ≤ b ∧ b < w.heap.size := by
 rcases h with ⟨rfl, _⟩ | ⟨g, cap, rfl, hc⟩
 ·intro b h; cases h
 ·intro b h; cases h; exact hc.lt
theorem OwnV.keep {w w' : World} {B k n : Nat} {e : TypeId} {v : Value} {xs : List Value} (h : OwnV w B e k v n xs) (hb : Below w.heap.size w w') : OwnV w' B e k v n xs := by
 rcases h with h | ⟨g, cap, h, hc⟩
 ·exact .inl h
 ·exact .inr ⟨g, cap, h, hc.keep hb⟩
theorem OwnV.form {w : World} {B k n : Nat} {e : TypeId} {v : Value} {xs : List Value} (h : OwnV w B e k v n xs) : ∃ a ca, v = .slice a n ca ∧ n ≤ ca ∧ ca ≤ 9223372036854775807 := by
 rcases h with ⟨rfl, rfl, _⟩ | ⟨g, cap, rfl, cur, _, _, hn, hm, _⟩
 ·exact ⟨none, 0, rfl, by omega, by omega⟩
 ·exact ⟨_, _, rfl, hn, hm⟩
theorem frozen_of {w : World} {b : Nat} {c : Array Value} {t : TypeId} (h : w.heap[b]? = some (.cells c t (0, 0))) (o : Nat) : w.frozen? ⟨b, o, none⟩ = false := by simp [World.frozen?, h]
structure Enc (α : Type) where
 k : Nat
 cells : α → List Value
 len : ∀ x, (cells x).length = k
 one : ∀ x, ∀ u ∈ cells x, u.oneCell' = true
namespace Enc
variable {α : Type} (E : Enc α)
def flat (L : List α) : List Value := L.flatMap E.cells
theorem flat_cons (x : α) (L : List α) : E.flat (x :: L) = E.cells x ++ E.flat L := by simp [flat]
theorem flat_len (L : List α) : (E.flat L).length = L.length * E.k := by
 induction L with
 | nil => simp [flat]
 | cons x L ih => rw [flat_cons, List.length_append, List.length_cons, ih, E.len, Nat.succ_mul]; omega
theorem flat_get (L : List α) : ∀ (i : Nat) (x : α), L[i]? = some x → ∀ j, j < E.k → (E.flat L)[i * E.k + j]? = (E.cells x)[j]? := by
 induction L with
 | nil => intro i x h; simp at h
 | cons y L ih =>
   intro i x h j hj
   have hl := E.len y
   cases i with
   | zero =>
     have e : y = x := by simpa using h
     subst e
     rw [flat_cons, Nat.zero_mul, Nat.zero_add, List.getElem?_append_left (by omega)]
   | succ i =>
     rw [List.getElem?_cons_succ] at h
     have he : (i + 1) * E.k + j - (E.cells y).length = i * E.k + j := by rw [hl, Nat.succ_mul]; omega
     rw [flat_cons, List.getElem?_append_right (by rw [hl, Nat.succ_mul]; omega), he, ih i x h j hj]
end Enc
def RowE {α : Type} (E : Enc α) (w : World) (a : Option Addr) (L : List α) : Prop :=
 0 < L.length → ∃ b off, a = some ⟨b, off, none⟩ ∧ b < w.heap.size ∧ ∀ (i : Nat) (x : α), L[i]? = some x → ∀ (j : Nat) (v : Value), (E.cells x)[j]? = some v → w.cell? ⟨b, off + i * E.k + j, none⟩ = some v
theorem RowE.nil {α : Type} (E : Enc α) (w : World) (a : Option Addr) : RowE E w a [] := fun h => absurd h (Nat.lt_irrefl 0)
theorem RowE.keep {α : Type} {E : Enc α} {w w' : World} {a : Option Addr} {L : List α} (h : RowE E w a L) (hb : Below w.heap.size w w') : RowE E w' a L := by
 intro h0
 obtain ⟨b, off, rfl, hlt, hc⟩ := h h0
 exact ⟨b, off, rfl, Nat.lt_of_lt_of_le hlt hb.size, fun i x hx j v hv => (hb.cell (p := ⟨b, off + i * E.k + j, none⟩) hlt).trans (hc i x hx j v hv)⟩
theorem RowE.grown {α : Type} {E : Enc α} {w w' : World} {a : Option Addr} {L : List α} {r : Option Nat} (h : RowE E w a L) (hg : w.grownBy w' r) (hne : 0 < L.length → ∀ x, a = some x → some x.block ≠ r) : RowE E w' a L := by
 intro h0
 obtain ⟨b, off, rfl, hlt, hc⟩ := h h0
 exact ⟨b, off, rfl, Nat.lt_of_lt_of_le hlt hg.size, fun i x hx j v hv => hg.cell (hc i x hx j v hv) (show some b ≠ r from hne h0 ⟨b, off, none⟩ rfl)⟩
theorem RowE.of_own {α : Type} {E : Enc α} {w : World} {B n : Nat} {e : TypeId} {v : Value} {L : List α} (h : OwnV w B e E.k v n (E.flat L)) (hn : n = L.length) :
  ∃ a ca, v = .slice a L.length ca ∧ L.length ≤ ca ∧ ca ≤ 9223372036854775807 ∧ RowE E w a L := by
 subst hn
 rcases h with ⟨rfl, h0, _⟩ | ⟨g, cap, rfl, hc⟩
 ·exact ⟨none, 0, by rw [h0], by omega, by omega, fun h => by omega⟩
 ·obtain ⟨_, _, _, hk, hm, _⟩ := id hc
  refine ⟨_, _, rfl, hk, hm, fun h0 => ⟨g, 0, rfl, hc.lt.2, fun i x hx j v hv => ?_⟩⟩
  have hj : j < E.k := by have := (List.getElem?_eq_some_iff.1 hv).1; rw [E.len] at this; exact this
  have hi := (List.getElem?_eq_some_iff.1 hx).1
  have hb : i * E.k + j < L.length * E.k := by
   have : (i + 1) * E.k ≤ L.length * E.k := Nat.mul_le_mul_right _ hi
   rw [Nat.succ_mul] at this; omega
  rw [Nat.zero_add, hc.cellAt (i * E.k + j) hb, E.flat_get L i x hx j hj, hv]
end Go.Proofs.YtimjmjmpaicdbaaGreatDoor
namespace Go.Proofs.YtimjmjmpaicdbaaGreatDoor
namespace Stb
variable {α : Type} (lt : α → α → Prop) (neg : α → α → Bool)
def Fit (x y : α) : Prop := (neg y x = true → lt y x) ∧ (neg y x = false → lt x y)
def Cross (X Y : List α) : Prop := ∀ x, x ∈ X → ∀ y, y ∈ Y → Fit lt neg x y
variable {lt neg}
structure Chs (lt : α → α → Prop) (neg : α → α → Bool) (C : List (List α)) : Prop where
 each : ∀ X, X ∈ C → X.Pairwise lt
 cross : C.Pairwise (Cross lt neg)
theorem Cross.flat {C : List (List α)} {Y : List α} (h : ∀ X, X ∈ C → Cross lt neg X Y) : Cross lt neg C.flatten Y := by
 intro x hx y hy
 obtain ⟨X, hX, hx⟩ := List.mem_flatten.1 hx
 exact h X hX x hx y hy
theorem Chs.merge {D C : List (List α)} {X Y M : List α} (h : Chs lt neg (D ++ X :: Y :: C)) (hp : List.Perm M (X ++ Y)) (hs : M.Pairwise lt) : Chs lt neg (D ++ [M] ++ C) := by
 have hc := h.cross
 rw [List.pairwise_append] at hc
 obtain ⟨c1, c2, c3⟩ := hc
 rw [List.pairwise_cons, List.pairwise_cons] at c2
 have hm : ∀ x, x ∈ M → x ∈ X ∨ x ∈ Y := fun x hx => List.mem_append.1 (hp.mem_iff.1 hx)
 refine ⟨fun Z hZ => ?_, ?_⟩
 ·rw [List.append_assoc] at hZ
  rcases List.mem_append.1 hZ with a | a
  ·exact h.each Z (List.mem_append_left _ a)
  ·rcases List.mem_cons.1 a with rfl | a
   ·exact hs
   ·exact h.each Z (List.mem_append_right _ (List.mem_cons_of_mem _ (List.mem_cons_of_mem _ a)))
 ·rw [List.append_assoc, List.pairwise_append]
  refine ⟨c1, List.pairwise_cons.2 ⟨fun Z hZ x hx => ?_, c2.2.2⟩, fun Z hZ W hW => ?_⟩
  ·rcases hm x hx with a | a
   ·exact c2.1 Z (List.mem_cons_of_mem _ hZ) x a
   ·exact c2.2.1 Z hZ x a
  ·rcases List.mem_cons.1 hW with rfl | hW
   ·intro x hx y hy
    rcases hm y hy with a | a
    ·exact c3 Z hZ X (by simp) x hx y a
    ·exact c3 Z hZ Y (by simp) x hx y a
   ·exact c3 Z hZ W (List.mem_cons_of_mem _ (List.mem_cons_of_mem _ hW))
theorem Chs.two {D C : List (List α)} {X Y : List α} (h : Chs lt neg (D ++ X :: Y :: C)) : X.Pairwise lt ∧ Y.Pairwise lt ∧ Cross lt neg X Y := by
 have hc := h.cross
 rw [List.pairwise_append, List.pairwise_cons] at hc
 exact ⟨h.each X (by simp), h.each Y (by simp), hc.2.1.1 Y (by simp)⟩
def Len (s : Nat) (C : List (List α)) : Prop := ∃ D X, C = D ++ [X] ∧ (∀ Y, Y ∈ D → Y.length = s) ∧ X.length ≤ s
theorem flat_len {D : List (List α)} {s : Nat} (h : ∀ Y, Y ∈ D → Y.length = s) : D.flatten.length = D.length * s := by
 induction D with
 | nil => simp
 | cons X D ih => rw [List.flatten_cons, List.length_append, List.length_cons, ih (fun Y hY => h Y (List.mem_cons_of_mem _ hY)), h X (by simp), Nat.succ_mul]; omega
theorem Len.two {s : Nat} {C : List (List α)} (h : Len s C) (hl : 2 * s ≤ C.flatten.length) (hs : 0 < s) : ∃ X Y C', C = X :: Y :: C' ∧ X.length = s ∧ Y.length = s ∧ (C' = [] ∨ Len s C') := by
 obtain ⟨D, X, rfl, hD, hX⟩ := h
 rw [List.flatten_append, List.length_append, flat_len hD] at hl
 simp only [List.flatten_cons, List.flatten_nil, List.append_nil] at hl
 match D, hD, hl with
 | [], _, hl => simp at hl; omega
 | [Y], hD, hl => exact ⟨Y, X, [], rfl, hD Y (by simp), by simp at hl; omega, .inl rfl⟩
 | Y :: Z :: D', hD, hl => exact ⟨Y, Z, D' ++ [X], rfl, hD Y (by simp), hD Z (by simp), .inr ⟨D', X, rfl, fun W hW => hD W (by simp [hW]), hX⟩⟩
theorem Len.rest {s : Nat} {C : List (List α)} (h : C = [] ∨ Len s C) (hl : C.flatten.length < 2 * s) (h1 : s < C.flatten.length) : ∃ X Y, C = [X, Y] ∧ X.length = s ∧ 0 < Y.length ∧ Y.length < s := by
 rcases h with rfl | ⟨D, X, rfl, hD, hX⟩
 ·simp at h1
 ·rw [List.flatten_append, List.length_append, flat_len hD] at hl h1
  simp only [List.flatten_cons, List.flatten_nil, List.append_nil] at hl h1
  match D, hD, hl, h1 with
  | [], _, hl, h1 => simp at hl h1; omega
  | [Y], hD, hl, h1 => exact ⟨Y, X, rfl, hD Y (by simp), by simp at h1; omega, by simp at hl; omega⟩
  | Y :: Z :: D', hD, hl, h1 =>
    exfalso
    simp only [List.length_cons] at hl
    have : 2 * s ≤ (D'.length + 1 + 1) * s := Nat.mul_le_mul_right s (by omega)
    omega
theorem Len.last {s : Nat} {C : List (List α)} (h : C = [] ∨ Len s C) (h1 : C.flatten.length ≤ s) (hs : 0 < s) : C = [] ∨ (∃ X, C = [X] ∧ X.length ≤ s) ∨ ∃ X, C = [X, []] ∧ X.length = s := by
 rcases h with rfl | ⟨D, X, rfl, hD, hX⟩
 ·exact .inl rfl
 ·rw [List.flatten_append, List.length_append, flat_len hD] at h1
  simp only [List.flatten_cons, List.flatten_nil, List.append_nil] at h1
  match D, hD, h1 with
  | [], _, h1 => exact .inr (.inl ⟨X, rfl, hX⟩)
  | [Y], hD, h1 =>
    have : X.length = 0 := by simp at h1; omega
    obtain rfl := List.eq_nil_of_length_eq_zero this
    exact .inr (.inr ⟨Y, rfl, hD Y (by simp)⟩)
  | Y :: Z :: D', hD, h1 =>
    exfalso
    simp only [List.length_cons] at h1
    have : 2 * s ≤ (D'.length + 1 + 1) * s := Nat.mul_le_mul_right s (by omega)
    omega
theorem Chs.sorted {s : Nat} {C : List (List α)} (h : Chs lt neg C) (hL : Len s C) (h1 : C.flatten.length ≤ s) (hs : 0 < s) : C.flatten.Pairwise lt := by
 rcases Len.last (.inr hL) h1 hs with rfl | ⟨X, rfl, _⟩ | ⟨X, rfl, _⟩
 ·simp
 ·simpa using h.each X (by simp)
 ·simpa using h.each X (by simp)
end Stb
end Go.Proofs.YtimjmjmpaicdbaaGreatDoor
namespace Go.Proofs.YtimjmjmpaicdbaaGreatDoor
open Go.RowKit
def Enc.val {α : Type} (E : Enc α) (x : α) : Value := .agg (E.cells x).toArray
structure SRow {α : Type} (E : Enc α) (w : World) (B : Nat) (e : TypeId) (g cap n : Nat) (L : List α) : Prop where
 own : OwnC w B e E.k g n cap (E.flat L)
 len : L.length = n
namespace SRow
variable {α : Type} {E : Enc α} {w w' : World} {B g cap n : Nat} {e : TypeId} {L : List α}
theorem keep (h : SRow E w B e g cap n L) (hb : Below w.heap.size w w') : SRow E w' B e g cap n L := ⟨h.own.keep hb, h.len⟩
theorem range (h : SRow E w B e g cap n L) {p : Nat} {x : α} (hp : L[p]? = some x) : w.rangeAt g (p * E.k) (E.cells x) := by
 intro j v hv
 have hj : j < E.k := by have := (List.getElem?_eq_some_iff.1 hv).1; rw [E.len] at this; exact this
 have hi := (List.getElem?_eq_some_iff.1 hp).1
 have hl := h.len
 have hb : p * E.k + j < n * E.k := by
  have : (p + 1) * E.k ≤ n * E.k := Nat.mul_le_mul_right _ (by omega)
  rw [Nat.succ_mul] at this; omega
 rw [h.own.cellAt (p * E.k + j) hb, E.flat_get L p x hp j hj, hv]
end SRow
namespace SRow
variable {α : Type} {E : Enc α} {w w' : World} {B g cap n : Nat} {e : TypeId} {L : List α}
theorem drew (h : SRow E w B e g cap n L) : SRow E w.drew B e g cap n L := ⟨h.own, h.len⟩
end SRow
end Go.Proofs.YtimjmjmpaicdbaaGreatDoor
namespace Go.Proofs.YtimjmjmpaicdbaaGreatDoor
namespace Stb
variable {α : Type}
variable {lt : α → α → Prop} {neg : α → α → Bool}
end Stb
end Go.Proofs.YtimjmjmpaicdbaaGreatDoor
namespace Go.Proofs.YtimjmjmpaicdbaaGreatDoor
open Go.RowKit Go.Sort
section
variable {P : Program} {ops : Array Oper} {Q : Exit → Act → World → Prop} {md : Region.Mode} {C : World → Prop} {m : Nat}
variable {f : Nat} {l : Array Bool} {a : Act} {w : World} {oi : Oper}
end





namespace Stb
variable {α : Type} {lt : α → α → Prop} {neg : α → α → Bool}
end Stb

def Rep.cells0 (v : Value) : Array Value := (Array.replicate 256 (.slice none 0 0)).push v
theorem Rep.info : ∃ i, Tryz.prog.info? 9 = some i ∧ i.size = 1 := by
 have h : (Tryz.prog.info? 9).map (·.size) = some 1 := by kernel_rfl
 obtain ⟨i, hi, hs⟩ := Option.map_eq_some_iff.1 h
 exact ⟨i, hi, hs⟩
theorem Rep.mk (w : World) : (Instr.makeSlice 83 (.int .i64 0) (.int .i64 2)).run Tryz.prog w = .ok (.slice (some ⟨w.heap.size, 0, none⟩) 0 2) (w.alloc (.cells #[.string ⟨#[]⟩, .string ⟨#[]⟩] 9)) := by kernel_rfl
theorem Rep.size (v : Value) : (Rep.cells0 v).size = 257 := by simp [Rep.cells0]
theorem Rep.one (h : Nat) : (Rep.cells0 (.slice (some ⟨h, 0, none⟩) 0 2)).all (·.oneCell') = true := by
 rw [Array.all_eq_true_iff_forall_mem]
 intro x hx
 rw [Rep.cells0, Array.mem_push] at hx
 rcases hx with hx | rfl
 ·rw [(Array.mem_replicate.1 hx).2]; rfl
 ·rfl
theorem Rep.zero (v : Value) : Tryz.zeroCells250.toList.set 256 v = (Rep.cells0 v).toList := by kernel_rfl
theorem Rep.zsize : Tryz.zeroCells250.size = 257 := by kernel_rfl
theorem Rep.st (h : Nat) (w : World) : (storeCells ⟨w.heap.size, 0, none⟩ (Tryz.zeroCells250.toList.set 256 (.slice (some ⟨h, 0, none⟩) 0 2)) 0).run Tryz.prog (w.alloc (.cells Tryz.zeroCells250 250)) =
  .ok () (w.alloc (.cells (Rep.cells0 (.slice (some ⟨h, 0, none⟩) 0 2)) 250)) := by
 rw [Rep.zero]
 exact run_storeCells_new w _ _ _ (by rw [Rep.size]; kernel_rfl) (by rw [Rep.size, Rep.zsize]) (Rep.one h)
def Rep.At (W : World) (bs : Nat) (f : Nat → Value) (tv : Value) : Prop :=
 ∃ cur : Array Value, W.heap[bs]? = some (.cells cur 250 (0, 0)) ∧ cur.size = 257 ∧ (∀ x, x < 256 → cur[x]? = some (f x)) ∧ cur[256]? = some tv
theorem Rep.At.lt {W : World} {bs : Nat} {f : Nat → Value} {tv : Value} (h : Rep.At W bs f tv) : bs < W.heap.size := by
 obtain ⟨cur, h, _⟩ := h; exact (Array.getElem?_eq_some_iff.1 h).1
theorem Rep.At.of_block {W W' : World} {bs : Nat} {f : Nat → Value} {tv : Value} (h : Rep.At W bs f tv) (hb : W'.heap[bs]? = W.heap[bs]?) : Rep.At W' bs f tv := by
 obtain ⟨cur, h, r⟩ := h; exact ⟨cur, hb.trans h, r⟩
theorem Rep.At.cell {W : World} {bs : Nat} {f : Nat → Value} {tv : Value} (h : Rep.At W bs f tv) (x : Nat) (hx : x < 256) : W.cell? ⟨bs, x, none⟩ = some (f x) := by
 obtain ⟨cur, h, _, hf, _⟩ := h
 rw [cell_of_row _ _ x cur _ _ h]; exact hf x hx
theorem Rep.At.list {W : World} {bs : Nat} {f : Nat → Value} {tv : Value} (h : Rep.At W bs f tv) : W.cell? ⟨bs, 256, none⟩ = some tv := by
 obtain ⟨cur, h, _, _, hf⟩ := h
 rw [cell_of_row _ _ 256 cur _ _ h]; exact hf
theorem Rep.At.frozen {W : World} {bs : Nat} {f : Nat → Value} {tv : Value} (h : Rep.At W bs f tv) (o : Nat) : W.frozen? ⟨bs, o, none⟩ = false := by
 obtain ⟨cur, h, _⟩ := h; exact frozen_of h o
theorem Rep.At.put {W : World} {bs : Nat} {f : Nat → Value} {tv : Value} (h : Rep.At W bs f tv) (x : Nat) (hx : x < 256) (v : Value) : Rep.At (W.setCell ⟨bs, x, none⟩ v) bs (fun y => if y = x then v else f y) tv := by
 obtain ⟨cur, h, hs, hf, ht⟩ := h
 refine ⟨cur.setIfInBounds x v, Joins.block_setCell h v, by simpa using hs, fun y hy => ?_, ?_⟩
 ·rw [Array.getElem?_setIfInBounds]
  show _ = some (if y = x then v else f y)
  by_cases e : x = y
  ·subst e; rw [if_pos rfl, if_pos (by omega), if_pos rfl]
  ·rw [if_neg e, if_neg (fun k : y = x => e k.symm)]; exact hf y hy
 ·rw [Array.getElem?_setIfInBounds, if_neg (by omega)]; exact ht
theorem Rep.At.putList {W : World} {bs : Nat} {f : Nat → Value} {tv : Value} (h : Rep.At W bs f tv) (v : Value) : Rep.At (W.setCell ⟨bs, 256, none⟩ v) bs f v := by
 obtain ⟨cur, h, hs, hf, ht⟩ := h
 refine ⟨cur.setIfInBounds 256 v, Joins.block_setCell h v, by simpa using hs, fun y hy => ?_, ?_⟩
 ·rw [Array.getElem?_setIfInBounds, if_neg (by omega)]; exact hf y hy
 ·rw [Array.getElem?_setIfInBounds, if_pos rfl, if_pos (by omega)]
theorem Rep.At.new (w : World) (v : Value) : Rep.At (w.alloc (.cells (Rep.cells0 v) 250)) w.heap.size (fun _ => .slice none 0 0) v := by
 refine ⟨_, heap_alloc_last w _, Rep.size v, fun x hx => ?_, ?_⟩
 ·rw [Rep.cells0, Array.getElem?_push, if_neg (by simp; omega)]; simp [hx]
 ·rw [Rep.cells0, Array.getElem?_push, if_pos (by simp)]
theorem Rep.isnil (w : World) : (binOp .eql 62 (.slice none 0 0) (.slice none 0 0)).run Tryz.prog w = .ok (.bool true) w := by kernel_rfl
def Rep.Two (W : World) (B bs h : Nat) (v : Value) (x y : Int) : Prop :=
 ∃ p c, v = .slice (some ⟨p, 0, none⟩) 2 c ∧ B ≤ p ∧ p < W.heap.size ∧ p ≠ bs ∧ p ≠ h ∧ W.cell? ⟨p, 0, none⟩ = some (.int .u8 x) ∧ W.cell? ⟨p, 1, none⟩ = some (.int .u8 y)
theorem Rep.Two.of {W W' : World} {B bs h : Nat} {v : Value} {x y : Int} (k : Rep.Two W B bs h v x y) (hs : W.heap.size ≤ W'.heap.size) (hb : ∀ p, p < W.heap.size → p ≠ bs → p ≠ h → W'.heap[p]? = W.heap[p]?) : Rep.Two W' B bs h v x y := by
 obtain ⟨p, c, rfl, h1, h2, h3, h4, h5, h6⟩ := k
 have e := hb p h2 h3 h4
 refine ⟨p, c, rfl, h1, by omega, h3, h4, ?_, ?_⟩
 ·rw [World.cell?] at h5 ⊢; simp only [e]; exact h5
 ·rw [World.cell?] at h6 ⊢; simp only [e]; exact h6
theorem Rep.conv (W : World) (x y : UInt8) : ∃ c W5, (convert 9 62 (.string ⟨#[x, y]⟩)).run Tryz.prog W = .ok (.slice (some ⟨W.heap.size, 0, none⟩) 2 c) W5 ∧ W5.heap.size = W.heap.size + 1 ∧
  Below W.heap.size W W5 ∧ W5.cell? ⟨W.heap.size, 0, none⟩ = some (.int .u8 x.toNat) ∧ W5.cell? ⟨W.heap.size, 1, none⟩ = some (.int .u8 y.toNat) := by
 have h := run_bytes_of_string (P := Tryz.prog) W 9 62 5 ⟨#[x, y]⟩ Tryz.underlying9 Tryz.underlying62 Tryz.underlying5
 refine ⟨_, _, h, by simp, (Below.refl _ _).drew.alloc (by simp) _, ?_, ?_⟩
 ·rw [Joins.cell_alloc_mark_at _ _ _ _ _ _ (by simp), bytesRow, Array.getElem?_append_left (by simp)]; simp
 ·rw [Joins.cell_alloc_mark_at _ _ _ _ _ _ (by simp), bytesRow, Array.getElem?_append_left (by simp)]; simp
def Rep.St (w : World) (B bs h : Nat) (j : Nat) (W : World) : Prop :=
 ∃ f, Rep.At W bs f (.slice (some ⟨h, 0, none⟩) j 2) ∧ (∀ x, x ≠ 34 → x ≠ 92 → f x = .slice none 0 0) ∧ (if j ≤ 1 then f 34 = .slice none 0 0 else Rep.Two W B bs h (f 34) 92 34) ∧ (if j ≤ 0 then f 92 = .slice none 0 0 else Rep.Two W B bs h (f 92) 92 92) ∧
   OwnC W B 9 1 h j 2 ([.string ⟨#[92]⟩, .string ⟨#[34]⟩].take j) ∧ Below w.heap.size w W
theorem build_is {cp : Nat} (b o : Nat) (w : World) (q : w.cell? ⟨b, 4, none⟩ = some (.slice (some ⟨o, 0, none⟩) 4 cp)) (s0 : w.cell? ⟨o, 0, none⟩ = some (.string ⟨#[34]⟩)) (s1 : w.cell? ⟨o, 1, none⟩ = some (.string ⟨#[92, 34]⟩))
  (s2 : w.cell? ⟨o, 2, none⟩ = some (.string ⟨#[92]⟩)) (s3 : w.cell? ⟨o, 3, none⟩ = some (.string ⟨#[92, 92]⟩)) (ho : o < w.heap.size) :
  Calls Tryz.prog 190 #[.pointer (some ⟨b, 0, none⟩)] w fun e w' => e = .returned (.iface 251 (.pointer (some ⟨w.heap.size + 1, 0, none⟩))) ∧ Rep.St w w.heap.size (w.heap.size + 1) w.heap.size 2 w' := by
 obtain ⟨i9, hi9', hs9'⟩ := Rep.info
 have hi9 := Lib.hid hi9'; have hs9 := Lib.hid hs9'; clear hi9' hs9'
 go_enter Tryz.func190, Tryz.ntmps190
 go_wp2_with fail
 go_loopg [5, 4] 2 (fun gk i al wr => ∃ j : Nat, gk = 2 - j ∧ (i = .int .i64 0 ∧ al = .bool true ∧ j = 0 ∨ i = .int .i64 2 ∧ al = .bool false ∧ j = 1 ∨ i = .int .i64 4 ∧ al = .bool false ∧ j = 2) ∧ wr = w)
 case atStart => exact ⟨0, rfl, .inl ⟨rfl, rfl, rfl⟩, rfl⟩
 case round =>
  obtain ⟨j, rfl, ⟨rfl, rfl, rfl⟩ | ⟨rfl, rfl, rfl⟩ | ⟨rfl, rfl, rfl⟩, rfl⟩ := hrel
  ·go_wp2_with fail
   go_roundg (2 - (0 + 1))
   case rel => exact ⟨1, rfl, .inr (.inl ⟨rfl, rfl, rfl⟩), rfl⟩
   case measure => omega
  ·go_wp2_with fail
   go_roundg (2 - (1 + 1))
   case rel => exact ⟨2, rfl, .inr (.inr ⟨rfl, rfl, rfl⟩), rfl⟩
   case measure => omega
  ·have hmk := Rep.mk wr
   have hst := Rep.st wr.heap.size (wr.alloc (.cells #[.string ⟨#[]⟩, .string ⟨#[]⟩] 9))
   simp only [World.size_alloc] at hst
   have hRA := Rep.At.new (wr.alloc (.cells #[.string ⟨#[]⟩, .string ⟨#[]⟩] 9)) (.slice (some ⟨wr.heap.size, 0, none⟩) 0 2)
   simp only [World.size_alloc] at hRA
   go_upto_region 27 with fail
   all_goals
    go_wp2_with fail
    have hS0 : Rep.St wr wr.heap.size (wr.heap.size + 1) wr.heap.size 0 ((wr.alloc (.cells #[.string ⟨#[]⟩, .string ⟨#[]⟩] 9)).alloc (.cells (Rep.cells0 (.slice (some ⟨wr.heap.size, 0, none⟩) 0 2)) 250)) :=
     ⟨_, hRA, fun _ _ _ => rfl, by simp, by simp, (own_make (cur := #[.string ⟨#[]⟩, .string ⟨#[]⟩]) (Nat.le_refl _) (heap_alloc_last wr _) (by omega) (by simp [maxLen]) (by simp) rfl).alloc _, ((Below.refl _ _).alloc (Nat.le_refl _) _).alloc (by simp) _⟩
    generalize (wr.alloc (.cells #[.string ⟨#[]⟩, .string ⟨#[]⟩] 9)).alloc (.cells (Rep.cells0 (.slice (some ⟨wr.heap.size, 0, none⟩) 0 2)) 250) = V0 at hS0 ⊢
    clear hmk hst hRA
    obtain ⟨w0, hw0⟩ : ∃ w0, w0 = wr := ⟨_, rfl⟩
    subst hw0
    go_loopg [12] 2 (fun gk i wr => ∃ j : Nat, gk = 2 - j ∧ (i = .int .i64 2 ∧ j = 0 ∨ i = .int .i64 0 ∧ j = 1 ∨ i = .int .i64 (-2) ∧ j = 2) ∧ Rep.St w0 w0.heap.size (w0.heap.size + 1) w0.heap.size j wr)
    case atStart => exact ⟨0, rfl, .inl ⟨rfl, rfl⟩, hS0⟩
    case round =>
     obtain ⟨j, rfl, ⟨rfl, rfl⟩ | ⟨rfl, rfl⟩ | ⟨rfl, rfl⟩, hS⟩ := hrel
     ·obtain ⟨f, hA, hf, h34, h92, hO, hB⟩ := hS
      rw [if_pos (by omega)] at h34 h92
      have c2 := (hB.cell (p := ⟨o, 2, none⟩) ho).trans s2
      have c3 := (hB.cell (p := ⟨o, 3, none⟩) ho).trans s3
      have cx := hA.cell 92 (by omega)
      rw [h92] at cx
      have cl := hA.list
      have hlt := hA.lt
      have hcv : (convert 62 9 (.slice (some ⟨wr.heap.size, 0, none⟩) 1 1)).run Tryz.prog (wr.alloc (.cells #[.int .u8 92] 5)) = .ok (.string ⟨#[92]⟩) (wr.alloc (.cells #[.int .u8 92] 5)) :=
       run_convert_bytes_back (P := Tryz.prog) (wr.alloc (.cells #[.int .u8 92] 5)) 62 9 5 ⟨wr.heap.size, 0, none⟩ 1 [92] Tryz.underlying62 Tryz.underlying5 Tryz.underlying9 (fun j hj => by
        have h0 : j = 0 := by simpa using hj
        subst h0
        rw [show (⟨wr.heap.size, 0, none⟩ : Addr).add 0 = ⟨wr.heap.size, 0, none⟩ from rfl, World.cell?_alloc_mark]; rfl)
      have hx0 : (((⟨#[92]⟩ : ByteArray)[0]'(by decide)).toNat : Int) = 92 := rfl
      have hin := Rep.isnil
      have hbk : ∀ k, k < wr.heap.size → ((wr.alloc (.cells #[.int .u8 92] 5)).alloc (.cells #[.string ⟨#[92]⟩] 9)).heap[k]? = wr.heap[k]? := fun k hk => (Below.heap_alloc _ _ k (by simp; omega)).trans (Below.heap_alloc _ _ k hk)
      have hA1 := hA.of_block (hbk _ hlt)
      have cl1 := hA1.list
      obtain ⟨W3, hap, hO3, hG3⟩ := own_append (P := Tryz.prog) ((hO.alloc (.cells #[.int .u8 92] 5)).alloc (.cells #[.string ⟨#[92]⟩] 9)) 83 i9 Tryz.underlying83 hi9.out hs9.out ⟨wr.heap.size + 1, 0, none⟩ 1 [.string ⟨#[92]⟩] rfl (fun j u hu => by
       have h0 : j = 0 := by
        have := (List.getElem?_eq_some_iff.1 hu).1
        simpa using this
       subst h0
       have h1 : u = .string ⟨#[92]⟩ := by simpa using hu.symm
       subst h1
       rw [show (⟨wr.heap.size + 1, 0, none⟩ : Addr).add 0 = ⟨wr.heap.size + 1, 0, none⟩ from rfl, Joins.cell_alloc_mark_at _ _ _ _ _ _ (by simp)]; rfl) (by simp [Value.oneCell']) (by omega)
      have hb3 : ∀ k, k < wr.heap.size → k ≠ w0.heap.size → W3.heap[k]? = wr.heap[k]? := fun k hk hn => (hG3.block k (by simp; omega) (by simpa using hn)).trans (hbk k hk)
      have hs3 : wr.heap.size + 2 ≤ W3.heap.size := by have := hG3.size; simpa using this
      have hA3 := hA.of_block (hb3 _ hlt (by omega))
      have cl3 := hA3.list
      have zl3 := hA3.frozen 256
      go_upto_region 34 with (at_builtin; refine Lib.wpList_append_run _ rfl _ _ _ _ rfl _ _ rfl rfl _ _ (hap _ _) ?_)
      have hA4 := hA3.putList (.slice (some ⟨w0.heap.size, 0, none⟩) 1 2)
      have hO4 := hO3.of_block (Below.heap_setCell W3 ⟨w0.heap.size + 1, 256, none⟩ (.slice (some ⟨w0.heap.size, 0, none⟩) 1 2) w0.heap.size (by simp))
      have hb4 : ∀ k, k < wr.heap.size → k ≠ w0.heap.size + 1 → k ≠ w0.heap.size → (W3.setCell ⟨w0.heap.size + 1, 256, none⟩ (.slice (some ⟨w0.heap.size, 0, none⟩) 1 2)).heap[k]? = wr.heap[k]? := fun k hk h1 h2 => (Below.heap_setCell _ _ _ k h1).trans (hb3 k hk h2)
      have hB4 := ((((hB.alloc (by omega) (.cells #[.int .u8 92] 5)).alloc (by simp; omega) (.cells #[.string ⟨#[92]⟩] 9)).grown hG3 (by simp; omega) (fun k hk => by cases hk; exact Nat.le_refl _)).setCell (p := ⟨w0.heap.size + 1, 256, none⟩) (Nat.le_succ _) (.slice (some ⟨w0.heap.size, 0, none⟩) 1 2))
      have hs4 : wr.heap.size ≤ (W3.setCell ⟨w0.heap.size + 1, 256, none⟩ (.slice (some ⟨w0.heap.size, 0, none⟩) 1 2)).heap.size := by simp; omega
      generalize W3.setCell ⟨w0.heap.size + 1, 256, none⟩ (.slice (some ⟨w0.heap.size, 0, none⟩) 1 2) = W4 at hA4 hO4 hb4 hB4 hs4 ⊢
      clear hap hO3 hG3 hb3 hs3 hA3 cl3 zl3 hcv hbk hA1 cl1
      obtain ⟨c, W5, hcb, hz5, hb5, k0, k1⟩ := Rep.conv W4 92 92
      have hA5 := hA4.of_block (hb5.block _ hA4.lt)
      have cx5 := hA5.cell 92 (by omega)
      have zx5 := hA5.frozen 92
      have hO5 := (hO4.keep hb5).of_block (Below.heap_setCell W5 ⟨w0.heap.size + 1, 92, none⟩ (.slice (some ⟨W4.heap.size, 0, none⟩) 2 c) w0.heap.size (by simp))
      have hA6 := hA5.put 92 (by omega) (.slice (some ⟨W4.heap.size, 0, none⟩) 2 c)
      have hB6 := (hB4.trans (hb5.mono (by omega))).setCell (p := ⟨w0.heap.size + 1, 92, none⟩) (Nat.le_succ _) (.slice (some ⟨W4.heap.size, 0, none⟩) 2 c)
      have hT6 : Rep.Two (W5.setCell ⟨w0.heap.size + 1, 92, none⟩ (.slice (some ⟨W4.heap.size, 0, none⟩) 2 c)) w0.heap.size (w0.heap.size + 1) w0.heap.size (.slice (some ⟨W4.heap.size, 0, none⟩) 2 c) 92 92 := by
       refine ⟨W4.heap.size, c, rfl, by omega, by simp; omega, by omega, by omega, ?_, ?_⟩
       ·rw [World.cell?_of_block (Below.heap_setCell _ _ _ _ (by simp; omega))]; exact k0
       ·rw [World.cell?_of_block (Below.heap_setCell _ _ _ _ (by simp; omega))]; exact k1
      have HX := Lib.hid (And.intro hA6 (And.intro hO5 (And.intro hB6 hT6)))
      have HK : Hid (∀ k, k < wr.heap.size → k ≠ w0.heap.size + 1 → k ≠ w0.heap.size → (W5.setCell ⟨w0.heap.size + 1, 92, none⟩ (.slice (some ⟨W4.heap.size, 0, none⟩) 2 c)).heap[k]? = wr.heap[k]?) := Lib.hid fun k hk h1 h2 => (Below.heap_setCell _ _ _ k h1).trans ((hb5.block k (by omega)).trans (hb4 k hk h1 h2))
      have HS : Hid (wr.heap.size ≤ (W5.setCell ⟨w0.heap.size + 1, 92, none⟩ (.slice (some ⟨W4.heap.size, 0, none⟩) 2 c)).heap.size) := Lib.hid (by simp; omega)
      clear hA6 hO5 hB6 hT6 k0 k1 hb4 hB4 hO4 hA4 hz5 hs4
      go_wp2_with fail
      go_roundg (2 - (0 + 1))
      case rel =>
       obtain ⟨a1, a2, a3, a4⟩ := HX.out
       exact ⟨1, rfl, .inr (.inl ⟨rfl, rfl⟩), _, a1, fun x h1 h2 => by rw [if_neg h2]; exact hf x h1 h2, by rw [if_pos (by omega), if_neg (by omega)]; exact h34, by rw [if_neg (by omega), if_pos rfl]; exact a4, a2, a3⟩
      case measure => omega
     ·obtain ⟨f, hA, hf, h34, h92, hO, hB⟩ := hS
      rw [if_pos (by omega)] at h34
      rw [if_neg (by omega)] at h92
      have c2 := (hB.cell (p := ⟨o, 0, none⟩) ho).trans s0
      have c3 := (hB.cell (p := ⟨o, 1, none⟩) ho).trans s1
      have cx := hA.cell 34 (by omega)
      rw [h34] at cx
      have cl := hA.list
      have hlt := hA.lt
      have hcv : (convert 62 9 (.slice (some ⟨wr.heap.size, 0, none⟩) 1 1)).run Tryz.prog (wr.alloc (.cells #[.int .u8 34] 5)) = .ok (.string ⟨#[34]⟩) (wr.alloc (.cells #[.int .u8 34] 5)) :=
       run_convert_bytes_back (P := Tryz.prog) (wr.alloc (.cells #[.int .u8 34] 5)) 62 9 5 ⟨wr.heap.size, 0, none⟩ 1 [34] Tryz.underlying62 Tryz.underlying5 Tryz.underlying9 (fun j hj => by
        have h0 : j = 0 := by simpa using hj
        subst h0
        rw [show (⟨wr.heap.size, 0, none⟩ : Addr).add 0 = ⟨wr.heap.size, 0, none⟩ from rfl, World.cell?_alloc_mark]; rfl)
      have hx0 : (((⟨#[34]⟩ : ByteArray)[0]'(by decide)).toNat : Int) = 34 := rfl
      have hin := Rep.isnil
      have hbk : ∀ k, k < wr.heap.size → ((wr.alloc (.cells #[.int .u8 34] 5)).alloc (.cells #[.string ⟨#[34]⟩] 9)).heap[k]? = wr.heap[k]? := fun k hk => (Below.heap_alloc _ _ k (by simp; omega)).trans (Below.heap_alloc _ _ k hk)
      have hA1 := hA.of_block (hbk _ hlt)
      have cl1 := hA1.list
      obtain ⟨W3, hap, hO3, hG3⟩ := own_append (P := Tryz.prog) ((hO.alloc (.cells #[.int .u8 34] 5)).alloc (.cells #[.string ⟨#[34]⟩] 9)) 83 i9 Tryz.underlying83 hi9.out hs9.out ⟨wr.heap.size + 1, 0, none⟩ 1 [.string ⟨#[34]⟩] rfl (fun j u hu => by
       have h0 : j = 0 := by
        have := (List.getElem?_eq_some_iff.1 hu).1
        simpa using this
       subst h0
       have h1 : u = .string ⟨#[34]⟩ := by simpa using hu.symm
       subst h1
       rw [show (⟨wr.heap.size + 1, 0, none⟩ : Addr).add 0 = ⟨wr.heap.size + 1, 0, none⟩ from rfl, Joins.cell_alloc_mark_at _ _ _ _ _ _ (by simp)]; rfl) (by simp [Value.oneCell']) (by omega)
      have hb3 : ∀ k, k < wr.heap.size → k ≠ w0.heap.size → W3.heap[k]? = wr.heap[k]? := fun k hk hn => (hG3.block k (by simp; omega) (by simpa using hn)).trans (hbk k hk)
      have hs3 : wr.heap.size + 2 ≤ W3.heap.size := by have := hG3.size; simpa using this
      have hA3 := hA.of_block (hb3 _ hlt (by omega))
      have cl3 := hA3.list
      have zl3 := hA3.frozen 256
      go_upto_region 34 with (at_builtin; refine Lib.wpList_append_run _ rfl _ _ _ _ rfl _ _ rfl rfl _ _ (hap _ _) ?_)
      have hA4 := hA3.putList (.slice (some ⟨w0.heap.size, 0, none⟩) 2 2)
      have hO4 := hO3.of_block (Below.heap_setCell W3 ⟨w0.heap.size + 1, 256, none⟩ (.slice (some ⟨w0.heap.size, 0, none⟩) 2 2) w0.heap.size (by simp))
      have hb4 : ∀ k, k < wr.heap.size → k ≠ w0.heap.size + 1 → k ≠ w0.heap.size → (W3.setCell ⟨w0.heap.size + 1, 256, none⟩ (.slice (some ⟨w0.heap.size, 0, none⟩) 2 2)).heap[k]? = wr.heap[k]? := fun k hk h1 h2 => (Below.heap_setCell _ _ _ k h1).trans (hb3 k hk h2)
      have hB4 := ((((hB.alloc (by omega) (.cells #[.int .u8 34] 5)).alloc (by simp; omega) (.cells #[.string ⟨#[34]⟩] 9)).grown hG3 (by simp; omega) (fun k hk => by cases hk; exact Nat.le_refl _)).setCell (p := ⟨w0.heap.size + 1, 256, none⟩) (Nat.le_succ _) (.slice (some ⟨w0.heap.size, 0, none⟩) 2 2))
      have hs4 : wr.heap.size ≤ (W3.setCell ⟨w0.heap.size + 1, 256, none⟩ (.slice (some ⟨w0.heap.size, 0, none⟩) 2 2)).heap.size := by simp; omega
      generalize W3.setCell ⟨w0.heap.size + 1, 256, none⟩ (.slice (some ⟨w0.heap.size, 0, none⟩) 2 2) = W4 at hA4 hO4 hb4 hB4 hs4 ⊢
      clear hap hO3 hG3 hb3 hs3 hA3 cl3 zl3 hcv hbk hA1 cl1
      obtain ⟨c, W5, hcb, hz5, hb5, k0, k1⟩ := Rep.conv W4 92 34
      have hA5 := hA4.of_block (hb5.block _ hA4.lt)
      have cx5 := hA5.cell 34 (by omega)
      have zx5 := hA5.frozen 34
      have hO5 := (hO4.keep hb5).of_block (Below.heap_setCell W5 ⟨w0.heap.size + 1, 34, none⟩ (.slice (some ⟨W4.heap.size, 0, none⟩) 2 c) w0.heap.size (by simp))
      have hA6 := hA5.put 34 (by omega) (.slice (some ⟨W4.heap.size, 0, none⟩) 2 c)
      have hB6 := (hB4.trans (hb5.mono (by omega))).setCell (p := ⟨w0.heap.size + 1, 34, none⟩) (Nat.le_succ _) (.slice (some ⟨W4.heap.size, 0, none⟩) 2 c)
      have hT6 : Rep.Two (W5.setCell ⟨w0.heap.size + 1, 34, none⟩ (.slice (some ⟨W4.heap.size, 0, none⟩) 2 c)) w0.heap.size (w0.heap.size + 1) w0.heap.size (.slice (some ⟨W4.heap.size, 0, none⟩) 2 c) 92 34 := by
       refine ⟨W4.heap.size, c, rfl, by omega, by simp; omega, by omega, by omega, ?_, ?_⟩
       ·rw [World.cell?_of_block (Below.heap_setCell _ _ _ _ (by simp; omega))]; exact k0
       ·rw [World.cell?_of_block (Below.heap_setCell _ _ _ _ (by simp; omega))]; exact k1
      have HX := Lib.hid (And.intro hA6 (And.intro hO5 (And.intro hB6 hT6)))
      have HK : Hid (∀ k, k < wr.heap.size → k ≠ w0.heap.size + 1 → k ≠ w0.heap.size → (W5.setCell ⟨w0.heap.size + 1, 34, none⟩ (.slice (some ⟨W4.heap.size, 0, none⟩) 2 c)).heap[k]? = wr.heap[k]?) := Lib.hid fun k hk h1 h2 => (Below.heap_setCell _ _ _ k h1).trans ((hb5.block k (by omega)).trans (hb4 k hk h1 h2))
      have HS : Hid (wr.heap.size ≤ (W5.setCell ⟨w0.heap.size + 1, 34, none⟩ (.slice (some ⟨W4.heap.size, 0, none⟩) 2 c)).heap.size) := Lib.hid (by simp; omega)
      clear hA6 hO5 hB6 hT6 k0 k1 hb4 hB4 hO4 hA4 hz5 hs4
      go_wp2_with fail
      go_roundg (2 - (1 + 1))
      case rel =>
       obtain ⟨a1, a2, a3, a4⟩ := HX.out
       exact ⟨2, rfl, .inr (.inr ⟨rfl, rfl⟩), _, a1, fun x h1 h2 => by rw [if_neg h1]; exact hf x h1 h2, by rw [if_neg (by omega), if_pos rfl]; exact a4, by rw [if_neg (by omega), if_neg (by omega)]; exact h92.of HS.out HK.out, a2, a3⟩
      case measure => omega
     ·go_wp2_with fail
      go_ret
      exact ⟨rfl, hS⟩
theorem Rep.Two.base {W : World} {B B' bs h : Nat} {v : Value} {x y : Int} (k : Rep.Two W B bs h v x y) (hb : B' ≤ B) : Rep.Two W B' bs h v x y := by
 obtain ⟨p, c, rfl, h1, r⟩ := k; exact ⟨p, c, rfl, by omega, r⟩
def Rep.Fin (W : World) (bs h : Nat) : Prop :=
 ∃ f, Rep.At W bs f (.slice (some ⟨h, 0, none⟩) 2 2) ∧ (∀ x, x ≠ 34 → x ≠ 92 → f x = .slice none 0 0) ∧ Rep.Two W 0 bs h (f 34) 92 34 ∧ Rep.Two W 0 bs h (f 92) 92 92 ∧
   W.cell? ⟨h, 0, none⟩ = some (.string ⟨#[92]⟩) ∧ W.cell? ⟨h, 1, none⟩ = some (.string ⟨#[34]⟩) ∧ h < W.heap.size
theorem Rep.Fin.of {W W' : World} {bs h : Nat} (k : Rep.Fin W bs h) (hs : W.heap.size ≤ W'.heap.size) (hb : ∀ p, p < W.heap.size → h ≤ p → W'.heap[p]? = W.heap[p]?) (hbs : h ≤ bs) (hp : ∀ v x y, Rep.Two W 0 bs h v x y → Rep.Two W h bs h v x y) : Rep.Fin W' bs h := by
 obtain ⟨f, h1, h2, h3, h4, h5, h6, h7⟩ := k
 have two : ∀ v x y, Rep.Two W 0 bs h v x y → Rep.Two W' 0 bs h v x y := by
  intro v x y q
  obtain ⟨p, c, rfl, g1, g2, g3, g4, g5, g6⟩ := hp v x y q
  have e := hb p g2 g1
  exact ⟨p, c, rfl, Nat.zero_le _, by omega, g3, g4, by rw [World.cell?_of_block e]; exact g5, by rw [World.cell?_of_block e]; exact g6⟩
 exact ⟨f, h1.of_block (hb _ h1.lt hbs), h2, two _ _ _ h3, two _ _ _ h4, by rw [World.cell?_of_block (hb h h7 (Nat.le_refl _))]; exact h5, by rw [World.cell?_of_block (hb h h7 (Nat.le_refl _))]; exact h6, by omega⟩
theorem buildOnce_is {cp : Nat} (b o : Nat) (w : World) (x3 : Value) (q3 : w.cell? ⟨b, 3, none⟩ = some x3) (q : w.cell? ⟨b, 4, none⟩ = some (.slice (some ⟨o, 0, none⟩) 4 cp)) (s0 : w.cell? ⟨o, 0, none⟩ = some (.string ⟨#[34]⟩)) (s1 : w.cell? ⟨o, 1, none⟩ = some (.string ⟨#[92, 34]⟩))
  (s2 : w.cell? ⟨o, 2, none⟩ = some (.string ⟨#[92]⟩)) (s3 : w.cell? ⟨o, 3, none⟩ = some (.string ⟨#[92, 92]⟩)) (ho : o < w.heap.size) (hb : b < w.heap.size) (hz : ∀ k, w.frozen? ⟨b, k, none⟩ = false) :
  Calls Tryz.prog 155 #[.pointer (some ⟨b, 0, none⟩)] w fun e w' => e = .returned (.tuple #[]) ∧ ∃ W1, Rep.St w w.heap.size (w.heap.size + 1) w.heap.size 2 W1 ∧
   w' = (W1.setCell ⟨b, 3, none⟩ (.iface 251 (.pointer (some ⟨w.heap.size + 1, 0, none⟩)))).setCell ⟨b, 4, none⟩ (.slice none 0 0) := by
 have HB := Lib.hid (build_is b o w q s0 s1 s2 s3 ho)
 go_enter Tryz.func155, Tryz.ntmps155
 go_upto_region 1 with (go_at_call 190; refine HB.out.mono ?_; rintro e w1 ⟨rfl, hS⟩; have HS := Lib.hid hS; obtain ⟨_, _, _, _, _, _, hBl⟩ := hS; have d3 := (hBl.cell (p := ⟨b, 3, none⟩) hb).trans q3; have d4 := (hBl.cell (p := ⟨b, 4, none⟩) hb).trans q; have z3 := (hBl.frozen (p := ⟨b, 3, none⟩) hb).trans (hz 3); have z4 := (hBl.frozen (p := ⟨b, 4, none⟩) hb).trans (hz 4); clear hBl)
 go_wp2_with fail
 go_end0
 exact ⟨rfl, _, HS.out, rfl⟩
theorem load_zero (a : Addr) (w : World) (h : w.cell? a = some (.int .u32 0)) : Calls Tryz.prog 188 #[.pointer (some a)] w fun e w' => e = .returned (.bool false) ∧ w' = w := by
 have hl := run_call_load (P := Tryz.prog) Tryz.func218 (by kernel_rfl) (by kernel_rfl) (by kernel_rfl) .u32 (by kernel_rfl) h
 go_enter Tryz.func188, Tryz.ntmps188
 go_wp2
 go_ret
 exact ⟨rfl, rfl⟩
theorem slow_is {cp : Nat} (b o : Nat) (w : World) (x3 : Value) (h0 : w.cell? ⟨b, 0, none⟩ = some (.int .u32 0)) (h1 : w.cell? ⟨b, 1, none⟩ = some (.int .i32 0)) (q3 : w.cell? ⟨b, 3, none⟩ = some x3) (q : w.cell? ⟨b, 4, none⟩ = some (.slice (some ⟨o, 0, none⟩) 4 cp))
  (s0 : w.cell? ⟨o, 0, none⟩ = some (.string ⟨#[34]⟩)) (s1 : w.cell? ⟨o, 1, none⟩ = some (.string ⟨#[92, 34]⟩)) (s2 : w.cell? ⟨o, 2, none⟩ = some (.string ⟨#[92]⟩)) (s3 : w.cell? ⟨o, 3, none⟩ = some (.string ⟨#[92, 92]⟩))
  (ho : o < w.heap.size) (hb : b < w.heap.size) (hz : ∀ k, w.frozen? ⟨b, k, none⟩ = false) (hob : o ≠ b) :
  Calls Tryz.prog 189 #[.pointer (some ⟨b, 0, none⟩), .func (.func 155) #[.pointer (some ⟨b, 0, none⟩)] #[]] w fun e w' => e = .returned (.tuple #[]) ∧
   ∃ W1, Rep.St (w.setCell ⟨b, 1, none⟩ (.int .i32 1)) w.heap.size (w.heap.size + 1) w.heap.size 2 W1 ∧
   w' = (((W1.setCell ⟨b, 3, none⟩ (.iface 251 (.pointer (some ⟨w.heap.size + 1, 0, none⟩)))).setCell ⟨b, 4, none⟩ (.slice none 0 0)).drew.setCell ⟨b, 0, none⟩ (.int .u32 1)).setCell ⟨b, 1, none⟩ (.int .i32 0) := by
 have oth : ∀ k, (w.setCell ⟨b, 1, none⟩ (.int .i32 1)).cell? ⟨o, k, none⟩ = w.cell? ⟨o, k, none⟩ := fun k => World.cell?_setCell_other _ ⟨b, 1, none⟩ ⟨o, k, none⟩ _ (fun e => hob (congrArg Addr.block e).symm)
 have oth' : ∀ k, k ≠ 1 → (w.setCell ⟨b, 1, none⟩ (.int .i32 1)).cell? ⟨b, k, none⟩ = w.cell? ⟨b, k, none⟩ := fun k hk => World.cell?_setCell_other _ ⟨b, 1, none⟩ ⟨b, k, none⟩ _ (fun e => hk (congrArg Addr.off e).symm)
 have HB := Lib.hid (buildOnce_is b o (w.setCell ⟨b, 1, none⟩ (.int .i32 1)) x3 ((oth' 3 (by omega)).trans q3) ((oth' 4 (by omega)).trans q) ((oth 0).trans s0) ((oth 1).trans s1) ((oth 2).trans s2) ((oth 3).trans s3) (by simpa using ho) (by simpa using hb) (fun k => by simpa using hz k))
 have hnot : ∀ (x : Bool) (w : World), (Op.unary .not (.bool x)).run Tryz.prog w = .ok (.bool (!x)) w := fun _ _ => rfl
 have hz1 := hz 1
 have HZ := Lib.hid hz
 have H0 := Lib.hid ((oth' 0 (by omega)).trans h0)
 have H1 := Lib.hid (World.cell?_setCell_same w ⟨b, 1, none⟩ (.int .i32 1) h1)
 have HBB := Lib.hid (show b < (w.setCell ⟨b, 1, none⟩ (.int .i32 1)).heap.size by simpa using hb)
 rw [show (w.setCell ⟨b, 1, none⟩ (.int .i32 1)).heap.size = w.heap.size by simp] at HB
 clear oth oth' q3 q s0 s1 s2 s3 hz hob ho hb h0
 go_enter_defers Tryz.func189, Tryz.ntmps189
 go_wp2_with (first | (go_at_call 219; refine (Onc.lock_free ⟨b, 1, none⟩ _ h1 hz1).mono ?_; rintro e w' ⟨rfl, rfl⟩) | (go_at_call 188; refine (load_zero ⟨b, 0, none⟩ _ H0.out).mono ?_; rintro e w' ⟨rfl, rfl⟩) | (go_at_call 155; refine HB.out.mono ?_; rintro e w2 ⟨rfl, W1, hS, hw2⟩; have HS := Lib.hid hS; obtain ⟨_, _, _, _, _, _, hBl⟩ := hS))
 all_goals
  have e0 := (hBl.cell (p := ⟨b, 0, none⟩) HBB.out).trans H0.out
  have e1 := (hBl.cell (p := ⟨b, 1, none⟩) HBB.out).trans H1.out
  have f0 : W1.frozen? ⟨b, 0, none⟩ = false := (hBl.frozen (p := ⟨b, 0, none⟩) HBB.out).trans (by simpa using HZ.out 0)
  have f1 : W1.frozen? ⟨b, 1, none⟩ = false := (hBl.frozen (p := ⟨b, 1, none⟩) HBB.out).trans (by simpa using HZ.out 1)
  subst hw2
  go_wp2
  refine leaves_cons (f := 221) (args := #[.pointer (some ⟨b, 0, none⟩), .bool true]) (by simp) (by simp [go_sem]) ?_
  refine (Onc.store_deferred ⟨b, 0, none⟩ (.int .u32 0) .returning _ ?_ (by simp [f0])).mono ?_
  ·exact (World.cell?_setCell_other _ ⟨b, 4, none⟩ ⟨b, 0, none⟩ _ (by simp)).trans ((World.cell?_setCell_other _ ⟨b, 3, none⟩ ⟨b, 0, none⟩ _ (by simp)).trans e0)
  rintro e u' w'' ⟨rfl, rfl, rfl⟩
  refine leaves_cons (f := 220) (args := #[.pointer (some ⟨b, 1, none⟩)]) (by simp [settle]) (by simp [go_sem]) ?_
  refine (Onc.unlock_deferred ⟨b, 1, none⟩ _ _ ?_ (by simp [f1])).mono ?_
  ·refine (World.cell?_setCell_other _ ⟨b, 0, none⟩ ⟨b, 1, none⟩ _ (by simp)).trans ?_
   rw [World.cell?_drew]
   exact (World.cell?_setCell_other _ ⟨b, 4, none⟩ ⟨b, 1, none⟩ _ (by simp)).trans ((World.cell?_setCell_other _ ⟨b, 3, none⟩ ⟨b, 1, none⟩ _ (by simp)).trans e1)
  rintro e u' w'' ⟨rfl, rfl, rfl⟩
  simp [Leaves, settle, results, Tryz.results189]
  exact ⟨_, HS.out, rfl⟩
theorem Rep.fin {b : Nat} {w W1 w2 : World} {x3 : Value} (hb : b < w.heap.size) (q3 : w.cell? ⟨b, 3, none⟩ = some x3) (hS : Rep.St (w.setCell ⟨b, 1, none⟩ (.int .i32 1)) w.heap.size (w.heap.size + 1) w.heap.size 2 W1)
  (hw2 : w2 = (((W1.setCell ⟨b, 3, none⟩ (.iface 251 (.pointer (some ⟨w.heap.size + 1, 0, none⟩)))).setCell ⟨b, 4, none⟩ (.slice none 0 0)).drew.setCell ⟨b, 0, none⟩ (.int .u32 1)).setCell ⟨b, 1, none⟩ (.int .i32 0)) :
  w2.cell? ⟨b, 3, none⟩ = some (.iface 251 (.pointer (some ⟨w.heap.size + 1, 0, none⟩))) ∧ Rep.Fin w2 (w.heap.size + 1) w.heap.size ∧ Below b w w2 := by
 obtain ⟨f, hA, hf, h34, h92, hO, hBl⟩ := hS
 rw [if_neg (by omega)] at h34 h92
 have d3 : W1.cell? ⟨b, 3, none⟩ = some x3 := (hBl.cell (p := ⟨b, 3, none⟩) (by simpa using hb)).trans ((World.cell?_setCell_other _ ⟨b, 1, none⟩ ⟨b, 3, none⟩ _ (by simp)).trans q3)
 have hk : ∀ k, k ≠ b → w2.heap[k]? = W1.heap[k]? := by
  intro k hk
  rw [hw2]
  exact (Below.heap_setCell _ _ _ k hk).trans ((Below.heap_setCell _ _ _ k hk).trans ((show _ = _ from rfl).trans ((Below.heap_setCell _ _ _ k hk).trans (Below.heap_setCell _ _ _ k hk))))
 have hsz : W1.heap.size = w2.heap.size := by rw [hw2]; simp
 have two : ∀ v x y, Rep.Two W1 w.heap.size (w.heap.size + 1) w.heap.size v x y → Rep.Two w2 0 (w.heap.size + 1) w.heap.size v x y := by
  intro v x y ⟨p, c, e, g1, g2, g3, g4, g5, g6⟩
  have e' := hk p (by omega)
  exact ⟨p, c, e, Nat.zero_le _, by omega, g3, g4, by rw [World.cell?_of_block e']; exact g5, by rw [World.cell?_of_block e']; exact g6⟩
 have ec := hk w.heap.size (by omega)
 refine ⟨?_, ⟨f, hA.of_block (hk _ (by omega)), hf, two _ _ _ h34, two _ _ _ h92, ?_, ?_, ?_⟩, ?_⟩
 ·rw [hw2]
  refine (World.cell?_setCell_other _ ⟨b, 1, none⟩ ⟨b, 3, none⟩ _ (by simp)).trans ((World.cell?_setCell_other _ ⟨b, 0, none⟩ ⟨b, 3, none⟩ _ (by simp)).trans ?_)
  rw [World.cell?_drew]
  exact (World.cell?_setCell_other _ ⟨b, 4, none⟩ ⟨b, 3, none⟩ _ (by simp)).trans (World.cell?_setCell_same _ _ _ d3)
 ·rw [World.cell?_of_block ec]; exact hO.cellAt 0 (by omega)
 ·rw [World.cell?_of_block ec]; exact hO.cellAt 1 (by omega)
 ·have := hA.lt; omega
 ·rw [hw2]
  have hb1 : Below b w (w.setCell ⟨b, 1, none⟩ (.int .i32 1)) := (Below.refl b w).setCell (p := ⟨b, 1, none⟩) (Nat.le_refl b) _
  exact ((((((hb1.trans (hBl.mono (by simp; omega))).setCell (p := ⟨b, 3, none⟩) (Nat.le_refl _) _).setCell (p := ⟨b, 4, none⟩) (Nat.le_refl _) _).drew).setCell (p := ⟨b, 0, none⟩) (Nat.le_refl _) _).setCell (p := ⟨b, 1, none⟩) (Nat.le_refl _) _)
theorem do_is {cp : Nat} (b o : Nat) (w : World) (x3 : Value) (h0 : w.cell? ⟨b, 0, none⟩ = some (.int .u32 0)) (h1 : w.cell? ⟨b, 1, none⟩ = some (.int .i32 0)) (q3 : w.cell? ⟨b, 3, none⟩ = some x3) (q : w.cell? ⟨b, 4, none⟩ = some (.slice (some ⟨o, 0, none⟩) 4 cp))
  (s0 : w.cell? ⟨o, 0, none⟩ = some (.string ⟨#[34]⟩)) (s1 : w.cell? ⟨o, 1, none⟩ = some (.string ⟨#[92, 34]⟩)) (s2 : w.cell? ⟨o, 2, none⟩ = some (.string ⟨#[92]⟩)) (s3 : w.cell? ⟨o, 3, none⟩ = some (.string ⟨#[92, 92]⟩))
  (ho : o < w.heap.size) (hb : b < w.heap.size) (hz : ∀ k, w.frozen? ⟨b, k, none⟩ = false) (hob : o ≠ b) :
  Calls Tryz.prog 154 #[.pointer (some ⟨b, 0, none⟩), .func (.func 155) #[.pointer (some ⟨b, 0, none⟩)] #[]] w fun e w' => e = .returned (.tuple #[]) ∧
   w'.cell? ⟨b, 3, none⟩ = some (.iface 251 (.pointer (some ⟨w.heap.size + 1, 0, none⟩))) ∧ Rep.Fin w' (w.heap.size + 1) w.heap.size ∧ Below b w w' := by
 have HS := Lib.hid (slow_is b o w x3 h0 h1 q3 q s0 s1 s2 s3 ho hb hz hob)
 have hnot : ∀ (x : Bool) (w : World), (Op.unary .not (.bool x)).run Tryz.prog w = .ok (.bool (!x)) w := fun _ _ => rfl
 have HF := Lib.hid (fun W1 w2 h => Rep.fin (W1 := W1) (w2 := w2) hb q3 h)
 clear q3 q s0 s1 s2 s3 ho hb hz hob h1
 go_enter Tryz.func154, Tryz.ntmps154
 go_wp2_with (first | (go_at_call 188; refine (load_zero ⟨b, 0, none⟩ _ h0).mono ?_; rintro e w' ⟨rfl, hw'⟩; subst w') | (go_at_call 189; refine HS.out.mono ?_; rintro e w2 ⟨rfl, W1, hS, hw2⟩; have HG := Lib.hid (HF.out W1 w2 hS hw2); clear hS hw2))
 go_end0
 exact ⟨rfl, HG.out⟩
end Go.Proofs.YtimjmjmpaicdbaaGreatDoor
namespace Go.Proofs.YtimjmjmpaicdbaaGreatDoor
open Go.Shelf
def Lay.countS_ren : Go.Shelf.Ren := ⟨fun | 138 => 322 | 195 => 323 | 218 => 324 | 143 => 171 | 219 => 205 | 217 => 180 | 225 => 229 | 224 => 230 | 267 => 231 | 266 => 217 | 314 => 250 | n => n, fun | 9 => 9 | 3 => 3 | 4 => 4 | 5 => 5 | 0 => 0 | 46 => 227 | 146 => 282 | 51 => 179 | n => n, fun | 1 => 0 | n => n⟩
theorem Lay.countS : Go.Proofs.Lays.n138 Tryz.prog Lay.countS_ren := {
 mixed := by kernel_rfl
 f138 := Tryz.func322.trans (congrArg some (by kernel_rfl))
 f143 := Tryz.func171.trans (congrArg some (by kernel_rfl))
 f195 := Tryz.func323.trans (congrArg some (by kernel_rfl))
 f217 := Tryz.func180.trans (congrArg some (by kernel_rfl))
 f218 := Tryz.func324.trans (congrArg some (by kernel_rfl))
 f219 := Tryz.func205.trans (congrArg some (by kernel_rfl))
 f224 := Tryz.func230.trans (congrArg some (by kernel_rfl))
 f225 := Tryz.func229.trans (congrArg some (by kernel_rfl))
 f266 := Tryz.func217.trans (congrArg some (by kernel_rfl))
 f267 := Tryz.func231.trans (congrArg some (by kernel_rfl))
 f314 := Tryz.func250.trans (congrArg some (by kernel_rfl))
 t0 := Tryz.underlying0
 a0 := Tryz.isAgg0
 z0 := Tryz.sizeOf0
 v0 := Tryz.zeroValue0
 t3 := Tryz.underlying3
 a3 := Tryz.isAgg3
 z3 := Tryz.sizeOf3
 v3 := Tryz.zeroValue3
 t4 := Tryz.underlying4
 a4 := Tryz.isAgg4
 z4 := Tryz.sizeOf4
 v4 := Tryz.zeroValue4
 t5 := Tryz.underlying5
 a5 := Tryz.isAgg5
 z5 := Tryz.sizeOf5
 v5 := Tryz.zeroValue5
 t9 := Tryz.underlying9
 a9 := Tryz.isAgg9
 z9 := Tryz.sizeOf9
 v9 := Tryz.zeroValue9
 t46 := Tryz.underlying227
 a46 := Tryz.isAgg227
 z46 := Tryz.sizeOf227
 v46 := Tryz.zeroValue227
 t51 := Tryz.underlying179
 a51 := Tryz.isAgg179
 z51 := Tryz.sizeOf179
 v51 := Tryz.zeroValue179
 t146 := Tryz.underlying282
 a146 := Tryz.isAgg282
 z146 := Tryz.sizeOf282
 v146 := Tryz.zeroValue282
 g1 := by kernel_rfl }
end Go.Proofs.YtimjmjmpaicdbaaGreatDoor
