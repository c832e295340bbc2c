/- Parts of the proof, no condition: Stb. -/
import Derived.Test.YtmpjnbhdlfneaaaGreatDoorEe3
import Derived.OwnWalk
import Derived.Laws.IdiomCopy
import Derived.Lib.AppendZeros
import Derived.Deep.RegionLaw
import Derived.ArgAppend
import Derived.Deep.MidRow
import Derived.BigRegion
import Derived.Maps.RangeWalk
import Derived.Deep.Cut
set_option linter.unusedSimpArgs false
set_option linter.unusedVariables false
namespace Go.Proofs.YtmpjnbhdlfneaaaGreatDoor
open Go.RowKit
theorem wp_copy_run {P : Program} (w : World) {o : Oper} {a : Act} {K : Act → World → Prop} {Q : Exit → Act → World → Prop} (d s : Operand) (t t' : TypeId)
  (ho : o.op = .call { callee := .builtin .copy, args := #[d, s], argTypes := #[t, t'] }) (v u : Value) (hd : a.eval d = v) (hs : a.eval s = u) {v' : Value} {w' : World}
  (hr : (Builtin.copy_ #[t, t'] o.type #[v, u]).run P w = .ok v' w') (h : K (a.put o.dst v') w') : o.wp P a w K Q := by
 unfold Oper.wp execOp
 simp only [ho, resolve, invoke, builtin, Sem.run_bind, Sem.run_pure, Result.andThen_ok, List.map_toArray, List.map_cons, List.map_nil, hd, hs, hr]
 exact h
theorem step_copy_run {P : Program} {ops : Array Oper} {o : Oper} {a : Act} {w : World} {K : Act → World → Prop} {Q : Exit → Act → World → Prop} {E : Prop}
  (hg : o.guard = none) (d x : Operand) (dT sT : TypeId) (hop : o.op = Op.call { callee := Callee.builtin Builtin.copy, args := #[d, x], argTypes := #[dT, sT] })
  (v u : Value) (hd : a.eval d = v) (hx : a.eval x = u) {v' : Value} {w' : World} (hr : (Builtin.copy_ #[dT, sT] o.type #[v, u]).run P w = .ok v' w') (hK : K (a.put o.dst v') w') :
  if Region.wanted o (yielded ops a.tmps) = true then Oper.wp P o a w K Q else E := by
 have hw : Region.wanted o (yielded ops a.tmps) = true := by simp [Region.wanted, hg]
 rw [if_pos hw]
 exact wp_copy_run w d x dT sT hop v u hd hx hr hK
def OwnC (w : World) (B : Nat) (e : TypeId) (k g n cap : Nat) (xs : List Value) : Prop :=
 ∃ cur, B ≤ g ∧ w.heap[g]? = some (.cells cur e (0, 0)) ∧ n ≤ cap ∧ cap ≤ maxLen ∧ cap * k ≤ cur.size ∧ cur.toList.take (n * k) = xs ∧ xs.length = n * k
section
variable {w : World} {B k g n cap : Nat} {e : TypeId} {xs : List Value}
theorem OwnC.of_own (h : w.ownsRow B e k (.slice (some ⟨g, 0, none⟩) n cap) n xs) : OwnC w B e k g n cap xs := by
 rcases h.2 with ⟨h0, _⟩ | ⟨g', cap', cur, h0, hB, hc, hn, hm, hs, ht⟩
 ·cases h0
 ·cases h0
  exact ⟨cur, hB, hc, hn, hm, by omega, ht, h.1⟩
theorem own_make {cur : Array Value} (hB : B ≤ g) (hc : w.heap[g]? = some (.cells cur e (0, 0))) (hn : n ≤ cap) (hm : cap ≤ maxLen) (hs : cap * k ≤ cur.size) (ht : cur.toList.take (n * k) = xs) : OwnC w B e k g n cap xs := by
 refine ⟨cur, hB, hc, hn, hm, hs, ht, ?_⟩
 rw [← ht, List.length_take, Array.length_toList]
 exact Nat.min_eq_left (Nat.le_trans (Nat.mul_le_mul_right k hn) hs)
theorem OwnC.lt (h : OwnC w B e k g n cap xs) : B ≤ g ∧ g < w.heap.size := by
 obtain ⟨cur, hB, hc, _⟩ := h
 exact ⟨hB, (Array.getElem?_eq_some_iff.1 hc).1⟩
theorem OwnC.of_block {w' : World} (h : OwnC w B e k g n cap xs) (hb : w'.heap[g]? = w.heap[g]?) : OwnC w' B e k g n cap xs := by
 obtain ⟨cur, hB, hc, rest⟩ := h
 exact ⟨cur, hB, hb.trans hc, rest⟩
theorem OwnC.keep {w' : World} (h : OwnC w B e k g n cap xs) (hb : Below w.heap.size w w') : OwnC w' B e k g n cap xs := h.of_block (hb.block g h.lt.2)
theorem OwnC.alloc (h : OwnC w B e k g n cap xs) (o : Obj) : OwnC (w.alloc o) B e k g n cap xs := h.of_block (Below.heap_alloc w o g h.lt.2)
theorem OwnC.cellAt (h : OwnC w B e k g n cap xs) (j : Nat) (hj : j < n * k) : w.cell? ⟨g, j, none⟩ = xs[j]? := by
 obtain ⟨cur, hB, hc, hn, hm, hs, ht, hl⟩ := h
 rw [World.cell?]
 simp only [hc]
 rw [← ht, List.getElem?_take, if_pos hj]
 simp
theorem own_setRow (h : OwnC w B e k g n cap xs) (p : Nat) (cs : List Value) (hf : p + cs.length ≤ n * k) :
  ∃ cur : Array Value, w.heap[g]? = some (.cells cur e (0, 0)) ∧ p + cs.length ≤ cur.size ∧ OwnC (w.setRow g (cur.toList.take p ++ cs ++ cur.toList.drop (p + cs.length)).toArray) B e k g n cap (xs.take p ++ cs ++ xs.drop (p + cs.length)) ∧
    w.grownBy (w.setRow g (cur.toList.take p ++ cs ++ cur.toList.drop (p + cs.length)).toArray) (some g) := by
 obtain ⟨cur, hB, hc, hn, hx, hs, ht, hl⟩ := h
 have hk : n * k ≤ cap * k := Nat.mul_le_mul_right k hn
 have hcl : cur.toList.length = cur.size := Array.length_toList
 refine ⟨cur, hc, by omega, own_make hB (setRow_heap w g cur _ e (0, 0) hc) hn hx ?_ ?_, ?_⟩
 ·simp only [List.size_toArray, List.length_append, List.length_take, List.length_drop, hcl]; omega
 ·have hal : (cur.toList.take p ++ cs).length = p + cs.length := by rw [List.length_append, List.length_take, hcl]; omega
  rw [List.toList_toArray, List.take_append, List.take_of_length_le (by rw [hal]; exact hf), hal, ← List.drop_take, ht]
  congr 2
  rw [← ht, List.take_take, Nat.min_eq_left (by omega)]
 ·refine ⟨rfl, rfl, rfl, by simp, fun j hj hne => setRow_other w g j _ (fun e => hne (by rw [e]))⟩
theorem own_append {P : Program} (h : OwnC w B e k g n cap xs) (t : TypeId) (i : TypeInfo) (ht : P.underlying t = some (.slice e)) (hi : P.info? e = some i) (hsize : i.size = k)
  (a : Addr) (m : Nat) (news : List Value) (hl : news.length = m * k) (hnews : ∀ j u, news[j]? = some u → w.cell? (a.add j) = some u) (h1 : ∀ u ∈ news, u.oneCell' = true) (hroom : n + m ≤ cap) :
  ∃ w', (∀ ty c, (Builtin.append_ #[t, t] ty #[.slice (some ⟨g, 0, none⟩) n cap, .slice (some a) m c]).run P w = .ok (.slice (some ⟨g, 0, none⟩) (n + m) cap) w') ∧ OwnC w' B e k g (n + m) cap (xs ++ news) ∧ w.grownBy w' (some g) := by
 obtain ⟨cur, hB, hg, hnc, hcm, hcs, htake, hxl⟩ := h
 subst hsize
 have hk : (n + m) * i.size ≤ cap * i.size := Nat.mul_le_mul_right _ hroom
 have hka : (n + m) * i.size = n * i.size + m * i.size := Nat.add_mul _ _ _
 have hfit : n * i.size + news.length ≤ cur.size := by rw [hl]; omega
 refine ⟨_, fun ty c => run_append_room (P := P) w t ty e i ht hi g n cap cur hg a m c news hl hnews h1 hroom hfit, own_make hB (setRow_heap w g cur _ e _ hg) hroom hcm ?_ ?_, ⟨rfl, rfl, rfl, by simp, fun j _ hj => setRow_other w g j _ (fun e => hj (by simp [e]))⟩⟩
 ·simp only [List.size_toArray, List.length_append, List.length_take, List.length_drop, Array.length_toList]
  omega
 ·rw [List.toList_toArray, htake]
  exact List.take_left' (by rw [List.length_append, hxl, hl, hka])
theorem own_copy {P : Program} (h : OwnC w B e k g n cap xs) (dT sT : TypeId) (hu : P.underlying dT = some (.slice e)) (hsz : (P.info? e).map (·.size) = some k)
  (p dLen dCap : Nat) (a : Addr) (sLen sCap : Nat) (cs : List Value) (hn : cs.length = Nat.min sLen dLen * k) (hsrc : ∀ j v, cs[j]? = some v → w.cell? (a.add j) = some v) (hfit : p + cs.length ≤ n * k) (h1 : ∀ v ∈ cs, v.oneCell' = true) :
  ∃ w', (∀ ty, (Builtin.copy_ #[dT, sT] ty #[.slice (some ⟨g, p, none⟩) dLen dCap, .slice (some a) sLen sCap]).run P w = .ok (goInt (Nat.min sLen dLen)) w') ∧ OwnC w' B e k g n cap (xs.take p ++ cs ++ xs.drop (p + cs.length)) ∧ w.grownBy w' (some g) := by
 obtain ⟨cur, hc, hl, ho, hg⟩ := own_setRow h p cs hfit
 refine ⟨_, fun ty => ?_, ho, hg⟩
 have hst := run_storeCells_at (P := P) g p e cs 0 cur w hc (by omega) h1
 have hld := run_firstCells_some (P := P) w k (Nat.min sLen dLen) a sLen sCap cs hn hsrc
 rw [Nat.add_zero] at hst
 cases hq : P.info? e with
 | none => rw [hq] at hsz; cases hsz
 | some i =>
   have hi : i.size = k := by rw [hq] at hsz; simpa using hsz
   simp [Builtin.copy_, run_underlying hu, Builtin.lenOf, sizeOf, typeInfo, hq, hi, hld, hst]
end
def OwnV (w : World) (B : Nat) (e : TypeId) (k : Nat) (v : Value) (n : Nat) (xs : List Value) : Prop :=
 (v = .slice none 0 0 ∧ n = 0 ∧ xs = []) ∨ ∃ g cap, v = .slice (some ⟨g, 0, none⟩) n cap ∧ OwnC w B e k g n cap xs
theorem OwnV.of_own {w : World} {B k n : Nat} {e : TypeId} {v : Value} {xs : List Value} (h : w.ownsRow B e k v n xs) : OwnV w B e k v n xs := by
 have h0 := h
 have hl := h.1
 rcases h.2 with ⟨rfl, rfl⟩ | ⟨g, cap, cur, rfl, _⟩
 ·exact .inl ⟨rfl, rfl, List.eq_nil_of_length_eq_zero (by omega)⟩
 ·exact .inr ⟨g, cap, rfl, OwnC.of_own h0⟩
theorem OwnV.len {w : World} {B k n : Nat} {e : TypeId} {v : Value} {xs : List Value} (h : OwnV w B e k v n xs) : xs.length = n * k := by
 rcases h with ⟨_, rfl, rfl⟩ | ⟨g, cap, _, cur, _, _, _, _, _, _, hl⟩
 ·simp
 ·exact hl
theorem OwnV.lt {w : World} {B k n : Nat} {e : TypeId} {v : Value} {xs : List Value} (h : OwnV w B e k v n xs) : ∀ b, v.ownBlock = some b → B ≤ b ∧ b < w.heap.size := by
 rcases h with ⟨rfl, _⟩ | ⟨g, cap, rfl, hc⟩
 ·intro b h; cases h
 ·intro b h; cases h; exact hc.lt
theorem OwnV.keep {w w' : World} {B k n : Nat} {e : TypeId} {v : Value} {xs : List Value} (h : OwnV w B e k v n xs) (hb : Below w.heap.size w w') : OwnV w' B e k v n xs := by
 rcases h with h | ⟨g, cap, h, hc⟩
 ·exact .inl h
 ·exact .inr ⟨g, cap, h, hc.keep hb⟩
theorem OwnV.form {w : World} {B k n : Nat} {e : TypeId} {v : Value} {xs : List Value} (h : OwnV w B e k v n xs) : ∃ a ca, v = .slice a n ca ∧ n ≤ ca ∧ ca ≤ 9223372036854775807 := by
 rcases h with ⟨rfl, rfl, _⟩ | ⟨g, cap, rfl, cur, _, _, hn, hm, _⟩
 ·exact ⟨none, 0, rfl, by omega, by omega⟩
 ·exact ⟨_, _, rfl, hn, hm⟩
theorem frozen_of {w : World} {b : Nat} {c : Array Value} {t : TypeId} (h : w.heap[b]? = some (.cells c t (0, 0))) (o : Nat) : w.frozen? ⟨b, o, none⟩ = false := by simp [World.frozen?, h]
structure Enc (α : Type) where
 k : Nat
 cells : α → List Value
 len : ∀ x, (cells x).length = k
 one : ∀ x, ∀ u ∈ cells x, u.oneCell' = true
namespace Enc
variable {α : Type} (E : Enc α)
def flat (L : List α) : List Value := L.flatMap E.cells
theorem flat_cons (x : α) (L : List α) : E.flat (x :: L) = E.cells x ++ E.flat L := by simp [flat]
theorem flat_len (L : List α) : (E.flat L).length = L.length * E.k := by
 induction L with
 | nil => simp [flat]
 | cons x L ih => rw [flat_cons, List.length_append, List.length_cons, ih, E.len, Nat.succ_mul]; omega
theorem flat_get (L : List α) : ∀ (i : Nat) (x : α), L[i]? = some x → ∀ j, j < E.k → (E.flat L)[i * E.k + j]? = (E.cells x)[j]? := by
 induction L with
 | nil => intro i x h; simp at h
 | cons y L ih =>
   intro i x h j hj
   have hl := E.len y
   cases i with
   | zero =>
     have e : y = x := by simpa using h
     subst e
     rw [flat_cons, Nat.zero_mul, Nat.zero_add, List.getElem?_append_left (by omega)]
   | succ i =>
     rw [List.getElem?_cons_succ] at h
     have he : (i + 1) * E.k + j - (E.cells y).length = i * E.k + j := by rw [hl, Nat.succ_mul]; omega
     rw [flat_cons, List.getElem?_append_right (by rw [hl, Nat.succ_mul]; omega), he, ih i x h j hj]
end Enc
def RowE {α : Type} (E : Enc α) (w : World) (a : Option Addr) (L : List α) : Prop :=
 0 < L.length → ∃ b off, a = some ⟨b, off, none⟩ ∧ b < w.heap.size ∧ ∀ (i : Nat) (x : α), L[i]? = some x → ∀ (j : Nat) (v : Value), (E.cells x)[j]? = some v → w.cell? ⟨b, off + i * E.k + j, none⟩ = some v
theorem RowE.nil {α : Type} (E : Enc α) (w : World) (a : Option Addr) : RowE E w a [] := fun h => absurd h (Nat.lt_irrefl 0)
theorem RowE.keep {α : Type} {E : Enc α} {w w' : World} {a : Option Addr} {L : List α} (h : RowE E w a L) (hb : Below w.heap.size w w') : RowE E w' a L := by
 intro h0
 obtain ⟨b, off, rfl, hlt, hc⟩ := h h0
 exact ⟨b, off, rfl, Nat.lt_of_lt_of_le hlt hb.size, fun i x hx j v hv => (hb.cell (p := ⟨b, off + i * E.k + j, none⟩) hlt).trans (hc i x hx j v hv)⟩
theorem RowE.grown {α : Type} {E : Enc α} {w w' : World} {a : Option Addr} {L : List α} {r : Option Nat} (h : RowE E w a L) (hg : w.grownBy w' r) (hne : 0 < L.length → ∀ x, a = some x → some x.block ≠ r) : RowE E w' a L := by
 intro h0
 obtain ⟨b, off, rfl, hlt, hc⟩ := h h0
 exact ⟨b, off, rfl, Nat.lt_of_lt_of_le hlt hg.size, fun i x hx j v hv => hg.cell (hc i x hx j v hv) (show some b ≠ r from hne h0 ⟨b, off, none⟩ rfl)⟩
theorem RowE.of_own {α : Type} {E : Enc α} {w : World} {B n : Nat} {e : TypeId} {v : Value} {L : List α} (h : OwnV w B e E.k v n (E.flat L)) (hn : n = L.length) :
  ∃ a ca, v = .slice a L.length ca ∧ L.length ≤ ca ∧ ca ≤ 9223372036854775807 ∧ RowE E w a L := by
 subst hn
 rcases h with ⟨rfl, h0, _⟩ | ⟨g, cap, rfl, hc⟩
 ·exact ⟨none, 0, by rw [h0], by omega, by omega, fun h => by omega⟩
 ·obtain ⟨_, _, _, hk, hm, _⟩ := id hc
  refine ⟨_, _, rfl, hk, hm, fun h0 => ⟨g, 0, rfl, hc.lt.2, fun i x hx j v hv => ?_⟩⟩
  have hj : j < E.k := by have := (List.getElem?_eq_some_iff.1 hv).1; rw [E.len] at this; exact this
  have hi := (List.getElem?_eq_some_iff.1 hx).1
  have hb : i * E.k + j < L.length * E.k := by
   have : (i + 1) * E.k ≤ L.length * E.k := Nat.mul_le_mul_right _ hi
   rw [Nat.succ_mul] at this; omega
  rw [Nat.zero_add, hc.cellAt (i * E.k + j) hb, E.flat_get L i x hx j hj, hv]
end Go.Proofs.YtmpjnbhdlfneaaaGreatDoor
namespace Go.Proofs.YtmpjnbhdlfneaaaGreatDoor
namespace Stb
variable {α : Type} (lt : α → α → Prop) (neg : α → α → Bool)
def Fit (x y : α) : Prop := (neg y x = true → lt y x) ∧ (neg y x = false → lt x y)
def Cross (X Y : List α) : Prop := ∀ x, x ∈ X → ∀ y, y ∈ Y → Fit lt neg x y
variable {lt neg}
structure Chs (lt : α → α → Prop) (neg : α → α → Bool) (C : List (List α)) : Prop where
 each : ∀ X, X ∈ C → X.Pairwise lt
 cross : C.Pairwise (Cross lt neg)
theorem Cross.flat {C : List (List α)} {Y : List α} (h : ∀ X, X ∈ C → Cross lt neg X Y) : Cross lt neg C.flatten Y := by
 intro x hx y hy
 obtain ⟨X, hX, hx⟩ := List.mem_flatten.1 hx
 exact h X hX x hx y hy
theorem Chs.merge {D C : List (List α)} {X Y M : List α} (h : Chs lt neg (D ++ X :: Y :: C)) (hp : List.Perm M (X ++ Y)) (hs : M.Pairwise lt) : Chs lt neg (D ++ [M] ++ C) := by
 have hc := h.cross
 rw [List.pairwise_append] at hc
 obtain ⟨c1, c2, c3⟩ := hc
 rw [List.pairwise_cons, List.pairwise_cons] at c2
 have hm : ∀ x, x ∈ M → x ∈ X ∨ x ∈ Y := fun x hx => List.mem_append.1 (hp.mem_iff.1 hx)
 refine ⟨fun Z hZ => ?_, ?_⟩
 ·rw [List.append_assoc] at hZ
  rcases List.mem_append.1 hZ with a | a
  ·exact h.each Z (List.mem_append_left _ a)
  ·rcases List.mem_cons.1 a with rfl | a
   ·exact hs
   ·exact h.each Z (List.mem_append_right _ (List.mem_cons_of_mem _ (List.mem_cons_of_mem _ a)))
 ·rw [List.append_assoc, List.pairwise_append]
  refine ⟨c1, List.pairwise_cons.2 ⟨fun Z hZ x hx => ?_, c2.2.2⟩, fun Z hZ W hW => ?_⟩
  ·rcases hm x hx with a | a
   ·exact c2.1 Z (List.mem_cons_of_mem _ hZ) x a
   ·exact c2.2.1 Z hZ x a
  ·rcases List.mem_cons.1 hW with rfl | hW
   ·intro x hx y hy
    rcases hm y hy with a | a
    ·exact c3 Z hZ X (by simp) x hx y a
    ·exact c3 Z hZ Y (by simp) x hx y a
   ·exact c3 Z hZ W (List.mem_cons_of_mem _ (List.mem_cons_of_mem _ hW))
theorem Chs.two {D C : List (List α)} {X Y : List α} (h : Chs lt neg (D ++ X :: Y :: C)) : X.Pairwise lt ∧ Y.Pairwise lt ∧ Cross lt neg X Y := by
 have hc := h.cross
 rw [List.pairwise_append, List.pairwise_cons] at hc
 exact ⟨h.each X (by simp), h.each Y (by simp), hc.2.1.1 Y (by simp)⟩
def Len (s : Nat) (C : List (List α)) : Prop := ∃ D X, C = D ++ [X] ∧ (∀ Y, Y ∈ D → Y.length = s) ∧ X.length ≤ s
theorem flat_len {D : List (List α)} {s : Nat} (h : ∀ Y, Y ∈ D → Y.length = s) : D.flatten.length = D.length * s := by
 induction D with
 | nil => simp
 | cons X D ih => rw [List.flatten_cons, List.length_append, List.length_cons, ih (fun Y hY => h Y (List.mem_cons_of_mem _ hY)), h X (by simp), Nat.succ_mul]; omega
theorem Len.two {s : Nat} {C : List (List α)} (h : Len s C) (hl : 2 * s ≤ C.flatten.length) (hs : 0 < s) : ∃ X Y C', C = X :: Y :: C' ∧ X.length = s ∧ Y.length = s ∧ (C' = [] ∨ Len s C') := by
 obtain ⟨D, X, rfl, hD, hX⟩ := h
 rw [List.flatten_append, List.length_append, flat_len hD] at hl
 simp only [List.flatten_cons, List.flatten_nil, List.append_nil] at hl
 match D, hD, hl with
 | [], _, hl => simp at hl; omega
 | [Y], hD, hl => exact ⟨Y, X, [], rfl, hD Y (by simp), by simp at hl; omega, .inl rfl⟩
 | Y :: Z :: D', hD, hl => exact ⟨Y, Z, D' ++ [X], rfl, hD Y (by simp), hD Z (by simp), .inr ⟨D', X, rfl, fun W hW => hD W (by simp [hW]), hX⟩⟩
theorem Len.rest {s : Nat} {C : List (List α)} (h : C = [] ∨ Len s C) (hl : C.flatten.length < 2 * s) (h1 : s < C.flatten.length) : ∃ X Y, C = [X, Y] ∧ X.length = s ∧ 0 < Y.length ∧ Y.length < s := by
 rcases h with rfl | ⟨D, X, rfl, hD, hX⟩
 ·simp at h1
 ·rw [List.flatten_append, List.length_append, flat_len hD] at hl h1
  simp only [List.flatten_cons, List.flatten_nil, List.append_nil] at hl h1
  match D, hD, hl, h1 with
  | [], _, hl, h1 => simp at hl h1; omega
  | [Y], hD, hl, h1 => exact ⟨Y, X, rfl, hD Y (by simp), by simp at h1; omega, by simp at hl; omega⟩
  | Y :: Z :: D', hD, hl, h1 =>
    exfalso
    simp only [List.length_cons] at hl
    have : 2 * s ≤ (D'.length + 1 + 1) * s := Nat.mul_le_mul_right s (by omega)
    omega
theorem Len.last {s : Nat} {C : List (List α)} (h : C = [] ∨ Len s C) (h1 : C.flatten.length ≤ s) (hs : 0 < s) : C = [] ∨ (∃ X, C = [X] ∧ X.length ≤ s) ∨ ∃ X, C = [X, []] ∧ X.length = s := by
 rcases h with rfl | ⟨D, X, rfl, hD, hX⟩
 ·exact .inl rfl
 ·rw [List.flatten_append, List.length_append, flat_len hD] at h1
  simp only [List.flatten_cons, List.flatten_nil, List.append_nil] at h1
  match D, hD, h1 with
  | [], _, h1 => exact .inr (.inl ⟨X, rfl, hX⟩)
  | [Y], hD, h1 =>
    have : X.length = 0 := by simp at h1; omega
    obtain rfl := List.eq_nil_of_length_eq_zero this
    exact .inr (.inr ⟨Y, rfl, hD Y (by simp)⟩)
  | Y :: Z :: D', hD, h1 =>
    exfalso
    simp only [List.length_cons] at h1
    have : 2 * s ≤ (D'.length + 1 + 1) * s := Nat.mul_le_mul_right s (by omega)
    omega
theorem Chs.sorted {s : Nat} {C : List (List α)} (h : Chs lt neg C) (hL : Len s C) (h1 : C.flatten.length ≤ s) (hs : 0 < s) : C.flatten.Pairwise lt := by
 rcases Len.last (.inr hL) h1 hs with rfl | ⟨X, rfl, _⟩ | ⟨X, rfl, _⟩
 ·simp
 ·simpa using h.each X (by simp)
 ·simpa using h.each X (by simp)
end Stb
end Go.Proofs.YtmpjnbhdlfneaaaGreatDoor
namespace Go.Proofs.YtmpjnbhdlfneaaaGreatDoor
open Go.RowKit
structure SRow {α : Type} (E : Enc α) (w : World) (B : Nat) (e : TypeId) (g cap n : Nat) (L : List α) : Prop where
 own : OwnC w B e E.k g n cap (E.flat L)
 len : L.length = n
namespace SRow
variable {α : Type} {E : Enc α} {w w' : World} {B g cap n : Nat} {e : TypeId} {L : List α}
theorem keep (h : SRow E w B e g cap n L) (hb : Below w.heap.size w w') : SRow E w' B e g cap n L := ⟨h.own.keep hb, h.len⟩
theorem range (h : SRow E w B e g cap n L) {p : Nat} {x : α} (hp : L[p]? = some x) : w.rangeAt g (p * E.k) (E.cells x) := by
 intro j v hv
 have hj : j < E.k := by have := (List.getElem?_eq_some_iff.1 hv).1; rw [E.len] at this; exact this
 have hi := (List.getElem?_eq_some_iff.1 hp).1
 have hl := h.len
 have hb : p * E.k + j < n * E.k := by
  have : (p + 1) * E.k ≤ n * E.k := Nat.mul_le_mul_right _ (by omega)
  rw [Nat.succ_mul] at this; omega
 rw [h.own.cellAt (p * E.k + j) hb, E.flat_get L p x hp j hj, hv]
end SRow
namespace SRow
variable {α : Type} {E : Enc α} {w w' : World} {B g cap n : Nat} {e : TypeId} {L : List α}
theorem drew (h : SRow E w B e g cap n L) : SRow E w.drew B e g cap n L := ⟨h.own, h.len⟩
end SRow
end Go.Proofs.YtmpjnbhdlfneaaaGreatDoor
namespace Go.Proofs.YtmpjnbhdlfneaaaGreatDoor
namespace Stb
variable {α : Type}
variable {lt : α → α → Prop} {neg : α → α → Bool}
end Stb
end Go.Proofs.YtmpjnbhdlfneaaaGreatDoor
namespace Go.Proofs.YtmpjnbhdlfneaaaGreatDoor
open Go.RowKit Go.Sort
section
variable {P : Program} {ops : Array Oper} {Q : Exit → Act → World → Prop} {md : Region.Mode} {C : World → Prop} {m : Nat}
variable {f : Nat} {l : Array Bool} {a : Act} {w : World} {oi : Oper}
end





namespace Stb
variable {α : Type} {lt : α → α → Prop} {neg : α → α → Bool}
end Stb

end Go.Proofs.YtmpjnbhdlfneaaaGreatDoor
