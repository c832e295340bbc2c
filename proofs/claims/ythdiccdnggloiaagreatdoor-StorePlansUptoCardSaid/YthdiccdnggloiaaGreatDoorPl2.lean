/- Parts of the proof, no condition: Stb. -/
import Derived.Test.YthdiccdnggloiaaGreatDoorPl1
import Derived.OwnWalk
import Derived.Laws.IdiomCopy
import Derived.Lib.AppendZeros
import Derived.Deep.RegionLaw
import Derived.ArgAppend
import Derived.Deep.MidRow
import Derived.BigRegion
import Derived.Maps.RangeWalk
import Derived.Deep.Cut
set_option linter.unusedSimpArgs false
set_option linter.unusedVariables false
namespace Go.Proofs.YthdiccdnggloiaaGreatDoor
open Go.RowKit
theorem wp_copy_run {P : Program} (w : World) {o : Oper} {a : Act} {K : Act → World → Prop} {Q : Exit → Act → World → Prop} (d s : Operand) (t t' : TypeId)
  (ho : o.op = .call { callee := .builtin .copy, args := #[d, s], argTypes := #[t, t'] }) (v u : Value) (hd : a.eval d = v) (hs : a.eval s = u) {v' : Value} {w' : World}
  (hr : (Builtin.copy_ #[t, t'] o.type #[v, u]).run P w = .ok v' w') (h : K (a.put o.dst v') w') : o.wp P a w K Q := by
 unfold Oper.wp execOp
 simp only [ho, resolve, invoke, builtin, Sem.run_bind, Sem.run_pure, Result.andThen_ok, List.map_toArray, List.map_cons, List.map_nil, hd, hs, hr]
 exact h
theorem wpList_copy_run {P : Program} (w : World) {ops : Array Oper} {rest : List Oper} {o : Oper} {a : Act} {Q : Exit → Act → World → Prop} (hgd : o.guard = none) (d s : Operand) (t t' : TypeId)
  (ho : o.op = .call { callee := .builtin .copy, args := #[d, s], argTypes := #[t, t'] }) (v u : Value) (hd : a.eval d = v) (hs : a.eval s = u) {v' : Value} {w' : World}
  (hr : (Builtin.copy_ #[t, t'] o.type #[v, u]).run P w = .ok v' w') (h : wpList P ops Q rest (a.put o.dst v') w') : wpList P ops Q (o :: rest) a w :=
 wpList_plain hgd fun _ hK => wp_copy_run w d s t t' ho v u hd hs hr (hK _ _ h)
theorem step_copy_run {P : Program} {ops : Array Oper} {o : Oper} {a : Act} {w : World} {K : Act → World → Prop} {Q : Exit → Act → World → Prop} {E : Prop}
  (hg : o.guard = none) (d x : Operand) (dT sT : TypeId) (hop : o.op = Op.call { callee := Callee.builtin Builtin.copy, args := #[d, x], argTypes := #[dT, sT] })
  (v u : Value) (hd : a.eval d = v) (hx : a.eval x = u) {v' : Value} {w' : World} (hr : (Builtin.copy_ #[dT, sT] o.type #[v, u]).run P w = .ok v' w') (hK : K (a.put o.dst v') w') :
  if Region.wanted o (yielded ops a.tmps) = true then Oper.wp P o a w K Q else E := by
 have hw : Region.wanted o (yielded ops a.tmps) = true := by simp [Region.wanted, hg]
 rw [if_pos hw]
 exact wp_copy_run w d x dT sT hop v u hd hx hr hK
theorem step_append_run {P : Program} {ops : Array Oper} {o : Oper} {a : Act} {w : World} {K : Act → World → Prop} {Q : Exit → Act → World → Prop} {E : Prop}
  (hg : o.guard = none) (s x : Operand) (t tn : TypeId) (hop : o.op = Op.call { callee := Callee.builtin Builtin.append, args := #[s, x], argTypes := #[t, tn] })
  (v u : Value) (hs : a.eval s = v) (hx : a.eval x = u) {v' : Value} {w' : World} (hr : (Builtin.append_ #[t, tn] o.type #[v, u]).run P w = .ok v' w') (hK : K (a.put o.dst v') w') :
  if Region.wanted o (yielded ops a.tmps) = true then Oper.wp P o a w K Q else E := by
 have hw : Region.wanted o (yielded ops a.tmps) = true := by simp [Region.wanted, hg]
 rw [if_pos hw]
 exact Lib.wp_append_run w s x t tn hop v u hs hx v' w' hr hK
theorem wp_clear_run {P : Program} (w : World) {o : Oper} {a : Act} {K : Act → World → Prop} {Q : Exit → Act → World → Prop} (x : Operand) (t : TypeId)
  (ho : o.op = .call { callee := .builtin .clear, args := #[x], argTypes := #[t] }) (v : Value) (hx : a.eval x = v) {v' : Value} {w' : World}
  (hr : (Builtin.clear_ #[t] o.type #[v]).run P w = .ok v' w') (h : K (a.put o.dst v') w') : o.wp P a w K Q := by
 unfold Oper.wp execOp
 simp only [ho, resolve, invoke, builtin, Sem.run_bind, Sem.run_pure, Result.andThen_ok, List.map_toArray, List.map_cons, List.map_nil, hx, hr]
 exact h
theorem wpList_clear_run {P : Program} (w : World) {ops : Array Oper} {rest : List Oper} {o : Oper} {a : Act} {Q : Exit → Act → World → Prop} (hgd : o.guard = none) (x : Operand) (t : TypeId)
  (ho : o.op = .call { callee := .builtin .clear, args := #[x], argTypes := #[t] }) (v : Value) (hx : a.eval x = v) {v' : Value} {w' : World}
  (hr : (Builtin.clear_ #[t] o.type #[v]).run P w = .ok v' w') (h : wpList P ops Q rest (a.put o.dst v') w') : wpList P ops Q (o :: rest) a w :=
 wpList_plain hgd fun _ hK => wp_clear_run w x t ho v hx hr (hK _ _ h)
def OwnC (w : World) (B : Nat) (e : TypeId) (k g n cap : Nat) (xs : List Value) : Prop :=
 ∃ cur, B ≤ g ∧ w.heap[g]? = some (.cells cur e (0, 0)) ∧ n ≤ cap ∧ cap ≤ maxLen ∧ cap * k ≤ cur.size ∧ cur.toList.take (n * k) = xs ∧ xs.length = n * k
section
variable {w : World} {B k g n cap : Nat} {e : TypeId} {xs : List Value}
theorem OwnC.of_own (h : w.ownsRow B e k (.slice (some ⟨g, 0, none⟩) n cap) n xs) : OwnC w B e k g n cap xs := by
 rcases h.2 with ⟨h0, _⟩ | ⟨g', cap', cur, h0, hB, hc, hn, hm, hs, ht⟩
 ·cases h0
 ·cases h0
  exact ⟨cur, hB, hc, hn, hm, by omega, ht, h.1⟩
theorem own_make {cur : Array Value} (hB : B ≤ g) (hc : w.heap[g]? = some (.cells cur e (0, 0))) (hn : n ≤ cap) (hm : cap ≤ maxLen) (hs : cap * k ≤ cur.size) (ht : cur.toList.take (n * k) = xs) : OwnC w B e k g n cap xs := by
 refine ⟨cur, hB, hc, hn, hm, hs, ht, ?_⟩
 rw [← ht, List.length_take, Array.length_toList]
 exact Nat.min_eq_left (Nat.le_trans (Nat.mul_le_mul_right k hn) hs)
theorem OwnC.clip (h : OwnC w B e k g n cap xs) : OwnC w B e k g n n xs := by
 obtain ⟨cur, hB, hc, hn, hm, hs, ht, hl⟩ := h
 exact ⟨cur, hB, hc, Nat.le_refl _, by omega, Nat.le_trans (Nat.mul_le_mul_right k hn) hs, ht, hl⟩
theorem OwnC.down {B' : Nat} (h : OwnC w B e k g n cap xs) (hb : B' ≤ B) : OwnC w B' e k g n cap xs := by
 obtain ⟨cur, hB, rest⟩ := h
 exact ⟨cur, by omega, rest⟩
theorem OwnC.lt (h : OwnC w B e k g n cap xs) : B ≤ g ∧ g < w.heap.size := by
 obtain ⟨cur, hB, hc, _⟩ := h
 exact ⟨hB, (Array.getElem?_eq_some_iff.1 hc).1⟩
theorem OwnC.of_block {w' : World} (h : OwnC w B e k g n cap xs) (hb : w'.heap[g]? = w.heap[g]?) : OwnC w' B e k g n cap xs := by
 obtain ⟨cur, hB, hc, rest⟩ := h
 exact ⟨cur, hB, hb.trans hc, rest⟩
theorem OwnC.keep {w' : World} (h : OwnC w B e k g n cap xs) (hb : Below w.heap.size w w') : OwnC w' B e k g n cap xs := h.of_block (hb.block g h.lt.2)
theorem OwnC.alloc (h : OwnC w B e k g n cap xs) (o : Obj) : OwnC (w.alloc o) B e k g n cap xs := h.of_block (Below.heap_alloc w o g h.lt.2)
theorem OwnC.cellAt (h : OwnC w B e k g n cap xs) (j : Nat) (hj : j < n * k) : w.cell? ⟨g, j, none⟩ = xs[j]? := by
 obtain ⟨cur, hB, hc, hn, hm, hs, ht, hl⟩ := h
 rw [World.cell?]
 simp only [hc]
 rw [← ht, List.getElem?_take, if_pos hj]
 simp
theorem own_less (h : OwnC w B e k g n cap xs) {m : Nat} (hm : m ≤ n) : OwnC w B e k g m cap (xs.take (m * k)) := by
 obtain ⟨cur, hB, hc, hn, hx, hs, ht, hl⟩ := h
 refine own_make hB hc (by omega) hx hs ?_
 rw [← ht, List.take_take, Nat.min_eq_left (Nat.mul_le_mul_right k hm)]
theorem own_more (h : OwnC w B e k g n cap xs) (hr : n + 1 ≤ cap) : ∃ tail : List Value, tail.length = k ∧ OwnC w B e k g (n + 1) cap (xs ++ tail) := by
 obtain ⟨cur, hB, hc, hn, hx, hs, ht, hl⟩ := h
 have hk : (n + 1) * k ≤ cap * k := Nat.mul_le_mul_right k hr
 have hk1 : (n + 1) * k = n * k + k := Nat.succ_mul n k
 refine ⟨(cur.toList.drop (n * k)).take k, ?_, own_make hB hc hr hx hs ?_⟩
 ·rw [List.length_take, List.length_drop, Array.length_toList]; omega
 ·rw [hk1, List.take_add, ht]
theorem own_setRow (h : OwnC w B e k g n cap xs) (p : Nat) (cs : List Value) (hf : p + cs.length ≤ n * k) :
  ∃ cur : Array Value, w.heap[g]? = some (.cells cur e (0, 0)) ∧ p + cs.length ≤ cur.size ∧ OwnC (w.setRow g (cur.toList.take p ++ cs ++ cur.toList.drop (p + cs.length)).toArray) B e k g n cap (xs.take p ++ cs ++ xs.drop (p + cs.length)) ∧
    w.grownBy (w.setRow g (cur.toList.take p ++ cs ++ cur.toList.drop (p + cs.length)).toArray) (some g) := by
 obtain ⟨cur, hB, hc, hn, hx, hs, ht, hl⟩ := h
 have hk : n * k ≤ cap * k := Nat.mul_le_mul_right k hn
 have hcl : cur.toList.length = cur.size := Array.length_toList
 refine ⟨cur, hc, by omega, own_make hB (setRow_heap w g cur _ e (0, 0) hc) hn hx ?_ ?_, ?_⟩
 ·simp only [List.size_toArray, List.length_append, List.length_take, List.length_drop, hcl]; omega
 ·have hal : (cur.toList.take p ++ cs).length = p + cs.length := by rw [List.length_append, List.length_take, hcl]; omega
  rw [List.toList_toArray, List.take_append, List.take_of_length_le (by rw [hal]; exact hf), hal, ← List.drop_take, ht]
  congr 2
  rw [← ht, List.take_take, Nat.min_eq_left (by omega)]
 ·refine ⟨rfl, rfl, rfl, by simp, fun j hj hne => setRow_other w g j _ (fun e => hne (by rw [e]))⟩
theorem own_append {P : Program} (h : OwnC w B e k g n cap xs) (t : TypeId) (i : TypeInfo) (ht : P.underlying t = some (.slice e)) (hi : P.info? e = some i) (hsize : i.size = k)
  (a : Addr) (m : Nat) (news : List Value) (hl : news.length = m * k) (hnews : ∀ j u, news[j]? = some u → w.cell? (a.add j) = some u) (h1 : ∀ u ∈ news, u.oneCell' = true) (hroom : n + m ≤ cap) :
  ∃ w', (∀ ty c, (Builtin.append_ #[t, t] ty #[.slice (some ⟨g, 0, none⟩) n cap, .slice (some a) m c]).run P w = .ok (.slice (some ⟨g, 0, none⟩) (n + m) cap) w') ∧ OwnC w' B e k g (n + m) cap (xs ++ news) ∧ w.grownBy w' (some g) := by
 obtain ⟨cur, hB, hg, hnc, hcm, hcs, htake, hxl⟩ := h
 subst hsize
 have hk : (n + m) * i.size ≤ cap * i.size := Nat.mul_le_mul_right _ hroom
 have hka : (n + m) * i.size = n * i.size + m * i.size := Nat.add_mul _ _ _
 have hfit : n * i.size + news.length ≤ cur.size := by rw [hl]; omega
 refine ⟨_, fun ty c => run_append_room (P := P) w t ty e i ht hi g n cap cur hg a m c news hl hnews h1 hroom hfit, own_make hB (setRow_heap w g cur _ e _ hg) hroom hcm ?_ ?_, ⟨rfl, rfl, rfl, by simp, fun j _ hj => setRow_other w g j _ (fun e => hj (by simp [e]))⟩⟩
 ·simp only [List.size_toArray, List.length_append, List.length_take, List.length_drop, Array.length_toList]
  omega
 ·rw [List.toList_toArray, htake]
  exact List.take_left' (by rw [List.length_append, hxl, hl, hka])
theorem own_copy {P : Program} (h : OwnC w B e k g n cap xs) (dT sT : TypeId) (hu : P.underlying dT = some (.slice e)) (hsz : (P.info? e).map (·.size) = some k)
  (p dLen dCap : Nat) (a : Addr) (sLen sCap : Nat) (cs : List Value) (hn : cs.length = Nat.min sLen dLen * k) (hsrc : ∀ j v, cs[j]? = some v → w.cell? (a.add j) = some v) (hfit : p + cs.length ≤ n * k) (h1 : ∀ v ∈ cs, v.oneCell' = true) :
  ∃ w', (∀ ty, (Builtin.copy_ #[dT, sT] ty #[.slice (some ⟨g, p, none⟩) dLen dCap, .slice (some a) sLen sCap]).run P w = .ok (goInt (Nat.min sLen dLen)) w') ∧ OwnC w' B e k g n cap (xs.take p ++ cs ++ xs.drop (p + cs.length)) ∧ w.grownBy w' (some g) := by
 obtain ⟨cur, hc, hl, ho, hg⟩ := own_setRow h p cs hfit
 refine ⟨_, fun ty => ?_, ho, hg⟩
 have hst := run_storeCells_at (P := P) g p e cs 0 cur w hc (by omega) h1
 have hld := run_firstCells_some (P := P) w k (Nat.min sLen dLen) a sLen sCap cs hn hsrc
 rw [Nat.add_zero] at hst
 cases hq : P.info? e with
 | none => rw [hq] at hsz; cases hsz
 | some i =>
   have hi : i.size = k := by rw [hq] at hsz; simpa using hsz
   simp [Builtin.copy_, run_underlying hu, Builtin.lenOf, sizeOf, typeInfo, hq, hi, hld, hst]
theorem own_clear {P : Program} (h : OwnC w B e k g n cap xs) (t : TypeId) (ht : P.underlying t = some (.slice e)) (z : Value) (hz : ∀ w, (zeroValue e).run P w = .ok z w) (hzs : z.cells.size = k) (h1 : ∀ v ∈ z.cells.toList, v.oneCell' = true)
  (p m : Nat) (hm : 0 < m) (hp : p + m * k = n * k) :
  ∃ w', (∀ ty c, (Builtin.clear_ #[t] ty #[.slice (some ⟨g, p, none⟩) m c]).run P w = .ok (.tuple #[]) w') ∧ (∃ zs, OwnC w' B e k g n cap (xs.take p ++ zs)) ∧ w.grownBy w' (some g) := by
 have hzl : (Builtin.zeroCells z.cells m).toList.length = m * k := by rw [← hzs]; simp [Builtin.zeroCells]
 have hz1 : ∀ v ∈ (Builtin.zeroCells z.cells m).toList, v.oneCell' = true := by
  intro v hv
  refine h1 v ?_
  simp [Builtin.zeroCells] at hv
  obtain ⟨i, hi, rfl⟩ := hv
  have hp : 0 < z.cells.size := by
   rcases Nat.eq_zero_or_pos z.cells.size with h0 | h0
   ·rw [h0] at hi; simp at hi
   ·exact h0
  have hlt : i % z.cells.size < z.cells.size := Nat.mod_lt _ hp
  rw [getElem!_pos z.cells _ hlt]
  simp
 obtain ⟨cur, hc, hl, ho, hg⟩ := own_setRow h p (Builtin.zeroCells z.cells m).toList (by rw [hzl]; omega)
 refine ⟨_, fun ty c => ?_, ⟨(Builtin.zeroCells z.cells m).toList ++ xs.drop (p + (Builtin.zeroCells z.cells m).toList.length), by rw [← List.append_assoc]; exact ho⟩, hg⟩
 have hst := run_storeCells_at (P := P) g p e (Builtin.zeroCells z.cells m).toList 0 cur w hc (by omega) hz1
 rw [Nat.add_zero] at hst
 obtain ⟨m', rfl⟩ : ∃ m', m = m' + 1 := ⟨m - 1, by omega⟩
 simp [Builtin.clear_, run_underlying ht, hz, hst]
end
def OwnV (w : World) (B : Nat) (e : TypeId) (k : Nat) (v : Value) (n : Nat) (xs : List Value) : Prop :=
 (v = .slice none 0 0 ∧ n = 0 ∧ xs = []) ∨ ∃ g cap, v = .slice (some ⟨g, 0, none⟩) n cap ∧ OwnC w B e k g n cap xs
theorem OwnV.of_own {w : World} {B k n : Nat} {e : TypeId} {v : Value} {xs : List Value} (h : w.ownsRow B e k v n xs) : OwnV w B e k v n xs := by
 have h0 := h
 have hl := h.1
 rcases h.2 with ⟨rfl, rfl⟩ | ⟨g, cap, cur, rfl, _⟩
 ·exact .inl ⟨rfl, rfl, List.eq_nil_of_length_eq_zero (by omega)⟩
 ·exact .inr ⟨g, cap, rfl, OwnC.of_own h0⟩
theorem OwnV.len {w : World} {B k n : Nat} {e : TypeId} {v : Value} {xs : List Value} (h : OwnV w B e k v n xs) : xs.length = n * k := by
 rcases h with ⟨_, rfl, rfl⟩ | ⟨g, cap, _, cur, _, _, _, _, _, _, hl⟩
 ·simp
 ·exact hl
theorem OwnV.lt {w : World} {B k n : Nat} {e : TypeId} {v : Value} {xs : List Value} (h : OwnV w B e k v n xs) : ∀ b, v.ownBlock = some b → B ≤ b ∧ b < w.heap.size := by
 rcases h with ⟨rfl, _⟩ | ⟨g, cap, rfl, hc⟩
 ·intro b h; cases h
 ·intro b h; cases h; exact hc.lt
theorem OwnV.keep {w w' : World} {B k n : Nat} {e : TypeId} {v : Value} {xs : List Value} (h : OwnV w B e k v n xs) (hb : Below w.heap.size w w') : OwnV w' B e k v n xs := by
 rcases h with h | ⟨g, cap, h, hc⟩
 ·exact .inl h
 ·exact .inr ⟨g, cap, h, hc.keep hb⟩
theorem OwnV.form {w : World} {B k n : Nat} {e : TypeId} {v : Value} {xs : List Value} (h : OwnV w B e k v n xs) : ∃ a ca, v = .slice a n ca ∧ n ≤ ca ∧ ca ≤ 9223372036854775807 := by
 rcases h with ⟨rfl, rfl, _⟩ | ⟨g, cap, rfl, cur, _, _, hn, hm, _⟩
 ·exact ⟨none, 0, rfl, by omega, by omega⟩
 ·exact ⟨_, _, rfl, hn, hm⟩
theorem OwnV.clip {w : World} {B k n ca : Nat} {e : TypeId} {a : Option Addr} {xs : List Value} (h : OwnV w B e k (.slice a n ca) n xs) : OwnV w B e k (.slice a n n) n xs := by
 rcases h with ⟨h0, rfl, rfl⟩ | ⟨g, cap, h0, hc⟩
 ·cases h0; exact .inl ⟨rfl, rfl, rfl⟩
 ·cases h0; exact .inr ⟨g, n, rfl, hc.clip⟩
theorem ins_shift {xs tail ys : List Value} {p k N : Nat} (hx : xs.length = N) (ht : tail.length = k) (hy : ys.length = k) (hp : p ≤ N) :
  (((xs ++ tail).take (p + k) ++ xs.drop p ++ (xs ++ tail).drop (p + k + (xs.drop p).length)).take p ++ ys ++ ((xs ++ tail).take (p + k) ++ xs.drop p ++ (xs ++ tail).drop (p + k + (xs.drop p).length)).drop (p + ys.length)) = xs.take p ++ ys ++ xs.drop p := by
 have hl : (xs ++ tail).length = N + k := by rw [List.length_append, hx, ht]
 have hd : (xs.drop p).length = N - p := by rw [List.length_drop, hx]
 have h1 : (xs ++ tail).drop (p + k + (xs.drop p).length) = [] := List.drop_eq_nil_of_le (by rw [hl, hd]; omega)
 have h2 : ((xs ++ tail).take (p + k)).length = p + k := by rw [List.length_take, hl]; omega
 rw [h1, List.append_nil, hy, List.drop_left' h2, List.take_append_of_le_length (by rw [h2]; omega), List.take_take, Nat.min_eq_left (by omega), List.take_append_of_le_length (by rw [hx]; exact hp)]
theorem ins_grow {xs zs ys : List Value} {p k N : Nat} (hx : xs.length = N) (hz : zs.length = N - p + k) (hy : ys.length = k) (hp : p ≤ N) :
  (((xs.take p ++ zs).take p ++ ys ++ (xs.take p ++ zs).drop (p + ys.length)).take (p + k) ++ xs.drop p ++ ((xs.take p ++ zs).take p ++ ys ++ (xs.take p ++ zs).drop (p + ys.length)).drop (p + k + (xs.drop p).length)) = xs.take p ++ ys ++ xs.drop p := by
 have ht : (xs.take p).length = p := by rw [List.length_take, hx]; omega
 have hd : (xs.drop p).length = N - p := by rw [List.length_drop, hx]
 have h1 : (xs.take p ++ zs).take p = xs.take p := List.take_left' ht
 have h2 : (xs.take p ++ ys).length = p + k := by rw [List.length_append, ht, hy]
 have h3 : ((xs.take p ++ zs).drop (p + ys.length)).length = N - p := by rw [List.length_drop, List.length_append, ht, hz, hy]; omega
 have h4 : (xs.take p ++ ys ++ (xs.take p ++ zs).drop (p + ys.length)).drop (p + k + (xs.drop p).length) = [] := List.drop_eq_nil_of_le (by rw [List.length_append, h2, h3, hd]; omega)
 rw [h1, List.take_left' h2, h4, List.append_nil]
def OwnPost (w : World) (B : Nat) (e : TypeId) (k : Nat) (v : Value) (n : Nat) (xs : List Value) (r : Ending) (w' : World) : Prop :=
 ∃ g cap, r = .returned (.slice (some ⟨g, 0, none⟩) n cap) ∧ OwnC w' B e k g n cap xs ∧ w.grownBy w' v.ownBlock ∧ NewOr w v.ownBlock g
theorem shape_of {w : World} {b : Nat} {c : Array Value} {t : TypeId} (h : w.heap[b]? = some (.cells c t (0, 0))) : w.shape? b = some (t, c.size) := by simp [World.shape?, h]
theorem frozen_of {w : World} {b : Nat} {c : Array Value} {t : TypeId} (h : w.heap[b]? = some (.cells c t (0, 0))) (o : Nat) : w.frozen? ⟨b, o, none⟩ = false := by simp [World.frozen?, h]
theorem grown_up {w w1 w2 : World} {r : Option Nat} (h : w.drew.grownBy w1 r) (g : w1.grownBy w2 r) : w.grownBy w2 r := ⟨(h.trans g).os, (h.trans g).tape, (h.trans g).output, (h.trans g).size, (h.trans g).block⟩
structure Enc (α : Type) where
 k : Nat
 cells : α → List Value
 len : ∀ x, (cells x).length = k
 one : ∀ x, ∀ u ∈ cells x, u.oneCell' = true
namespace Enc
variable {α : Type} (E : Enc α)
def flat (L : List α) : List Value := L.flatMap E.cells
theorem flat_cons (x : α) (L : List α) : E.flat (x :: L) = E.cells x ++ E.flat L := by simp [flat]
theorem flat_append (L M : List α) : E.flat (L ++ M) = E.flat L ++ E.flat M := by simp [flat]
theorem flat_snoc (L : List α) (x : α) : E.flat (L ++ [x]) = E.flat L ++ E.cells x := by simp [flat]
theorem flat_len (L : List α) : (E.flat L).length = L.length * E.k := by
 induction L with
 | nil => simp [flat]
 | cons x L ih => rw [flat_cons, List.length_append, List.length_cons, ih, E.len, Nat.succ_mul]; omega
theorem flat_get (L : List α) : ∀ (i : Nat) (x : α), L[i]? = some x → ∀ j, j < E.k → (E.flat L)[i * E.k + j]? = (E.cells x)[j]? := by
 induction L with
 | nil => intro i x h; simp at h
 | cons y L ih =>
   intro i x h j hj
   have hl := E.len y
   cases i with
   | zero =>
     have e : y = x := by simpa using h
     subst e
     rw [flat_cons, Nat.zero_mul, Nat.zero_add, List.getElem?_append_left (by omega)]
   | succ i =>
     rw [List.getElem?_cons_succ] at h
     have he : (i + 1) * E.k + j - (E.cells y).length = i * E.k + j := by rw [hl, Nat.succ_mul]; omega
     rw [flat_cons, List.getElem?_append_right (by rw [hl, Nat.succ_mul]; omega), he, ih i x h j hj]
theorem flat_take (L : List α) : ∀ i, (E.flat L).take (i * E.k) = E.flat (L.take i) := by
 induction L with
 | nil => intro i; simp [flat]
 | cons x L ih =>
   intro i
   have hl := E.len x
   cases i with
   | zero => simp [flat]
   | succ i =>
     have he : (i + 1) * E.k - (E.cells x).length = i * E.k := by rw [hl, Nat.succ_mul]; omega
     rw [List.take_succ_cons, flat_cons, flat_cons, List.take_append, List.take_of_length_le (by rw [hl, Nat.succ_mul]; omega), he, ih]
theorem flat_drop (L : List α) : ∀ i, (E.flat L).drop (i * E.k) = E.flat (L.drop i) := by
 induction L with
 | nil => intro i; simp [flat]
 | cons x L ih =>
   intro i
   have hl := E.len x
   cases i with
   | zero => simp
   | succ i =>
     have he : (i + 1) * E.k - (E.cells x).length = i * E.k := by rw [hl, Nat.succ_mul]; omega
     rw [List.drop_succ_cons, flat_cons, List.drop_append, List.drop_eq_nil_of_le (by rw [hl, Nat.succ_mul]; omega), he, ih, List.nil_append]
theorem flat_one (L : List α) : ∀ v ∈ E.flat L, v.oneCell' = true := by
 intro v hv
 unfold flat at hv
 obtain ⟨x, _, hx⟩ := List.mem_flatMap.1 hv
 exact E.one x v hx
end Enc
def RowE {α : Type} (E : Enc α) (w : World) (a : Option Addr) (L : List α) : Prop :=
 0 < L.length → ∃ b off, a = some ⟨b, off, none⟩ ∧ b < w.heap.size ∧ ∀ (i : Nat) (x : α), L[i]? = some x → ∀ (j : Nat) (v : Value), (E.cells x)[j]? = some v → w.cell? ⟨b, off + i * E.k + j, none⟩ = some v
theorem RowE.nil {α : Type} (E : Enc α) (w : World) (a : Option Addr) : RowE E w a [] := fun h => absurd h (Nat.lt_irrefl 0)
theorem RowE.keep {α : Type} {E : Enc α} {w w' : World} {a : Option Addr} {L : List α} (h : RowE E w a L) (hb : Below w.heap.size w w') : RowE E w' a L := by
 intro h0
 obtain ⟨b, off, rfl, hlt, hc⟩ := h h0
 exact ⟨b, off, rfl, Nat.lt_of_lt_of_le hlt hb.size, fun i x hx j v hv => (hb.cell (p := ⟨b, off + i * E.k + j, none⟩) hlt).trans (hc i x hx j v hv)⟩
theorem RowE.of_own {α : Type} {E : Enc α} {w : World} {B n : Nat} {e : TypeId} {v : Value} {L : List α} (h : OwnV w B e E.k v n (E.flat L)) (hn : n = L.length) :
  ∃ a ca, v = .slice a L.length ca ∧ L.length ≤ ca ∧ ca ≤ 9223372036854775807 ∧ RowE E w a L := by
 subst hn
 rcases h with ⟨rfl, h0, _⟩ | ⟨g, cap, rfl, hc⟩
 ·exact ⟨none, 0, by rw [h0], by omega, by omega, fun h => by omega⟩
 ·obtain ⟨_, _, _, hk, hm, _⟩ := id hc
  refine ⟨_, _, rfl, hk, hm, fun h0 => ⟨g, 0, rfl, hc.lt.2, fun i x hx j v hv => ?_⟩⟩
  have hj : j < E.k := by have := (List.getElem?_eq_some_iff.1 hv).1; rw [E.len] at this; exact this
  have hi := (List.getElem?_eq_some_iff.1 hx).1
  have hb : i * E.k + j < L.length * E.k := by
   have : (i + 1) * E.k ≤ L.length * E.k := Nat.mul_le_mul_right _ hi
   rw [Nat.succ_mul] at this; omega
  rw [Nat.zero_add, hc.cellAt (i * E.k + j) hb, E.flat_get L i x hx j hj, hv]
end Go.Proofs.YthdiccdnggloiaaGreatDoor
namespace Go.Proofs.YthdiccdnggloiaaGreatDoor
namespace Stb
variable {α : Type} (lt : α → α → Prop) (neg : α → α → Bool)
def Fit (x y : α) : Prop := (neg y x = true → lt y x) ∧ (neg y x = false → lt x y)
def Cross (X Y : List α) : Prop := ∀ x, x ∈ X → ∀ y, y ∈ Y → Fit lt neg x y
structure Ord : Prop where
 tr : ∀ x y z, lt x y → lt y z → lt x z
 asym : ∀ x y, lt x y → ¬ lt y x
variable {lt neg}
theorem Cross.sub {X X' Y Y' : List α} (h : Cross lt neg X Y) (hx : ∀ x, x ∈ X' → x ∈ X) (hy : ∀ y, y ∈ Y' → y ∈ Y) : Cross lt neg X' Y' := fun x h1 y h2 => h x (hx x h1) y (hy y h2)
theorem put_sorted (O : Ord lt) {P1 P2 : List α} {x : α} (hs : (P1 ++ P2).Pairwise lt) (h1 : ∀ p, p ∈ P1 → lt p x) (h2 : ∀ p, p ∈ P2 → lt x p) : (P1 ++ x :: P2).Pairwise lt := by
 rw [List.pairwise_append] at hs ⊢
 refine ⟨hs.1, List.pairwise_cons.2 ⟨h2, hs.2.1⟩, fun a ha b hb => ?_⟩
 rcases List.mem_cons.1 hb with rfl | hb
 ·exact h1 a ha
 ·exact hs.2.2 a ha b hb
theorem sorted_at {P : List α} (hs : P.Pairwise lt) {i j : Nat} {x y : α} (hi : P[i]? = some x) (hj : P[j]? = some y) (h : i < j) : lt x y := by
 obtain ⟨h1, rfl⟩ := List.getElem?_eq_some_iff.1 hi
 obtain ⟨h2, rfl⟩ := List.getElem?_eq_some_iff.1 hj
 exact List.pairwise_iff_getElem.1 hs i j h1 h2 h
theorem halves {F1 F2 S1 S2 M1 M2 : List α} (hF : (F1 ++ F2).Pairwise lt) (hS : (S1 ++ S2).Pairwise lt) (h1 : ∀ x, x ∈ S1 → ∀ y, y ∈ F2 → lt x y) (h2 : ∀ x, x ∈ F1 → ∀ y, y ∈ S2 → lt x y)
  (p1 : List.Perm M1 (F1 ++ S1)) (p2 : List.Perm M2 (F2 ++ S2)) (s1 : M1.Pairwise lt) (s2 : M2.Pairwise lt) : List.Perm (M1 ++ M2) (F1 ++ F2 ++ (S1 ++ S2)) ∧ (M1 ++ M2).Pairwise lt := by
 rw [List.pairwise_append] at hF hS
 refine ⟨?_, List.pairwise_append.2 ⟨s1, s2, fun x hx y hy => ?_⟩⟩
 ·refine (p1.append p2).trans ?_
  rw [List.append_assoc, List.append_assoc]
  refine List.Perm.append_left F1 ?_
  rw [← List.append_assoc, ← List.append_assoc]
  exact (List.perm_append_comm).append_right S2
 ·rcases List.mem_append.1 (p1.mem_iff.1 hx) with a | a
  ·rcases List.mem_append.1 (p2.mem_iff.1 hy) with b | b
   ·exact hF.2.2 x a y b
   ·exact h2 x a y b
  ·rcases List.mem_append.1 (p2.mem_iff.1 hy) with b | b
   ·exact h1 x a y b
   ·exact hS.2.2 x a y b
structure Chs (lt : α → α → Prop) (neg : α → α → Bool) (C : List (List α)) : Prop where
 each : ∀ X, X ∈ C → X.Pairwise lt
 cross : C.Pairwise (Cross lt neg)
theorem Cross.flat {C : List (List α)} {Y : List α} (h : ∀ X, X ∈ C → Cross lt neg X Y) : Cross lt neg C.flatten Y := by
 intro x hx y hy
 obtain ⟨X, hX, hx⟩ := List.mem_flatten.1 hx
 exact h X hX x hx y hy
theorem Chs.merge {D C : List (List α)} {X Y M : List α} (h : Chs lt neg (D ++ X :: Y :: C)) (hp : List.Perm M (X ++ Y)) (hs : M.Pairwise lt) : Chs lt neg (D ++ [M] ++ C) := by
 have hc := h.cross
 rw [List.pairwise_append] at hc
 obtain ⟨c1, c2, c3⟩ := hc
 rw [List.pairwise_cons, List.pairwise_cons] at c2
 have hm : ∀ x, x ∈ M → x ∈ X ∨ x ∈ Y := fun x hx => List.mem_append.1 (hp.mem_iff.1 hx)
 refine ⟨fun Z hZ => ?_, ?_⟩
 ·rw [List.append_assoc] at hZ
  rcases List.mem_append.1 hZ with a | a
  ·exact h.each Z (List.mem_append_left _ a)
  ·rcases List.mem_cons.1 a with rfl | a
   ·exact hs
   ·exact h.each Z (List.mem_append_right _ (List.mem_cons_of_mem _ (List.mem_cons_of_mem _ a)))
 ·rw [List.append_assoc, List.pairwise_append]
  refine ⟨c1, List.pairwise_cons.2 ⟨fun Z hZ x hx => ?_, c2.2.2⟩, fun Z hZ W hW => ?_⟩
  ·rcases hm x hx with a | a
   ·exact c2.1 Z (List.mem_cons_of_mem _ hZ) x a
   ·exact c2.2.1 Z hZ x a
  ·rcases List.mem_cons.1 hW with rfl | hW
   ·intro x hx y hy
    rcases hm y hy with a | a
    ·exact c3 Z hZ X (by simp) x hx y a
    ·exact c3 Z hZ Y (by simp) x hx y a
   ·exact c3 Z hZ W (List.mem_cons_of_mem _ (List.mem_cons_of_mem _ hW))
theorem Chs.two {D C : List (List α)} {X Y : List α} (h : Chs lt neg (D ++ X :: Y :: C)) : X.Pairwise lt ∧ Y.Pairwise lt ∧ Cross lt neg X Y := by
 have hc := h.cross
 rw [List.pairwise_append, List.pairwise_cons] at hc
 exact ⟨h.each X (by simp), h.each Y (by simp), hc.2.1.1 Y (by simp)⟩
def Len (s : Nat) (C : List (List α)) : Prop := ∃ D X, C = D ++ [X] ∧ (∀ Y, Y ∈ D → Y.length = s) ∧ X.length ≤ s
theorem flat_len {D : List (List α)} {s : Nat} (h : ∀ Y, Y ∈ D → Y.length = s) : D.flatten.length = D.length * s := by
 induction D with
 | nil => simp
 | cons X D ih => rw [List.flatten_cons, List.length_append, List.length_cons, ih (fun Y hY => h Y (List.mem_cons_of_mem _ hY)), h X (by simp), Nat.succ_mul]; omega
theorem Len.two {s : Nat} {C : List (List α)} (h : Len s C) (hl : 2 * s ≤ C.flatten.length) (hs : 0 < s) : ∃ X Y C', C = X :: Y :: C' ∧ X.length = s ∧ Y.length = s ∧ (C' = [] ∨ Len s C') := by
 obtain ⟨D, X, rfl, hD, hX⟩ := h
 rw [List.flatten_append, List.length_append, flat_len hD] at hl
 simp only [List.flatten_cons, List.flatten_nil, List.append_nil] at hl
 match D, hD, hl with
 | [], _, hl => simp at hl; omega
 | [Y], hD, hl => exact ⟨Y, X, [], rfl, hD Y (by simp), by simp at hl; omega, .inl rfl⟩
 | Y :: Z :: D', hD, hl => exact ⟨Y, Z, D' ++ [X], rfl, hD Y (by simp), hD Z (by simp), .inr ⟨D', X, rfl, fun W hW => hD W (by simp [hW]), hX⟩⟩
theorem Len.rest {s : Nat} {C : List (List α)} (h : C = [] ∨ Len s C) (hl : C.flatten.length < 2 * s) (h1 : s < C.flatten.length) : ∃ X Y, C = [X, Y] ∧ X.length = s ∧ 0 < Y.length ∧ Y.length < s := by
 rcases h with rfl | ⟨D, X, rfl, hD, hX⟩
 ·simp at h1
 ·rw [List.flatten_append, List.length_append, flat_len hD] at hl h1
  simp only [List.flatten_cons, List.flatten_nil, List.append_nil] at hl h1
  match D, hD, hl, h1 with
  | [], _, hl, h1 => simp at hl h1; omega
  | [Y], hD, hl, h1 => exact ⟨Y, X, rfl, hD Y (by simp), by simp at h1; omega, by simp at hl; omega⟩
  | Y :: Z :: D', hD, hl, h1 =>
    exfalso
    simp only [List.length_cons] at hl
    have : 2 * s ≤ (D'.length + 1 + 1) * s := Nat.mul_le_mul_right s (by omega)
    omega
theorem Len.last {s : Nat} {C : List (List α)} (h : C = [] ∨ Len s C) (h1 : C.flatten.length ≤ s) (hs : 0 < s) : C = [] ∨ (∃ X, C = [X] ∧ X.length ≤ s) ∨ ∃ X, C = [X, []] ∧ X.length = s := by
 rcases h with rfl | ⟨D, X, rfl, hD, hX⟩
 ·exact .inl rfl
 ·rw [List.flatten_append, List.length_append, flat_len hD] at h1
  simp only [List.flatten_cons, List.flatten_nil, List.append_nil] at h1
  match D, hD, h1 with
  | [], _, h1 => exact .inr (.inl ⟨X, rfl, hX⟩)
  | [Y], hD, h1 =>
    have : X.length = 0 := by simp at h1; omega
    obtain rfl := List.eq_nil_of_length_eq_zero this
    exact .inr (.inr ⟨Y, rfl, hD Y (by simp)⟩)
  | Y :: Z :: D', hD, h1 =>
    exfalso
    simp only [List.length_cons] at h1
    have : 2 * s ≤ (D'.length + 1 + 1) * s := Nat.mul_le_mul_right s (by omega)
    omega
theorem Chs.sorted {s : Nat} {C : List (List α)} (h : Chs lt neg C) (hL : Len s C) (h1 : C.flatten.length ≤ s) (hs : 0 < s) : C.flatten.Pairwise lt := by
 rcases Len.last (.inr hL) h1 hs with rfl | ⟨X, rfl, _⟩ | ⟨X, rfl, _⟩
 ·simp
 ·simpa using h.each X (by simp)
 ·simpa using h.each X (by simp)
theorem unique (O : Ord lt) : ∀ {L M : List α}, List.Perm L M → L.Pairwise lt → M.Pairwise lt → L = M := by
 intro L
 induction L with
 | nil => intro M hp _ _; exact (List.nil_perm.1 hp).symm
 | cons x L ih =>
   intro M hp h1 h2
   cases M with
   | nil => exact absurd (hp.length_eq) (by simp)
   | cons y M =>
     have hxy : x = y := by
      rcases List.mem_cons.1 (hp.mem_iff.1 (List.mem_cons_self ..) : x ∈ y :: M) with e | e
      ·exact e
      ·rcases List.mem_cons.1 (hp.mem_iff.2 (List.mem_cons_self ..) : y ∈ x :: L) with g | g
       ·exact g.symm
       ·exact absurd ((List.pairwise_cons.1 h1).1 y g) (O.asym _ _ ((List.pairwise_cons.1 h2).1 x e))
     subst hxy
     rw [ih (List.Perm.cons_inv hp) (List.pairwise_cons.1 h1).2 (List.pairwise_cons.1 h2).2]
end Stb
end Go.Proofs.YthdiccdnggloiaaGreatDoor
namespace Go.Proofs.YthdiccdnggloiaaGreatDoor
open Go.RowKit
def Enc.val {α : Type} (E : Enc α) (x : α) : Value := .agg (E.cells x).toArray
theorem Enc.flat_set {α : Type} (E : Enc α) (L : List α) (p : Nat) (x : α) (hp : p < L.length) : E.flat (L.set p x) = (E.flat L).take (p * E.k) ++ E.cells x ++ (E.flat L).drop (p * E.k + E.k) := by
 rw [List.set_eq_take_append_cons_drop, if_pos hp, E.flat_append, E.flat_cons, E.flat_take, show p * E.k + E.k = (p + 1) * E.k from (Nat.succ_mul p E.k).symm, E.flat_drop, List.append_assoc]
structure SRow {α : Type} (E : Enc α) (w : World) (B : Nat) (e : TypeId) (g cap n : Nat) (L : List α) : Prop where
 own : OwnC w B e E.k g n cap (E.flat L)
 len : L.length = n
namespace SRow
variable {α : Type} {E : Enc α} {w w' : World} {B g cap n : Nat} {e : TypeId} {L : List α}
theorem keep (h : SRow E w B e g cap n L) (hb : Below w.heap.size w w') : SRow E w' B e g cap n L := ⟨h.own.keep hb, h.len⟩
theorem range (h : SRow E w B e g cap n L) {p : Nat} {x : α} (hp : L[p]? = some x) : w.rangeAt g (p * E.k) (E.cells x) := by
 intro j v hv
 have hj : j < E.k := by have := (List.getElem?_eq_some_iff.1 hv).1; rw [E.len] at this; exact this
 have hi := (List.getElem?_eq_some_iff.1 hp).1
 have hl := h.len
 have hb : p * E.k + j < n * E.k := by
  have : (p + 1) * E.k ≤ n * E.k := Nat.mul_le_mul_right _ (by omega)
  rw [Nat.succ_mul] at this; omega
 rw [h.own.cellAt (p * E.k + j) hb, E.flat_get L p x hp j hj, hv]
theorem load {P : Program} {d : TypeDesc} (h : SRow E w B e g cap n L) {p : Nat} {x : α} (hp : L[p]? = some x) (hu : P.underlying e = some d) (hd : d.isRow = true) (hi : (P.info? e).map (·.size) = some E.k) :
  (Instr.loadAt e (.pointer (some ⟨g, p * E.k, none⟩))).run P w = .ok (E.val x) w :=
 run_loadAt_mid w g (p * E.k) e (E.cells x) d (h.range hp) hu hd (by rw [E.len]; exact hi)
theorem store {P : Program} (h : SRow E w B e g cap n L) {p : Nat} (hp : p < n) (x : α) (hi : (P.info? e).map (·.size) = some E.k) :
  ∃ w', (Instr.storeAt e (.pointer (some ⟨g, p * E.k, none⟩)) (E.val x)).run P w = .ok () w' ∧ SRow E w' B e g cap n (L.set p x) ∧ w.grownBy w' (some g) := by
 have hl := h.len
 have hfit : p * E.k + (E.cells x).length ≤ n * E.k := by
  rw [E.len]
  have : (p + 1) * E.k ≤ n * E.k := Nat.mul_le_mul_right _ (by omega)
  rw [Nat.succ_mul] at this; exact this
 obtain ⟨cur, hc, hcl, ho, hg⟩ := own_setRow h.own (p * E.k) (E.cells x) hfit
 have hth : w.there g (p * E.k) (E.cells x).toArray.size := fun j hj => ⟨by
  rw [World.cell?]; simp only [hc]
  have hj' : j < (E.cells x).length := by simpa using hj
  rw [Array.getElem?_eq_getElem (by omega)]; rfl, frozen_of hc _⟩
 have h1 := all_oneCell_toArray (E.one x)
 have e1 := run_storeCells_at (P := P) g (p * E.k) e (E.cells x) 0 cur w hc (by omega) (E.one x)
 have e2 := run_storeCells_cells (P := P) g (p * E.k) (E.cells x) 0 w (fun j hj => by rw [Nat.add_zero]; exact (hth j (by simpa using hj)).1) (fun j hj => by rw [Nat.add_zero]; exact (hth j (by simpa using hj)).2) (E.one x)
 rw [Nat.add_zero] at e1 e2
 have e3 := e2.symm.trans e1
 injection e3 with _ e3
 have hr := run_storeAt_mid (P := P) w g (p * E.k) e (E.cells x).toArray hth (by rw [hi]; simp [E.len]) h1
 rw [List.toList_toArray, e3] at hr
 rw [E.len] at ho
 refine ⟨_, hr, ⟨?_, by rw [List.length_set]; exact hl⟩, hg⟩
 rw [E.flat_set L p x (by omega)]
 rw [E.len]
 exact ho
end SRow
theorem swap_list {α : Type} (A M C : List α) (x y : α) (i j : Nat) (hi : i = A.length) (hj : j = A.length + 1 + M.length) : ((A ++ x :: M ++ y :: C).set i y).set j x = A ++ y :: M ++ x :: C := by
 subst hi hj
 have h1 : (A ++ x :: M ++ y :: C).set A.length y = A ++ y :: M ++ y :: C := by
  rw [List.append_assoc, List.cons_append, List.set_append_right _ _ (Nat.le_refl _), Nat.sub_self, List.set_cons_zero, ← List.cons_append, ← List.append_assoc]
 rw [h1]
 have hl : (A ++ y :: M).length = A.length + 1 + M.length := by simp; omega
 rw [List.set_append_right _ _ (by omega), hl, Nat.sub_self, List.set_cons_zero]
theorem swap_list2 {α : Type} (A M C : List α) (x y : α) (i j : Nat) (hi : i = A.length) (hj : j = A.length + 1 + M.length) : ((A ++ x :: M ++ y :: C).set j x).set i y = A ++ y :: M ++ x :: C := by
 rw [List.set_comm _ _ (by omega)]
 exact swap_list A M C x y i j hi hj
theorem at_mid {α : Type} (A C : List α) (x : α) (p : Nat) (hp : p = A.length) : (A ++ x :: C)[p]? = some x := by
 subst hp; rw [List.getElem?_append_right (Nat.le_refl _), Nat.sub_self]; rfl
theorem at_mid2 {α : Type} (A M C : List α) (x y : α) (p : Nat) (hp : p = A.length + 1 + M.length) : (A ++ x :: M ++ y :: C)[p]? = some y := by
 subst hp
 have hl : (A ++ x :: M).length = A.length + 1 + M.length := by simp; omega
 rw [List.getElem?_append_right (by omega), hl, Nat.sub_self]; rfl
namespace SRow
variable {α : Type} {E : Enc α} {w w' : World} {B g cap n : Nat} {e : TypeId} {L : List α}
theorem drew (h : SRow E w B e g cap n L) : SRow E w.drew B e g cap n L := ⟨h.own, h.len⟩
end SRow
end Go.Proofs.YthdiccdnggloiaaGreatDoor
namespace Go.Proofs.YthdiccdnggloiaaGreatDoor
namespace Stb
variable {α : Type}
theorem take_more {S : List α} {t : Nat} {s : α} (h : S[t]? = some s) : S.take (t + 1) = S.take t ++ [s] := by
 rw [List.take_add_one, h]; rfl
theorem drop_more {S : List α} {t : Nat} {s : α} (h : S[t]? = some s) : S.drop t = s :: S.drop (t + 1) := by
 obtain ⟨hl, rfl⟩ := List.getElem?_eq_some_iff.1 h
 exact List.drop_eq_getElem_cons hl
def ins (A P : List α) (t : Nat) (x : α) (C : List α) : List α := A ++ (P.take t ++ x :: (P.drop t ++ C))
theorem ins_at {A P C : List α} {t : Nat} {x : α} (ht : t ≤ P.length) : (ins A P t x C)[A.length + t]? = some x := by
 unfold ins
 rw [← List.append_assoc]
 exact at_mid _ _ _ _ (by rw [List.length_append, List.length_take]; omega)
theorem ins_prev {A P C : List α} {t : Nat} {x y : α} (h : P[t]? = some y) : (ins A P (t + 1) x C)[A.length + t]? = some y := by
 unfold ins
 rw [take_more h, List.append_assoc, ← List.append_assoc]
 have hl := (List.getElem?_eq_some_iff.1 h).1
 exact at_mid _ _ _ _ (by rw [List.length_append, List.length_take]; omega)
theorem ins_next {A P C : List α} {t : Nat} {x y : α} (h : P[t]? = some y) : (ins A P t x C)[A.length + t + 1]? = some y := by
 have hl := (List.getElem?_eq_some_iff.1 h).1
 unfold ins
 rw [drop_more h, List.cons_append, ← List.append_assoc]
 have := at_mid2 (A ++ P.take t) [] (P.drop (t + 1) ++ C) x y (A.length + t + 1) (by rw [List.length_append, List.length_take]; simp; omega)
 simpa using this
theorem ins_left {A P C : List α} {t : Nat} {x y : α} (h : P[t]? = some y) : ((ins A P (t + 1) x C).set (A.length + t + 1) y).set (A.length + t) x = ins A P t x C := by
 have hl := (List.getElem?_eq_some_iff.1 h).1
 unfold ins
 rw [take_more h, drop_more h]
 have := swap_list2 (A ++ P.take t) [] (P.drop (t + 1) ++ C) y x (A.length + t) (A.length + t + 1) (by rw [List.length_append, List.length_take]; omega) (by rw [List.length_append, List.length_take]; simp; omega)
 simpa using this
theorem ins_right {A P C : List α} {t : Nat} {x y : α} (h : P[t]? = some y) : ((ins A P t x C).set (A.length + t) y).set (A.length + t + 1) x = ins A P (t + 1) x C := by
 have hl := (List.getElem?_eq_some_iff.1 h).1
 unfold ins
 rw [take_more h, drop_more h]
 have := swap_list (A ++ P.take t) [] (P.drop (t + 1) ++ C) x y (A.length + t) (A.length + t + 1) (by rw [List.length_append, List.length_take]; omega) (by rw [List.length_append, List.length_take]; simp; omega)
 simpa using this
theorem ins_first (A P : List α) (x : α) (C : List α) : ins A P 0 x C = A ++ x :: (P ++ C) := by simp [ins]
theorem ins_last (A P : List α) (x : α) (C : List α) : ins A P P.length x C = A ++ (P ++ x :: C) := by simp [ins]
def xch (A X Y Z B : List α) (i : Nat) : List α := A ++ ((Z.take i ++ X.drop i) ++ (Y ++ ((X.take i ++ Z.drop i) ++ B)))
theorem xch_0 (A X Y Z B : List α) : xch A X Y Z B 0 = A ++ (X ++ (Y ++ (Z ++ B))) := by simp [xch]
theorem xch_all {A X Y Z B : List α} {n : Nat} (hx : X.length = n) (hz : Z.length = n) : xch A X Y Z B n = A ++ (Z ++ (Y ++ (X ++ B))) := by
 unfold xch
 rw [List.take_of_length_le (by omega), List.drop_eq_nil_of_le (by omega), List.take_of_length_le (by omega), List.drop_eq_nil_of_le (by omega), List.append_nil, List.append_nil]
theorem xch_form {A X Y Z B : List α} {i n : Nat} (hx : X.length = n) (hz : Z.length = n) (hi : i < n) {x z : α} (h1 : X[i]? = some x) (h2 : Z[i]? = some z) :
  xch A X Y Z B i = (A ++ Z.take i) ++ x :: (X.drop (i + 1) ++ (Y ++ X.take i)) ++ z :: (Z.drop (i + 1) ++ B) ∧ xch A X Y Z B (i + 1) = (A ++ Z.take i) ++ z :: (X.drop (i + 1) ++ (Y ++ X.take i)) ++ x :: (Z.drop (i + 1) ++ B) := by
 unfold xch
 rw [drop_more h1, drop_more h2, take_more h1, take_more h2]
 exact ⟨by simp, by simp⟩
theorem xch_at {A X Y Z B : List α} {i n : Nat} (hx : X.length = n) (hz : Z.length = n) (hi : i < n) {x z : α} (h1 : X[i]? = some x) (h2 : Z[i]? = some z) :
  (xch A X Y Z B i)[A.length + i]? = some x ∧ (xch A X Y Z B i)[A.length + n + Y.length + i]? = some z ∧ ((xch A X Y Z B i).set (A.length + i) z).set (A.length + n + Y.length + i) x = xch A X Y Z B (i + 1) := by
 obtain ⟨e1, e2⟩ := xch_form (A := A) (Y := Y) (B := B) hx hz hi h1 h2
 have ha : (A ++ Z.take i).length = A.length + i := by rw [List.length_append, List.length_take]; omega
 have hm : (X.drop (i + 1) ++ (Y ++ X.take i)).length = n - 1 + Y.length := by simp only [List.length_append, List.length_take, List.length_drop]; omega
 rw [e1, e2]
 refine ⟨?_, ?_, ?_⟩
 ·have := at_mid (A ++ Z.take i) ((X.drop (i + 1) ++ (Y ++ X.take i)) ++ z :: (Z.drop (i + 1) ++ B)) x (A.length + i) (by rw [ha])
  simpa using this
 ·exact at_mid2 _ _ _ _ _ _ (by rw [ha, hm]; omega)
 ·exact swap_list _ _ _ _ _ _ _ (by rw [ha]) (by rw [ha, hm]; omega)
theorem at_F {A U R : List α} {t : Nat} (ht : t < U.length) : (A ++ (U ++ R))[A.length + t]? = U[t]? := by
 rw [List.getElem?_append_right (by omega), List.getElem?_append_left (by omega)]; congr 1; omega
theorem at_S {A U S R : List α} {t : Nat} (ht : t < S.length) : (A ++ (U ++ (S ++ R)))[A.length + U.length + t]? = S[t]? := by
 rw [List.getElem?_append_right (by omega), List.getElem?_append_right (by omega), List.getElem?_append_left (by omega)]; congr 1; omega
variable {lt : α → α → Prop} {neg : α → α → Bool}
theorem take_below (O : Ord lt) {S : List α} (hs : S.Pairwise lt) {q : Nat} {x : α} (h : ∀ t s, t < q → S[t]? = some s → lt s x) : ∀ s, s ∈ S.take q → lt s x := by
 intro s hm
 obtain ⟨t, ht⟩ := List.getElem?_of_mem hm
 rw [List.getElem?_take] at ht
 split at ht
 ·exact h t s (by omega) ht
 ·cases ht
theorem drop_above (O : Ord lt) {S : List α} (hs : S.Pairwise lt) {q : Nat} {x : α} (h : ∀ t s, q ≤ t → S[t]? = some s → lt x s) : ∀ s, s ∈ S.drop q → lt x s := by
 intro s hm
 obtain ⟨t, ht⟩ := List.getElem?_of_mem hm
 rw [List.getElem?_drop] at ht
 exact h (q + t) s (by omega) ht
theorem placed_in (O : Ord lt) {S : List α} (hs : S.Pairwise lt) {q : Nat} {x : α} (h1 : ∀ t s, t < q → S[t]? = some s → lt s x) (h2 : ∀ t s, q ≤ t → S[t]? = some s → lt x s) : (S.take q ++ x :: S.drop q).Pairwise lt ∧ List.Perm (S.take q ++ x :: S.drop q) (x :: S) ∧ List.Perm (S.take q ++ x :: S.drop q) (S ++ [x]) := by
 have hp : List.Perm (S.take q ++ x :: S.drop q) (x :: S) := by
  refine List.perm_middle.trans ?_
  rw [List.take_append_drop]
 refine ⟨put_sorted O (by rw [List.take_append_drop]; exact hs) (take_below O hs h1) (drop_above O hs h2), hp, hp.trans ?_⟩
 exact (List.perm_append_comm (l₁ := [x]) (l₂ := S))
theorem cut_low (O : Ord lt) {U S : List α} (hF : U.Pairwise lt) (hS : S.Pairwise lt) {i j : Nat} (hjl : j ≤ S.length) (h : ∀ x y, 0 < j → S[j - 1]? = some x → U[i]? = some y → lt x y) : ∀ x, x ∈ S.take j → ∀ y, y ∈ U.drop i → lt x y := by
 intro x hx y hy
 obtain ⟨p, hp⟩ := List.getElem?_of_mem hx
 obtain ⟨q, hq⟩ := List.getElem?_of_mem hy
 rw [List.getElem?_take] at hp
 rw [List.getElem?_drop] at hq
 split at hp
 ·rename_i hpj
  have hl1 := (List.getElem?_eq_some_iff.1 hp).1
  have hl2 := (List.getElem?_eq_some_iff.1 hq).1
  by_cases hj : j - 1 < S.length
  ·have e1 := h _ _ (by omega) (List.getElem?_eq_getElem hj) (List.getElem?_eq_getElem (show i < U.length by omega))
   have e2 : lt x U[i] := by
    by_cases e : p = j - 1
    ·subst e; rw [List.getElem?_eq_getElem hj] at hp; cases hp; exact e1
    ·exact O.tr _ _ _ (sorted_at hS hp (List.getElem?_eq_getElem hj) (by omega)) e1
   by_cases e : q = 0
   ·subst e; rw [Nat.add_zero, List.getElem?_eq_getElem (show i < U.length by omega)] at hq; cases hq; exact e2
   ·exact O.tr _ _ _ e2 (sorted_at hF (List.getElem?_eq_getElem (show i < U.length by omega)) hq (by omega))
  ·exfalso; omega
 ·cases hp
end Stb
end Go.Proofs.YthdiccdnggloiaaGreatDoor
namespace Go.Proofs.YthdiccdnggloiaaGreatDoor
open Go.RowKit Go.Sort
theorem if_wanted {c : Bool} {p q : Prop} (h : c = true) (hp : p) : if c = true then p else q := by rw [if_pos h]; exact hp
theorem wp_store_run {P : Program} {op : Oper} {a : Act} {w w' : World} {K : Act → World → Prop} {Q : Exit → Act → World → Prop} (ty : TypeId) (x y : Operand) (dst : Option Tmp) (hd : op.dst = dst) (ho : op.op = .store ty x y)
  {p v : Value} (hx : a.eval x = p) (hy : a.eval y = v) (hr : (Instr.storeAt ty p v).run P w = .ok () w') (h : K (a.put dst undef) w') : op.wp P a w K Q := by
 subst hd
 unfold Oper.wp execOp
 simp only [ho, hx, hy, Sem.run_bind, Sem.run_pure, Result.andThen_ok, hr]
 exact h
theorem wp_value_run {P : Program} {op : Oper} {a : Act} {w : World} {K : Act → World → Prop} {Q : Exit → Act → World → Prop} {v : Value} (dst : Option Tmp) (hd : op.dst = dst)
  (hr : (execOp a.eval op).run P w = .ok (.value v) w) (h : K (a.put dst v) w) : op.wp P a w K Q := by
 subst hd
 unfold Oper.wp
 simp only [hr]
 exact h
section
variable {P : Program} {ops : Array Oper} {Q : Exit → Act → World → Prop} {md : Region.Mode} {C : World → Prop} {m : Nat}
theorem anyM_put0 {i : Nat} {oi : Oper} {v : Value} {f : Nat} {l : Array Bool} {a : Act} {w : World} (dst : Option Tmp) (hi : ops[i]? = some oi) (hd : oi.dst = dst) (him : i ≠ m)
  (hs : Region.noSelect ops = true) (hf : Region.free md ops l i = true) (hr : (Region.ready md ops l).contains i = true)
  (hQ : ∀ c a w, Q (.panic c) (a.put dst v) w → Q (.panic c) a w) (hy : YieldsIf P ops (fun _ => True) oi v a) (hU : Until C m l w)
  (h : anyM P md ops Q C m f (l.setIfInBounds i true) (a.put dst v) w) : anyM P md ops Q C m (f + 1) l a w := by
 subst hd; exact anyM_take0 hi him hs hf hr hQ hy hU h
theorem anyM_putM {i : Nat} {oi om : Oper} {v : Value} {f : Nat} {l : Array Bool} {a : Act} {w : World} (dst : Option Tmp) (hi : ops[i]? = some oi) (hd : oi.dst = dst) (hom : ops[m]? = some om) (hwait : (om.after.any fun e => Region.binds md e && e.on == i) = true) (him : i ≠ m)
  (hs : Region.noSelect ops = true) (hf : Region.free md ops l i = true) (hr : (Region.ready md ops l).contains i = true)
  (hQ : ∀ c a w, Q (.panic c) (a.put dst v) w → Q (.panic c) a w) (hy : YieldsIf P ops C oi v a) (hm : l.getD m true = false) (hC : C w)
  (h : anyM P md ops Q C m f (l.setIfInBounds i true) (a.put dst v) w) : anyM P md ops Q C m (f + 1) l a w := by
 subst hd; exact anyM_take hi hom hwait him hs hf hr hQ hy hm hC h
variable {f : Nat} {l : Array Bool} {a : Act} {w : World} {oi : Oper}
theorem stq (i : Nat) (d : Tmp) (v : Value) (hC : C w) (hy : ∀ W, True → (execOp a.eval oi).run P W = .ok (.value v) W) (h : anyM P md ops Q C m f (l.setIfInBounds i true) (a.put (some d) v) w)
  (hi : ops[i]? = some oi := by exact rfl) (hd : oi.dst = some d := by exact rfl) (him : i ≠ m := by decide) (hs : Region.noSelect ops = true := by kernel_rfl) (hf : Region.free md ops l i = true := by kernel_rfl) (hr : (Region.ready md ops l).contains i = true := by kernel_rfl)
  (hQ : ∀ c a w, Q (.panic c) (a.put (some d) v) w → Q (.panic c) a w := by exact fun _ _ _ h => h) (hw : Region.wanted oi (yielded ops a.tmps) = true := by rfl) : anyM P md ops Q C m (f + 1) l a w :=
 anyM_put0 (some d) hi hd him hs hf hr hQ (Or.inl ⟨hw, hy⟩) (fun _ => hC) h
theorem stm (i : Nat) (d : Tmp) (v : Value) {om : Oper} (hC : C w) (hy : YieldsIf P ops C oi v a) (h : anyM P md ops Q C m f (l.setIfInBounds i true) (a.put (some d) v) w)
  (hi : ops[i]? = some oi := by exact rfl) (hd : oi.dst = some d := by exact rfl) (hom : ops[m]? = some om := by exact rfl) (hwait : (om.after.any fun e => Region.binds md e && e.on == i) = true := by kernel_rfl) (him : i ≠ m := by decide) (hs : Region.noSelect ops = true := by kernel_rfl)
  (hf : Region.free md ops l i = true := by kernel_rfl) (hr : (Region.ready md ops l).contains i = true := by kernel_rfl) (hQ : ∀ c a w, Q (.panic c) (a.put (some d) v) w → Q (.panic c) a w := by exact fun _ _ _ h => h) (hm : l.getD m true = false := by rfl) : anyM P md ops Q C m (f + 1) l a w :=
 anyM_putM (some d) hi hd hom hwait him hs hf hr hQ hy hm hC h
theorem sty {i : Nat} (hi : ops[i]? = some oi) (hrd : Region.ready md ops l = [i]) (hw : Region.wanted oi (yielded ops a.tmps) = true) (hm : (l.setIfInBounds i true).getD m true = true)
  (h : ∀ K : Act → World → Prop, Shut (∀ a w, anyM P md ops Q C m f (l.setIfInBounds i true) a w → K a w) → Oper.wp P oi a w K Q) : anyM P md ops Q C m (f + 1) l a w := by
 refine anyM_ready (rs := [i]) hrd (by simp) (ReadyM.cons hi (fun K hK => if_wanted hw (h K (fun a w g => hK.out a w (fun h0 => ?_) g))) ReadyM.nil)
 rw [hm] at h0
 cases h0
theorem stx (i : Nat) (d : Tmp) (v : Value) (hr : (execOp a.eval oi).run P w = .ok (.value v) w) (h : anyM P md ops Q C m f (l.setIfInBounds i true) (a.put (some d) v) w)
  (hi : ops[i]? = some oi := by exact rfl) (hd : oi.dst = some d := by exact rfl) (hrd : Region.ready md ops l = [i] := by kernel_rfl) (hw : Region.wanted oi (yielded ops a.tmps) = true := by kernel_rfl) (hm : (l.setIfInBounds i true).getD m true = true := by rfl) : anyM P md ops Q C m (f + 1) l a w :=
 sty hi hrd hw hm fun K hK => wp_value_run (some d) hd hr (hK.out _ _ h)
theorem stst (i : Nat) (ty : TypeId) (x y : Operand) (p v : Value) {w' : World} (hr : (Instr.storeAt ty p v).run P w = .ok () w') (h : anyM P md ops Q C m f (l.setIfInBounds i true) (a.put none undef) w')
  (hi : ops[i]? = some oi := by exact rfl) (hd : oi.dst = none := by exact rfl) (ho : oi.op = .store ty x y := by exact rfl) (hx : a.eval x = p := by kernel_rfl) (hy : a.eval y = v := by kernel_rfl) (hrd : Region.ready md ops l = [i] := by kernel_rfl)
  (hw : Region.wanted oi (yielded ops a.tmps) = true := by kernel_rfl) (hm : (l.setIfInBounds i true).getD m true = true := by rfl) : anyM P md ops Q C m (f + 1) l a w :=
 sty hi hrd hw hm fun K hK => wp_store_run ty x y none hd ho hx hy hr (hK.out _ _ h)
end
theorem grown_dn {w wr w2 : World} {r : Option Nat} (h : w.grownBy wr r) (g : wr.drew.grownBy w2 r) : w.grownBy w2 r := h.trans ⟨g.os, g.tape, g.output, g.size, g.block⟩

def CmpOk {α : Type} (E : Enc α) (w0 : World) (g : Nat) (c : FuncId) (lb : Array Value) (dom : α → Prop) (neg : α → α → Bool) : Prop :=
 ∀ (V : World) (x y : α), dom x → dom y → w0.grownBy V (some g) → Calls Tryz.prog c (#[.agg (E.cells x).toArray, .agg (E.cells y).toArray] ++ lb) V fun e w' => ∃ r : Int, e = .returned (.int .i64 r) ∧ decide (r < 0) = neg x y ∧ Below V.heap.size V w'
theorem grown_below {w wr w2 : World} {r : Option Nat} (h : w.grownBy wr r) (g : Below wr.heap.size wr w2) : w.grownBy w2 r :=
 h.trans ⟨g.os, g.tape, g.output, g.size, fun b hb _ => g.block b hb⟩




namespace Stb
variable {α : Type} {lt : α → α → Prop} {neg : α → α → Bool}
theorem Chs.snoc {D : List (List α)} {M Z : List α} (h : Chs lt neg D) (hc : Cross lt neg D.flatten Z) (hm : ∀ x, x ∈ M → x ∈ Z) (hs : M.Pairwise lt) : Chs lt neg (D ++ [M]) := by
 refine ⟨fun X hX => ?_, ?_⟩
 ·rcases List.mem_append.1 hX with a | a
  ·exact h.each X a
  ·rw [List.mem_singleton] at a; subst a; exact hs
 ·rw [List.pairwise_append]
  refine ⟨h.cross, by simp, fun X hX Y hY x hx y hy => ?_⟩
  rw [List.mem_singleton] at hY; subst hY
  exact hc x (List.mem_flatten.2 ⟨X, hX, hx⟩) y (hm y hy)
theorem Len.snoc {D : List (List α)} {X : List α} {s : Nat} (h : ∀ Y, Y ∈ D → Y.length = s) (hX : X.length ≤ s) : Len s (D ++ [X]) := ⟨D, X, rfl, h, hX⟩
theorem Len.full {D : List (List α)} {s : Nat} (h : ∀ Y, Y ∈ D → Y.length = s) (hne : D ≠ []) : Len s D := by
 refine ⟨D.dropLast, D.getLast hne, (List.dropLast_concat_getLast hne).symm, fun Y hY => h Y (List.dropLast_subset _ hY), ?_⟩
 rw [h _ (List.getLast_mem hne)]; exact Nat.le_refl _
theorem snoc_len {D : List (List α)} {M : List α} {s : Nat} (h : ∀ Y, Y ∈ D → Y.length = s) (hM : M.length = s) : ∀ Y, Y ∈ D ++ [M] → Y.length = s := by
 intro Y hY
 rcases List.mem_append.1 hY with a | a
 ·exact h Y a
 ·rw [List.mem_singleton] at a; subst a; exact hM
end Stb

end Go.Proofs.YthdiccdnggloiaaGreatDoor
