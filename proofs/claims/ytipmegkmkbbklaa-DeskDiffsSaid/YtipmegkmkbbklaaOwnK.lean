/- A row of the call's own, k cells an element: more of it, less of it; copy into it, clear, append in place: each run as an equation. -/
import Derived.Test.YtipmegkmkbbklaaOwn
import Derived.OwnWalk
import Derived.Laws.IdiomCopy
import Derived.Lib.AppendZeros
import Derived.Deep.RegionLaw
import Derived.ArgAppend
namespace Go.Proofs.Ytipmegkmkbbklaa
open Go.RowKit
set_option linter.unusedVariables false
theorem wp_copy_run {P : Program} (w : World) {o : Oper} {a : Act} {K : Act → World → Prop} {Q : Exit → Act → World → Prop} (d s : Operand) (t t' : TypeId)
    (ho : o.op = .call { callee := .builtin .copy, args := #[d, s], argTypes := #[t, t'] }) (v u : Value) (hd : a.eval d = v) (hs : a.eval s = u) {v' : Value} {w' : World}
    (hr : (Builtin.copy_ #[t, t'] o.type #[v, u]).run P w = .ok v' w') (h : K (a.put o.dst v') w') : o.wp P a w K Q := by
  unfold Oper.wp execOp
  simp only [ho, resolve, invoke, builtin, Sem.run_bind, Sem.run_pure, Result.andThen_ok, List.map_toArray, List.map_cons, List.map_nil, hd, hs, hr]
  exact h
theorem wpList_copy_run {P : Program} (w : World) {ops : Array Oper} {rest : List Oper} {o : Oper} {a : Act} {Q : Exit → Act → World → Prop} (hgd : o.guard = none) (d s : Operand) (t t' : TypeId)
    (ho : o.op = .call { callee := .builtin .copy, args := #[d, s], argTypes := #[t, t'] }) (v u : Value) (hd : a.eval d = v) (hs : a.eval s = u) {v' : Value} {w' : World}
    (hr : (Builtin.copy_ #[t, t'] o.type #[v, u]).run P w = .ok v' w') (h : wpList P ops Q rest (a.put o.dst v') w') : wpList P ops Q (o :: rest) a w :=
  wpList_plain hgd fun _ hK => wp_copy_run w d s t t' ho v u hd hs hr (hK _ _ h)
theorem step_copy_run {P : Program} {ops : Array Oper} {o : Oper} {a : Act} {w : World} {K : Act → World → Prop} {Q : Exit → Act → World → Prop} {E : Prop}
    (hg : o.guard = none) (d x : Operand) (dT sT : TypeId) (hop : o.op = Op.call { callee := Callee.builtin Builtin.copy, args := #[d, x], argTypes := #[dT, sT] })
    (v u : Value) (hd : a.eval d = v) (hx : a.eval x = u) {v' : Value} {w' : World} (hr : (Builtin.copy_ #[dT, sT] o.type #[v, u]).run P w = .ok v' w') (hK : K (a.put o.dst v') w') :
    if Region.wanted o (yielded ops a.tmps) = true then Oper.wp P o a w K Q else E := by
  have hw : Region.wanted o (yielded ops a.tmps) = true := by simp [Region.wanted, hg]
  rw [if_pos hw]
  exact wp_copy_run w d x dT sT hop v u hd hx hr hK
theorem step_append_run {P : Program} {ops : Array Oper} {o : Oper} {a : Act} {w : World} {K : Act → World → Prop} {Q : Exit → Act → World → Prop} {E : Prop}
    (hg : o.guard = none) (s x : Operand) (t tn : TypeId) (hop : o.op = Op.call { callee := Callee.builtin Builtin.append, args := #[s, x], argTypes := #[t, tn] })
    (v u : Value) (hs : a.eval s = v) (hx : a.eval x = u) {v' : Value} {w' : World} (hr : (Builtin.append_ #[t, tn] o.type #[v, u]).run P w = .ok v' w') (hK : K (a.put o.dst v') w') :
    if Region.wanted o (yielded ops a.tmps) = true then Oper.wp P o a w K Q else E := by
  have hw : Region.wanted o (yielded ops a.tmps) = true := by simp [Region.wanted, hg]
  rw [if_pos hw]
  exact Lib.wp_append_run w s x t tn hop v u hs hx v' w' hr hK
theorem wp_clear_run {P : Program} (w : World) {o : Oper} {a : Act} {K : Act → World → Prop} {Q : Exit → Act → World → Prop} (x : Operand) (t : TypeId)
    (ho : o.op = .call { callee := .builtin .clear, args := #[x], argTypes := #[t] }) (v : Value) (hx : a.eval x = v) {v' : Value} {w' : World}
    (hr : (Builtin.clear_ #[t] o.type #[v]).run P w = .ok v' w') (h : K (a.put o.dst v') w') : o.wp P a w K Q := by
  unfold Oper.wp execOp
  simp only [ho, resolve, invoke, builtin, Sem.run_bind, Sem.run_pure, Result.andThen_ok, List.map_toArray, List.map_cons, List.map_nil, hx, hr]
  exact h
theorem wpList_clear_run {P : Program} (w : World) {ops : Array Oper} {rest : List Oper} {o : Oper} {a : Act} {Q : Exit → Act → World → Prop} (hgd : o.guard = none) (x : Operand) (t : TypeId)
    (ho : o.op = .call { callee := .builtin .clear, args := #[x], argTypes := #[t] }) (v : Value) (hx : a.eval x = v) {v' : Value} {w' : World}
    (hr : (Builtin.clear_ #[t] o.type #[v]).run P w = .ok v' w') (h : wpList P ops Q rest (a.put o.dst v') w') : wpList P ops Q (o :: rest) a w :=
  wpList_plain hgd fun _ hK => wp_clear_run w x t ho v hx hr (hK _ _ h)
/-- The block g begins with the n elements xs, k cells each; there is room for cap. -/
def OwnC (w : World) (B : Nat) (e : TypeId) (k g n cap : Nat) (xs : List Value) : Prop :=
  ∃ cur, B ≤ g ∧ w.heap[g]? = some (.cells cur e (0, 0)) ∧ n ≤ cap ∧ cap ≤ maxLen ∧ cap * k ≤ cur.size ∧ cur.toList.take (n * k) = xs ∧ xs.length = n * k
section
variable {w : World} {B k g n cap : Nat} {e : TypeId} {xs : List Value}
theorem OwnC.of_own (h : w.ownsRow B e k (.slice (some ⟨g, 0, none⟩) n cap) n xs) : OwnC w B e k g n cap xs := by
  rcases h.2 with ⟨h0, _⟩ | ⟨g', cap', cur, h0, hB, hc, hn, hm, hs, ht⟩
  · cases h0
  · cases h0
    exact ⟨cur, hB, hc, hn, hm, by omega, ht, h.1⟩
theorem own_make {cur : Array Value} (hB : B ≤ g) (hc : w.heap[g]? = some (.cells cur e (0, 0))) (hn : n ≤ cap) (hm : cap ≤ maxLen) (hs : cap * k ≤ cur.size) (ht : cur.toList.take (n * k) = xs) : OwnC w B e k g n cap xs := by
  refine ⟨cur, hB, hc, hn, hm, hs, ht, ?_⟩
  rw [← ht, List.length_take, Array.length_toList]
  exact Nat.min_eq_left (Nat.le_trans (Nat.mul_le_mul_right k hn) hs)
theorem OwnC.clip (h : OwnC w B e k g n cap xs) : OwnC w B e k g n n xs := by
  obtain ⟨cur, hB, hc, hn, hm, hs, ht, hl⟩ := h
  exact ⟨cur, hB, hc, Nat.le_refl _, by omega, Nat.le_trans (Nat.mul_le_mul_right k hn) hs, ht, hl⟩
theorem OwnC.down {B' : Nat} (h : OwnC w B e k g n cap xs) (hb : B' ≤ B) : OwnC w B' e k g n cap xs := by
  obtain ⟨cur, hB, rest⟩ := h
  exact ⟨cur, by omega, rest⟩
theorem OwnC.lt (h : OwnC w B e k g n cap xs) : B ≤ g ∧ g < w.heap.size := by
  obtain ⟨cur, hB, hc, _⟩ := h
  exact ⟨hB, (Array.getElem?_eq_some_iff.1 hc).1⟩
theorem OwnC.of_block {w' : World} (h : OwnC w B e k g n cap xs) (hb : w'.heap[g]? = w.heap[g]?) : OwnC w' B e k g n cap xs := by
  obtain ⟨cur, hB, hc, rest⟩ := h
  exact ⟨cur, hB, hb.trans hc, rest⟩
theorem OwnC.keep {w' : World} (h : OwnC w B e k g n cap xs) (hb : Below w.heap.size w w') : OwnC w' B e k g n cap xs := h.of_block (hb.block g h.lt.2)
theorem OwnC.alloc (h : OwnC w B e k g n cap xs) (o : Obj) : OwnC (w.alloc o) B e k g n cap xs := h.of_block (Below.heap_alloc w o g h.lt.2)
theorem OwnC.cellAt (h : OwnC w B e k g n cap xs) (j : Nat) (hj : j < n * k) : w.cell? ⟨g, j, none⟩ = xs[j]? := by
  obtain ⟨cur, hB, hc, hn, hm, hs, ht, hl⟩ := h
  rw [World.cell?]
  simp only [hc]
  rw [← ht, List.getElem?_take, if_pos hj]
  simp
theorem own_less (h : OwnC w B e k g n cap xs) {m : Nat} (hm : m ≤ n) : OwnC w B e k g m cap (xs.take (m * k)) := by
  obtain ⟨cur, hB, hc, hn, hx, hs, ht, hl⟩ := h
  refine own_make hB hc (by omega) hx hs ?_
  rw [← ht, List.take_take, Nat.min_eq_left (Nat.mul_le_mul_right k hm)]
theorem own_more (h : OwnC w B e k g n cap xs) (hr : n + 1 ≤ cap) : ∃ tail : List Value, tail.length = k ∧ OwnC w B e k g (n + 1) cap (xs ++ tail) := by
  obtain ⟨cur, hB, hc, hn, hx, hs, ht, hl⟩ := h
  have hk : (n + 1) * k ≤ cap * k := Nat.mul_le_mul_right k hr
  have hk1 : (n + 1) * k = n * k + k := Nat.succ_mul n k
  refine ⟨(cur.toList.drop (n * k)).take k, ?_, own_make hB hc hr hx hs ?_⟩
  · rw [List.length_take, List.length_drop, Array.length_toList]; omega
  · rw [hk1, List.take_add, ht]
theorem own_setRow (h : OwnC w B e k g n cap xs) (p : Nat) (cs : List Value) (hf : p + cs.length ≤ n * k) :
    ∃ cur : Array Value, w.heap[g]? = some (.cells cur e (0, 0)) ∧ p + cs.length ≤ cur.size ∧ OwnC (w.setRow g (cur.toList.take p ++ cs ++ cur.toList.drop (p + cs.length)).toArray) B e k g n cap (xs.take p ++ cs ++ xs.drop (p + cs.length)) ∧
      w.grownBy (w.setRow g (cur.toList.take p ++ cs ++ cur.toList.drop (p + cs.length)).toArray) (some g) := by
  obtain ⟨cur, hB, hc, hn, hx, hs, ht, hl⟩ := h
  have hk : n * k ≤ cap * k := Nat.mul_le_mul_right k hn
  have hcl : cur.toList.length = cur.size := Array.length_toList
  refine ⟨cur, hc, by omega, own_make hB (setRow_heap w g cur _ e (0, 0) hc) hn hx ?_ ?_, ?_⟩
  · simp only [List.size_toArray, List.length_append, List.length_take, List.length_drop, hcl]; omega
  · have hal : (cur.toList.take p ++ cs).length = p + cs.length := by rw [List.length_append, List.length_take, hcl]; omega
    rw [List.toList_toArray, List.take_append, List.take_of_length_le (by rw [hal]; exact hf), hal, ← List.drop_take, ht]
    congr 2
    rw [← ht, List.take_take, Nat.min_eq_left (by omega)]
  · refine ⟨rfl, rfl, rfl, by simp, fun j hj hne => setRow_other w g j _ (fun e => hne (by rw [e]))⟩
/-- append within the room. -/
theorem own_append {P : Program} (h : OwnC w B e k g n cap xs) (t : TypeId) (i : TypeInfo) (ht : P.underlying t = some (.slice e)) (hi : P.info? e = some i) (hsize : i.size = k)
    (a : Addr) (m : Nat) (news : List Value) (hl : news.length = m * k) (hnews : ∀ j u, news[j]? = some u → w.cell? (a.add j) = some u) (h1 : ∀ u ∈ news, u.oneCell' = true) (hroom : n + m ≤ cap) :
    ∃ w', (∀ ty c, (Builtin.append_ #[t, t] ty #[.slice (some ⟨g, 0, none⟩) n cap, .slice (some a) m c]).run P w = .ok (.slice (some ⟨g, 0, none⟩) (n + m) cap) w') ∧ OwnC w' B e k g (n + m) cap (xs ++ news) ∧ w.grownBy w' (some g) := by
  obtain ⟨cur, hB, hg, hnc, hcm, hcs, htake, hxl⟩ := h
  subst hsize
  have hk : (n + m) * i.size ≤ cap * i.size := Nat.mul_le_mul_right _ hroom
  have hka : (n + m) * i.size = n * i.size + m * i.size := Nat.add_mul _ _ _
  have hfit : n * i.size + news.length ≤ cur.size := by rw [hl]; omega
  refine ⟨_, fun ty c => run_append_room (P := P) w t ty e i ht hi g n cap cur hg a m c news hl hnews h1 hroom hfit, own_make hB (setRow_heap w g cur _ e _ hg) hroom hcm ?_ ?_, ⟨rfl, rfl, rfl, by simp, fun j _ hj => setRow_other w g j _ (fun e => hj (by simp [e]))⟩⟩
  · simp only [List.size_toArray, List.length_append, List.length_take, List.length_drop, Array.length_toList]
    omega
  · rw [List.toList_toArray, htake]
    exact List.take_left' (by rw [List.length_append, hxl, hl, hka])
/-- copy into the row, at place p. -/
theorem own_copy {P : Program} (h : OwnC w B e k g n cap xs) (dT sT : TypeId) (hu : P.underlying dT = some (.slice e)) (hsz : (P.info? e).map (·.size) = some k)
    (p dLen dCap : Nat) (a : Addr) (sLen sCap : Nat) (cs : List Value) (hn : cs.length = Nat.min sLen dLen * k) (hsrc : ∀ j v, cs[j]? = some v → w.cell? (a.add j) = some v) (hfit : p + cs.length ≤ n * k) (h1 : ∀ v ∈ cs, v.oneCell' = true) :
    ∃ w', (∀ ty, (Builtin.copy_ #[dT, sT] ty #[.slice (some ⟨g, p, none⟩) dLen dCap, .slice (some a) sLen sCap]).run P w = .ok (goInt (Nat.min sLen dLen)) w') ∧ OwnC w' B e k g n cap (xs.take p ++ cs ++ xs.drop (p + cs.length)) ∧ w.grownBy w' (some g) := by
  obtain ⟨cur, hc, hl, ho, hg⟩ := own_setRow h p cs hfit
  refine ⟨_, fun ty => ?_, ho, hg⟩
  have hst := run_storeCells_at (P := P) g p e cs 0 cur w hc (by omega) h1
  have hld := run_firstCells_some (P := P) w k (Nat.min sLen dLen) a sLen sCap cs hn hsrc
  rw [Nat.add_zero] at hst
  cases hq : P.info? e with
  | none => rw [hq] at hsz; cases hsz
  | some i =>
    have hi : i.size = k := by rw [hq] at hsz; simpa using hsz
    simp [Builtin.copy_, run_underlying hu, Builtin.lenOf, sizeOf, typeInfo, hq, hi, hld, hst]
/-- clear of the last m elements. -/
theorem own_clear {P : Program} (h : OwnC w B e k g n cap xs) (t : TypeId) (ht : P.underlying t = some (.slice e)) (z : Value) (hz : ∀ w, (zeroValue e).run P w = .ok z w) (hzs : z.cells.size = k) (h1 : ∀ v ∈ z.cells.toList, v.oneCell' = true)
    (p m : Nat) (hm : 0 < m) (hp : p + m * k = n * k) :
    ∃ w', (∀ ty c, (Builtin.clear_ #[t] ty #[.slice (some ⟨g, p, none⟩) m c]).run P w = .ok (.tuple #[]) w') ∧ (∃ zs, OwnC w' B e k g n cap (xs.take p ++ zs)) ∧ w.grownBy w' (some g) := by
  have hzl : (Builtin.zeroCells z.cells m).toList.length = m * k := by rw [← hzs]; simp [Builtin.zeroCells]
  have hz1 : ∀ v ∈ (Builtin.zeroCells z.cells m).toList, v.oneCell' = true := by
    intro v hv
    refine h1 v ?_
    simp [Builtin.zeroCells] at hv
    obtain ⟨i, hi, rfl⟩ := hv
    have hp : 0 < z.cells.size := by
      rcases Nat.eq_zero_or_pos z.cells.size with h0 | h0
      · rw [h0] at hi; simp at hi
      · exact h0
    have hlt : i % z.cells.size < z.cells.size := Nat.mod_lt _ hp
    rw [getElem!_pos z.cells _ hlt]
    simp
  obtain ⟨cur, hc, hl, ho, hg⟩ := own_setRow h p (Builtin.zeroCells z.cells m).toList (by rw [hzl]; omega)
  refine ⟨_, fun ty c => ?_, ⟨(Builtin.zeroCells z.cells m).toList ++ xs.drop (p + (Builtin.zeroCells z.cells m).toList.length), by rw [← List.append_assoc]; exact ho⟩, hg⟩
  have hst := run_storeCells_at (P := P) g p e (Builtin.zeroCells z.cells m).toList 0 cur w hc (by omega) hz1
  rw [Nat.add_zero] at hst
  obtain ⟨m', rfl⟩ : ∃ m', m = m' + 1 := ⟨m - 1, by omega⟩
  simp [Builtin.clear_, run_underlying ht, hz, hst]
end
/-- A slice of the call's own: nil, or at its block's head. -/
def OwnV (w : World) (B : Nat) (e : TypeId) (k : Nat) (v : Value) (n : Nat) (xs : List Value) : Prop :=
  (v = .slice none 0 0 ∧ n = 0 ∧ xs = []) ∨ ∃ g cap, v = .slice (some ⟨g, 0, none⟩) n cap ∧ OwnC w B e k g n cap xs
theorem OwnV.of_own {w : World} {B k n : Nat} {e : TypeId} {v : Value} {xs : List Value} (h : w.ownsRow B e k v n xs) : OwnV w B e k v n xs := by
  have h0 := h
  have hl := h.1
  rcases h.2 with ⟨rfl, rfl⟩ | ⟨g, cap, cur, rfl, _⟩
  · exact .inl ⟨rfl, rfl, List.eq_nil_of_length_eq_zero (by omega)⟩
  · exact .inr ⟨g, cap, rfl, OwnC.of_own h0⟩
theorem OwnV.len {w : World} {B k n : Nat} {e : TypeId} {v : Value} {xs : List Value} (h : OwnV w B e k v n xs) : xs.length = n * k := by
  rcases h with ⟨_, rfl, rfl⟩ | ⟨g, cap, _, cur, _, _, _, _, _, _, hl⟩
  · simp
  · exact hl
theorem OwnV.lt {w : World} {B k n : Nat} {e : TypeId} {v : Value} {xs : List Value} (h : OwnV w B e k v n xs) : ∀ b, v.ownBlock = some b → B ≤ b ∧ b < w.heap.size := by
  rcases h with ⟨rfl, _⟩ | ⟨g, cap, rfl, hc⟩
  · intro b h; cases h
  · intro b h; cases h; exact hc.lt
theorem OwnV.keep {w w' : World} {B k n : Nat} {e : TypeId} {v : Value} {xs : List Value} (h : OwnV w B e k v n xs) (hb : Below w.heap.size w w') : OwnV w' B e k v n xs := by
  rcases h with h | ⟨g, cap, h, hc⟩
  · exact .inl h
  · exact .inr ⟨g, cap, h, hc.keep hb⟩
theorem OwnV.form {w : World} {B k n : Nat} {e : TypeId} {v : Value} {xs : List Value} (h : OwnV w B e k v n xs) : ∃ a ca, v = .slice a n ca ∧ n ≤ ca ∧ ca ≤ 9223372036854775807 := by
  rcases h with ⟨rfl, rfl, _⟩ | ⟨g, cap, rfl, cur, _, _, hn, hm, _⟩
  · exact ⟨none, 0, rfl, by omega, by omega⟩
  · exact ⟨_, _, rfl, hn, hm⟩
theorem OwnV.clip {w : World} {B k n ca : Nat} {e : TypeId} {a : Option Addr} {xs : List Value} (h : OwnV w B e k (.slice a n ca) n xs) : OwnV w B e k (.slice a n n) n xs := by
  rcases h with ⟨h0, rfl, rfl⟩ | ⟨g, cap, h0, hc⟩
  · cases h0; exact .inl ⟨rfl, rfl, rfl⟩
  · cases h0; exact .inr ⟨g, n, rfl, hc.clip⟩
theorem ins_shift {xs tail ys : List Value} {p k N : Nat} (hx : xs.length = N) (ht : tail.length = k) (hy : ys.length = k) (hp : p ≤ N) :
    (((xs ++ tail).take (p + k) ++ xs.drop p ++ (xs ++ tail).drop (p + k + (xs.drop p).length)).take p ++ ys ++ ((xs ++ tail).take (p + k) ++ xs.drop p ++ (xs ++ tail).drop (p + k + (xs.drop p).length)).drop (p + ys.length)) = xs.take p ++ ys ++ xs.drop p := by
  have hl : (xs ++ tail).length = N + k := by rw [List.length_append, hx, ht]
  have hd : (xs.drop p).length = N - p := by rw [List.length_drop, hx]
  have h1 : (xs ++ tail).drop (p + k + (xs.drop p).length) = [] := List.drop_eq_nil_of_le (by rw [hl, hd]; omega)
  have h2 : ((xs ++ tail).take (p + k)).length = p + k := by rw [List.length_take, hl]; omega
  rw [h1, List.append_nil, hy, List.drop_left' h2, List.take_append_of_le_length (by rw [h2]; omega), List.take_take, Nat.min_eq_left (by omega), List.take_append_of_le_length (by rw [hx]; exact hp)]
theorem ins_grow {xs zs ys : List Value} {p k N : Nat} (hx : xs.length = N) (hz : zs.length = N - p + k) (hy : ys.length = k) (hp : p ≤ N) :
    (((xs.take p ++ zs).take p ++ ys ++ (xs.take p ++ zs).drop (p + ys.length)).take (p + k) ++ xs.drop p ++ ((xs.take p ++ zs).take p ++ ys ++ (xs.take p ++ zs).drop (p + ys.length)).drop (p + k + (xs.drop p).length)) = xs.take p ++ ys ++ xs.drop p := by
  have ht : (xs.take p).length = p := by rw [List.length_take, hx]; omega
  have hd : (xs.drop p).length = N - p := by rw [List.length_drop, hx]
  have h1 : (xs.take p ++ zs).take p = xs.take p := List.take_left' ht
  have h2 : (xs.take p ++ ys).length = p + k := by rw [List.length_append, ht, hy]
  have h3 : ((xs.take p ++ zs).drop (p + ys.length)).length = N - p := by rw [List.length_drop, List.length_append, ht, hz, hy]; omega
  have h4 : (xs.take p ++ ys ++ (xs.take p ++ zs).drop (p + ys.length)).drop (p + k + (xs.drop p).length) = [] := List.drop_eq_nil_of_le (by rw [List.length_append, h2, h3, hd]; omega)
  rw [h1, List.take_left' h2, h4, List.append_nil]
/-- What a function returns that makes a row of its own longer. -/
def OwnPost (w : World) (B : Nat) (e : TypeId) (k : Nat) (v : Value) (n : Nat) (xs : List Value) (r : Ending) (w' : World) : Prop :=
  ∃ g cap, r = .returned (.slice (some ⟨g, 0, none⟩) n cap) ∧ OwnC w' B e k g n cap xs ∧ w.grownBy w' v.ownBlock ∧ NewOr w v.ownBlock g
theorem shape_of {w : World} {b : Nat} {c : Array Value} {t : TypeId} (h : w.heap[b]? = some (.cells c t (0, 0))) : w.shape? b = some (t, c.size) := by simp [World.shape?, h]
theorem frozen_of {w : World} {b : Nat} {c : Array Value} {t : TypeId} (h : w.heap[b]? = some (.cells c t (0, 0))) (o : Nat) : w.frozen? ⟨b, o, none⟩ = false := by simp [World.frozen?, h]
theorem grown_up {w w1 w2 : World} {r : Option Nat} (h : w.drew.grownBy w1 r) (g : w1.grownBy w2 r) : w.grownBy w2 r := ⟨(h.trans g).os, (h.trans g).tape, (h.trans g).output, (h.trans g).size, (h.trans g).block⟩
end Go.Proofs.Ytipmegkmkbbklaa
