/- Parts of the proof, no condition: Kit, Own, OrdM, Stb, StMath, EventsMath, FdMath, StErr, Less, StKey. -/
import Derived.Test.YthdiccdnggloiaaGreatDoorProg
import Derived.WalkKit
import Derived.WalkSpells
import Derived.WalkLawsBesides
import Derived.Deep.QuietTactic
import Derived.BigQuiet
import Derived.Lib.Hide
import Derived.Lib.QuietBelow
import Derived.Deep.LoopGhost
import Derived.Deep.OwnRows
import Derived.Outline
import Derived.Maps.AppendAt
import Derived.Deep.RegionHeld
import Derived.OwnWalk
import Derived.Laws.IdiomCopy
import Derived.Lib.AppendZeros
import Derived.Deep.RegionLaw
import Derived.ArgAppend
import Derived.Deep.MidRow
import Derived.BigRegion
import Derived.Maps.RangeWalk
import Derived.Deep.Cut
set_option linter.unusedSimpArgs false
set_option linter.unusedVariables false
namespace Go.Proofs.YthdiccdnggloiaaGreatDoor
open Go.RowKit Go.Sort
theorem ret_int {k : IntKind} {a b : Int} (h : a = b) : Ending.returned (.int k a) = .returned (.int k b) := by rw [h]
theorem ret_bool {a b : Bool} (h : a = b) : Ending.returned (.bool a) = .returned (.bool b) := by rw [h]
theorem below_drewN {B : Nat} {a w : World} (h : Below B a w) (n : Nat) : Below B a (w.drewN n) := ⟨h.os, h.tape, h.output, h.size, h.block⟩
theorem below_up {a b c : World} (h : Below a.heap.size a b) (g : Below b.heap.size b c) : Below a.heap.size a c := h.trans (g.mono h.size)
theorem regrown_same {P : Program} {f : FuncId} {args : Array Value} {w : World} {d : Nat} {os : Array Obj} {v : Value}
  (h : Calls P f args (grow (redrawn w d) os) fun e w' => e = .returned v ∧ grow (redrawn w d) os = w') : Calls P f args (grow (redrawn w d) os) fun e w'' => e = .returned v ∧ ∃ p : Regrown, w'' = grow (redrawn w p.d) p.os :=
 Calls.regrown_of (h.mono fun _ _ h => ⟨h.1, by rw [← h.2]; exact Below.refl _ _⟩)
def Blk (w : World) (b : Nat) (c : Array Value) (t : TypeId) : Prop := w.heap[b]? = some (.cells c t (0, 0))
namespace Blk
variable {w w' : World} {b : Nat} {c : Array Value} {t : TypeId}
theorem cell (h : Blk w b c t) (i : Nat) : w.cell? ⟨b, i, none⟩ = c[i]? := by
 unfold Blk at h; simp [World.cell?, h]
theorem frozen (h : Blk w b c t) (i : Nat) : w.frozen? ⟨b, i, none⟩ = false := by
 unfold Blk at h; simp [World.frozen?, h]
theorem lt (h : Blk w b c t) : b < w.heap.size := (Array.getElem?_eq_some_iff.1 h).1
theorem of_block (h : Blk w b c t) (e : w'.heap[b]? = w.heap[b]?) : Blk w' b c t := e.trans h
theorem keep (h : Blk w b c t) (hb : Below w.heap.size w w') : Blk w' b c t := h.of_block (hb.block b h.lt)
theorem grown {row : Option Nat} (h : Blk w b c t) (hg : w.grownBy w' row) (hne : some b ≠ row) : Blk w' b c t := h.of_block (hg.block b h.lt hne)
theorem alloc (h : Blk w b c t) (o : Obj) : Blk (w.alloc o) b c t := h.of_block (Below.heap_alloc w o b h.lt)
theorem drew (h : Blk w b c t) : Blk w.drew b c t := h
theorem drewN (h : Blk w b c t) (n : Nat) : Blk (w.drewN n) b c t := h
theorem setOther (h : Blk w b c t) {a : Addr} (ha : b ≠ a.block) (v : Value) : Blk (w.setCell a v) b c t := h.of_block (Below.heap_setCell w a v b ha)
theorem set (h : Blk w b c t) (i : Nat) (v : Value) : Blk (w.setCell ⟨b, i, none⟩ v) b (c.setIfInBounds i v) t := by
 unfold Blk at *; simp [World.setCell, Array.getElem?_modify, h]
theorem new (w : World) (c : Array Value) (t : TypeId) : Blk (w.alloc (.cells c t)) w.heap.size c t := by
 unfold Blk; exact heap_alloc_new w _
theorem one {x : Value} (h : Blk w b #[x] t) : w.cell? ⟨b, 0, none⟩ = some x := by rw [h.cell]; rfl
theorem two {x y : Value} (h : Blk w b #[x, y] t) : w.cell? ⟨b, 0, none⟩ = some x ∧ w.cell? ⟨b, 1, none⟩ = some y := ⟨by rw [h.cell]; rfl, by rw [h.cell]; rfl⟩
theorem free (h : Blk w b c t) : ∀ i, w.frozen? ⟨b, i, none⟩ = false := fun i => h.frozen i
end Blk
theorem box (w : World) (c : Array Value) (t : TypeId) : ∃ W1, w.alloc (.cells c t) = W1 ∧ Blk W1 w.heap.size c t ∧ W1.heap.size = w.heap.size + 1 ∧ Below w.heap.size w W1 :=
 ⟨_, rfl, Blk.new _ _ _, by simp, (Below.refl _ _).alloc (Nat.le_refl _) _⟩
end Go.Proofs.YthdiccdnggloiaaGreatDoor
namespace Go.Proofs.YthdiccdnggloiaaGreatDoor
open Go.RowKit
theorem ownsRow_down {w : World} {base base' : Nat} {e : TypeId} {size : Nat} {v : Value} {n : Nat} {xs : List Value} (h : w.ownsRow base e size v n xs) (hb : base' ≤ base) : w.ownsRow base' e size v n xs := by
 refine ⟨h.1, ?_⟩
 rcases h.2 with hn | ⟨g, cap, cur, rfl, hg, rest⟩
 ·exact .inl hn
 ·exact .inr ⟨g, cap, cur, rfl, Nat.le_trans hb hg, rest⟩
def NewOr (w : World) (old : Option Nat) (g : Nat) : Prop := old = some g ∨ w.heap.size ≤ g
theorem Blk.beside {w w' : World} {b : Nat} {c : Array Value} {t : TypeId} {old : Option Nat} (h : Blk w b c t) (hg : w.grownBy w' old) (hne : old ≠ some b) : Blk w' b c t :=
 h.grown hg (fun e => hne e.symm)
end Go.Proofs.YthdiccdnggloiaaGreatDoor
namespace Go.Proofs.YthdiccdnggloiaaGreatDoor
open Go
section
variable {P : Program} {ops : Array Oper} {Q : Exit → Act → World → Prop} {md : Region.Mode} {C : World → Prop} {m : Nat}
def Until (C : World → Prop) (m : Nat) (l : Array Bool) (w : World) : Prop := l.getD m true = false → C w
def anyM (P : Program) (md : Region.Mode) (ops : Array Oper) (Q : Exit → Act → World → Prop) (C : World → Prop) (m : Nat) : Nat → Array Bool → Act → World → Prop
 | 0, l, a, w => Region.ready md ops l = [] ∧ Q .normal a w
 | f + 1, l, a, w => (Region.ready md ops l = [] → Q .normal a w) ∧ ∀ i ∈ Region.ready md ops l, wpOp P ops Q i (fun a' w' => Until C m (l.setIfInBounds i true) w' ∧ anyM P md ops Q C m f (l.setIfInBounds i true) a' w') a w
theorem anyM_any : ∀ (f : Nat) (l : Array Bool) (a : Act) (w : World), anyM P md ops Q C m f l a w → wpAny P md ops Q f l a w
 | 0, _, _, _, h => h
 | f + 1, _, _, _, h => ⟨h.1, fun i hi => wpOp_mono (fun a' w' h' => anyM_any f _ a' w' h'.2) (h.2 i hi)⟩
theorem both_no {l : Array Bool} {i : Nat} (h : l.getD i true = false) (g : l.getD i false = true) : False := by
 rcases Nat.lt_or_ge i l.size with h' | h'
 ·simp [h'] at h g; rw [h] at g; cases g
 ·simp [Array.getElem?_eq_none h'] at g
theorem anyM_first {i : Nat} {oi om : Oper} {v : Value} (hi : ops[i]? = some oi) (hom : ops[m]? = some om) (hwait : ∃ e ∈ om.after, Region.binds md e = true ∧ e.on = i) (him : i ≠ m)
  (hsel : ∀ (j : Nat) (o : Oper) cs b, ops[j]? = some o → o.op ≠ .select cs b) (hQ : ∀ c a w, Q (.panic c) (a.put oi.dst v) w → Q (.panic c) a w) :
  ∀ (f : Nat) (l : Array Bool) (a : Act) (w : World),
    (∀ j oj, ops[j]? = some oj → j ≠ i → l.getD j true = false → (∀ e ∈ oj.after, Region.binds md e = true → e.on ≠ i) → oi.apart ops oj = true) →
    i ∈ Region.ready md ops l → YieldsIf P ops C oi v a → l.getD m true = false → C w →
    anyM P md ops Q C m f (l.setIfInBounds i true) (a.put oi.dst v) w → anyM P md ops Q C m (f + 1) l a w := by
 have one : ∀ (f : Nat) (l : Array Bool) (a : Act) (w : World), YieldsIf P ops C oi v a → C w → anyM P md ops Q C m f (l.setIfInBounds i true) (a.put oi.dst v) w →
   wpOp P ops Q i (fun a' w' => Until C m (l.setIfInBounds i true) w' ∧ anyM P md ops Q C m f (l.setIfInBounds i true) a' w') a w :=
  fun f l a w hy hC H => hy.wpOp hi hC ⟨fun _ => hC, H⟩
 intro f
 induction f with
 | zero =>
   intro l a w _ hr hy _ hC H
   refine ⟨fun h => (by rw [h] at hr; cases hr), fun j hj => ?_⟩
   by_cases hji : j = i
   ·subst hji; exact one 0 l a w hy hC H
   ·have := ready_mono hj hji
    rw [H.1] at this; cases this
 | succ f ih =>
   intro l a w hfree hr hy hm hC H
   refine ⟨fun h => (by rw [h] at hr; cases hr), fun j hj => ?_⟩
   by_cases hji : j = i
   ·subst hji; exact one (f + 1) l a w hy hC H
   ·obtain ⟨hjun, oj, hoj, hall⟩ := mem_ready.1 hj
    have hiun := (mem_ready.1 hr).1
    have hno : ∀ e ∈ oj.after, Region.binds md e = true → e.on ≠ i := fun e he hb heq => both_no hiun (heq ▸ hall e he hb)
    have hjm : j ≠ m := by
     rintro rfl
     rw [hom] at hoj
     injection hoj with hoj
     subst hoj
     obtain ⟨e, he, hb, heq⟩ := hwait
     exact hno e he hb heq
    have hstep := wpOp_putIf hoj (hfree j oj hoj hji hjun hno) (fun cs b => hsel i oi cs b hi) (fun cs b => hsel j oj cs b hoj) hQ hy (H.2 j (ready_mono hj hji))
    have hm' : (l.setIfInBounds j true).getD m true = false := by rw [getD_set_ne true hjm]; exact hm
    have hm2 : ((l.setIfInBounds i true).setIfInBounds j true).getD m true = false := by rw [getD_set_ne true hjm, getD_set_ne true him]; exact hm
    refine wpOp_mono (fun a' w' h3 => ⟨fun _ => h3.2.1 hm2, ih (l.setIfInBounds j true) a' w' (fun k ok hk hki hun hno' => ?_) (ready_mono hr (Ne.symm hji)) h3.1 hm' (h3.2.1 hm2) ?_⟩) hstep
    ·refine hfree k ok hk hki ?_ hno'
     by_cases hjk : j = k
     ·subst hjk; exact hjun
     ·rw [getD_set_ne true hjk] at hun; exact hun
    ·rw [Array.setIfInBounds_comm _ _ hji]
     exact h3.2.2
theorem anyM_take {i : Nat} {oi om : Oper} {v : Value} {f : Nat} {l : Array Bool} {a : Act} {w : World} (hi : ops[i]? = some oi) (hom : ops[m]? = some om) (hwait : (om.after.any fun e => Region.binds md e && e.on == i) = true) (him : i ≠ m)
  (hs : Region.noSelect ops = true) (hf : Region.free md ops l i = true) (hr : (Region.ready md ops l).contains i = true)
  (hQ : ∀ c a w, Q (.panic c) (a.put oi.dst v) w → Q (.panic c) a w) (hy : YieldsIf P ops C oi v a) (hm : l.getD m true = false) (hC : C w)
  (h : anyM P md ops Q C m f (l.setIfInBounds i true) (a.put oi.dst v) w) : anyM P md ops Q C m (f + 1) l a w :=
 anyM_first hi hom (by
  obtain ⟨k, hk, hb⟩ := Array.any_eq_true.1 hwait
  rw [Bool.and_eq_true] at hb
  exact ⟨_, Array.getElem_mem hk, hb.1, by simpa using hb.2⟩) him (Region.noSelect_spec hs) hQ f l a w (Region.free_spec hi hf) (by simpa using hr) hy hm hC h
theorem anyM_first0 {i : Nat} {oi : Oper} {v : Value} (hi : ops[i]? = some oi) (him : i ≠ m)
  (hsel : ∀ (j : Nat) (o : Oper) cs b, ops[j]? = some o → o.op ≠ .select cs b) (hQ : ∀ c a w, Q (.panic c) (a.put oi.dst v) w → Q (.panic c) a w) :
  ∀ (f : Nat) (l : Array Bool) (a : Act) (w : World),
    (∀ j oj, ops[j]? = some oj → j ≠ i → l.getD j true = false → (∀ e ∈ oj.after, Region.binds md e = true → e.on ≠ i) → oi.apart ops oj = true) →
    i ∈ Region.ready md ops l → YieldsIf P ops (fun _ => True) oi v a → Until C m l w →
    anyM P md ops Q C m f (l.setIfInBounds i true) (a.put oi.dst v) w → anyM P md ops Q C m (f + 1) l a w := by
 have one : ∀ (f : Nat) (l : Array Bool) (a : Act) (w : World), YieldsIf P ops (fun _ => True) oi v a → Until C m l w → anyM P md ops Q C m f (l.setIfInBounds i true) (a.put oi.dst v) w →
   wpOp P ops Q i (fun a' w' => Until C m (l.setIfInBounds i true) w' ∧ anyM P md ops Q C m f (l.setIfInBounds i true) a' w') a w :=
  fun f l a w hy hU H => hy.wpOp hi trivial ⟨fun h => hU (by rwa [getD_set_ne true him] at h), H⟩
 intro f
 induction f with
 | zero =>
   intro l a w _ hr hy hU H
   refine ⟨fun h => (by rw [h] at hr; cases hr), fun j hj => ?_⟩
   by_cases hji : j = i
   ·subst hji; exact one 0 l a w hy hU H
   ·have := ready_mono hj hji
    rw [H.1] at this; cases this
 | succ f ih =>
   intro l a w hfree hr hy hU H
   refine ⟨fun h => (by rw [h] at hr; cases hr), fun j hj => ?_⟩
   by_cases hji : j = i
   ·subst hji; exact one (f + 1) l a w hy hU H
   ·obtain ⟨hjun, oj, hoj, hall⟩ := mem_ready.1 hj
    have hiun := (mem_ready.1 hr).1
    have hno : ∀ e ∈ oj.after, Region.binds md e = true → e.on ≠ i := fun e he hb heq => both_no hiun (heq ▸ hall e he hb)
    have hstep := wpOp_putIf (S := fun _ => True) hoj (hfree j oj hoj hji hjun hno) (fun cs b => hsel i oi cs b hi) (fun cs b => hsel j oj cs b hoj) hQ hy (H.2 j (ready_mono hj hji))
    refine wpOp_mono (fun a' w' h3 => ?_) hstep
    have hU2 : Until C m (l.setIfInBounds j true) w' := fun hm => h3.2.1 (by rw [Array.setIfInBounds_comm _ _ (Ne.symm hji), getD_set_ne true him]; exact hm)
    refine ⟨hU2, ih (l.setIfInBounds j true) a' w' (fun k ok hk hki hun hno' => ?_) (ready_mono hr (Ne.symm hji)) h3.1 hU2 ?_⟩
    ·refine hfree k ok hk hki ?_ hno'
     by_cases hjk : j = k
     ·subst hjk; exact hjun
     ·rw [getD_set_ne true hjk] at hun; exact hun
    ·rw [Array.setIfInBounds_comm _ _ hji]
     exact h3.2.2
theorem anyM_take0 {i : Nat} {oi : Oper} {v : Value} {f : Nat} {l : Array Bool} {a : Act} {w : World} (hi : ops[i]? = some oi) (him : i ≠ m)
  (hs : Region.noSelect ops = true) (hf : Region.free md ops l i = true) (hr : (Region.ready md ops l).contains i = true)
  (hQ : ∀ c a w, Q (.panic c) (a.put oi.dst v) w → Q (.panic c) a w) (hy : YieldsIf P ops (fun _ => True) oi v a) (hU : Until C m l w)
  (h : anyM P md ops Q C m f (l.setIfInBounds i true) (a.put oi.dst v) w) : anyM P md ops Q C m (f + 1) l a w :=
 anyM_first0 hi him (Region.noSelect_spec hs) hQ f l a w (Region.free_spec hi hf) (by simpa using hr) hy hU h
def ReadyM (P : Program) (md : Region.Mode) (ops : Array Oper) (Q : Exit → Act → World → Prop) (C : World → Prop) (m : Nat) (f : Nat) (l : Array Bool) (a : Act) (w : World) (rs : List Nat) : Prop :=
 ∀ i ∈ rs, wpOp P ops Q i (fun a' w' => Until C m (l.setIfInBounds i true) w' ∧ anyM P md ops Q C m f (l.setIfInBounds i true) a' w') a w
theorem ReadyM.nil {f : Nat} {l : Array Bool} {a : Act} {w : World} : ReadyM P md ops Q C m f l a w [] := fun _ h => by cases h
theorem ReadyM.cons {f : Nat} {l : Array Bool} {a : Act} {w : World} {i : Nat} {o : Oper} {rs : List Nat} (ho : ops[i]? = some o)
  (h : ∀ K' : Act → World → Prop, Shut (∀ a w, Until C m (l.setIfInBounds i true) w → anyM P md ops Q C m f (l.setIfInBounds i true) a w → K' a w) → if Region.wanted o (yielded ops a.tmps) = true then Oper.wp P o a w K' Q else K' (a.put o.dst undef) w)
  (hs : ReadyM P md ops Q C m f l a w rs) : ReadyM P md ops Q C m f l a w (i :: rs) := fun j hj => by
 rcases List.mem_cons.1 hj with rfl | hj
 ·exact wpOp_step ho (fun K' hK => h K' (fun a w hS hW => hK a w ⟨hS, hW⟩))
 ·exact hs j hj
theorem anyM_ready {rs : List Nat} {f : Nat} {l : Array Bool} {a : Act} {w : World} (hr : Region.ready md ops l = rs) (hne : rs ≠ []) (h : ReadyM P md ops Q C m f l a w rs) : anyM P md ops Q C m (f + 1) l a w :=
 ⟨fun h0 => absurd (hr ▸ h0) hne, hr ▸ h⟩
theorem anyM_done {l : Array Bool} {a : Act} {w : World} (hr : Region.ready md ops l = []) (h : Q .normal a w) : ∀ f, anyM P md ops Q C m f l a w
 | 0 => ⟨hr, h⟩
 | _ + 1 => ⟨fun _ => h, by rw [hr]; simp⟩
theorem wp_region_until {id : Nat} {a : Act} {w : World} (C : World → Prop) (m : Nat) (hm : P.follows .mixedOrders = true)
  (h : anyM P .any ops Q C m ops.size (Array.replicate ops.size false) a w.drew) : (Code.region id ops true).wp P Q a w :=
 wp_region_any hm (anyM_any _ _ _ _ h)
end
end Go.Proofs.YthdiccdnggloiaaGreatDoor
namespace Go.Proofs.YthdiccdnggloiaaGreatDoor
open Go.RowKit
theorem wp_copy_run {P : Program} (w : World) {o : Oper} {a : Act} {K : Act → World → Prop} {Q : Exit → Act → World → Prop} (d s : Operand) (t t' : TypeId)
  (ho : o.op = .call { callee := .builtin .copy, args := #[d, s], argTypes := #[t, t'] }) (v u : Value) (hd : a.eval d = v) (hs : a.eval s = u) {v' : Value} {w' : World}
  (hr : (Builtin.copy_ #[t, t'] o.type #[v, u]).run P w = .ok v' w') (h : K (a.put o.dst v') w') : o.wp P a w K Q := by
 unfold Oper.wp execOp
 simp only [ho, resolve, invoke, builtin, Sem.run_bind, Sem.run_pure, Result.andThen_ok, List.map_toArray, List.map_cons, List.map_nil, hd, hs, hr]
 exact h
theorem wpList_copy_run {P : Program} (w : World) {ops : Array Oper} {rest : List Oper} {o : Oper} {a : Act} {Q : Exit → Act → World → Prop} (hgd : o.guard = none) (d s : Operand) (t t' : TypeId)
  (ho : o.op = .call { callee := .builtin .copy, args := #[d, s], argTypes := #[t, t'] }) (v u : Value) (hd : a.eval d = v) (hs : a.eval s = u) {v' : Value} {w' : World}
  (hr : (Builtin.copy_ #[t, t'] o.type #[v, u]).run P w = .ok v' w') (h : wpList P ops Q rest (a.put o.dst v') w') : wpList P ops Q (o :: rest) a w :=
 wpList_plain hgd fun _ hK => wp_copy_run w d s t t' ho v u hd hs hr (hK _ _ h)
theorem step_copy_run {P : Program} {ops : Array Oper} {o : Oper} {a : Act} {w : World} {K : Act → World → Prop} {Q : Exit → Act → World → Prop} {E : Prop}
  (hg : o.guard = none) (d x : Operand) (dT sT : TypeId) (hop : o.op = Op.call { callee := Callee.builtin Builtin.copy, args := #[d, x], argTypes := #[dT, sT] })
  (v u : Value) (hd : a.eval d = v) (hx : a.eval x = u) {v' : Value} {w' : World} (hr : (Builtin.copy_ #[dT, sT] o.type #[v, u]).run P w = .ok v' w') (hK : K (a.put o.dst v') w') :
  if Region.wanted o (yielded ops a.tmps) = true then Oper.wp P o a w K Q else E := by
 have hw : Region.wanted o (yielded ops a.tmps) = true := by simp [Region.wanted, hg]
 rw [if_pos hw]
 exact wp_copy_run w d x dT sT hop v u hd hx hr hK
theorem step_append_run {P : Program} {ops : Array Oper} {o : Oper} {a : Act} {w : World} {K : Act → World → Prop} {Q : Exit → Act → World → Prop} {E : Prop}
  (hg : o.guard = none) (s x : Operand) (t tn : TypeId) (hop : o.op = Op.call { callee := Callee.builtin Builtin.append, args := #[s, x], argTypes := #[t, tn] })
  (v u : Value) (hs : a.eval s = v) (hx : a.eval x = u) {v' : Value} {w' : World} (hr : (Builtin.append_ #[t, tn] o.type #[v, u]).run P w = .ok v' w') (hK : K (a.put o.dst v') w') :
  if Region.wanted o (yielded ops a.tmps) = true then Oper.wp P o a w K Q else E := by
 have hw : Region.wanted o (yielded ops a.tmps) = true := by simp [Region.wanted, hg]
 rw [if_pos hw]
 exact Lib.wp_append_run w s x t tn hop v u hs hx v' w' hr hK
theorem wp_clear_run {P : Program} (w : World) {o : Oper} {a : Act} {K : Act → World → Prop} {Q : Exit → Act → World → Prop} (x : Operand) (t : TypeId)
  (ho : o.op = .call { callee := .builtin .clear, args := #[x], argTypes := #[t] }) (v : Value) (hx : a.eval x = v) {v' : Value} {w' : World}
  (hr : (Builtin.clear_ #[t] o.type #[v]).run P w = .ok v' w') (h : K (a.put o.dst v') w') : o.wp P a w K Q := by
 unfold Oper.wp execOp
 simp only [ho, resolve, invoke, builtin, Sem.run_bind, Sem.run_pure, Result.andThen_ok, List.map_toArray, List.map_cons, List.map_nil, hx, hr]
 exact h
theorem wpList_clear_run {P : Program} (w : World) {ops : Array Oper} {rest : List Oper} {o : Oper} {a : Act} {Q : Exit → Act → World → Prop} (hgd : o.guard = none) (x : Operand) (t : TypeId)
  (ho : o.op = .call { callee := .builtin .clear, args := #[x], argTypes := #[t] }) (v : Value) (hx : a.eval x = v) {v' : Value} {w' : World}
  (hr : (Builtin.clear_ #[t] o.type #[v]).run P w = .ok v' w') (h : wpList P ops Q rest (a.put o.dst v') w') : wpList P ops Q (o :: rest) a w :=
 wpList_plain hgd fun _ hK => wp_clear_run w x t ho v hx hr (hK _ _ h)
def OwnC (w : World) (B : Nat) (e : TypeId) (k g n cap : Nat) (xs : List Value) : Prop :=
 ∃ cur, B ≤ g ∧ w.heap[g]? = some (.cells cur e (0, 0)) ∧ n ≤ cap ∧ cap ≤ maxLen ∧ cap * k ≤ cur.size ∧ cur.toList.take (n * k) = xs ∧ xs.length = n * k
section
variable {w : World} {B k g n cap : Nat} {e : TypeId} {xs : List Value}
theorem OwnC.of_own (h : w.ownsRow B e k (.slice (some ⟨g, 0, none⟩) n cap) n xs) : OwnC w B e k g n cap xs := by
 rcases h.2 with ⟨h0, _⟩ | ⟨g', cap', cur, h0, hB, hc, hn, hm, hs, ht⟩
 ·cases h0
 ·cases h0
  exact ⟨cur, hB, hc, hn, hm, by omega, ht, h.1⟩
theorem own_make {cur : Array Value} (hB : B ≤ g) (hc : w.heap[g]? = some (.cells cur e (0, 0))) (hn : n ≤ cap) (hm : cap ≤ maxLen) (hs : cap * k ≤ cur.size) (ht : cur.toList.take (n * k) = xs) : OwnC w B e k g n cap xs := by
 refine ⟨cur, hB, hc, hn, hm, hs, ht, ?_⟩
 rw [← ht, List.length_take, Array.length_toList]
 exact Nat.min_eq_left (Nat.le_trans (Nat.mul_le_mul_right k hn) hs)
theorem OwnC.clip (h : OwnC w B e k g n cap xs) : OwnC w B e k g n n xs := by
 obtain ⟨cur, hB, hc, hn, hm, hs, ht, hl⟩ := h
 exact ⟨cur, hB, hc, Nat.le_refl _, by omega, Nat.le_trans (Nat.mul_le_mul_right k hn) hs, ht, hl⟩
theorem OwnC.down {B' : Nat} (h : OwnC w B e k g n cap xs) (hb : B' ≤ B) : OwnC w B' e k g n cap xs := by
 obtain ⟨cur, hB, rest⟩ := h
 exact ⟨cur, by omega, rest⟩
theorem OwnC.lt (h : OwnC w B e k g n cap xs) : B ≤ g ∧ g < w.heap.size := by
 obtain ⟨cur, hB, hc, _⟩ := h
 exact ⟨hB, (Array.getElem?_eq_some_iff.1 hc).1⟩
theorem OwnC.of_block {w' : World} (h : OwnC w B e k g n cap xs) (hb : w'.heap[g]? = w.heap[g]?) : OwnC w' B e k g n cap xs := by
 obtain ⟨cur, hB, hc, rest⟩ := h
 exact ⟨cur, hB, hb.trans hc, rest⟩
theorem OwnC.keep {w' : World} (h : OwnC w B e k g n cap xs) (hb : Below w.heap.size w w') : OwnC w' B e k g n cap xs := h.of_block (hb.block g h.lt.2)
theorem OwnC.alloc (h : OwnC w B e k g n cap xs) (o : Obj) : OwnC (w.alloc o) B e k g n cap xs := h.of_block (Below.heap_alloc w o g h.lt.2)
theorem OwnC.cellAt (h : OwnC w B e k g n cap xs) (j : Nat) (hj : j < n * k) : w.cell? ⟨g, j, none⟩ = xs[j]? := by
 obtain ⟨cur, hB, hc, hn, hm, hs, ht, hl⟩ := h
 rw [World.cell?]
 simp only [hc]
 rw [← ht, List.getElem?_take, if_pos hj]
 simp
theorem own_less (h : OwnC w B e k g n cap xs) {m : Nat} (hm : m ≤ n) : OwnC w B e k g m cap (xs.take (m * k)) := by
 obtain ⟨cur, hB, hc, hn, hx, hs, ht, hl⟩ := h
 refine own_make hB hc (by omega) hx hs ?_
 rw [← ht, List.take_take, Nat.min_eq_left (Nat.mul_le_mul_right k hm)]
theorem own_more (h : OwnC w B e k g n cap xs) (hr : n + 1 ≤ cap) : ∃ tail : List Value, tail.length = k ∧ OwnC w B e k g (n + 1) cap (xs ++ tail) := by
 obtain ⟨cur, hB, hc, hn, hx, hs, ht, hl⟩ := h
 have hk : (n + 1) * k ≤ cap * k := Nat.mul_le_mul_right k hr
 have hk1 : (n + 1) * k = n * k + k := Nat.succ_mul n k
 refine ⟨(cur.toList.drop (n * k)).take k, ?_, own_make hB hc hr hx hs ?_⟩
 ·rw [List.length_take, List.length_drop, Array.length_toList]; omega
 ·rw [hk1, List.take_add, ht]
theorem own_setRow (h : OwnC w B e k g n cap xs) (p : Nat) (cs : List Value) (hf : p + cs.length ≤ n * k) :
  ∃ cur : Array Value, w.heap[g]? = some (.cells cur e (0, 0)) ∧ p + cs.length ≤ cur.size ∧ OwnC (w.setRow g (cur.toList.take p ++ cs ++ cur.toList.drop (p + cs.length)).toArray) B e k g n cap (xs.take p ++ cs ++ xs.drop (p + cs.length)) ∧
    w.grownBy (w.setRow g (cur.toList.take p ++ cs ++ cur.toList.drop (p + cs.length)).toArray) (some g) := by
 obtain ⟨cur, hB, hc, hn, hx, hs, ht, hl⟩ := h
 have hk : n * k ≤ cap * k := Nat.mul_le_mul_right k hn
 have hcl : cur.toList.length = cur.size := Array.length_toList
 refine ⟨cur, hc, by omega, own_make hB (setRow_heap w g cur _ e (0, 0) hc) hn hx ?_ ?_, ?_⟩
 ·simp only [List.size_toArray, List.length_append, List.length_take, List.length_drop, hcl]; omega
 ·have hal : (cur.toList.take p ++ cs).length = p + cs.length := by rw [List.length_append, List.length_take, hcl]; omega
  rw [List.toList_toArray, List.take_append, List.take_of_length_le (by rw [hal]; exact hf), hal, ← List.drop_take, ht]
  congr 2
  rw [← ht, List.take_take, Nat.min_eq_left (by omega)]
 ·refine ⟨rfl, rfl, rfl, by simp, fun j hj hne => setRow_other w g j _ (fun e => hne (by rw [e]))⟩
theorem own_append {P : Program} (h : OwnC w B e k g n cap xs) (t : TypeId) (i : TypeInfo) (ht : P.underlying t = some (.slice e)) (hi : P.info? e = some i) (hsize : i.size = k)
  (a : Addr) (m : Nat) (news : List Value) (hl : news.length = m * k) (hnews : ∀ j u, news[j]? = some u → w.cell? (a.add j) = some u) (h1 : ∀ u ∈ news, u.oneCell' = true) (hroom : n + m ≤ cap) :
  ∃ w', (∀ ty c, (Builtin.append_ #[t, t] ty #[.slice (some ⟨g, 0, none⟩) n cap, .slice (some a) m c]).run P w = .ok (.slice (some ⟨g, 0, none⟩) (n + m) cap) w') ∧ OwnC w' B e k g (n + m) cap (xs ++ news) ∧ w.grownBy w' (some g) := by
 obtain ⟨cur, hB, hg, hnc, hcm, hcs, htake, hxl⟩ := h
 subst hsize
 have hk : (n + m) * i.size ≤ cap * i.size := Nat.mul_le_mul_right _ hroom
 have hka : (n + m) * i.size = n * i.size + m * i.size := Nat.add_mul _ _ _
 have hfit : n * i.size + news.length ≤ cur.size := by rw [hl]; omega
 refine ⟨_, fun ty c => run_append_room (P := P) w t ty e i ht hi g n cap cur hg a m c news hl hnews h1 hroom hfit, own_make hB (setRow_heap w g cur _ e _ hg) hroom hcm ?_ ?_, ⟨rfl, rfl, rfl, by simp, fun j _ hj => setRow_other w g j _ (fun e => hj (by simp [e]))⟩⟩
 ·simp only [List.size_toArray, List.length_append, List.length_take, List.length_drop, Array.length_toList]
  omega
 ·rw [List.toList_toArray, htake]
  exact List.take_left' (by rw [List.length_append, hxl, hl, hka])
theorem own_copy {P : Program} (h : OwnC w B e k g n cap xs) (dT sT : TypeId) (hu : P.underlying dT = some (.slice e)) (hsz : (P.info? e).map (·.size) = some k)
  (p dLen dCap : Nat) (a : Addr) (sLen sCap : Nat) (cs : List Value) (hn : cs.length = Nat.min sLen dLen * k) (hsrc : ∀ j v, cs[j]? = some v → w.cell? (a.add j) = some v) (hfit : p + cs.length ≤ n * k) (h1 : ∀ v ∈ cs, v.oneCell' = true) :
  ∃ w', (∀ ty, (Builtin.copy_ #[dT, sT] ty #[.slice (some ⟨g, p, none⟩) dLen dCap, .slice (some a) sLen sCap]).run P w = .ok (goInt (Nat.min sLen dLen)) w') ∧ OwnC w' B e k g n cap (xs.take p ++ cs ++ xs.drop (p + cs.length)) ∧ w.grownBy w' (some g) := by
 obtain ⟨cur, hc, hl, ho, hg⟩ := own_setRow h p cs hfit
 refine ⟨_, fun ty => ?_, ho, hg⟩
 have hst := run_storeCells_at (P := P) g p e cs 0 cur w hc (by omega) h1
 have hld := run_firstCells_some (P := P) w k (Nat.min sLen dLen) a sLen sCap cs hn hsrc
 rw [Nat.add_zero] at hst
 cases hq : P.info? e with
 | none => rw [hq] at hsz; cases hsz
 | some i =>
   have hi : i.size = k := by rw [hq] at hsz; simpa using hsz
   simp [Builtin.copy_, run_underlying hu, Builtin.lenOf, sizeOf, typeInfo, hq, hi, hld, hst]
theorem own_clear {P : Program} (h : OwnC w B e k g n cap xs) (t : TypeId) (ht : P.underlying t = some (.slice e)) (z : Value) (hz : ∀ w, (zeroValue e).run P w = .ok z w) (hzs : z.cells.size = k) (h1 : ∀ v ∈ z.cells.toList, v.oneCell' = true)
  (p m : Nat) (hm : 0 < m) (hp : p + m * k = n * k) :
  ∃ w', (∀ ty c, (Builtin.clear_ #[t] ty #[.slice (some ⟨g, p, none⟩) m c]).run P w = .ok (.tuple #[]) w') ∧ (∃ zs, OwnC w' B e k g n cap (xs.take p ++ zs)) ∧ w.grownBy w' (some g) := by
 have hzl : (Builtin.zeroCells z.cells m).toList.length = m * k := by rw [← hzs]; simp [Builtin.zeroCells]
 have hz1 : ∀ v ∈ (Builtin.zeroCells z.cells m).toList, v.oneCell' = true := by
  intro v hv
  refine h1 v ?_
  simp [Builtin.zeroCells] at hv
  obtain ⟨i, hi, rfl⟩ := hv
  have hp : 0 < z.cells.size := by
   rcases Nat.eq_zero_or_pos z.cells.size with h0 | h0
   ·rw [h0] at hi; simp at hi
   ·exact h0
  have hlt : i % z.cells.size < z.cells.size := Nat.mod_lt _ hp
  rw [getElem!_pos z.cells _ hlt]
  simp
 obtain ⟨cur, hc, hl, ho, hg⟩ := own_setRow h p (Builtin.zeroCells z.cells m).toList (by rw [hzl]; omega)
 refine ⟨_, fun ty c => ?_, ⟨(Builtin.zeroCells z.cells m).toList ++ xs.drop (p + (Builtin.zeroCells z.cells m).toList.length), by rw [← List.append_assoc]; exact ho⟩, hg⟩
 have hst := run_storeCells_at (P := P) g p e (Builtin.zeroCells z.cells m).toList 0 cur w hc (by omega) hz1
 rw [Nat.add_zero] at hst
 obtain ⟨m', rfl⟩ : ∃ m', m = m' + 1 := ⟨m - 1, by omega⟩
 simp [Builtin.clear_, run_underlying ht, hz, hst]
end
def OwnV (w : World) (B : Nat) (e : TypeId) (k : Nat) (v : Value) (n : Nat) (xs : List Value) : Prop :=
 (v = .slice none 0 0 ∧ n = 0 ∧ xs = []) ∨ ∃ g cap, v = .slice (some ⟨g, 0, none⟩) n cap ∧ OwnC w B e k g n cap xs
theorem OwnV.of_own {w : World} {B k n : Nat} {e : TypeId} {v : Value} {xs : List Value} (h : w.ownsRow B e k v n xs) : OwnV w B e k v n xs := by
 have h0 := h
 have hl := h.1
 rcases h.2 with ⟨rfl, rfl⟩ | ⟨g, cap, cur, rfl, _⟩
 ·exact .inl ⟨rfl, rfl, List.eq_nil_of_length_eq_zero (by omega)⟩
 ·exact .inr ⟨g, cap, rfl, OwnC.of_own h0⟩
theorem OwnV.len {w : World} {B k n : Nat} {e : TypeId} {v : Value} {xs : List Value} (h : OwnV w B e k v n xs) : xs.length = n * k := by
 rcases h with ⟨_, rfl, rfl⟩ | ⟨g, cap, _, cur, _, _, _, _, _, _, hl⟩
 ·simp
 ·exact hl
theorem OwnV.lt {w : World} {B k n : Nat} {e : TypeId} {v : Value} {xs : List Value} (h : OwnV w B e k v n xs) : ∀ b, v.ownBlock = some b → B ≤ b ∧ b < w.heap.size := by
 rcases h with ⟨rfl, _⟩ | ⟨g, cap, rfl, hc⟩
 ·intro b h; cases h
 ·intro b h; cases h; exact hc.lt
theorem OwnV.keep {w w' : World} {B k n : Nat} {e : TypeId} {v : Value} {xs : List Value} (h : OwnV w B e k v n xs) (hb : Below w.heap.size w w') : OwnV w' B e k v n xs := by
 rcases h with h | ⟨g, cap, h, hc⟩
 ·exact .inl h
 ·exact .inr ⟨g, cap, h, hc.keep hb⟩
theorem OwnV.form {w : World} {B k n : Nat} {e : TypeId} {v : Value} {xs : List Value} (h : OwnV w B e k v n xs) : ∃ a ca, v = .slice a n ca ∧ n ≤ ca ∧ ca ≤ 9223372036854775807 := by
 rcases h with ⟨rfl, rfl, _⟩ | ⟨g, cap, rfl, cur, _, _, hn, hm, _⟩
 ·exact ⟨none, 0, rfl, by omega, by omega⟩
 ·exact ⟨_, _, rfl, hn, hm⟩
theorem OwnV.clip {w : World} {B k n ca : Nat} {e : TypeId} {a : Option Addr} {xs : List Value} (h : OwnV w B e k (.slice a n ca) n xs) : OwnV w B e k (.slice a n n) n xs := by
 rcases h with ⟨h0, rfl, rfl⟩ | ⟨g, cap, h0, hc⟩
 ·cases h0; exact .inl ⟨rfl, rfl, rfl⟩
 ·cases h0; exact .inr ⟨g, n, rfl, hc.clip⟩
theorem ins_shift {xs tail ys : List Value} {p k N : Nat} (hx : xs.length = N) (ht : tail.length = k) (hy : ys.length = k) (hp : p ≤ N) :
  (((xs ++ tail).take (p + k) ++ xs.drop p ++ (xs ++ tail).drop (p + k + (xs.drop p).length)).take p ++ ys ++ ((xs ++ tail).take (p + k) ++ xs.drop p ++ (xs ++ tail).drop (p + k + (xs.drop p).length)).drop (p + ys.length)) = xs.take p ++ ys ++ xs.drop p := by
 have hl : (xs ++ tail).length = N + k := by rw [List.length_append, hx, ht]
 have hd : (xs.drop p).length = N - p := by rw [List.length_drop, hx]
 have h1 : (xs ++ tail).drop (p + k + (xs.drop p).length) = [] := List.drop_eq_nil_of_le (by rw [hl, hd]; omega)
 have h2 : ((xs ++ tail).take (p + k)).length = p + k := by rw [List.length_take, hl]; omega
 rw [h1, List.append_nil, hy, List.drop_left' h2, List.take_append_of_le_length (by rw [h2]; omega), List.take_take, Nat.min_eq_left (by omega), List.take_append_of_le_length (by rw [hx]; exact hp)]
theorem ins_grow {xs zs ys : List Value} {p k N : Nat} (hx : xs.length = N) (hz : zs.length = N - p + k) (hy : ys.length = k) (hp : p ≤ N) :
  (((xs.take p ++ zs).take p ++ ys ++ (xs.take p ++ zs).drop (p + ys.length)).take (p + k) ++ xs.drop p ++ ((xs.take p ++ zs).take p ++ ys ++ (xs.take p ++ zs).drop (p + ys.length)).drop (p + k + (xs.drop p).length)) = xs.take p ++ ys ++ xs.drop p := by
 have ht : (xs.take p).length = p := by rw [List.length_take, hx]; omega
 have hd : (xs.drop p).length = N - p := by rw [List.length_drop, hx]
 have h1 : (xs.take p ++ zs).take p = xs.take p := List.take_left' ht
 have h2 : (xs.take p ++ ys).length = p + k := by rw [List.length_append, ht, hy]
 have h3 : ((xs.take p ++ zs).drop (p + ys.length)).length = N - p := by rw [List.length_drop, List.length_append, ht, hz, hy]; omega
 have h4 : (xs.take p ++ ys ++ (xs.take p ++ zs).drop (p + ys.length)).drop (p + k + (xs.drop p).length) = [] := List.drop_eq_nil_of_le (by rw [List.length_append, h2, h3, hd]; omega)
 rw [h1, List.take_left' h2, h4, List.append_nil]
def OwnPost (w : World) (B : Nat) (e : TypeId) (k : Nat) (v : Value) (n : Nat) (xs : List Value) (r : Ending) (w' : World) : Prop :=
 ∃ g cap, r = .returned (.slice (some ⟨g, 0, none⟩) n cap) ∧ OwnC w' B e k g n cap xs ∧ w.grownBy w' v.ownBlock ∧ NewOr w v.ownBlock g
theorem shape_of {w : World} {b : Nat} {c : Array Value} {t : TypeId} (h : w.heap[b]? = some (.cells c t (0, 0))) : w.shape? b = some (t, c.size) := by simp [World.shape?, h]
theorem frozen_of {w : World} {b : Nat} {c : Array Value} {t : TypeId} (h : w.heap[b]? = some (.cells c t (0, 0))) (o : Nat) : w.frozen? ⟨b, o, none⟩ = false := by simp [World.frozen?, h]
theorem grown_up {w w1 w2 : World} {r : Option Nat} (h : w.drew.grownBy w1 r) (g : w1.grownBy w2 r) : w.grownBy w2 r := ⟨(h.trans g).os, (h.trans g).tape, (h.trans g).output, (h.trans g).size, (h.trans g).block⟩
structure Enc (α : Type) where
 k : Nat
 cells : α → List Value
 len : ∀ x, (cells x).length = k
 one : ∀ x, ∀ u ∈ cells x, u.oneCell' = true
namespace Enc
variable {α : Type} (E : Enc α)
def flat (L : List α) : List Value := L.flatMap E.cells
theorem flat_cons (x : α) (L : List α) : E.flat (x :: L) = E.cells x ++ E.flat L := by simp [flat]
theorem flat_append (L M : List α) : E.flat (L ++ M) = E.flat L ++ E.flat M := by simp [flat]
theorem flat_len (L : List α) : (E.flat L).length = L.length * E.k := by
 induction L with
 | nil => simp [flat]
 | cons x L ih => rw [flat_cons, List.length_append, List.length_cons, ih, E.len, Nat.succ_mul]; omega
theorem flat_get (L : List α) : ∀ (i : Nat) (x : α), L[i]? = some x → ∀ j, j < E.k → (E.flat L)[i * E.k + j]? = (E.cells x)[j]? := by
 induction L with
 | nil => intro i x h; simp at h
 | cons y L ih =>
   intro i x h j hj
   have hl := E.len y
   cases i with
   | zero =>
     have e : y = x := by simpa using h
     subst e
     rw [flat_cons, Nat.zero_mul, Nat.zero_add, List.getElem?_append_left (by omega)]
   | succ i =>
     rw [List.getElem?_cons_succ] at h
     have he : (i + 1) * E.k + j - (E.cells y).length = i * E.k + j := by rw [hl, Nat.succ_mul]; omega
     rw [flat_cons, List.getElem?_append_right (by rw [hl, Nat.succ_mul]; omega), he, ih i x h j hj]
theorem flat_take (L : List α) : ∀ i, (E.flat L).take (i * E.k) = E.flat (L.take i) := by
 induction L with
 | nil => intro i; simp [flat]
 | cons x L ih =>
   intro i
   have hl := E.len x
   cases i with
   | zero => simp [flat]
   | succ i =>
     have he : (i + 1) * E.k - (E.cells x).length = i * E.k := by rw [hl, Nat.succ_mul]; omega
     rw [List.take_succ_cons, flat_cons, flat_cons, List.take_append, List.take_of_length_le (by rw [hl, Nat.succ_mul]; omega), he, ih]
theorem flat_drop (L : List α) : ∀ i, (E.flat L).drop (i * E.k) = E.flat (L.drop i) := by
 induction L with
 | nil => intro i; simp [flat]
 | cons x L ih =>
   intro i
   have hl := E.len x
   cases i with
   | zero => simp
   | succ i =>
     have he : (i + 1) * E.k - (E.cells x).length = i * E.k := by rw [hl, Nat.succ_mul]; omega
     rw [List.drop_succ_cons, flat_cons, List.drop_append, List.drop_eq_nil_of_le (by rw [hl, Nat.succ_mul]; omega), he, ih, List.nil_append]
theorem flat_one (L : List α) : ∀ v ∈ E.flat L, v.oneCell' = true := by
 intro v hv
 unfold flat at hv
 obtain ⟨x, _, hx⟩ := List.mem_flatMap.1 hv
 exact E.one x v hx
end Enc
def RowE {α : Type} (E : Enc α) (w : World) (a : Option Addr) (L : List α) : Prop :=
 0 < L.length → ∃ b off, a = some ⟨b, off, none⟩ ∧ b < w.heap.size ∧ ∀ (i : Nat) (x : α), L[i]? = some x → ∀ (j : Nat) (v : Value), (E.cells x)[j]? = some v → w.cell? ⟨b, off + i * E.k + j, none⟩ = some v
theorem RowE.nil {α : Type} (E : Enc α) (w : World) (a : Option Addr) : RowE E w a [] := fun h => absurd h (Nat.lt_irrefl 0)
theorem RowE.keep {α : Type} {E : Enc α} {w w' : World} {a : Option Addr} {L : List α} (h : RowE E w a L) (hb : Below w.heap.size w w') : RowE E w' a L := by
 intro h0
 obtain ⟨b, off, rfl, hlt, hc⟩ := h h0
 exact ⟨b, off, rfl, Nat.lt_of_lt_of_le hlt hb.size, fun i x hx j v hv => (hb.cell (p := ⟨b, off + i * E.k + j, none⟩) hlt).trans (hc i x hx j v hv)⟩
theorem RowE.grown {α : Type} {E : Enc α} {w w' : World} {a : Option Addr} {L : List α} {r : Option Nat} (h : RowE E w a L) (hg : w.grownBy w' r) (hne : 0 < L.length → ∀ x, a = some x → some x.block ≠ r) : RowE E w' a L := by
 intro h0
 obtain ⟨b, off, rfl, hlt, hc⟩ := h h0
 exact ⟨b, off, rfl, Nat.lt_of_lt_of_le hlt hg.size, fun i x hx j v hv => hg.cell (hc i x hx j v hv) (show some b ≠ r from hne h0 ⟨b, off, none⟩ rfl)⟩
theorem RowE.of_own {α : Type} {E : Enc α} {w : World} {B n : Nat} {e : TypeId} {v : Value} {L : List α} (h : OwnV w B e E.k v n (E.flat L)) (hn : n = L.length) :
  ∃ a ca, v = .slice a L.length ca ∧ L.length ≤ ca ∧ ca ≤ 9223372036854775807 ∧ RowE E w a L := by
 subst hn
 rcases h with ⟨rfl, h0, _⟩ | ⟨g, cap, rfl, hc⟩
 ·exact ⟨none, 0, by rw [h0], by omega, by omega, fun h => by omega⟩
 ·obtain ⟨_, _, _, hk, hm, _⟩ := id hc
  refine ⟨_, _, rfl, hk, hm, fun h0 => ⟨g, 0, rfl, hc.lt.2, fun i x hx j v hv => ?_⟩⟩
  have hj : j < E.k := by have := (List.getElem?_eq_some_iff.1 hv).1; rw [E.len] at this; exact this
  have hi := (List.getElem?_eq_some_iff.1 hx).1
  have hb : i * E.k + j < L.length * E.k := by
   have : (i + 1) * E.k ≤ L.length * E.k := Nat.mul_le_mul_right _ hi
   rw [Nat.succ_mul] at this; omega
  rw [Nat.zero_add, hc.cellAt (i * E.k + j) hb, E.flat_get L i x hx j hj, hv]
end Go.Proofs.YthdiccdnggloiaaGreatDoor
namespace Go.Proofs.YthdiccdnggloiaaGreatDoor
namespace Stb
variable {α : Type} (lt : α → α → Prop) (neg : α → α → Bool)
def Fit (x y : α) : Prop := (neg y x = true → lt y x) ∧ (neg y x = false → lt x y)
def Cross (X Y : List α) : Prop := ∀ x, x ∈ X → ∀ y, y ∈ Y → Fit lt neg x y
variable {lt neg}
theorem Cross.sub {X X' Y Y' : List α} (h : Cross lt neg X Y) (hx : ∀ x, x ∈ X' → x ∈ X) (hy : ∀ y, y ∈ Y' → y ∈ Y) : Cross lt neg X' Y' := fun x h1 y h2 => h x (hx x h1) y (hy y h2)
structure Chs (lt : α → α → Prop) (neg : α → α → Bool) (C : List (List α)) : Prop where
 each : ∀ X, X ∈ C → X.Pairwise lt
 cross : C.Pairwise (Cross lt neg)
theorem Cross.flat {C : List (List α)} {Y : List α} (h : ∀ X, X ∈ C → Cross lt neg X Y) : Cross lt neg C.flatten Y := by
 intro x hx y hy
 obtain ⟨X, hX, hx⟩ := List.mem_flatten.1 hx
 exact h X hX x hx y hy
theorem Chs.merge {D C : List (List α)} {X Y M : List α} (h : Chs lt neg (D ++ X :: Y :: C)) (hp : List.Perm M (X ++ Y)) (hs : M.Pairwise lt) : Chs lt neg (D ++ [M] ++ C) := by
 have hc := h.cross
 rw [List.pairwise_append] at hc
 obtain ⟨c1, c2, c3⟩ := hc
 rw [List.pairwise_cons, List.pairwise_cons] at c2
 have hm : ∀ x, x ∈ M → x ∈ X ∨ x ∈ Y := fun x hx => List.mem_append.1 (hp.mem_iff.1 hx)
 refine ⟨fun Z hZ => ?_, ?_⟩
 ·rw [List.append_assoc] at hZ
  rcases List.mem_append.1 hZ with a | a
  ·exact h.each Z (List.mem_append_left _ a)
  ·rcases List.mem_cons.1 a with rfl | a
   ·exact hs
   ·exact h.each Z (List.mem_append_right _ (List.mem_cons_of_mem _ (List.mem_cons_of_mem _ a)))
 ·rw [List.append_assoc, List.pairwise_append]
  refine ⟨c1, List.pairwise_cons.2 ⟨fun Z hZ x hx => ?_, c2.2.2⟩, fun Z hZ W hW => ?_⟩
  ·rcases hm x hx with a | a
   ·exact c2.1 Z (List.mem_cons_of_mem _ hZ) x a
   ·exact c2.2.1 Z hZ x a
  ·rcases List.mem_cons.1 hW with rfl | hW
   ·intro x hx y hy
    rcases hm y hy with a | a
    ·exact c3 Z hZ X (by simp) x hx y a
    ·exact c3 Z hZ Y (by simp) x hx y a
   ·exact c3 Z hZ W (List.mem_cons_of_mem _ (List.mem_cons_of_mem _ hW))
theorem Chs.two {D C : List (List α)} {X Y : List α} (h : Chs lt neg (D ++ X :: Y :: C)) : X.Pairwise lt ∧ Y.Pairwise lt ∧ Cross lt neg X Y := by
 have hc := h.cross
 rw [List.pairwise_append, List.pairwise_cons] at hc
 exact ⟨h.each X (by simp), h.each Y (by simp), hc.2.1.1 Y (by simp)⟩
def Len (s : Nat) (C : List (List α)) : Prop := ∃ D X, C = D ++ [X] ∧ (∀ Y, Y ∈ D → Y.length = s) ∧ X.length ≤ s
theorem flat_len {D : List (List α)} {s : Nat} (h : ∀ Y, Y ∈ D → Y.length = s) : D.flatten.length = D.length * s := by
 induction D with
 | nil => simp
 | cons X D ih => rw [List.flatten_cons, List.length_append, List.length_cons, ih (fun Y hY => h Y (List.mem_cons_of_mem _ hY)), h X (by simp), Nat.succ_mul]; omega
theorem Len.two {s : Nat} {C : List (List α)} (h : Len s C) (hl : 2 * s ≤ C.flatten.length) (hs : 0 < s) : ∃ X Y C', C = X :: Y :: C' ∧ X.length = s ∧ Y.length = s ∧ (C' = [] ∨ Len s C') := by
 obtain ⟨D, X, rfl, hD, hX⟩ := h
 rw [List.flatten_append, List.length_append, flat_len hD] at hl
 simp only [List.flatten_cons, List.flatten_nil, List.append_nil] at hl
 match D, hD, hl with
 | [], _, hl => simp at hl; omega
 | [Y], hD, hl => exact ⟨Y, X, [], rfl, hD Y (by simp), by simp at hl; omega, .inl rfl⟩
 | Y :: Z :: D', hD, hl => exact ⟨Y, Z, D' ++ [X], rfl, hD Y (by simp), hD Z (by simp), .inr ⟨D', X, rfl, fun W hW => hD W (by simp [hW]), hX⟩⟩
theorem Len.rest {s : Nat} {C : List (List α)} (h : C = [] ∨ Len s C) (hl : C.flatten.length < 2 * s) (h1 : s < C.flatten.length) : ∃ X Y, C = [X, Y] ∧ X.length = s ∧ 0 < Y.length ∧ Y.length < s := by
 rcases h with rfl | ⟨D, X, rfl, hD, hX⟩
 ·simp at h1
 ·rw [List.flatten_append, List.length_append, flat_len hD] at hl h1
  simp only [List.flatten_cons, List.flatten_nil, List.append_nil] at hl h1
  match D, hD, hl, h1 with
  | [], _, hl, h1 => simp at hl h1; omega
  | [Y], hD, hl, h1 => exact ⟨Y, X, rfl, hD Y (by simp), by simp at h1; omega, by simp at hl; omega⟩
  | Y :: Z :: D', hD, hl, h1 =>
    exfalso
    simp only [List.length_cons] at hl
    have : 2 * s ≤ (D'.length + 1 + 1) * s := Nat.mul_le_mul_right s (by omega)
    omega
theorem Len.last {s : Nat} {C : List (List α)} (h : C = [] ∨ Len s C) (h1 : C.flatten.length ≤ s) (hs : 0 < s) : C = [] ∨ (∃ X, C = [X] ∧ X.length ≤ s) ∨ ∃ X, C = [X, []] ∧ X.length = s := by
 rcases h with rfl | ⟨D, X, rfl, hD, hX⟩
 ·exact .inl rfl
 ·rw [List.flatten_append, List.length_append, flat_len hD] at h1
  simp only [List.flatten_cons, List.flatten_nil, List.append_nil] at h1
  match D, hD, h1 with
  | [], _, h1 => exact .inr (.inl ⟨X, rfl, hX⟩)
  | [Y], hD, h1 =>
    have : X.length = 0 := by simp at h1; omega
    obtain rfl := List.eq_nil_of_length_eq_zero this
    exact .inr (.inr ⟨Y, rfl, hD Y (by simp)⟩)
  | Y :: Z :: D', hD, h1 =>
    exfalso
    simp only [List.length_cons] at h1
    have : 2 * s ≤ (D'.length + 1 + 1) * s := Nat.mul_le_mul_right s (by omega)
    omega
theorem Chs.sorted {s : Nat} {C : List (List α)} (h : Chs lt neg C) (hL : Len s C) (h1 : C.flatten.length ≤ s) (hs : 0 < s) : C.flatten.Pairwise lt := by
 rcases Len.last (.inr hL) h1 hs with rfl | ⟨X, rfl, _⟩ | ⟨X, rfl, _⟩
 ·simp
 ·simpa using h.each X (by simp)
 ·simpa using h.each X (by simp)
end Stb
end Go.Proofs.YthdiccdnggloiaaGreatDoor
namespace Go.Proofs.YthdiccdnggloiaaGreatDoor
open Go.RowKit
def Enc.val {α : Type} (E : Enc α) (x : α) : Value := .agg (E.cells x).toArray
theorem Enc.flat_set {α : Type} (E : Enc α) (L : List α) (p : Nat) (x : α) (hp : p < L.length) : E.flat (L.set p x) = (E.flat L).take (p * E.k) ++ E.cells x ++ (E.flat L).drop (p * E.k + E.k) := by
 rw [List.set_eq_take_append_cons_drop, if_pos hp, E.flat_append, E.flat_cons, E.flat_take, show p * E.k + E.k = (p + 1) * E.k from (Nat.succ_mul p E.k).symm, E.flat_drop, List.append_assoc]
structure SRow {α : Type} (E : Enc α) (w : World) (B : Nat) (e : TypeId) (g cap n : Nat) (L : List α) : Prop where
 own : OwnC w B e E.k g n cap (E.flat L)
 len : L.length = n
namespace SRow
variable {α : Type} {E : Enc α} {w w' : World} {B g cap n : Nat} {e : TypeId} {L : List α}
theorem keep (h : SRow E w B e g cap n L) (hb : Below w.heap.size w w') : SRow E w' B e g cap n L := ⟨h.own.keep hb, h.len⟩
theorem range (h : SRow E w B e g cap n L) {p : Nat} {x : α} (hp : L[p]? = some x) : w.rangeAt g (p * E.k) (E.cells x) := by
 intro j v hv
 have hj : j < E.k := by have := (List.getElem?_eq_some_iff.1 hv).1; rw [E.len] at this; exact this
 have hi := (List.getElem?_eq_some_iff.1 hp).1
 have hl := h.len
 have hb : p * E.k + j < n * E.k := by
  have : (p + 1) * E.k ≤ n * E.k := Nat.mul_le_mul_right _ (by omega)
  rw [Nat.succ_mul] at this; omega
 rw [h.own.cellAt (p * E.k + j) hb, E.flat_get L p x hp j hj, hv]
theorem store {P : Program} (h : SRow E w B e g cap n L) {p : Nat} (hp : p < n) (x : α) (hi : (P.info? e).map (·.size) = some E.k) :
  ∃ w', (Instr.storeAt e (.pointer (some ⟨g, p * E.k, none⟩)) (E.val x)).run P w = .ok () w' ∧ SRow E w' B e g cap n (L.set p x) ∧ w.grownBy w' (some g) := by
 have hl := h.len
 have hfit : p * E.k + (E.cells x).length ≤ n * E.k := by
  rw [E.len]
  have : (p + 1) * E.k ≤ n * E.k := Nat.mul_le_mul_right _ (by omega)
  rw [Nat.succ_mul] at this; exact this
 obtain ⟨cur, hc, hcl, ho, hg⟩ := own_setRow h.own (p * E.k) (E.cells x) hfit
 have hth : w.there g (p * E.k) (E.cells x).toArray.size := fun j hj => ⟨by
  rw [World.cell?]; simp only [hc]
  have hj' : j < (E.cells x).length := by simpa using hj
  rw [Array.getElem?_eq_getElem (by omega)]; rfl, frozen_of hc _⟩
 have h1 := all_oneCell_toArray (E.one x)
 have e1 := run_storeCells_at (P := P) g (p * E.k) e (E.cells x) 0 cur w hc (by omega) (E.one x)
 have e2 := run_storeCells_cells (P := P) g (p * E.k) (E.cells x) 0 w (fun j hj => by rw [Nat.add_zero]; exact (hth j (by simpa using hj)).1) (fun j hj => by rw [Nat.add_zero]; exact (hth j (by simpa using hj)).2) (E.one x)
 rw [Nat.add_zero] at e1 e2
 have e3 := e2.symm.trans e1
 injection e3 with _ e3
 have hr := run_storeAt_mid (P := P) w g (p * E.k) e (E.cells x).toArray hth (by rw [hi]; simp [E.len]) h1
 rw [List.toList_toArray, e3] at hr
 rw [E.len] at ho
 refine ⟨_, hr, ⟨?_, by rw [List.length_set]; exact hl⟩, hg⟩
 rw [E.flat_set L p x (by omega)]
 rw [E.len]
 exact ho
end SRow
namespace SRow
variable {α : Type} {E : Enc α} {w w' : World} {B g cap n : Nat} {e : TypeId} {L : List α}
theorem drew (h : SRow E w B e g cap n L) : SRow E w.drew B e g cap n L := ⟨h.own, h.len⟩
end SRow
end Go.Proofs.YthdiccdnggloiaaGreatDoor
namespace Go.Proofs.YthdiccdnggloiaaGreatDoor
namespace Stb
variable {α : Type}
variable {lt : α → α → Prop} {neg : α → α → Bool}
end Stb
end Go.Proofs.YthdiccdnggloiaaGreatDoor
namespace Go.Proofs.YthdiccdnggloiaaGreatDoor
open Go.RowKit Go.Sort
section
variable {P : Program} {ops : Array Oper} {Q : Exit → Act → World → Prop} {md : Region.Mode} {C : World → Prop} {m : Nat}
variable {f : Nat} {l : Array Bool} {a : Act} {w : World} {oi : Oper}
end

theorem grown_below {w wr w2 : World} {r : Option Nat} (h : w.grownBy wr r) (g : Below wr.heap.size wr w2) : w.grownBy w2 r :=
 h.trans ⟨g.os, g.tape, g.output, g.size, fun b hb _ => g.block b hb⟩




namespace Stb
variable {α : Type} {lt : α → α → Prop} {neg : α → α → Bool}
end Stb

end Go.Proofs.YthdiccdnggloiaaGreatDoor
namespace Go.Proofs.YthdiccdnggloiaaGreatDoor
open Go.RowKit
structure Tir where
 name : ByteArray
 room : Int
 cost : Int
 away : Bool
structure Fil where
 dig : ByteArray
 size : Int
 kind : Int
 frm : ByteArray
structure Cop where
 dig : ByteArray
 tier : ByteArray
 good : Bool
 asked : Int
structure Gon where
 dig : ByteArray
 day : Int
structure Sto where
 least : Int
 wait : Int
 tiers : List Tir
 files : List Fil
 copies : List Cop
 held : List ByteArray
 bin : List Gon
structure StA where
 ta : Option Addr
 tc : Nat
 fa : Option Addr
 fc : Nat
 ca : Option Addr
 cc : Nat
 ha : Option Addr
 hc : Nat
 ba : Option Addr
 bc : Nat
namespace St
def eT : Enc Tir := ⟨4, fun t => [.string t.name, .int .i64 t.room, .int .i64 t.cost, .bool t.away], fun _ => rfl, fun t u h => by simp only [List.mem_cons, List.not_mem_nil, or_false] at h; rcases h with rfl | rfl | rfl | rfl <;> rfl⟩
def eF : Enc Fil := ⟨4, fun f => [.string f.dig, .int .i64 f.size, .int .i64 f.kind, .string f.frm], fun _ => rfl, fun t u h => by simp only [List.mem_cons, List.not_mem_nil, or_false] at h; rcases h with rfl | rfl | rfl | rfl <;> rfl⟩
def eC : Enc Cop := ⟨4, fun c => [.string c.dig, .string c.tier, .bool c.good, .int .i64 c.asked], fun _ => rfl, fun t u h => by simp only [List.mem_cons, List.not_mem_nil, or_false] at h; rcases h with rfl | rfl | rfl | rfl <;> rfl⟩
def eS : Enc ByteArray := ⟨1, fun s => [.string s], fun _ => rfl, fun t u h => by simp only [List.mem_cons, List.not_mem_nil, or_false] at h; subst h; rfl⟩
def eG : Enc Gon := ⟨2, fun g => [.string g.dig, .int .i64 g.day], fun _ => rfl, fun t u h => by simp only [List.mem_cons, List.not_mem_nil, or_false] at h; rcases h with rfl | rfl <;> rfl⟩
def eq (a b : ByteArray) : Bool := a.toList == b.toList
def le (a b : ByteArray) : Bool := Op.bytesLess a.toList b.toList || a.toList == b.toList
def lt (a b : ByteArray) : Bool := Op.bytesLess a.toList b.toList
def idx {α : Type} (p : α → Bool) : List α → Nat → Int
 | [], _ => -1
 | x :: r, i => if p x = true then (i : Int) else idx p r (i + 1)
theorem idx_none {α : Type} {p : α → Bool} {L : List α} {i : Nat} (h : ∀ x, x ∈ L → p x = false) : idx p L i = -1 := by
 induction L generalizing i with
 | nil => rfl
 | cons x r ih => rw [idx, if_neg (by rw [h x (by simp)]; decide)]; exact ih (fun y hy => h y (by simp [hy]))
theorem idx_at {α : Type} {p : α → Bool} {A B : List α} {x : α} {i : Nat} (h : ∀ y, y ∈ A → p y = false) (hx : p x = true) : idx p (A ++ x :: B) i = ((i + A.length : Nat) : Int) := by
 induction A generalizing i with
 | nil => rw [List.nil_append, idx, if_pos hx]; rfl
 | cons y A ih =>
   rw [List.cons_append, idx, if_neg (by rw [h y (by simp)]; decide), ih (fun z hz => h z (by simp [hz])), List.length_cons]
   congr 1; omega
theorem idx_neg {α : Type} {p : α → Bool} {L : List α} {i : Nat} : idx p L i < 0 ↔ ∀ x, x ∈ L → p x = false := by
 constructor
 ·intro h
  induction L generalizing i with
  | nil => intro x hx; simp at hx
  | cons y r ih =>
    rw [idx] at h
    split at h
    ·omega
    ·rename_i hn
     intro x hx
     rcases List.mem_cons.1 hx with rfl | hx
     ·simpa using hn
     ·exact ih h x hx
 ·intro h; rw [idx_none h]; omega
def scan {α : Type} (bad : List α → α → Int) : List α → List α → Int
 | _, [] => 0
 | pre, x :: r => if bad pre x = 0 then scan bad (pre ++ [x]) r else bad pre x
theorem scan_ok {α : Type} {bad : List α → α → Int} {pre r : List α} {x : α} (h : bad pre x = 0) : scan bad pre (x :: r) = scan bad (pre ++ [x]) r := by rw [scan, if_pos h]
theorem scan_bad {α : Type} {bad : List α → α → Int} {pre r : List α} {x : α} (h : bad pre x ≠ 0) : scan bad pre (x :: r) = bad pre x := by rw [scan, if_neg h]
theorem scan_0 {α : Type} {bad : List α → α → Int} {L : List α} : ∀ {pre : List α}, scan bad pre L = 0 → ∀ (A B : List α) (x : α), L = A ++ x :: B → bad (pre ++ A) x = 0 := by
 induction L with
 | nil => intro pre _ A B x h; simp at h
 | cons y r ih =>
   intro pre h A B x he
   by_cases hb : bad pre y = 0
   ·rw [scan_ok hb] at h
    cases A with
    | nil =>
      rw [List.nil_append] at he
      obtain ⟨rfl, _⟩ := List.cons.inj he
      rw [List.append_nil]; exact hb
    | cons z A =>
      rw [List.cons_append] at he
      obtain ⟨rfl, he2⟩ := List.cons.inj he
      have := ih h A B x he2
      rwa [List.append_assoc] at this
   ·rw [scan_bad hb] at h; exact absurd h hb
def tierAt (L : List Tir) (name : ByteArray) : Int := idx (fun t => eq t.name name) L 0
def fileOf (L : List Fil) (d : ByteArray) : Option Fil := L.find? fun f => eq f.dig d
def kindOf (L : List Fil) (d : ByteArray) : Int := match fileOf L d with | some f => f.kind | none => 0
def sizeOf (L : List Fil) (d : ByteArray) : Int := match fileOf L d with | some f => f.size | none => 0
def used (F : List Fil) (name : ByteArray) : List Cop → Int
 | [] => 0
 | c :: r => (if eq c.tier name = true then sizeOf F c.dig else 0) + used F name r
def isMom (n : Int) : Bool := decide (0 ≤ n ∧ n ≤ 6311433599)
end St
end Go.Proofs.YthdiccdnggloiaaGreatDoor
namespace Go.Proofs.YthdiccdnggloiaaGreatDoor.Ev
def mom (n : Int) : Bool := decide (0 ≤ n ∧ n ≤ 6311433599)
theorem mom_iff (n : Int) : mom n = true ↔ 0 ≤ n ∧ n ≤ 6311433599 := by simp [mom]
theorem mom_no (n : Int) : mom n = false ↔ n < 0 ∨ 6311433599 < n := by simp only [mom, decide_eq_false_iff_not]; omega
def meets (x s y k : Int) : Bool := decide (-k ≤ x + s - y ∧ x + s - y ≤ k)
def anyB (p : Int → Bool) (z : Nat → Int) (n : Nat) : Bool := (List.range n).any fun j => p (z j)
def near (z : Nat → Int) (n : Nat) (s y k : Int) : Bool := (List.range n).any fun j => meets (z j) s y k
def hits (z y : Nat → Int) (n : Nat) (s k : Int) : Nat → Int
 | 0 => 0
 | m + 1 => hits z y n s k m + if near z n s (y m) k then 1 else 0
def abs (s : Int) : Int := max s (-s)
def nearer (s t : Int) : Bool := decide (abs s < abs t ∨ abs s = abs t ∧ t < s)
def takes (best many s n : Int) : Bool := decide (many < n) || (decide (n = many) && nearer s best)
def step (z y : Nat → Int) (n m : Nat) (k : Int) (st : Int × Int) (s o : Int) : Int × Int := if takes st.1 st.2 o (hits z y n s k m) = true then (o, hits z y n s k m) else st
def err (z y : Nat → Int) (n m : Nat) (k : Int) : Int :=
 if 50 < n ∨ 50 < m then 4 else if anyB (fun x => !mom x) z n = true then 2 else if anyB (fun x => !mom x) y m = true then 2 else if 0 ≤ k ∧ k ≤ 86400 then 0 else 2
end Go.Proofs.YthdiccdnggloiaaGreatDoor.Ev
namespace Go.Proofs.YthdiccdnggloiaaGreatDoor.Fd
def hexN (c : Nat) : Bool := decide (48 ≤ c ∧ c ≤ 57 ∨ 97 ≤ c ∧ c ≤ 102)
def letN (c : Nat) : Bool := decide (97 ≤ c ∧ c ≤ 122)
def tailN (c : Nat) : Bool := decide (97 ≤ c ∧ c ≤ 122 ∨ 48 ≤ c ∧ c ≤ 57 ∨ c = 45)
def nmN (i c : Nat) : Bool := if i = 0 then letN c else tailN c
theorem letN_iff (c : Nat) : letN c = true ↔ 97 ≤ c ∧ c ≤ 122 := by simp [letN]
theorem tailN_iff (c : Nat) : tailN c = true ↔ 97 ≤ c ∧ c ≤ 122 ∨ 48 ≤ c ∧ c ≤ 57 ∨ c = 45 := by simp [tailN]
theorem nmN_zero (c : Nat) : nmN 0 c = letN c := rfl
theorem nmN_pos (i c : Nat) (h : i ≠ 0) : nmN i c = tailN c := by unfold nmN; rw [if_neg h]
theorem nmN_tail (i c : Nat) (h : nmN i c = true) : tailN c = true := by
 unfold nmN at h; split at h
 ·rw [letN_iff] at h; rw [tailN_iff]; omega
 ·exact h
def fileB (s : ByteArray) : Bool := decide (s.size = 16 ∧ ∀ i, (h : i < s.size) → hexN s[i].toNat = true)
def nameB (s : ByteArray) : Bool := decide ((1 ≤ s.size ∧ s.size ≤ 40) ∧ ∀ i, (h : i < s.size) → nmN i s[i].toNat = true)
theorem fileB_yes {s : ByteArray} (h : s.size = 16) (g : ∀ i, (h : i < s.size) → hexN s[i].toNat = true) : fileB s = true := decide_eq_true ⟨h, g⟩
theorem fileB_size {s : ByteArray} (h : s.size ≠ 16) : fileB s = false := decide_eq_false fun g => h g.1
theorem fileB_at {s : ByteArray} (i : Nat) (h : i < s.size) (g : hexN s[i].toNat = false) : fileB s = false := decide_eq_false fun k => by have := k.2 i h; rw [g] at this; cases this
theorem nameB_yes {s : ByteArray} (h : 1 ≤ s.size ∧ s.size ≤ 40) (g : ∀ i, (h : i < s.size) → nmN i s[i].toNat = true) : nameB s = true := decide_eq_true ⟨h, g⟩
theorem nameB_size {s : ByteArray} (h : ¬ (1 ≤ s.size ∧ s.size ≤ 40)) : nameB s = false := decide_eq_false fun g => h g.1
theorem nameB_at {s : ByteArray} (i : Nat) (h : i < s.size) (g : nmN i s[i].toNat = false) : nameB s = false := decide_eq_false fun k => by have := k.2 i h; rw [g] at this; cases this
theorem upto_next {s : ByteArray} {P : Nat → Nat → Prop} {j : Nat} (h : ∀ i, (h : i < s.size) → i < j → P i s[i].toNat) (hj : j < s.size) (g : P j s[j].toNat) : ∀ i, (h : i < s.size) → i < j + 1 → P i s[i].toNat := by
 intro i hi hij
 by_cases e : i = j
 ·subst e; exact g
 ·exact h i hi (by omega)
end Go.Proofs.YthdiccdnggloiaaGreatDoor.Fd
namespace Go.Proofs.YthdiccdnggloiaaGreatDoor
open Go.RowKit
namespace St
def inB (n lo hi : Int) : Bool := decide (lo ≤ n ∧ n ≤ hi)
def sizesE (s : Sto) : Int :=
 if inB s.least 1 8 = true ∧ inB s.wait 0 1000 = true then
  (if 8 < s.tiers.length ∨ 500 < s.files.length ∨ 4000 < s.copies.length ∨ 500 < s.held.length ∨ 500 < s.bin.length then 4 else 0) else 2
def hasTier (L : List Tir) (n : ByteArray) : Bool := L.any fun t => eq t.name n
def tierE (pre : List Tir) (t : Tir) : Int :=
 if Fd.nameB t.name = true then (if hasTier pre t.name = true then 6 else if inB t.room 0 1000000000000 = true ∧ inB t.cost 0 1000000 = true then 0 else 2) else 3
def fileR (f : Fil) : Int :=
 if inB f.size 0 1000000000 = true then (if inB f.kind 1 3 = true then (if f.kind = 1 ∧ f.frm.toList.isEmpty = false then 1 else 0) else 10) else 2
def fileE (pre : List Fil) (f : Fil) : Int :=
 if Fd.fileB f.dig = true then (match pre.getLast? with | some p => (if le f.dig p.dig = true then 5 else fileR f) | none => fileR f) else 1
def fromE (L : List Fil) (_ : List Fil) (f : Fil) : Int := if f.kind ≠ 1 ∧ kindOf L f.frm ≠ 1 then 7 else 0
def filesE (L : List Fil) : Int := if scan fileE [] L = 0 then scan (fromE L) [] L else scan fileE [] L
def ahead (a b : Cop) : Bool := lt a.dig b.dig || (eq a.dig b.dig && lt a.tier b.tier)
def copyE (T : List Tir) (F : List Fil) (pre : List Cop) (c : Cop) : Int :=
 if (fileOf F c.dig).isSome = true ∧ hasTier T c.tier = true then
  (match pre.getLast? with | some p => (if ahead p c = true then (if isMom c.asked = true then 0 else 2) else 5) | none => (if isMom c.asked = true then 0 else 2)) else 7
def fullE (F : List Fil) (C : List Cop) (_ : List Tir) (t : Tir) : Int := if t.room - used F t.name C < 0 then 12 else 0
def copiesE (s : Sto) : Int := if scan (copyE s.tiers s.files) [] s.copies = 0 then scan (fullE s.files s.copies) [] s.tiers else scan (copyE s.tiers s.files) [] s.copies
def heldE (F : List Fil) (pre : List ByteArray) (d : ByteArray) : Int :=
 if kindOf F d = 1 then (match pre.getLast? with | some p => (if le d p = true then 5 else 0) | none => 0) else 7
def hasS (L : List ByteArray) (d : ByteArray) : Bool := L.any fun x => eq x d
def binR (H : List ByteArray) (g : Gon) : Int := if inB g.day 0 73048 = true then (if hasS H g.dig = true then 6 else 0) else 2
def binE (F : List Fil) (H : List ByteArray) (pre : List Gon) (g : Gon) : Int :=
 if kindOf F g.dig = 1 then (match pre.getLast? with | some p => (if le g.dig p.dig = true then 5 else binR H g) | none => binR H g) else 7
def keptE (s : Sto) : Int := if scan (heldE s.files) [] s.held = 0 then scan (binE s.files s.held) [] s.bin else scan (heldE s.files) [] s.held
def err (s : Sto) : Int :=
 if sizesE s = 0 then (if scan tierE [] s.tiers = 0 then (if filesE s.files = 0 then (if copiesE s = 0 then keptE s else copiesE s) else filesE s.files) else scan tierE [] s.tiers) else sizesE s
theorem scan_here {α : Type} {bad : List α → α → Int} {L : List α} {j : Nat} {q : Int} {x : α} (h : scan bad (L.take j) (L.drop j) = q) (hx : L[j]? = some x) (he : bad (L.take j) x ≠ 0) : q = bad (L.take j) x := by
 obtain ⟨hlt, hg⟩ := List.getElem?_eq_some_iff.1 hx
 rw [List.drop_eq_getElem_cons hlt, hg, scan_bad he] at h
 exact h.symm
theorem scan_next {α : Type} {bad : List α → α → Int} {L : List α} {j : Nat} {q : Int} {x : α} (h : scan bad (L.take j) (L.drop j) = q) (hx : L[j]? = some x) (he : bad (L.take j) x = 0) : scan bad (L.take (j + 1)) (L.drop (j + 1)) = q := by
 obtain ⟨hlt, hg⟩ := List.getElem?_eq_some_iff.1 hx
 rw [List.drop_eq_getElem_cons hlt, hg, scan_ok he] at h
 rw [List.take_add_one, hx]
 exact h
theorem scan_done {α : Type} {bad : List α → α → Int} {L : List α} {q : Int} (h : scan bad (L.take L.length) (L.drop L.length) = q) : q = 0 := by
 rw [List.drop_length] at h; exact h.symm
theorem last_take {α : Type} {L : List α} {j : Nat} {x : α} (h : L[j]? = some x) : (L.take (j + 1)).getLast? = some x := by
 rw [List.take_add_one, h]; simp
theorem last_at {α : Type} {L : List α} {j : Nat} (h : j < L.length) (h0 : 0 < j) : ∃ p, L[j - 1]? = some p ∧ (L.take j).getLast? = some p := by
 obtain ⟨p, hp⟩ : ∃ p, L[j - 1]? = some p := ⟨_, List.getElem?_eq_getElem (by omega)⟩
 refine ⟨p, hp, ?_⟩
 have := last_take hp
 rwa [show j - 1 + 1 = j by omega] at this
theorem last_zero {α : Type} {L : List α} : (L.take 0).getLast? = none := by simp
end St
end Go.Proofs.YthdiccdnggloiaaGreatDoor
namespace Go.Proofs.YthdiccdnggloiaaGreatDoor
open Go.RowKit
open Go.Op (bytesLess)
namespace Sx
theorem less_irr : ∀ a : List UInt8, bytesLess a a = false
 | [] => rfl
 | a :: x => by
   show (decide (a < a) || (a == a && bytesLess x x)) = false
   rw [less_irr x]; simp
theorem less_tri : ∀ a b : List UInt8, bytesLess a b = false → bytesLess b a = false → a = b
 | [], [], _, _ => rfl
 | [], _ :: _, h, _ => by exact absurd h (by simp [bytesLess])
 | _ :: _, [], _, h => by exact absurd h (by simp [bytesLess])
 | a :: x, b :: y, h1, h2 => by
   simp only [bytesLess, Bool.or_eq_false_iff, decide_eq_false_iff_not, Bool.and_eq_false_iff, beq_eq_false_iff_ne, UInt8.not_lt] at h1 h2
   have e : a = b := UInt8.le_antisymm h2.1 h1.1
   subst e
   have t := less_tri x y (by rcases h1.2 with h | h; exact absurd rfl h; exact h) (by rcases h2.2 with h | h; exact absurd rfl h; exact h)
   rw [t]
theorem less_trans : ∀ a b c : List UInt8, bytesLess a b = true → bytesLess b c = true → bytesLess a c = true
 | [], b, [], _, h => by cases b <;> simp [bytesLess] at h
 | [], _, _ :: _, _, _ => by simp [bytesLess]
 | _ :: _, [], _, h, _ => by simp [bytesLess] at h
 | _ :: _, _ :: _, [], _, h => by simp [bytesLess] at h
 | a :: x, b :: y, c :: z, h1, h2 => by
   simp only [bytesLess, Bool.or_eq_true, decide_eq_true_eq, Bool.and_eq_true, beq_iff_eq] at h1 h2 ⊢
   rcases h1 with h1 | ⟨rfl, h1⟩
   ·rcases h2 with h2 | ⟨rfl, h2⟩
    ·exact .inl (UInt8.lt_trans h1 h2)
    ·exact .inl h1
   ·rcases h2 with h2 | ⟨rfl, h2⟩
    ·exact .inl h2
    ·exact .inr ⟨rfl, less_trans x y z h1 h2⟩
end Sx
end Go.Proofs.YthdiccdnggloiaaGreatDoor
namespace Go.Proofs.YthdiccdnggloiaaGreatDoor
open Go.RowKit
namespace St
theorem less_app {a b : List UInt8} (x y : List UInt8) (h : a.length = b.length) : Op.bytesLess (a ++ x) (b ++ y) = (Op.bytesLess a b || (a == b && Op.bytesLess x y)) := by
 induction a generalizing b with
 | nil =>
   cases b with
   | nil => simp [Op.bytesLess]
   | cons c b => simp at h
 | cons c a ih =>
   cases b with
   | nil => simp at h
   | cons d b =>
     have h' : a.length = b.length := by simpa using h
     simp only [List.cons_append, Op.bytesLess]
     rw [ih h']
     by_cases h1 : c < d
     ·simp [h1]
     ·by_cases h2 : c = d
      ·subst h2; simp
      ·have h3 : (c == d) = false := by simpa using h2
       simp [h1, h3]
theorem size_len (a : ByteArray) : a.toList.length = a.size := by rw [ByteArray.toList_eq]; rfl
theorem toList_app (a b : ByteArray) : (a ++ b).toList = a.toList ++ b.toList := by rw [ByteArray.toList_eq, ByteArray.toList_eq, ByteArray.toList_eq]; simp
def key (d t : ByteArray) : ByteArray := d ++ ⟨#[0]⟩ ++ t
theorem key_list (d t : ByteArray) : (key d t).toList = d.toList ++ 0 :: t.toList := by
 unfold key
 have h : (⟨#[0]⟩ : ByteArray).toList = [0] := by rw [ByteArray.toList_eq]
 rw [toList_app, toList_app, List.append_assoc, h]; rfl
theorem eq_iff {a b : ByteArray} : eq a b = true ↔ a = b := by
 unfold eq
 rw [beq_iff_eq]
 constructor
 ·intro h
  rw [ByteArray.toList_eq, ByteArray.toList_eq] at h
  exact ByteArray.ext (Array.toList_inj.1 h)
 ·rintro rfl; rfl
theorem eq_refl (a : ByteArray) : eq a a = true := eq_iff.2 rfl
theorem lt_irr (a : ByteArray) : lt a a = false := Sx.less_irr _
theorem lt_trans {a b c : ByteArray} (h1 : lt a b = true) (h2 : lt b c = true) : lt a c = true := Sx.less_trans _ _ _ h1 h2
theorem le_not {a b : ByteArray} : le a b = !(lt b a) := by
 unfold le lt
 cases h1 : Op.bytesLess b.toList a.toList with
 | true =>
   cases h2 : Op.bytesLess a.toList b.toList with
   | true => have := Sx.less_trans _ _ _ h1 h2; rw [Sx.less_irr] at this; cases this
   | false =>
     have : (a.toList == b.toList) = false := by
      rw [beq_eq_false_iff_ne]; intro e; rw [e, Sx.less_irr] at h1; cases h1
     rw [this]; rfl
 | false =>
   cases h2 : Op.bytesLess a.toList b.toList with
   | true => rfl
   | false =>
     have := Sx.less_tri _ _ h1 h2
     rw [this]; simp
theorem lt_key {d t d' t' : ByteArray} (h : d.size = d'.size) : lt (key d t) (key d' t') = (lt d d' || (eq d d' && lt t t')) := by
 unfold lt eq
 rw [key_list, key_list, less_app _ _ (by rw [size_len, size_len, h])]
 simp [Op.bytesLess]
theorem le_key {d t d' t' : ByteArray} (h : d.size = d'.size) : le (key d' t') (key d t) = !(lt d d' || (eq d d' && lt t t')) := by rw [le_not, lt_key h]
theorem eq_key {d t d' t' : ByteArray} (h : d.size = d'.size) : eq (key d t) (key d' t') = (eq d d' && eq t t') := by
 rw [Bool.eq_iff_iff, Bool.and_eq_true, eq_iff, eq_iff, eq_iff]
 constructor
 ·intro e
  have e2 := congrArg ByteArray.toList e
  rw [key_list, key_list] at e2
  obtain ⟨e3, e4⟩ := List.append_inj e2 (by rw [size_len, size_len, h])
  have e5 := List.tail_eq_of_cons_eq e4
  rw [ByteArray.toList_eq, ByteArray.toList_eq] at e3 e5
  exact ⟨ByteArray.ext (Array.toList_inj.1 e3), ByteArray.ext (Array.toList_inj.1 e5)⟩
 ·rintro ⟨rfl, rfl⟩; rfl
end St
end Go.Proofs.YthdiccdnggloiaaGreatDoor
