/- Parts of the proof, no condition: EventsMath, Events0, Row2, Open, Own, OrdM. -/
import Derived.Test.YtmpjnbhdlfneaaaGreatDoorEe1
import Derived.Below
import Derived.Shelf.Abstract
import Derived.Test.YtmpjnbhdlfneaaaGreatDoorProg
import Derived.WalkKit
import Derived.ProofKit
import Derived.OpenShut
import Derived.ShutString
import Derived.ChangeOld
import Derived.SizedLaws
import Derived.Lib.SmallJoins
import Derived.Deep.SlicePairs
import Derived.Maps.AppendAt
import Derived.Deep.RegionHeld
set_option linter.unusedVariables false
namespace Go.Proofs.YtmpjnbhdlfneaaaGreatDoor.Ev
def mom (n : Int) : Bool := decide (0 ≤ n ∧ n ≤ 6311433599)
theorem mom_iff (n : Int) : mom n = true ↔ 0 ≤ n ∧ n ≤ 6311433599 := by simp [mom]
theorem mom_no (n : Int) : mom n = false ↔ n < 0 ∨ 6311433599 < n := by simp only [mom, decide_eq_false_iff_not]; omega
def anyB (p : Int → Bool) (z : Nat → Int) (n : Nat) : Bool := (List.range n).any fun j => p (z j)
theorem anyB_yes {p : Int → Bool} {z : Nat → Int} {n : Nat} (j : Nat) (h : j < n) (hj : p (z j) = true) : anyB p z n = true :=
 List.any_eq_true.2 ⟨j, List.mem_range.2 h, hj⟩
theorem anyB_no {p : Int → Bool} {z : Nat → Int} {n : Nat} (h : ∀ j, j < n → p (z j) = false) : anyB p z n = false := by
 rw [anyB, List.any_eq_false]; intro j hj; rw [h j (List.mem_range.1 hj)]; exact Bool.false_ne_true
def err (z y : Nat → Int) (n m : Nat) (k : Int) : Int :=
 if 50 < n ∨ 50 < m then 4 else if anyB (fun x => !mom x) z n = true then 2 else if anyB (fun x => !mom x) y m = true then 2 else if 0 ≤ k ∧ k ≤ 86400 then 0 else 2
end Go.Proofs.YtmpjnbhdlfneaaaGreatDoor.Ev
namespace Go.Proofs.YtmpjnbhdlfneaaaGreatDoor
open Go.RowKit Go.Sort Go.Shelf
theorem below_allocs {a b : World} (h : Below a.heap.size a b) (o : Obj) : Below a.heap.size a (b.alloc o) := h.alloc h.size o
theorem moment_is (n : Int) (b : Bool) (h : Ev.mom n = b) (w : World) : Calls Tryz.prog 35 #[.int .i64 n] w fun e w' => e = .returned (.bool b) ∧ w = w' := by
 cases b
 ·have h' := (Ev.mom_no n).1 h
  clear h
  by_cases c : 0 ≤ n
  ·go_enter Tryz.func35, Tryz.ntmps35
   go_wp2_with fail
   go_ret
   exact ⟨ret_bool (by simp <;> omega), rfl⟩
  ·go_enter Tryz.func35, Tryz.ntmps35
   go_wp2_with fail
   go_ret
   exact ⟨ret_bool (by simp <;> omega), rfl⟩
 ·have h' := (Ev.mom_iff n).1 h
  clear h
  go_enter Tryz.func35, Tryz.ntmps35
  go_wp2_with fail
  go_ret
  exact ⟨ret_bool (by simp <;> omega), rfl⟩
def Row (w : World) (a : Option Addr) (len : Nat) (f : Nat → Value) : Prop :=
 0 < len → ∃ b off, a = some ⟨b, off, none⟩ ∧ b < w.heap.size ∧ ∀ i, i < len → w.cell? ⟨b, off + i, none⟩ = some (f i)
theorem Row.keep {w w' : World} {a : Option Addr} {len : Nat} {f : Nat → Value} (h : Row w a len f) (hb : Below w.heap.size w w') : Row w' a len f := by
 intro hl
 obtain ⟨b, off, rfl, hlt, hc⟩ := h hl
 exact ⟨b, off, rfl, Nat.lt_of_lt_of_le hlt hb.size, fun i hi => (hb.cell (p := ⟨b, off + i, none⟩) hlt).trans (hc i hi)⟩
end Go.Proofs.YtmpjnbhdlfneaaaGreatDoor
namespace Go.Proofs.YtmpjnbhdlfneaaaGreatDoor
open Go.RowKit Go.Sort
def Row2 (w : World) (a : Option Addr) (len : Nat) (f g : Nat → Value) : Prop :=
 0 < len → ∃ b off, a = some ⟨b, off, none⟩ ∧ b < w.heap.size ∧ ∀ i, i < len → w.cell? ⟨b, off + i * 2, none⟩ = some (f i) ∧ w.cell? ⟨b, off + i * 2 + 1, none⟩ = some (g i)
theorem Row2.keep {w w' : World} {a : Option Addr} {len : Nat} {f g : Nat → Value} (h : Row2 w a len f g) (hb : Below w.heap.size w w') : Row2 w' a len f g := by
 intro hl
 obtain ⟨b, off, rfl, hlt, hc⟩ := h hl
 exact ⟨b, off, rfl, Nat.lt_of_lt_of_le hlt hb.size, fun i hi => ⟨(hb.cell (p := ⟨b, off + i * 2, none⟩) hlt).trans (hc i hi).1, (hb.cell (p := ⟨b, off + i * 2 + 1, none⟩) hlt).trans (hc i hi).2⟩⟩
end Go.Proofs.YtmpjnbhdlfneaaaGreatDoor
namespace Go.Proofs.YtmpjnbhdlfneaaaGreatDoor
open Go.ChangeShapes Go.WideShapes Go.ChangeAt Go.RowKit Go.Joins Go.Deep
theorem row2_of {w : World} {x : Addr} {len m : Nat} {V0 V1 : Nat → Value} (hlm : len ≤ m) (h : ∀ i, i < m → w.cell? (x.add (i * 2)) = some (V0 i) ∧ w.cell? (x.add (i * 2 + 1)) = some (V1 i) ∧ (∃ n, V0 i = .int .i64 n ∧ (Lit.int .i64 n).wf = true) ∧ (∃ n, V1 i = .int .i64 n ∧ (Lit.int .i64 n).wf = true)) :
  ∃ S T : Nat → Int, Row2 w (some x) len (fun i => .int .i64 (S i)) (fun i => .int .i64 (T i)) ∧ (∀ i, i < len → (Lit.int .i64 (S i)).wf = true ∧ (Lit.int .i64 (T i)).wf = true) := by
 refine ⟨fun i => intOf (V0 i), fun i => intOf (V1 i), fun h0 => ?_, fun i hi => ?_⟩
 ·obtain ⟨b, off, spot⟩ := x
  have hc := (h 0 (by omega)).1
  have hspot : spot = none := by simpa [Addr.add] using World.cell?_spot hc
  subst hspot
  refine ⟨b, off, rfl, by simpa [Addr.add] using World.block_lt_of_cell? w _ hc, fun i hi => ?_⟩
  obtain ⟨e0, e1, ⟨n0, q0, _⟩, ⟨n1, q1, _⟩⟩ := h i (by omega)
  rw [show (⟨b, off, none⟩ : Addr).add (i * 2) = ⟨b, off + i * 2, none⟩ from by unfold Addr.add; split <;> simp_all, q0] at e0
  rw [show (⟨b, off, none⟩ : Addr).add (i * 2 + 1) = ⟨b, off + i * 2 + 1, none⟩ from by unfold Addr.add; split <;> simp_all; omega, q1] at e1
  show _ = some (Value.int .i64 (intOf (V0 i))) ∧ _ = some (Value.int .i64 (intOf (V1 i)))
  rw [q0, q1]; exact ⟨e0, e1⟩
 ·obtain ⟨e0, e1, ⟨n0, q0, w0⟩, ⟨n1, q1, w1⟩⟩ := h i (by omega)
  show (Lit.int .i64 (intOf (V0 i))).wf = true ∧ (Lit.int .i64 (intOf (V1 i))).wf = true
  rw [q0, q1]; exact ⟨w0, w1⟩
end Go.Proofs.YtmpjnbhdlfneaaaGreatDoor
namespace Go.Proofs.YtmpjnbhdlfneaaaGreatDoor
open Go.RowKit
theorem ownsRow_down {w : World} {base base' : Nat} {e : TypeId} {size : Nat} {v : Value} {n : Nat} {xs : List Value} (h : w.ownsRow base e size v n xs) (hb : base' ≤ base) : w.ownsRow base' e size v n xs := by
 refine ⟨h.1, ?_⟩
 rcases h.2 with hn | ⟨g, cap, cur, rfl, hg, rest⟩
 ·exact .inl hn
 ·exact .inr ⟨g, cap, cur, rfl, Nat.le_trans hb hg, rest⟩
def NewOr (w : World) (old : Option Nat) (g : Nat) : Prop := old = some g ∨ w.heap.size ≤ g
theorem wpList_append_own2 {P : Program} (w : World) {ops : Array Oper} {rest : List Oper} {o : Oper} {a : Act} {Q : Exit → Act → World → Prop} (hgd : o.guard = none) (s x : Operand) (t : TypeId)
  (ho : o.op = .call { callee := .builtin .append, args := #[s, x], argTypes := #[t, t] })
  (base : Nat) (e : TypeId) (i : TypeInfo) (z : Value) (size bytes : Nat) (ht : P.underlying t = some (.slice e)) (hi : P.info? e = some i) (hz : i.zero = some z)
  (hsize : i.size = size) (hby : i.bytes = bytes) (hzs : z.cells.size = size) (hsz : 0 < size)
  (v : Value) (n : Nat) (xs : List Value) (hs : a.eval s = v) (hown : w.ownsRow base e size v n xs)
  (ad : Addr) (m c : Nat) (news : List Value) (hx : a.eval x = .slice (some ad) m c) (hm : 0 < m) (hl : news.length = m * size) (hnews : ∀ j u, news[j]? = some u → w.cell? (ad.add j) = some u) (h1 : ∀ u ∈ news, u.oneCell' = true)
  (h63 : n + m ≤ maxLen) (hbytes : (n + m) * bytes ≤ 140737488355328) (hbase : base ≤ w.heap.size)
  (h : ∀ g cap w', w'.ownsRow base e size (.slice (some ⟨g, 0, none⟩) (n + m) cap) (n + m) (xs ++ news) → w.grownBy w' v.ownBlock → NewOr w v.ownBlock g → wpList P ops Q rest (a.put o.dst (.slice (some ⟨g, 0, none⟩) (n + m) cap)) w') : wpList P ops Q (o :: rest) a w := by
 have shape : ∀ v' w', w'.ownsRow w.heap.size e size v' (n + m) (xs ++ news) → w.grownBy w' none → wpList P ops Q rest (a.put o.dst v') w' := by
  intro v' w' hown' hg
  rcases hown'.2 with ⟨_, h0⟩ | ⟨g, cap, cur, rfl, hgb, _⟩
  ·omega
  ·exact h g cap w' (ownsRow_down hown' hbase) ⟨hg.os, hg.tape, hg.output, hg.size, fun k hk _ => hg.block k hk (by simp)⟩ (.inr hgb)
 have hlen := hown.1
 rcases hown.2 with ⟨rfl, rfl⟩ | ⟨g, cap, cur, rfl, hbg, hg, hnc, hcm, hcs, htake⟩
 ·refine wpList_append_grows w hgd s x t ho e i z size bytes ht hi hz hsize hby hzs hsz none 0 0 xs hs (fun _ => ⟨rfl, rfl⟩) hlen (fun b hb => by cases hb) ad m c news hx hl hnews h1 (by omega) h63 hbytes shape
 ·by_cases hroom : n + m ≤ cap
  ·refine wpList_append_fits w hgd s x t ho base e i size ht hi hsize g n cap xs hs hown ad m c news hx hl hnews h1 hroom fun w' hown' hgr => ?_
   exact h g cap w' hown' hgr (.inl rfl)
  ·exact wpList_append_grows w hgd s x t ho e i z size bytes ht hi hz hsize hby hzs hsz (some ⟨g, 0, none⟩) n cap xs hs (fun hh => by cases hh) hlen (fun b hb => by cases hb; exact hown.cells (g := g) rfl) ad m c news hx hl hnews h1 (by omega) h63 hbytes shape
theorem NewOr.ne {w : World} {old : Option Nat} {g b : Nat} (h : NewOr w old g) (hb : b < w.heap.size) (hne : old ≠ some b) : g ≠ b := by
 rcases h with h | h
 ·intro e; subst e; exact hne h
 ·omega
end Go.Proofs.YtmpjnbhdlfneaaaGreatDoor
namespace Go.Proofs.YtmpjnbhdlfneaaaGreatDoor
open Go
section
variable {P : Program} {ops : Array Oper} {Q : Exit → Act → World → Prop} {md : Region.Mode} {C : World → Prop} {m : Nat}
def Until (C : World → Prop) (m : Nat) (l : Array Bool) (w : World) : Prop := l.getD m true = false → C w
def anyM (P : Program) (md : Region.Mode) (ops : Array Oper) (Q : Exit → Act → World → Prop) (C : World → Prop) (m : Nat) : Nat → Array Bool → Act → World → Prop
 | 0, l, a, w => Region.ready md ops l = [] ∧ Q .normal a w
 | f + 1, l, a, w => (Region.ready md ops l = [] → Q .normal a w) ∧ ∀ i ∈ Region.ready md ops l, wpOp P ops Q i (fun a' w' => Until C m (l.setIfInBounds i true) w' ∧ anyM P md ops Q C m f (l.setIfInBounds i true) a' w') a w
def ReadyM (P : Program) (md : Region.Mode) (ops : Array Oper) (Q : Exit → Act → World → Prop) (C : World → Prop) (m : Nat) (f : Nat) (l : Array Bool) (a : Act) (w : World) (rs : List Nat) : Prop :=
 ∀ i ∈ rs, wpOp P ops Q i (fun a' w' => Until C m (l.setIfInBounds i true) w' ∧ anyM P md ops Q C m f (l.setIfInBounds i true) a' w') a w
theorem ReadyM.nil {f : Nat} {l : Array Bool} {a : Act} {w : World} : ReadyM P md ops Q C m f l a w [] := fun _ h => by cases h
theorem ReadyM.cons {f : Nat} {l : Array Bool} {a : Act} {w : World} {i : Nat} {o : Oper} {rs : List Nat} (ho : ops[i]? = some o)
  (h : ∀ K' : Act → World → Prop, Shut (∀ a w, Until C m (l.setIfInBounds i true) w → anyM P md ops Q C m f (l.setIfInBounds i true) a w → K' a w) → if Region.wanted o (yielded ops a.tmps) = true then Oper.wp P o a w K' Q else K' (a.put o.dst undef) w)
  (hs : ReadyM P md ops Q C m f l a w rs) : ReadyM P md ops Q C m f l a w (i :: rs) := fun j hj => by
 rcases List.mem_cons.1 hj with rfl | hj
 ·exact wpOp_step ho (fun K' hK => h K' (fun a w hS hW => hK a w ⟨hS, hW⟩))
 ·exact hs j hj
end
end Go.Proofs.YtmpjnbhdlfneaaaGreatDoor
