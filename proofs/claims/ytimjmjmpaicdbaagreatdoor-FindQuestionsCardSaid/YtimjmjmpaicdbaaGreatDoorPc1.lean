/- Parts of the proof, no condition: Kit, EventsMath, Outside, Events0, Row2, Cnd, FdMath, FdStr, FdStr2, FdStr3, FdLow, FdPh, CndForm, ZoneMath, Zone, FdSmall. -/
import Derived.Test.YtimjmjmpaicdbaaGreatDoorProg
import Derived.WalkKit
import Derived.WalkSpells
import Derived.WalkLawsBesides
import Derived.Deep.QuietTactic
import Derived.BigQuiet
import Derived.Lib.Hide
import Derived.Lib.QuietBelow
import Derived.Deep.LoopGhost
import Derived.Deep.OwnRows
import Derived.Outline
import Derived.Below
import Derived.Shelf.Abstract
import Derived.Lib.Bytealg
import Derived.Lib.ConvBytes
import Derived.Laws.Closers25
set_option maxRecDepth 100000
set_option maxHeartbeats 4000000
set_option linter.unusedVariables false
namespace Go.Proofs.YtimjmjmpaicdbaaGreatDoor
open Go.RowKit Go.Sort
theorem ret_int {k : IntKind} {a b : Int} (h : a = b) : Ending.returned (.int k a) = .returned (.int k b) := by rw [h]
theorem ret_bool {a b : Bool} (h : a = b) : Ending.returned (.bool a) = .returned (.bool b) := by rw [h]
theorem ret_int2 {k l : IntKind} {a b c d : Int} (h : a = b) (g : c = d) : Ending.returned (.tuple #[.int k a, .int l c]) = .returned (.tuple #[.int k b, .int l d]) := by rw [h, g]
theorem quiet_same {P : Program} {f : FuncId} {args : Array Value} {w : World} {n : Nat} {v : Value}
  (h : Calls P f args (w.drewN n) fun e w' => e = .returned v ∧ w.drewN n = w') : Calls P f args (w.drewN n) fun e w'' => e = .returned v ∧ ∃ m, w'' = w.drewN m :=
 h.mono fun _ _ ⟨he, hm⟩ => ⟨he, n, hm.symm⟩
theorem below_drewN {B : Nat} {a w : World} (h : Below B a w) (n : Nat) : Below B a (w.drewN n) := ⟨h.os, h.tape, h.output, h.size, h.block⟩
theorem below_up {a b c : World} (h : Below a.heap.size a b) (g : Below b.heap.size b c) : Below a.heap.size a c := h.trans (g.mono h.size)
def Blk (w : World) (b : Nat) (c : Array Value) (t : TypeId) : Prop := w.heap[b]? = some (.cells c t (0, 0))
namespace Blk
variable {w w' : World} {b : Nat} {c : Array Value} {t : TypeId}
theorem cell (h : Blk w b c t) (i : Nat) : w.cell? ⟨b, i, none⟩ = c[i]? := by
 unfold Blk at h; simp [World.cell?, h]
theorem frozen (h : Blk w b c t) (i : Nat) : w.frozen? ⟨b, i, none⟩ = false := by
 unfold Blk at h; simp [World.frozen?, h]
theorem lt (h : Blk w b c t) : b < w.heap.size := (Array.getElem?_eq_some_iff.1 h).1
theorem of_block (h : Blk w b c t) (e : w'.heap[b]? = w.heap[b]?) : Blk w' b c t := e.trans h
theorem keep (h : Blk w b c t) (hb : Below w.heap.size w w') : Blk w' b c t := h.of_block (hb.block b h.lt)
theorem grown {row : Option Nat} (h : Blk w b c t) (hg : w.grownBy w' row) (hne : some b ≠ row) : Blk w' b c t := h.of_block (hg.block b h.lt hne)
theorem alloc (h : Blk w b c t) (o : Obj) : Blk (w.alloc o) b c t := h.of_block (Below.heap_alloc w o b h.lt)
theorem drew (h : Blk w b c t) : Blk w.drew b c t := h
theorem drewN (h : Blk w b c t) (n : Nat) : Blk (w.drewN n) b c t := h
theorem setOther (h : Blk w b c t) {a : Addr} (ha : b ≠ a.block) (v : Value) : Blk (w.setCell a v) b c t := h.of_block (Below.heap_setCell w a v b ha)
theorem set (h : Blk w b c t) (i : Nat) (v : Value) : Blk (w.setCell ⟨b, i, none⟩ v) b (c.setIfInBounds i v) t := by
 unfold Blk at *; simp [World.setCell, Array.getElem?_modify, h]
theorem new (w : World) (c : Array Value) (t : TypeId) : Blk (w.alloc (.cells c t)) w.heap.size c t := by
 unfold Blk; exact heap_alloc_new w _
theorem one {x : Value} (h : Blk w b #[x] t) : w.cell? ⟨b, 0, none⟩ = some x := by rw [h.cell]; rfl
theorem two {x y : Value} (h : Blk w b #[x, y] t) : w.cell? ⟨b, 0, none⟩ = some x ∧ w.cell? ⟨b, 1, none⟩ = some y := ⟨by rw [h.cell]; rfl, by rw [h.cell]; rfl⟩
theorem three {x y z : Value} (h : Blk w b #[x, y, z] t) : w.cell? ⟨b, 0, none⟩ = some x ∧ w.cell? ⟨b, 1, none⟩ = some y ∧ w.cell? ⟨b, 2, none⟩ = some z :=
 ⟨by rw [h.cell]; rfl, by rw [h.cell]; rfl, by rw [h.cell]; rfl⟩
theorem free (h : Blk w b c t) : ∀ i, w.frozen? ⟨b, i, none⟩ = false := fun i => h.frozen i
end Blk
theorem box (w : World) (c : Array Value) (t : TypeId) : ∃ W1, w.alloc (.cells c t) = W1 ∧ Blk W1 w.heap.size c t ∧ W1.heap.size = w.heap.size + 1 ∧ Below w.heap.size w W1 :=
 ⟨_, rfl, Blk.new _ _ _, by simp, (Below.refl _ _).alloc (Nat.le_refl _) _⟩
end Go.Proofs.YtimjmjmpaicdbaaGreatDoor
namespace Go.Proofs.YtimjmjmpaicdbaaGreatDoor.Ev
def mom (n : Int) : Bool := decide (0 ≤ n ∧ n ≤ 6311433599)
theorem mom_iff (n : Int) : mom n = true ↔ 0 ≤ n ∧ n ≤ 6311433599 := by simp [mom]
theorem mom_no (n : Int) : mom n = false ↔ n < 0 ∨ 6311433599 < n := by simp only [mom, decide_eq_false_iff_not]; omega
def meets (x s y k : Int) : Bool := decide (-k ≤ x + s - y ∧ x + s - y ≤ k)
def anyB (p : Int → Bool) (z : Nat → Int) (n : Nat) : Bool := (List.range n).any fun j => p (z j)
theorem anyB_yes {p : Int → Bool} {z : Nat → Int} {n : Nat} (j : Nat) (h : j < n) (hj : p (z j) = true) : anyB p z n = true :=
 List.any_eq_true.2 ⟨j, List.mem_range.2 h, hj⟩
theorem anyB_no {p : Int → Bool} {z : Nat → Int} {n : Nat} (h : ∀ j, j < n → p (z j) = false) : anyB p z n = false := by
 rw [anyB, List.any_eq_false]; intro j hj; rw [h j (List.mem_range.1 hj)]; exact Bool.false_ne_true
def near (z : Nat → Int) (n : Nat) (s y k : Int) : Bool := (List.range n).any fun j => meets (z j) s y k
def hits (z y : Nat → Int) (n : Nat) (s k : Int) : Nat → Int
 | 0 => 0
 | m + 1 => hits z y n s k m + if near z n s (y m) k then 1 else 0
def abs (s : Int) : Int := max s (-s)
def nearer (s t : Int) : Bool := decide (abs s < abs t ∨ abs s = abs t ∧ t < s)
def takes (best many s n : Int) : Bool := decide (many < n) || (decide (n = many) && nearer s best)
def step (z y : Nat → Int) (n m : Nat) (k : Int) (st : Int × Int) (s o : Int) : Int × Int := if takes st.1 st.2 o (hits z y n s k m) = true then (o, hits z y n s k m) else st
theorem step_no {z y : Nat → Int} {n m : Nat} {k b c s o h : Int} (hh : hits z y n s k m = h) (ht : takes b c o h = false) : step z y n m k (b, c) s o = (b, c) := by
 unfold step; rw [hh, if_neg (by rw [ht]; exact Bool.false_ne_true)]
def err (z y : Nat → Int) (n m : Nat) (k : Int) : Int :=
 if 50 < n ∨ 50 < m then 4 else if anyB (fun x => !mom x) z n = true then 2 else if anyB (fun x => !mom x) y m = true then 2 else if 0 ≤ k ∧ k ≤ 86400 then 0 else 2
end Go.Proofs.YtimjmjmpaicdbaaGreatDoor.Ev
namespace Go.Proofs.YtimjmjmpaicdbaaGreatDoor
open Go.RowKit
theorem outside_yes (n lo hi : Int) (w : World) (h : n < lo ∨ hi < n) :
  Calls Tryz.prog 156 #[.int .i64 n, .int .i64 lo, .int .i64 hi] w fun e w' => e = .returned (.bool true) ∧ w = w' := by
 by_cases c : n < lo
 ·go_enter Tryz.func156, Tryz.ntmps156
  go_wp2
  go_ret
  exact ⟨rfl, rfl⟩
 ·have d : hi < n := by omega
  go_enter Tryz.func156, Tryz.ntmps156
  go_wp2
  go_ret
  exact ⟨rfl, rfl⟩
theorem outside_no (n lo hi : Int) (w : World) (h1 : lo ≤ n) (h2 : n ≤ hi) :
  Calls Tryz.prog 156 #[.int .i64 n, .int .i64 lo, .int .i64 hi] w fun e w' => e = .returned (.bool false) ∧ w = w' := by
 go_enter Tryz.func156, Tryz.ntmps156
 go_wp2
 go_ret
 exact ⟨ret_bool (by simp; omega), rfl⟩
end Go.Proofs.YtimjmjmpaicdbaaGreatDoor
namespace Go.Proofs.YtimjmjmpaicdbaaGreatDoor
open Go.RowKit Go.Sort Go.Shelf
theorem below_allocs {a b : World} (h : Below a.heap.size a b) (o : Obj) : Below a.heap.size a (b.alloc o) := h.alloc h.size o
theorem isMoment_is (n : Int) (b : Bool) (h : Ev.mom n = b) (w : World) : Calls Tryz.prog 100 #[.int .i64 n] w fun e w' => e = .returned (.bool b) ∧ w = w' := by
 cases b
 ·have h' := (Ev.mom_no n).1 h
  clear h
  go_enter Tryz.func100, Tryz.ntmps100
  go_wp2_with (go_at_call 156; refine (outside_yes _ _ _ _ h').mono ?_; rintro e w' ⟨rfl, rfl⟩)
  go_ret
  exact ⟨rfl, rfl⟩
 ·have h' := (Ev.mom_iff n).1 h
  clear h
  go_enter Tryz.func100, Tryz.ntmps100
  go_wp2_with (go_at_call 156; refine (outside_no _ _ _ _ h'.1 h'.2).mono ?_; rintro e w' ⟨rfl, rfl⟩)
  go_ret
  exact ⟨rfl, rfl⟩
theorem moment_is (n : Int) (b : Bool) (h : Ev.mom n = b) (w : World) : Calls Tryz.prog 71 #[.int .i64 n] w fun e w' => e = .returned (.bool b) ∧ w = w' := by
 cases b
 ·have h' := (Ev.mom_no n).1 h
  clear h
  by_cases c : 0 ≤ n
  ·go_enter Tryz.func71, Tryz.ntmps71
   go_wp2_with fail
   go_ret
   exact ⟨ret_bool (by simp <;> omega), rfl⟩
  ·go_enter Tryz.func71, Tryz.ntmps71
   go_wp2_with fail
   go_ret
   exact ⟨ret_bool (by simp <;> omega), rfl⟩
 ·have h' := (Ev.mom_iff n).1 h
  clear h
  go_enter Tryz.func71, Tryz.ntmps71
  go_wp2_with fail
  go_ret
  exact ⟨ret_bool (by simp <;> omega), rfl⟩
def Row (w : World) (a : Option Addr) (len : Nat) (f : Nat → Value) : Prop :=
 0 < len → ∃ b off, a = some ⟨b, off, none⟩ ∧ b < w.heap.size ∧ ∀ i, i < len → w.cell? ⟨b, off + i, none⟩ = some (f i)
theorem Row.keep {w w' : World} {a : Option Addr} {len : Nat} {f : Nat → Value} (h : Row w a len f) (hb : Below w.heap.size w w') : Row w' a len f := by
 intro hl
 obtain ⟨b, off, rfl, hlt, hc⟩ := h hl
 exact ⟨b, off, rfl, Nat.lt_of_lt_of_le hlt hb.size, fun i hi => (hb.cell (p := ⟨b, off + i, none⟩) hlt).trans (hc i hi)⟩
end Go.Proofs.YtimjmjmpaicdbaaGreatDoor
namespace Go.Proofs.YtimjmjmpaicdbaaGreatDoor
open Go.RowKit Go.Sort
def Row2 (w : World) (a : Option Addr) (len : Nat) (f g : Nat → Value) : Prop :=
 0 < len → ∃ b off, a = some ⟨b, off, none⟩ ∧ b < w.heap.size ∧ ∀ i, i < len → w.cell? ⟨b, off + i * 2, none⟩ = some (f i) ∧ w.cell? ⟨b, off + i * 2 + 1, none⟩ = some (g i)
theorem Row2.keep {w w' : World} {a : Option Addr} {len : Nat} {f g : Nat → Value} (h : Row2 w a len f g) (hb : Below w.heap.size w w') : Row2 w' a len f g := by
 intro hl
 obtain ⟨b, off, rfl, hlt, hc⟩ := h hl
 exact ⟨b, off, rfl, Nat.lt_of_lt_of_le hlt hb.size, fun i hi => ⟨(hb.cell (p := ⟨b, off + i * 2, none⟩) hlt).trans (hc i hi).1, (hb.cell (p := ⟨b, off + i * 2 + 1, none⟩) hlt).trans (hc i hi).2⟩⟩
inductive Cnd where
 | zero
 | mk (op : Int) (ka : Option Addr) (kn kc : Nat) (kids : Nat → Cnd) (text : ByteArray) (low high : Int) (aa : Option Addr) (an ac : Nat) (lat lon : Nat → Int)
namespace Cnd
def cells : Cnd → List Value
 | zero => []
 | mk op ka kn kc _ text low high aa an ac _ _ => [.int .i64 op, .slice ka kn kc, .string text, .int .i64 low, .int .i64 high, .slice aa an ac]
def In (w : World) : Cnd → Prop
 | zero => False
 | mk op ka kn kc kids text low high aa an ac lat lon =>
   (0 < kn → ∃ b off, ka = some ⟨b, off, none⟩ ∧ b < w.heap.size ∧ ∀ i, i < kn → ∀ j v, (kids i).cells[j]? = some v → w.cell? ⟨b, off + i * 6 + j, none⟩ = some v) ∧
   (∀ i, i < kn → (kids i).In w) ∧ Row2 w aa an (fun i => .int .i64 (lat i)) (fun i => .int .i64 (lon i))
def Fits : Cnd → Prop
 | zero => True
 | mk op ka kn kc kids text low high aa an ac lat lon => kn ≤ 9223372036854775807 ∧ an ≤ 9223372036854775807 ∧ text.size ≤ 9223372036854775807 ∧ ∀ i, i < kn → (kids i).Fits
theorem In.keep {w w' : World} (hb : Below w.heap.size w w') : ∀ {c : Cnd}, c.In w → c.In w'
 | zero, h => h
 | mk op ka kn kc kids text low high aa an ac lat lon, ⟨h1, h2, h3⟩ =>
   ⟨fun hk => by
    obtain ⟨b, off, e, hlt, hc⟩ := h1 hk
    exact ⟨b, off, e, Nat.lt_of_lt_of_le hlt hb.size, fun i hi j v hv => (hb.cell (p := ⟨b, off + i * 6 + j, none⟩) hlt).trans (hc i hi j v hv)⟩,
   fun i hi => In.keep hb (h2 i hi), h3.keep hb⟩
end Cnd
end Go.Proofs.YtimjmjmpaicdbaaGreatDoor
namespace Go.Proofs.YtimjmjmpaicdbaaGreatDoor.Fd
def hexN (c : Nat) : Bool := decide (48 ≤ c ∧ c ≤ 57 ∨ 97 ≤ c ∧ c ≤ 102)
def letN (c : Nat) : Bool := decide (97 ≤ c ∧ c ≤ 122)
def tailN (c : Nat) : Bool := decide (97 ≤ c ∧ c ≤ 122 ∨ 48 ≤ c ∧ c ≤ 57 ∨ c = 45)
def nmN (i c : Nat) : Bool := if i = 0 then letN c else tailN c
theorem letN_iff (c : Nat) : letN c = true ↔ 97 ≤ c ∧ c ≤ 122 := by simp [letN]
theorem tailN_iff (c : Nat) : tailN c = true ↔ 97 ≤ c ∧ c ≤ 122 ∨ 48 ≤ c ∧ c ≤ 57 ∨ c = 45 := by simp [tailN]
theorem nmN_zero (c : Nat) : nmN 0 c = letN c := rfl
theorem nmN_pos (i c : Nat) (h : i ≠ 0) : nmN i c = tailN c := by unfold nmN; rw [if_neg h]
theorem nmN_tail (i c : Nat) (h : nmN i c = true) : tailN c = true := by
 unfold nmN at h; split at h
 ·rw [letN_iff] at h; rw [tailN_iff]; omega
 ·exact h
def fileB (s : ByteArray) : Bool := decide (s.size = 16 ∧ ∀ i, (h : i < s.size) → hexN s[i].toNat = true)
def nameB (s : ByteArray) : Bool := decide ((1 ≤ s.size ∧ s.size ≤ 40) ∧ ∀ i, (h : i < s.size) → nmN i s[i].toNat = true)
def plainB (s : ByteArray) : Bool := decide (∀ i, (h : i < s.size) → 32 ≤ s[i].toNat)
theorem nameB_yes {s : ByteArray} (h : 1 ≤ s.size ∧ s.size ≤ 40) (g : ∀ i, (h : i < s.size) → nmN i s[i].toNat = true) : nameB s = true := decide_eq_true ⟨h, g⟩
theorem nameB_size {s : ByteArray} (h : ¬ (1 ≤ s.size ∧ s.size ≤ 40)) : nameB s = false := decide_eq_false fun g => h g.1
theorem nameB_at {s : ByteArray} (i : Nat) (h : i < s.size) (g : nmN i s[i].toNat = false) : nameB s = false := decide_eq_false fun k => by have := k.2 i h; rw [g] at this; cases this
theorem plainB_yes {s : ByteArray} (g : ∀ i, (h : i < s.size) → 32 ≤ s[i].toNat) : plainB s = true := decide_eq_true g
theorem plainB_at {s : ByteArray} (i : Nat) (h : i < s.size) (g : s[i].toNat < 32) : plainB s = false := decide_eq_false fun k => by have := k i h; omega
theorem upto_next {s : ByteArray} {P : Nat → Nat → Prop} {j : Nat} (h : ∀ i, (h : i < s.size) → i < j → P i s[i].toNat) (hj : j < s.size) (g : P j s[j].toNat) : ∀ i, (h : i < s.size) → i < j + 1 → P i s[i].toNat := by
 intro i hi hij
 by_cases e : i = j
 ·subst e; exact g
 ·exact h i hi (by omega)
end Go.Proofs.YtimjmjmpaicdbaaGreatDoor.Fd
namespace Go.Proofs.YtimjmjmpaicdbaaGreatDoor
open Go.RowKit Go.Sort Go.Shelf
theorem outsideF_yes (n lo hi : Int) (w : World) (h : n < lo ∨ hi < n) : Calls Tryz.prog 32 #[.int .i64 n, .int .i64 lo, .int .i64 hi] w fun e w' => e = .returned (.bool true) ∧ w = w' := by
 by_cases c : n < lo
 ·go_enter Tryz.func32, Tryz.ntmps32
  go_wp2
  go_ret
  exact ⟨rfl, rfl⟩
 ·have d : hi < n := by omega
  go_enter Tryz.func32, Tryz.ntmps32
  go_wp2
  go_ret
  exact ⟨rfl, rfl⟩
theorem outsideF_no (n lo hi : Int) (w : World) (h : lo ≤ n ∧ n ≤ hi) : Calls Tryz.prog 32 #[.int .i64 n, .int .i64 lo, .int .i64 hi] w fun e w' => e = .returned (.bool false) ∧ w = w' := by
 obtain ⟨h1, h2⟩ := h
 go_enter Tryz.func32, Tryz.ntmps32
 go_wp2
 go_ret
 exact ⟨ret_bool (by simp <;> omega), rfl⟩
theorem outsideF_is (n lo hi : Int) (b : Bool) (h : decide (lo ≤ n ∧ n ≤ hi) = b) (w : World) : Calls Tryz.prog 32 #[.int .i64 n, .int .i64 lo, .int .i64 hi] w fun e w' => e = .returned (.bool (!b)) ∧ w = w' := by
 cases b
 ·exact outsideF_yes _ _ _ _ (by rw [decide_eq_false_iff_not] at h; omega)
 ·exact outsideF_no _ _ _ _ (of_decide_eq_true h)
theorem in_is (n lo hi : Int) (b : Bool) (h : decide (lo ≤ n ∧ n ≤ hi) = b) (w : World) : Calls Tryz.prog 31 #[.int .i64 n, .int .i64 lo, .int .i64 hi] w fun e w' => e = .returned (.bool b) ∧ w = w' := by
 cases b
 ·rw [decide_eq_false_iff_not] at h
  by_cases c : lo ≤ n
  ·have d : hi < n := by omega
   clear h
   go_enter Tryz.func31, Tryz.ntmps31
   go_wp2
   go_ret
   exact ⟨ret_bool (by simp <;> omega), rfl⟩
  ·clear h
   go_enter Tryz.func31, Tryz.ntmps31
   go_wp2
   go_ret
   exact ⟨ret_bool (by simp <;> omega), rfl⟩
 ·obtain ⟨h1, h2⟩ := of_decide_eq_true h
  clear h
  go_enter Tryz.func31, Tryz.ntmps31
  go_wp2
  go_ret
  exact ⟨ret_bool (by simp <;> omega), rfl⟩
theorem plain_is (s : ByteArray) (hs : s.size ≤ 9223372036854775807) (b : Bool) (h : Fd.plainB s = b) (w : World) : Calls Tryz.prog 70 #[.string s] w fun e w' => e = .returned (.bool b) ∧ w = w' := by
 have HB := Lib.hid h; clear h
 go_enter Tryz.func70, Tryz.ntmps70
 go_wp2_with fail
 go_loopg [6] s.size (fun gk i wr => ∃ j : Nat, j ≤ s.size ∧ gk = s.size - j ∧ i = .int .i64 j ∧ (∀ i, (h : i < s.size) → i < j → 32 ≤ s[i].toNat) ∧ w = wr)
 case atStart => exact ⟨0, by omega, rfl, rfl, fun i _ hi => by omega, rfl⟩
 case round =>
  obtain ⟨j, hj, rfl, rfl, hall, rfl⟩ := hrel
  have HALL := Lib.hid hall; clear hall
  by_cases hlt : j < s.size
  ·by_cases hx : 32 ≤ s[j].toNat
   ·have HN := Lib.hid (Fd.upto_next (P := fun _ c => 32 ≤ c) HALL.out hlt hx)
    have i1 : ¬ (s[j].toNat : Int) < 32 := by omega
    clear hx
    go_wp2_with fail
    go_roundg (s.size - (j + 1))
    case rel => exact ⟨j + 1, by omega, rfl, by go_num, HN.out, rfl⟩
    case measure => omega
   ·have i1 : (s[j].toNat : Int) < 32 := by omega
    have HB2 : Hid (b = false) := by have h1 := HB.out; rw [Fd.plainB_at j hlt (by omega)] at h1; exact Lib.hid h1.symm
    clear hx
    go_wp2_with fail
    go_ret
    exact ⟨ret_bool HB2.out.symm, rfl⟩
  ·obtain rfl : j = s.size := by omega
   have HB2 : Hid (b = true) := by have h1 := HB.out; rw [Fd.plainB_yes (fun i hi => HALL.out i hi hi)] at h1; exact Lib.hid h1.symm
   go_wp2_with fail
   go_ret
   exact ⟨ret_bool HB2.out.symm, rfl⟩
theorem isNameR_is (s : ByteArray) (hs : s.size ≤ 9223372036854775807) (b : Bool) (h : Fd.nameB s = b) (w : World) : Calls Tryz.prog 69 #[.string s] w fun e w' => e = .returned (.bool b) ∧ w = w' := by
 have HB := Lib.hid h; clear h
 go_enter Tryz.func69, Tryz.ntmps69
 go_wp2_with fail
 go_loopg [6] s.size (fun gk i wr => ∃ j : Nat, j ≤ s.size ∧ gk = s.size - j ∧ i = .int .i64 j ∧ (∀ i, (h : i < s.size) → i < j → Fd.nmN i s[i].toNat = true) ∧ w = wr)
 case atStart => exact ⟨0, by omega, rfl, rfl, fun i _ hi => by omega, rfl⟩
 case round =>
  obtain ⟨j, hj, rfl, rfl, hall, rfl⟩ := hrel
  have HALL := Lib.hid hall; clear hall
  by_cases hlt : j < s.size
  ·by_cases hx : Fd.nmN j s[j].toNat = true
   ·have HN := Lib.hid (Fd.upto_next (P := fun i c => Fd.nmN i c = true) HALL.out hlt hx)
    have ht := (Fd.tailN_iff _).1 (Fd.nmN_tail _ _ hx)
    by_cases i1 : (97 : Int) ≤ (s[j].toNat : Int) ∧ (s[j].toNat : Int) ≤ 122
    ·obtain ⟨i1, i2⟩ := i1
     clear hx ht
     go_wp2_with fail
     go_roundg (s.size - (j + 1))
     case rel => exact ⟨j + 1, by omega, rfl, by go_num, HN.out, rfl⟩
     case measure => omega
    ·have hj0 : j ≠ 0 := by
      rintro rfl
      rw [Fd.nmN_zero, Fd.letN_iff] at hx; omega
     have hj1 : ((j : Int) == 0) = false := by simpa using hj0
     clear hx
     by_cases i3 : s[j].toNat = 45
     ·have i4 : ((s[j].toNat : Int) == 45) = true := by simp; omega
      have i5 : ((s[j].toNat : Int) != 45) = false := by simp; omega
      have i6 : (s[j].toNat : Int) < 97 := by omega
      clear i1 ht i3
      go_wp2_with fail
      go_roundg (s.size - (j + 1))
      case rel => exact ⟨j + 1, by omega, rfl, by go_num, HN.out, rfl⟩
      case measure => omega
     ·have i4 : ((s[j].toNat : Int) == 45) = false := by simp; omega
      have i5 : ((s[j].toNat : Int) != 45) = true := by simp; omega
      have i6 : (s[j].toNat : Int) < 97 := by omega
      have i7 : (48 : Int) ≤ (s[j].toNat : Int) := by omega
      have i8 : (s[j].toNat : Int) ≤ 57 := by omega
      clear i1 ht i3
      go_wp2_with fail
      go_roundg (s.size - (j + 1))
      case rel => exact ⟨j + 1, by omega, rfl, by go_num, HN.out, rfl⟩
      case measure => omega
   ·have hx' : Fd.nmN j s[j].toNat = false := by simpa using hx
    have HB2 : Hid (b = false) := by have h1 := HB.out; rw [Fd.nameB_at j hlt hx'] at h1; exact Lib.hid h1.symm
    by_cases hj0 : j = 0
    ·have hj1 : ((j : Int) == 0) = true := by simpa using hj0
     have hl : ¬ (97 ≤ s[j].toNat ∧ s[j].toNat ≤ 122) := by
      have hx2 := hx'
      unfold Fd.nmN at hx2; rw [if_pos hj0] at hx2
      rw [← Fd.letN_iff, hx2]; simp
     have HJ := Lib.hid hj0; clear hj0 hx'
     by_cases i1 : (s[j].toNat : Int) < 97
     ·clear hl
      clear hx
      go_wp2_with fail
      go_ret
      exact ⟨ret_bool HB2.out.symm, rfl⟩
     ·have i2 : (122 : Int) < (s[j].toNat : Int) := by omega
      clear hl
      clear hx
      go_wp2_with fail
      go_ret
      exact ⟨ret_bool HB2.out.symm, rfl⟩
    ·have hj1 : ((j : Int) == 0) = false := by simpa using hj0
     have hl : ¬ (97 ≤ s[j].toNat ∧ s[j].toNat ≤ 122 ∨ 48 ≤ s[j].toNat ∧ s[j].toNat ≤ 57 ∨ s[j].toNat = 45) := by rw [← Fd.tailN_iff]; rw [Fd.nmN_pos _ _ hj0] at hx'; rw [hx']; simp
     have i4 : ((s[j].toNat : Int) == 45) = false := by simp; omega
     have i5 : ((s[j].toNat : Int) != 45) = true := by simp; omega
     clear hx' hj0
     by_cases i1 : (s[j].toNat : Int) < 97
     ·by_cases i2 : (s[j].toNat : Int) < 48
      ·clear hl
       clear hx
       go_wp2_with fail
       go_ret
       exact ⟨ret_bool HB2.out.symm, rfl⟩
      ·have i3 : (57 : Int) < (s[j].toNat : Int) := by omega
       clear hl
       clear hx
       go_wp2_with fail
       go_ret
       exact ⟨ret_bool HB2.out.symm, rfl⟩
     ·have i2 : (122 : Int) < (s[j].toNat : Int) := by omega
      have i3 : (57 : Int) < (s[j].toNat : Int) := by omega
      have i6 : (48 : Int) ≤ (s[j].toNat : Int) := by omega
      clear hl
      clear hx
      go_wp2_with fail
      go_ret
      exact ⟨ret_bool HB2.out.symm, rfl⟩
  ·obtain rfl : j = s.size := by omega
   by_cases hz : 1 ≤ s.size ∧ s.size ≤ 40
   ·have HB2 : Hid (b = true) := by have h1 := HB.out; rw [Fd.nameB_yes hz (fun i hi => HALL.out i hi hi)] at h1; exact Lib.hid h1.symm
    obtain ⟨z1, z2⟩ := hz
    have z3 : (1 : Int) ≤ (s.size : Int) := by omega
    have z4 : (s.size : Int) ≤ 40 := by omega
    go_wp2_with fail
    go_ret
    exact ⟨ret_bool (by first | exact HB2.out.symm | (rw [HB2.out]; simp <;> omega)), rfl⟩
   ·have HB2 : Hid (b = false) := by have h1 := HB.out; rw [Fd.nameB_size hz] at h1; exact Lib.hid h1.symm
    by_cases z3 : (1 : Int) ≤ (s.size : Int)
    ·have z4 : (40 : Int) < (s.size : Int) := by omega
     clear hz
     go_wp2_with fail
     go_ret
     exact ⟨ret_bool (by first | exact HB2.out.symm | (rw [HB2.out]; simp <;> omega)), rfl⟩
    ·clear hz
     go_wp2_with fail
     go_ret
     exact ⟨ret_bool (by first | exact HB2.out.symm | (rw [HB2.out]; simp <;> omega)), rfl⟩
theorem strEmpty_no (s : ByteArray) (h : s.size ≠ 0) : s.toList.isEmpty = false := by
 rw [← decide_eq_emptyBytes]; exact decide_eq_false fun e => h (by rw [e]; rfl)
theorem strEmpty_yes (s : ByteArray) (h : s.size = 0) : s.toList.isEmpty = true := by
 rw [← decide_eq_emptyBytes]
 refine decide_eq_true ?_
 obtain ⟨d⟩ := s
 have : d = #[] := Array.eq_empty_of_size_eq_zero h
 subst this; rfl
theorem isNameW_is (s : ByteArray) (hs : s.size ≤ 9223372036854775807) (b : Bool) (h : Fd.nameB s = b) (w : World) : Calls Tryz.prog 108 #[.string s] w fun e w' => e = .returned (.bool b) ∧ w = w' := by
 have HB := Lib.hid h; clear h
 by_cases z0 : s.size = 0
 ·have HB2 : Hid (b = false) := by have h1 := HB.out; rw [Fd.nameB_size (by omega)] at h1; exact Lib.hid h1.symm
  have e1 := strEmpty_yes s z0
  have e2 : s.toList = [] := by simpa using e1
  have HZ := Lib.hid z0; clear z0
  go_enter Tryz.func108, Tryz.ntmps108
  go_wp2_with fail
  go_ret
  exact ⟨ret_bool (by first | exact HB2.out.symm | (rw [HB2.out]; simp)), rfl⟩
 ·have z1 : (0 : Int) < (s.size : Int) := by omega
  have z2 : 0 < s.size := by omega
  have e1 := strEmpty_no s z0
  have e2 : ¬ s.toList = [] := by simpa using e1
  clear z0
  by_cases z3 : (40 : Int) < (s.size : Int)
  ·have HB2 : Hid (b = false) := by have h1 := HB.out; rw [Fd.nameB_size (by omega)] at h1; exact Lib.hid h1.symm
   go_enter Tryz.func108, Tryz.ntmps108
   go_wp2_with fail
   go_ret
   exact ⟨ret_bool (by first | exact HB2.out.symm | (rw [HB2.out]; simp)), rfl⟩
  ·have hz : 1 ≤ s.size ∧ s.size ≤ 40 := by omega
   have HZ := Lib.hid hz; clear hz
   by_cases hl : Fd.letN (s[0]'z2).toNat = true
   ·have hl2 := (Fd.letN_iff _).1 hl
    have HL := Lib.hid hl
    have i1 : ¬ ((s[0]'z2).toNat : Int) < 97 := by omega
    have i2 : ¬ (122 : Int) < ((s[0]'z2).toNat : Int) := by omega
    clear hl hl2
    go_enter Tryz.func108, Tryz.ntmps108
    go_wp2_with fail
    clear i1 i2
    go_loopg [24] s.size (fun gk i wr => ∃ j : Nat, j ≤ s.size ∧ gk = s.size - j ∧ i = .int .i64 j ∧ (∀ i, (h : i < s.size) → i < j → Fd.nmN i s[i].toNat = true) ∧ w = wr)
    case atStart => exact ⟨0, by omega, rfl, rfl, fun i _ hi => by omega, rfl⟩
    case round =>
     obtain ⟨j, hj, rfl, rfl, hall, rfl⟩ := hrel
     have HALL := Lib.hid hall; clear hall
     by_cases hlt : j < s.size
     ·by_cases hx : Fd.tailN s[j].toNat = true
      ·have hnm : Fd.nmN j s[j].toNat = true := by
        by_cases e : j = 0
        ·subst e; exact HL.out
        ·rw [Fd.nmN_pos _ _ e]; exact hx
       have HN := Lib.hid (Fd.upto_next (P := fun i c => Fd.nmN i c = true) HALL.out hlt hnm)
       have ht := (Fd.tailN_iff _).1 hx
       clear hx hnm
       by_cases i1 : (97 : Int) ≤ (s[j].toNat : Int) ∧ (s[j].toNat : Int) ≤ 122
       ·obtain ⟨i1, i2⟩ := i1
        clear ht
        go_wp2_with fail
        go_roundg (s.size - (j + 1))
        case rel => exact ⟨j + 1, by omega, rfl, by go_num, HN.out, rfl⟩
        case measure => omega
       ·by_cases i3 : s[j].toNat = 45
        ·have i4 : ((s[j].toNat : Int) == 45) = true := by simp; omega
         have i6 : ¬ (97 : Int) ≤ (s[j].toNat : Int) := by omega
         have i7 : ¬ (48 : Int) ≤ (s[j].toNat : Int) := by omega
         clear i1 ht i3
         go_wp2_with fail
         go_roundg (s.size - (j + 1))
         case rel => exact ⟨j + 1, by omega, rfl, by go_num, HN.out, rfl⟩
         case measure => omega
        ·have i6 : ¬ (97 : Int) ≤ (s[j].toNat : Int) := by omega
         have i7 : (48 : Int) ≤ (s[j].toNat : Int) := by omega
         have i8 : (s[j].toNat : Int) ≤ 57 := by omega
         clear i1 ht i3
         go_wp2_with fail
         go_roundg (s.size - (j + 1))
         case rel => exact ⟨j + 1, by omega, rfl, by go_num, HN.out, rfl⟩
         case measure => omega
      ·have hx' : Fd.nmN j s[j].toNat = false := by
        cases hc : Fd.nmN j s[j].toNat
        ·rfl
        ·exact absurd (Fd.nmN_tail _ _ hc) hx
       have HB2 : Hid (b = false) := by have h1 := HB.out; rw [Fd.nameB_at j hlt hx'] at h1; exact Lib.hid h1.symm
       have ht : ¬ (97 ≤ s[j].toNat ∧ s[j].toNat ≤ 122 ∨ 48 ≤ s[j].toNat ∧ s[j].toNat ≤ 57 ∨ s[j].toNat = 45) := fun g => hx ((Fd.tailN_iff _).2 g)
       have i4 : ((s[j].toNat : Int) == 45) = false := by simp; omega
       clear hx hx'
       by_cases i1 : (97 : Int) ≤ (s[j].toNat : Int)
       ·have i2 : ¬ (s[j].toNat : Int) ≤ 122 := by omega
        have i3 : (48 : Int) ≤ (s[j].toNat : Int) := by omega
        have i5 : ¬ (s[j].toNat : Int) ≤ 57 := by omega
        clear ht
        go_wp2_with fail
        go_ret
        exact ⟨ret_bool HB2.out.symm, rfl⟩
       ·by_cases i3 : (48 : Int) ≤ (s[j].toNat : Int)
        ·have i5 : ¬ (s[j].toNat : Int) ≤ 57 := by omega
         clear ht
         go_wp2_with fail
         go_ret
         exact ⟨ret_bool HB2.out.symm, rfl⟩
        ·clear ht
         go_wp2_with fail
         go_ret
         exact ⟨ret_bool HB2.out.symm, rfl⟩
     ·obtain rfl : j = s.size := by omega
      have HB2 : Hid (b = true) := by have h1 := HB.out; rw [Fd.nameB_yes HZ.out (fun i hi => HALL.out i hi hi)] at h1; exact Lib.hid h1.symm
      go_wp2_with fail
      go_ret
      exact ⟨ret_bool HB2.out.symm, rfl⟩
   ·have HB2 : Hid (b = false) := by have h1 := HB.out; rw [Fd.nameB_at 0 z2 (by rw [Fd.nmN_zero]; simpa using hl)] at h1; exact Lib.hid h1.symm
    rw [Fd.letN_iff] at hl
    by_cases i1 : ((s[0]'z2).toNat : Int) < 97
    ·clear hl
     go_enter Tryz.func108, Tryz.ntmps108
     go_wp2_with fail
     go_ret
     exact ⟨ret_bool (by first | exact HB2.out.symm | (rw [HB2.out]; simp)), rfl⟩
    ·have i2 : (122 : Int) < ((s[0]'z2).toNat : Int) := by omega
     clear hl
     go_enter Tryz.func108, Tryz.ntmps108
     go_wp2_with fail
     go_ret
     exact ⟨ret_bool (by first | exact HB2.out.symm | (rw [HB2.out]; simp)), rfl⟩
theorem bytesWorld_below (w : World) (e : TypeId) (s : ByteArray) : Below w.heap.size w (Lib.bytesWorld w e s) := by
 refine ⟨rfl, rfl, rfl, by rw [Lib.bytesWorld_size]; omega, fun b hb => Lib.bytesWorld_at_old w e s b hb⟩
theorem indexFuncB_any (g : Nat) (lb : Array Value) (p : Int → Bool) (eg : ∀ args w, (callFunc g args).run Tryz.prog w = .ok (.enter g args) w) (a : Option Addr) (len cap : Nat) (z : Nat → Int) (w : World) (hm : len ≤ 9223372036854775807) (hr : Row w a len (fun i => .int .u8 (z i)))
  (hc : ∀ i, i < len → Calls Tryz.prog g (#[.int .u8 (z i)] ++ lb) w fun e w' => e = .returned (.bool (p (z i))) ∧ w = w') :
  Calls Tryz.prog 197 #[.slice a len cap, .func (.func g) #[] lb] w fun e w' => (∃ r : Int, e = .returned (.int .i64 r) ∧ ((Ev.anyB p z len = true ∧ 0 ≤ r) ∨ (Ev.anyB p z len = false ∧ r = -1))) ∧ w = w' := by
 go_enter Tryz.func197, Tryz.ntmps197
 go_wp2_with fail
 go_loop [8] (fun i => ∃ k : Nat, k ≤ len ∧ i = .int .i64 k ∧ ∀ j, j < k → p (z j) = false) (fun i => (len - (intOf i).toNat))
 case atStart => exact ⟨0, by omega, rfl, fun j hj => by omega⟩
 case round =>
  obtain ⟨k, hk, rfl, hno⟩ := hrel
  have HNO := Lib.hid hno; clear hno
  have HC := Lib.hid hc; clear hc
  by_cases hlt : k < len
  ·obtain ⟨b, off, rfl, hb, hcell⟩ := hr (by omega)
   have hcx := hcell k hlt
   clear hcell
   cases hp : p (z k)
   ·have HP := Lib.hid hp; clear hp
    go_wp2_with (go_at_fn g; refine (HC.out k hlt).mono ?_; rintro e w' ⟨rfl, rfl⟩; rw [HP.out])
    go_round
    case rel => exact ⟨k + 1, by omega, by go_num, fun j hj => by (by_cases e : j = k); exact e ▸ HP.out; exact HNO.out j (by omega)⟩
    case measure => simp [intOf]; omega
   ·have HP := Lib.hid hp; clear hp
    go_wp2_with (go_at_fn g; refine (HC.out k hlt).mono ?_; rintro e w' ⟨rfl, rfl⟩; rw [HP.out])
    go_ret
    exact ⟨⟨k, rfl, .inl ⟨Ev.anyB_yes k hlt HP.out, by omega⟩⟩, rfl⟩
  ·obtain rfl : k = len := by omega
   go_wp2_with fail
   go_ret
   exact ⟨⟨-1, rfl, .inr ⟨Ev.anyB_no HNO.out, rfl⟩⟩, rfl⟩
theorem containsFuncB_any (g : Nat) (lb : Array Value) (p : Int → Bool) (eg : ∀ args w, (callFunc g args).run Tryz.prog w = .ok (.enter g args) w) (a : Option Addr) (len cap : Nat) (z : Nat → Int) (w : World) (hm : len ≤ 9223372036854775807) (hr : Row w a len (fun i => .int .u8 (z i)))
  (hc : ∀ i, i < len → Calls Tryz.prog g (#[.int .u8 (z i)] ++ lb) w fun e w' => e = .returned (.bool (p (z i))) ∧ w = w') :
  Calls Tryz.prog 163 #[.slice a len cap, .func (.func g) #[] lb] w fun e w' => e = .returned (.bool (Ev.anyB p z len)) ∧ w = w' := by
 have HI := Lib.hid (indexFuncB_any g lb p eg a len cap z w hm hr hc)
 clear hc eg hr
 go_enter Tryz.func163, Tryz.ntmps163
 go_wp2_with (go_at_call 197; refine HI.out.mono ?_; rintro e w' ⟨⟨r, rfl, hr⟩, rfl⟩; have HR := Lib.hid hr; clear hr)
 go_ret
 refine ⟨ret_bool ?_, rfl⟩
 rcases HR.out with ⟨h, h0⟩ | ⟨h, rfl⟩
 ·rw [h]; simpa using h0
 ·rw [h]; rfl
theorem low1_is (c : Int) (w : World) : Calls Tryz.prog 164 #[.int .u8 c] w fun e w' => e = .returned (.bool (decide (c < 32))) ∧ w = w' := by
 go_enter Tryz.func164, Tryz.ntmps164
 go_wp2_with fail
 go_ret
 exact ⟨rfl, rfl⟩
theorem low1_eg : ∀ args w, (callFunc 164 args).run Tryz.prog w = .ok (.enter 164 args) w := enters_of Tryz.func164 (by kernel_rfl) rfl
theorem byte_at (s : ByteArray) (i : Nat) (h : i < s.size) : s.data.toList.getD i 0 = s[i] := by
 have hl : i < s.data.toList.length := by simpa using h
 rw [List.getD_eq_getElem?_getD, List.getElem?_eq_getElem hl]; rfl
theorem low_any (s : ByteArray) : Ev.anyB (fun c => decide (c < 32)) (fun i => ((s.data.toList.getD i 0).toNat : Int)) s.size = !Fd.plainB s := by
 cases h : Fd.plainB s
 ·unfold Fd.plainB at h
  rw [decide_eq_false_iff_not] at h
  have : ∃ i, ∃ h : i < s.size, s[i].toNat < 32 := by
   apply Classical.byContradiction
   intro g
   exact h fun i hi => by
    apply Classical.byContradiction
    intro k; exact g ⟨i, hi, by omega⟩
  obtain ⟨i, hi, hc⟩ := this
  exact Ev.anyB_yes i hi (by rw [decide_eq_true_iff]; rw [byte_at s i hi]; omega)
 ·unfold Fd.plainB at h
  have h := of_decide_eq_true h
  exact Ev.anyB_no fun i hi => by rw [decide_eq_false_iff_not]; rw [byte_at s i hi]; have := h i hi; omega
theorem low_is (s : ByteArray) (hs : s.size ≤ 9223372036854775807) (b : Bool) (h : Fd.plainB s = b) (w : World) : Calls Tryz.prog 109 #[.string s] w fun e w' => e = .returned (.bool (!b)) ∧ Below w.heap.size w w' := by
 have hcv := Lib.run_convert_string_bytes (P := Tryz.prog) w 9 62 5 s (u := .string) Tryz.underlying9 Tryz.underlying62 Tryz.underlying5
 have HW : Hid (Below w.heap.size w (Lib.bytesWorld w 5 s)) := Lib.hid (bytesWorld_below w 5 s)
 have HC := Lib.hid (containsFuncB_any 164 #[] (fun c => decide (c < 32)) low1_eg (some ⟨w.heap.size, 0, none⟩) s.size (grownCap w s.size 0 5) (fun i => ((s.data.toList.getD i 0).toNat : Int)) (Lib.bytesWorld w 5 s) hs
  (fun _ => ⟨w.heap.size, 0, rfl, by rw [Lib.bytesWorld_size]; omega, fun i hi => by rw [Nat.zero_add]; exact Lib.bytesWorld_cell w 5 s i hi⟩) (fun i hi => low1_is _ _))
 rw [low_any, h] at HC
 clear h
 go_enter Tryz.func109, Tryz.ntmps109
 go_wp2_with (go_at_call 163; refine HC.out.mono ?_; rintro e w' ⟨rfl, rfl⟩)
 go_ret
 exact ⟨rfl, HW.out⟩
structure Ph where
 id : Int
 mom : Int
 zone : Int
 W : Int
 H : Int
 turn : Int
 stars : Int
 file : ByteArray
 cap : ByteArray
 wa : Option Addr
 wn : Nat
 wc : Nat
 lat : Nat → Int
 lon : Nat → Int
 ta : Option Addr
 tn : Nat
 tc : Nat
 tag : Nat → ByteArray
 pa : Option Addr
 pn : Nat
 pc : Nat
 who : Nat → Int
 hid : Bool
theorem bxP (w : World) (p : Ph) : ∃ W1, w.alloc (.cells #[.int .i64 p.id, .string p.file, .int .i64 p.mom, .int .i64 p.zone, .slice p.wa p.wn p.wc, .int .i64 p.W, .int .i64 p.H, .int .i64 p.turn, .int .i64 p.stars, .slice p.ta p.tn p.tc, .string p.cap, .slice p.pa p.pn p.pc, .bool p.hid] 85) = W1 ∧ Blk W1 w.heap.size #[.int .i64 p.id, .string p.file, .int .i64 p.mom, .int .i64 p.zone, .slice p.wa p.wn p.wc, .int .i64 p.W, .int .i64 p.H, .int .i64 p.turn, .int .i64 p.stars, .slice p.ta p.tn p.tc, .string p.cap, .slice p.pa p.pn p.pc, .bool p.hid] 85 ∧ W1.heap.size = w.heap.size + 1 ∧ Below w.heap.size w W1 := box w _ _
structure Ph.In (p : Ph) (w : World) : Prop where
 places : Row2 w p.wa p.wn (fun i => .int .i64 (p.lat i)) (fun i => .int .i64 (p.lon i))
 tags : Row w p.ta p.tn (fun i => .string (p.tag i))
 people : Row w p.pa p.pn (fun i => .int .i64 (p.who i))
structure Ph.Fits (p : Ph) : Prop where
 file : p.file.size ≤ 9223372036854775807
 cap : p.cap.size ≤ 9223372036854775807
 tag : ∀ i, i < p.tn → (p.tag i).size ≤ 9223372036854775807
 wn : p.wn ≤ 9223372036854775807
 tn : p.tn ≤ 9223372036854775807
 pn : p.pn ≤ 9223372036854775807
theorem Ph.In.keep {p : Ph} {w w' : World} (h : p.In w) (hb : Below w.heap.size w w') : p.In w' := ⟨h.places.keep hb, h.tags.keep hb, h.people.keep hb⟩
theorem Blk.photo {w : World} {b : Nat} {c0 c1 c2 c3 c4 c5 c6 c7 c8 c9 c10 c11 c12 : Value} {t : TypeId} (h : Blk w b #[c0, c1, c2, c3, c4, c5, c6, c7, c8, c9, c10, c11, c12] t) :
  w.cell? ⟨b, 0, none⟩ = some c0 ∧ w.cell? ⟨b, 1, none⟩ = some c1 ∧ w.cell? ⟨b, 2, none⟩ = some c2 ∧ w.cell? ⟨b, 3, none⟩ = some c3 ∧ w.cell? ⟨b, 4, none⟩ = some c4 ∧ w.cell? ⟨b, 5, none⟩ = some c5 ∧ w.cell? ⟨b, 6, none⟩ = some c6 ∧ w.cell? ⟨b, 7, none⟩ = some c7 ∧ w.cell? ⟨b, 8, none⟩ = some c8 ∧ w.cell? ⟨b, 9, none⟩ = some c9 ∧ w.cell? ⟨b, 10, none⟩ = some c10 ∧ w.cell? ⟨b, 11, none⟩ = some c11 ∧ w.cell? ⟨b, 12, none⟩ = some c12 := by
 simp only [h.cell]; exact ⟨rfl, rfl, rfl, rfl, rfl, rfl, rfl, rfl, rfl, rfl, rfl, rfl, rfl⟩
namespace Fd
def leS (a b : ByteArray) : Bool := Op.bytesLess a.toList b.toList || a.toList == b.toList
def whenB (m z : Int) : Bool := decide ((-1 ≤ m ∧ m ≤ 6311433599) ∧ (-840 ≤ z ∧ z ≤ 840) ∧ (0 ≤ m → 0 ≤ m + 60 * z ∧ m + 60 * z ≤ 6311433599))
def placeB (a o : Int) : Bool := decide ((-90000000 ≤ a ∧ a ≤ 90000000) ∧ (-180000000 ≤ o ∧ o ≤ 179999999))
def shapeB (W H t s : Int) : Bool := decide ((1 ≤ W ∧ W ≤ 100000) ∧ (1 ≤ H ∧ H ≤ 100000) ∧ (1 ≤ t ∧ t ≤ 8) ∧ (0 ≤ s ∧ s ≤ 5))
def tbad (tag : Nat → ByteArray) (i : Nat) : Int := if nameB (tag i) = true then (if i = 0 then 0 else if leS (tag i) (tag (i - 1)) = true then 5 else 0) else 3
def pbad (who : Nat → Int) (i : Nat) : Int := if 1 ≤ who i ∧ who i ≤ 1000000 then (if i = 0 then 0 else if who i ≤ who (i - 1) then 5 else 0) else 2
def scan (bad : Nat → Int) : Nat → Nat → Int
 | _, 0 => 0
 | i, k + 1 => if bad i = 0 then scan bad (i + 1) k else bad i
theorem places_next {lat lon : Nat → Int} {j : Nat} (h : ∀ k, k < j → placeB (lat k) (lon k) = true) (g : placeB (lat j) (lon j) = true) : ∀ k, k < j + 1 → placeB (lat k) (lon k) = true := by
 intro k hk
 by_cases e : k = j
 ·subst e; exact g
 ·exact h k (by omega)
end Fd
def Ph.words (p : Ph) : Int :=
 if 20 < p.tn then 4 else if Fd.scan (Fd.tbad p.tag) 0 p.tn = 0 then (if 200 < p.cap.size then 4 else if Fd.plainB p.cap = true then (if 20 < p.pn then 4 else Fd.scan (Fd.pbad p.who) 0 p.pn) else 9) else Fd.scan (Fd.tbad p.tag) 0 p.tn
def Ph.err (p : Ph) : Int :=
 if decide (1 ≤ p.id ∧ p.id ≤ 1000000) = true then (if Fd.fileB p.file = true then (if Fd.whenB p.mom p.zone = true then (if 1 < p.wn then 1 else if p.wn = 1 ∧ Fd.placeB (p.lat 0) (p.lon 0) = false then 2 else if Fd.shapeB p.W p.H p.turn p.stars = true then p.words else 2) else 2) else 1) else 2
end Go.Proofs.YtimjmjmpaicdbaaGreatDoor
namespace Go.Proofs.YtimjmjmpaicdbaaGreatDoor
open Go.RowKit Go.Sort
namespace Cnd
def fText (op : Int) : Bool := decide (op = 4 ∨ op = 5)
def fLow (op : Int) : Bool := decide (op = 6 ∨ op = 7 ∨ op = 8 ∨ op = 14)
def fHigh (op : Int) : Bool := decide (op = 7 ∨ op = 8)
def fAt (op : Int) : Int := if op = 14 then 1 else if op = 15 then 2 else 0
def kidsB (op : Int) (kn : Nat) : Bool := if op = 3 then decide (kn = 1) else if 4 ≤ op then decide (kn = 0) else true
def formB (op : Int) (kn an : Nat) (text : ByteArray) (low high : Int) : Bool :=
 kidsB op kn && decide ((an : Int) = fAt op) && (fText op || text.toList.isEmpty) && (fLow op || low == 0) && (fHigh op || high == 0)
def textE (op : Int) (text : ByteArray) : Int :=
 if op = 4 then (if Fd.nameB text = true then 0 else 3) else if op = 5 then (if 1 ≤ text.size ∧ text.size ≤ 200 then (if Fd.plainB text = true then 0 else 9) else 4) else 0
def most (op : Int) : Int := if op = 6 then 1000000 else if op = 7 then 5 else if op = 8 then 6311433599 else if op = 14 then 20100000 else 0
def least (op : Int) : Int := if op = 6 then 1 else 0
def inB (op x : Int) : Bool := decide (least op ≤ x ∧ x ≤ most op)
def numE (op low high : Int) (an : Nat) (lat lon : Nat → Int) : Int :=
 if (fLow op = true → inB op low = true) ∧ (fHigh op = true → inB op high = true) ∧ (∀ k, k < an → Fd.placeB (lat k) (lon k) = true) then
  (if (fHigh op = true ∧ high < low) ∨ (op = 15 ∧ lat 1 < lat 0) then 5 else 0) else 2
def bareE (op : Int) (kn : Nat) (text : ByteArray) (low high : Int) (an : Nat) (lat lon : Nat → Int) : Int :=
 if 1 ≤ op ∧ op ≤ 16 then (if formB op kn an text low high = true then (if textE op text = 0 then numE op low high an lat lon else textE op text) else 1) else 10
def bare : Cnd → Int
 | zero => 0
 | mk op ka kn kc kids text low high aa an ac lat lon => bareE op kn text low high an lat lon
def aheadK (f : Nat → List (Cnd × Nat) → List (Cnd × Nat)) : Nat → List (Cnd × Nat) → List (Cnd × Nat)
 | 0, l => l
 | k + 1, l => f k (aheadK f k l)
def ahead : Cnd → Nat → List (Cnd × Nat) → List (Cnd × Nat)
 | zero, _, l => l
 | mk op ka kn kc kids text low high aa an ac lat lon, d, l =>
   if 100 < l.length then l else if 12 < d then l ++ [(mk op ka kn kc kids text low high aa an ac lat lon, d)]
   else aheadK (fun i => ahead (kids i) (d + 1)) kn (l ++ [(mk op ka kn kc kids text low high aa an ac lat lon, d)])
def errAt (i : Nat) (p : Cnd × Nat) : Int := if 100 ≤ i ∨ 12 < p.2 then 4 else p.1.bare
def errL : Nat → List (Cnd × Nat) → Int
 | _, [] => 0
 | i, p :: l => if errAt i p = 0 then errL (i + 1) l else errAt i p
theorem bareE_kind {op : Int} {kn : Nat} {text : ByteArray} {low high : Int} {an : Nat} {lat lon : Nat → Int} (h : ¬ (1 ≤ op ∧ op ≤ 16)) : bareE op kn text low high an lat lon = 10 := by unfold bareE; rw [if_neg h]
theorem bareE_form {op : Int} {kn : Nat} {text : ByteArray} {low high : Int} {an : Nat} {lat lon : Nat → Int} (h : 1 ≤ op ∧ op ≤ 16) (g : formB op kn an text low high = false) : bareE op kn text low high an lat lon = 1 := by
 unfold bareE; rw [if_pos h, if_neg (by rw [g]; simp)]
theorem bareE_text {op : Int} {kn : Nat} {text : ByteArray} {low high : Int} {an : Nat} {lat lon : Nat → Int} {e : Int} (h : 1 ≤ op ∧ op ≤ 16) (g : formB op kn an text low high = true) (t : textE op text = e) (h0 : e ≠ 0) : bareE op kn text low high an lat lon = e := by
 unfold bareE; rw [if_pos h, if_pos g, t, if_neg h0]
theorem bareE_num {op : Int} {kn : Nat} {text : ByteArray} {low high : Int} {an : Nat} {lat lon : Nat → Int} {e : Int} (h : 1 ≤ op ∧ op ≤ 16) (g : formB op kn an text low high = true) (t : textE op text = 0) (n : numE op low high an lat lon = e) : bareE op kn text low high an lat lon = e := by
 unfold bareE; rw [if_pos h, if_pos g, t, if_pos rfl, n]
theorem numE_low {op low high : Int} {an : Nat} {lat lon : Nat → Int} (h : fLow op = true) (g : inB op low = false) : numE op low high an lat lon = 2 := if_neg fun k => by have := k.1 h; rw [g] at this; cases this
theorem numE_high {op low high : Int} {an : Nat} {lat lon : Nat → Int} (h : fHigh op = true) (g : inB op high = false) : numE op low high an lat lon = 2 := if_neg fun k => by have := k.2.1 h; rw [g] at this; cases this
theorem numE_place {op low high : Int} {an : Nat} {lat lon : Nat → Int} (k : Nat) (h : k < an) (g : Fd.placeB (lat k) (lon k) = false) : numE op low high an lat lon = 2 := if_neg fun q => by have := q.2.2 k h; rw [g] at this; cases this
theorem numE_ord {op low high : Int} {an : Nat} {lat lon : Nat → Int} (h1 : fLow op = true → inB op low = true) (h2 : fHigh op = true → inB op high = true) (h3 : ∀ k, k < an → Fd.placeB (lat k) (lon k) = true) (h : (fHigh op = true ∧ high < low) ∨ (op = 15 ∧ lat 1 < lat 0)) : numE op low high an lat lon = 5 := by
 unfold numE; rw [if_pos ⟨h1, h2, h3⟩, if_pos h]
theorem numE_ok {op low high : Int} {an : Nat} {lat lon : Nat → Int} (h1 : fLow op = true → inB op low = true) (h2 : fHigh op = true → inB op high = true) (h3 : ∀ k, k < an → Fd.placeB (lat k) (lon k) = true) (h : ¬ ((fHigh op = true ∧ high < low) ∨ (op = 15 ∧ lat 1 < lat 0))) : numE op low high an lat lon = 0 := by
 unfold numE; rw [if_pos ⟨h1, h2, h3⟩, if_neg h]
theorem formB_an {op : Int} {kn an : Nat} {text : ByteArray} {low high : Int} (h : formB op kn an text low high = true) : (an : Int) = fAt op := by
 unfold formB at h; simp only [Bool.and_eq_true, decide_eq_true_eq] at h; exact h.1.1.1.2
def err (c : Cnd) : Int := errL 0 (ahead c 0 [])
theorem errL_append : ∀ (l m : List (Cnd × Nat)) (i : Nat), errL i (l ++ m) = if errL i l = 0 then errL (i + l.length) m else errL i l
 | [], m, i => by simp [errL]
 | p :: l, m, i => by
   rw [List.cons_append, errL, errL]
   by_cases h : errAt i p = 0
   ·rw [if_pos h, if_pos h, errL_append l m (i + 1)]
    simp only [List.length_cons]
    rw [show i + 1 + l.length = i + (l.length + 1) by omega]
   ·rw [if_neg h, if_neg h, if_neg h]
theorem errL_len : ∀ (l : List (Cnd × Nat)) (i : Nat), errL i l = 0 → l = [] ∨ i + l.length ≤ 100
 | [], i, h => .inl rfl
 | p :: l, i, h => by
   rw [errL] at h
   by_cases hp : errAt i p = 0
   ·rw [if_pos hp] at h
    have hi : ¬ 100 ≤ i := fun g => by unfold errAt at hp; rw [if_pos (.inl g)] at hp; cases hp
    rcases errL_len l (i + 1) h with rfl | g
    ·right; simp; omega
    ·right; simp only [List.length_cons]; omega
   ·rw [if_neg hp] at h; exact absurd h hp
theorem errL_le {l : List (Cnd × Nat)} (h : errL 0 l = 0) : l.length ≤ 100 := by
 rcases errL_len l 0 h with rfl | g
 ·simp
 ·omega
theorem aheadK_pre {f : Nat → List (Cnd × Nat) → List (Cnd × Nat)} (hf : ∀ i l, ∃ m, f i l = l ++ m) : ∀ (k : Nat) (l : List (Cnd × Nat)), ∃ m, aheadK f k l = l ++ m
 | 0, l => ⟨[], by simp [aheadK]⟩
 | k + 1, l => by
   obtain ⟨m, hm⟩ := aheadK_pre hf k l
   obtain ⟨m2, hm2⟩ := hf k (aheadK f k l)
   exact ⟨m ++ m2, by rw [aheadK, hm2, hm, List.append_assoc]⟩
theorem ahead_pre : ∀ (c : Cnd) (d : Nat) (l : List (Cnd × Nat)), ∃ m, ahead c d l = l ++ m
 | zero, d, l => ⟨[], by simp [ahead]⟩
 | mk op ka kn kc kids text low high aa an ac lat lon, d, l => by
   rw [ahead]
   split
   ·exact ⟨[], by simp⟩
   ·split
    ·exact ⟨_, rfl⟩
    ·obtain ⟨m, hm⟩ := aheadK_pre (f := fun i => ahead (kids i) (d + 1)) (fun i l => ahead_pre (kids i) (d + 1) l) kn (l ++ [(mk op ka kn kc kids text low high aa an ac lat lon, d)])
     exact ⟨_ :: m, by rw [hm, List.append_assoc]; rfl⟩
theorem errL_pre {l m : List (Cnd × Nat)} (h : errL 0 l ≠ 0) : errL 0 (l ++ m) = errL 0 l := by rw [errL_append, if_neg h]
theorem aheadK_more {f : Nat → List (Cnd × Nat) → List (Cnd × Nat)} (hf : ∀ i l, ∃ m, f i l = l ++ m) (l : List (Cnd × Nat)) (j k : Nat) (h : j ≤ k) (he : errL 0 (aheadK f j l) ≠ 0) : errL 0 (aheadK f k l) = errL 0 (aheadK f j l) := by
 induction k with
 | zero => obtain rfl : j = 0 := by omega
           rfl
 | succ k ih =>
   by_cases e : j = k + 1
   ·subst e; rfl
   ·have := ih (by omega)
    obtain ⟨m, hm⟩ := hf k (aheadK f k l)
    rw [aheadK, hm, errL_pre (by rw [this]; exact he), this]
theorem ahead_len : ∀ (c : Cnd) (d : Nat) (l : List (Cnd × Nat)), l.length ≤ 101 → (ahead c d l).length ≤ 101
 | zero, d, l, h => by simpa [ahead] using h
 | mk op ka kn kc kids text low high aa an ac lat lon, d, l, h => by
   rw [ahead]
   split
   ·exact h
   ·split
    ·simp; omega
    ·have : ∀ k (l : List (Cnd × Nat)), l.length ≤ 101 → (aheadK (fun i => ahead (kids i) (d + 1)) k l).length ≤ 101 := by
      intro k
      induction k with
      | zero => intro l h; exact h
      | succ k ih => intro l h; rw [aheadK]; exact ahead_len (kids k) (d + 1) _ (ih l h)
     exact this _ _ (by simp; omega)
theorem ahead_large {c : Cnd} {d : Nat} {l : List (Cnd × Nat)} (hc : c ≠ zero) (hl : errL 0 l = 0) (h : l.length = 100 ∨ 12 < d) : errL 0 (ahead c d l) = 4 := by
 have hle := errL_le hl
 cases c with
 | zero => exact absurd rfl hc
 | mk op ka kn kc kids text low high aa an ac lat lon =>
   have e : errL 0 (l ++ [(mk op ka kn kc kids text low high aa an ac lat lon, d)]) = 4 := by
    rw [errL_append, if_pos hl, errL]
    have : errAt (0 + l.length) (mk op ka kn kc kids text low high aa an ac lat lon, d) = 4 := if_pos (by rcases h with h | h; exact .inl (by omega); exact .inr h)
    rw [this, if_neg (by decide)]
   rw [ahead, if_neg (by omega)]
   split
   ·exact e
   ·obtain ⟨m, hm⟩ := aheadK_pre (f := fun i => ahead (kids i) (d + 1)) (fun i l => ahead_pre (kids i) (d + 1) l) kn (l ++ [(mk op ka kn kc kids text low high aa an ac lat lon, d)])
    rw [hm, errL_pre (by rw [e]; decide), e]
theorem err_snoc {c : Cnd} {d : Nat} {l : List (Cnd × Nat)} (hl : errL 0 l = 0) (h1 : l.length < 100) (h2 : d ≤ 12) : errL 0 (l ++ [(c, d)]) = c.bare := by
 rw [errL_append, if_pos hl, errL]
 have : errAt (0 + l.length) (c, d) = c.bare := if_neg (by intro g; rcases g with g | g; omega; have : 12 < d := g; omega)
 rw [this]
 split
 ·rename_i h; rw [h]; rfl
 ·rfl
theorem ahead_bad {c : Cnd} {d : Nat} {l : List (Cnd × Nat)} (hc : c ≠ zero) (hl : errL 0 l = 0) (h1 : l.length < 100) (h2 : d ≤ 12) (hb : c.bare ≠ 0) : errL 0 (ahead c d l) = c.bare := by
 cases c with
 | zero => exact absurd rfl hc
 | mk op ka kn kc kids text low high aa an ac lat lon =>
   have e := err_snoc (c := mk op ka kn kc kids text low high aa an ac lat lon) hl h1 h2
   rw [ahead, if_neg (by omega), if_neg (by omega)]
   obtain ⟨m, hm⟩ := aheadK_pre (f := fun i => ahead (kids i) (d + 1)) (fun i l => ahead_pre (kids i) (d + 1) l) kn (l ++ [(mk op ka kn kc kids text low high aa an ac lat lon, d)])
   rw [hm, errL_pre (by rw [e]; exact hb), e]
theorem ahead_kids {op : Int} {ka : Option Addr} {kn kc : Nat} {kids : Nat → Cnd} {text : ByteArray} {low high : Int} {aa : Option Addr} {an ac : Nat} {lat lon : Nat → Int} {d : Nat} {l : List (Cnd × Nat)} (h1 : l.length ≤ 100) (h2 : d ≤ 12) :
  ahead (mk op ka kn kc kids text low high aa an ac lat lon) d l = aheadK (fun i => ahead (kids i) (d + 1)) kn (l ++ [(mk op ka kn kc kids text low high aa an ac lat lon, d)]) := by
 rw [ahead, if_neg (by omega), if_neg (by omega)]
end Cnd
end Go.Proofs.YtimjmjmpaicdbaaGreatDoor
namespace Go.Proofs.YtimjmjmpaicdbaaGreatDoor.Zn
def zok (o : Int) : Bool := decide (-840 ≤ o ∧ o ≤ 840)
def bad (F O : Nat → Int) (i : Nat) : Int :=
 if Ev.mom (F i) = true ∧ zok (O i) = true then (if i = 0 then 0 else if F i ≤ F (i - 1) then 5 else 0) else 2
def scan (F O : Nat → Int) : Nat → Nat → Int
 | _, 0 => 0
 | i, k + 1 => if bad F O i = 0 then scan F O (i + 1) k else bad F O i
def err (f : Int) (F O : Nat → Int) (n : Nat) : Int := if 200 < n then 4 else if zok f = true then scan F O 0 n else 2
def frm (F : Nat → Int) (i : Nat) : Int := if i = 0 then 0 else F (i - 1)
def ofs (f : Int) (O : Nat → Int) (i : Nat) : Int := if i = 0 then f else O (i - 1)
def pcs (f : Int) (F O : Nat → Int) (k : Nat) : List (Int × Int × Int) := ((List.range k).filter fun i => decide (frm F i < F i)).map fun i => (frm F i, F i - 1, ofs f O i)
def all (f : Int) (F O : Nat → Int) (n : Nat) : List (Int × Int × Int) := pcs f F O n ++ [(frm F n, 6311433599, ofs f O n)]
def hit (l : Int) (x : Int × Int × Int) : Bool := decide (x.1 ≤ l - 60 * x.2.2 ∧ l - 60 * x.2.2 ≤ x.2.1)
end Go.Proofs.YtimjmjmpaicdbaaGreatDoor.Zn
namespace Go.Proofs.YtimjmjmpaicdbaaGreatDoor
open Go.RowKit Go.Sort Go.Shelf
theorem checkPlace_is (a o : Int) (w : World) (b : Bool) (h : Fd.placeB a o = b) : Calls Tryz.prog 110 #[.agg #[.int .i64 a, .int .i64 o]] w fun e w' => e = .returned (.int .i64 (if b = true then 0 else 2)) ∧ Below w.heap.size w w' := by
 cases h1 : decide (-90000000 ≤ a ∧ a ≤ 90000000)
 ·obtain rfl : b = false := by rw [← h]; exact decide_eq_false fun g => of_decide_eq_false h1 g.1
  rw [if_neg (by simp)]
  have H1 := Lib.hid h1; clear h1 h
  obtain ⟨W1, hW1, hP, hz1, hB1⟩ := box w #[.int .i64 a, .int .i64 o] 112
  have HW1 := Lib.hid hW1
  clear hW1 hz1
  obtain ⟨q0, q1⟩ := hP.two
  go_enter Tryz.func110, Tryz.ntmps110
  go_wp2_with fail
  rw [HW1.out]
  go_wp2_with (first
   | (go_at_call 32; (with_reducible refine (outsideF_is a (-90000000) 90000000 false H1.out _).mono ?_); rintro e w2 ⟨rfl, rfl⟩)
   | (go_at_call 32; (with_reducible refine (outsideF_is o (-180000000) 179999999 false H1.out _).mono ?_); rintro e w2 ⟨rfl, rfl⟩))
  go_ret
  exact ⟨rfl, hB1⟩
 ·cases h2 : decide (-180000000 ≤ o ∧ o ≤ 179999999)
  ·obtain rfl : b = false := by rw [← h]; exact decide_eq_false fun g => of_decide_eq_false h2 g.2
   rw [if_neg (by simp)]
   have H1 := Lib.hid h1; have H2 := Lib.hid h2; clear h1 h2 h
   obtain ⟨W1, hW1, hP, hz1, hB1⟩ := box w #[.int .i64 a, .int .i64 o] 112
   have HW1 := Lib.hid hW1
   clear hW1 hz1
   obtain ⟨q0, q1⟩ := hP.two
   go_enter Tryz.func110, Tryz.ntmps110
   go_wp2_with fail
   rw [HW1.out]
   go_wp2_with (first
    | (go_at_call 32; (with_reducible refine (outsideF_is a (-90000000) 90000000 true H1.out _).mono ?_); rintro e w2 ⟨rfl, rfl⟩)
    | (go_at_call 32; (with_reducible refine (outsideF_is o (-180000000) 179999999 false H2.out _).mono ?_); rintro e w2 ⟨rfl, rfl⟩))
   go_ret
   exact ⟨rfl, hB1⟩
  ·obtain rfl : b = true := by rw [← h]; exact decide_eq_true ⟨of_decide_eq_true h1, of_decide_eq_true h2⟩
   rw [if_pos rfl]
   have H1 := Lib.hid h1; have H2 := Lib.hid h2; clear h1 h2 h
   obtain ⟨W1, hW1, hP, hz1, hB1⟩ := box w #[.int .i64 a, .int .i64 o] 112
   have HW1 := Lib.hid hW1
   clear hW1 hz1
   obtain ⟨q0, q1⟩ := hP.two
   go_enter Tryz.func110, Tryz.ntmps110
   go_wp2_with fail
   rw [HW1.out]
   go_wp2_with (first
    | (go_at_call 32; (with_reducible refine (outsideF_is a (-90000000) 90000000 true H1.out _).mono ?_); rintro e w2 ⟨rfl, rfl⟩)
    | (go_at_call 32; (with_reducible refine (outsideF_is o (-180000000) 179999999 true H2.out _).mono ?_); rintro e w2 ⟨rfl, rfl⟩))
   go_ret
   exact ⟨rfl, hB1⟩
theorem placed_is (a o : Int) (w : World) (b : Bool) (h : Fd.placeB a o = b) : Calls Tryz.prog 72 #[.agg #[.int .i64 a, .int .i64 o]] w fun e w' => e = .returned (.bool b) ∧ Below w.heap.size w w' := by
 cases h1 : decide (-90000000 ≤ a ∧ a ≤ 90000000)
 ·obtain rfl : b = false := by rw [← h]; exact decide_eq_false fun g => of_decide_eq_false h1 g.1
  have H1 := Lib.hid h1; clear h1 h
  obtain ⟨W1, hW1, hP, hz1, hB1⟩ := box w #[.int .i64 a, .int .i64 o] 112
  have HW1 := Lib.hid hW1
  clear hW1 hz1
  obtain ⟨q0, q1⟩ := hP.two
  go_enter Tryz.func72, Tryz.ntmps72
  go_wp2_with fail
  rw [HW1.out]
  go_wp2_with (first
   | (go_at_call 31; (with_reducible refine (in_is a (-90000000) 90000000 false H1.out _).mono ?_); rintro e w2 ⟨rfl, rfl⟩)
   | (go_at_call 31; (with_reducible refine (in_is o (-180000000) 179999999 false H1.out _).mono ?_); rintro e w2 ⟨rfl, rfl⟩))
  go_ret
  exact ⟨rfl, hB1⟩
 ·cases h2 : decide (-180000000 ≤ o ∧ o ≤ 179999999)
  ·obtain rfl : b = false := by rw [← h]; exact decide_eq_false fun g => of_decide_eq_false h2 g.2
   have H1 := Lib.hid h1; have H2 := Lib.hid h2; clear h1 h2 h
   obtain ⟨W1, hW1, hP, hz1, hB1⟩ := box w #[.int .i64 a, .int .i64 o] 112
   have HW1 := Lib.hid hW1
   clear hW1 hz1
   obtain ⟨q0, q1⟩ := hP.two
   go_enter Tryz.func72, Tryz.ntmps72
   go_wp2_with fail
   rw [HW1.out]
   go_wp2_with (first
    | (go_at_call 31; (with_reducible refine (in_is a (-90000000) 90000000 true H1.out _).mono ?_); rintro e w2 ⟨rfl, rfl⟩)
    | (go_at_call 31; (with_reducible refine (in_is o (-180000000) 179999999 false H2.out _).mono ?_); rintro e w2 ⟨rfl, rfl⟩))
   go_ret
   exact ⟨rfl, hB1⟩
  ·obtain rfl : b = true := by rw [← h]; exact decide_eq_true ⟨of_decide_eq_true h1, of_decide_eq_true h2⟩
   have H1 := Lib.hid h1; have H2 := Lib.hid h2; clear h1 h2 h
   obtain ⟨W1, hW1, hP, hz1, hB1⟩ := box w #[.int .i64 a, .int .i64 o] 112
   have HW1 := Lib.hid hW1
   clear hW1 hz1
   obtain ⟨q0, q1⟩ := hP.two
   go_enter Tryz.func72, Tryz.ntmps72
   go_wp2_with fail
   rw [HW1.out]
   go_wp2_with (first
    | (go_at_call 31; (with_reducible refine (in_is a (-90000000) 90000000 true H1.out _).mono ?_); rintro e w2 ⟨rfl, rfl⟩)
    | (go_at_call 31; (with_reducible refine (in_is o (-180000000) 179999999 true H2.out _).mono ?_); rintro e w2 ⟨rfl, rfl⟩))
   go_ret
   exact ⟨rfl, hB1⟩
end Go.Proofs.YtimjmjmpaicdbaaGreatDoor
