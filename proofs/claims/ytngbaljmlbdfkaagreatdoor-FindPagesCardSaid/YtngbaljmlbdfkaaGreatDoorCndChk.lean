/- The program's check of a condition, and CheckCond. -/
import Derived.Test.YtngbaljmlbdfkaaGreatDoorCndAll
import Derived.Maps.AppendAt
namespace Go.Proofs.YtngbaljmlbdfkaaGreatDoor
open Go.RowKit Go.Sort Go.Shelf
set_option linter.unusedVariables false
theorem eg_form : ∀ args w, (callFunc 83 args).run Tryz.prog w = .ok (.enter 83 args) w := enters_of Tryz.func83 (by kernel_rfl) rfl
theorem eg_text : ∀ args w, (callFunc 84 args).run Tryz.prog w = .ok (.enter 84 args) w := enters_of Tryz.func84 (by kernel_rfl) rfl
theorem eg_nums : ∀ args w, (callFunc 85 args).run Tryz.prog w = .ok (.enter 85 args) w := enters_of Tryz.func85 (by kernel_rfl) rfl
theorem grown_of_below {a b : World} (h : Below a.heap.size a b) (row : Option Nat) : a.grownBy b row := ⟨h.os, h.tape, h.output, h.size, fun k hk _ => h.block k hk⟩
theorem grown_set (w : World) (b i : Nat) (v : Value) : w.grownBy (w.setCell ⟨b, i, none⟩ v) (some b) :=
  ⟨rfl, rfl, rfl, by simp, fun k hk hne => Below.heap_setCell w ⟨b, i, none⟩ v k (fun e => hne (by rw [e]))⟩
theorem below_of_grown {B : Nat} {a b : World} {p : Nat} (h : a.grownBy b (some p)) (hB : B ≤ a.heap.size) (hp : B ≤ p) : Below B a b :=
  ⟨h.os, h.tape, h.output, h.size, fun k hk => h.block k (by omega) (fun e => by cases e; omega)⟩
/-- A counter of conditions. -/
def Ctr (w : World) (p n : Nat) : Prop := Blk w p #[.int .i64 (n : Int)] 94
/-- What check returns. -/
def ChkPost (w : World) (p : Nat) (L : List (Cnd × Nat)) (e : Ending) (w' : World) : Prop :=
  e = .returned (.int .i64 (Cnd.errL 0 L)) ∧ (Cnd.errL 0 L = 0 → Ctr w' p L.length) ∧ w.grownBy w' (some p)
theorem ChkPost.bad {w w' : World} {p : Nat} {L : List (Cnd × Nat)} {q : Int} (h : Cnd.errL 0 L = q) (h0 : q ≠ 0) (hg : w.grownBy w' (some p)) : ChkPost w p L (.returned (.int .i64 q)) w' :=
  ⟨by rw [h], fun e => absurd (h.symm.trans e) h0, hg⟩
/-- What stands when check has counted. -/
structure Chk1 (w0 w W2 : World) (p : Nat) (c : Cnd) (n : Nat) : Prop where
  box : Blk W2 w.heap.size #[.int .i64 c.op, .slice c.ka c.kn c.kc, .string c.text, .int .i64 c.low, .int .i64 c.high, .slice c.aa c.an c.ac] 26
  ctr : Ctr W2 p n
  grown : w.grownBy W2 (some p)
  bel : Below w0.heap.size w0 W2
theorem Chk1.keep {w0 w W2 W3 : World} {p : Nat} {c : Cnd} {n : Nat} (h : Chk1 w0 w W2 p c n) (hb : Below W2.heap.size W2 W3) : Chk1 w0 w W3 p c n :=
  ⟨h.box.keep hb, Blk.keep h.ctr hb, h.grown.trans (grown_of_below hb _), h.bel.trans (hb.mono h.bel.size)⟩
theorem chk1 {w0 w : World} {p : Nat} {c : Cnd} {n : Nat} (hB : Below w0.heap.size w0 w) (hp : w0.heap.size ≤ p) (hC : Ctr w p n) :
    Chk1 w0 w ((w.setCell ⟨p, 0, none⟩ (.int .i64 ((n : Int) + 1))).alloc (.cells #[.int .i64 c.op, .slice c.ka c.kn c.kc, .string c.text, .int .i64 c.low, .int .i64 c.high, .slice c.aa c.an c.ac] 26)) p c (n + 1) := by
  have hlt : p < w.heap.size := Blk.lt hC
  have hs := hB.size
  have h0 := Blk.new (w.setCell ⟨p, 0, none⟩ (.int .i64 ((n : Int) + 1))) #[.int .i64 c.op, .slice c.ka c.kn c.kc, .string c.text, .int .i64 c.low, .int .i64 c.high, .slice c.aa c.an c.ac] 26
  rw [show (w.setCell ⟨p, 0, none⟩ (.int .i64 ((n : Int) + 1))).heap.size = w.heap.size by simp] at h0
  have hg : w.grownBy ((w.setCell ⟨p, 0, none⟩ (.int .i64 ((n : Int) + 1))).alloc (.cells #[.int .i64 c.op, .slice c.ka c.kn c.kc, .string c.text, .int .i64 c.low, .int .i64 c.high, .slice c.aa c.an c.ac] 26)) (some p) := (grown_set _ _ _ _).trans (World.grownBy_alloc _ _ _)
  refine ⟨h0, ?_, hg, hB.trans (below_of_grown hg hs hp)⟩
  have := (Blk.set hC 0 (.int .i64 ((n : Int) + 1))).alloc (.cells #[.int .i64 c.op, .slice c.ka c.kn c.kc, .string c.text, .int .i64 c.low, .int .i64 c.high, .slice c.aa c.an c.ac] 26)
  unfold Ctr
  simpa using this
set_option maxHeartbeats 4000000 in
theorem check_large (w0 : World) (c : Cnd) (hne : c ≠ .zero) (d : Nat) (l : List (Cnd × Nat)) (w : World) (p : Nat) (hI : c.In w0) (hF : c.Fits) (hB : Below w0.heap.size w0 w) (hp : w0.heap.size ≤ p) (hd : d ≤ 13) (hl : Cnd.errL 0 l = 0) (hC : Ctr w p l.length) (hbig : l.length = 100 ∨ 12 < d) : Calls Tryz.prog 51 #[.pointer (some ⟨p, 0, none⟩), .agg #[.int .i64 c.op, .slice c.ka c.kn c.kc, .string c.text, .int .i64 c.low, .int .i64 c.high, .slice c.aa c.an c.ac], .int .i64 d] w (ChkPost w p (Cnd.ahead c d l)) := by
  have hq := Cnd.ahead_large hne hl hbig
  have hlen := Cnd.errL_le hl
  have hpl : p < w.heap.size := Blk.lt hC
  have hpf := Blk.frozen hC 0
  have c0 := Blk.one hC
  have hpne : p ≠ w.heap.size := by omega
  have hK := chk1 (c := c) hB hp hC
  have k0 := hK.box.six.1
  have p0 := Blk.one hK.ctr
  rw [show ((l.length + 1 : Nat) : Int) = (l.length : Int) + 1 by omega] at p0
  have hsz := hB.size
  have HQ := Lib.hid hq; have HG := Lib.hid hK.grown
  clear hq hK
  by_cases h : l.length = 100
  · have h1 : (100 : Int) < (l.length : Int) + 1 := by omega
    clear h hbig
    go_enter Tryz.func51, Tryz.ntmps51
    go_wp2_with fail
    go_ret
    exact ChkPost.bad HQ.out (by decide) HG.out
  · have h1 : ¬ (100 : Int) < (l.length : Int) + 1 := by omega
    have h2 : (12 : Int) < (d : Int) := by omega
    clear h hbig
    go_enter Tryz.func51, Tryz.ntmps51
    go_wp2_with fail
    go_ret
    exact ChkPost.bad HQ.out (by decide) HG.out
set_option maxHeartbeats 4000000 in
theorem check_kind (w0 : World) (c : Cnd) (hne : c ≠ .zero) (d : Nat) (l : List (Cnd × Nat)) (w : World) (p : Nat) (hI : c.In w0) (hF : c.Fits) (hB : Below w0.heap.size w0 w) (hp : w0.heap.size ≤ p) (hd : d ≤ 13) (hl : Cnd.errL 0 l = 0) (hC : Ctr w p l.length) (hs : l.length < 100) (hd2 : d ≤ 12) (hk : decide (1 ≤ c.op ∧ c.op ≤ 16) = false) : Calls Tryz.prog 51 #[.pointer (some ⟨p, 0, none⟩), .agg #[.int .i64 c.op, .slice c.ka c.kn c.kc, .string c.text, .int .i64 c.low, .int .i64 c.high, .slice c.aa c.an c.ac], .int .i64 d] w (ChkPost w p (Cnd.ahead c d l)) := by
  have hb : c.bare = 10 := by rw [Cnd.bare_eq hne]; exact Cnd.bareE_kind (of_decide_eq_false hk)
  have hq := (Cnd.ahead_bad hne hl hs hd2 (by rw [hb]; decide)).trans hb
  have hlen := Cnd.errL_le hl
  have hpl : p < w.heap.size := Blk.lt hC
  have hpf := Blk.frozen hC 0
  have c0 := Blk.one hC
  have hpne : p ≠ w.heap.size := by omega
  have hK := chk1 (c := c) hB hp hC
  have k0 := hK.box.six.1
  have p0 := Blk.one hK.ctr
  rw [show ((l.length + 1 : Nat) : Int) = (l.length : Int) + 1 by omega] at p0
  have hsz := hB.size
  have HQ := Lib.hid hq; have HG := Lib.hid hK.grown; have HK := Lib.hid hk
  clear hq hK hb hk
  have h1 : ¬ (100 : Int) < (l.length : Int) + 1 := by omega
  have h2 : ¬ (12 : Int) < (d : Int) := by omega
  go_enter Tryz.func51, Tryz.ntmps51
  go_wp2_with (go_at_call 21; (with_reducible refine (outsideF_is c.op 1 16 false HK.out _).mono ?_); rintro e w5 ⟨rfl, rfl⟩)
  go_ret
  exact ChkPost.bad HQ.out (by decide) HG.out
end Go.Proofs.YtngbaljmlbdfkaaGreatDoor
