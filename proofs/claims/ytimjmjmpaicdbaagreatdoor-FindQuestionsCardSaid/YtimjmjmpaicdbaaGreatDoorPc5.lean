/- Parts of the proof, no condition: CndChk, CndChk2, Own, Ints, CndAhd, CndErr. -/
import Derived.Test.YtimjmjmpaicdbaaGreatDoorPc4
import Derived.Maps.AppendAt
import Derived.Test.YtimjmjmpaicdbaaGreatDoorPc1
import Derived.ArgAppend
import Derived.WalkSpells
import Derived.Lib.OwnKind
import Derived.Lib.SmallJoins
set_option maxRecDepth 100000
set_option maxHeartbeats 8000000
set_option linter.unusedVariables false
namespace Go.Proofs.YtimjmjmpaicdbaaGreatDoor
open Go.RowKit Go.Sort Go.Shelf
theorem eg_form : ∀ args w, (callFunc 66 args).run Tryz.prog w = .ok (.enter 66 args) w := enters_of Tryz.func66 (by kernel_rfl) rfl
theorem eg_text : ∀ args w, (callFunc 67 args).run Tryz.prog w = .ok (.enter 67 args) w := enters_of Tryz.func67 (by kernel_rfl) rfl
theorem eg_nums : ∀ args w, (callFunc 68 args).run Tryz.prog w = .ok (.enter 68 args) w := enters_of Tryz.func68 (by kernel_rfl) rfl
theorem grown_of_below {a b : World} (h : Below a.heap.size a b) (row : Option Nat) : a.grownBy b row := ⟨h.os, h.tape, h.output, h.size, fun k hk _ => h.block k hk⟩
theorem grown_set (w : World) (b i : Nat) (v : Value) : w.grownBy (w.setCell ⟨b, i, none⟩ v) (some b) :=
 ⟨rfl, rfl, rfl, by simp, fun k hk hne => Below.heap_setCell w ⟨b, i, none⟩ v k (fun e => hne (by rw [e]))⟩
theorem below_of_grown {B : Nat} {a b : World} {p : Nat} (h : a.grownBy b (some p)) (hB : B ≤ a.heap.size) (hp : B ≤ p) : Below B a b :=
 ⟨h.os, h.tape, h.output, h.size, fun k hk => h.block k (by omega) (fun e => by cases e; omega)⟩
def Ctr (w : World) (p n : Nat) : Prop := Blk w p #[.int .i64 (n : Int)] 57
def ChkPost (w : World) (p : Nat) (L : List (Cnd × Nat)) (e : Ending) (w' : World) : Prop :=
 e = .returned (.int .i64 (Cnd.errL 0 L)) ∧ (Cnd.errL 0 L = 0 → Ctr w' p L.length) ∧ w.grownBy w' (some p)
theorem ChkPost.bad {w w' : World} {p : Nat} {L : List (Cnd × Nat)} {q : Int} (h : Cnd.errL 0 L = q) (h0 : q ≠ 0) (hg : w.grownBy w' (some p)) : ChkPost w p L (.returned (.int .i64 q)) w' :=
 ⟨by rw [h], fun e => absurd (h.symm.trans e) h0, hg⟩
structure Chk1 (w0 w W2 : World) (p : Nat) (c : Cnd) (n : Nat) : Prop where
 box : Blk W2 w.heap.size #[.int .i64 c.op, .slice c.ka c.kn c.kc, .string c.text, .int .i64 c.low, .int .i64 c.high, .slice c.aa c.an c.ac] 25
 ctr : Ctr W2 p n
 grown : w.grownBy W2 (some p)
 bel : Below w0.heap.size w0 W2
theorem Chk1.keep {w0 w W2 W3 : World} {p : Nat} {c : Cnd} {n : Nat} (h : Chk1 w0 w W2 p c n) (hb : Below W2.heap.size W2 W3) : Chk1 w0 w W3 p c n :=
 ⟨h.box.keep hb, Blk.keep h.ctr hb, h.grown.trans (grown_of_below hb _), h.bel.trans (hb.mono h.bel.size)⟩
theorem chk1 {w0 w : World} {p : Nat} {c : Cnd} {n : Nat} (hB : Below w0.heap.size w0 w) (hp : w0.heap.size ≤ p) (hC : Ctr w p n) :
  Chk1 w0 w ((w.setCell ⟨p, 0, none⟩ (.int .i64 ((n : Int) + 1))).alloc (.cells #[.int .i64 c.op, .slice c.ka c.kn c.kc, .string c.text, .int .i64 c.low, .int .i64 c.high, .slice c.aa c.an c.ac] 25)) p c (n + 1) := by
 have hlt : p < w.heap.size := Blk.lt hC
 have hs := hB.size
 have h0 := Blk.new (w.setCell ⟨p, 0, none⟩ (.int .i64 ((n : Int) + 1))) #[.int .i64 c.op, .slice c.ka c.kn c.kc, .string c.text, .int .i64 c.low, .int .i64 c.high, .slice c.aa c.an c.ac] 25
 rw [show (w.setCell ⟨p, 0, none⟩ (.int .i64 ((n : Int) + 1))).heap.size = w.heap.size by simp] at h0
 have hg : w.grownBy ((w.setCell ⟨p, 0, none⟩ (.int .i64 ((n : Int) + 1))).alloc (.cells #[.int .i64 c.op, .slice c.ka c.kn c.kc, .string c.text, .int .i64 c.low, .int .i64 c.high, .slice c.aa c.an c.ac] 25)) (some p) := (grown_set _ _ _ _).trans (World.grownBy_alloc _ _ _)
 refine ⟨h0, ?_, hg, hB.trans (below_of_grown hg hs hp)⟩
 have := (Blk.set hC 0 (.int .i64 ((n : Int) + 1))).alloc (.cells #[.int .i64 c.op, .slice c.ka c.kn c.kc, .string c.text, .int .i64 c.low, .int .i64 c.high, .slice c.aa c.an c.ac] 25)
 unfold Ctr
 simpa using this
theorem check_large (w0 : World) (c : Cnd) (hne : c ≠ .zero) (d : Nat) (l : List (Cnd × Nat)) (w : World) (p : Nat) (hI : c.In w0) (hF : c.Fits) (hB : Below w0.heap.size w0 w) (hp : w0.heap.size ≤ p) (hd : d ≤ 13) (hl : Cnd.errL 0 l = 0) (hC : Ctr w p l.length) (hbig : l.length = 100 ∨ 12 < d) : Calls Tryz.prog 23 #[.pointer (some ⟨p, 0, none⟩), .agg #[.int .i64 c.op, .slice c.ka c.kn c.kc, .string c.text, .int .i64 c.low, .int .i64 c.high, .slice c.aa c.an c.ac], .int .i64 d] w (ChkPost w p (Cnd.ahead c d l)) := by
 have hq := Cnd.ahead_large hne hl hbig
 have hlen := Cnd.errL_le hl
 have hpl : p < w.heap.size := Blk.lt hC
 have hpf := Blk.frozen hC 0
 have c0 := Blk.one hC
 have hpne : p ≠ w.heap.size := by omega
 have hK := chk1 (c := c) hB hp hC
 have k0 := hK.box.six.1
 have p0 := Blk.one hK.ctr
 rw [show ((l.length + 1 : Nat) : Int) = (l.length : Int) + 1 by omega] at p0
 have hsz := hB.size
 have HQ := Lib.hid hq; have HG := Lib.hid hK.grown
 clear hq hK
 by_cases h : l.length = 100
 ·have h1 : (100 : Int) < (l.length : Int) + 1 := by omega
  clear h hbig
  go_enter Tryz.func23, Tryz.ntmps23
  go_wp2_with fail
  go_ret
  exact ChkPost.bad HQ.out (by decide) HG.out
 ·have h1 : ¬ (100 : Int) < (l.length : Int) + 1 := by omega
  have h2 : (12 : Int) < (d : Int) := by omega
  clear h hbig
  go_enter Tryz.func23, Tryz.ntmps23
  go_wp2_with fail
  go_ret
  exact ChkPost.bad HQ.out (by decide) HG.out
theorem check_kind (w0 : World) (c : Cnd) (hne : c ≠ .zero) (d : Nat) (l : List (Cnd × Nat)) (w : World) (p : Nat) (hI : c.In w0) (hF : c.Fits) (hB : Below w0.heap.size w0 w) (hp : w0.heap.size ≤ p) (hd : d ≤ 13) (hl : Cnd.errL 0 l = 0) (hC : Ctr w p l.length) (hs : l.length < 100) (hd2 : d ≤ 12) (hk : decide (1 ≤ c.op ∧ c.op ≤ 16) = false) : Calls Tryz.prog 23 #[.pointer (some ⟨p, 0, none⟩), .agg #[.int .i64 c.op, .slice c.ka c.kn c.kc, .string c.text, .int .i64 c.low, .int .i64 c.high, .slice c.aa c.an c.ac], .int .i64 d] w (ChkPost w p (Cnd.ahead c d l)) := by
 have hb : c.bare = 10 := by rw [Cnd.bare_eq hne]; exact Cnd.bareE_kind (of_decide_eq_false hk)
 have hq := (Cnd.ahead_bad hne hl hs hd2 (by rw [hb]; decide)).trans hb
 have hlen := Cnd.errL_le hl
 have hpl : p < w.heap.size := Blk.lt hC
 have hpf := Blk.frozen hC 0
 have c0 := Blk.one hC
 have hpne : p ≠ w.heap.size := by omega
 have hK := chk1 (c := c) hB hp hC
 have k0 := hK.box.six.1
 have p0 := Blk.one hK.ctr
 rw [show ((l.length + 1 : Nat) : Int) = (l.length : Int) + 1 by omega] at p0
 have hsz := hB.size
 have HQ := Lib.hid hq; have HG := Lib.hid hK.grown; have HK := Lib.hid hk
 clear hq hK hb hk
 have h1 : ¬ (100 : Int) < (l.length : Int) + 1 := by omega
 have h2 : ¬ (12 : Int) < (d : Int) := by omega
 go_enter Tryz.func23, Tryz.ntmps23
 go_wp2_with (go_at_call 32; (with_reducible refine (outsideF_is c.op 1 16 false HK.out _).mono ?_); rintro e w5 ⟨rfl, rfl⟩)
 go_ret
 exact ChkPost.bad HQ.out (by decide) HG.out
theorem chk_is (w0 : World) : ∀ (c : Cnd) (d : Nat) (l : List (Cnd × Nat)) (w : World) (p : Nat), c.In w0 → c.Fits → Below w0.heap.size w0 w → w0.heap.size ≤ p → d ≤ 13 → Cnd.errL 0 l = 0 → Ctr w p l.length →
  Calls Tryz.prog 23 #[.pointer (some ⟨p, 0, none⟩), .agg #[.int .i64 c.op, .slice c.ka c.kn c.kc, .string c.text, .int .i64 c.low, .int .i64 c.high, .slice c.aa c.an c.ac], .int .i64 d] w (ChkPost w p (Cnd.ahead c d l)) := by
 refine Cnd.ind (fun d l w p h => absurd rfl h.ne) fun c hne ih d l w p hI hF hB hp hd hl hC => ?_
 by_cases hbig : l.length = 100 ∨ 12 < d
 ·exact check_large w0 c hne d l w p hI hF hB hp hd hl hC hbig
 have hle := Cnd.errL_le hl
 have hs : l.length < 100 := by omega
 have hd2 : d ≤ 12 := by omega
 cases hk : decide (1 ≤ c.op ∧ c.op ≤ 16)
 ·exact check_kind w0 c hne d l w p hI hF hB hp hd hl hC hs hd2 hk
 have hop := of_decide_eq_true hk
 have hbare := Cnd.bare_eq hne
 have HAE := Lib.hid (Cnd.ahead_eq hne (d := d) (l := l) (by omega) hd2)
 have HEB := Lib.hid (fun h0 : c.bare ≠ 0 => Cnd.ahead_bad hne hl hs hd2 h0)
 have HE1 := Lib.hid (Cnd.err_snoc (c := c) (d := d) hl hs hd2)
 have hlen := Cnd.errL_le hl
 have hpl : p < w.heap.size := Blk.lt hC
 have hpf := Blk.frozen hC 0
 have c0 := Blk.one hC
 have hpne : p ≠ w.heap.size := by omega
 have hK := chk1 (c := c) hB hp hC
 have k0 := hK.box.six.1
 have p0 := Blk.one hK.ctr
 rw [show ((l.length + 1 : Nat) : Int) = (l.length : Int) + 1 by omega] at p0
 have hsz := hB.size
 obtain ⟨hkn, han, hts⟩ := hF.size
 have h1 : ¬ (100 : Int) < (l.length : Int) + 1 := by omega
 have h2 : ¬ (12 : Int) < (d : Int) := by omega
 obtain ⟨W2, hW2⟩ : ∃ W2, (w.setCell ⟨p, 0, none⟩ (.int .i64 ((l.length : Int) + 1))).alloc (.cells #[.int .i64 c.op, .slice c.ka c.kn c.kc, .string c.text, .int .i64 c.low, .int .i64 c.high, .slice c.aa c.an c.ac] 25) = W2 := ⟨_, rfl⟩
 have HW2 := Lib.hid hW2
 have hK2 : Chk1 w0 w W2 p c (l.length + 1) := by rw [← hW2]; exact hK
 obtain ⟨W3, hW3, hF3, hz3, hB3⟩ := box W2 #[.func (.func 66) #[] #[], .func (.func 67) #[] #[], .func (.func 68) #[] #[]] 29
 have HW3 := Lib.hid hW3
 have hK3 := hK2.keep hB3
 obtain ⟨fb, hfb⟩ : ∃ fb, Cnd.formB c.op c.kn c.an c.text c.low c.high = fb := ⟨_, rfl⟩
 obtain ⟨te, hte⟩ : ∃ te, Cnd.textE c.op c.text = te := ⟨_, rfl⟩
 obtain ⟨ne, hnE⟩ : ∃ ne, Cnd.numE c.op c.low c.high c.an c.lat c.lon = ne := ⟨_, rfl⟩
 have HCF := Lib.hid (fun W => checkForm_is c.op c.ka c.kn c.kc c.text c.low c.high c.aa c.an c.ac W hkn han fb hfb hop)
 have HCT := Lib.hid (fun W => checkText_is c.op c.ka c.kn c.kc c.text c.low c.high c.aa c.an c.ac W hkn han hts te hte hop)
 have HCN := Lib.hid (fun (h : fb = true) W (hb : Below w0.heap.size w0 W) => checkNums_is c.op c.ka c.kn c.kc c.text c.low c.high c.aa c.an c.ac c.lat c.lon W hkn han hts (Cnd.In.keep hb hI).row (hfb.trans h) ne hnE hop)
 have HB1 : Hid (fb = false → c.bare = 1) := Lib.hid fun h => by rw [hbare]; exact Cnd.bareE_form hop (hfb.trans h)
 have HB2 : Hid (fb = true → te ≠ 0 → c.bare = te) := Lib.hid fun h h0 => by rw [hbare]; exact Cnd.bareE_text hop (hfb.trans h) hte h0
 have HB3 : Hid (fb = true → te = 0 → c.bare = ne) := Lib.hid fun h h0 => by rw [hbare]; exact Cnd.bareE_num hop (hfb.trans h) (hte.trans h0) hnE
 have HBW := Lib.hid hB
 rw [show W2.heap.size = w.heap.size + 1 by rw [← hW2]; simp] at hF3
 have HK3 := Lib.hid hK3; have HF3 := Lib.hid hF3; have HK := Lib.hid hk; have HI := Lib.hid hI; have HFI := Lib.hid hF; have HIH := Lib.hid ih
 clear hK hK2 hK3 hF3 hW2 hW3 hB3 hz3 hop hbare hI hF ih hfb hte hnE hC hB hl hk hne
 have eg1 := eg_form; have eg2 := eg_text; have eg3 := eg_nums
 go_enter Tryz.func23, Tryz.ntmps23
 go_wp2_with (go_at_call 32; (with_reducible refine (outsideF_is c.op 1 16 true HK.out _).mono ?_); rintro e w5 ⟨rfl, rfl⟩)
 rw [HW2.out, HW3.out]
 go_loopg [34] 3 (fun gk i wr => ∃ j : Nat, j ≤ 3 ∧ gk = 3 - j ∧ i = .int .i64 j ∧ (1 ≤ j → fb = true) ∧ (2 ≤ j → te = 0) ∧ (3 ≤ j → ne = 0) ∧ Below W3.heap.size W3 wr)
 case atStart => exact ⟨0, by omega, rfl, rfl, fun h => by omega, fun h => by omega, fun h => by omega, Below.refl _ _⟩
 case round =>
  obtain ⟨j, hj, rfl, rfl, r1, r2, r3, hB⟩ := hrel
  have R1 := Lib.hid r1; have R2 := Lib.hid r2; have R3 := Lib.hid r3
  clear r1 r2 r3 c0 k0 p0
  have hKr := HK3.out.keep hB
  obtain ⟨t0, t1, t2, t3, t4, t5⟩ := hKr.box.six
  obtain ⟨f0, f1, f2⟩ := (HF3.out.keep hB).three
  have HKR := Lib.hid hKr; clear hKr
  have hj4 : j = 0 ∨ j = 1 ∨ j = 2 ∨ j = 3 := by omega
  rcases hj4 with rfl | rfl | rfl | rfl
  ·cases fb
   ·have HQ := Lib.hid (HB1.out rfl)
    rw [if_neg (by simp)] at HCF
    go_wp2_with (go_at_fn 66; refine (HCF.out _).mono ?_; rintro e w5 ⟨rfl, hB5⟩)
    go_ret
    exact ChkPost.bad ((HEB.out (by rw [HQ.out]; decide)).trans HQ.out) (by decide) (HKR.out.keep hB5).grown
   ·rw [if_pos rfl] at HCF
    go_wp2_with (go_at_fn 66; refine (HCF.out _).mono ?_; rintro e w5 ⟨rfl, hB5⟩)
    go_roundg 2
    case rel => exact ⟨1, by omega, rfl, by go_num, fun _ => (by first | rfl | trivial), fun h => by omega, fun h => by omega, below_up hB hB5⟩
    case measure => omega
  ·by_cases ht0 : te = 0
   ·subst ht0
    have HB2 := True.intro
    go_wp2_with (go_at_fn 67; refine (HCT.out _).mono ?_; rintro e w5 ⟨rfl, hB5⟩)
    go_roundg 1
    case rel => exact ⟨2, by omega, rfl, by go_num, fun _ => R1.out (by omega), fun _ => (by first | rfl | trivial), fun h => by omega, below_up hB hB5⟩
    case measure => omega
   ·have HQ := Lib.hid (HB2.out (R1.out (by omega)) ht0)
    have ht1 : (te != 0) = true := by simpa using ht0
    have HT0 := Lib.hid ht0; clear ht0
    go_wp2_with (go_at_fn 67; refine (HCT.out _).mono ?_; rintro e w5 ⟨rfl, hB5⟩)
    go_ret
    exact ChkPost.bad ((HEB.out (by rw [HQ.out]; exact HT0.out)).trans HQ.out) HT0.out (HKR.out.keep hB5).grown
  ·have HQ := Lib.hid (HB3.out (R1.out (by omega)) (R2.out (by omega)))
   have HCN2 := Lib.hid (fun W hb => HCN.out (R1.out (by omega)) W hb)
   have HBR := Lib.hid HKR.out.bel
   by_cases hn0 : ne = 0
   ·subst hn0
    go_wp2_with (go_at_fn 68; refine (HCN2.out _ HBR.out).mono ?_; rintro e w5 ⟨rfl, hB5⟩)
    go_roundg 0
    case rel => exact ⟨3, by omega, rfl, by go_num, fun _ => R1.out (by omega), fun _ => R2.out (by omega), fun _ => (by first | rfl | trivial), below_up hB hB5⟩
    case measure => omega
   ·have hn1 : (ne != 0) = true := by simpa using hn0
    have HN0 := Lib.hid hn0; clear hn0
    go_wp2_with (go_at_fn 68; refine (HCN2.out _ HBR.out).mono ?_; rintro e w5 ⟨rfl, hB5⟩)
    go_ret
    exact ChkPost.bad ((HEB.out (by rw [HQ.out]; exact HN0.out)).trans HQ.out) HN0.out (HKR.out.keep hB5).grown
  ·have hbare0 : c.bare = 0 := by rw [HB3.out (R1.out (by omega)) (R2.out (by omega))]; exact R3.out (by omega)
   have HE0 := Lib.hid (HE1.out.trans hbare0)
   clear f0 f1 f2 hbare0
   obtain ⟨f, hf⟩ : ∃ f, (fun i => Cnd.ahead (c.kids i) (d + 1)) = f := ⟨_, rfl⟩
   have HFF := Lib.hid hf
   rw [hf] at HAE
   clear hf
   go_wp2_with fail
   go_loopg [48] c.kn (fun gk i wr => ∃ j : Nat, j ≤ c.kn ∧ gk = c.kn - j ∧ i = .int .i64 j ∧ Cnd.errL 0 (Cnd.aheadK f j (l ++ [(c, d)])) = 0 ∧ Ctr wr p (Cnd.aheadK f j (l ++ [(c, d)])).length ∧ w.grownBy wr (some p))
   case atStart => exact ⟨0, by omega, rfl, rfl, HE0.out, by have := HKR.out.ctr; rw [Cnd.aheadK, List.length_append]; exact this, HKR.out.grown⟩
   case round =>
    obtain ⟨j, hj, rfl, rfl, hej, hCj, hGj⟩ := hrel
    have HEJ := Lib.hid hej; have HGJ := Lib.hid hGj
    have hb0 : Below w0.heap.size w0 wr := HBW.out.trans (below_of_grown hGj hsz hp)
    by_cases hlt : j < c.kn
    ·obtain ⟨b, off, hka, hbl, hcell⟩ := (Cnd.In.keep hb0 HI.out).kid (by omega)
     rw [hka]
     obtain ⟨s0, s1, s2, s3, s4, s5⟩ := hcell j hlt
     clear hcell
     obtain ⟨x, hx⟩ : ∃ x, c.kids j = x := ⟨_, rfl⟩
     have hCALL := HIH.out j (d + 1) (Cnd.aheadK f j (l ++ [(c, d)])) (wr.alloc (.cells #[.int .i64 x.op, .slice x.ka x.kn x.kc, .string x.text, .int .i64 x.low, .int .i64 x.high, .slice x.aa x.an x.ac] 25)) p (HI.out.each j hlt) (HFI.out.each j hlt) (hb0.trans ((below_allocs (Below.refl _ _) _).mono hb0.size)) hp (by omega) hej (Blk.alloc hCj _)
     rw [hx] at hCALL s0 s1 s2 s3 s4 s5
     rw [show ((d + 1 : Nat) : Int) = (d : Int) + 1 by omega] at hCALL
     have hnext : Cnd.aheadK f (j + 1) (l ++ [(c, d)]) = Cnd.ahead x (d + 1) (Cnd.aheadK f j (l ++ [(c, d)])) := by
      rw [Cnd.aheadK, ← HFF.out]; simp only [hx]
     rw [← hnext] at hCALL
     have HCALL := Lib.hid hCALL
     have HGA := Lib.hid (hGj.trans (World.grownBy_alloc wr (.cells #[.int .i64 x.op, .slice x.ka x.kn x.kc, .string x.text, .int .i64 x.low, .int .i64 x.high, .slice x.aa x.an x.ac] 25) (some p)))
     clear hCALL hnext hx hCj hGj hej
     obtain ⟨q, hq⟩ : ∃ q, Cnd.errL 0 (Cnd.aheadK f (j + 1) (l ++ [(c, d)])) = q := ⟨_, rfl⟩
     have HQ := Lib.hid hq
     by_cases hq0 : q = 0
     ·have HQ0 := Lib.hid (hq.trans hq0)
      subst hq0
      clear hq
      go_wp2_with (go_at_call 23; refine HCALL.out.mono ?_; rintro e w7 ⟨rfl, hok, hG⟩; rw [HQ.out]; have HOK := Lib.hid (hok HQ0.out); have HG7 := Lib.hid (HGA.out.trans hG); clear hok hG)
      rw [← hka]
      go_roundg (c.kn - (j + 1))
      case rel => exact ⟨j + 1, by omega, rfl, by go_num, HQ0.out, HOK.out, HG7.out⟩
      case measure => omega
     ·have hq1 : (q != 0) = true := by simpa using hq0
      have HN0 := Lib.hid hq0; clear hq0 hq
      go_wp2_with (go_at_call 23; refine HCALL.out.mono ?_; rintro e w7 ⟨rfl, -, hG⟩; rw [HQ.out]; have HG7 := Lib.hid (HGA.out.trans hG); clear hG)
      go_ret
      refine ChkPost.bad ?_ HN0.out HG7.out
      rw [HAE.out, Cnd.aheadK_more (fun i l => by rw [← HFF.out]; exact Cnd.ahead_pre _ _ _) _ (j + 1) c.kn (by omega) (by rw [HQ.out]; exact HN0.out), HQ.out]
    ·obtain rfl : j = c.kn := by omega
     have HCJ := Lib.hid hCj
     go_wp2_with fail
     go_ret
     exact ⟨by rw [HAE.out, HEJ.out]; rfl, fun _ => by rw [HAE.out]; exact HCJ.out, HGJ.out⟩
end Go.Proofs.YtimjmjmpaicdbaaGreatDoor
namespace Go.Proofs.YtimjmjmpaicdbaaGreatDoor
open Go.RowKit
theorem ownsRow_down {w : World} {base base' : Nat} {e : TypeId} {size : Nat} {v : Value} {n : Nat} {xs : List Value} (h : w.ownsRow base e size v n xs) (hb : base' ≤ base) : w.ownsRow base' e size v n xs := by
 refine ⟨h.1, ?_⟩
 rcases h.2 with hn | ⟨g, cap, cur, rfl, hg, rest⟩
 ·exact .inl hn
 ·exact .inr ⟨g, cap, cur, rfl, Nat.le_trans hb hg, rest⟩
def NewOr (w : World) (old : Option Nat) (g : Nat) : Prop := old = some g ∨ w.heap.size ≤ g
theorem wpList_append_own2 {P : Program} (w : World) {ops : Array Oper} {rest : List Oper} {o : Oper} {a : Act} {Q : Exit → Act → World → Prop} (hgd : o.guard = none) (s x : Operand) (t : TypeId)
  (ho : o.op = .call { callee := .builtin .append, args := #[s, x], argTypes := #[t, t] })
  (base : Nat) (e : TypeId) (i : TypeInfo) (z : Value) (size bytes : Nat) (ht : P.underlying t = some (.slice e)) (hi : P.info? e = some i) (hz : i.zero = some z)
  (hsize : i.size = size) (hby : i.bytes = bytes) (hzs : z.cells.size = size) (hsz : 0 < size)
  (v : Value) (n : Nat) (xs : List Value) (hs : a.eval s = v) (hown : w.ownsRow base e size v n xs)
  (ad : Addr) (m c : Nat) (news : List Value) (hx : a.eval x = .slice (some ad) m c) (hm : 0 < m) (hl : news.length = m * size) (hnews : ∀ j u, news[j]? = some u → w.cell? (ad.add j) = some u) (h1 : ∀ u ∈ news, u.oneCell' = true)
  (h63 : n + m ≤ maxLen) (hbytes : (n + m) * bytes ≤ 140737488355328) (hbase : base ≤ w.heap.size)
  (h : ∀ g cap w', w'.ownsRow base e size (.slice (some ⟨g, 0, none⟩) (n + m) cap) (n + m) (xs ++ news) → w.grownBy w' v.ownBlock → NewOr w v.ownBlock g → wpList P ops Q rest (a.put o.dst (.slice (some ⟨g, 0, none⟩) (n + m) cap)) w') : wpList P ops Q (o :: rest) a w := by
 have shape : ∀ v' w', w'.ownsRow w.heap.size e size v' (n + m) (xs ++ news) → w.grownBy w' none → wpList P ops Q rest (a.put o.dst v') w' := by
  intro v' w' hown' hg
  rcases hown'.2 with ⟨_, h0⟩ | ⟨g, cap, cur, rfl, hgb, _⟩
  ·omega
  ·exact h g cap w' (ownsRow_down hown' hbase) ⟨hg.os, hg.tape, hg.output, hg.size, fun k hk _ => hg.block k hk (by simp)⟩ (.inr hgb)
 have hlen := hown.1
 rcases hown.2 with ⟨rfl, rfl⟩ | ⟨g, cap, cur, rfl, hbg, hg, hnc, hcm, hcs, htake⟩
 ·refine wpList_append_grows w hgd s x t ho e i z size bytes ht hi hz hsize hby hzs hsz none 0 0 xs hs (fun _ => ⟨rfl, rfl⟩) hlen (fun b hb => by cases hb) ad m c news hx hl hnews h1 (by omega) h63 hbytes shape
 ·by_cases hroom : n + m ≤ cap
  ·refine wpList_append_fits w hgd s x t ho base e i size ht hi hsize g n cap xs hs hown ad m c news hx hl hnews h1 hroom fun w' hown' hgr => ?_
   exact h g cap w' hown' hgr (.inl rfl)
  ·exact wpList_append_grows w hgd s x t ho e i z size bytes ht hi hz hsize hby hzs hsz (some ⟨g, 0, none⟩) n cap xs hs (fun hh => by cases hh) hlen (fun b hb => by cases hb; exact hown.cells (g := g) rfl) ad m c news hx hl hnews h1 (by omega) h63 hbytes shape
theorem NewOr.ne {w : World} {old : Option Nat} {g b : Nat} (h : NewOr w old g) (hb : b < w.heap.size) (hne : old ≠ some b) : g ≠ b := by
 rcases h with h | h
 ·intro e; subst e; exact hne h
 ·omega
end Go.Proofs.YtimjmjmpaicdbaaGreatDoor
namespace Go.Proofs.YtimjmjmpaicdbaaGreatDoor
open Go.RowKit Go.Sort Go.Shelf
theorem infoInt : (Tryz.prog.info? 3).map (fun i => (i.zero, i.size, i.bytes)) = some (some (.int .i64 0), 1, 8) := by kernel_rfl
def RowL (w : World) (a : Option Addr) (xs : List Int) : Prop := Row w a xs.length (fun i => .int .i64 (xs[i]?.getD 0))
theorem RowL.keep {w w' : World} {a : Option Addr} {xs : List Int} (h : RowL w a xs) (hb : Below w.heap.size w w') : RowL w' a xs := Row.keep h hb
theorem RowL.nil (w : World) (a : Option Addr) : RowL w a [] := fun h => by simp at h
theorem RowL.of_own {w : World} {base : Nat} {e : TypeId} {g n cap : Nat} {xs : List Int} (h : w.ownsRow base e 1 (.slice (some ⟨g, 0, none⟩) n cap) n (xs.map (Value.int .i64))) : RowL w (some ⟨g, 0, none⟩) xs := by
 intro hl
 have hlen := h.1
 rw [List.length_map, Nat.mul_one] at hlen
 refine ⟨g, 0, rfl, (h.lt g rfl).2, fun i hi => ?_⟩
 rw [Nat.zero_add, h.cellAt i (by omega), List.getElem?_map]; simp [List.getElem?_eq_getElem hi]
def flatC (L : List (Cnd × Nat)) : List Value := L.flatMap fun p => p.1.cells
def depsC (L : List (Cnd × Nat)) : List Value := L.map fun p => .int .i64 (p.2 : Int)
structure TwoC (w : World) (B : Nat) (v u : Value) (L : List (Cnd × Nat)) : Prop where
 rows : w.ownsRow B 25 6 v L.length (flatC L)
 deps : w.ownsRow B 3 1 u L.length (depsC L)
theorem own_slice {w : World} {B : Nat} {e : TypeId} {k : Nat} {v : Value} {n : Nat} {xs : List Value} (h : w.ownsRow B e k v n xs) : ∃ a ca, v = .slice a n ca := by
 rcases h.2 with ⟨rfl, rfl⟩ | ⟨g, cap, cur, rfl, _⟩
 ·exact ⟨_, _, rfl⟩
 ·exact ⟨_, _, rfl⟩
theorem own_ne {w : World} {B B' : Nat} {e e' : TypeId} {k k' : Nat} {v u : Value} {n m : Nat} {xs ys : List Value} (h : w.ownsRow B e k v n xs) (g : w.ownsRow B' e' k' u m ys) (hne : e ≠ e') : u.ownBlock = none ∨ u.ownBlock ≠ v.ownBlock := by
 cases hu : u.ownBlock with
 | none => exact .inl rfl
 | some b =>
   right
   intro e2
   obtain ⟨c1, f1, h1⟩ := Go.Lib.ownsRow_kind g b hu
   obtain ⟨c2, f2, h2⟩ := Go.Lib.ownsRow_kind h b e2.symm
   rw [h1] at h2
   cases h2
   exact hne rfl
theorem own_below {w w' : World} {B : Nat} {e : TypeId} {k : Nat} {v : Value} {n : Nat} {xs : List Value} (h : w.ownsRow B e k v n xs) (hg : w.grownBy w' v.ownBlock) (hB : B ≤ w.heap.size) : Below B w w' :=
 ⟨hg.os, hg.tape, hg.output, hg.size, fun i hi => hg.block i (by omega) fun e => by have := (h.lt i e.symm).1; omega⟩
theorem TwoC.alloc {w : World} {B : Nat} {v u : Value} {L : List (Cnd × Nat)} (h : TwoC w B v u L) (o : Obj) : TwoC (w.alloc o) B v u L := ⟨h.rows.alloc o, h.deps.alloc o⟩
theorem TwoC.next {w5 w6 : World} {B : Nat} {u v' u' : Value} {l : List (Cnd × Nat)} {c : Cnd} {d : Nat} {xs : List Value} (hx : c.cells = xs)
  (h1 : w5.ownsRow B 25 6 v' (l.length + 1) (flatC l ++ xs)) (h2 : w6.ownsRow B 3 1 u' (l.length + 1) (depsC l ++ [.int .i64 (d : Int)])) (o : Obj) (hg : (w5.alloc o).grownBy w6 u.ownBlock)
  (hU : (w5.alloc o).ownsRow B 3 1 u l.length (depsC l)) : TwoC w6 B v' u' (l ++ [(c, d)]) := by
 have hu := own_ne hU (h1.alloc o) (by decide)
 refine ⟨?_, ?_⟩
 ·have := (h1.alloc o).kept hg hu
  rw [List.length_append]
  simpa [flatC, hx] using this
 ·rw [List.length_append]
  simpa [depsC] using h2
theorem TwoC.below {w w' : World} {B : Nat} {v u : Value} {L : List (Cnd × Nat)} (h : TwoC w B v u L) (hb : Below w.heap.size w w') : TwoC w' B v u L :=
 ⟨h.rows.kept (row := none) ⟨hb.os, hb.tape, hb.output, hb.size, fun k hk _ => hb.block k hk⟩ (by cases hv : v.ownBlock; exact .inl rfl; exact .inr (by simp)), h.deps.kept (row := none) ⟨hb.os, hb.tape, hb.output, hb.size, fun k hk _ => hb.block k hk⟩ (by cases hv : u.ownBlock; exact .inl rfl; exact .inr (by simp))⟩
theorem Cnd.aheadK_len (f : Nat → List (Cnd × Nat) → List (Cnd × Nat)) (hf : ∀ i l, l.length ≤ 101 → (f i l).length ≤ 101) : ∀ k (l : List (Cnd × Nat)), l.length ≤ 101 → (Cnd.aheadK f k l).length ≤ 101
 | 0, l, h => h
 | k + 1, l, h => by rw [Cnd.aheadK]; exact hf _ _ (Cnd.aheadK_len f hf k l h)
theorem TwoC.step1 {w1 w5 : World} {B n : Nat} {v u : Value} {xs ys : List Value} (hA : w1.ownsRow B 25 6 v n xs) (hU : w1.ownsRow B 3 1 u n ys) (hS : B ≤ w1.heap.size) (hg : w1.grownBy w5 v.ownBlock) (o : Obj) :
  (w5.alloc o).ownsRow B 3 1 u n ys ∧ Below B w1 (w5.alloc o) ∧ B ≤ (w5.alloc o).heap.size := by
 have h5 : B ≤ w5.heap.size := Nat.le_trans hS hg.size
 exact ⟨(hU.kept hg (own_ne hA hU (by decide))).alloc o, (own_below hA hg hS).trans ((Below.refl _ _).alloc h5 o), by simp; omega⟩
theorem TwoC.step2 {w5 w6 : World} {B n : Nat} {u : Value} {ys : List Value} (hU : w5.ownsRow B 3 1 u n ys) (hg : w5.grownBy w6 u.ownBlock) (hS : B ≤ w5.heap.size) : Below B w5 w6 := own_below hU hg hS
def AheadPost (w : World) (B : Nat) (L : List (Cnd × Nat)) (e : Ending) (w' : World) : Prop := ∃ v u, e = .returned (.tuple #[v, u]) ∧ TwoC w' B v u L ∧ Below B w w'
theorem infoCond : (Tryz.prog.info? 25).map (fun i => (i.zero, i.size, i.bytes)) = some (some (.agg #[.int .i64 0, .slice none 0 0, .string ByteArray.empty, .int .i64 0, .int .i64 0, .slice none 0 0]), 6, 88) := by kernel_rfl
theorem six_new {w : World} {c0 c1 c2 c3 c4 c5 : Value} {t : TypeId} (n : Nat) (hn : w.heap.size = n) : ∀ j u, [c0, c1, c2, c3, c4, c5][j]? = some u → (w.alloc (.cells #[c0, c1, c2, c3, c4, c5] t)).cell? ((⟨n, 0, none⟩ : Addr).add j) = some u := by
 intro j u h
 subst hn
 obtain ⟨h0, h1, h2, h3, h4, h5⟩ := (Blk.new w #[c0, c1, c2, c3, c4, c5] t).six
 match j with
 | 0 => rw [← h]; exact h0
 | 1 => rw [← h]; exact h1
 | 2 => rw [← h]; exact h2
 | 3 => rw [← h]; exact h3
 | 4 => rw [← h]; exact h4
 | 5 => rw [← h]; exact h5
 | k + 6 => simp at h
theorem ahead_is (w0 : World) (B : Nat) (hB0 : w0.heap.size ≤ B) : ∀ (c : Cnd) (d : Nat) (l : List (Cnd × Nat)) (w : World) (v u : Value), c.In w0 → c.Fits → Below w0.heap.size w0 w → d ≤ 13 → l.length ≤ 101 → B ≤ w.heap.size → TwoC w B v u l →
  Calls Tryz.prog 24 #[.agg #[.int .i64 c.op, .slice c.ka c.kn c.kc, .string c.text, .int .i64 c.low, .int .i64 c.high, .slice c.aa c.an c.ac], .int .i64 d, v, u] w (AheadPost w B (Cnd.ahead c d l)) := by
 refine Cnd.ind (fun d l w v u h => absurd rfl h.ne) fun c hne ih d l w v u hI hF hBw hd hl hBs hT => ?_
 obtain ⟨a, ca, rfl⟩ := own_slice hT.rows
 obtain ⟨W1, hW1, hP, hz1, hB1⟩ := box w #[.int .i64 c.op, .slice c.ka c.kn c.kc, .string c.text, .int .i64 c.low, .int .i64 c.high, .slice c.aa c.an c.ac] 25
 have hT1 : TwoC W1 B (.slice a l.length ca) u l := by rw [← hW1]; exact hT.alloc _
 subst hW1
 have hb1 : Below B w (w.alloc (.cells #[.int .i64 c.op, .slice c.ka c.kn c.kc, .string c.text, .int .i64 c.low, .int .i64 c.high, .slice c.aa c.an c.ac] 25)) := hB1.mono hBs
 have HV1 : Hid (some w.heap.size ≠ (Value.slice a l.length ca).ownBlock) := Lib.hid fun e => by have := (hT.rows.lt _ e.symm).2; omega
 have HU0 : Hid (some w.heap.size ≠ u.ownBlock) := Lib.hid fun e => by have := (hT.deps.lt _ e.symm).2; omega
 have HIH := Lib.hid ih; have HI := Lib.hid hI; have HF := Lib.hid hF; have HC := Lib.hid hI.cells; have HNE := Lib.hid hne
 clear ih
 obtain ⟨hkn, han, hts⟩ := hF.size
 by_cases hbig : 100 < l.length
 ·have hbig' : (100 : Int) < (l.length : Int) := by omega
  have HA := Lib.hid (Cnd.ahead_full hne (d := d) hbig)
  have HT := Lib.hid hT1; have HB1 := Lib.hid hb1
  clear hT hT1 hP hI hF hne hbig hb1
  go_enter Tryz.func24, Tryz.ntmps24
  go_wp2_with fail
  go_ret2
  exact ⟨_, _, rfl, by rw [HA.out]; exact HT.out, HB1.out⟩
 ·have hbig' : ¬ (100 : Int) < (l.length : Int) := by omega
  obtain ⟨i0, hi0, hy0, hy1, hy2⟩ := info_parts infoInt
  obtain ⟨i1, hi1, hz0, hz1', hz2⟩ := info_parts infoCond
  have HI0 := Lib.hid hi0; have HI1 := Lib.hid hy0; have HI2 := Lib.hid hy1; have HI3 := Lib.hid hy2
  have HJ0 := Lib.hid hi1; have HJ1 := Lib.hid hz0; have HJ2 := Lib.hid hz1'; have HJ3 := Lib.hid hz2
  have hA1 := (hT1.alloc (.cells #[.int .i64 c.op, .slice c.ka c.kn c.kc, .string c.text, .int .i64 c.low, .int .i64 c.high, .slice c.aa c.an c.ac] 25)).rows
  have HU1 := Lib.hid (hT1.alloc (.cells #[.int .i64 c.op, .slice c.ka c.kn c.kc, .string c.text, .int .i64 c.low, .int .i64 c.high, .slice c.aa c.an c.ac] 25)).deps
  have hs1 : B ≤ ((w.alloc (.cells #[.int .i64 c.op, .slice c.ka c.kn c.kc, .string c.text, .int .i64 c.low, .int .i64 c.high, .slice c.aa c.an c.ac] 25)).alloc (.cells #[.int .i64 c.op, .slice c.ka c.kn c.kc, .string c.text, .int .i64 c.low, .int .i64 c.high, .slice c.aa c.an c.ac] 25)).heap.size := by simp; omega
  have HS1 := Lib.hid hs1
  have HSIX := Lib.hid (six_new (w := w.alloc (.cells #[.int .i64 c.op, .slice c.ka c.kn c.kc, .string c.text, .int .i64 c.low, .int .i64 c.high, .slice c.aa c.an c.ac] 25)) (c0 := .int .i64 c.op) (c1 := .slice c.ka c.kn c.kc) (c2 := .string c.text) (c3 := .int .i64 c.low) (c4 := .int .i64 c.high) (c5 := .slice c.aa c.an c.ac) (t := 25) (w.heap.size + 1) hz1)
  have HS1' : B ≤ (w.alloc (.cells #[.int .i64 c.op, .slice c.ka c.kn c.kc, .string c.text, .int .i64 c.low, .int .i64 c.high, .slice c.aa c.an c.ac] 25)).heap.size := by omega
  have HB1 := Lib.hid hb1; have HBW := Lib.hid hBw
  have HBB1 := Lib.hid (hb1.trans ((Below.refl _ _).alloc HS1' (.cells #[.int .i64 c.op, .slice c.ka c.kn c.kc, .string c.text, .int .i64 c.low, .int .i64 c.high, .slice c.aa c.an c.ac] 25)))
  have HKID := Lib.hid (fun W (hb : Below w0.heap.size w0 W) => (Cnd.In.keep hb HI.out).kid)
  have HPP := Lib.hid (hP.alloc (.cells #[.int .i64 c.op, .slice c.ka c.kn c.kc, .string c.text, .int .i64 c.low, .int .i64 c.high, .slice c.aa c.an c.ac] 25))
  obtain ⟨q0, q1, q2, q3, q4, q5⟩ := hP.six
  clear hT hT1 hI hF hne hb1 hi0 hy0 hy1 hy2 hi1 hz0 hz1' hz2 hBw hB1
  have hsl : (flatC l).length = l.length * 6 := hA1.1
  by_cases hdeep : 12 < d
  ·have hdeep' : (12 : Int) < (d : Int) := by omega
   have HA := Lib.hid (Cnd.ahead_deep HNE.out (d := d) (l := l) (by omega) hdeep)
   clear hdeep
   go_enter Tryz.func24, Tryz.ntmps24
   go_wp2_with (first
    | (at_builtin; refine wpList_append_own2 _ rfl _ _ 22 rfl B 25 i1 (.agg #[.int .i64 0, .slice none 0 0, .string ByteArray.empty, .int .i64 0, .int .i64 0, .slice none 0 0]) 6 88 Tryz.underlying22 HJ0.out HJ1.out HJ2.out HJ3.out rfl (by decide) _ _ _ rfl hA1 ⟨w.heap.size + 1, 0, none⟩ 1 1 [.int .i64 c.op, .slice c.ka c.kn c.kc, .string c.text, .int .i64 c.low, .int .i64 c.high, .slice c.aa c.an c.ac] rfl (by decide) rfl HSIX.out (by simp [Value.oneCell']) (by unfold maxLen; omega) (by omega) HS1.out ?_; intro g5 cap5 w5 hown5 hgrow5 hnew5; obtain ⟨hU6, hB5, hS6⟩ := TwoC.step1 hA1 HU1.out HS1.out hgrow5 (.cells #[.int .i64 (d : Int)] 3); have HOWN5 := Lib.hid hown5; have HB5 := Lib.hid hB5; have hP5 := HPP.out.grown hgrow5 HV1.out; clear hown5 hgrow5 hnew5 hB5)
    | (at_builtin; refine wpList_append_own2 _ rfl _ _ 40 rfl B 3 i0 (.int .i64 0) 1 8 Tryz.underlying40 HI0.out HI1.out HI2.out HI3.out rfl (by decide) _ _ _ rfl hU6 ⟨w5.heap.size, 0, none⟩ 1 1 [.int .i64 (d : Int)] rfl (by decide) rfl (cell_one_new _ _ _) (by simp [Value.oneCell']) (by unfold maxLen; omega) (by omega) hS6 ?_; intro g6 cap6 w6 hown6 hgrow6 hnew6; have HO6 := Lib.hid hown6; have HG6 := Lib.hid hgrow6; have HU6 := Lib.hid hU6; have hP6 := (hP5.alloc (.cells #[.int .i64 (d : Int)] 3)).grown hgrow6 HU0.out; obtain ⟨t0, t1, t2, t3, t4, t5⟩ := hP6.six; clear hP5; clear hown6 hgrow6 hnew6 hU6))
   have hT6 := TwoC.next (c := c) (d := d) HC.out HOWN5.out HO6.out (.cells #[.int .i64 (d : Int)] 3) HG6.out HU6.out
   have hB6 := HBB1.out.trans (HB5.out.trans (TwoC.step2 HU6.out HG6.out hS6))
   have HT6 := Lib.hid hT6
   have HB6 := Lib.hid hB6
   clear hT6 hB6
   go_ret2
   exact ⟨_, _, rfl, by rw [HA.out]; exact HT6.out, HB6.out⟩
  ·have hdeep' : ¬ (12 : Int) < (d : Int) := by omega
   have HA := Lib.hid (Cnd.ahead_eq HNE.out (d := d) (l := l) (by omega) (by omega))
   obtain ⟨f, hf⟩ : ∃ f, (fun i => Cnd.ahead (c.kids i) (d + 1)) = f := ⟨_, rfl⟩
   have HFF := Lib.hid hf
   rw [hf] at HA
   clear hf hdeep
   go_enter Tryz.func24, Tryz.ntmps24
   go_wp2_with (first
    | (at_builtin; refine wpList_append_own2 _ rfl _ _ 22 rfl B 25 i1 (.agg #[.int .i64 0, .slice none 0 0, .string ByteArray.empty, .int .i64 0, .int .i64 0, .slice none 0 0]) 6 88 Tryz.underlying22 HJ0.out HJ1.out HJ2.out HJ3.out rfl (by decide) _ _ _ rfl hA1 ⟨w.heap.size + 1, 0, none⟩ 1 1 [.int .i64 c.op, .slice c.ka c.kn c.kc, .string c.text, .int .i64 c.low, .int .i64 c.high, .slice c.aa c.an c.ac] rfl (by decide) rfl HSIX.out (by simp [Value.oneCell']) (by unfold maxLen; omega) (by omega) HS1.out ?_; intro g5 cap5 w5 hown5 hgrow5 hnew5; obtain ⟨hU6, hB5, hS6⟩ := TwoC.step1 hA1 HU1.out HS1.out hgrow5 (.cells #[.int .i64 (d : Int)] 3); have HOWN5 := Lib.hid hown5; have HB5 := Lib.hid hB5; have hP5 := HPP.out.grown hgrow5 HV1.out; clear hown5 hgrow5 hnew5 hB5)
    | (at_builtin; refine wpList_append_own2 _ rfl _ _ 40 rfl B 3 i0 (.int .i64 0) 1 8 Tryz.underlying40 HI0.out HI1.out HI2.out HI3.out rfl (by decide) _ _ _ rfl hU6 ⟨w5.heap.size, 0, none⟩ 1 1 [.int .i64 (d : Int)] rfl (by decide) rfl (cell_one_new _ _ _) (by simp [Value.oneCell']) (by unfold maxLen; omega) (by omega) hS6 ?_; intro g6 cap6 w6 hown6 hgrow6 hnew6; have HO6 := Lib.hid hown6; have HG6 := Lib.hid hgrow6; have HU6 := Lib.hid hU6; have hP6 := (hP5.alloc (.cells #[.int .i64 (d : Int)] 3)).grown hgrow6 HU0.out; obtain ⟨t0, t1, t2, t3, t4, t5⟩ := hP6.six; clear hP5; clear hown6 hgrow6 hnew6 hU6))
   have hT6 := TwoC.next (c := c) (d := d) HC.out HOWN5.out HO6.out (.cells #[.int .i64 (d : Int)] 3) HG6.out HU6.out
   have hB6 := HBB1.out.trans (HB5.out.trans (TwoC.step2 HU6.out HG6.out hS6))
   have HT6 := Lib.hid hT6
   have HB6 := Lib.hid hB6
   clear hT6 hB6
   clear hA1
   go_loopg [2, 3, 32] c.kn (fun gk s2 s3 i wr => ∃ j : Nat, j ≤ c.kn ∧ gk = c.kn - j ∧ i = .int .i64 j ∧ TwoC wr B s2 s3 (Cnd.aheadK f j (l ++ [(c, d)])) ∧ Below B w wr)
   case atStart => exact ⟨0, by omega, rfl, rfl, HT6.out, HB6.out⟩
   case round =>
    obtain ⟨j, hj, rfl, rfl, hT, hB⟩ := hrel
    have HT := Lib.hid hT; clear hT
    by_cases hlt : j < c.kn
    ·have hb0 : Below w0.heap.size w0 wr := HBW.out.trans (hB.mono hB0)
     obtain ⟨b, off, hka, hbl, hcell⟩ := HKID.out wr hb0 (by omega)
     rw [hka]
     obtain ⟨c0, c1, c2, c3, c4, c5⟩ := hcell j hlt
     clear hcell
     have hlen : (Cnd.aheadK f j (l ++ [(c, d)])).length ≤ 101 := by rw [← HFF.out]; exact Cnd.aheadK_len _ (fun i l h => Cnd.ahead_len _ _ _ h) j _ (by rw [List.length_append]; simp; omega)
     obtain ⟨x, hx⟩ : ∃ x, c.kids j = x := ⟨_, rfl⟩
     have hCALL : ∀ W, Below wr.heap.size wr W → Calls Tryz.prog 24 #[.agg #[.int .i64 x.op, .slice x.ka x.kn x.kc, .string x.text, .int .i64 x.low, .int .i64 x.high, .slice x.aa x.an x.ac], .int .i64 ((d : Int) + 1), u2, u3] W (AheadPost W B (Cnd.aheadK f (j + 1) (l ++ [(c, d)]))) := by
      intro W hW
      have hs := hB.size
      have h1 := HIH.out j (d + 1) (Cnd.aheadK f j (l ++ [(c, d)])) W u2 u3 (HI.out.each j hlt) (HF.out.each j hlt) (hb0.trans (hW.mono hb0.size)) (by omega) hlen (by have := hW.size; omega) (HT.out.below hW)
      rw [hx] at h1
      rw [show ((d + 1 : Nat) : Int) = (d : Int) + 1 by omega] at h1
      rw [Cnd.aheadK, ← HFF.out]
      simp only [hx]
      rw [HFF.out]
      exact h1
     have HCALL := Lib.hid hCALL
     rw [hx] at c0 c1 c2 c3 c4 c5
     have HXX := Lib.hid hx
     clear hCALL hx hlen
     have hBx := below_allocs (Below.refl wr.heap.size wr) (.cells #[.int .i64 x.op, .slice x.ka x.kn x.kc, .string x.text, .int .i64 x.low, .int .i64 x.high, .slice x.aa x.an x.ac] 25)
     have HBX := Lib.hid hBx
     have hsB : B ≤ wr.heap.size := by have := hB.size; omega
     go_wp2_with (go_at_call 24; refine (HCALL.out _ HBX.out).mono ?_; rintro e w7 ⟨v7, u7, rfl, hT7, hB7⟩; have HT7 := Lib.hid hT7; have HB7 := Lib.hid (hB.trans ((HBX.out.mono hsB).trans hB7)); clear hT7 hB7)
     rw [← hka]
     go_roundg (c.kn - (j + 1))
     case rel => exact ⟨j + 1, by omega, rfl, by go_num, HT7.out, HB7.out⟩
     case measure => omega
    ·obtain rfl : j = c.kn := by omega
     go_wp2_with fail
     go_ret2
     exact ⟨_, _, rfl, by rw [HA.out]; exact HT.out, hB⟩
theorem checkCond_is (c : Cnd) (w : World) (hI : c.In w) (hF : c.Fits) : Calls Tryz.prog 8 #[.agg #[.int .i64 c.op, .slice c.ka c.kn c.kc, .string c.text, .int .i64 c.low, .int .i64 c.high, .slice c.aa c.an c.ac]] w fun e w' => e = .returned (.int .i64 c.err) ∧ Below w.heap.size w w' := by
 have hB2 : Below w.heap.size w ((w.alloc (.cells #[.int .i64 c.op, .slice c.ka c.kn c.kc, .string c.text, .int .i64 c.low, .int .i64 c.high, .slice c.aa c.an c.ac] 25)).alloc (.cells #[.int .i64 0] 57)) := below_allocs (below_allocs (Below.refl _ _) _) _
 have hC : Ctr ((w.alloc (.cells #[.int .i64 c.op, .slice c.ka c.kn c.kc, .string c.text, .int .i64 c.low, .int .i64 c.high, .slice c.aa c.an c.ac] 25)).alloc (.cells #[.int .i64 0] 57)) (w.heap.size + 1) 0 := by
  have := Blk.new (w.alloc (.cells #[.int .i64 c.op, .slice c.ka c.kn c.kc, .string c.text, .int .i64 c.low, .int .i64 c.high, .slice c.aa c.an c.ac] 25)) #[.int .i64 0] 57
  simpa [Ctr] using this
 have h := chk_is w c 0 [] _ (w.heap.size + 1) hI hF hB2 (by omega) (by omega) rfl hC
 have HC := Lib.hid h
 have HB := Lib.hid hB2
 clear h hC hB2 hI hF
 go_enter Tryz.func8, Tryz.ntmps8
 go_wp2_with (go_at_call 23; refine HC.out.mono ?_; rintro e w7 ⟨rfl, -, hG⟩; have HG := Lib.hid hG; clear hG)
 go_ret
 exact ⟨rfl, HB.out.trans (below_of_grown HG.out (HB.out.size) (by omega))⟩
def GoodC (w : World) (p : Cnd × Nat) : Prop := p.1.In w ∧ p.1.Fits ∧ p.2 ≤ 13
theorem aheadK_all {w : World} {f : Nat → List (Cnd × Nat) → List (Cnd × Nat)} (k : Nat) (hf : ∀ i l, i < k → (∀ p ∈ l, GoodC w p) → ∀ p ∈ f i l, GoodC w p) : ∀ j, j ≤ k → ∀ l, (∀ p ∈ l, GoodC w p) → ∀ p ∈ Cnd.aheadK f j l, GoodC w p
 | 0, _, l, h => h
 | j + 1, hj, l, h => hf j _ (by omega) (aheadK_all k hf j (by omega) l h)
theorem ahead_all (w : World) : ∀ (c : Cnd), c.In w → c.Fits → ∀ (d : Nat), d ≤ 13 → ∀ l, (∀ p ∈ l, GoodC w p) → ∀ p ∈ Cnd.ahead c d l, GoodC w p := by
 refine Cnd.ind (fun h => absurd rfl h.ne) fun c hne ih hI hF d hd l hl => ?_
 by_cases h1 : 100 < l.length
 ·rw [Cnd.ahead_full hne h1]; exact hl
 ·have hl2 : ∀ p ∈ l ++ [(c, d)], GoodC w p := by
   intro p hp
   rcases List.mem_append.1 hp with h | h
   ·exact hl p h
   ·rw [List.mem_singleton] at h; subst h; exact ⟨hI, hF, hd⟩
  by_cases h2 : 12 < d
  ·rw [Cnd.ahead_deep hne (by omega) h2]; exact hl2
  ·rw [Cnd.ahead_eq hne (by omega) (by omega)]
   exact aheadK_all c.kn (fun i l hi hl => ih i (hI.each i hi) (hF.each i hi) (d + 1) (by omega) l hl) c.kn (Nat.le_refl _) _ hl2
theorem flat_get : ∀ (L : List (Cnd × Nat)), (∀ p ∈ L, p.1.cells.length = 6) → ∀ (j : Nat) (p : Cnd × Nat) (k : Nat), L[j]? = some p → k < 6 → (flatC L)[j * 6 + k]? = p.1.cells[k]?
 | [], _, j, p, k, h, _ => by simp at h
 | q :: L, hL, j, p, k, h, hk => by
   have h6 := hL q (List.mem_cons_self ..)
   have e : flatC (q :: L) = q.1.cells ++ flatC L := rfl
   rw [e]
   cases j with
   | zero =>
     simp at h; subst h
     rw [Nat.zero_mul, Nat.zero_add, List.getElem?_append_left (by omega)]
   | succ j =>
     rw [List.getElem?_append_right (by rw [h6]; omega), h6, show (j + 1) * 6 + k - 6 = j * 6 + k by omega]
     exact flat_get L (fun p hp => hL p (List.mem_cons_of_mem _ hp)) j p k (by simpa using h) hk
theorem own_some {w : World} {B : Nat} {e : TypeId} {k : Nat} {v : Value} {n : Nat} {xs : List Value} (h : w.ownsRow B e k v n xs) (hn : 0 < n) : ∃ g cap, v = .slice (some ⟨g, 0, none⟩) n cap := by
 rcases h.2 with ⟨rfl, rfl⟩ | ⟨g, cap, cur, rfl, _⟩
 ·omega
 ·exact ⟨_, _, rfl⟩
theorem ahead_pos {c : Cnd} (hne : c ≠ .zero) : 0 < (Cnd.ahead c 0 []).length := by
 rw [Cnd.ahead_eq hne (by simp) (by omega)]
 obtain ⟨m, hm⟩ := Cnd.aheadK_pre (f := fun i => Cnd.ahead (c.kids i) (0 + 1)) (fun i l => Cnd.ahead_pre _ _ _) c.kn ([] ++ [(c, 0)])
 rw [hm]; simp
theorem errL_here {L : List (Cnd × Nat)} {j : Nat} {q : Int} {p : Cnd × Nat} (h : Cnd.errL j (L.drop j) = q) (hp : L[j]? = some p) (e : Int) (he : Cnd.errAt j p = e) (h0 : e ≠ 0) : e = q := by
 obtain ⟨hlt, hg⟩ := List.getElem?_eq_some_iff.1 hp
 rw [List.drop_eq_getElem_cons hlt, hg, Cnd.errL, he, if_neg h0] at h
 exact h
theorem errL_next {L : List (Cnd × Nat)} {j : Nat} {q : Int} {p : Cnd × Nat} (h : Cnd.errL j (L.drop j) = q) (hp : L[j]? = some p) (he : Cnd.errAt j p = 0) : Cnd.errL (j + 1) (L.drop (j + 1)) = q := by
 obtain ⟨hlt, hg⟩ := List.getElem?_eq_some_iff.1 hp
 rw [List.drop_eq_getElem_cons hlt, hg, Cnd.errL, if_pos he] at h
 exact h
theorem condError_is (c : Cnd) (w : World) (hI : c.In w) (hF : c.Fits) : Calls Tryz.prog 9 #[.agg #[.int .i64 c.op, .slice c.ka c.kn c.kc, .string c.text, .int .i64 c.low, .int .i64 c.high, .slice c.aa c.an c.ac]] w fun e w' => e = .returned (.int .i64 c.err) ∧ Below w.heap.size w w' := by
 have hne := hI.ne
 have hpos := ahead_pos hne
 have hall := ahead_all w c hI hF 0 (by omega) [] (fun p hp => by cases hp)
 have hlen := Cnd.ahead_len c 0 [] (by simp)
 obtain ⟨q, hq⟩ : ∃ q, c.err = q := ⟨_, rfl⟩
 rw [hq]
 unfold Cnd.err at hq
 have hA := ahead_is w w.heap.size (Nat.le_refl _) c 0 [] (w.alloc (.cells #[.int .i64 c.op, .slice c.ka c.kn c.kc, .string c.text, .int .i64 c.low, .int .i64 c.high, .slice c.aa c.an c.ac] 25)) (.slice none 0 0) (.slice none 0 0) hI hF (below_allocs (Below.refl _ _) _) (by omega) (by simp) (by simp) ⟨World.ownsRow_nil _ _ _ _, World.ownsRow_nil _ _ _ _⟩
 rw [show ((0 : Nat) : Int) = 0 from rfl] at hA
 have hB1 := below_allocs (Below.refl w.heap.size w) (.cells #[.int .i64 c.op, .slice c.ka c.kn c.kc, .string c.text, .int .i64 c.low, .int .i64 c.high, .slice c.aa c.an c.ac] 25)
 generalize Cnd.ahead c 0 [] = L at *
 have HA := Lib.hid hA; have HQ := Lib.hid hq; have HALL := Lib.hid hall; have HB1 := Lib.hid hB1
 clear hA hq hall hI hF hne hB1
 go_enter Tryz.func9, Tryz.ntmps9
 go_wp2_with (go_at_call 24; refine HA.out.mono ?_; rintro e w3 ⟨v, u, rfl, hT, hB⟩; obtain ⟨g, cap, rfl⟩ := own_some hT.rows hpos; obtain ⟨g2, cap2, rfl⟩ := own_some hT.deps hpos; have HT := Lib.hid hT; have HB3 := Lib.hid (HB1.out.trans hB); clear hT hB)
 go_loopg [15] L.length (fun gk i wr => ∃ j : Nat, j ≤ L.length ∧ gk = L.length - j ∧ i = .int .i64 j ∧ Cnd.errL j (L.drop j) = q ∧ Below w3.heap.size w3 wr)
 case atStart => exact ⟨0, by omega, rfl, rfl, by rw [List.drop_zero]; exact HQ.out, Below.refl _ _⟩
 case round =>
  obtain ⟨j, hj, rfl, rfl, hsc, hB⟩ := hrel
  have HSC := Lib.hid hsc; clear hsc
  by_cases hlt : j < L.length
  ·obtain ⟨p, hp⟩ : ∃ p, L[j]? = some p := ⟨_, List.getElem?_eq_getElem hlt⟩
   have hgood := HALL.out p (List.mem_of_getElem? hp)
   obtain ⟨x, dd⟩ := p
   have hxI : x.In w := hgood.1
   have hxF : x.Fits := hgood.2.1
   have hcx := hxI.cells
   have h6 : ∀ p ∈ L, p.1.cells.length = 6 := fun p hp => by rw [(HALL.out p hp).1.cells]; rfl
   have hg3 := (HT.out.rows.lt g rfl).2
   have hg4 := (HT.out.deps.lt g2 rfl).2
   have hcell : ∀ k v, k < 6 → x.cells[k]? = some v → wr.cell? ⟨g, j * 6 + k, none⟩ = some v := by
    intro k v hk hv
    rw [hB.cell (p := ⟨g, j * 6 + k, none⟩) hg3, HT.out.rows.cellAt (j * 6 + k) (by omega), flat_get L h6 j _ k hp hk]
    exact hv
   have c0 := hcell 0 (.int .i64 x.op) (by omega) (by rw [hcx]; rfl)
   have c1 := hcell 1 (.slice x.ka x.kn x.kc) (by omega) (by rw [hcx]; rfl)
   have c2 := hcell 2 (.string x.text) (by omega) (by rw [hcx]; rfl)
   have c3 := hcell 3 (.int .i64 x.low) (by omega) (by rw [hcx]; rfl)
   have c4 := hcell 4 (.int .i64 x.high) (by omega) (by rw [hcx]; rfl)
   have c5 := hcell 5 (.slice x.aa x.an x.ac) (by omega) (by rw [hcx]; rfl)
   rw [Nat.add_zero] at c0
   have cd : wr.cell? ⟨g2, j, none⟩ = some (.int .i64 (dd : Int)) := by
    rw [hB.cell (p := ⟨g2, j, none⟩) hg4, HT.out.deps.cellAt j (by omega)]
    unfold depsC
    rw [List.getElem?_map, hp]; rfl
   have hg5 : g2 < wr.heap.size := Nat.lt_of_lt_of_le hg4 hB.size
   have hbb : Below w.heap.size w wr := HB3.out.trans (hB.mono HB3.out.size)
   have HBB := Lib.hid hbb
   have HP := Lib.hid hp
   have HXN := Lib.hid (Cnd.bare_eq hxI.ne)
   have hBx := below_allocs hB (.cells #[.int .i64 x.op, .slice x.ka x.kn x.kc, .string x.text, .int .i64 x.low, .int .i64 x.high, .slice x.aa x.an x.ac] 25)
   have HBX := Lib.hid hBx
   clear hcell h6 hgood hcx hp hbb hg3 hBx
   obtain ⟨bv, hbv⟩ : ∃ bv, Cnd.bareE x.op x.kn x.text x.low x.high x.an x.lat x.lon = bv := ⟨_, rfl⟩
   have HBV := Lib.hid hbv
   have HCB := Lib.hid (condBare_is x.op x.ka x.kn x.kc x.text x.low x.high x.aa x.an x.ac x.lat x.lon (wr.alloc (.cells #[.int .i64 x.op, .slice x.ka x.kn x.kc, .string x.text, .int .i64 x.low, .int .i64 x.high, .slice x.aa x.an x.ac] 25)) hxF.size.1 hxF.size.2.1 hxF.size.2.2 (Cnd.In.keep (HBB.out.trans ((below_allocs (Below.refl _ _) _).mono HBB.out.size)) hxI).row bv hbv)
   clear hxI hxF hbv
   have hj0 : (0 : Int) ≤ (j : Int) := by omega
   have hj1 : (j : Int) < (L.length : Int) := by omega
   by_cases h100 : 100 ≤ j
   ·have h100' : (100 : Int) ≤ (j : Int) := by omega
    have HE := Lib.hid (errL_here HSC.out HP.out 4 (if_pos (.inl h100)) (by decide))
    clear h100
    go_wp2_with fail
    go_ret
    exact ⟨ret_int HE.out, HBB.out.trans ((below_allocs (Below.refl _ _) _).mono HBB.out.size)⟩
   ·have h100' : ¬ (100 : Int) ≤ (j : Int) := by omega
    by_cases h12 : 12 < dd
    ·have h12' : (12 : Int) < (dd : Int) := by omega
     have HE := Lib.hid (errL_here HSC.out HP.out 4 (if_pos (.inr h12)) (by decide))
     clear h100 h12
     go_wp2_with fail
     go_ret
     exact ⟨ret_int HE.out, HBB.out.trans ((below_allocs (Below.refl _ _) _).mono HBB.out.size)⟩
    ·have h12' : ¬ (12 : Int) < (dd : Int) := by omega
     have HAT : Hid (Cnd.errAt j (x, dd) = bv) := Lib.hid (by rw [← HBV.out, ← HXN.out]; exact if_neg (by rintro (h | h); exact h100 h; exact h12 h))
     clear h100 h12
     by_cases hb0 : bv = 0
     ·have HE := Lib.hid (errL_next HSC.out HP.out (HAT.out.trans hb0))
      subst hb0
      go_wp2_with (go_at_call 25; refine HCB.out.mono ?_; rintro e w5 ⟨rfl, hB5⟩)
      go_roundg (L.length - (j + 1))
      case rel => exact ⟨j + 1, by omega, rfl, by go_num, HE.out, below_up HBX.out hB5⟩
      case measure => omega
     ·have hb1 : (bv != 0) = true := by simpa using hb0
      have HE := Lib.hid (errL_here HSC.out HP.out bv HAT.out hb0)
      clear hb0
      go_wp2_with (go_at_call 25; refine HCB.out.mono ?_; rintro e w5 ⟨rfl, hB5⟩)
      go_ret
      exact ⟨ret_int HE.out, HB3.out.trans ((below_up HBX.out hB5).mono HB3.out.size)⟩
  ·obtain rfl : j = L.length := by omega
   have HE : Hid ((0 : Int) = q) := Lib.hid (by have h := HSC.out; rw [List.drop_length] at h; exact h)
   go_wp2_with fail
   go_ret
   exact ⟨ret_int HE.out, HB3.out.trans (hB.mono HB3.out.size)⟩
end Go.Proofs.YtimjmjmpaicdbaaGreatDoor
