/- Parts of the proof, no condition: PgLaw. -/
import Derived.Test.YtimjmjmpaicdbaaGreatDoorPk9
import Derived.Test.YtimjmjmpaicdbaaGreatDoorPk10
import Derived.Test.YtimjmjmpaicdbaaGreatDoorPk11
import Derived.Sort.Walk0
import Derived.Test.YtimjmjmpaicdbaaGreatDoorPk12
import Derived.Test.YtimjmjmpaicdbaaGreatDoorPk6
import Derived.Test.YtimjmjmpaicdbaaGreatDoorPk13
set_option maxRecDepth 100000
set_option maxHeartbeats 8000000
set_option linter.unusedSimpArgs false
set_option linter.unusedVariables false
namespace Go.Proofs.YtimjmjmpaicdbaaGreatDoor
open Go.RowKit Go.Sort Go.Shelf
namespace Ak
structure Good {α : Type} (f : α → α → Int) : Prop where
 anti : ∀ a b, f b a = - f a b
 tr : ∀ a b c, f a b ≤ 0 → f b c ≤ 0 → f a c ≤ 0
theorem Good.strict {α : Type} {f : α → α → Int} (h : Good f) {a b c : α} (h1 : f a b < 0) (h2 : f b c ≤ 0) : f a c < 0 := by
 rcases Int.lt_or_le (f a c) 0 with g | g
 ·exact g
 ·have e1 : f c a ≤ 0 := by rw [h.anti a c]; omega
  have e2 := h.tr b c a h2 e1
  rw [h.anti a b] at e2; omega
theorem Good.strict2 {α : Type} {f : α → α → Int} (h : Good f) {a b c : α} (h1 : f a b ≤ 0) (h2 : f b c < 0) : f a c < 0 := by
 rcases Int.lt_or_le (f a c) 0 with g | g
 ·exact g
 ·have e1 : f c a ≤ 0 := by rw [h.anti a c]; omega
  have e2 := h.tr c a b e1 h1
  rw [h.anti b c] at e2; omega
def lex {α : Type} (f g : α → α → Int) (a b : α) : Int := if f a b = 0 then g a b else f a b
theorem lex_good {α : Type} {f g : α → α → Int} (hf : Good f) (hg : Good g) : Good (lex f g) := by
 refine ⟨fun a b => ?_, fun a b c h1 h2 => ?_⟩
 ·unfold lex
  rw [hf.anti a b]
  by_cases h : f a b = 0
  ·rw [if_pos (by omega), if_pos h, hg.anti]
  ·rw [if_neg (by omega), if_neg h]
 ·unfold lex at *
  have l1 : f a b ≤ 0 := by split at h1 <;> omega
  have l2 : f b c ≤ 0 := by split at h2 <;> omega
  have l3 := hf.tr a b c l1 l2
  by_cases h : f a c = 0
  ·rw [if_pos h]
   have e1 : f a b = 0 := by
    rcases Int.lt_or_le (f a b) 0 with g' | g'
    ·have := hf.strict g' l2; omega
    ·omega
   have e2 : f b c = 0 := by
    rcases Int.lt_or_le (f b c) 0 with g' | g'
    ·have := hf.strict2 l1 g'; omega
    ·omega
   rw [if_pos e1] at h1
   rw [if_pos e2] at h2
   exact hg.tr a b c h1 h2
  ·rw [if_neg h]; exact l3
theorem neg_good {α : Type} {f : α → α → Int} (hf : Good f) : Good (fun a b => - f a b) := by
 refine ⟨fun a b => by rw [hf.anti a b], fun a b c h1 h2 => ?_⟩
 have e1 : f b a ≤ 0 := by rw [hf.anti a b]; omega
 have e2 : f c b ≤ 0 := by rw [hf.anti b c]; omega
 have := hf.tr c b a e2 e1
 rw [hf.anti a c] at this; omega
theorem pull_good {α β : Type} {f : β → β → Int} (hf : Good f) (k : α → β) : Good (fun a b => f (k a) (k b)) := ⟨fun a b => hf.anti _ _, fun a b c => hf.tr _ _ _⟩
def ci (x y : Int) : Int := if x < y then -1 else if y < x then 1 else 0
theorem ci_good : Good ci := by
 refine ⟨fun a b => ?_, fun a b c h1 h2 => ?_⟩
 ·unfold ci; split <;> split <;> omega
 ·unfold ci at *; split at h1 <;> split at h2 <;> split <;> (try split) <;> omega
def cl (x y : List UInt8) : Int := if x < y then -1 else if x = y then 0 else 1
theorem cl_good : Good cl := by
 have tri : ∀ x y : List UInt8, ¬ x < y → ¬ x = y → y < x := fun x y h g => by
  rcases Classical.em (y < x) with h' | h'
  ·exact h'
  ·exact absurd (List.le_antisymm (List.not_lt.1 h') (List.not_lt.1 h)) g
 have le : ∀ x y, cl x y ≤ 0 → x < y ∨ x = y := fun x y h => by
  unfold cl at h
  split at h
  ·exact .inl ‹_›
  ·split at h
   ·exact .inr ‹_›
   ·omega
 refine ⟨fun a b => ?_, fun a b c h1 h2 => ?_⟩
 ·unfold cl
  by_cases h : a < b
  ·rw [if_pos h, if_neg (List.lt_asymm h), if_neg (fun e => by subst e; exact List.lt_irrefl _ h)]; rfl
  ·by_cases e : a = b
   ·subst e; rw [if_neg h, if_pos rfl]; rfl
   ·rw [if_neg h, if_neg e, if_pos (tri a b h e)]
 ·have : a < c ∨ a = c := by
   rcases le a b h1 with h1 | rfl
   ·rcases le b c h2 with h2 | rfl
    ·exact .inl (List.lt_trans h1 h2)
    ·exact .inl h1
   ·exact le a c h2
  unfold cl
  rcases this with h | rfl
  ·rw [if_pos h]; decide
  ·rw [if_neg (List.lt_irrefl _), if_pos rfl]; exact Int.le_refl 0
def cs (x y : ByteArray) : Int := cl x.toList y.toList
structure Srt where
 by_ : Int
 down : Bool
def raw (k : Int) (a b : Ph) : Int := if k = 1 then ci a.id b.id else if k = 2 then ci a.mom b.mom else if k = 3 then ci a.stars b.stars else if k = 4 then ci (a.W * a.H) (b.W * b.H) else if k = 5 then cs a.cap b.cap else 0
def dir (down : Bool) (n : Int) : Int := if down = true then - n else n
def one (s : Srt) (a b : Ph) : Int := if s.by_ = 2 ∧ decide (a.mom < 0) ≠ decide (b.mom < 0) then ci b.mom a.mom else dir s.down (raw s.by_ a b)
def many : List Srt → Ph → Ph → Int
 | [] => fun a b => ci a.id b.id
 | s :: r => lex (one s) (many r)
theorem zero_good : Good (fun (_ _ : Ph) => 0) := ⟨fun _ _ => rfl, fun _ _ _ _ _ => Int.le_refl 0⟩
theorem raw_good (k : Int) : Good (raw k) := by
 by_cases h1 : k = 1
 ·subst h1; exact pull_good ci_good Ph.id
 by_cases h2 : k = 2
 ·subst h2; exact pull_good ci_good Ph.mom
 by_cases h3 : k = 3
 ·subst h3; exact pull_good ci_good Ph.stars
 by_cases h4 : k = 4
 ·subst h4; exact pull_good ci_good (fun a : Ph => a.W * a.H)
 by_cases h5 : k = 5
 ·subst h5; exact pull_good (pull_good cl_good ByteArray.toList) Ph.cap
 have : raw k = fun _ _ => 0 := by
  funext a b; unfold raw; rw [if_neg h1, if_neg h2, if_neg h3, if_neg h4, if_neg h5]
 rw [this]; exact zero_good
theorem dir_good {f : Ph → Ph → Int} (h : Good f) (d : Bool) : Good (fun a b => dir d (f a b)) := by
 cases d
 ·exact h
 ·exact neg_good h
theorem one_good (s : Srt) : Good (one s) := by
 by_cases h : s.by_ = 2
 ·have e : one s = lex (fun a b => ci (if a.mom < 0 then 1 else 0) (if b.mom < 0 then 1 else 0)) (fun a b => dir s.down (raw s.by_ a b)) := by
   funext a b
   unfold one lex
   by_cases ha : a.mom < 0 <;> by_cases hb : b.mom < 0
   ·rw [if_neg (by simp [ha, hb]), if_pos (by simp [ha, hb, ci])]
   ·rw [if_pos ⟨h, by simp [ha, hb]⟩, if_neg (by simp [ha, hb, ci])]
    simp only [ha, hb, if_true, if_false]; unfold ci; rw [if_neg (by omega), if_pos (by omega)]; rfl
   ·rw [if_pos ⟨h, by simp [ha, hb]⟩, if_neg (by simp [ha, hb, ci])]
    simp only [ha, hb, if_true, if_false]; unfold ci; rw [if_pos (by omega)]; rfl
   ·rw [if_neg (by simp [ha, hb]), if_pos (by simp [ha, hb, ci])]
  rw [e]
  exact lex_good (pull_good ci_good (fun a : Ph => if a.mom < 0 then (1 : Int) else 0)) (dir_good (raw_good _) _)
 ·have e : one s = fun a b => dir s.down (raw s.by_ a b) := by
   funext a b; unfold one; rw [if_neg (fun g => h g.1)]
  rw [e]; exact dir_good (raw_good _) _
theorem many_good : ∀ l, Good (many l)
 | [] => pull_good ci_good Ph.id
 | s :: r => lex_good (one_good s) (many_good r)
theorem many_zero : ∀ (l : List Srt) (a b : Ph), many l a b = 0 → a.id = b.id
 | [], a, b, h => by
   have h : ci a.id b.id = 0 := h
   unfold ci at h; split at h <;> (try split at h) <;> omega
 | s :: r, a, b, h => by
   have h : lex (one s) (many r) a b = 0 := h
   unfold lex at h
   split at h
   ·exact many_zero r a b h
   ·exact absurd h ‹_›
def lt (l : List Srt) (a b : Ph) : Prop := many l a b < 0
def neg (l : List Srt) (a b : Ph) : Bool := decide (many l a b < 0)
theorem lt_ord (l : List Srt) : Stb.Ord (lt l) := by
 refine ⟨fun x y z h g => (many_good l).strict h (Int.le_of_lt g), fun x y h g => ?_⟩
 have e := (many_good l).anti x y
 unfold lt at h g; omega
theorem fit_of (l : List Srt) {x y : Ph} (h : x.id ≠ y.id) : Stb.Fit (lt l) (neg l) x y := by
 refine ⟨fun g => (of_decide_eq_true g : many l y x < 0), fun g => ?_⟩
 have g : ¬ many l y x < 0 := of_decide_eq_false g
 have e := (many_good l).anti x y
 have z : many l x y ≠ 0 := fun z => h (many_zero l x y z)
 unfold lt; omega
end Ak
theorem nanI_is (x : Int) (w : World) : Calls Tryz.prog 88 #[.int .i64 x] w fun e w' => e = .returned (.bool false) ∧ w = w' := by
 go_enter Tryz.func88, Tryz.ntmps88
 go_wp2
 go_ret
 exact ⟨by simp, rfl⟩
theorem nanStr_is (x : ByteArray) (w : World) : Calls Tryz.prog 89 #[.string x] w fun e w' => e = .returned (.bool false) ∧ w = w' := by
 go_enter Tryz.func89, Tryz.ntmps89
 go_wp2
 go_ret
 exact ⟨by simp, rfl⟩
theorem cmpI_is (x y : Int) (w : World) : Calls Tryz.prog 45 #[.int .i64 x, .int .i64 y] w fun e w' => e = .returned (.int .i64 (Ak.ci x y)) ∧ w = w' := by
 unfold Ak.ci
 by_cases h : x < y
 ·rw [if_pos h]
  go_enter Tryz.func45, Tryz.ntmps45
  go_wp2_with (go_at_call 88; refine (nanI_is _ _).mono ?_; rintro e w' ⟨rfl, rfl⟩)
  go_ret
  exact ⟨rfl, rfl⟩
 ·rw [if_neg h]
  by_cases g : y < x
  ·rw [if_pos g]
   go_enter Tryz.func45, Tryz.ntmps45
   go_wp2_with (go_at_call 88; refine (nanI_is _ _).mono ?_; rintro e w' ⟨rfl, rfl⟩)
   go_ret
   exact ⟨rfl, rfl⟩
  ·rw [if_neg g]
   go_enter Tryz.func45, Tryz.ntmps45
   go_wp2_with (go_at_call 88; refine (nanI_is _ _).mono ?_; rintro e w' ⟨rfl, rfl⟩)
   go_ret
   exact ⟨rfl, rfl⟩
theorem cmpS_is (x y : ByteArray) (w : World) : Calls Tryz.prog 46 #[.string x, .string y] w fun e w' => e = .returned (.int .i64 (Ak.cs x y)) ∧ w = w' := by
 unfold Ak.cs Ak.cl
 by_cases h : x.toList < y.toList
 ·rw [if_pos h]
  have hb : Op.bytesLess x.toList y.toList = true := by rw [bytesLess_eq]; exact decide_eq_true h
  clear h
  go_enter Tryz.func46, Tryz.ntmps46
  go_wp2_with (go_at_call 89; refine (nanStr_is _ _).mono ?_; rintro e w' ⟨rfl, rfl⟩)
  go_ret
  exact ⟨rfl, rfl⟩
 ·rw [if_neg h]
  have hb : Op.bytesLess x.toList y.toList = false := by rw [bytesLess_eq]; exact decide_eq_false h
  clear h
  by_cases g : x.toList = y.toList
  ·rw [if_pos g]
   have hg : (x.toList == y.toList) = true := by simpa using g
   clear g
   go_enter Tryz.func46, Tryz.ntmps46
   go_wp2_with (go_at_call 89; refine (nanStr_is _ _).mono ?_; rintro e w' ⟨rfl, rfl⟩)
   go_ret
   exact ⟨rfl, rfl⟩
  ·rw [if_neg g]
   have hg : (x.toList == y.toList) = false := by simpa using g
   clear g
   go_enter Tryz.func46, Tryz.ntmps46
   go_wp2_with (go_at_call 89; refine (nanStr_is _ _).mono ?_; rintro e w' ⟨rfl, rfl⟩)
   go_ret
   exact ⟨rfl, rfl⟩
theorem ci_wf (x y : Int) : -1 ≤ Ak.ci x y ∧ Ak.ci x y ≤ 1 := by unfold Ak.ci; split <;> (try split) <;> omega
theorem cs_wf (x y : ByteArray) : -1 ≤ Ak.cs x y ∧ Ak.cs x y ≤ 1 := by unfold Ak.cs Ak.cl; split <;> (try split) <;> omega
def Ak.Dom (p : Ph) : Prop := (1 ≤ p.W ∧ p.W ≤ 100000) ∧ (1 ≤ p.H ∧ p.H ≤ 100000)

theorem compare_1 (d : Bool) (p r : Ph)  (w : World) : Calls Tryz.prog 80 #[.agg #[.int .i64 1, .bool d], .agg #[.int .i64 p.id, .string p.file, .int .i64 p.mom, .int .i64 p.zone, .slice p.wa p.wn p.wc, .int .i64 p.W, .int .i64 p.H, .int .i64 p.turn, .int .i64 p.stars, .slice p.ta p.tn p.tc, .string p.cap, .slice p.pa p.pn p.pc, .bool p.hid], .agg #[.int .i64 r.id, .string r.file, .int .i64 r.mom, .int .i64 r.zone, .slice r.wa r.wn r.wc, .int .i64 r.W, .int .i64 r.H, .int .i64 r.turn, .int .i64 r.stars, .slice r.ta r.tn r.tc, .string r.cap, .slice r.pa r.pn r.pc, .bool r.hid]] w fun e w' => e = .returned (.int .i64 (Ak.dir d (Ak.ci p.id r.id))) ∧ Below w.heap.size w w' := by
 obtain ⟨W1, hW1, hS, hz1, hB1⟩ := box w #[.int .i64 1, .bool d] 70
 obtain ⟨W2, hW2, hA, hz2, hB2⟩ := bxP W1 p
 obtain ⟨W3, hW3, hR, hz3, hB3⟩ := bxP W2 r
 have HW1 := Lib.hid hW1; have HW2 := Lib.hid hW2; have HW3 := Lib.hid hW3
 rw [hz1] at hA hz2
 rw [hz2] at hR
 have hB23 := below_up hB2 hB3
 have hB := below_up hB1 hB23
 obtain ⟨s0, s1⟩ := (hS.keep hB23).two
 obtain ⟨p0, p1, p2, p3, p4, p5, p6, p7, p8, p9, p10, p11, p12⟩ := (hA.keep hB3).photo
 obtain ⟨r0, r1, r2, r3, r4, r5, r6, r7, r8, r9, r10, r11, r12⟩ := hR.photo
 clear hW1 hW2 hW3 hz1 hz2 hz3
 have hw := ci_wf p.id r.id
 obtain ⟨q, hq⟩ : ∃ q, Ak.ci p.id r.id = q := ⟨_, rfl⟩
 have HQ := Lib.hid hq
 rw [hq] at hw ⊢
 have hwn : IntKind.i64.wrap (-q) = -q := by rw [IntKind.wrap_i64]; omega
 clear hq
 cases d
 ·rw [show Ak.dir false q = q from rfl]
  go_enter Tryz.func80, Tryz.ntmps80
  go_upto_region 1 with fail
  rw [HW1.out, HW2.out, HW3.out]
  go_wp2_with (first
   | (go_at_call 45; refine (cmpI_is _ _ _).mono ?_; rintro e w' ⟨rfl, rfl⟩; rw [HQ.out])
   | (go_at_call 46; refine (cmpS_is _ _ _).mono ?_; rintro e w' ⟨rfl, rfl⟩; rw [HQ.out]))
  go_ret
  exact ⟨rfl, hB⟩
 ·rw [show Ak.dir true q = -q from rfl]
  go_enter Tryz.func80, Tryz.ntmps80
  go_upto_region 1 with fail
  rw [HW1.out, HW2.out, HW3.out]
  go_wp2_with (first
   | (go_at_call 45; refine (cmpI_is _ _ _).mono ?_; rintro e w' ⟨rfl, rfl⟩; rw [HQ.out])
   | (go_at_call 46; refine (cmpS_is _ _ _).mono ?_; rintro e w' ⟨rfl, rfl⟩; rw [HQ.out]))
  go_ret
  exact ⟨rfl, hB⟩

theorem compare_3 (d : Bool) (p r : Ph)  (w : World) : Calls Tryz.prog 80 #[.agg #[.int .i64 3, .bool d], .agg #[.int .i64 p.id, .string p.file, .int .i64 p.mom, .int .i64 p.zone, .slice p.wa p.wn p.wc, .int .i64 p.W, .int .i64 p.H, .int .i64 p.turn, .int .i64 p.stars, .slice p.ta p.tn p.tc, .string p.cap, .slice p.pa p.pn p.pc, .bool p.hid], .agg #[.int .i64 r.id, .string r.file, .int .i64 r.mom, .int .i64 r.zone, .slice r.wa r.wn r.wc, .int .i64 r.W, .int .i64 r.H, .int .i64 r.turn, .int .i64 r.stars, .slice r.ta r.tn r.tc, .string r.cap, .slice r.pa r.pn r.pc, .bool r.hid]] w fun e w' => e = .returned (.int .i64 (Ak.dir d (Ak.ci p.stars r.stars))) ∧ Below w.heap.size w w' := by
 obtain ⟨W1, hW1, hS, hz1, hB1⟩ := box w #[.int .i64 3, .bool d] 70
 obtain ⟨W2, hW2, hA, hz2, hB2⟩ := bxP W1 p
 obtain ⟨W3, hW3, hR, hz3, hB3⟩ := bxP W2 r
 have HW1 := Lib.hid hW1; have HW2 := Lib.hid hW2; have HW3 := Lib.hid hW3
 rw [hz1] at hA hz2
 rw [hz2] at hR
 have hB23 := below_up hB2 hB3
 have hB := below_up hB1 hB23
 obtain ⟨s0, s1⟩ := (hS.keep hB23).two
 obtain ⟨p0, p1, p2, p3, p4, p5, p6, p7, p8, p9, p10, p11, p12⟩ := (hA.keep hB3).photo
 obtain ⟨r0, r1, r2, r3, r4, r5, r6, r7, r8, r9, r10, r11, r12⟩ := hR.photo
 clear hW1 hW2 hW3 hz1 hz2 hz3
 have hw := ci_wf p.stars r.stars
 obtain ⟨q, hq⟩ : ∃ q, Ak.ci p.stars r.stars = q := ⟨_, rfl⟩
 have HQ := Lib.hid hq
 rw [hq] at hw ⊢
 have hwn : IntKind.i64.wrap (-q) = -q := by rw [IntKind.wrap_i64]; omega
 clear hq
 cases d
 ·rw [show Ak.dir false q = q from rfl]
  go_enter Tryz.func80, Tryz.ntmps80
  go_upto_region 1 with fail
  rw [HW1.out, HW2.out, HW3.out]
  go_wp2_with (first
   | (go_at_call 45; refine (cmpI_is _ _ _).mono ?_; rintro e w' ⟨rfl, rfl⟩; rw [HQ.out])
   | (go_at_call 46; refine (cmpS_is _ _ _).mono ?_; rintro e w' ⟨rfl, rfl⟩; rw [HQ.out]))
  go_ret
  exact ⟨rfl, hB⟩
 ·rw [show Ak.dir true q = -q from rfl]
  go_enter Tryz.func80, Tryz.ntmps80
  go_upto_region 1 with fail
  rw [HW1.out, HW2.out, HW3.out]
  go_wp2_with (first
   | (go_at_call 45; refine (cmpI_is _ _ _).mono ?_; rintro e w' ⟨rfl, rfl⟩; rw [HQ.out])
   | (go_at_call 46; refine (cmpS_is _ _ _).mono ?_; rintro e w' ⟨rfl, rfl⟩; rw [HQ.out]))
  go_ret
  exact ⟨rfl, hB⟩

theorem compare_5 (d : Bool) (p r : Ph)  (w : World) : Calls Tryz.prog 80 #[.agg #[.int .i64 5, .bool d], .agg #[.int .i64 p.id, .string p.file, .int .i64 p.mom, .int .i64 p.zone, .slice p.wa p.wn p.wc, .int .i64 p.W, .int .i64 p.H, .int .i64 p.turn, .int .i64 p.stars, .slice p.ta p.tn p.tc, .string p.cap, .slice p.pa p.pn p.pc, .bool p.hid], .agg #[.int .i64 r.id, .string r.file, .int .i64 r.mom, .int .i64 r.zone, .slice r.wa r.wn r.wc, .int .i64 r.W, .int .i64 r.H, .int .i64 r.turn, .int .i64 r.stars, .slice r.ta r.tn r.tc, .string r.cap, .slice r.pa r.pn r.pc, .bool r.hid]] w fun e w' => e = .returned (.int .i64 (Ak.dir d (Ak.cs p.cap r.cap))) ∧ Below w.heap.size w w' := by
 obtain ⟨W1, hW1, hS, hz1, hB1⟩ := box w #[.int .i64 5, .bool d] 70
 obtain ⟨W2, hW2, hA, hz2, hB2⟩ := bxP W1 p
 obtain ⟨W3, hW3, hR, hz3, hB3⟩ := bxP W2 r
 have HW1 := Lib.hid hW1; have HW2 := Lib.hid hW2; have HW3 := Lib.hid hW3
 rw [hz1] at hA hz2
 rw [hz2] at hR
 have hB23 := below_up hB2 hB3
 have hB := below_up hB1 hB23
 obtain ⟨s0, s1⟩ := (hS.keep hB23).two
 obtain ⟨p0, p1, p2, p3, p4, p5, p6, p7, p8, p9, p10, p11, p12⟩ := (hA.keep hB3).photo
 obtain ⟨r0, r1, r2, r3, r4, r5, r6, r7, r8, r9, r10, r11, r12⟩ := hR.photo
 clear hW1 hW2 hW3 hz1 hz2 hz3
 have hw := cs_wf p.cap r.cap
 obtain ⟨q, hq⟩ : ∃ q, Ak.cs p.cap r.cap = q := ⟨_, rfl⟩
 have HQ := Lib.hid hq
 rw [hq] at hw ⊢
 have hwn : IntKind.i64.wrap (-q) = -q := by rw [IntKind.wrap_i64]; omega
 clear hq
 cases d
 ·rw [show Ak.dir false q = q from rfl]
  go_enter Tryz.func80, Tryz.ntmps80
  go_upto_region 1 with fail
  rw [HW1.out, HW2.out, HW3.out]
  go_wp2_with (first
   | (go_at_call 45; refine (cmpI_is _ _ _).mono ?_; rintro e w' ⟨rfl, rfl⟩; rw [HQ.out])
   | (go_at_call 46; refine (cmpS_is _ _ _).mono ?_; rintro e w' ⟨rfl, rfl⟩; rw [HQ.out]))
  go_ret
  exact ⟨rfl, hB⟩
 ·rw [show Ak.dir true q = -q from rfl]
  go_enter Tryz.func80, Tryz.ntmps80
  go_upto_region 1 with fail
  rw [HW1.out, HW2.out, HW3.out]
  go_wp2_with (first
   | (go_at_call 45; refine (cmpI_is _ _ _).mono ?_; rintro e w' ⟨rfl, rfl⟩; rw [HQ.out])
   | (go_at_call 46; refine (cmpS_is _ _ _).mono ?_; rintro e w' ⟨rfl, rfl⟩; rw [HQ.out]))
  go_ret
  exact ⟨rfl, hB⟩
theorem mulWH {a b : Int} (h : 1 ≤ a ∧ a ≤ 100000) (g : 1 ≤ b ∧ b ≤ 100000) : 0 ≤ a * b ∧ a * b ≤ 10000000000 := by
 refine ⟨Int.mul_nonneg (by omega) (by omega), ?_⟩
 have := Int.mul_le_mul h.2 g.2 (by omega) (by omega : (0 : Int) ≤ 100000)
 omega
theorem compare_4 (d : Bool) (p r : Ph) (hp : Ak.Dom p) (hr : Ak.Dom r) (w : World) : Calls Tryz.prog 80 #[.agg #[.int .i64 4, .bool d], .agg #[.int .i64 p.id, .string p.file, .int .i64 p.mom, .int .i64 p.zone, .slice p.wa p.wn p.wc, .int .i64 p.W, .int .i64 p.H, .int .i64 p.turn, .int .i64 p.stars, .slice p.ta p.tn p.tc, .string p.cap, .slice p.pa p.pn p.pc, .bool p.hid], .agg #[.int .i64 r.id, .string r.file, .int .i64 r.mom, .int .i64 r.zone, .slice r.wa r.wn r.wc, .int .i64 r.W, .int .i64 r.H, .int .i64 r.turn, .int .i64 r.stars, .slice r.ta r.tn r.tc, .string r.cap, .slice r.pa r.pn r.pc, .bool r.hid]] w fun e w' => e = .returned (.int .i64 (Ak.dir d (Ak.ci (p.W * p.H) (r.W * r.H)))) ∧ Below w.heap.size w w' := by
 have b1 := mulWH hp.1 hp.2
 have b2 := mulWH hr.1 hr.2
 have e1 : IntKind.i64.wrap (p.W * p.H) = p.W * p.H := by rw [IntKind.wrap_i64]; omega
 have e2 : IntKind.i64.wrap (r.W * r.H) = r.W * r.H := by rw [IntKind.wrap_i64]; omega
 obtain ⟨W1, hW1, hS, hz1, hB1⟩ := box w #[.int .i64 4, .bool d] 70
 obtain ⟨W2, hW2, hA, hz2, hB2⟩ := bxP W1 p
 obtain ⟨W3, hW3, hR, hz3, hB3⟩ := bxP W2 r
 have HW1 := Lib.hid hW1; have HW2 := Lib.hid hW2; have HW3 := Lib.hid hW3
 rw [hz1] at hA hz2
 rw [hz2] at hR
 have hB23 := below_up hB2 hB3
 have hB := below_up hB1 hB23
 obtain ⟨s0, s1⟩ := (hS.keep hB23).two
 obtain ⟨p0, p1, p2, p3, p4, p5, p6, p7, p8, p9, p10, p11, p12⟩ := (hA.keep hB3).photo
 obtain ⟨r0, r1, r2, r3, r4, r5, r6, r7, r8, r9, r10, r11, r12⟩ := hR.photo
 clear hW1 hW2 hW3 hz1 hz2 hz3
 clear b1 b2 hp hr
 have hw := ci_wf (p.W * p.H) (r.W * r.H)
 obtain ⟨q, hq⟩ : ∃ q, Ak.ci (p.W * p.H) (r.W * r.H) = q := ⟨_, rfl⟩
 have HQ := Lib.hid hq
 rw [hq] at hw ⊢
 have hwn : IntKind.i64.wrap (-q) = -q := by rw [IntKind.wrap_i64]; omega
 clear hq
 cases d
 ·rw [show Ak.dir false q = q from rfl]
  go_enter Tryz.func80, Tryz.ntmps80
  go_upto_region 1 with fail
  rw [HW1.out, HW2.out, HW3.out]
  go_wp2_with (first
   | (go_at_call 45; refine (cmpI_is _ _ _).mono ?_; rintro e w' ⟨rfl, rfl⟩; rw [HQ.out])
   | (go_at_call 46; refine (cmpS_is _ _ _).mono ?_; rintro e w' ⟨rfl, rfl⟩; rw [HQ.out]))
  go_ret
  exact ⟨rfl, hB⟩
 ·rw [show Ak.dir true q = -q from rfl]
  go_enter Tryz.func80, Tryz.ntmps80
  go_upto_region 1 with fail
  rw [HW1.out, HW2.out, HW3.out]
  go_wp2_with (first
   | (go_at_call 45; refine (cmpI_is _ _ _).mono ?_; rintro e w' ⟨rfl, rfl⟩; rw [HQ.out])
   | (go_at_call 46; refine (cmpS_is _ _ _).mono ?_; rintro e w' ⟨rfl, rfl⟩; rw [HQ.out]))
  go_ret
  exact ⟨rfl, hB⟩
theorem compare_2 (d : Bool) (p r : Ph) (w : World) : Calls Tryz.prog 80 #[.agg #[.int .i64 2, .bool d], .agg #[.int .i64 p.id, .string p.file, .int .i64 p.mom, .int .i64 p.zone, .slice p.wa p.wn p.wc, .int .i64 p.W, .int .i64 p.H, .int .i64 p.turn, .int .i64 p.stars, .slice p.ta p.tn p.tc, .string p.cap, .slice p.pa p.pn p.pc, .bool p.hid], .agg #[.int .i64 r.id, .string r.file, .int .i64 r.mom, .int .i64 r.zone, .slice r.wa r.wn r.wc, .int .i64 r.W, .int .i64 r.H, .int .i64 r.turn, .int .i64 r.stars, .slice r.ta r.tn r.tc, .string r.cap, .slice r.pa r.pn r.pc, .bool r.hid]] w fun e w' => e = .returned (.int .i64 (Ak.one ⟨2, d⟩ p r)) ∧ Below w.heap.size w w' := by
 obtain ⟨W1, hW1, hS, hz1, hB1⟩ := box w #[.int .i64 2, .bool d] 70
 obtain ⟨W2, hW2, hA, hz2, hB2⟩ := bxP W1 p
 obtain ⟨W3, hW3, hR, hz3, hB3⟩ := bxP W2 r
 have HW1 := Lib.hid hW1; have HW2 := Lib.hid hW2; have HW3 := Lib.hid hW3
 rw [hz1] at hA hz2
 rw [hz2] at hR
 have hB23 := below_up hB2 hB3
 have hB := below_up hB1 hB23
 obtain ⟨s0, s1⟩ := (hS.keep hB23).two
 obtain ⟨p0, p1, p2, p3, p4, p5, p6, p7, p8, p9, p10, p11, p12⟩ := (hA.keep hB3).photo
 obtain ⟨r0, r1, r2, r3, r4, r5, r6, r7, r8, r9, r10, r11, r12⟩ := hR.photo
 clear hW1 hW2 hW3 hz1 hz2 hz3
 by_cases hp : p.mom < 0
 ·by_cases hr : r.mom < 0
  ·have e : Ak.one ⟨2, d⟩ p r = Ak.dir d (Ak.ci p.mom r.mom) := if_neg (by simp [hp, hr])
   rw [e]; clear e
   have hw := ci_wf p.mom r.mom
   obtain ⟨q, hq⟩ : ∃ q, Ak.ci p.mom r.mom = q := ⟨_, rfl⟩
   have HQ := Lib.hid hq
   rw [hq] at hw ⊢
   have hwn : IntKind.i64.wrap (-q) = -q := by rw [IntKind.wrap_i64]; omega
   clear hq
   cases d
   ·rw [show Ak.dir false q = q from rfl]
    go_enter Tryz.func80, Tryz.ntmps80
    go_upto_region 1 with fail
    rw [HW1.out, HW2.out, HW3.out]
    go_wp2_with (first
     | (go_at_call 45; refine (cmpI_is _ _ _).mono ?_; rintro e w' ⟨rfl, rfl⟩; rw [HQ.out])
     | (go_at_call 46; refine (cmpS_is _ _ _).mono ?_; rintro e w' ⟨rfl, rfl⟩; rw [HQ.out]))
    go_ret
    exact ⟨rfl, hB⟩
   ·rw [show Ak.dir true q = -q from rfl]
    go_enter Tryz.func80, Tryz.ntmps80
    go_upto_region 1 with fail
    rw [HW1.out, HW2.out, HW3.out]
    go_wp2_with (first
     | (go_at_call 45; refine (cmpI_is _ _ _).mono ?_; rintro e w' ⟨rfl, rfl⟩; rw [HQ.out])
     | (go_at_call 46; refine (cmpS_is _ _ _).mono ?_; rintro e w' ⟨rfl, rfl⟩; rw [HQ.out]))
    go_ret
    exact ⟨rfl, hB⟩
  ·have e : Ak.one ⟨2, d⟩ p r = Ak.ci r.mom p.mom := if_pos ⟨rfl, by simp [hp, hr]⟩
   rw [e]; clear e
   obtain ⟨q, hq⟩ : ∃ q, Ak.ci r.mom p.mom = q := ⟨_, rfl⟩
   have HQ := Lib.hid hq
   rw [hq]; clear hq
   go_enter Tryz.func80, Tryz.ntmps80
   go_upto_region 1 with fail
   rw [HW1.out, HW2.out, HW3.out]
   go_wp2_with (first
    | (go_at_call 45; refine (cmpI_is _ _ _).mono ?_; rintro e w' ⟨rfl, rfl⟩; rw [HQ.out])
    | (go_at_call 46; refine (cmpS_is _ _ _).mono ?_; rintro e w' ⟨rfl, rfl⟩; rw [HQ.out]))
   go_ret
   exact ⟨rfl, hB⟩
 ·by_cases hr : r.mom < 0
  ·have e : Ak.one ⟨2, d⟩ p r = Ak.ci r.mom p.mom := if_pos ⟨rfl, by simp [hp, hr]⟩
   rw [e]; clear e
   obtain ⟨q, hq⟩ : ∃ q, Ak.ci r.mom p.mom = q := ⟨_, rfl⟩
   have HQ := Lib.hid hq
   rw [hq]; clear hq
   go_enter Tryz.func80, Tryz.ntmps80
   go_upto_region 1 with fail
   rw [HW1.out, HW2.out, HW3.out]
   go_wp2_with (first
    | (go_at_call 45; refine (cmpI_is _ _ _).mono ?_; rintro e w' ⟨rfl, rfl⟩; rw [HQ.out])
    | (go_at_call 46; refine (cmpS_is _ _ _).mono ?_; rintro e w' ⟨rfl, rfl⟩; rw [HQ.out]))
   go_ret
   exact ⟨rfl, hB⟩
  ·have e : Ak.one ⟨2, d⟩ p r = Ak.dir d (Ak.ci p.mom r.mom) := if_neg (by simp [hp, hr])
   rw [e]; clear e
   have hw := ci_wf p.mom r.mom
   obtain ⟨q, hq⟩ : ∃ q, Ak.ci p.mom r.mom = q := ⟨_, rfl⟩
   have HQ := Lib.hid hq
   rw [hq] at hw ⊢
   have hwn : IntKind.i64.wrap (-q) = -q := by rw [IntKind.wrap_i64]; omega
   clear hq
   cases d
   ·rw [show Ak.dir false q = q from rfl]
    go_enter Tryz.func80, Tryz.ntmps80
    go_upto_region 1 with fail
    rw [HW1.out, HW2.out, HW3.out]
    go_wp2_with (first
     | (go_at_call 45; refine (cmpI_is _ _ _).mono ?_; rintro e w' ⟨rfl, rfl⟩; rw [HQ.out])
     | (go_at_call 46; refine (cmpS_is _ _ _).mono ?_; rintro e w' ⟨rfl, rfl⟩; rw [HQ.out]))
    go_ret
    exact ⟨rfl, hB⟩
   ·rw [show Ak.dir true q = -q from rfl]
    go_enter Tryz.func80, Tryz.ntmps80
    go_upto_region 1 with fail
    rw [HW1.out, HW2.out, HW3.out]
    go_wp2_with (first
     | (go_at_call 45; refine (cmpI_is _ _ _).mono ?_; rintro e w' ⟨rfl, rfl⟩; rw [HQ.out])
     | (go_at_call 46; refine (cmpS_is _ _ _).mono ?_; rintro e w' ⟨rfl, rfl⟩; rw [HQ.out]))
    go_ret
    exact ⟨rfl, hB⟩
theorem compare_is (k : Int) (d : Bool) (hk : 1 ≤ k ∧ k ≤ 5) (p r : Ph) (hp : Ak.Dom p) (hr : Ak.Dom r) (w : World) : Calls Tryz.prog 80 #[.agg #[.int .i64 k, .bool d], .agg #[.int .i64 p.id, .string p.file, .int .i64 p.mom, .int .i64 p.zone, .slice p.wa p.wn p.wc, .int .i64 p.W, .int .i64 p.H, .int .i64 p.turn, .int .i64 p.stars, .slice p.ta p.tn p.tc, .string p.cap, .slice p.pa p.pn p.pc, .bool p.hid], .agg #[.int .i64 r.id, .string r.file, .int .i64 r.mom, .int .i64 r.zone, .slice r.wa r.wn r.wc, .int .i64 r.W, .int .i64 r.H, .int .i64 r.turn, .int .i64 r.stars, .slice r.ta r.tn r.tc, .string r.cap, .slice r.pa r.pn r.pc, .bool r.hid]] w fun e w' => e = .returned (.int .i64 (Ak.one ⟨k, d⟩ p r)) ∧ Below w.heap.size w w' := by
 have : k = 1 ∨ k = 2 ∨ k = 3 ∨ k = 4 ∨ k = 5 := by omega
 have hn : ∀ k : Int, k ≠ 2 → Ak.one ⟨k, d⟩ p r = Ak.dir d (Ak.raw k p r) := fun k h => if_neg fun g => h g.1
 rcases this with rfl | rfl | rfl | rfl | rfl
 ·rw [hn 1 (by omega)]; exact compare_1 d p r w
 ·exact compare_2 d p r w
 ·rw [hn 3 (by omega)]; exact compare_3 d p r w
 ·rw [hn 4 (by omega)]; exact compare_4 d p r hp hr w
 ·rw [hn 5 (by omega)]; exact compare_5 d p r w
def Ak.eS : Enc Ak.Srt := ⟨2, fun s => [.int .i64 s.by_, .bool s.down], fun _ => rfl, fun s u h => by simp only [List.mem_cons, List.not_mem_nil, or_false] at h; rcases h with rfl | rfl <;> rfl⟩
structure Ak.Sorts (V : World) (qb : Nat) (sa : Option Addr) (sc : Nat) (l : List Ak.Srt) : Prop where
 cell : V.cell? ⟨qb, 6, none⟩ = some (.slice sa l.length sc)
 row : RowE Ak.eS V sa l
theorem Ak.Sorts.keep {V V' : World} {qb : Nat} {sa : Option Addr} {sc : Nat} {l : List Ak.Srt} (h : Ak.Sorts V qb sa sc l) (hb : Below V.heap.size V V') : Ak.Sorts V' qb sa sc l :=
 ⟨(hb.cell (World.block_lt_of_cell? V _ h.cell)).trans h.cell, h.row.keep hb⟩
theorem Ak.many_step {l : List Ak.Srt} {j : Nat} {s : Ak.Srt} {p r : Ph} {q : Int} (h : Ak.many (l.drop j) p r = q) (hs : l[j]? = some s) : (Ak.one s p r = 0 → Ak.many (l.drop (j + 1)) p r = q) ∧ (Ak.one s p r ≠ 0 → Ak.one s p r = q) := by
 obtain ⟨hlt, hg⟩ := List.getElem?_eq_some_iff.1 hs
 rw [List.drop_eq_getElem_cons hlt, hg] at h
 have h : Ak.lex (Ak.one s) (Ak.many (l.drop (j + 1))) p r = q := h
 unfold Ak.lex at h
 exact ⟨fun e => by rwa [if_pos e] at h, fun e => by rwa [if_neg e] at h⟩
theorem askCmp_is (l : List Ak.Srt) (hk : ∀ s, s ∈ l → 1 ≤ s.by_ ∧ s.by_ ≤ 5) (hl : l.length ≤ 1000000) (p r : Ph) (hp : Ak.Dom p) (hr : Ak.Dom r) (qb : Nat) (sa : Option Addr) (sc : Nat) (w : World) (hq : Ak.Sorts w qb sa sc l) :
  Calls Tryz.prog 79 #[.agg #[.int .i64 p.id, .string p.file, .int .i64 p.mom, .int .i64 p.zone, .slice p.wa p.wn p.wc, .int .i64 p.W, .int .i64 p.H, .int .i64 p.turn, .int .i64 p.stars, .slice p.ta p.tn p.tc, .string p.cap, .slice p.pa p.pn p.pc, .bool p.hid], .agg #[.int .i64 r.id, .string r.file, .int .i64 r.mom, .int .i64 r.zone, .slice r.wa r.wn r.wc, .int .i64 r.W, .int .i64 r.H, .int .i64 r.turn, .int .i64 r.stars, .slice r.ta r.tn r.tc, .string r.cap, .slice r.pa r.pn r.pc, .bool r.hid], .pointer (some ⟨qb, 0, none⟩)] w fun e w' => e = .returned (.int .i64 (Ak.many l p r)) ∧ Below w.heap.size w w' := by
 obtain ⟨W1, hW1, hA, hz1, hB1⟩ := bxP w p
 obtain ⟨W2, hW2, hR, hz2, hB2⟩ := bxP W1 r
 have HW1 := Lib.hid hW1; have HW2 := Lib.hid hW2
 rw [hz1] at hR
 have hB := below_up hB1 hB2
 have HA := Lib.hid (hA.keep hB2); have HR := Lib.hid hR
 have HQ2 := Lib.hid (hq.keep hB)
 have c6 := (hq.keep hB).cell
 have HB := Lib.hid hB
 obtain ⟨n, hn⟩ : ∃ n, l.length = n := ⟨_, rfl⟩
 rw [hn] at c6 hl
 have HN := Lib.hid hn
 obtain ⟨q, hqq⟩ : ∃ q, Ak.many l p r = q := ⟨_, rfl⟩
 have HQQ := Lib.hid hqq
 rw [hqq]
 have HK := Lib.hid hk
 have HC := Lib.hid (fun (k : Int) (d : Bool) (h : 1 ≤ k ∧ k ≤ 5) (V : World) => compare_is k d h p r hp hr V)
 clear hW1 hW2 hz1 hz2 hA hR hq hqq hk hn hB hB1 hB2
 go_enter Tryz.func79, Tryz.ntmps79
 go_upto_region 1 with fail
 rw [HW1.out, HW2.out]
 go_wp2_with fail
 go_loopg [12] n (fun gk i wr => ∃ j : Nat, j ≤ n ∧ gk = n - j ∧ i = .int .i64 j ∧ Ak.many (l.drop j) p r = q ∧ Below W2.heap.size W2 wr)
 case atStart => exact ⟨0, by omega, rfl, rfl, HQQ.out, Below.refl _ _⟩
 case round =>
  obtain ⟨j, hj, rfl, rfl, hm, hBr⟩ := hrel
  have HM := Lib.hid hm
  clear hm
  obtain ⟨p0, p1, p2, p3, p4, p5, p6, p7, p8, p9, p10, p11, p12⟩ := (HA.out.keep hBr).photo
  obtain ⟨r0, r1, r2, r3, r4, r5, r6, r7, r8, r9, r10, r11, r12⟩ := (HR.out.keep hBr).photo
  by_cases hlt : j < n
  ·obtain ⟨s, hs⟩ : ∃ s, l[j]? = some s := ⟨_, List.getElem?_eq_getElem (by rw [HN.out]; exact hlt)⟩
   have hrow := HQ2.out.row.keep hBr
   obtain ⟨b, off, hsa, hb, hcell⟩ := hrow (by rw [HN.out]; omega)
   have c0 := hcell j s hs 0 (.int .i64 s.by_) rfl
   have c1 := hcell j s hs 1 (.bool s.down) rfl
   have HST := Lib.hid (Ak.many_step HM.out hs)
   have hkb := HK.out s (List.mem_of_getElem? hs)
   obtain ⟨k, d⟩ := s
   obtain ⟨Z1, hZ1, hZ, hz1, hBZ⟩ := box wr #[.int .i64 k, .bool d] 70
   have HZ1 := Lib.hid hZ1
   have HCC := Lib.hid (HC.out k d hkb Z1)
   have hBZ2 := below_up hBr hBZ
   have c0 : wr.cell? ⟨b, off + j * 2, none⟩ = some (.int .i64 k) := c0
   have c1 : wr.cell? ⟨b, off + j * 2 + 1, none⟩ = some (.bool d) := c1
   obtain ⟨z0, z1⟩ := hZ.two
   have HPZ := Lib.hid ((HA.out.keep hBZ2).photo); have HRZ := Lib.hid ((HR.out.keep hBZ2).photo)
   clear hcell hs hrow hkb hZ1 hz1 hZ
   have hj1 : (j : Int) < (n : Int) := by omega
   obtain ⟨v, hv⟩ : ∃ v, Ak.one ⟨k, d⟩ p r = v := ⟨_, rfl⟩
   rw [hv] at HCC
   have HV := Lib.hid hv
   clear hv
   rw [hsa]
   by_cases h0 : v = 0
   ·subst h0
    have HE := Lib.hid (HST.out.1 HV.out)
    go_upto_region 4 with fail
    rw [HZ1.out]
    clear p0 p1 p2 p3 p4 p5 p6 p7 p8 p9 p10 p11 p12 r0 r1 r2 r3 r4 r5 r6 r7 r8 r9 r10 r11 r12
    obtain ⟨p0, p1, p2, p3, p4, p5, p6, p7, p8, p9, p10, p11, p12⟩ := HPZ.out
    obtain ⟨r0, r1, r2, r3, r4, r5, r6, r7, r8, r9, r10, r11, r12⟩ := HRZ.out
    go_wp2_with (go_at_call 80; (with_reducible refine HCC.out.mono ?_); rintro e w5 ⟨rfl, hB5⟩)
    rw [← hsa]
    go_roundg (n - (j + 1))
    case rel => exact ⟨j + 1, by omega, rfl, by go_num, HE.out, below_up hBZ2 hB5⟩
    case measure => omega
   ·have h1 : (v != 0) = true := by simpa using h0
    have HE := Lib.hid (HV.out.symm.trans (HST.out.2 (by rw [HV.out]; exact h0)))
    go_upto_region 4 with fail
    rw [HZ1.out]
    clear p0 p1 p2 p3 p4 p5 p6 p7 p8 p9 p10 p11 p12 r0 r1 r2 r3 r4 r5 r6 r7 r8 r9 r10 r11 r12
    obtain ⟨p0, p1, p2, p3, p4, p5, p6, p7, p8, p9, p10, p11, p12⟩ := HPZ.out
    obtain ⟨r0, r1, r2, r3, r4, r5, r6, r7, r8, r9, r10, r11, r12⟩ := HRZ.out
    go_wp2_with (go_at_call 80; (with_reducible refine HCC.out.mono ?_); rintro e w5 ⟨rfl, hB5⟩)
    go_ret
    exact ⟨ret_int HE.out, below_up HB.out (below_up hBZ2 hB5)⟩
  ·obtain rfl : j = n := by omega
   have HE : Hid (Ak.ci p.id r.id = q) := Lib.hid (by have h := HM.out; rw [← HN.out, List.drop_length] at h; exact h)
   go_wp2_with (go_at_call 45; refine (cmpI_is _ _ _).mono ?_; rintro e w' ⟨rfl, rfl⟩)
   go_ret
   exact ⟨ret_int HE.out, below_up HB.out hBr⟩
def phE : Enc Ph := ⟨13, Fd.phCells, fun _ => rfl, phCells_one⟩
theorem RowE.flat_at {α : Type} {E : Enc α} (hk : 0 < E.k) {w : World} {b off : Nat} {L : List α} (h : RowE E w (some ⟨b, off, none⟩) L) : ∀ j u, (E.flat L)[j]? = some u → w.cell? ⟨b, off + j, none⟩ = some u := by
 intro j u hj
 have hlt := (List.getElem?_eq_some_iff.1 hj).1
 rw [E.flat_len] at hlt
 have hdm := Nat.div_add_mod j E.k
 have hmod := Nat.mod_lt j hk
 have hi : j / E.k < L.length := Nat.div_lt_of_lt_mul (by rw [Nat.mul_comm]; exact hlt)
 obtain ⟨b', off', e, hb, hc⟩ := h (Nat.lt_of_le_of_lt (Nat.zero_le _) hi)
 cases e
 have he : j / E.k * E.k + j % E.k = j := by rw [Nat.mul_comm]; exact hdm
 have hg := E.flat_get L (j / E.k) _ (List.getElem?_eq_getElem hi) (j % E.k) hmod
 rw [he, hj] at hg
 have := hc (j / E.k) _ (List.getElem?_eq_getElem hi) (j % E.k) u hg.symm
 rwa [Nat.add_assoc, he] at this
theorem RowE.drop {α : Type} {E : Enc α} {w : World} {b off : Nat} {L : List α} (h : RowE E w (some ⟨b, off, none⟩) L) (f : Nat) : RowE E w (some ⟨b, off + f * E.k, none⟩) (L.drop f) := by
 intro h0
 rw [List.length_drop] at h0
 obtain ⟨b', off', e, hb, hc⟩ := h (by omega)
 cases e
 refine ⟨_, _, rfl, hb, fun i x hx j v hv => ?_⟩
 rw [List.getElem?_drop] at hx
 have := hc (f + i) x hx j v hv
 rwa [show off + (f + i) * E.k + j = off + f * E.k + i * E.k + j by rw [Nat.add_mul]; omega] at this
theorem RowE.take {α : Type} {E : Enc α} {w : World} {a : Option Addr} {L : List α} (h : RowE E w a L) (m : Nat) : RowE E w a (L.take m) := by
 intro h0
 rw [List.length_take] at h0
 obtain ⟨b, off, e, hb, hc⟩ := h (by omega)
 refine ⟨b, off, e, hb, fun i x hx j v hv => hc i x ?_ j v hv⟩
 rw [List.getElem?_take] at hx
 split at hx
 ·exact hx
 ·cases hx
theorem RowE.of_phs {w : World} {a : Option Addr} {L : List Ph} (h : Phs w a L.length (fun i => L[i]?.getD Ph.zero)) : RowE phE w a L := by
 intro h0
 obtain ⟨b, off, ha, hb, hc⟩ := h.row h0
 refine ⟨b, off, ha, hb, fun i x hx j v hv => ?_⟩
 have hi := (List.getElem?_eq_some_iff.1 hx).1
 have hj := (List.getElem?_eq_some_iff.1 hv).1
 have hj : j < 13 := hj
 obtain ⟨q0, q1, q2, q3, q4, q5, q6, q7, q8, q9, q10, q11, q12⟩ := hc i hi
 have e : L[i]?.getD Ph.zero = x := by rw [hx]; rfl
 rw [e] at q0 q1 q2 q3 q4 q5 q6 q7 q8 q9 q10 q11 q12
 have hv : (Fd.phCells x)[j]? = some v := hv
 have : j = 0 ∨ j = 1 ∨ j = 2 ∨ j = 3 ∨ j = 4 ∨ j = 5 ∨ j = 6 ∨ j = 7 ∨ j = 8 ∨ j = 9 ∨ j = 10 ∨ j = 11 ∨ j = 12 := by omega
 show w.cell? ⟨b, off + i * 13 + j, none⟩ = some v
 rw [← hv]
 rcases this with rfl | rfl | rfl | rfl | rfl | rfl | rfl | rfl | rfl | rfl | rfl | rfl | rfl <;> assumption
theorem Phs.of_rowE {w : World} {a : Option Addr} {L : List Ph} (h : RowE phE w a L) (hI : ∀ p, p ∈ L → p.In w) : Phs w a L.length (fun i => L[i]?.getD Ph.zero) := by
 refine ⟨fun h0 => ?_, fun i hi => ?_⟩
 ·obtain ⟨b, off, ha, hb, hc⟩ := h h0
  refine ⟨b, off, ha, hb, fun i hi => PhAt.of_cells fun j hj => ?_⟩
  have hx : L[i]? = some L[i] := List.getElem?_eq_getElem hi
  have hl : j < (Fd.phCells (L[i]?.getD Ph.zero)).length := hj
  have e : L[i]?.getD Ph.zero = L[i] := by rw [hx]; rfl
  rw [e] at hl ⊢
  rw [List.getElem?_eq_getElem hl]
  exact hc i _ hx j _ (List.getElem?_eq_getElem hl)
 ·rw [List.getElem?_eq_getElem hi]
  exact hI _ (List.getElem_mem hi)
theorem idsL_list (L : List Ph) : Fd.idsL (fun i => L[i]?.getD Ph.zero) L.length = L.map Ph.id := by
 apply List.ext_getElem?
 intro i
 unfold Fd.idsL
 rw [List.getElem?_map, List.getElem?_map]
 by_cases h : i < L.length
 ·rw [List.getElem?_range h, List.getElem?_eq_getElem h]; simp [h]
 ·rw [List.getElem?_eq_none (by simpa using h), List.getElem?_eq_none (by simpa using h)]; rfl
theorem clonePh_none (ca : Nat) (w : World) : Calls Tryz.prog 116 #[.slice none 0 ca] w fun e w' => e = .returned (.slice none 0 0) ∧ w = w' := by
 have hnil := fun (W : World) => Lib.run_eql_slice_nil (P := Tryz.prog) W 39 85 none 0 ca 0 0 Tryz.underlying39
 go_enter Tryz.func116, Tryz.ntmps116
 go_wp2_with fail
 go_ret
 exact ⟨rfl, rfl⟩
theorem clonePh_empty (p : Addr) (ca : Nat) (w : World) : Calls Tryz.prog 116 #[.slice (some p) 0 ca] w fun e w' => ∃ q, e = .returned (.slice (some q) 0 0) ∧ Below w.heap.size w w' := by
 obtain ⟨i0, hi0, hz0, hz1, hz2⟩ := info_parts infoPhoto
 have HI0 := Lib.hid hi0; have HI2 := Lib.hid hz1
 clear hi0 hz0 hz1 hz2
 have hnil := fun (W : World) => Lib.run_eql_slice_nil (P := Tryz.prog) W 39 85 (some p) 0 ca 0 0 Tryz.underlying39
 have HO : Hid ((w.alloc (.cells #[] 85)).ownsRow w.heap.size 85 13 (.slice (some ⟨w.heap.size, 0, none⟩) 0 0) 0 []) := ⟨rfl, .inr ⟨w.heap.size, 0, #[], rfl, Nat.le_refl _, heap_alloc_new w _, Nat.le_refl _, by simp, by simp, by simp⟩⟩
 go_enter Tryz.func116, Tryz.ntmps116
 go_wp2_with (at_builtin; refine wpList_append_fits _ rfl _ _ 39 rfl w.heap.size 85 i0 13 Tryz.underlying39 HI0.out HI2.out w.heap.size 0 0 [] rfl HO.out p 0 ca [] rfl rfl (fun j u hj => by simp at hj) (by simp) (by omega) ?_; intro w1 hown hgrow)
 go_ret
 exact ⟨_, rfl, ((Below.refl _ w).alloc (Nat.le_refl _) _).grown hgrow (by simp) (fun k e => by cases e; exact Nat.le_refl _)⟩
theorem clonePh_is (b off ca : Nat) (L : List Ph) (w : World) (hL : 0 < L.length) (hn : L.length ≤ 1000000) (hx : RowE phE w (some ⟨b, off, none⟩) L) :
  Calls Tryz.prog 116 #[.slice (some ⟨b, off, none⟩) L.length ca] w fun e w' => ∃ g cap, e = .returned (.slice (some ⟨g, 0, none⟩) L.length cap) ∧ SRow phE w' w.heap.size 85 g cap L.length L ∧ Below w.heap.size w w' := by
 obtain ⟨i0, hi0, hz0, hz1, hz2⟩ := info_parts infoPhoto
 have HI0 := Lib.hid hi0; have HI1 := Lib.hid hz0; have HI2 := Lib.hid hz1; have HI3 := Lib.hid hz2
 obtain ⟨n, hnn⟩ : ∃ n, L.length = n := ⟨_, rfl⟩
 have HLN := Lib.hid hnn
 have hb := (hx hL)
 have HNW := Lib.hid (fun (j : Nat) (u : Value) (hj : (phE.flat L)[j]? = some u) => show (w.alloc (.cells #[] 85)).cell? ((⟨b, off, none⟩ : Addr).add j) = some u by
  rw [show (⟨b, off, none⟩ : Addr).add j = ⟨b, off + j, none⟩ from by unfold Addr.add; split <;> simp_all]
  have h0 := RowE.flat_at (by decide) hx j u hj
  rw [World.cell?_alloc_lt w _ ⟨b, off + j, none⟩ (World.block_lt_of_cell? w _ h0)]; exact h0)
 have H1C := Lib.hid (phE.flat_one L)
 have HNL := Lib.hid (show (phE.flat L).length = n * 13 by rw [phE.flat_len, hnn]; rfl)
 have hmx : 0 + n ≤ maxLen := by unfold maxLen; omega
 have hbz : (0 + n) * 168 ≤ 140737488355328 := by omega
 have hnil := fun (W : World) => Lib.run_eql_slice_nil (P := Tryz.prog) W 39 85 (some ⟨b, off, none⟩) n ca 0 0 Tryz.underlying39
 rw [hnn] at hL hn ⊢
 clear hi0 hz0 hz1 hz2 hx hb hnn
 go_enter Tryz.func116, Tryz.ntmps116
 go_wp2_with (at_builtin; refine wpList_append_grows _ rfl _ _ 39 rfl 85 i0 (.agg #[.int .i64 0, .string ByteArray.empty, .int .i64 0, .int .i64 0, .slice none 0 0, .int .i64 0, .int .i64 0, .int .i64 0, .int .i64 0, .slice none 0 0, .string ByteArray.empty, .slice none 0 0, .bool false]) 13 168 Tryz.underlying39 HI0.out HI1.out HI2.out HI3.out rfl (by decide) (some ⟨w.heap.size, 0, none⟩) 0 0 [] rfl (fun h => by cases h) rfl (fun b hb j u hj => by simp at hj) ⟨b, off, none⟩ n ca (phE.flat L) rfl HNL.out HNW.out H1C.out (by omega) hmx hbz ?_; intro v' w1 hown hgrow)
 rw [Nat.zero_add, List.nil_append] at hown
 have hB1 := ((Below.refl w.heap.size w).alloc (Nat.le_refl _) (.cells #[] 85)).grown hgrow (by simp) (fun k e => by cases e)
 rcases hown.2 with ⟨_, h0⟩ | ⟨g, cap, cur, rfl, hg, hcell, hk, hm, _⟩
 ·omega
 have HOW := Lib.hid (OwnC.of_own hown)
 clear hown hgrow hcell hm
 go_wp2_with fail
 go_ret
 exact ⟨g, cap, rfl, ⟨HOW.out.down (by simp), HLN.out⟩, hB1⟩
theorem stPh_ins0 (a : Option Addr) (ca : Nat) (fv : Value) (w : World) : Calls Tryz.prog 203 #[.slice a 0 ca, .int .i64 0, .int .i64 0, fv] w fun e w' => e = .returned (.tuple #[]) ∧ w = w' := by
 go_enter Tryz.func203, Tryz.ntmps203
 go_wp2_with fail
 go_loopg [8] 0 (fun gk s8 wr => s8 = .int .i64 1 ∧ w = wr)
 case atStart => exact ⟨rfl, rfl⟩
 case round =>
  obtain ⟨rfl, rfl⟩ := hrel
  go_wp2_with fail
  go_end0
  exact ⟨rfl, rfl⟩
theorem stPh_stable0 (a : Option Addr) (ca : Nat) (fv : Value) (w : World) : Calls Tryz.prog 170 #[.slice a 0 ca, .int .i64 0, fv] w fun e w' => e = .returned (.tuple #[]) ∧ w = w' := by
 go_enter Tryz.func170, Tryz.ntmps170
 go_wp2_with fail
 go_loopg [7, 8] 0 (fun gk s7 s8 wr => s7 = .int .i64 0 ∧ s8 = .int .i64 20 ∧ w = wr)
 case atStart => exact ⟨rfl, rfl, rfl⟩
 case round =>
  obtain ⟨rfl, rfl, rfl⟩ := hrel
  go_wp2_with (go_at_call 203; refine (stPh_ins0 _ _ _ _).mono ?_; rintro e w' ⟨rfl, rfl⟩)
  go_loopg [6] 0 (fun gk s6 wr => s6 = .int .i64 20 ∧ w = wr)
  case atStart => exact ⟨rfl, rfl⟩
  case round =>
   obtain ⟨rfl, rfl⟩ := hrel
   go_wp2_with fail
   go_end0
   exact ⟨rfl, rfl⟩
theorem stPh_sort0 (a : Option Addr) (ca : Nat) (fv : Value) (w : World) : Calls Tryz.prog 117 #[.slice a 0 ca, fv] w fun e w' => e = .returned (.tuple #[]) ∧ w = w' := by
 go_enter Tryz.func117, Tryz.ntmps117
 go_wp2_with (go_at_call 170; refine (stPh_stable0 _ _ _ _).mono ?_; rintro e w' ⟨rfl, rfl⟩)
 go_end0
 exact ⟨rfl, rfl⟩
theorem Ak.Sorts.grown {V V' : World} {qb g : Nat} {sa : Option Addr} {sc : Nat} {l : List Ak.Srt} (h : Ak.Sorts V qb sa sc l) (hg : V.grownBy V' (some g)) (h1 : qb ≠ g) (h2 : 0 < l.length → ∀ x, sa = some x → x.block ≠ g) : Ak.Sorts V' qb sa sc l :=
 ⟨hg.cell h.cell (by simpa using h1), h.row.grown hg fun h0 x hx => by have := h2 h0 x hx; simpa using this⟩
theorem enters_ask : ∀ args w, (callFunc 79 args).run Tryz.prog w = .ok (.enter 79 args) w := enters_of Tryz.func79 (by kernel_rfl) rfl
theorem sorted_cmp (l : List Ak.Srt) (hk : ∀ s, s ∈ l → 1 ≤ s.by_ ∧ s.by_ ≤ 5) (hl : l.length ≤ 1000000) (qb : Nat) (sa : Option Addr) (sc : Nat) (w0 w : World) (hq : Ak.Sorts w0 qb sa sc l) (hB : Below w0.heap.size w0 w) (g : Nat) (hg : w0.heap.size ≤ g) :
  CmpOk phE w g 79 #[.pointer (some ⟨qb, 0, none⟩)] Ak.Dom (Ak.neg l) := by
 intro V x y hx hy hgr
 have hb := World.block_lt_of_cell? w0 _ hq.cell
 have hS := (hq.keep hB).grown hgr (by have : qb < w0.heap.size := hb; omega) (fun h0 z hz => by
  obtain ⟨b, off, e, hlt, _⟩ := hq.row h0
  rw [e] at hz; cases hz
  show b ≠ g; omega)
 refine (askCmp_is l hk hl x y hx hy qb sa sc V hS).mono ?_
 rintro e w' ⟨rfl, hB'⟩
 exact ⟨_, rfl, rfl, hB'⟩
def SortedPost (w : World) (l : List Ak.Srt) (L : List Ph) (e : Ending) (w' : World) : Prop :=
 ∃ (a : Option Addr) (M : List Ph), e = .returned (.slice a L.length L.length) ∧ List.Perm M L ∧ M.Pairwise (Ak.lt l) ∧ RowE phE w' a M ∧ (0 < L.length → ∃ g, a = some ⟨g, 0, none⟩) ∧ Below w.heap.size w w'
theorem clipPhA_is (a : Option Addr) (n ca : Nat) (w : World) (h : n ≤ ca) (hc : ca ≤ 9223372036854775807) : Calls Tryz.prog 118 #[.slice a n ca] w fun e w' => e = .returned (.slice a n n) ∧ w = w' := by
 go_enter Tryz.func118, Tryz.ntmps118
 go_wp2_with fail
 go_ret
 exact ⟨rfl, rfl⟩
theorem sortedPh_is (l : List Ak.Srt) (hk : ∀ s, s ∈ l → 1 ≤ s.by_ ∧ s.by_ ≤ 5) (hl : l.length ≤ 1000000) (qb : Nat) (sa : Option Addr) (sc : Nat) (L : List Ph) (a : Option Addr) (ca : Nat) (hn : L.length ≤ 1000000) (hd : ∀ p, p ∈ L → Ak.Dom p) (hr : L.Pairwise (fun x y => x.id ≠ y.id)) (w : World) (hq : Ak.Sorts w qb sa sc l) (hx : RowE phE w a L) :
  Calls Tryz.prog 78 #[.slice a L.length ca, .func (.func 79) #[] #[.pointer (some ⟨qb, 0, none⟩)]] w (SortedPost w l L) := by
 rcases Nat.eq_zero_or_pos L.length with hz | hz
 ·obtain rfl := List.eq_nil_of_length_eq_zero hz
  clear hx hz hd hr hn
  cases a with
  | none =>
    go_enter Tryz.func78, Tryz.ntmps78
    go_wp2_with (first
     | (go_at_call 116; refine (clonePh_none _ _).mono ?_; rintro e w' ⟨rfl, rfl⟩)
     | (go_at_call 117; refine (stPh_sort0 _ _ _ _).mono ?_; rintro e w' ⟨rfl, rfl⟩)
     | (go_at_call 118; refine (clipPhA_is _ _ _ _ (Nat.le_refl _) (by omega)).mono ?_; rintro e w' ⟨rfl, rfl⟩))
    go_ret
    exact ⟨none, [], rfl, List.Perm.refl _, List.Pairwise.nil, RowE.nil _ _ _, fun h => by simp at h, Below.refl _ _⟩
  | some p =>
    go_enter Tryz.func78, Tryz.ntmps78
    go_wp2_with (first
     | (go_at_call 116; refine (clonePh_empty _ _ _).mono ?_; rintro e w4 ⟨q, rfl, hB4⟩)
     | (go_at_call 117; refine (stPh_sort0 _ _ _ _).mono ?_; rintro e w' ⟨rfl, rfl⟩)
     | (go_at_call 118; refine (clipPhA_is _ _ _ _ (Nat.le_refl _) (by omega)).mono ?_; rintro e w' ⟨rfl, rfl⟩))
    go_ret
    exact ⟨some q, [], rfl, List.Perm.refl _, List.Pairwise.nil, RowE.nil _ _ _, fun h => by simp at h, hB4⟩
 ·obtain ⟨b, off, rfl, hb, _⟩ := id hx hz
  have HCL := Lib.hid (clonePh_is b off ca L w hz hn hx)
  have HST := Lib.hid (fun (g cap : Nat) (w4 : World) (hS : SRow phE w4 w.heap.size 85 g cap L.length L) (hB : Below w.heap.size w w4) => stPh_sortStable phE rfl (Ak.lt_ord l) 79 #[.pointer (some ⟨qb, 0, none⟩)] enters_ask Ak.Dom w.heap.size g cap L.length hn L w4 (sorted_cmp l hk hl qb sa sc w w4 hq hB g hS.own.lt.1) hS (hr.imp fun h => Ak.fit_of l h) hd)
  obtain ⟨n, hnn⟩ : ∃ n, L.length = n := ⟨_, rfl⟩
  have HN := Lib.hid hnn
  clear hx hq hd hr
  rw [hnn] at HCL HST hn hz ⊢
  clear hnn
  go_enter Tryz.func78, Tryz.ntmps78
  go_wp2_with (go_at_call 116; (with_reducible refine HCL.out.mono ?_); rintro e w4 ⟨g, cap, rfl, hS4, hB4⟩; obtain ⟨_, _, _, hk4, hm4, _⟩ := id hS4.own; have hm5 : cap ≤ 9223372036854775807 := hm4)
  have HS4 := Lib.hid (HST.out g cap w4 hS4 hB4)
  have HB4 := Lib.hid hB4; have HG := Lib.hid hS4.own.lt
  clear hS4 hB4 hm4
  go_wp2_with (first
   | (go_at_call 117; (with_reducible refine HS4.out.mono ?_); rintro e w6 ⟨rfl, M, hp6, hs6, hS6, hG6⟩; have H6 := Lib.hid (And.intro hp6 (And.intro hs6 (And.intro hS6 hG6))); clear hp6 hs6 hS6 hG6)
   | (go_at_call 118; refine (clipPhA_is _ _ _ _ hk4 hm5).mono ?_; rintro e w' ⟨rfl, rfl⟩))
  go_ret
  obtain ⟨hp6, hs6, hS6, hG6⟩ := H6.out
  refine ⟨some ⟨g, 0, none⟩, M, by rw [HN.out]; rfl, hp6, hs6, ?_, fun _ => ⟨g, rfl⟩, ?_⟩
  ·obtain ⟨a', ca', e, _, _, hrow⟩ := RowE.of_own (E := phE) (L := M) (.inr ⟨g, cap, rfl, hS6.own⟩) hS6.len.symm
   injection e with e1 _ _
   rw [e1]; exact hrow
  ·exact HB4.out.grown hG6 (HB4.out.size) (fun b e => by cases e; exact HG.out.1)
namespace Ak
def hasBy (k : Int) (l : List Srt) : Bool := l.any fun t => t.by_ == k
def srtE : List Srt → List Srt → Int
 | _, [] => 0
 | pre, s :: r => if 1 ≤ s.by_ ∧ s.by_ ≤ 5 then (if hasBy s.by_ pre = true then 6 else srtE (pre ++ [s]) r) else 10
def rngB (n : Int) : Bool := decide (0 ≤ n ∧ n ≤ 1000)
def qErr (ce : Int) (l : List Srt) (f m : Int) : Int :=
 if ce = 0 then (if 5 < l.length then 4 else if srtE [] l = 0 then (if rngB f = true ∧ rngB m = true then 0 else 2) else srtE [] l) else ce
theorem srtE_by : ∀ {l pre : List Srt}, srtE pre l = 0 → ∀ s, s ∈ l → 1 ≤ s.by_ ∧ s.by_ ≤ 5
 | [], _, _, s, h => by cases h
 | t :: r, pre, h, s, hs => by
   rw [srtE] at h
   split at h
   ·rename_i hb
    split at h
    ·cases h
    ·rcases List.mem_cons.1 hs with rfl | hs
     ·exact hb
     ·exact srtE_by h s hs
   ·cases h
theorem qErr_0 {ce : Int} {l : List Srt} {f m : Int} (h : qErr ce l f m = 0) : ce = 0 ∧ l.length ≤ 5 ∧ srtE [] l = 0 ∧ rngB f = true ∧ rngB m = true := by
 unfold qErr at h
 split at h
 ·rename_i h0
  split at h
  ·cases h
  ·split at h
   ·rename_i h2
    split at h
    ·rename_i h3; exact ⟨h0, by omega, h2, h3.1, h3.2⟩
    ·cases h
   ·exact absurd h ‹_›
 ·exact absurd h ‹_›
theorem hasBy_take {l : List Srt} {j : Nat} {s : Srt} {k : Int} (h : l[j]? = some s) : hasBy k (l.take (j + 1)) = (hasBy k (l.take j) || s.by_ == k) := by
 unfold hasBy; rw [List.take_add_one, h, List.any_append]; simp
end Ak
theorem chkQ1_is (k k2 : Int) (d d2 : Bool) (sb : Nat) (t : TypeId) (w : World) (hs : Blk w sb #[.int .i64 k2, .bool d2] t) :
  Calls Tryz.prog 34 #[.agg #[.int .i64 k, .bool d], .pointer (some ⟨sb, 0, none⟩)] w fun e w' => e = .returned (.bool (k == k2)) ∧ Below w.heap.size w w' := by
 obtain ⟨W1, hW1, hA, hz1, hB1⟩ := box w #[.int .i64 k, .bool d] 70
 have HW1 := Lib.hid hW1
 obtain ⟨a0, a1⟩ := hA.two
 obtain ⟨b0, b1⟩ := (hs.keep hB1).two
 clear hW1 hz1
 go_enter Tryz.func34, Tryz.ntmps34
 go_upto_region 1 with fail
 rw [HW1.out]
 go_wp2_with fail
 go_ret
 exact ⟨rfl, hB1⟩
theorem enters_chkQ : ∀ args w, (callFunc 34 args).run Tryz.prog w = .ok (.enter 34 args) w := enters_of Tryz.func34 (by kernel_rfl) rfl
theorem idxSort_is (l : List Ak.Srt) (m : Nat) (hm : m ≤ l.length) (hl : l.length ≤ 1000000) (sa : Option Addr) (sc : Nat) (k2 : Int) (d2 : Bool) (sb : Nat) (t : TypeId) (w : World) (hr : RowE Ak.eS w sa l) (hs : Blk w sb #[.int .i64 k2, .bool d2] t) :
  Calls Tryz.prog 76 #[.slice sa m sc, .func (.func 34) #[] #[.pointer (some ⟨sb, 0, none⟩)]] w fun e w' => ∃ r : Int, e = .returned (.int .i64 r) ∧ ((Ak.hasBy k2 (l.take m) = true ∧ 0 ≤ r) ∨ (Ak.hasBy k2 (l.take m) = false ∧ r = -1)) ∧ Below w.heap.size w w' := by
 have eg := enters_chkQ
 have HR := Lib.hid hr; have HS := Lib.hid hs; have HM := Lib.hid hm
 have hm2 : m ≤ 1000000 := by omega
 clear hr hs hm hl
 go_enter Tryz.func76, Tryz.ntmps76
 go_wp2_with fail
 go_loopg [8] m (fun gk i wr => ∃ j : Nat, j ≤ m ∧ gk = m - j ∧ i = .int .i64 j ∧ Ak.hasBy k2 (l.take j) = false ∧ Below w.heap.size w wr)
 case atStart => exact ⟨0, by omega, rfl, rfl, rfl, Below.refl _ _⟩
 case round =>
  obtain ⟨j, hj, rfl, rfl, hno, hB⟩ := hrel
  have HNO := Lib.hid hno; clear hno
  by_cases hlt : j < m
  ·obtain ⟨s, hs⟩ : ∃ s, l[j]? = some s := ⟨_, List.getElem?_eq_getElem (by have := HM.out; omega)⟩
   obtain ⟨b, off, rfl, hb, hcell⟩ := (HR.out.keep hB) (by have := HM.out; omega)
   have c0 := hcell j s hs 0 (.int .i64 s.by_) rfl
   have c1 := hcell j s hs 1 (.bool s.down) rfl
   have HT := Lib.hid (Ak.hasBy_take (k := k2) hs)
   have HMM : Hid (m ≤ l.length) := HM
   obtain ⟨k, d⟩ := s
   have c0 : wr.cell? ⟨b, off + j * 2, none⟩ = some (.int .i64 k) := c0
   have c1 : wr.cell? ⟨b, off + j * 2 + 1, none⟩ = some (.bool d) := c1
   have HC := Lib.hid (chkQ1_is k k2 d d2 sb t wr (HS.out.keep hB))
   have hj1 : (j : Int) < (m : Int) := by omega
   clear hcell hs
   by_cases he : k = k2
   ·have he1 : (k == k2) = true := by simpa using he
    rw [he1] at HC
    have HE : Hid (Ak.hasBy k2 (l.take (j + 1)) = true) := Lib.hid (by rw [HT.out]; show (_ || k == k2) = true; rw [he1]; simp)
    have HF : Hid (Ak.hasBy k2 (l.take m) = true) := Lib.hid (by
     have h := HE.out
     unfold Ak.hasBy at h ⊢
     rw [List.any_eq_true] at h ⊢
     obtain ⟨z, hz, hzk⟩ := h
     refine ⟨z, ?_, hzk⟩
     rw [show j + 1 = min (j + 1) m by omega, ← List.take_take] at hz
     exact List.mem_of_mem_take hz)
    clear he he1
    go_wp2_with (go_at_call 34; (with_reducible refine HC.out.mono ?_); rintro e w5 ⟨rfl, hB5⟩)
    go_ret
    exact ⟨_, rfl, .inl ⟨HF.out, by omega⟩, below_up hB hB5⟩
   ·have he1 : (k == k2) = false := by simpa using he
    rw [he1] at HC
    have HE : Hid (Ak.hasBy k2 (l.take (j + 1)) = false) := Lib.hid (by rw [HT.out, HNO.out]; exact he1)
    clear he he1
    go_wp2_with (go_at_call 34; (with_reducible refine HC.out.mono ?_); rintro e w5 ⟨rfl, hB5⟩)
    go_roundg (m - (j + 1))
    case rel => exact ⟨j + 1, by omega, rfl, by go_num, HE.out, below_up hB hB5⟩
    case measure => omega
  ·obtain rfl : j = m := by omega
   go_wp2_with fail
   go_ret
   exact ⟨-1, rfl, .inr ⟨HNO.out, rfl⟩, hB⟩
theorem hasSort_is (l : List Ak.Srt) (m : Nat) (hm : m ≤ l.length) (hl : l.length ≤ 1000000) (sa : Option Addr) (sc : Nat) (k2 : Int) (d2 : Bool) (sb : Nat) (t : TypeId) (w : World) (hr : RowE Ak.eS w sa l) (hs : Blk w sb #[.int .i64 k2, .bool d2] t) :
  Calls Tryz.prog 33 #[.slice sa m sc, .func (.func 34) #[] #[.pointer (some ⟨sb, 0, none⟩)]] w fun e w' => e = .returned (.bool (Ak.hasBy k2 (l.take m))) ∧ Below w.heap.size w w' := by
 have HI := Lib.hid (idxSort_is l m hm hl sa sc k2 d2 sb t w hr hs)
 clear hr hs
 generalize Ak.hasBy k2 (l.take m) = q at *
 go_enter Tryz.func33, Tryz.ntmps33
 go_wp2_with (go_at_call 76; (with_reducible refine HI.out.mono ?_); rintro e w4 ⟨r, rfl, hr, hB4⟩; have HR := Lib.hid hr; clear hr)
 go_ret
 refine ⟨ret_bool ?_, hB4⟩
 rcases HR.out with ⟨h, h0⟩ | ⟨h, rfl⟩
 ·rw [h]; simpa using h0
 ·rw [h]; rfl
theorem Blk.nine {w : World} {b : Nat} {t : TypeId} {c0 c1 c2 c3 c4 c5 c6 c7 c8 : Value} (h : Blk w b #[c0, c1, c2, c3, c4, c5, c6, c7, c8] t) : w.cell? ⟨b, 0, none⟩ = some c0 ∧ w.cell? ⟨b, 1, none⟩ = some c1 ∧ w.cell? ⟨b, 2, none⟩ = some c2 ∧ w.cell? ⟨b, 3, none⟩ = some c3 ∧ w.cell? ⟨b, 4, none⟩ = some c4 ∧ w.cell? ⟨b, 5, none⟩ = some c5 ∧ w.cell? ⟨b, 6, none⟩ = some c6 ∧ w.cell? ⟨b, 7, none⟩ = some c7 ∧ w.cell? ⟨b, 8, none⟩ = some c8 := by
 simp only [h.cell]; exact ⟨rfl, rfl, rfl, rfl, rfl, rfl, rfl, rfl, rfl⟩
theorem Ak.srtE_step {l : List Ak.Srt} {j : Nat} {s : Ak.Srt} {q : Int} (h : Ak.srtE (l.take j) (l.drop j) = q) (hs : l[j]? = some s) :
  (¬ (1 ≤ s.by_ ∧ s.by_ ≤ 5) → q = 10) ∧ ((1 ≤ s.by_ ∧ s.by_ ≤ 5) → Ak.hasBy s.by_ (l.take j) = true → q = 6) ∧ ((1 ≤ s.by_ ∧ s.by_ ≤ 5) → Ak.hasBy s.by_ (l.take j) = false → Ak.srtE (l.take (j + 1)) (l.drop (j + 1)) = q) := by
 obtain ⟨hlt, hg⟩ := List.getElem?_eq_some_iff.1 hs
 rw [List.drop_eq_getElem_cons hlt, hg, Ak.srtE] at h
 refine ⟨fun g => ?_, fun g1 g2 => ?_, fun g1 g2 => ?_⟩
 ·rw [if_neg g] at h; exact h.symm
 ·rw [if_pos g1, if_pos g2] at h; exact h.symm
 ·rw [if_pos g1, if_neg (by rw [g2]; decide)] at h
  rw [List.take_add_one, hs]; exact h
theorem checkQ_is (c : Cnd) (l : List Ak.Srt) (sa : Option Addr) (sc : Nat) (f m : Int) (w : World) (hc : c.In w) (hG : c.Fits) (hr : RowE Ak.eS w sa l) (hsc : l.length ≤ sc) (hsm : sc ≤ 9223372036854775807) :
  Calls Tryz.prog 12 #[.agg #[.int .i64 c.op, .slice c.ka c.kn c.kc, .string c.text, .int .i64 c.low, .int .i64 c.high, .slice c.aa c.an c.ac, .slice sa l.length sc, .int .i64 f, .int .i64 m]] w fun e w' => e = .returned (.int .i64 (Ak.qErr c.err l f m)) ∧ Below w.heap.size w w' := by
 obtain ⟨q, hq⟩ : ∃ q, Ak.qErr c.err l f m = q := ⟨_, rfl⟩
 rw [hq]
 unfold Ak.qErr at hq
 obtain ⟨n, hn⟩ : ∃ n, l.length = n := ⟨_, rfl⟩
 rw [hn] at hsc hq ⊢
 have HN := Lib.hid hn
 obtain ⟨W1, hW1, hQ, hz1, hB1⟩ := box w #[.int .i64 c.op, .slice c.ka c.kn c.kc, .string c.text, .int .i64 c.low, .int .i64 c.high, .slice c.aa c.an c.ac, .slice sa n sc, .int .i64 f, .int .i64 m] 33
 have HW1 := Lib.hid hW1
 have HCC := Lib.hid (checkCond_is c W1 (Cnd.In.keep hB1 hc) hG)
 obtain ⟨q0, q1, q2, q3, q4, q5, q6, q7, q8⟩ := hQ.nine
 have HQ := Lib.hid hQ; have HR := Lib.hid (hr.keep hB1); have HB1 := Lib.hid hB1
 clear hW1 hz1 hc hG hr hQ hB1 hn
 obtain ⟨ce, hce⟩ : ∃ ce, c.err = ce := ⟨_, rfl⟩
 rw [hce] at HCC hq
 clear hce
 by_cases h0 : ce = 0
 ·subst h0
  rw [if_pos rfl] at hq
  by_cases h5 : 5 < n
  ·rw [if_pos h5] at hq
   have HQQ := Lib.hid hq; clear hq
   have h5' : (5 : Int) < (n : Int) := by omega
   go_enter Tryz.func12, Tryz.ntmps12
   go_upto_region 1 with fail
   rw [HW1.out]
   go_wp2_with (go_at_call 8; (with_reducible refine HCC.out.mono ?_); rintro e w4 ⟨rfl, hB4⟩; obtain ⟨q0, q1, q2, q3, q4, q5, q6, q7, q8⟩ := (HQ.out.keep hB4).nine)
   go_ret
   exact ⟨ret_int HQQ.out, below_up HB1.out hB4⟩
  ·rw [if_neg h5] at hq
   have HQQ := Lib.hid hq; clear hq
   have h5' : ¬ (5 : Int) < (n : Int) := by omega
   have hn5 : n ≤ 5 := by omega
   go_enter Tryz.func12, Tryz.ntmps12
   go_upto_region 1 with fail
   rw [HW1.out]
   go_wp2_with (go_at_call 8; (with_reducible refine HCC.out.mono ?_); rintro e w4 ⟨rfl, hB4⟩; obtain ⟨q0, q1, q2, q3, q4, q5, q6, q7, q8⟩ := (HQ.out.keep hB4).nine)
   obtain ⟨se, hse⟩ : ∃ se, Ak.srtE [] l = se := ⟨_, rfl⟩
   have HQS : Hid ((if se = 0 then (if Ak.rngB f = true ∧ Ak.rngB m = true then 0 else 2) else se) = q) := Lib.hid (by rw [← hse]; exact HQQ.out)
   have HSE := Lib.hid hse
   clear hse
   go_loopg [19] n (fun gk i wr => ∃ j : Nat, j ≤ n ∧ gk = n - j ∧ i = .int .i64 j ∧ Ak.srtE (l.take j) (l.drop j) = se ∧ Below W1.heap.size W1 wr)
   case atStart => exact ⟨0, by omega, rfl, rfl, HSE.out, hB4⟩
   case round =>
    clear q0 q1 q2 q3 q4 q5 q6 q7 q8
    obtain ⟨j, hj, rfl, rfl, hsc2, hB⟩ := hrel
    have HSC := Lib.hid hsc2; clear hsc2
    obtain ⟨q0, q1, q2, q3, q4, q5, q6, q7, q8⟩ := (HQ.out.keep hB).nine
    by_cases hlt : j < n
    ·obtain ⟨s, hs⟩ : ∃ s, l[j]? = some s := ⟨_, List.getElem?_eq_getElem (by rw [HN.out]; exact hlt)⟩
     obtain ⟨b, off, hsa, hb, hcell⟩ := (HR.out.keep hB) (by rw [HN.out]; omega)
     have c0 := hcell j s hs 0 (.int .i64 s.by_) rfl
     have c1 := hcell j s hs 1 (.bool s.down) rfl
     have HST := Lib.hid (Ak.srtE_step HSC.out hs)
     obtain ⟨k, d⟩ := s
     have c0 : wr.cell? ⟨b, off + j * 2, none⟩ = some (.int .i64 k) := c0
     have c1 : wr.cell? ⟨b, off + j * 2 + 1, none⟩ = some (.bool d) := c1
     obtain ⟨Z1, hZ1, hZ, hz1, hBZ⟩ := box wr #[.int .i64 k, .bool d] 70
     have HZ1 := Lib.hid hZ1
     have hBZ2 := below_up hB hBZ
     have HZB := Lib.hid hZ
     obtain ⟨z0, z1⟩ := hZ.two
     have HQZ := Lib.hid ((HQ.out.keep hBZ2).nine)
     have HHS := Lib.hid (hasSort_is l j (by rw [HN.out]; omega) (by rw [HN.out]; omega) sa sc k d wr.heap.size 70 Z1 (HR.out.keep hBZ2) hZ)
     obtain ⟨hv, hhv⟩ : ∃ hv, Ak.hasBy k (l.take j) = hv := ⟨_, rfl⟩
     rw [hhv] at HHS
     have HHV := Lib.hid hhv
     have hj1 : (j : Int) < (n : Int) := by omega
     have hjc : (j : Int) ≤ (sc : Int) := by omega
     clear hcell hs hZ1 hz1 hZ hhv
     rw [hsa] at q6
     rw [hsa]
     by_cases hk : 1 ≤ k ∧ k ≤ 5
     ·have HKO := Lib.hid (fun W => outsideF_is k 1 5 true (decide_eq_true hk) W)
      cases hv
      ·have HE := Lib.hid (HST.out.2.2 hk HHV.out)
       clear hk
       go_upto_region 9 with fail
       rw [HZ1.out]
       clear q0 q1 q2 q3 q4 q5 q6 q7 q8
       obtain ⟨q0, q1, q2, q3, q4, q5, q6, q7, q8⟩ := HQZ.out
       rw [hsa] at q6 HHS
       go_wp2_with (first
        | (go_at_call 32; (with_reducible refine (HKO.out _).mono ?_); rintro e w' ⟨rfl, rfl⟩)
        | (go_at_call 33; (with_reducible refine HHS.out.mono ?_); rintro e w6 ⟨rfl, hB6⟩))
       rw [← hsa]
       go_roundg (n - (j + 1))
       case rel => exact ⟨j + 1, by omega, rfl, by go_num, HE.out, below_up hBZ2 hB6⟩
       case measure => omega
      ·have HE := Lib.hid (HST.out.2.1 hk HHV.out)
       clear hk
       go_upto_region 9 with fail
       rw [HZ1.out]
       clear q0 q1 q2 q3 q4 q5 q6 q7 q8
       obtain ⟨q0, q1, q2, q3, q4, q5, q6, q7, q8⟩ := HQZ.out
       rw [hsa] at q6 HHS
       go_wp2_with (first
        | (go_at_call 32; (with_reducible refine (HKO.out _).mono ?_); rintro e w' ⟨rfl, rfl⟩)
        | (go_at_call 33; (with_reducible refine HHS.out.mono ?_); rintro e w6 ⟨rfl, hB6⟩))
       go_ret
       exact ⟨ret_int (by rw [← HQS.out, HE.out]; rfl), below_up HB1.out (below_up hBZ2 hB6)⟩
     ·have HKO := Lib.hid (fun W => outsideF_is k 1 5 false (decide_eq_false hk) W)
      have HE := Lib.hid (HST.out.1 hk)
      clear hk
      go_upto_region 9 with fail
      rw [HZ1.out]
      go_wp2_with (go_at_call 32; (with_reducible refine (HKO.out _).mono ?_); rintro e w' ⟨rfl, rfl⟩)
      go_ret
      exact ⟨ret_int (by rw [← HQS.out, HE.out]; rfl), below_up HB1.out hBZ2⟩
    ·obtain rfl : j = n := by omega
     have HE : Hid (0 = se) := Lib.hid (by have h := HSC.out; rw [← HN.out, List.drop_length, Ak.srtE] at h; exact h)
     have HF := Lib.hid (fun W => outsideF_is f 0 1000 (Ak.rngB f) rfl W)
     have HM := Lib.hid (fun W => outsideF_is m 0 1000 (Ak.rngB m) rfl W)
     have HEQ : Hid ((if Ak.rngB f = true ∧ Ak.rngB m = true then 0 else 2) = q) := Lib.hid (by rw [← HQS.out, ← HE.out, if_pos rfl])
     generalize Ak.rngB f = rf at *
     generalize Ak.rngB m = rm at *
     have hjn : ¬ ((j : Int) < (j : Int)) := by omega
     cases rf
     ·go_wp2_with (go_at_call 32; (first | (with_reducible refine (HF.out _).mono ?_) | (with_reducible refine (HM.out _).mono ?_)); rintro e w' ⟨rfl, rfl⟩)
      go_ret
      exact ⟨ret_int (by rw [← HEQ.out]; rfl), below_up HB1.out hB⟩
     ·cases rm
      ·go_wp2_with (go_at_call 32; (first | (with_reducible refine (HF.out _).mono ?_) | (with_reducible refine (HM.out _).mono ?_)); rintro e w' ⟨rfl, rfl⟩)
       go_ret
       exact ⟨ret_int (by rw [← HEQ.out]; rfl), below_up HB1.out hB⟩
      ·go_wp2_with (go_at_call 32; (first | (with_reducible refine (HF.out _).mono ?_) | (with_reducible refine (HM.out _).mono ?_)); rintro e w' ⟨rfl, rfl⟩)
       go_ret
       exact ⟨ret_int (by rw [← HEQ.out]; rfl), below_up HB1.out hB⟩
 ·rw [if_neg h0] at hq
  have HQQ := Lib.hid hq; clear hq
  have h1 : (ce != 0) = true := by simpa using h0
  go_enter Tryz.func12, Tryz.ntmps12
  go_upto_region 1 with fail
  rw [HW1.out]
  go_wp2_with (go_at_call 8; (with_reducible refine HCC.out.mono ?_); rintro e w4 ⟨rfl, hB4⟩; obtain ⟨q0, q1, q2, q3, q4, q5, q6, q7, q8⟩ := (HQ.out.keep hB4).nine)
  go_ret
  exact ⟨ret_int HQQ.out, below_up HB1.out hB4⟩
namespace Ak
def win {α : Type} (f m : Nat) (L : List α) : List α := if m = 0 then L.drop f else (L.drop f).take m
theorem take_min {α : Type} (m : Nat) (L : List α) : L.take (min m L.length) = L.take m := by
 rcases Nat.le_total m L.length with h | h
 ·rw [Nat.min_eq_left h]
 ·rw [Nat.min_eq_right h, List.take_length, List.take_of_length_le h]
theorem sel_ne {f : Ph → Bool} {x : Nat → Ph} {n : Nat} (h : ∀ i j, i < j → j < n → (x i).id ≠ (x j).id) : (Fd.sel f x n).Pairwise (fun p q => p.id ≠ q.id) := by
 induction n with
 | zero => exact List.Pairwise.nil
 | succ n ih =>
   have ih := ih (fun i j hi hj => h i j hi (by omega))
   unfold Fd.sel
   split
   ·rw [List.pairwise_append]
    refine ⟨ih, by simp, fun p hp q hq => ?_⟩
    rw [List.mem_singleton] at hq; subst hq
    obtain ⟨i, hi, rfl⟩ := Fd.sel_mem hp
    exact h i n hi (by omega)
   ·exact ih
theorem ids_ne {x : Nat → Ph} {n : Nat} (h : Fd.lerr x n = 0) : ∀ i j, i < j → j < n → (x i).id ≠ (x j).id := by
 have lt : ∀ j i, i < j → j < n → (x i).id < (x j).id := by
  intro j
  induction j with
  | zero => intro i hi; omega
  | succ j ih =>
    intro i hi hj
    have h1 := Fd.lerr_rise h j hj
    by_cases e : i = j
    ·subst e; exact h1
    ·have := ih i (by omega) (by omega); omega
 intro i j hi hj e
 have := lt j i hi hj
 omega
end Ak
def IntsNew (w : World) (xs : List Int) (e : Ending) (w' : World) : Prop :=
 ∃ (a : Option Addr) (ca : Nat), e = .returned (.slice a xs.length ca) ∧ RowL w' a xs ∧ (∀ ad : Addr, a = some ad → w.heap.size ≤ ad.block) ∧ Below w.heap.size w w'
theorem idsF_new (a : Option Addr) (n ca : Nat) (x : Nat → Ph) (w : World) (hx : Phs w a n x) (hn : n ≤ 100000) :
  Calls Tryz.prog 81 #[.slice a n ca] w (IntsNew w (Fd.idsL x n)) := by
 obtain ⟨i0, hi0, hy0, hy1, hy2⟩ := info_parts infoInt
 have HI0 := Lib.hid hi0; have HI1 := Lib.hid hy0; have HI2 := Lib.hid hy1; have HI3 := Lib.hid hy2
 have HX := Lib.hid hx
 clear hx hi0 hy0 hy1 hy2
 go_enter Tryz.func81, Tryz.ntmps81
 go_wp2_with fail
 go_loopg [3, 8] n (fun gk v i wr => ∃ j : Nat, j ≤ n ∧ gk = n - j ∧ i = .int .i64 j ∧ wr.ownsRow w.heap.size 3 1 v j ((Fd.idsL x j).map (Value.int .i64)) ∧ Below w.heap.size w wr)
 case atStart => exact ⟨0, by omega, rfl, rfl, World.ownsRow_nil _ _ _ _, Below.refl _ _⟩
 case round =>
  obtain ⟨j, hj, rfl, rfl, hown, hB⟩ := hrel
  have hsz := hB.size
  by_cases hlt : j < n
  ·have HXr := HX.out.keep hB
   obtain ⟨b, off, rfl, hb, hcell⟩ := HXr.row (by omega)
   obtain ⟨q0, q1, q2, q3, q4, q5, q6, q7, q8, q9, q10, q11, q12⟩ := hcell j hlt
   have HY := Lib.hid (Fd.idsL_succ x j)
   clear hcell HXr
   generalize x j = y at *
   generalize hL : Fd.idsL x j = L at *
   obtain ⟨W4, hW4, hP, hz4, hB4⟩ := bxP wr y
   have HW4 := Lib.hid hW4
   have hB04 := below_up hB hB4
   have hsz4 := hB04.size
   have HOWN4 := Lib.hid (own_keepH hown hB4)
   clear hW4 hown hL hz4
   obtain ⟨m0, m1, m2, m3, m4, m5, m6, m7, m8, m9, m10, m11, m12⟩ := hP.photo
   go_upto_region 5 with fail
   rw [HW4.out]
   clear q0 q1 q2 q3 q4 q5 q6 q7 q8 q9 q10 q11 q12
   go_wp2_with (at_builtin; refine wpList_append_own2 _ rfl _ _ 40 rfl w.heap.size 3 i0 (.int .i64 0) 1 8 Tryz.underlying40 HI0.out HI1.out HI2.out HI3.out rfl (by decide) _ _ _ rfl (HOWN4.out.alloc _) ⟨W4.heap.size, 0, none⟩ 1 1 [.int .i64 y.id] rfl (by decide) rfl (cell_one_new _ _ _) (by simp [Value.oneCell']) (by unfold maxLen; omega) (by omega) (by simp; omega) ?_; intro g8 cap8 w8 hown8 hgrow8 hnew8)
   have HOWN8 := Lib.hid hown8
   have HB8 := Lib.hid ((below_allocs hB04 (.cells #[.int .i64 y.id] 3)).grown hgrow8 (by simp; omega) (fun k e => (HOWN4.out.lt k e).1))
   clear hown8 hgrow8 hnew8
   go_roundg (n - (j + 1))
   case rel => exact ⟨j + 1, by omega, rfl, by go_num, by rw [HY.out, List.map_append]; exact HOWN8.out, HB8.out⟩
   case measure => omega
  ·obtain rfl : j = n := by omega
   have hll := Fd.idsL_len x j
   generalize Fd.idsL x j = L at *
   rcases hown.2 with ⟨rfl, h0⟩ | ⟨g, cap, cur, rfl, hg, hcell, hk, hm, _⟩
   ·subst h0
    obtain rfl := List.eq_nil_of_length_eq_zero hll
    clear hown hll
    go_wp2_with (go_at_call 119; (with_reducible refine (clip_ints _ _ _ _ (by omega) (by omega)).mono ?_); rintro e w9 ⟨rfl, rfl⟩)
    go_ret
    exact ⟨none, 0, rfl, RowL.nil _ _, fun ad h => (by cases h), hB⟩
   ·have hm2 : cap ≤ 9223372036854775807 := hm
    have HR := Lib.hid (RowL.of_own hown)
    have HLL := Lib.hid hll
    clear hown hcell hm hll
    go_wp2_with (go_at_call 119; (with_reducible refine (clip_ints _ _ _ _ (by omega) (by omega)).mono ?_); rintro e w9 ⟨rfl, rfl⟩)
    go_ret
    exact ⟨_, _, by rw [HLL.out]; rfl, HR.out, fun ad h => (by cases h; exact hg), hB⟩
def QAskPost (w : World) (l : List Ak.Srt) (fn mn : Nat) (L : List Ph) (e : Ending) (w' : World) : Prop :=
 ∃ (a : Option Addr) (ca : Nat) (M : List Ph), e = .returned (.slice a ((Ak.win fn mn M).map Ph.id).length ca) ∧ List.Perm M L ∧ M.Pairwise (Ak.lt l) ∧ RowL w' a ((Ak.win fn mn M).map Ph.id) ∧ (∀ ad : Addr, a = some ad → w.heap.size ≤ ad.block) ∧ Below w.heap.size w w'
theorem ask_is (c : Cnd) (l : List Ak.Srt) (hk : ∀ s, s ∈ l → 1 ≤ s.by_ ∧ s.by_ ≤ 5) (hl : l.length ≤ 1000000) (sa : Option Addr) (sc fn mn : Nat) (hfm : fn ≤ 1000 ∧ mn ≤ 1000) (a : Option Addr) (n ca : Nat) (x : Nat → Ph) (w : World) (hx : Phs w a n x) (hF : ∀ i, i < n → (x i).Fits) (hl0 : Fd.lerr x n = 0) (hc : c.In w) (hG : c.Fits) (hmx : MxL w) (hc0 : c.err = 0) (hr : RowE Ak.eS w sa l) :
  Calls Tryz.prog 38 #[.slice a n ca, .agg #[.int .i64 c.op, .slice c.ka c.kn c.kc, .string c.text, .int .i64 c.low, .int .i64 c.high, .slice c.aa c.an c.ac, .slice sa l.length sc, .int .i64 fn, .int .i64 mn]] w (QAskPost w l fn mn (Fd.sel (fun p => c.holds p) x n)) := by
 have hfew := Fd.lerr_few hl0
 have hle := Fd.sel_le (fun p => c.holds p) x n
 obtain ⟨W1, hW1, hQ, hz1, hB1⟩ := box w #[.int .i64 c.op, .slice c.ka c.kn c.kc, .string c.text, .int .i64 c.low, .int .i64 c.high, .slice c.aa c.an c.ac, .slice sa l.length sc, .int .i64 fn, .int .i64 mn] 33
 have HW1 := Lib.hid hW1
 have HC3 := Lib.hid (nodeOf_is w hmx c W1 hc hG (Cnd.good_of hc hc0) hB1)
 have hR : ∀ i, i < n → (x i).Right := fun i hi => Ph.right_of (hF i hi) (Fd.lerr_each hl0 i hi)
 have HH := Lib.hid (fun (v : Value) (D : Nat → Prop) W (hb : Below w.heap.size w W) (hN : NodeIs (fun p => c.holds p) D W v) (hD : ∀ b, D b → b < W.heap.size) => holding_is (fun p => c.holds p) D v a n ca x W (hx.keep hb) hR hN hD hfew)
 have hne := Ak.sel_ne (f := fun p => c.holds p) (Ak.ids_ne hl0)
 have hdm : ∀ p, p ∈ Fd.sel (fun p => c.holds p) x n → Ak.Dom p := fun p hp => by
  obtain ⟨i, hi, rfl⟩ := Fd.sel_mem hp
  exact ⟨(hR i hi).shape.1, (hR i hi).shape.2.1⟩
 have HIN0 := Lib.hid (fun W (hb : Below w.heap.size w W) p (hp : p ∈ Fd.sel (fun p => c.holds p) x n) => (by
  obtain ⟨i, hi, rfl⟩ := Fd.sel_mem hp
  exact (hx.each i hi).keep hb : p.In W))
 have hq6 : Ak.Sorts W1 w.heap.size sa sc l := ⟨hQ.nine.2.2.2.2.2.2.1, hr.keep hB1⟩
 generalize hS : Fd.sel (fun p => c.holds p) x n = S at *
 have HSO := Lib.hid (fun (a8 : Option Addr) (c8 : Nat) W (hb : Below W1.heap.size W1 W) (hrow : RowE phE W a8 S) => sortedPh_is l hk hl w.heap.size sa sc S a8 c8 (by omega) hdm hne W (hq6.keep hb) hrow)
 obtain ⟨q0, q1, q2, q3, q4, q5, q6, q7, q8⟩ := hQ.nine
 have HQ := Lib.hid hQ; have HB1 := Lib.hid hB1
 obtain ⟨ns, hns⟩ : ∃ ns, S.length = ns := ⟨_, rfl⟩
 have HNS := Lib.hid hns
 have hns2 : ns ≤ 1000 := by omega
 clear hS hW1 hz1 hc hG hr hQ hB1 hx hF hl0 hmx hc0 hR hne hdm hq6 hle hns
 have hz1 : w.heap.size ≤ W1.heap.size := HB1.out.size
 go_enter Tryz.func38, Tryz.ntmps38
 go_upto_region 1 with fail
 rw [HW1.out]
 go_upto_region 2 with (first
  | (go_at_call 40; (with_reducible refine HC3.out.mono ?_); rintro e w7 ⟨v7, rfl, hN7, hB7⟩; have hB7w := below_up HB1.out hB7)
  | (go_at_call 39; (with_reducible refine (HH.out _ _ _ hB7w hN7 (fun b hb => Dm.lt HB1.out.size hB7.size hb)).mono ?_); rintro e w8 ⟨a8, c8, rfl, hk8, hm8, hS8, hB8⟩; have HS8 := Lib.hid (RowE.of_phs hS8); have HB8 := Lib.hid (below_up hB7 hB8); clear hS8; rw [HNS.out])
  | (go_at_call 78; (with_reducible refine (by have := HSO.out a8 c8 w8 HB8.out HS8.out; rw [HNS.out] at this; exact this : Calls Tryz.prog 78 #[.slice a8 ns c8, .func (.func 79) #[] #[.pointer (some ⟨w.heap.size, 0, none⟩)]] w8 (SortedPost w8 l S)).mono ?_); rintro e w6 ⟨a6, M, rfl, hp6, hs6, hrow6, hsome6, hB6⟩; rw [HNS.out]))
 obtain ⟨q0, q1, q2, q3, q4, q5, q6, q7, q8⟩ := (HQ.out.keep (below_up HB8.out hB6)).nine
 have hml : M.length = ns := by rw [hp6.length_eq, HNS.out]
 have HML := Lib.hid hml
 have HB6 := Lib.hid (below_up HB1.out (below_up HB8.out hB6))
 have HINM := Lib.hid (fun p (hp : p ∈ M) => HIN0.out w6 HB6.out p (hp6.mem_iff.1 hp))
 have HMP := Lib.hid (And.intro hp6 hs6)
 have HROW := Lib.hid hrow6
 clear hp6 hs6 hrow6 hml hB6 hB7w hB7 hN7
 by_cases hz : ns = 0
 ·subst hz
  obtain rfl := List.eq_nil_of_length_eq_zero HML.out
  have hmin1 : min (fn : Int) (0 : Int) = 0 := by omega
  have hmin3 : min (fn : Int) ((0 : Nat) : Int) = 0 := by omega
  have HDL : Hid ((([] : List Ph).drop fn).length = 0) := Lib.hid (by simp)
  have HIN := Lib.hid (fun p (hp : p ∈ ([] : List Ph).drop fn) => HINM.out p (List.mem_of_mem_drop hp))
  obtain ⟨M, hM⟩ : ∃ M : List Ph, ([] : List Ph) = M := ⟨_, rfl⟩
  rw [hM] at HDL HIN HMP
  clear hM HINM HML HROW
  have HD : Hid (∀ a, RowE phE w6 a (M.drop fn)) := Lib.hid (fun a h => by rw [HDL.out] at h; omega)
  cases a6 with
  | none =>
    have HD := Lib.hid (HD.out none)
    go_upto_region 3 with fail
    by_cases hm0 : mn = 0
    ·have hm0' : ¬ ((0 : Int) < (mn : Int)) := by omega
     have hi := idsF_new (none) (0) (0) (fun i => (M.drop fn)[i]?.getD Ph.zero) w6 (by have := Phs.of_rowE HD.out HIN.out; rwa [HDL.out] at this) (by have := HDL.out; omega)
     have hw : Fd.idsL (fun i => (M.drop fn)[i]?.getD Ph.zero) (0) = (Ak.win fn mn M).map Ph.id := by
      have h1 := idsL_list (M.drop fn)
      rw [HDL.out] at h1
      rw [h1]; unfold Ak.win; rw [if_pos hm0]
     rw [hw] at hi
     obtain ⟨xs, hxs⟩ : ∃ xs, (Ak.win fn mn M).map Ph.id = xs := ⟨_, rfl⟩
     rw [hxs] at hi
     have HI := Lib.hid hi; have HXS := Lib.hid hxs
     clear hi hw hxs
     go_wp2_with (go_at_call 81; (with_reducible refine HI.out.mono ?_); rintro e w9 ⟨a9, c9, rfl, hr9, hN9, hB9⟩)
     go_ret
     exact ⟨a9, c9, M, by rw [HXS.out]; rfl, HMP.out.1, HMP.out.2, by rw [HXS.out]; exact hr9, fun ad h => Nat.le_trans HB6.out.size (hN9 ad h), below_up HB6.out hB9⟩
    ·have hm0' : ((0 : Int) < (mn : Int)) := by omega
     have hmin2 : min (mn : Int) (0 : Int) = 0 := by omega
     have hi := fun cc => idsF_new (none) 0 cc (fun i => (M.drop fn)[i]?.getD Ph.zero) w6 (by have := Phs.of_rowE HD.out HIN.out; rwa [HDL.out] at this) (by omega)
     have hw : Fd.idsL (fun i => (M.drop fn)[i]?.getD Ph.zero) 0 = (Ak.win fn mn M).map Ph.id := by
      have h0 := HDL.out
      have h1 := idsL_list (M.drop fn)
      rw [h0] at h1
      rw [h1]; unfold Ak.win; rw [if_neg hm0, List.take_of_length_le (by omega)]
     rw [hw] at hi
     obtain ⟨xs, hxs⟩ : ∃ xs, (Ak.win fn mn M).map Ph.id = xs := ⟨_, rfl⟩
     rw [hxs] at hi
     have HI := Lib.hid hi; have HXS := Lib.hid hxs
     clear hi hw hxs
     go_wp2_with (go_at_call 81; (with_reducible refine (HI.out _).mono ?_); rintro e w9 ⟨a9, c9, rfl, hr9, hN9, hB9⟩)
     go_ret
     exact ⟨a9, c9, M, by rw [HXS.out]; rfl, HMP.out.1, HMP.out.2, by rw [HXS.out]; exact hr9, fun ad h => Nat.le_trans HB6.out.size (hN9 ad h), below_up HB6.out hB9⟩
  | some p6 =>
    have HD := Lib.hid (HD.out (some p6))
    go_upto_region 3 with fail
    by_cases hm0 : mn = 0
    ·have hm0' : ¬ ((0 : Int) < (mn : Int)) := by omega
     have hi := idsF_new (some p6) (0) (0) (fun i => (M.drop fn)[i]?.getD Ph.zero) w6 (by have := Phs.of_rowE HD.out HIN.out; rwa [HDL.out] at this) (by have := HDL.out; omega)
     have hw : Fd.idsL (fun i => (M.drop fn)[i]?.getD Ph.zero) (0) = (Ak.win fn mn M).map Ph.id := by
      have h1 := idsL_list (M.drop fn)
      rw [HDL.out] at h1
      rw [h1]; unfold Ak.win; rw [if_pos hm0]
     rw [hw] at hi
     obtain ⟨xs, hxs⟩ : ∃ xs, (Ak.win fn mn M).map Ph.id = xs := ⟨_, rfl⟩
     rw [hxs] at hi
     have HI := Lib.hid hi; have HXS := Lib.hid hxs
     clear hi hw hxs
     go_wp2_with (go_at_call 81; (with_reducible refine HI.out.mono ?_); rintro e w9 ⟨a9, c9, rfl, hr9, hN9, hB9⟩)
     go_ret
     exact ⟨a9, c9, M, by rw [HXS.out]; rfl, HMP.out.1, HMP.out.2, by rw [HXS.out]; exact hr9, fun ad h => Nat.le_trans HB6.out.size (hN9 ad h), below_up HB6.out hB9⟩
    ·have hm0' : ((0 : Int) < (mn : Int)) := by omega
     have hmin2 : min (mn : Int) (0 : Int) = 0 := by omega
     have hi := fun cc => idsF_new (some p6) 0 cc (fun i => (M.drop fn)[i]?.getD Ph.zero) w6 (by have := Phs.of_rowE HD.out HIN.out; rwa [HDL.out] at this) (by omega)
     have hw : Fd.idsL (fun i => (M.drop fn)[i]?.getD Ph.zero) 0 = (Ak.win fn mn M).map Ph.id := by
      have h0 := HDL.out
      have h1 := idsL_list (M.drop fn)
      rw [h0] at h1
      rw [h1]; unfold Ak.win; rw [if_neg hm0, List.take_of_length_le (by omega)]
     rw [hw] at hi
     obtain ⟨xs, hxs⟩ : ∃ xs, (Ak.win fn mn M).map Ph.id = xs := ⟨_, rfl⟩
     rw [hxs] at hi
     have HI := Lib.hid hi; have HXS := Lib.hid hxs
     clear hi hw hxs
     go_wp2_with (go_at_call 81; (with_reducible refine (HI.out _).mono ?_); rintro e w9 ⟨a9, c9, rfl, hr9, hN9, hB9⟩)
     go_ret
     exact ⟨a9, c9, M, by rw [HXS.out]; rfl, HMP.out.1, HMP.out.2, by rw [HXS.out]; exact hr9, fun ad h => Nat.le_trans HB6.out.size (hN9 ad h), below_up HB6.out hB9⟩
 ·obtain ⟨g, rfl⟩ := hsome6 (by rw [HNS.out]; omega)
  clear hsome6
  have HIN := Lib.hid (fun p (hp : p ∈ M.drop fn) => HINM.out p (List.mem_of_mem_drop hp))
  by_cases hf : fn < ns
  ·have hmin1 : min (fn : Int) (ns : Int) = (fn : Int) := by omega
   have hfi : (fn : Int) ≤ (ns : Int) := by omega
   have hfe : ¬ ns = fn := by omega
   obtain ⟨K, hK⟩ : ∃ K, ns - fn = K := ⟨_, rfl⟩
   have HDL : Hid ((M.drop fn).length = K) := Lib.hid (by rw [List.length_drop, HML.out]; exact hK)
   have HD : Hid (RowE phE w6 (some ⟨g, fn * 13, none⟩) (M.drop fn)) := Lib.hid (by have := HROW.out.drop fn; rwa [Nat.zero_add] at this)
   have hK2 : K ≤ 1000 := by omega
   go_upto_region 3 with fail
   clear hK hmin1 hfi hfe
   by_cases hm0 : mn = 0
   ·have hm0' : ¬ ((0 : Int) < (mn : Int)) := by omega
    have hi := idsF_new (some ⟨g, fn * 13, none⟩) (K) (K) (fun i => (M.drop fn)[i]?.getD Ph.zero) w6 (by rw [← HDL.out]; exact Phs.of_rowE HD.out HIN.out) (by have := HDL.out; omega)
    have hw : Fd.idsL (fun i => (M.drop fn)[i]?.getD Ph.zero) (K) = (Ak.win fn mn M).map Ph.id := by
     rw [← HDL.out, idsL_list]; unfold Ak.win; rw [if_pos hm0]
    rw [hw] at hi
    obtain ⟨xs, hxs⟩ : ∃ xs, (Ak.win fn mn M).map Ph.id = xs := ⟨_, rfl⟩
    rw [hxs] at hi
    have HI := Lib.hid hi; have HXS := Lib.hid hxs
    clear hi hw hxs
    go_wp2_with (go_at_call 81; (with_reducible refine HI.out.mono ?_); rintro e w9 ⟨a9, c9, rfl, hr9, hN9, hB9⟩)
    go_ret
    exact ⟨a9, c9, M, by rw [HXS.out]; rfl, HMP.out.1, HMP.out.2, by rw [HXS.out]; exact hr9, fun ad h => Nat.le_trans HB6.out.size (hN9 ad h), below_up HB6.out hB9⟩
   ·have hm0' : ((0 : Int) < (mn : Int)) := by omega
    obtain ⟨k2, hk2⟩ : ∃ k2 : Nat, min mn (K) = k2 := ⟨_, rfl⟩
    have hmin2 : min (mn : Int) ((K : Nat) : Int) = (k2 : Int) := by omega
    have hk22 : k2 ≤ K := by omega
    have hk23 : (k2 : Int) ≤ ((K : Nat) : Int) := by omega
    have ht : ((M.drop fn).take k2).length = k2 := by rw [List.length_take, HDL.out]; omega
    have hi := fun cc => idsF_new (some ⟨g, fn * 13, none⟩) k2 cc (fun i => ((M.drop fn).take k2)[i]?.getD Ph.zero) w6 (by have := Phs.of_rowE (HD.out.take k2) (fun p hp => HIN.out p (List.mem_of_mem_take hp)); rwa [ht] at this) (by have := HDL.out; omega)
    have hw : Fd.idsL (fun i => ((M.drop fn).take k2)[i]?.getD Ph.zero) k2 = (Ak.win fn mn M).map Ph.id := by
     have h1 := idsL_list ((M.drop fn).take k2)
     rw [ht] at h1
     rw [h1]
     unfold Ak.win
     rw [if_neg hm0]
     congr 1
     rw [← hk2, ← HDL.out]
     exact Ak.take_min _ _
    rw [hw] at hi
    obtain ⟨xs, hxs⟩ : ∃ xs, (Ak.win fn mn M).map Ph.id = xs := ⟨_, rfl⟩
    rw [hxs] at hi
    have HI := Lib.hid hi; have HXS := Lib.hid hxs
    clear hi hw hxs hk2 ht
    go_wp2_with (go_at_call 81; (with_reducible refine (HI.out _).mono ?_); rintro e w9 ⟨a9, c9, rfl, hr9, hN9, hB9⟩)
    go_ret
    exact ⟨a9, c9, M, by rw [HXS.out]; rfl, HMP.out.1, HMP.out.2, by rw [HXS.out]; exact hr9, fun ad h => Nat.le_trans HB6.out.size (hN9 ad h), below_up HB6.out hB9⟩
  ·have hmin1 : min (fn : Int) (ns : Int) = (ns : Int) := by omega
   have HDL : Hid ((M.drop fn).length = 0) := Lib.hid (by rw [List.length_drop, HML.out]; omega)
   have HD : Hid (RowE phE w6 (some ⟨g, 0, none⟩) (M.drop fn)) := Lib.hid (fun h => by rw [HDL.out] at h; omega)
   go_upto_region 3 with fail
   clear hmin1
   by_cases hm0 : mn = 0
   ·have hm0' : ¬ ((0 : Int) < (mn : Int)) := by omega
    have hi := idsF_new (some ⟨g, 0, none⟩) (0) (0) (fun i => (M.drop fn)[i]?.getD Ph.zero) w6 (by have := Phs.of_rowE HD.out HIN.out; rwa [HDL.out] at this) (by have := HDL.out; omega)
    have hw : Fd.idsL (fun i => (M.drop fn)[i]?.getD Ph.zero) (0) = (Ak.win fn mn M).map Ph.id := by
     have h1 := idsL_list (M.drop fn)
     rw [HDL.out] at h1
     rw [h1]; unfold Ak.win; rw [if_pos hm0]
    rw [hw] at hi
    obtain ⟨xs, hxs⟩ : ∃ xs, (Ak.win fn mn M).map Ph.id = xs := ⟨_, rfl⟩
    rw [hxs] at hi
    have HI := Lib.hid hi; have HXS := Lib.hid hxs
    clear hi hw hxs
    go_wp2_with (go_at_call 81; (with_reducible refine HI.out.mono ?_); rintro e w9 ⟨a9, c9, rfl, hr9, hN9, hB9⟩)
    go_ret
    exact ⟨a9, c9, M, by rw [HXS.out]; rfl, HMP.out.1, HMP.out.2, by rw [HXS.out]; exact hr9, fun ad h => Nat.le_trans HB6.out.size (hN9 ad h), below_up HB6.out hB9⟩
   ·have hm0' : ((0 : Int) < (mn : Int)) := by omega
    have hmin2 : min (mn : Int) (0 : Int) = 0 := by omega
    have hi := fun cc => idsF_new (some ⟨g, 0, none⟩) 0 cc (fun i => (M.drop fn)[i]?.getD Ph.zero) w6 (by have := Phs.of_rowE HD.out HIN.out; rwa [HDL.out] at this) (by omega)
    have hw : Fd.idsL (fun i => (M.drop fn)[i]?.getD Ph.zero) 0 = (Ak.win fn mn M).map Ph.id := by
     have h0 := HDL.out
     have h1 := idsL_list (M.drop fn)
     rw [h0] at h1
     rw [h1]; unfold Ak.win; rw [if_neg hm0, List.take_of_length_le (by omega)]
    rw [hw] at hi
    obtain ⟨xs, hxs⟩ : ∃ xs, (Ak.win fn mn M).map Ph.id = xs := ⟨_, rfl⟩
    rw [hxs] at hi
    have HI := Lib.hid hi; have HXS := Lib.hid hxs
    clear hi hw hxs
    go_wp2_with (go_at_call 81; (with_reducible refine (HI.out _).mono ?_); rintro e w9 ⟨a9, c9, rfl, hr9, hN9, hB9⟩)
    go_ret
    exact ⟨a9, c9, M, by rw [HXS.out]; rfl, HMP.out.1, HMP.out.2, by rw [HXS.out]; exact hr9, fun ad h => Nat.le_trans HB6.out.size (hN9 ad h), below_up HB6.out hB9⟩
def QAskPost2 (w : World) (l : List Ak.Srt) (fn mn : Nat) (L : List Ph) (e : Ending) (w' : World) : Prop :=
 ∃ (a : Option Addr) (ca : Nat) (M : List Ph), e = .returned (.tuple #[.slice a ((Ak.win fn mn M).map Ph.id).length ca, .int .i64 0]) ∧ List.Perm M L ∧ M.Pairwise (Ak.lt l) ∧ RowL w' a ((Ak.win fn mn M).map Ph.id) ∧ (∀ ad : Addr, a = some ad → w.heap.size ≤ ad.block) ∧ Below w.heap.size w w'
theorem askOk_is (c : Cnd) (l : List Ak.Srt) (sa : Option Addr) (sc fn mn : Nat) (hsc : l.length ≤ sc) (hsm : sc ≤ 9223372036854775807) (a : Option Addr) (n ca : Nat) (x : Nat → Ph) (w : World) (hx : Phs w a n x) (hF : ∀ i, i < n → (x i).Fits) (hn : n ≤ 9223372036854775807) (hc : c.In w) (hG : c.Fits) (hmx : MxL w) (hr : RowE Ak.eS w sa l) (hl0 : Fd.lerr x n = 0) (hq0 : Ak.qErr c.err l fn mn = 0) :
  Calls Tryz.prog 14 #[.slice a n ca, .agg #[.int .i64 c.op, .slice c.ka c.kn c.kc, .string c.text, .int .i64 c.low, .int .i64 c.high, .slice c.aa c.an c.ac, .slice sa l.length sc, .int .i64 fn, .int .i64 mn]] w (QAskPost2 w l fn mn (Fd.sel (fun p => c.holds p) x n)) := by
 obtain ⟨e1, e2, e3, e4, e5⟩ := Ak.qErr_0 hq0
 have e4 := of_decide_eq_true e4
 have e5 := of_decide_eq_true e5
 obtain ⟨W1, hW1, hQ, hz1, hB1⟩ := box w #[.int .i64 c.op, .slice c.ka c.kn c.kc, .string c.text, .int .i64 c.low, .int .i64 c.high, .slice c.aa c.an c.ac, .slice sa l.length sc, .int .i64 fn, .int .i64 mn] 33
 have HW1 := Lib.hid hW1
 have HC1 := Lib.hid (check_is a n ca x W1 (hx.keep hB1) hF hn)
 have HC2 := Lib.hid (fun W (hb : Below w.heap.size w W) => checkQ_is c l sa sc fn mn W (Cnd.In.keep hb hc) hG (hr.keep hb) hsc hsm)
 have HC3 := Lib.hid (fun W (hb : Below w.heap.size w W) => ask_is c l (Ak.srtE_by e3) (by omega) sa sc fn mn (by omega) a n ca x W (hx.keep hb) hF hl0 (Cnd.In.keep hb hc) hG (hmx.below hb) e1 (hr.keep hb))
 rw [hl0] at HC1
 rw [hq0] at HC2
 have HQ := Lib.hid hQ; have HB1 := Lib.hid hB1
 obtain ⟨q0, q1, q2, q3, q4, q5, q6, q7, q8⟩ := hQ.nine
 clear hx hF hc hG hr hW1 hz1 hQ hB1 hmx hl0 hq0 e1 e2 e3 e4 e5
 go_enter Tryz.func14, Tryz.ntmps14
 go_upto_region 1 with fail
 rw [HW1.out]
 go_wp2_with (first
  | (go_at_call 37; (with_reducible refine HC1.out.mono ?_); rintro e w4 ⟨rfl, hB4⟩; have hB4w := below_up HB1.out hB4; obtain ⟨q0, q1, q2, q3, q4, q5, q6, q7, q8⟩ := (HQ.out.keep hB4).nine)
  | (go_at_call 12; (with_reducible refine (HC2.out _ hB4w).mono ?_); rintro e w5 ⟨rfl, hB5⟩; have hB5w := below_up hB4w hB5; obtain ⟨q0, q1, q2, q3, q4, q5, q6, q7, q8⟩ := (HQ.out.keep (below_up hB4 hB5)).nine)
  | (go_at_call 38; (with_reducible refine (HC3.out _ hB5w).mono ?_); rintro e w6 ⟨a6, c6, M, rfl, hp6, hs6, hr6, hN6, hB6⟩))
 go_ret2
 exact ⟨a6, c6, M, by rw [List.length_map]; rfl, hp6, hs6, hr6, fun ad h => Nat.le_trans hB5w.size (hN6 ad h), below_up hB5w hB6⟩
end Go.Proofs.YtimjmjmpaicdbaaGreatDoor
namespace Go.Proofs.YtimjmjmpaicdbaaGreatDoor
open Go.ChangeShapes Go.WideShapes Go.ChangeAt Go.RowKit Go.Joins Go.Deep
section
variable {H : Type} {enc : TypeId × Value → H} {w : World} {base : Nat} {spare : Nat → Bool} {held : Bool}
theorem cellsSort : Tryz.prog.cellsOf 70 = 2 := by kernel_rfl
theorem cellsQuestion : Tryz.prog.cellsOf 33 = 9 := by kernel_rfl
theorem open_sortsF {v : Value} {n : Nat} {y : DataW H × List MemPlace} (hf : DataW.trod enc Tryz.prog w base spare held n 31 [v] = some y) :
  ∃ (a : Option Addr) (cap : Nat) (l : List Ak.Srt), v = .slice a l.length cap ∧ l.length ≤ cap ∧ cap ≤ 9223372036854775807 ∧ RowE Ak.eS w a l := by
 rcases open_slice_pairs Tryz.underlying31 Tryz.underlying70 cellsSort rfl rfl (by kernel_rfl) (by kernel_rfl) hf with ⟨hcs, _⟩ | ⟨x, len, c, m, n, V0, V1, D0, D1, P0, P1, hcs, _, hl, hm, hmm, _, hx⟩
 ·simp at hcs
  subst hcs
  exact ⟨none, 0, [], rfl, by simp, by omega, RowE.nil _ _ _⟩
 ·simp at hcs
  subst hcs
  have hlm : len ≤ m := by rw [hmm]; split <;> omega
  have each : ∀ i, i < m → ∃ s : Ak.Srt, w.cell? (x.add (i * 2)) = some (.int .i64 s.by_) ∧ w.cell? (x.add (i * 2 + 1)) = some (.bool s.down) := by
   intro i hi
   obtain ⟨e0, e1, t0, t1⟩ := hx i hi
   obtain ⟨n0, q0, _, w0⟩ := DataW.trod_int Tryz.underlying3 t0
   obtain ⟨n1, q1, _⟩ := DataW.trod_bool Tryz.underlying4 t1
   simp only [List.cons.injEq, and_true] at q0 q1
   exact ⟨⟨n0, n1⟩, by rw [e0, q0], by rw [e1, q1]⟩
  obtain ⟨Q, hQ⟩ : ∃ Q : Nat → Ak.Srt, ∀ i, i < m → w.cell? (x.add (i * 2)) = some (.int .i64 (Q i).by_) ∧ w.cell? (x.add (i * 2 + 1)) = some (.bool (Q i).down) :=
   ⟨fun i => if h : i < m then Classical.choose (each i h) else ⟨0, false⟩, fun i hi => by simp only [dif_pos hi]; exact Classical.choose_spec (each i hi)⟩
  have hlen : ((List.range len).map Q).length = len := by simp
  refine ⟨some x, c, (List.range len).map Q, by rw [hlen], by rw [hlen]; exact hl, by unfold maxLen at hm; omega, fun h0 => ?_⟩
  rw [hlen] at h0
  obtain ⟨b, off, spot⟩ := x
  have hc := (hQ 0 (by omega)).1
  have hspot : spot = none := by simpa [Addr.add] using World.cell?_spot hc
  subst hspot
  refine ⟨b, off, rfl, by simpa [Addr.add] using World.block_lt_of_cell? w _ hc, fun i s hs j v hv => ?_⟩
  have hi : i < len := by have := (List.getElem?_eq_some_iff.1 hs).1; omega
  rw [List.getElem?_map, List.getElem?_range hi] at hs
  obtain rfl : Q i = s := Option.some.inj hs
  obtain ⟨h1, h2⟩ := hQ i (by omega)
  rw [addr_add] at h1 h2
  match j, hv with
  | 0, hv => cases hv; exact h1
  | 1, hv => cases hv; exact h2
theorem list9 {α : Type} {cs : List α} (h : cs.length = 9) : ∃ c0 c1 c2 c3 c4 c5 c6 c7 c8, cs = [c0, c1, c2, c3, c4, c5, c6, c7, c8] := by
 match cs, h with
 | [c0, c1, c2, c3, c4, c5, c6, c7, c8], _ => exact ⟨c0, c1, c2, c3, c4, c5, c6, c7, c8, rfl⟩
theorem open_question_cells {cs : List Value} {fuel : Nat} {y : DataW H × List MemPlace} (hf : DataW.trod enc Tryz.prog w base spare held fuel 33 cs = some y) :
  ∃ (c : Cnd) (l : List Ak.Srt) (sa : Option Addr) (sc : Nat) (fn mn : Int), cs = [.int .i64 c.op, .slice c.ka c.kn c.kc, .string c.text, .int .i64 c.low, .int .i64 c.high, .slice c.aa c.an c.ac, .slice sa l.length sc, .int .i64 fn, .int .i64 mn] ∧ c.In w ∧ c.Fits ∧ l.length ≤ sc ∧ sc ≤ 9223372036854775807 ∧ RowE Ak.eS w sa l := by
 obtain ⟨xs, n, _, _, hl, hlen, hg⟩ := DataW.trod_struct Tryz.underlying33 hf
 have hlen : xs.length = 4 := hlen
 rw [cellsQuestion] at hl
 obtain ⟨c0, c1, c2, c3, c4, c5, c6, c7, c8, rfl⟩ := list9 hl
 obtain ⟨y0, e0⟩ := some_at hlen (show 0 < 4 by omega)
 obtain ⟨y1, e1⟩ := some_at hlen (show 1 < 4 by omega)
 obtain ⟨y2, e2⟩ := some_at hlen (show 2 < 4 by omega)
 obtain ⟨y3, e3⟩ := some_at hlen (show 3 < 4 by omega)
 have g0 : DataW.trod enc Tryz.prog w base spare held n 25 [c0, c1, c2, c3, c4, c5] = some y0 := (hg 0 _ rfl).trans e0
 have g1 : DataW.trod enc Tryz.prog w base spare held n 31 [c6] = some y1 := (hg 1 _ rfl).trans e1
 have g2 : DataW.trod enc Tryz.prog w base spare held n 3 [c7] = some y2 := (hg 2 _ rfl).trans e2
 have g3 : DataW.trod enc Tryz.prog w base spare held n 3 [c8] = some y3 := (hg 3 _ rfl).trans e3
 clear hg hf
 obtain ⟨c, hc, hI, hF⟩ := open_cond_cells n g0
 obtain ⟨sa, sc, l, rfl, hl1, hl2, hr⟩ := open_sortsF g1
 obtain ⟨fn, q2, _, _⟩ := DataW.trod_int Tryz.underlying3 g2
 obtain ⟨mn, q3, _, _⟩ := DataW.trod_int Tryz.underlying3 g3
 simp only [List.cons.injEq, and_true] at q2 q3
 subst q2 q3
 rw [hI.cells] at hc
 simp only [List.cons.injEq, and_true] at hc
 obtain ⟨rfl, rfl, rfl, rfl, rfl, rfl⟩ := hc
 exact ⟨c, l, sa, sc, fn, mn, rfl, hI, hF, hl1, hl2, hr⟩
theorem open_question {r : Reach} {b0 : Nat} {v : Value} {d : DataW H} {p : List MemPlace} (hv : Value.okWide Tryz.prog w r b0 33 v) (h : DataW.Trod enc Tryz.prog w base spare held 33 v d p) :
  ∃ (c : Cnd) (l : List Ak.Srt) (sa : Option Addr) (sc : Nat) (fn mn : Int), v = .agg #[.int .i64 c.op, .slice c.ka c.kn c.kc, .string c.text, .int .i64 c.low, .int .i64 c.high, .slice c.aa c.an c.ac, .slice sa l.length sc, .int .i64 fn, .int .i64 mn] ∧ c.In w ∧ c.Fits ∧ l.length ≤ sc ∧ sc ≤ 9223372036854775807 ∧ RowE Ak.eS w sa l := by
 obtain ⟨cs, rfl, hsz⟩ := okWide_struct Tryz.underlying33 hv
 obtain ⟨fuel, hf⟩ := h
 have hf : DataW.trod enc Tryz.prog w base spare held fuel 33 cs.toList = some (d, p) := by simpa [Value.cells] using hf
 obtain ⟨c, l, sa, sc, fn, mn, hq, h1, h2, h3, h4, h5⟩ := open_question_cells hf
 refine ⟨c, l, sa, sc, fn, mn, ?_, h1, h2, h3, h4, h5⟩
 rw [← hq]
end
end Go.Proofs.YtimjmjmpaicdbaaGreatDoor
namespace Go.Proofs.YtimjmjmpaicdbaaGreatDoor
open Go.RowKit Go.Sort Go.Shelf
namespace Cnd
def of (op : Int) (ka : Option Addr) (kn : Nat) (kids : Nat → Cnd) : Cnd := .mk op ka kn kn kids ⟨#[]⟩ 0 0 none 0 0 (fun _ => 0) (fun _ => 0)
end Cnd
namespace Ak
theorem win_map {α β : Type} (g : α → β) (f m : Nat) (L : List α) : (win f m L).map g = win f m (L.map g) := by
 unfold win; split
 ·rw [List.map_drop]
 ·rw [List.map_take, List.map_drop]
theorem win_len {α : Type} (f m : Nat) (L : List α) : (win f m L).length ≤ L.length := by
 unfold win; split
 ·rw [List.length_drop]; omega
 ·rw [List.length_take, List.length_drop]; omega
end Ak
theorem RowL.grown {w w' : World} {a : Option Addr} {xs : List Int} {r : Option Nat} (h : RowL w a xs) (hg : w.grownBy w' r) (hne : ∀ ad : Addr, a = some ad → r ≠ some ad.block) : RowL w' a xs := by
 intro hl
 obtain ⟨b, off, rfl, hb, hcell⟩ := h hl
 have h1 := hg.block b hb (fun e => hne _ rfl e.symm)
 refine ⟨b, off, rfl, Nat.lt_of_lt_of_le hb hg.size, fun i hi => ?_⟩
 rw [← hcell i hi]
 simp only [World.cell?, h1]
end Go.Proofs.YtimjmjmpaicdbaaGreatDoor
