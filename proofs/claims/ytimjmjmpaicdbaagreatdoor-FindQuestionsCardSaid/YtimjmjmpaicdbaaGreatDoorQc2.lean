/- Parts of the proof, no condition: PgLaw, RefQ, BldLays, Bld, QnSmall. -/
import Derived.Test.YtimjmjmpaicdbaaGreatDoorPc20
import Derived.Test.YtimjmjmpaicdbaaGreatDoorQc1
import Derived.Sort.Walk0
import Derived.Shelf.Strings.Builder1
import Derived.Shelf.Strings.Builder2
import Derived.Shelf.Strings.BuilderF
import Derived.Test.YtimjmjmpaicdbaaGreatDoorProg
import Derived.Shelf.Strings.BuilderK
set_option maxRecDepth 100000
set_option maxHeartbeats 4000000
set_option linter.unusedSimpArgs false
set_option linter.unusedVariables false
namespace Go.Proofs.YtimjmjmpaicdbaaGreatDoor
open Go.RowKit Go.Sort Go.Shelf
namespace Ak
structure Good {α : Type} (f : α → α → Int) : Prop where
 anti : ∀ a b, f b a = - f a b
 tr : ∀ a b c, f a b ≤ 0 → f b c ≤ 0 → f a c ≤ 0
def lex {α : Type} (f g : α → α → Int) (a b : α) : Int := if f a b = 0 then g a b else f a b
def ci (x y : Int) : Int := if x < y then -1 else if y < x then 1 else 0
def cl (x y : List UInt8) : Int := if x < y then -1 else if x = y then 0 else 1
def cs (x y : ByteArray) : Int := cl x.toList y.toList
structure Srt where
 by_ : Int
 down : Bool
def raw (k : Int) (a b : Ph) : Int := if k = 1 then ci a.id b.id else if k = 2 then ci a.mom b.mom else if k = 3 then ci a.stars b.stars else if k = 4 then ci (a.W * a.H) (b.W * b.H) else if k = 5 then cs a.cap b.cap else 0
def dir (down : Bool) (n : Int) : Int := if down = true then - n else n
def one (s : Srt) (a b : Ph) : Int := if s.by_ = 2 ∧ decide (a.mom < 0) ≠ decide (b.mom < 0) then ci b.mom a.mom else dir s.down (raw s.by_ a b)
def many : List Srt → Ph → Ph → Int
 | [] => fun a b => ci a.id b.id
 | s :: r => lex (one s) (many r)
def lt (l : List Srt) (a b : Ph) : Prop := many l a b < 0
def neg (l : List Srt) (a b : Ph) : Bool := decide (many l a b < 0)
end Ak
theorem nanI_is (x : Int) (w : World) : Calls Tryz.prog 88 #[.int .i64 x] w fun e w' => e = .returned (.bool false) ∧ w = w' := by
 go_enter Tryz.func88, Tryz.ntmps88
 go_wp2
 go_ret
 exact ⟨by simp, rfl⟩
theorem nanStr_is (x : ByteArray) (w : World) : Calls Tryz.prog 89 #[.string x] w fun e w' => e = .returned (.bool false) ∧ w = w' := by
 go_enter Tryz.func89, Tryz.ntmps89
 go_wp2
 go_ret
 exact ⟨by simp, rfl⟩
theorem cmpI_is (x y : Int) (w : World) : Calls Tryz.prog 45 #[.int .i64 x, .int .i64 y] w fun e w' => e = .returned (.int .i64 (Ak.ci x y)) ∧ w = w' := by
 unfold Ak.ci
 by_cases h : x < y
 ·rw [if_pos h]
  go_enter Tryz.func45, Tryz.ntmps45
  go_wp2_with (go_at_call 88; refine (nanI_is _ _).mono ?_; rintro e w' ⟨rfl, rfl⟩)
  go_ret
  exact ⟨rfl, rfl⟩
 ·rw [if_neg h]
  by_cases g : y < x
  ·rw [if_pos g]
   go_enter Tryz.func45, Tryz.ntmps45
   go_wp2_with (go_at_call 88; refine (nanI_is _ _).mono ?_; rintro e w' ⟨rfl, rfl⟩)
   go_ret
   exact ⟨rfl, rfl⟩
  ·rw [if_neg g]
   go_enter Tryz.func45, Tryz.ntmps45
   go_wp2_with (go_at_call 88; refine (nanI_is _ _).mono ?_; rintro e w' ⟨rfl, rfl⟩)
   go_ret
   exact ⟨rfl, rfl⟩
theorem cmpS_is (x y : ByteArray) (w : World) : Calls Tryz.prog 46 #[.string x, .string y] w fun e w' => e = .returned (.int .i64 (Ak.cs x y)) ∧ w = w' := by
 unfold Ak.cs Ak.cl
 by_cases h : x.toList < y.toList
 ·rw [if_pos h]
  have hb : Op.bytesLess x.toList y.toList = true := by rw [bytesLess_eq]; exact decide_eq_true h
  clear h
  go_enter Tryz.func46, Tryz.ntmps46
  go_wp2_with (go_at_call 89; refine (nanStr_is _ _).mono ?_; rintro e w' ⟨rfl, rfl⟩)
  go_ret
  exact ⟨rfl, rfl⟩
 ·rw [if_neg h]
  have hb : Op.bytesLess x.toList y.toList = false := by rw [bytesLess_eq]; exact decide_eq_false h
  clear h
  by_cases g : x.toList = y.toList
  ·rw [if_pos g]
   have hg : (x.toList == y.toList) = true := by simpa using g
   clear g
   go_enter Tryz.func46, Tryz.ntmps46
   go_wp2_with (go_at_call 89; refine (nanStr_is _ _).mono ?_; rintro e w' ⟨rfl, rfl⟩)
   go_ret
   exact ⟨rfl, rfl⟩
  ·rw [if_neg g]
   have hg : (x.toList == y.toList) = false := by simpa using g
   clear g
   go_enter Tryz.func46, Tryz.ntmps46
   go_wp2_with (go_at_call 89; refine (nanStr_is _ _).mono ?_; rintro e w' ⟨rfl, rfl⟩)
   go_ret
   exact ⟨rfl, rfl⟩
theorem ci_wf (x y : Int) : -1 ≤ Ak.ci x y ∧ Ak.ci x y ≤ 1 := by unfold Ak.ci; split <;> (try split) <;> omega
theorem cs_wf (x y : ByteArray) : -1 ≤ Ak.cs x y ∧ Ak.cs x y ≤ 1 := by unfold Ak.cs Ak.cl; split <;> (try split) <;> omega

theorem compare_1 (d : Bool) (p r : Ph)  (w : World) : Calls Tryz.prog 80 #[.agg #[.int .i64 1, .bool d], .agg #[.int .i64 p.id, .string p.file, .int .i64 p.mom, .int .i64 p.zone, .slice p.wa p.wn p.wc, .int .i64 p.W, .int .i64 p.H, .int .i64 p.turn, .int .i64 p.stars, .slice p.ta p.tn p.tc, .string p.cap, .slice p.pa p.pn p.pc, .bool p.hid], .agg #[.int .i64 r.id, .string r.file, .int .i64 r.mom, .int .i64 r.zone, .slice r.wa r.wn r.wc, .int .i64 r.W, .int .i64 r.H, .int .i64 r.turn, .int .i64 r.stars, .slice r.ta r.tn r.tc, .string r.cap, .slice r.pa r.pn r.pc, .bool r.hid]] w fun e w' => e = .returned (.int .i64 (Ak.dir d (Ak.ci p.id r.id))) ∧ Below w.heap.size w w' := by
 obtain ⟨W1, hW1, hS, hz1, hB1⟩ := box w #[.int .i64 1, .bool d] 70
 obtain ⟨W2, hW2, hA, hz2, hB2⟩ := bxP W1 p
 obtain ⟨W3, hW3, hR, hz3, hB3⟩ := bxP W2 r
 have HW1 := Lib.hid hW1; have HW2 := Lib.hid hW2; have HW3 := Lib.hid hW3
 rw [hz1] at hA hz2
 rw [hz2] at hR
 have hB23 := below_up hB2 hB3
 have hB := below_up hB1 hB23
 obtain ⟨s0, s1⟩ := (hS.keep hB23).two
 obtain ⟨p0, p1, p2, p3, p4, p5, p6, p7, p8, p9, p10, p11, p12⟩ := (hA.keep hB3).photo
 obtain ⟨r0, r1, r2, r3, r4, r5, r6, r7, r8, r9, r10, r11, r12⟩ := hR.photo
 clear hW1 hW2 hW3 hz1 hz2 hz3
 have hw := ci_wf p.id r.id
 obtain ⟨q, hq⟩ : ∃ q, Ak.ci p.id r.id = q := ⟨_, rfl⟩
 have HQ := Lib.hid hq
 rw [hq] at hw ⊢
 have hwn : IntKind.i64.wrap (-q) = -q := by rw [IntKind.wrap_i64]; omega
 clear hq
 cases d
 ·rw [show Ak.dir false q = q from rfl]
  go_enter Tryz.func80, Tryz.ntmps80
  go_upto_region 1 with fail
  rw [HW1.out, HW2.out, HW3.out]
  go_wp2_with (first
   | (go_at_call 45; refine (cmpI_is _ _ _).mono ?_; rintro e w' ⟨rfl, rfl⟩; rw [HQ.out])
   | (go_at_call 46; refine (cmpS_is _ _ _).mono ?_; rintro e w' ⟨rfl, rfl⟩; rw [HQ.out]))
  go_ret
  exact ⟨rfl, hB⟩
 ·rw [show Ak.dir true q = -q from rfl]
  go_enter Tryz.func80, Tryz.ntmps80
  go_upto_region 1 with fail
  rw [HW1.out, HW2.out, HW3.out]
  go_wp2_with (first
   | (go_at_call 45; refine (cmpI_is _ _ _).mono ?_; rintro e w' ⟨rfl, rfl⟩; rw [HQ.out])
   | (go_at_call 46; refine (cmpS_is _ _ _).mono ?_; rintro e w' ⟨rfl, rfl⟩; rw [HQ.out]))
  go_ret
  exact ⟨rfl, hB⟩

theorem compare_3 (d : Bool) (p r : Ph)  (w : World) : Calls Tryz.prog 80 #[.agg #[.int .i64 3, .bool d], .agg #[.int .i64 p.id, .string p.file, .int .i64 p.mom, .int .i64 p.zone, .slice p.wa p.wn p.wc, .int .i64 p.W, .int .i64 p.H, .int .i64 p.turn, .int .i64 p.stars, .slice p.ta p.tn p.tc, .string p.cap, .slice p.pa p.pn p.pc, .bool p.hid], .agg #[.int .i64 r.id, .string r.file, .int .i64 r.mom, .int .i64 r.zone, .slice r.wa r.wn r.wc, .int .i64 r.W, .int .i64 r.H, .int .i64 r.turn, .int .i64 r.stars, .slice r.ta r.tn r.tc, .string r.cap, .slice r.pa r.pn r.pc, .bool r.hid]] w fun e w' => e = .returned (.int .i64 (Ak.dir d (Ak.ci p.stars r.stars))) ∧ Below w.heap.size w w' := by
 obtain ⟨W1, hW1, hS, hz1, hB1⟩ := box w #[.int .i64 3, .bool d] 70
 obtain ⟨W2, hW2, hA, hz2, hB2⟩ := bxP W1 p
 obtain ⟨W3, hW3, hR, hz3, hB3⟩ := bxP W2 r
 have HW1 := Lib.hid hW1; have HW2 := Lib.hid hW2; have HW3 := Lib.hid hW3
 rw [hz1] at hA hz2
 rw [hz2] at hR
 have hB23 := below_up hB2 hB3
 have hB := below_up hB1 hB23
 obtain ⟨s0, s1⟩ := (hS.keep hB23).two
 obtain ⟨p0, p1, p2, p3, p4, p5, p6, p7, p8, p9, p10, p11, p12⟩ := (hA.keep hB3).photo
 obtain ⟨r0, r1, r2, r3, r4, r5, r6, r7, r8, r9, r10, r11, r12⟩ := hR.photo
 clear hW1 hW2 hW3 hz1 hz2 hz3
 have hw := ci_wf p.stars r.stars
 obtain ⟨q, hq⟩ : ∃ q, Ak.ci p.stars r.stars = q := ⟨_, rfl⟩
 have HQ := Lib.hid hq
 rw [hq] at hw ⊢
 have hwn : IntKind.i64.wrap (-q) = -q := by rw [IntKind.wrap_i64]; omega
 clear hq
 cases d
 ·rw [show Ak.dir false q = q from rfl]
  go_enter Tryz.func80, Tryz.ntmps80
  go_upto_region 1 with fail
  rw [HW1.out, HW2.out, HW3.out]
  go_wp2_with (first
   | (go_at_call 45; refine (cmpI_is _ _ _).mono ?_; rintro e w' ⟨rfl, rfl⟩; rw [HQ.out])
   | (go_at_call 46; refine (cmpS_is _ _ _).mono ?_; rintro e w' ⟨rfl, rfl⟩; rw [HQ.out]))
  go_ret
  exact ⟨rfl, hB⟩
 ·rw [show Ak.dir true q = -q from rfl]
  go_enter Tryz.func80, Tryz.ntmps80
  go_upto_region 1 with fail
  rw [HW1.out, HW2.out, HW3.out]
  go_wp2_with (first
   | (go_at_call 45; refine (cmpI_is _ _ _).mono ?_; rintro e w' ⟨rfl, rfl⟩; rw [HQ.out])
   | (go_at_call 46; refine (cmpS_is _ _ _).mono ?_; rintro e w' ⟨rfl, rfl⟩; rw [HQ.out]))
  go_ret
  exact ⟨rfl, hB⟩

theorem compare_5 (d : Bool) (p r : Ph)  (w : World) : Calls Tryz.prog 80 #[.agg #[.int .i64 5, .bool d], .agg #[.int .i64 p.id, .string p.file, .int .i64 p.mom, .int .i64 p.zone, .slice p.wa p.wn p.wc, .int .i64 p.W, .int .i64 p.H, .int .i64 p.turn, .int .i64 p.stars, .slice p.ta p.tn p.tc, .string p.cap, .slice p.pa p.pn p.pc, .bool p.hid], .agg #[.int .i64 r.id, .string r.file, .int .i64 r.mom, .int .i64 r.zone, .slice r.wa r.wn r.wc, .int .i64 r.W, .int .i64 r.H, .int .i64 r.turn, .int .i64 r.stars, .slice r.ta r.tn r.tc, .string r.cap, .slice r.pa r.pn r.pc, .bool r.hid]] w fun e w' => e = .returned (.int .i64 (Ak.dir d (Ak.cs p.cap r.cap))) ∧ Below w.heap.size w w' := by
 obtain ⟨W1, hW1, hS, hz1, hB1⟩ := box w #[.int .i64 5, .bool d] 70
 obtain ⟨W2, hW2, hA, hz2, hB2⟩ := bxP W1 p
 obtain ⟨W3, hW3, hR, hz3, hB3⟩ := bxP W2 r
 have HW1 := Lib.hid hW1; have HW2 := Lib.hid hW2; have HW3 := Lib.hid hW3
 rw [hz1] at hA hz2
 rw [hz2] at hR
 have hB23 := below_up hB2 hB3
 have hB := below_up hB1 hB23
 obtain ⟨s0, s1⟩ := (hS.keep hB23).two
 obtain ⟨p0, p1, p2, p3, p4, p5, p6, p7, p8, p9, p10, p11, p12⟩ := (hA.keep hB3).photo
 obtain ⟨r0, r1, r2, r3, r4, r5, r6, r7, r8, r9, r10, r11, r12⟩ := hR.photo
 clear hW1 hW2 hW3 hz1 hz2 hz3
 have hw := cs_wf p.cap r.cap
 obtain ⟨q, hq⟩ : ∃ q, Ak.cs p.cap r.cap = q := ⟨_, rfl⟩
 have HQ := Lib.hid hq
 rw [hq] at hw ⊢
 have hwn : IntKind.i64.wrap (-q) = -q := by rw [IntKind.wrap_i64]; omega
 clear hq
 cases d
 ·rw [show Ak.dir false q = q from rfl]
  go_enter Tryz.func80, Tryz.ntmps80
  go_upto_region 1 with fail
  rw [HW1.out, HW2.out, HW3.out]
  go_wp2_with (first
   | (go_at_call 45; refine (cmpI_is _ _ _).mono ?_; rintro e w' ⟨rfl, rfl⟩; rw [HQ.out])
   | (go_at_call 46; refine (cmpS_is _ _ _).mono ?_; rintro e w' ⟨rfl, rfl⟩; rw [HQ.out]))
  go_ret
  exact ⟨rfl, hB⟩
 ·rw [show Ak.dir true q = -q from rfl]
  go_enter Tryz.func80, Tryz.ntmps80
  go_upto_region 1 with fail
  rw [HW1.out, HW2.out, HW3.out]
  go_wp2_with (first
   | (go_at_call 45; refine (cmpI_is _ _ _).mono ?_; rintro e w' ⟨rfl, rfl⟩; rw [HQ.out])
   | (go_at_call 46; refine (cmpS_is _ _ _).mono ?_; rintro e w' ⟨rfl, rfl⟩; rw [HQ.out]))
  go_ret
  exact ⟨rfl, hB⟩
def Ak.eS : Enc Ak.Srt := ⟨2, fun s => [.int .i64 s.by_, .bool s.down], fun _ => rfl, fun s u h => by simp only [List.mem_cons, List.not_mem_nil, or_false] at h; rcases h with rfl | rfl <;> rfl⟩
structure Ak.Sorts (V : World) (qb : Nat) (sa : Option Addr) (sc : Nat) (l : List Ak.Srt) : Prop where
 cell : V.cell? ⟨qb, 6, none⟩ = some (.slice sa l.length sc)
 row : RowE Ak.eS V sa l
theorem Ak.Sorts.keep {V V' : World} {qb : Nat} {sa : Option Addr} {sc : Nat} {l : List Ak.Srt} (h : Ak.Sorts V qb sa sc l) (hb : Below V.heap.size V V') : Ak.Sorts V' qb sa sc l :=
 ⟨(hb.cell (World.block_lt_of_cell? V _ h.cell)).trans h.cell, h.row.keep hb⟩
theorem RowE.drop {α : Type} {E : Enc α} {w : World} {b off : Nat} {L : List α} (h : RowE E w (some ⟨b, off, none⟩) L) (f : Nat) : RowE E w (some ⟨b, off + f * E.k, none⟩) (L.drop f) := by
 intro h0
 rw [List.length_drop] at h0
 obtain ⟨b', off', e, hb, hc⟩ := h (by omega)
 cases e
 refine ⟨_, _, rfl, hb, fun i x hx j v hv => ?_⟩
 rw [List.getElem?_drop] at hx
 have := hc (f + i) x hx j v hv
 rwa [show off + (f + i) * E.k + j = off + f * E.k + i * E.k + j by rw [Nat.add_mul]; omega] at this
theorem RowE.take {α : Type} {E : Enc α} {w : World} {a : Option Addr} {L : List α} (h : RowE E w a L) (m : Nat) : RowE E w a (L.take m) := by
 intro h0
 rw [List.length_take] at h0
 obtain ⟨b, off, e, hb, hc⟩ := h (by omega)
 refine ⟨b, off, e, hb, fun i x hx j v hv => hc i x ?_ j v hv⟩
 rw [List.getElem?_take] at hx
 split at hx
 ·exact hx
 ·cases hx
theorem Ak.Sorts.grown {V V' : World} {qb g : Nat} {sa : Option Addr} {sc : Nat} {l : List Ak.Srt} (h : Ak.Sorts V qb sa sc l) (hg : V.grownBy V' (some g)) (h1 : qb ≠ g) (h2 : 0 < l.length → ∀ x, sa = some x → x.block ≠ g) : Ak.Sorts V' qb sa sc l :=
 ⟨hg.cell h.cell (by simpa using h1), h.row.grown hg fun h0 x hx => by have := h2 h0 x hx; simpa using this⟩
namespace Ak
def hasBy (k : Int) (l : List Srt) : Bool := l.any fun t => t.by_ == k
def srtE : List Srt → List Srt → Int
 | _, [] => 0
 | pre, s :: r => if 1 ≤ s.by_ ∧ s.by_ ≤ 5 then (if hasBy s.by_ pre = true then 6 else srtE (pre ++ [s]) r) else 10
def rngB (n : Int) : Bool := decide (0 ≤ n ∧ n ≤ 1000)
def qErr (ce : Int) (l : List Srt) (f m : Int) : Int :=
 if ce = 0 then (if 5 < l.length then 4 else if srtE [] l = 0 then (if rngB f = true ∧ rngB m = true then 0 else 2) else srtE [] l) else ce
theorem srtE_by : ∀ {l pre : List Srt}, srtE pre l = 0 → ∀ s, s ∈ l → 1 ≤ s.by_ ∧ s.by_ ≤ 5
 | [], _, _, s, h => by cases h
 | t :: r, pre, h, s, hs => by
   rw [srtE] at h
   split at h
   ·rename_i hb
    split at h
    ·cases h
    ·rcases List.mem_cons.1 hs with rfl | hs
     ·exact hb
     ·exact srtE_by h s hs
   ·cases h
theorem hasBy_take {l : List Srt} {j : Nat} {s : Srt} {k : Int} (h : l[j]? = some s) : hasBy k (l.take (j + 1)) = (hasBy k (l.take j) || s.by_ == k) := by
 unfold hasBy; rw [List.take_add_one, h, List.any_append]; simp
end Ak
theorem chkQ1_is (k k2 : Int) (d d2 : Bool) (sb : Nat) (t : TypeId) (w : World) (hs : Blk w sb #[.int .i64 k2, .bool d2] t) :
  Calls Tryz.prog 34 #[.agg #[.int .i64 k, .bool d], .pointer (some ⟨sb, 0, none⟩)] w fun e w' => e = .returned (.bool (k == k2)) ∧ Below w.heap.size w w' := by
 obtain ⟨W1, hW1, hA, hz1, hB1⟩ := box w #[.int .i64 k, .bool d] 70
 have HW1 := Lib.hid hW1
 obtain ⟨a0, a1⟩ := hA.two
 obtain ⟨b0, b1⟩ := (hs.keep hB1).two
 clear hW1 hz1
 go_enter Tryz.func34, Tryz.ntmps34
 go_upto_region 1 with fail
 rw [HW1.out]
 go_wp2_with fail
 go_ret
 exact ⟨rfl, hB1⟩
theorem enters_chkQ : ∀ args w, (callFunc 34 args).run Tryz.prog w = .ok (.enter 34 args) w := enters_of Tryz.func34 (by kernel_rfl) rfl
theorem idxSort_is (l : List Ak.Srt) (m : Nat) (hm : m ≤ l.length) (hl : l.length ≤ 1000000) (sa : Option Addr) (sc : Nat) (k2 : Int) (d2 : Bool) (sb : Nat) (t : TypeId) (w : World) (hr : RowE Ak.eS w sa l) (hs : Blk w sb #[.int .i64 k2, .bool d2] t) :
  Calls Tryz.prog 76 #[.slice sa m sc, .func (.func 34) #[] #[.pointer (some ⟨sb, 0, none⟩)]] w fun e w' => ∃ r : Int, e = .returned (.int .i64 r) ∧ ((Ak.hasBy k2 (l.take m) = true ∧ 0 ≤ r) ∨ (Ak.hasBy k2 (l.take m) = false ∧ r = -1)) ∧ Below w.heap.size w w' := by
 have eg := enters_chkQ
 have HR := Lib.hid hr; have HS := Lib.hid hs; have HM := Lib.hid hm
 have hm2 : m ≤ 1000000 := by omega
 clear hr hs hm hl
 go_enter Tryz.func76, Tryz.ntmps76
 go_wp2_with fail
 go_loopg [8] m (fun gk i wr => ∃ j : Nat, j ≤ m ∧ gk = m - j ∧ i = .int .i64 j ∧ Ak.hasBy k2 (l.take j) = false ∧ Below w.heap.size w wr)
 case atStart => exact ⟨0, by omega, rfl, rfl, rfl, Below.refl _ _⟩
 case round =>
  obtain ⟨j, hj, rfl, rfl, hno, hB⟩ := hrel
  have HNO := Lib.hid hno; clear hno
  by_cases hlt : j < m
  ·obtain ⟨s, hs⟩ : ∃ s, l[j]? = some s := ⟨_, List.getElem?_eq_getElem (by have := HM.out; omega)⟩
   obtain ⟨b, off, rfl, hb, hcell⟩ := (HR.out.keep hB) (by have := HM.out; omega)
   have c0 := hcell j s hs 0 (.int .i64 s.by_) rfl
   have c1 := hcell j s hs 1 (.bool s.down) rfl
   have HT := Lib.hid (Ak.hasBy_take (k := k2) hs)
   have HMM : Hid (m ≤ l.length) := HM
   obtain ⟨k, d⟩ := s
   have c0 : wr.cell? ⟨b, off + j * 2, none⟩ = some (.int .i64 k) := c0
   have c1 : wr.cell? ⟨b, off + j * 2 + 1, none⟩ = some (.bool d) := c1
   have HC := Lib.hid (chkQ1_is k k2 d d2 sb t wr (HS.out.keep hB))
   have hj1 : (j : Int) < (m : Int) := by omega
   clear hcell hs
   by_cases he : k = k2
   ·have he1 : (k == k2) = true := by simpa using he
    rw [he1] at HC
    have HE : Hid (Ak.hasBy k2 (l.take (j + 1)) = true) := Lib.hid (by rw [HT.out]; show (_ || k == k2) = true; rw [he1]; simp)
    have HF : Hid (Ak.hasBy k2 (l.take m) = true) := Lib.hid (by
     have h := HE.out
     unfold Ak.hasBy at h ⊢
     rw [List.any_eq_true] at h ⊢
     obtain ⟨z, hz, hzk⟩ := h
     refine ⟨z, ?_, hzk⟩
     rw [show j + 1 = min (j + 1) m by omega, ← List.take_take] at hz
     exact List.mem_of_mem_take hz)
    clear he he1
    go_wp2_with (go_at_call 34; (with_reducible refine HC.out.mono ?_); rintro e w5 ⟨rfl, hB5⟩)
    go_ret
    exact ⟨_, rfl, .inl ⟨HF.out, by omega⟩, below_up hB hB5⟩
   ·have he1 : (k == k2) = false := by simpa using he
    rw [he1] at HC
    have HE : Hid (Ak.hasBy k2 (l.take (j + 1)) = false) := Lib.hid (by rw [HT.out, HNO.out]; exact he1)
    clear he he1
    go_wp2_with (go_at_call 34; (with_reducible refine HC.out.mono ?_); rintro e w5 ⟨rfl, hB5⟩)
    go_roundg (m - (j + 1))
    case rel => exact ⟨j + 1, by omega, rfl, by go_num, HE.out, below_up hB hB5⟩
    case measure => omega
  ·obtain rfl : j = m := by omega
   go_wp2_with fail
   go_ret
   exact ⟨-1, rfl, .inr ⟨HNO.out, rfl⟩, hB⟩
theorem hasSort_is (l : List Ak.Srt) (m : Nat) (hm : m ≤ l.length) (hl : l.length ≤ 1000000) (sa : Option Addr) (sc : Nat) (k2 : Int) (d2 : Bool) (sb : Nat) (t : TypeId) (w : World) (hr : RowE Ak.eS w sa l) (hs : Blk w sb #[.int .i64 k2, .bool d2] t) :
  Calls Tryz.prog 33 #[.slice sa m sc, .func (.func 34) #[] #[.pointer (some ⟨sb, 0, none⟩)]] w fun e w' => e = .returned (.bool (Ak.hasBy k2 (l.take m))) ∧ Below w.heap.size w w' := by
 have HI := Lib.hid (idxSort_is l m hm hl sa sc k2 d2 sb t w hr hs)
 clear hr hs
 generalize Ak.hasBy k2 (l.take m) = q at *
 go_enter Tryz.func33, Tryz.ntmps33
 go_wp2_with (go_at_call 76; (with_reducible refine HI.out.mono ?_); rintro e w4 ⟨r, rfl, hr, hB4⟩; have HR := Lib.hid hr; clear hr)
 go_ret
 refine ⟨ret_bool ?_, hB4⟩
 rcases HR.out with ⟨h, h0⟩ | ⟨h, rfl⟩
 ·rw [h]; simpa using h0
 ·rw [h]; rfl
theorem Blk.nine {w : World} {b : Nat} {t : TypeId} {c0 c1 c2 c3 c4 c5 c6 c7 c8 : Value} (h : Blk w b #[c0, c1, c2, c3, c4, c5, c6, c7, c8] t) : w.cell? ⟨b, 0, none⟩ = some c0 ∧ w.cell? ⟨b, 1, none⟩ = some c1 ∧ w.cell? ⟨b, 2, none⟩ = some c2 ∧ w.cell? ⟨b, 3, none⟩ = some c3 ∧ w.cell? ⟨b, 4, none⟩ = some c4 ∧ w.cell? ⟨b, 5, none⟩ = some c5 ∧ w.cell? ⟨b, 6, none⟩ = some c6 ∧ w.cell? ⟨b, 7, none⟩ = some c7 ∧ w.cell? ⟨b, 8, none⟩ = some c8 := by
 simp only [h.cell]; exact ⟨rfl, rfl, rfl, rfl, rfl, rfl, rfl, rfl, rfl⟩
theorem Ak.srtE_step {l : List Ak.Srt} {j : Nat} {s : Ak.Srt} {q : Int} (h : Ak.srtE (l.take j) (l.drop j) = q) (hs : l[j]? = some s) :
  (¬ (1 ≤ s.by_ ∧ s.by_ ≤ 5) → q = 10) ∧ ((1 ≤ s.by_ ∧ s.by_ ≤ 5) → Ak.hasBy s.by_ (l.take j) = true → q = 6) ∧ ((1 ≤ s.by_ ∧ s.by_ ≤ 5) → Ak.hasBy s.by_ (l.take j) = false → Ak.srtE (l.take (j + 1)) (l.drop (j + 1)) = q) := by
 obtain ⟨hlt, hg⟩ := List.getElem?_eq_some_iff.1 hs
 rw [List.drop_eq_getElem_cons hlt, hg, Ak.srtE] at h
 refine ⟨fun g => ?_, fun g1 g2 => ?_, fun g1 g2 => ?_⟩
 ·rw [if_neg g] at h; exact h.symm
 ·rw [if_pos g1, if_pos g2] at h; exact h.symm
 ·rw [if_pos g1, if_neg (by rw [g2]; decide)] at h
  rw [List.take_add_one, hs]; exact h
theorem checkQ_is (c : Cnd) (l : List Ak.Srt) (sa : Option Addr) (sc : Nat) (f m : Int) (w : World) (hc : c.In w) (hG : c.Fits) (hr : RowE Ak.eS w sa l) (hsc : l.length ≤ sc) (hsm : sc ≤ 9223372036854775807) :
  Calls Tryz.prog 12 #[.agg #[.int .i64 c.op, .slice c.ka c.kn c.kc, .string c.text, .int .i64 c.low, .int .i64 c.high, .slice c.aa c.an c.ac, .slice sa l.length sc, .int .i64 f, .int .i64 m]] w fun e w' => e = .returned (.int .i64 (Ak.qErr c.err l f m)) ∧ Below w.heap.size w w' := by
 obtain ⟨q, hq⟩ : ∃ q, Ak.qErr c.err l f m = q := ⟨_, rfl⟩
 rw [hq]
 unfold Ak.qErr at hq
 obtain ⟨n, hn⟩ : ∃ n, l.length = n := ⟨_, rfl⟩
 rw [hn] at hsc hq ⊢
 have HN := Lib.hid hn
 obtain ⟨W1, hW1, hQ, hz1, hB1⟩ := box w #[.int .i64 c.op, .slice c.ka c.kn c.kc, .string c.text, .int .i64 c.low, .int .i64 c.high, .slice c.aa c.an c.ac, .slice sa n sc, .int .i64 f, .int .i64 m] 33
 have HW1 := Lib.hid hW1
 have HCC := Lib.hid (checkCond_is c W1 (Cnd.In.keep hB1 hc) hG)
 obtain ⟨q0, q1, q2, q3, q4, q5, q6, q7, q8⟩ := hQ.nine
 have HQ := Lib.hid hQ; have HR := Lib.hid (hr.keep hB1); have HB1 := Lib.hid hB1
 clear hW1 hz1 hc hG hr hQ hB1 hn
 obtain ⟨ce, hce⟩ : ∃ ce, c.err = ce := ⟨_, rfl⟩
 rw [hce] at HCC hq
 clear hce
 by_cases h0 : ce = 0
 ·subst h0
  rw [if_pos rfl] at hq
  by_cases h5 : 5 < n
  ·rw [if_pos h5] at hq
   have HQQ := Lib.hid hq; clear hq
   have h5' : (5 : Int) < (n : Int) := by omega
   go_enter Tryz.func12, Tryz.ntmps12
   go_upto_region 1 with fail
   rw [HW1.out]
   go_wp2_with (go_at_call 8; (with_reducible refine HCC.out.mono ?_); rintro e w4 ⟨rfl, hB4⟩; obtain ⟨q0, q1, q2, q3, q4, q5, q6, q7, q8⟩ := (HQ.out.keep hB4).nine)
   go_ret
   exact ⟨ret_int HQQ.out, below_up HB1.out hB4⟩
  ·rw [if_neg h5] at hq
   have HQQ := Lib.hid hq; clear hq
   have h5' : ¬ (5 : Int) < (n : Int) := by omega
   have hn5 : n ≤ 5 := by omega
   go_enter Tryz.func12, Tryz.ntmps12
   go_upto_region 1 with fail
   rw [HW1.out]
   go_wp2_with (go_at_call 8; (with_reducible refine HCC.out.mono ?_); rintro e w4 ⟨rfl, hB4⟩; obtain ⟨q0, q1, q2, q3, q4, q5, q6, q7, q8⟩ := (HQ.out.keep hB4).nine)
   obtain ⟨se, hse⟩ : ∃ se, Ak.srtE [] l = se := ⟨_, rfl⟩
   have HQS : Hid ((if se = 0 then (if Ak.rngB f = true ∧ Ak.rngB m = true then 0 else 2) else se) = q) := Lib.hid (by rw [← hse]; exact HQQ.out)
   have HSE := Lib.hid hse
   clear hse
   go_loopg [19] n (fun gk i wr => ∃ j : Nat, j ≤ n ∧ gk = n - j ∧ i = .int .i64 j ∧ Ak.srtE (l.take j) (l.drop j) = se ∧ Below W1.heap.size W1 wr)
   case atStart => exact ⟨0, by omega, rfl, rfl, HSE.out, hB4⟩
   case round =>
    clear q0 q1 q2 q3 q4 q5 q6 q7 q8
    obtain ⟨j, hj, rfl, rfl, hsc2, hB⟩ := hrel
    have HSC := Lib.hid hsc2; clear hsc2
    obtain ⟨q0, q1, q2, q3, q4, q5, q6, q7, q8⟩ := (HQ.out.keep hB).nine
    by_cases hlt : j < n
    ·obtain ⟨s, hs⟩ : ∃ s, l[j]? = some s := ⟨_, List.getElem?_eq_getElem (by rw [HN.out]; exact hlt)⟩
     obtain ⟨b, off, hsa, hb, hcell⟩ := (HR.out.keep hB) (by rw [HN.out]; omega)
     have c0 := hcell j s hs 0 (.int .i64 s.by_) rfl
     have c1 := hcell j s hs 1 (.bool s.down) rfl
     have HST := Lib.hid (Ak.srtE_step HSC.out hs)
     obtain ⟨k, d⟩ := s
     have c0 : wr.cell? ⟨b, off + j * 2, none⟩ = some (.int .i64 k) := c0
     have c1 : wr.cell? ⟨b, off + j * 2 + 1, none⟩ = some (.bool d) := c1
     obtain ⟨Z1, hZ1, hZ, hz1, hBZ⟩ := box wr #[.int .i64 k, .bool d] 70
     have HZ1 := Lib.hid hZ1
     have hBZ2 := below_up hB hBZ
     have HZB := Lib.hid hZ
     obtain ⟨z0, z1⟩ := hZ.two
     have HQZ := Lib.hid ((HQ.out.keep hBZ2).nine)
     have HHS := Lib.hid (hasSort_is l j (by rw [HN.out]; omega) (by rw [HN.out]; omega) sa sc k d wr.heap.size 70 Z1 (HR.out.keep hBZ2) hZ)
     obtain ⟨hv, hhv⟩ : ∃ hv, Ak.hasBy k (l.take j) = hv := ⟨_, rfl⟩
     rw [hhv] at HHS
     have HHV := Lib.hid hhv
     have hj1 : (j : Int) < (n : Int) := by omega
     have hjc : (j : Int) ≤ (sc : Int) := by omega
     clear hcell hs hZ1 hz1 hZ hhv
     rw [hsa] at q6
     rw [hsa]
     by_cases hk : 1 ≤ k ∧ k ≤ 5
     ·have HKO := Lib.hid (fun W => outsideF_is k 1 5 true (decide_eq_true hk) W)
      cases hv
      ·have HE := Lib.hid (HST.out.2.2 hk HHV.out)
       clear hk
       go_upto_region 9 with fail
       rw [HZ1.out]
       clear q0 q1 q2 q3 q4 q5 q6 q7 q8
       obtain ⟨q0, q1, q2, q3, q4, q5, q6, q7, q8⟩ := HQZ.out
       rw [hsa] at q6 HHS
       go_wp2_with (first
        | (go_at_call 32; (with_reducible refine (HKO.out _).mono ?_); rintro e w' ⟨rfl, rfl⟩)
        | (go_at_call 33; (with_reducible refine HHS.out.mono ?_); rintro e w6 ⟨rfl, hB6⟩))
       rw [← hsa]
       go_roundg (n - (j + 1))
       case rel => exact ⟨j + 1, by omega, rfl, by go_num, HE.out, below_up hBZ2 hB6⟩
       case measure => omega
      ·have HE := Lib.hid (HST.out.2.1 hk HHV.out)
       clear hk
       go_upto_region 9 with fail
       rw [HZ1.out]
       clear q0 q1 q2 q3 q4 q5 q6 q7 q8
       obtain ⟨q0, q1, q2, q3, q4, q5, q6, q7, q8⟩ := HQZ.out
       rw [hsa] at q6 HHS
       go_wp2_with (first
        | (go_at_call 32; (with_reducible refine (HKO.out _).mono ?_); rintro e w' ⟨rfl, rfl⟩)
        | (go_at_call 33; (with_reducible refine HHS.out.mono ?_); rintro e w6 ⟨rfl, hB6⟩))
       go_ret
       exact ⟨ret_int (by rw [← HQS.out, HE.out]; rfl), below_up HB1.out (below_up hBZ2 hB6)⟩
     ·have HKO := Lib.hid (fun W => outsideF_is k 1 5 false (decide_eq_false hk) W)
      have HE := Lib.hid (HST.out.1 hk)
      clear hk
      go_upto_region 9 with fail
      rw [HZ1.out]
      go_wp2_with (go_at_call 32; (with_reducible refine (HKO.out _).mono ?_); rintro e w' ⟨rfl, rfl⟩)
      go_ret
      exact ⟨ret_int (by rw [← HQS.out, HE.out]; rfl), below_up HB1.out hBZ2⟩
    ·obtain rfl : j = n := by omega
     have HE : Hid (0 = se) := Lib.hid (by have h := HSC.out; rw [← HN.out, List.drop_length, Ak.srtE] at h; exact h)
     have HF := Lib.hid (fun W => outsideF_is f 0 1000 (Ak.rngB f) rfl W)
     have HM := Lib.hid (fun W => outsideF_is m 0 1000 (Ak.rngB m) rfl W)
     have HEQ : Hid ((if Ak.rngB f = true ∧ Ak.rngB m = true then 0 else 2) = q) := Lib.hid (by rw [← HQS.out, ← HE.out, if_pos rfl])
     generalize Ak.rngB f = rf at *
     generalize Ak.rngB m = rm at *
     have hjn : ¬ ((j : Int) < (j : Int)) := by omega
     cases rf
     ·go_wp2_with (go_at_call 32; (first | (with_reducible refine (HF.out _).mono ?_) | (with_reducible refine (HM.out _).mono ?_)); rintro e w' ⟨rfl, rfl⟩)
      go_ret
      exact ⟨ret_int (by rw [← HEQ.out]; rfl), below_up HB1.out hB⟩
     ·cases rm
      ·go_wp2_with (go_at_call 32; (first | (with_reducible refine (HF.out _).mono ?_) | (with_reducible refine (HM.out _).mono ?_)); rintro e w' ⟨rfl, rfl⟩)
       go_ret
       exact ⟨ret_int (by rw [← HEQ.out]; rfl), below_up HB1.out hB⟩
      ·go_wp2_with (go_at_call 32; (first | (with_reducible refine (HF.out _).mono ?_) | (with_reducible refine (HM.out _).mono ?_)); rintro e w' ⟨rfl, rfl⟩)
       go_ret
       exact ⟨ret_int (by rw [← HEQ.out]; rfl), below_up HB1.out hB⟩
 ·rw [if_neg h0] at hq
  have HQQ := Lib.hid hq; clear hq
  have h1 : (ce != 0) = true := by simpa using h0
  go_enter Tryz.func12, Tryz.ntmps12
  go_upto_region 1 with fail
  rw [HW1.out]
  go_wp2_with (go_at_call 8; (with_reducible refine HCC.out.mono ?_); rintro e w4 ⟨rfl, hB4⟩; obtain ⟨q0, q1, q2, q3, q4, q5, q6, q7, q8⟩ := (HQ.out.keep hB4).nine)
  go_ret
  exact ⟨ret_int HQQ.out, below_up HB1.out hB4⟩
namespace Ak
def win {α : Type} (f m : Nat) (L : List α) : List α := if m = 0 then L.drop f else (L.drop f).take m
end Ak
end Go.Proofs.YtimjmjmpaicdbaaGreatDoor
namespace Go.Proofs.YtimjmjmpaicdbaaGreatDoor
open Go.ChangeShapes Go.WideShapes Go.ChangeAt Go.RowKit Go.Joins Go.Deep
section
variable {H : Type} {enc : TypeId × Value → H} {w : World} {base : Nat} {spare : Nat → Bool} {held : Bool}
theorem cellsSort : Tryz.prog.cellsOf 70 = 2 := by kernel_rfl
theorem cellsQuestion : Tryz.prog.cellsOf 33 = 9 := by kernel_rfl
theorem open_sortsF {v : Value} {n : Nat} {y : DataW H × List MemPlace} (hf : DataW.trod enc Tryz.prog w base spare held n 31 [v] = some y) :
  ∃ (a : Option Addr) (cap : Nat) (l : List Ak.Srt), v = .slice a l.length cap ∧ l.length ≤ cap ∧ cap ≤ 9223372036854775807 ∧ RowE Ak.eS w a l := by
 rcases open_slice_pairs Tryz.underlying31 Tryz.underlying70 cellsSort rfl rfl (by kernel_rfl) (by kernel_rfl) hf with ⟨hcs, _⟩ | ⟨x, len, c, m, n, V0, V1, D0, D1, P0, P1, hcs, _, hl, hm, hmm, _, hx⟩
 ·simp at hcs
  subst hcs
  exact ⟨none, 0, [], rfl, by simp, by omega, RowE.nil _ _ _⟩
 ·simp at hcs
  subst hcs
  have hlm : len ≤ m := by rw [hmm]; split <;> omega
  have each : ∀ i, i < m → ∃ s : Ak.Srt, w.cell? (x.add (i * 2)) = some (.int .i64 s.by_) ∧ w.cell? (x.add (i * 2 + 1)) = some (.bool s.down) := by
   intro i hi
   obtain ⟨e0, e1, t0, t1⟩ := hx i hi
   obtain ⟨n0, q0, _, w0⟩ := DataW.trod_int Tryz.underlying3 t0
   obtain ⟨n1, q1, _⟩ := DataW.trod_bool Tryz.underlying4 t1
   simp only [List.cons.injEq, and_true] at q0 q1
   exact ⟨⟨n0, n1⟩, by rw [e0, q0], by rw [e1, q1]⟩
  obtain ⟨Q, hQ⟩ : ∃ Q : Nat → Ak.Srt, ∀ i, i < m → w.cell? (x.add (i * 2)) = some (.int .i64 (Q i).by_) ∧ w.cell? (x.add (i * 2 + 1)) = some (.bool (Q i).down) :=
   ⟨fun i => if h : i < m then Classical.choose (each i h) else ⟨0, false⟩, fun i hi => by simp only [dif_pos hi]; exact Classical.choose_spec (each i hi)⟩
  have hlen : ((List.range len).map Q).length = len := by simp
  refine ⟨some x, c, (List.range len).map Q, by rw [hlen], by rw [hlen]; exact hl, by unfold maxLen at hm; omega, fun h0 => ?_⟩
  rw [hlen] at h0
  obtain ⟨b, off, spot⟩ := x
  have hc := (hQ 0 (by omega)).1
  have hspot : spot = none := by simpa [Addr.add] using World.cell?_spot hc
  subst hspot
  refine ⟨b, off, rfl, by simpa [Addr.add] using World.block_lt_of_cell? w _ hc, fun i s hs j v hv => ?_⟩
  have hi : i < len := by have := (List.getElem?_eq_some_iff.1 hs).1; omega
  rw [List.getElem?_map, List.getElem?_range hi] at hs
  obtain rfl : Q i = s := Option.some.inj hs
  obtain ⟨h1, h2⟩ := hQ i (by omega)
  rw [addr_add] at h1 h2
  match j, hv with
  | 0, hv => cases hv; exact h1
  | 1, hv => cases hv; exact h2
theorem list9 {α : Type} {cs : List α} (h : cs.length = 9) : ∃ c0 c1 c2 c3 c4 c5 c6 c7 c8, cs = [c0, c1, c2, c3, c4, c5, c6, c7, c8] := by
 match cs, h with
 | [c0, c1, c2, c3, c4, c5, c6, c7, c8], _ => exact ⟨c0, c1, c2, c3, c4, c5, c6, c7, c8, rfl⟩
theorem open_question_cells {cs : List Value} {fuel : Nat} {y : DataW H × List MemPlace} (hf : DataW.trod enc Tryz.prog w base spare held fuel 33 cs = some y) :
  ∃ (c : Cnd) (l : List Ak.Srt) (sa : Option Addr) (sc : Nat) (fn mn : Int), cs = [.int .i64 c.op, .slice c.ka c.kn c.kc, .string c.text, .int .i64 c.low, .int .i64 c.high, .slice c.aa c.an c.ac, .slice sa l.length sc, .int .i64 fn, .int .i64 mn] ∧ c.In w ∧ c.Fits ∧ l.length ≤ sc ∧ sc ≤ 9223372036854775807 ∧ RowE Ak.eS w sa l := by
 obtain ⟨xs, n, _, _, hl, hlen, hg⟩ := DataW.trod_struct Tryz.underlying33 hf
 have hlen : xs.length = 4 := hlen
 rw [cellsQuestion] at hl
 obtain ⟨c0, c1, c2, c3, c4, c5, c6, c7, c8, rfl⟩ := list9 hl
 obtain ⟨y0, e0⟩ := some_at hlen (show 0 < 4 by omega)
 obtain ⟨y1, e1⟩ := some_at hlen (show 1 < 4 by omega)
 obtain ⟨y2, e2⟩ := some_at hlen (show 2 < 4 by omega)
 obtain ⟨y3, e3⟩ := some_at hlen (show 3 < 4 by omega)
 have g0 : DataW.trod enc Tryz.prog w base spare held n 25 [c0, c1, c2, c3, c4, c5] = some y0 := (hg 0 _ rfl).trans e0
 have g1 : DataW.trod enc Tryz.prog w base spare held n 31 [c6] = some y1 := (hg 1 _ rfl).trans e1
 have g2 : DataW.trod enc Tryz.prog w base spare held n 3 [c7] = some y2 := (hg 2 _ rfl).trans e2
 have g3 : DataW.trod enc Tryz.prog w base spare held n 3 [c8] = some y3 := (hg 3 _ rfl).trans e3
 clear hg hf
 obtain ⟨c, hc, hI, hF⟩ := open_cond_cells n g0
 obtain ⟨sa, sc, l, rfl, hl1, hl2, hr⟩ := open_sortsF g1
 obtain ⟨fn, q2, _, _⟩ := DataW.trod_int Tryz.underlying3 g2
 obtain ⟨mn, q3, _, _⟩ := DataW.trod_int Tryz.underlying3 g3
 simp only [List.cons.injEq, and_true] at q2 q3
 subst q2 q3
 rw [hI.cells] at hc
 simp only [List.cons.injEq, and_true] at hc
 obtain ⟨rfl, rfl, rfl, rfl, rfl, rfl⟩ := hc
 exact ⟨c, l, sa, sc, fn, mn, rfl, hI, hF, hl1, hl2, hr⟩
theorem open_question {r : Reach} {b0 : Nat} {v : Value} {d : DataW H} {p : List MemPlace} (hv : Value.okWide Tryz.prog w r b0 33 v) (h : DataW.Trod enc Tryz.prog w base spare held 33 v d p) :
  ∃ (c : Cnd) (l : List Ak.Srt) (sa : Option Addr) (sc : Nat) (fn mn : Int), v = .agg #[.int .i64 c.op, .slice c.ka c.kn c.kc, .string c.text, .int .i64 c.low, .int .i64 c.high, .slice c.aa c.an c.ac, .slice sa l.length sc, .int .i64 fn, .int .i64 mn] ∧ c.In w ∧ c.Fits ∧ l.length ≤ sc ∧ sc ≤ 9223372036854775807 ∧ RowE Ak.eS w sa l := by
 obtain ⟨cs, rfl, hsz⟩ := okWide_struct Tryz.underlying33 hv
 obtain ⟨fuel, hf⟩ := h
 have hf : DataW.trod enc Tryz.prog w base spare held fuel 33 cs.toList = some (d, p) := by simpa [Value.cells] using hf
 obtain ⟨c, l, sa, sc, fn, mn, hq, h1, h2, h3, h4, h5⟩ := open_question_cells hf
 refine ⟨c, l, sa, sc, fn, mn, ?_, h1, h2, h3, h4, h5⟩
 rw [← hq]
end
end Go.Proofs.YtimjmjmpaicdbaaGreatDoor
namespace Go.Proofs.YtimjmjmpaicdbaaGreatDoor
open Go.RowKit Go.Sort Go.Shelf
namespace Cnd
def of (op : Int) (ka : Option Addr) (kn : Nat) (kids : Nat → Cnd) : Cnd := .mk op ka kn kn kids ⟨#[]⟩ 0 0 none 0 0 (fun _ => 0) (fun _ => 0)
def plc : Cnd := .mk 13 none 0 0 (fun _ => .zero) ⟨#[]⟩ 0 0 none 0 0 (fun _ => 0) (fun _ => 0)
end Cnd
namespace Ak
theorem win_len {α : Type} (f m : Nat) (L : List α) : (win f m L).length ≤ L.length := by
 unfold win; split
 ·rw [List.length_drop]; omega
 ·rw [List.length_take, List.length_drop]; omega
theorem win_all {α : Type} (L : List α) : win 0 0 L = L := by unfold win; rw [if_pos rfl, List.drop_zero]
end Ak
theorem RowL.grown {w w' : World} {a : Option Addr} {xs : List Int} {r : Option Nat} (h : RowL w a xs) (hg : w.grownBy w' r) (hne : ∀ ad : Addr, a = some ad → r ≠ some ad.block) : RowL w' a xs := by
 intro hl
 obtain ⟨b, off, rfl, hb, hcell⟩ := h hl
 have h1 := hg.block b hb (fun e => hne _ rfl e.symm)
 refine ⟨b, off, rfl, Nat.lt_of_lt_of_le hb hg.size, fun i hi => ?_⟩
 rw [← hcell i hi]
 simp only [World.cell?, h1]
theorem Ak.hasBy_more {l : List Ak.Srt} {k : Int} {t j : Nat} (h : Ak.hasBy k (l.take t) = true) (ht : t ≤ j) : Ak.hasBy k (l.take j) = true := by
 unfold Ak.hasBy at h ⊢
 rw [List.any_eq_true] at h ⊢
 obtain ⟨z, hz, hzk⟩ := h
 refine ⟨z, ?_, hzk⟩
 rw [show t = min t j by omega, ← List.take_take] at hz
 exact List.mem_of_mem_take hz
theorem questionError_is (c : Cnd) (l : List Ak.Srt) (sa : Option Addr) (sc : Nat) (f m : Int) (w : World) (hc : c.In w) (hG : c.Fits) (hr : RowE Ak.eS w sa l) (hsc : l.length ≤ sc) (hsm : sc ≤ 9223372036854775807) :
  Calls Tryz.prog 11 #[.agg #[.int .i64 c.op, .slice c.ka c.kn c.kc, .string c.text, .int .i64 c.low, .int .i64 c.high, .slice c.aa c.an c.ac, .slice sa l.length sc, .int .i64 f, .int .i64 m]] w fun e w' => e = .returned (.int .i64 (Ak.qErr c.err l f m)) ∧ Below w.heap.size w w' := by
 obtain ⟨q, hq⟩ : ∃ q, Ak.qErr c.err l f m = q := ⟨_, rfl⟩
 rw [hq]
 unfold Ak.qErr at hq
 obtain ⟨n, hn⟩ : ∃ n, l.length = n := ⟨_, rfl⟩
 rw [hn] at hsc hq ⊢
 have HN := Lib.hid hn
 obtain ⟨W1, hW1, hQ, hz1, hB1⟩ := box w #[.int .i64 c.op, .slice c.ka c.kn c.kc, .string c.text, .int .i64 c.low, .int .i64 c.high, .slice c.aa c.an c.ac, .slice sa n sc, .int .i64 f, .int .i64 m] 33
 have HW1 := Lib.hid hW1
 have HCC := Lib.hid (condError_is c W1 (Cnd.In.keep hB1 hc) hG)
 obtain ⟨q0, q1, q2, q3, q4, q5, q6, q7, q8⟩ := hQ.nine
 have HQ := Lib.hid hQ; have HR := Lib.hid (hr.keep hB1); have HB1 := Lib.hid hB1
 clear hW1 hz1 hc hG hr hQ hB1 hn
 obtain ⟨ce, hce⟩ : ∃ ce, c.err = ce := ⟨_, rfl⟩
 rw [hce] at HCC hq
 clear hce
 by_cases h0 : ce = 0
 ·subst h0
  rw [if_pos rfl] at hq
  by_cases h5 : 5 < n
  ·rw [if_pos h5] at hq
   have HQQ := Lib.hid hq; clear hq
   have h5' : (5 : Int) < (n : Int) := by omega
   go_enter Tryz.func11, Tryz.ntmps11
   go_upto_region 1 with fail
   rw [HW1.out]
   go_wp2_with (go_at_call 9; (with_reducible refine HCC.out.mono ?_); rintro e w4 ⟨rfl, hB4⟩; obtain ⟨q0, q1, q2, q3, q4, q5, q6, q7, q8⟩ := (HQ.out.keep hB4).nine)
   go_ret
   exact ⟨ret_int HQQ.out, below_up HB1.out hB4⟩
  ·rw [if_neg h5] at hq
   have HQQ := Lib.hid hq; clear hq
   have h5' : ¬ (5 : Int) < (n : Int) := by omega
   have hn5 : n ≤ 5 := by omega
   go_enter Tryz.func11, Tryz.ntmps11
   go_upto_region 1 with fail
   rw [HW1.out]
   go_wp2_with (go_at_call 9; (with_reducible refine HCC.out.mono ?_); rintro e w4 ⟨rfl, hB4⟩; obtain ⟨q0, q1, q2, q3, q4, q5, q6, q7, q8⟩ := (HQ.out.keep hB4).nine)
   obtain ⟨se, hse⟩ : ∃ se, Ak.srtE [] l = se := ⟨_, rfl⟩
   have HQS : Hid ((if se = 0 then (if Ak.rngB f = true ∧ Ak.rngB m = true then 0 else 2) else se) = q) := Lib.hid (by rw [← hse]; exact HQQ.out)
   have HSE := Lib.hid hse
   clear hse
   go_loopg [21] n (fun gk i wr => ∃ j : Nat, j ≤ n ∧ gk = n - j ∧ i = .int .i64 j ∧ Ak.srtE (l.take j) (l.drop j) = se ∧ Below W1.heap.size W1 wr)
   case atStart => exact ⟨0, by omega, rfl, rfl, HSE.out, hB4⟩
   case round =>
    clear q0 q1 q2 q3 q4 q5 q6 q7 q8
    obtain ⟨j, hj, rfl, rfl, hsc2, hB⟩ := hrel
    have HSC := Lib.hid hsc2; clear hsc2
    obtain ⟨q0, q1, q2, q3, q4, q5, q6, q7, q8⟩ := (HQ.out.keep hB).nine
    by_cases hlt : j < n
    ·obtain ⟨s, hs⟩ : ∃ s, l[j]? = some s := ⟨_, List.getElem?_eq_getElem (by rw [HN.out]; exact hlt)⟩
     obtain ⟨b, off, rfl, hb, hcell⟩ := (HR.out.keep hB) (by rw [HN.out]; omega)
     have c0 := hcell j s hs 0 (.int .i64 s.by_) rfl
     have c1 := hcell j s hs 1 (.bool s.down) rfl
     have HST := Lib.hid (Ak.srtE_step HSC.out hs)
     obtain ⟨k, d⟩ := s
     have c0 : wr.cell? ⟨b, off + j * 2, none⟩ = some (.int .i64 k) := c0
     have c1 : wr.cell? ⟨b, off + j * 2 + 1, none⟩ = some (.bool d) := c1
     obtain ⟨Z1, hZ1, hZ, hz1, hBZ⟩ := box wr #[.int .i64 k, .bool d] 70
     have HZ1 := Lib.hid hZ1
     have hBZ2 := below_up hB hBZ
     have HZB := Lib.hid hZ
     obtain ⟨z0, z1⟩ := hZ.two
     have HQZ := Lib.hid ((HQ.out.keep hBZ2).nine)
     have hj1 : (j : Int) < (n : Int) := by omega
     have hjc : (j : Int) ≤ (sc : Int) := by omega
     clear hcell hs hZ1 hz1 hZ
     by_cases hk : 1 ≤ k ∧ k ≤ 5
     ·have HKO := Lib.hid (fun W => in_is k 1 5 true (decide_eq_true hk) W)
      have HST2 := Lib.hid (HST.out.2.1 hk); have HST3 := Lib.hid (HST.out.2.2 hk)
      clear hk HST
      go_upto_region 9 with fail
      rw [HZ1.out]
      clear q0 q1 q2 q3 q4 q5 q6 q7 q8 c0 c1
      obtain ⟨q0, q1, q2, q3, q4, q5, q6, q7, q8⟩ := HQZ.out
      go_wp2_with (go_at_call 31; (with_reducible refine (HKO.out _).mono ?_); rintro e w' ⟨rfl, rfl⟩)
      clear q0 q1 q2 q3 q4 q5 q6 q7 q8 z0 z1
      go_loopg [35] j (fun gk i w2 => ∃ t : Nat, t ≤ j ∧ gk = j - t ∧ i = .int .i64 t ∧ Ak.hasBy k (l.take t) = false ∧ Below Z1.heap.size Z1 w2)
      case atStart => exact ⟨0, by omega, rfl, rfl, rfl, Below.refl _ _⟩
      case round =>
       obtain ⟨t, ht, rfl, rfl, hno, hB2⟩ := hrel
       have HNO := Lib.hid hno; clear hno
       have hBw2 := below_up hBZ2 hB2
       by_cases hlt2 : t < j
       ·obtain ⟨s2, hs2⟩ : ∃ s2, l[t]? = some s2 := ⟨_, List.getElem?_eq_getElem (by rw [HN.out]; omega)⟩
        obtain ⟨b', off', he', hb', hcell2⟩ := (HR.out.keep hBw2) (by rw [HN.out]; omega)
        obtain ⟨rfl, rfl⟩ : b = b' ∧ off = off' := by simpa using he'
        have d0 := hcell2 t s2 hs2 0 (.int .i64 s2.by_) rfl
        have d1 := hcell2 t s2 hs2 1 (.bool s2.down) rfl
        have HT := Lib.hid (Ak.hasBy_take (k := k) hs2)
        obtain ⟨k2, d2⟩ := s2
        have d0 : wr.cell? ⟨b, off + t * 2, none⟩ = some (.int .i64 k2) := d0
        have d1 : wr.cell? ⟨b, off + t * 2 + 1, none⟩ = some (.bool d2) := d1
        obtain ⟨Y1, hY1, hY, hy1, hBY⟩ := box wr #[.int .i64 k2, .bool d2] 70
        have HY1 := Lib.hid hY1
        have hB3 := below_up hB2 hBY
        obtain ⟨y0, y1⟩ := hY.two
        obtain ⟨z0, z1⟩ := (HZB.out.keep hB3).two
        have ht1 : (t : Int) < (j : Int) := by omega
        clear hY1 hy1 hY hcell2 hs2
        by_cases he : k2 = k
        ·have he1 : (k2 == k) = true := by simpa using he
         have HE : Hid (se = 6) := Lib.hid (HST2.out (Ak.hasBy_more (t := t + 1) (by rw [HT.out]; show (_ || k2 == k) = true; rw [he1]; simp) (by omega)))
         clear he
         go_upto_region 14 with fail
         rw [HY1.out]
         go_wp2_with fail
         go_ret
         exact ⟨ret_int (by rw [← HQS.out, HE.out]; rfl), below_up HB1.out (below_up hBZ2 hB3)⟩
        ·have he1 : (k2 == k) = false := by simpa using he
         have HE : Hid (Ak.hasBy k (l.take (t + 1)) = false) := Lib.hid (by rw [HT.out, HNO.out]; exact he1)
         clear he
         go_upto_region 14 with fail
         rw [HY1.out]
         go_wp2_with fail
         go_roundg (j - (t + 1))
         case rel => exact ⟨t + 1, by omega, rfl, by go_num, HE.out, hB3⟩
         case measure => omega
       ·obtain rfl : t = j := by omega
        have HE := Lib.hid (HST3.out HNO.out)
        have htj : ¬ ((t : Int) < (t : Int)) := by omega
        go_wp2_with fail
        go_roundg (n - (t + 1))
        case rel => exact ⟨t + 1, by omega, rfl, by go_num, HE.out, hBw2⟩
        case measure => omega
     ·have HKO := Lib.hid (fun W => in_is k 1 5 false (decide_eq_false hk) W)
      have HE := Lib.hid (HST.out.1 hk)
      clear hk
      go_upto_region 9 with fail
      rw [HZ1.out]
      go_wp2_with (go_at_call 31; (with_reducible refine (HKO.out _).mono ?_); rintro e w' ⟨rfl, rfl⟩)
      go_ret
      exact ⟨ret_int (by rw [← HQS.out, HE.out]; rfl), below_up HB1.out hBZ2⟩
    ·obtain rfl : j = n := by omega
     have HE : Hid (0 = se) := Lib.hid (by have h := HSC.out; rw [← HN.out, List.drop_length, Ak.srtE] at h; exact h)
     have HF := Lib.hid (fun W => in_is f 0 1000 (Ak.rngB f) rfl W)
     have HM := Lib.hid (fun W => in_is m 0 1000 (Ak.rngB m) rfl W)
     have HEQ : Hid ((if Ak.rngB f = true ∧ Ak.rngB m = true then 0 else 2) = q) := Lib.hid (by rw [← HQS.out, ← HE.out, if_pos rfl])
     generalize Ak.rngB f = rf at *
     generalize Ak.rngB m = rm at *
     have hjn : ¬ ((j : Int) < (j : Int)) := by omega
     cases rf
     ·go_wp2_with (go_at_call 31; (first | (with_reducible refine (HF.out _).mono ?_) | (with_reducible refine (HM.out _).mono ?_)); rintro e w' ⟨rfl, rfl⟩)
      go_ret
      exact ⟨ret_int (by rw [← HEQ.out]; rfl), below_up HB1.out hB⟩
     ·cases rm
      ·go_wp2_with (go_at_call 31; (first | (with_reducible refine (HF.out _).mono ?_) | (with_reducible refine (HM.out _).mono ?_)); rintro e w' ⟨rfl, rfl⟩)
       go_ret
       exact ⟨ret_int (by rw [← HEQ.out]; rfl), below_up HB1.out hB⟩
      ·go_wp2_with (go_at_call 31; (first | (with_reducible refine (HF.out _).mono ?_) | (with_reducible refine (HM.out _).mono ?_)); rintro e w' ⟨rfl, rfl⟩)
       go_ret
       exact ⟨ret_int (by rw [← HEQ.out]; rfl), below_up HB1.out hB⟩
 ·rw [if_neg h0] at hq
  have HQQ := Lib.hid hq; clear hq
  have h1 : (ce != 0) = true := by simpa using h0
  go_enter Tryz.func11, Tryz.ntmps11
  go_upto_region 1 with fail
  rw [HW1.out]
  go_wp2_with (go_at_call 9; (with_reducible refine HCC.out.mono ?_); rintro e w4 ⟨rfl, hB4⟩; obtain ⟨q0, q1, q2, q3, q4, q5, q6, q7, q8⟩ := (HQ.out.keep hB4).nine)
  go_ret
  exact ⟨ret_int HQQ.out, below_up HB1.out hB4⟩
end Go.Proofs.YtimjmjmpaicdbaaGreatDoor
namespace Go.Proofs.YtimjmjmpaicdbaaGreatDoor
open Go.Shelf
def Lay.wrStrS_ren : Go.Shelf.Ren := ⟨fun | 166 => 26 | 169 => 30 | 170 => 29 | 240 => 73 | 276 => 111 | 277 => 187 | 165 => 97 | 241 => 153 | n => n, fun | 31 => 83 | 20 => 20 | 72 => 64 | 76 => 67 | 70 => 61 | 37 => 62 | 75 => 66 | 127 => 117 | 164 => 156 | 80 => 74 | n => n, fun | n => n⟩
theorem Lay.wrStrS : Go.Proofs.Lays.n166 Tryz.prog Lay.wrStrS_ren := {
 mixed := by kernel_rfl
 f166 := Tryz.func26.trans (congrArg some (by kernel_rfl))
 f240 := Tryz.func73.trans (congrArg some (by kernel_rfl))
 f276 := Tryz.func111.trans (congrArg some (by kernel_rfl))
 t0 := Tryz.underlying0
 a0 := Tryz.isAgg0
 z0 := Tryz.sizeOf0
 v0 := Tryz.zeroValue0
 t3 := Tryz.underlying3
 a3 := Tryz.isAgg3
 z3 := Tryz.sizeOf3
 v3 := Tryz.zeroValue3
 t4 := Tryz.underlying4
 a4 := Tryz.isAgg4
 z4 := Tryz.sizeOf4
 v4 := Tryz.zeroValue4
 t9 := Tryz.underlying9
 a9 := Tryz.isAgg9
 z9 := Tryz.sizeOf9
 v9 := Tryz.zeroValue9
 t20 := Tryz.underlying20
 a20 := Tryz.isAgg20
 z20 := Tryz.sizeOf20
 v20 := Tryz.zeroValue20
 t37 := Tryz.underlying62
 a37 := Tryz.isAgg62
 z37 := Tryz.sizeOf62
 v37 := Tryz.zeroValue62
 t70 := Tryz.underlying61
 a70 := Tryz.isAgg61
 z70 := Tryz.sizeOf61
 v70 := Tryz.zeroValue61
 t72 := Tryz.underlying64
 a72 := Tryz.isAgg64
 z72 := Tryz.sizeOf64
 v72 := Tryz.zeroValue64
 t75 := Tryz.underlying66
 a75 := Tryz.isAgg66
 z75 := Tryz.sizeOf66
 v75 := Tryz.zeroValue66
 t164 := Tryz.underlying156
 a164 := Tryz.isAgg156
 z164 := Tryz.sizeOf156
 v164 := Tryz.zeroValue156 }
def Lay.bStrS_ren : Go.Shelf.Ren := ⟨fun | 166 => 26 | 169 => 30 | 170 => 29 | 240 => 73 | 276 => 111 | 277 => 187 | 165 => 97 | 241 => 153 | n => n, fun | 31 => 83 | 20 => 20 | 72 => 64 | 76 => 67 | 70 => 61 | 37 => 62 | 75 => 66 | 127 => 117 | 164 => 156 | 80 => 74 | n => n, fun | n => n⟩
theorem Lay.bStrS : Go.Proofs.Lays.n169 Tryz.prog Lay.bStrS_ren := {
 mixed := by kernel_rfl
 f169 := Tryz.func30.trans (congrArg some (by kernel_rfl))
 t0 := Tryz.underlying0
 a0 := Tryz.isAgg0
 z0 := Tryz.sizeOf0
 v0 := Tryz.zeroValue0
 t3 := Tryz.underlying3
 a3 := Tryz.isAgg3
 z3 := Tryz.sizeOf3
 v3 := Tryz.zeroValue3
 t9 := Tryz.underlying9
 a9 := Tryz.isAgg9
 z9 := Tryz.sizeOf9
 v9 := Tryz.zeroValue9
 t37 := Tryz.underlying62
 a37 := Tryz.isAgg62
 z37 := Tryz.sizeOf62
 v37 := Tryz.zeroValue62
 t70 := Tryz.underlying61
 a70 := Tryz.isAgg61
 z70 := Tryz.sizeOf61
 v70 := Tryz.zeroValue61
 t72 := Tryz.underlying64
 a72 := Tryz.isAgg64
 z72 := Tryz.sizeOf64
 v72 := Tryz.zeroValue64
 t127 := Tryz.underlying117
 a127 := Tryz.isAgg117
 z127 := Tryz.sizeOf117
 v127 := Tryz.zeroValue117 }
def Lay.bLenS_ren : Go.Shelf.Ren := ⟨fun | 166 => 26 | 169 => 30 | 170 => 29 | 240 => 73 | 276 => 111 | 277 => 187 | 165 => 97 | 241 => 153 | n => n, fun | 31 => 83 | 20 => 20 | 72 => 64 | 76 => 67 | 70 => 61 | 37 => 62 | 75 => 66 | 127 => 117 | 164 => 156 | 80 => 74 | n => n, fun | n => n⟩
theorem Lay.bLenS : Go.Proofs.Lays.n170 Tryz.prog Lay.bLenS_ren := {
 mixed := by kernel_rfl
 f170 := Tryz.func29.trans (congrArg some (by kernel_rfl))
 t0 := Tryz.underlying0
 a0 := Tryz.isAgg0
 z0 := Tryz.sizeOf0
 v0 := Tryz.zeroValue0
 t3 := Tryz.underlying3
 a3 := Tryz.isAgg3
 z3 := Tryz.sizeOf3
 v3 := Tryz.zeroValue3
 t37 := Tryz.underlying62
 a37 := Tryz.isAgg62
 z37 := Tryz.sizeOf62
 v37 := Tryz.zeroValue62
 t70 := Tryz.underlying61
 a70 := Tryz.isAgg61
 z70 := Tryz.sizeOf61
 v70 := Tryz.zeroValue61
 t72 := Tryz.underlying64
 a72 := Tryz.isAgg64
 z72 := Tryz.sizeOf64
 v72 := Tryz.zeroValue64 }
end Go.Proofs.YtimjmjmpaicdbaaGreatDoor
namespace Go.Proofs.YtimjmjmpaicdbaaGreatDoor
open Go.RowKit Go.Sort Go.Shelf
theorem Lay.extStr : Builder.Extra Tryz.prog Lay.wrStrS_ren := {
 sizeBuilder := by kernel_rfl
 liesBuilder := by kernel_rfl
 t5 := Tryz.underlying5
 a5 := Tryz.isAgg5
 z5 := Tryz.sizeOf5
 v5 := Tryz.zeroValue5
 infoByte := by kernel_rfl
 cellsByte := by kernel_rfl
 sizeByte := by kernel_rfl
 neB5 := by decide }
theorem Lay.extGet : Builder.Extra Tryz.prog Lay.bStrS_ren := {
 sizeBuilder := by kernel_rfl
 liesBuilder := by kernel_rfl
 t5 := Tryz.underlying5
 a5 := Tryz.isAgg5
 z5 := Tryz.sizeOf5
 v5 := Tryz.zeroValue5
 infoByte := by kernel_rfl
 cellsByte := by kernel_rfl
 sizeByte := by kernel_rfl
 neB5 := by decide }
def Bld (w : World) (b : Nat) (l : List UInt8) : Prop := Lib.IsBuilderF 64 5 b b (Lib.byteCells l) w
theorem builderAtF_below {T e : TypeId} {B b : Nat} {p : Value} {bs : List Value} {W W' : World} (h : Lib.BuilderAtF T e B b p bs W) (hb : Below W.heap.size W W') : Lib.BuilderAtF T e B b p bs W' := by
 have hlt := h.lt
 obtain ⟨hB, v, hv, hown, hne⟩ := h
 exact ⟨hB, v, (hb.block b hlt).trans hv, hown.kept (row := none) ⟨hb.os, hb.tape, hb.output, hb.size, fun k hk _ => hb.block k hk⟩ (Classical.em _), hne⟩
theorem Bld.keep {W W' : World} {b : Nat} {l : List UInt8} (h : Bld W b l) (hb : Below W.heap.size W W') : Bld W' b l :=
 Or.elim h (fun x => .inl (builderAtF_below x hb)) (fun x => .inr (builderAtF_below x hb))
theorem Bld.lt {W : World} {b : Nat} {l : List UInt8} (h : Bld W b l) : b < W.heap.size := Or.elim h (fun x => x.lt) (fun x => x.lt)
theorem Bld.new (w : World) : Bld (w.alloc (.cells #[.pointer none, .slice none 0 0] 64)) w.heap.size [] :=
 .inl ⟨Nat.le_refl _, .slice none 0 0, Blk.new _ _ _, World.ownsRowF_nil _ _ _ _, by simp [Value.ownBlock]⟩
theorem writeString_is (b : Nat) (l : List UInt8) (s : List UInt8) (w : World) (h : Bld w b l) (hlen : l.length + s.length ≤ 140737488355328) :
  Calls Tryz.prog 26 #[.pointer (some ⟨b, 0, none⟩), .string (Tx.mk s)] w fun e w' => e = .returned (.tuple #[.int .i64 (Tx.mk s).size, .nilIface]) ∧ Bld w' b (l ++ s) ∧ Below b w w' ∧ Lib.OthersKept 5 (some b) w w' := by
 refine (Any.Builder_WriteString_k Lay.wrStrS Lay.extStr b b (Lib.byteCells l) (Tx.mk s) w h (by rw [Lib.byteCells_length, Tx.mk_size]; exact hlen) (Nat.le_of_lt h.lt)).mono ?_
 rintro e w' ⟨he, h1, h2, h3⟩
 refine ⟨he, .inr ?_, h2, h3⟩
 rw [Lib.byteCells_append]
 have e2 : Lib.strCells (Tx.mk s) = Lib.byteCells s := by rw [Lib.strCells_eq]
 rw [← e2]
 exact h1
theorem bldString_is (b : Nat) (l : List UInt8) (w : World) (h : Bld w b l) :
  Calls Tryz.prog 30 #[.pointer (some ⟨b, 0, none⟩)] w fun e w' => e = .returned (.string (Tx.mk l)) ∧ Below b w w' :=
 (Any.Builder_String_any_f Lay.bStrS Lay.extGet b b l w h (Nat.le_of_lt h.lt)).mono fun e w' hh => ⟨hh.1, hh.2.2⟩
namespace Qx
def word (by_ : Int) : ByteArray := if by_ = 1 then ⟨#[105, 100]⟩ else if by_ = 2 then ⟨#[109, 111, 109, 101, 110, 116]⟩ else if by_ = 3 then ⟨#[115, 116, 97, 114, 115]⟩ else if by_ = 4 then ⟨#[112, 105, 120, 101, 108, 115]⟩ else ⟨#[99, 97, 112, 116, 105, 111, 110]⟩
theorem word_size (by_ : Int) : (word by_).size ≤ 7 := by
 by_cases h1 : by_ = 1
 ·subst h1; decide
 by_cases h2 : by_ = 2
 ·subst h2; decide
 by_cases h3 : by_ = 3
 ·subst h3; decide
 by_cases h4 : by_ = 4
 ·subst h4; decide
 unfold word
 rw [if_neg h1, if_neg h2, if_neg h3, if_neg h4]; decide
def srt (s : Ak.Srt) : ByteArray := if s.down = true then ⟨#[115, 111, 114, 116, 32]⟩ ++ word s.by_ ++ ⟨#[32, 100, 111, 119, 110]⟩ else ⟨#[115, 111, 114, 116, 32]⟩ ++ word s.by_ ++ ⟨#[32, 117, 112]⟩
theorem srt_size (s : Ak.Srt) : (srt s).size ≤ 17 := by
 have := word_size s.by_
 unfold srt
 split <;> (simp only [ByteArray.size_append]; have e : (⟨#[115, 111, 114, 116, 32]⟩ : ByteArray).size = 5 := rfl; have e2 : (⟨#[32, 100, 111, 119, 110]⟩ : ByteArray).size = 5 := rfl; have e3 : (⟨#[32, 117, 112]⟩ : ByteArray).size = 3 := rfl; omega)
def line (s : Ak.Srt) : List UInt8 := (srt s).data.toList ++ [10]
def lines (l : List Ak.Srt) : List UInt8 := l.flatMap line
theorem lines_snoc (l : List Ak.Srt) (s : Ak.Srt) : lines (l ++ [s]) = lines l ++ line s := by simp [lines]
theorem line_len (s : Ak.Srt) : (line s).length ≤ 18 := by
 have := srt_size s
 have e : (srt s).data.toList.length = (srt s).size := rfl
 unfold line; rw [List.length_append, e]; simp; omega
theorem lines_len : ∀ l : List Ak.Srt, (lines l).length ≤ 18 * l.length
 | [] => by simp [lines]
 | s :: l => by
   have h1 := lines_len l
   have h2 := line_len s
   have e : lines (s :: l) = line s ++ lines l := by simp [lines]
   rw [e, List.length_append, List.length_cons]; omega
def fromT (f : Int) : List UInt8 := if f = 0 then [] else [102, 114, 111, 109, 32] ++ Lib.itoa f ++ [10]
def mostT (m : Int) : List UInt8 := if m = 0 then [] else [109, 111, 115, 116, 32] ++ Lib.itoa m ++ [10]
noncomputable def head (c : Cnd) : List UInt8 := [119, 104, 101, 114, 101, 32] ++ (Cx.txt c).1 ++ [10]
noncomputable def text (c : Cnd) (l : List Ak.Srt) (f m : Int) : List UInt8 := head c ++ lines l ++ fromT f ++ mostT m
theorem ba_app (a b : ByteArray) : (a ++ b).data.toList = a.data.toList ++ b.data.toList := by simp
theorem fromT_len {f : Int} (h : 0 ≤ f ∧ f ≤ 1000) : (fromT f).length ≤ 27 := by
 unfold fromT
 have := Cx.itoa_len (n := f) (by omega)
 split
 ·simp
 ·simp only [List.length_append, List.length_cons, List.length_nil]; omega
theorem mostT_len {f : Int} (h : 0 ≤ f ∧ f ≤ 1000) : (mostT f).length ≤ 27 := by
 unfold mostT
 have := Cx.itoa_len (n := f) (by omega)
 split
 ·simp
 ·simp only [List.length_append, List.length_cons, List.length_nil]; omega
end Qx
theorem writeStringB_is (b : Nat) (l : List UInt8) (s : ByteArray) (w : World) (h : Bld w b l) (hlen : l.length + s.size ≤ 140737488355328) :
  Calls Tryz.prog 26 #[.pointer (some ⟨b, 0, none⟩), .string s] w fun e w' => e = .returned (.tuple #[.int .i64 s.size, .nilIface]) ∧ Bld w' b (l ++ s.data.toList) ∧ Below b w w' :=
 (writeString_is b l s.data.toList w h hlen).mono fun e w' hh => ⟨hh.1, hh.2.1, hh.2.2.1⟩
theorem bldLen_is (b : Nat) (l : List UInt8) (w : World) (h : Bld w b l) :
  Calls Tryz.prog 29 #[.pointer (some ⟨b, 0, none⟩)] w fun e w' => e = .returned (.int .i64 (l.length : Nat)) ∧ w' = w := by
 have := Any.Builder_Len_f Lay.bLenS b b (Lib.byteCells l) w h
 rw [Lib.byteCells_length] at this
 exact this
theorem Qx.words_idx (by_ : Int) (hop : by_ = 1 ∨ by_ = 2 ∨ by_ = 3 ∨ by_ = 4 ∨ by_ = 5) (V : World) :
  (Instr.index 158 (.agg #[.string ⟨#[]⟩, .string ⟨#[105, 100]⟩, .string ⟨#[109, 111, 109, 101, 110, 116]⟩, .string ⟨#[115, 116, 97, 114, 115]⟩, .string ⟨#[112, 105, 120, 101, 108, 115]⟩, .string ⟨#[99, 97, 112, 116, 105, 111, 110]⟩]) (.int .i64 by_)).run Tryz.prog V = .ok (.string (Qx.word by_)) V := by
 rcases hop with rfl | rfl | rfl | rfl | rfl <;> kernel_rfl
theorem sortWord_is (by_ : Int) (h : 1 ≤ by_ ∧ by_ ≤ 5) (w : World) : Calls Tryz.prog 74 #[.int .i64 by_] w fun e w' => e = .returned (.string (Qx.word by_)) ∧ w' = w := by
 have hop : by_ = 1 ∨ by_ = 2 ∨ by_ = 3 ∨ by_ = 4 ∨ by_ = 5 := by omega
 clear h
 have hix := Qx.words_idx by_ hop
 generalize Qx.word by_ = X at *
 clear hop
 go_enter Tryz.func74, Tryz.ntmps74
 go_wp2_with fail
 go_ret
 exact ⟨rfl, rfl⟩
theorem sortWordR_is (by_ : Int) (h : 1 ≤ by_ ∧ by_ ≤ 5) (w : World) : Calls Tryz.prog 35 #[.int .i64 by_] w fun e w' => e = .returned (.string (Qx.word by_)) ∧ w' = w := by
 have hop : by_ = 1 ∨ by_ = 2 ∨ by_ = 3 ∨ by_ = 4 ∨ by_ = 5 := by omega
 rcases hop with rfl | rfl | rfl | rfl | rfl
 all_goals
  go_enter Tryz.func35, Tryz.ntmps35
  go_wp2_with fail
  go_ret
  exact ⟨rfl, rfl⟩
theorem sortText_is (s : Ak.Srt) (h : 1 ≤ s.by_ ∧ s.by_ ≤ 5) (w : World) : Calls Tryz.prog 27 #[.agg #[.int .i64 s.by_, .bool s.down]] w fun e w' => e = .returned (.string (Qx.srt s)) ∧ Below w.heap.size w w' := by
 obtain ⟨by_, down⟩ := s
 obtain ⟨W1, hW1, hP, hz1, hB1⟩ := box w #[.int .i64 by_, .bool down] 70
 have HW1 := Lib.hid hW1
 obtain ⟨c0, c1⟩ := hP.two
 have HS := Lib.hid (fun W => sortWord_is by_ h W)
 have hws := Qx.word_size by_
 have HE : Hid (Qx.srt ⟨by_, down⟩ = if down = true then ⟨#[115, 111, 114, 116, 32]⟩ ++ Qx.word by_ ++ ⟨#[32, 100, 111, 119, 110]⟩ else ⟨#[115, 111, 114, 116, 32]⟩ ++ Qx.word by_ ++ ⟨#[32, 117, 112]⟩) := Lib.hid rfl
 generalize Qx.word by_ = X at *
 generalize Qx.srt ⟨by_, down⟩ = Y at *
 clear hW1 hP h
 show Calls Tryz.prog 27 #[.agg #[.int .i64 by_, .bool down]] w _
 cases down
 ·have HE2 := Lib.hid (HE.out.trans (if_neg (by decide)))
  go_enter Tryz.func27, Tryz.ntmps27
  go_wp2_with fail
  rw [HW1.out]
  go_wp2_with (go_at_call 74; (with_reducible refine (HS.out _).mono ?_); rintro e wq ⟨rfl, hwq⟩; subst wq)
  go_ret
  exact ⟨by rw [HE2.out]; rfl, hB1⟩
 ·have HE2 := Lib.hid (HE.out.trans (if_pos rfl))
  go_enter Tryz.func27, Tryz.ntmps27
  go_wp2_with fail
  rw [HW1.out]
  go_wp2_with (go_at_call 74; (with_reducible refine (HS.out _).mono ?_); rintro e wq ⟨rfl, hwq⟩; subst wq)
  go_ret
  exact ⟨by rw [HE2.out]; rfl, hB1⟩
end Go.Proofs.YtimjmjmpaicdbaaGreatDoor
