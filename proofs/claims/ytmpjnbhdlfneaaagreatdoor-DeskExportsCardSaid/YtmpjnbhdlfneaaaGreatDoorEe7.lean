/- Parts of the proof, no condition: CouLays, TxMath, DigMath, DigFix, RepR, RepQ, CxWord, RepN, TxTld, ToldN. -/
import Derived.Shelf.Strings.Count
import Derived.Test.YtmpjnbhdlfneaaaGreatDoorProg
import Derived.Lib.ItoaLen
import Derived.Lib.Repeat
import Derived.Lib.Atoi
import Derived.Lib.SlTrimSet
import Derived.Test.YtmpjnbhdlfneaaaGreatDoorEe1
import Derived.Test.YtmpjnbhdlfneaaaGreatDoorEe6
import Derived.Lib.Join
import Derived.Deep.AppendSrc
import Derived.Laws.IdiomStrings
set_option maxRecDepth 100000
set_option maxHeartbeats 4000000
set_option linter.unusedSimpArgs false
set_option linter.unusedVariables false
namespace Go.Proofs.YtmpjnbhdlfneaaaGreatDoor
open Go.Shelf
def Lay.countS_ren : Go.Shelf.Ren := ⟨fun | 138 => 80 | 195 => 108 | 218 => 110 | 143 => 70 | 219 => 69 | 217 => 91 | 225 => 92 | 224 => 93 | 267 => 94 | 266 => 123 | 314 => 124 | n => n, fun | 9 => 9 | 3 => 3 | 4 => 4 | 5 => 5 | 0 => 0 | 46 => 129 | 146 => 155 | 51 => 114 | n => n, fun | 1 => 0 | n => n⟩
theorem Lay.countS : Go.Proofs.Lays.n138 Tryz.prog Lay.countS_ren := {
 mixed := by kernel_rfl
 f138 := Tryz.func80.trans (congrArg some (by kernel_rfl))
 f143 := Tryz.func70.trans (congrArg some (by kernel_rfl))
 f195 := Tryz.func108.trans (congrArg some (by kernel_rfl))
 f217 := Tryz.func91.trans (congrArg some (by kernel_rfl))
 f218 := Tryz.func110.trans (congrArg some (by kernel_rfl))
 f219 := Tryz.func69.trans (congrArg some (by kernel_rfl))
 f224 := Tryz.func93.trans (congrArg some (by kernel_rfl))
 f225 := Tryz.func92.trans (congrArg some (by kernel_rfl))
 f266 := Tryz.func123.trans (congrArg some (by kernel_rfl))
 f267 := Tryz.func94.trans (congrArg some (by kernel_rfl))
 f314 := Tryz.func124.trans (congrArg some (by kernel_rfl))
 t0 := Tryz.underlying0
 a0 := Tryz.isAgg0
 z0 := Tryz.sizeOf0
 v0 := Tryz.zeroValue0
 t3 := Tryz.underlying3
 a3 := Tryz.isAgg3
 z3 := Tryz.sizeOf3
 v3 := Tryz.zeroValue3
 t4 := Tryz.underlying4
 a4 := Tryz.isAgg4
 z4 := Tryz.sizeOf4
 v4 := Tryz.zeroValue4
 t5 := Tryz.underlying5
 a5 := Tryz.isAgg5
 z5 := Tryz.sizeOf5
 v5 := Tryz.zeroValue5
 t9 := Tryz.underlying9
 a9 := Tryz.isAgg9
 z9 := Tryz.sizeOf9
 v9 := Tryz.zeroValue9
 t46 := Tryz.underlying129
 a46 := Tryz.isAgg129
 z46 := Tryz.sizeOf129
 v46 := Tryz.zeroValue129
 t51 := Tryz.underlying114
 a51 := Tryz.isAgg114
 z51 := Tryz.sizeOf114
 v51 := Tryz.zeroValue114
 t146 := Tryz.underlying155
 a146 := Tryz.isAgg155
 z146 := Tryz.sizeOf155
 v146 := Tryz.zeroValue155
 g1 := by kernel_rfl }
end Go.Proofs.YtmpjnbhdlfneaaaGreatDoor
namespace Go.Proofs.YtmpjnbhdlfneaaaGreatDoor
namespace Tx
open Go.Lib
abbrev mk (l : List UInt8) : ByteArray := ⟨l.toArray⟩
theorem mk_append (a b : List UInt8) : mk a ++ mk b = mk (a ++ b) := by
 apply ByteArray.ext
 simp [mk]
theorem mk_size (a : List UInt8) : (mk a).size = a.length := by simp [ByteArray.size]
theorem mk_toList (a : List UInt8) : (mk a).data.toList = a := by simp
def dl (n : Nat) : Nat := (decDigits n).length
theorem dl_one {n : Nat} (h : n < 10) : dl n = 1 := by unfold dl; rw [decDigits, dif_pos h]; rfl
theorem dl_succ {n : Nat} (h : 10 ≤ n) : dl n = dl (n / 10) + 1 := by unfold dl; rw [decDigits, dif_neg (by omega)]; simp
theorem dl_le (n : Nat) (h : n ≤ 9223372036854775807) : dl n ≤ 19 := by
 have key : ∀ k n, n < 10 ^ (k + 1) → dl n ≤ k + 1 := by
  intro k
  induction k with
  | zero => intro n hn; rw [dl_one (by simpa using hn)]; omega
  | succ k ih =>
    intro n hn
    by_cases h1 : n < 10
    ·rw [dl_one h1]; omega
    ·rw [dl_succ (by omega)]
     have h2 : n / 10 < 10 ^ (k + 1) := by rw [Nat.pow_succ] at hn; omega
     have := ih _ h2; omega
 exact key 18 n (by omega)
end Tx
namespace Dg
open Go.Lib
def digits : List UInt8 := [48, 49, 50, 51, 52, 53, 54, 55, 56, 57]
end Dg
end Go.Proofs.YtmpjnbhdlfneaaaGreatDoor
namespace Go.Proofs.YtmpjnbhdlfneaaaGreatDoor
open Go.RowKit Go.Sort
namespace Dg
end Dg
theorem strIdx (l : List UInt8) (j : Nat) (b : UInt8) (hb : l[j]? = some b) (V : World) : (Instr.index 9 (.string (Tx.mk l)) (.int .i64 (j : Int))).run Tryz.prog V = .ok (.int .u8 (b.toNat : Int)) V := by
 obtain ⟨hj, e⟩ := List.getElem?_eq_some_iff.1 hb
 have h0 : (0 : Int) ≤ (j : Int) := by omega
 have hsz := Tx.mk_size l
 have h1 : (j : Int) < ((Tx.mk l).size : Int) := by rw [hsz]; omega
 have h2 : (j : Int) < (l.length : Int) := by omega
 go_simp
 have h3 : (Tx.mk l)[j]'(by rw [hsz]; exact hj) = b := by
  show l.toArray[j]'(by simpa using hj) = b
  simpa using e
 rw [h3]
def Rep.sp (b : UInt8) : Bool := b == 34 || b == 92
def Rep.esc (l : List UInt8) : List UInt8 := l.flatMap fun b => if Rep.sp b then [92, b] else [b]
def Rep.cnt (l : List UInt8) : Nat := l.countP Rep.sp
theorem Rep.esc_snoc (l : List UInt8) (b : UInt8) : Rep.esc (l ++ [b]) = Rep.esc l ++ (if Rep.sp b then [92, b] else [b]) := by simp [Rep.esc]
theorem Rep.cnt_snoc (l : List UInt8) (b : UInt8) : Rep.cnt (l ++ [b]) = Rep.cnt l + (if Rep.sp b then 1 else 0) := by
 unfold Rep.cnt; rw [List.countP_append]; by_cases h : Rep.sp b <;> simp [h]
theorem Rep.esc_len (l : List UInt8) : (Rep.esc l).length = l.length + Rep.cnt l := by
 induction l with
 | nil => rfl
 | cons b l ih =>
   have h1 : Rep.esc (b :: l) = (if Rep.sp b then [92, b] else [b]) ++ Rep.esc l := by simp [Rep.esc]
   have h2 : Rep.cnt (b :: l) = Rep.cnt l + (if Rep.sp b then 1 else 0) := by unfold Rep.cnt; rw [List.countP_cons]
   rw [h1, h2, List.length_append, ih, List.length_cons]
   by_cases h : Rep.sp b = true
   ·rw [if_pos h, if_pos h]; simp; omega
   ·rw [if_neg h, if_neg h]; simp; omega
theorem Rep.esc_same {l : List UInt8} (h : Rep.cnt l = 0) : Rep.esc l = l := by
 induction l with
 | nil => rfl
 | cons b l ih =>
   have h2 : Rep.cnt (b :: l) = Rep.cnt l + (if Rep.sp b then 1 else 0) := by unfold Rep.cnt; rw [List.countP_cons]
   have hb : ¬ Rep.sp b = true := fun e => by rw [h2, if_pos e] at h; omega
   rw [h2, if_neg hb] at h
   have h1 : Rep.esc (b :: l) = (if Rep.sp b then [92, b] else [b]) ++ Rep.esc l := by simp [Rep.esc]
   rw [h1, if_neg hb, ih h]; rfl
theorem Rep.Fin.hit {W : World} {bs h : Nat} (k : Rep.Fin W bs h) (x : UInt8) (hx : Rep.sp x = true) :
  ∃ p c, W.cell? ⟨bs, x.toNat, none⟩ = some (.slice (some ⟨p, 0, none⟩) 2 c) ∧ W.cell? ⟨p, 0, none⟩ = some (.int .u8 92) ∧ W.cell? ⟨p, 1, none⟩ = some (.int .u8 (x.toNat : Int)) ∧ p < W.heap.size := by
 obtain ⟨f, h1, h2, ⟨p3, c3, e3, _, g3, _, _, a3, b3⟩, ⟨p9, c9, e9, _, g9, _, _, a9, b9⟩, _⟩ := k
 unfold Rep.sp at hx
 rw [Bool.or_eq_true, beq_iff_eq, beq_iff_eq] at hx
 rcases hx with rfl | rfl
 ·exact ⟨p3, c3, (h1.cell 34 (by omega)).trans (by rw [e3]), a3, b3, g3⟩
 ·exact ⟨p9, c9, (h1.cell 92 (by omega)).trans (by rw [e9]), a9, b9, g9⟩
theorem Rep.Fin.miss {W : World} {bs h : Nat} (k : Rep.Fin W bs h) (x : UInt8) (hx : Rep.sp x = false) : W.cell? ⟨bs, x.toNat, none⟩ = some (.slice none 0 0) := by
 obtain ⟨f, h1, h2, _⟩ := k
 unfold Rep.sp at hx
 rw [Bool.or_eq_false_iff] at hx
 have e1 : x.toNat ≠ 34 := fun e => by
  have : x = 34 := UInt8.toNat_inj.1 e
  rw [this] at hx; simp at hx
 have e2 : x.toNat ≠ 92 := fun e => by
  have : x = 92 := UInt8.toNat_inj.1 e
  rw [this] at hx; simp at hx
 rw [h1.cell _ x.toNat_lt, h2 _ e1 e2]
theorem Rep.Fin.lt {W : World} {bs h : Nat} (k : Rep.Fin W bs h) : bs < W.heap.size := by
 obtain ⟨f, h1, _⟩ := k; exact h1.lt
theorem Rep.cnt_two (l : List UInt8) : Rep.cnt l = Lib.countByte l 92 + Lib.countByte l 34 := by
 unfold Rep.cnt Lib.countByte
 induction l with
 | nil => rfl
 | cons b l ih =>
   rw [List.countP_cons, List.count_cons, List.count_cons, ih]
   unfold Rep.sp
   by_cases h1 : b = 92
   ·subst h1; simp; omega
   ·by_cases h2 : b = 34
    ·subst h2; simp; omega
    ·simp [h1, h2]
theorem count_one (s : ByteArray) (c : UInt8) (w : World) : Calls Tryz.prog 80 #[.string s, .string ⟨#[c]⟩] w fun e w' => e = .returned (.int .i64 (Lib.countByte s.data.toList c)) ∧ w' = w :=
 show Calls Tryz.prog 80 #[.string s, .string ⟨#[c]⟩] w fun e w' => e = .returned (.int .i64 (Lib.countByte s.data.toList c)) ∧ w' = w from Any.strings_Count_one Lay.countS s c w
theorem Rep.count_le (l : List UInt8) (c : UInt8) : Lib.countByte l c ≤ l.length := List.count_le_length
theorem Rep.idx (s : ByteArray) (j : Nat) (b : UInt8) (hb : s.data.toList[j]? = some b) (V : World) : (Instr.index 9 (.string s) (.int .i64 (j : Int))).run Tryz.prog V = .ok (.int .u8 (b.toNat : Int)) V := by
 have h := strIdx s.data.toList j b hb V
 rwa [show Tx.mk s.data.toList = s by simp [Tx.mk]] at h
theorem Rep.nenil (w : World) : (binOp .neq 34 (.slice none 0 0) (.slice none 0 0)).run Tryz.prog w = .ok (.bool false) w := by kernel_rfl
theorem Rep.nesome (a : Addr) (n c : Nat) (w : World) : (binOp .neq 34 (.slice (some a) n c) (.slice none 0 0)).run Tryz.prog w = .ok (.bool true) w := by kernel_rfl
theorem Rep.cnt_take (l : List UInt8) (j : Nat) : Rep.cnt (l.take j) ≤ j := by
 have h1 : Rep.cnt (l.take j) ≤ (l.take j).length := List.countP_le_length
 rw [List.length_take] at h1; omega
def Rep.u8s (l : List UInt8) : List Value := l.map fun b => .int .u8 (b.toNat : Int)
theorem Rep.Fin.keep {W W' : World} {bs h : Nat} (k : Rep.Fin W bs h) (hb : Below W.heap.size W W') : Rep.Fin W' bs h := by
 have hs := hb.size
 obtain ⟨f, h1, h2, ⟨p3, c3, e3, q3, g3, u3, v3, a3, b3⟩, ⟨p9, c9, e9, q9, g9, u9, v9, a9, b9⟩, h5, h6, h7⟩ := k
 exact ⟨f, h1.of_block (hb.block _ h1.lt), h2, ⟨p3, c3, e3, q3, by omega, u3, v3, (hb.cell (p := ⟨p3, 0, none⟩) g3).trans a3, (hb.cell (p := ⟨p3, 1, none⟩) g3).trans b3⟩,
  ⟨p9, c9, e9, q9, by omega, u9, v9, (hb.cell (p := ⟨p9, 0, none⟩) g9).trans a9, (hb.cell (p := ⟨p9, 1, none⟩) g9).trans b9⟩, (hb.cell (p := ⟨h, 0, none⟩) h7).trans h5, (hb.cell (p := ⟨h, 1, none⟩) h7).trans h6, by omega⟩
theorem Rep.make (n : Nat) (hn : n ≤ 10000000000) (V : World) : (Instr.makeSlice 34 (.int .i64 (n : Int)) (.int .i64 (n : Int))).run Tryz.prog V = .ok (.slice (some ⟨V.heap.size, 0, none⟩) n n) (V.alloc (.cells (madeCells #[.int .u8 0] n) 5)) :=
 run_make_row' 34 5 (.int .u8 0) 1 Tryz.underlying34 (by kernel_rfl) rfl .i64 .i64 n (by omega) (by omega) V
theorem own_put {w : World} {B g n cap i : Nat} {e : TypeId} {A tl : List Value} {x : Value} (h : OwnC w B e 1 g n cap (A ++ x :: tl)) (hi : A.length = i) (v : Value) : OwnC (w.setCell ⟨g, i, none⟩ v) B e 1 g n cap (A ++ v :: tl) := by
 obtain ⟨cur, hB, hc, hn, hx, hs, ht, hl⟩ := h
 refine own_make hB (Joins.block_setCell hc v) hn hx (by simpa using hs) ?_
 rw [Array.toList_setIfInBounds, List.take_set, ht, ← hi, List.set_append_right _ _ (Nat.le_refl _), Nat.sub_self]
 rfl
theorem Rep.u8s_append (a b : List UInt8) : Rep.u8s (a ++ b) = Rep.u8s a ++ Rep.u8s b := by simp [Rep.u8s]
theorem Rep.u8s_len (a : List UInt8) : (Rep.u8s a).length = a.length := by simp [Rep.u8s]
theorem Rep.add0 (g k : Nat) : (⟨g, 0, none⟩ : Addr).add k = ⟨g, k, none⟩ := by unfold Addr.add; split <;> simp_all
def Rep.Sm (w wr : World) : Prop := wr.heap = w.heap ∧ Below w.heap.size w wr
theorem Rep.Sm.refl (w : World) : Rep.Sm w w := ⟨rfl, Below.refl _ _⟩
theorem Rep.Sm.drew {w wr : World} (h : Rep.Sm w wr) : Rep.Sm w wr.drew := ⟨h.1, h.2.drew⟩
theorem Rep.Sm.cell {w wr : World} (h : Rep.Sm w wr) (a : Addr) : wr.cell? a = w.cell? a := World.cell?_of_block (by rw [h.1])
theorem Rep.Sm.fin {w wr : World} {bs hh : Nat} (h : Rep.Sm w wr) (k : Rep.Fin w bs hh) : Rep.Fin wr bs hh := by
 obtain ⟨f, h1, h2, ⟨p3, c3, e3, q3, g3, u3, v3, a3, b3⟩, ⟨p9, c9, e9, q9, g9, u9, v9, a9, b9⟩, h5, h6, h7⟩ := k
 exact ⟨f, h1.of_block (by rw [h.1]), h2, ⟨p3, c3, e3, q3, by rw [h.1]; exact g3, u3, v3, by rw [h.cell]; exact a3, by rw [h.cell]; exact b3⟩, ⟨p9, c9, e9, q9, by rw [h.1]; exact g9, u9, v9, by rw [h.cell]; exact a9, by rw [h.cell]; exact b9⟩, by rw [h.cell]; exact h5, by rw [h.cell]; exact h6, by rw [h.1]; exact h7⟩
theorem replaceB_is (bs h : Nat) (s : ByteArray) (w : World) (hs : s.size ≤ 1000000000) (hF : Rep.Fin w bs h) :
  Calls Tryz.prog 205 #[.pointer (some ⟨bs, 0, none⟩), .string s] w fun e w' => e = .returned (.string ⟨(Rep.esc s.data.toList).toArray⟩) ∧ Below w.heap.size w w' := by
 have cl : w.cell? ⟨bs, 256, none⟩ = some (.slice (some ⟨h, 0, none⟩) 2 2) := by obtain ⟨f, h1, _⟩ := hF; exact h1.list
 obtain ⟨t0, t1⟩ : w.cell? ⟨h, 0, none⟩ = some (.string ⟨#[92]⟩) ∧ w.cell? ⟨h, 1, none⟩ = some (.string ⟨#[34]⟩) := by obtain ⟨f, _, _, _, _, h5, h6, _⟩ := hF; exact ⟨h5, h6⟩
 have HF := Lib.hid hF
 obtain ⟨c9, hc9⟩ : ∃ c, c = Lib.countByte s.data.toList 92 := ⟨_, rfl⟩
 obtain ⟨c3, hc3⟩ : ∃ c, c = Lib.countByte s.data.toList 34 := ⟨_, rfl⟩
 have HC9 : Hid (∀ V, Calls Tryz.prog 80 #[.string s, .string ⟨#[92]⟩] V fun e w' => e = .returned (.int .i64 c9) ∧ V = w') := Lib.hid fun V => (count_one s 92 V).mono fun e w' h => ⟨by rw [h.1, hc9], h.2.symm⟩
 have HC3 : Hid (∀ V, Calls Tryz.prog 80 #[.string s, .string ⟨#[34]⟩] V fun e w' => e = .returned (.int .i64 c3) ∧ V = w') := Lib.hid fun V => (count_one s 34 V).mono fun e w' h => ⟨by rw [h.1, hc3], h.2.symm⟩
 have k9 : c9 ≤ s.size := by rw [hc9]; exact Rep.count_le _ _
 have k3 : c3 ≤ s.size := by rw [hc3]; exact Rep.count_le _ _
 have HK := Lib.hid (show Rep.cnt s.data.toList = c9 + c3 by rw [hc9, hc3]; exact Rep.cnt_two _)
 obtain ⟨p9, g9, d9, _, _, _⟩ := hF.hit 92 (by decide)
 obtain ⟨p3, g3, d3, _, _, _⟩ := hF.hit 34 (by decide)
 simp only [show (92 : UInt8).toNat = 92 from rfl, show (34 : UInt8).toNat = 34 from rfl] at d9 d3
 have CL := Lib.hid (And.intro cl (And.intro t0 (And.intro t1 (And.intro d9 d3))))
 clear hF hc9 hc3 t0 t1 d9 d3
 have x9 : (((⟨#[92]⟩ : ByteArray)[0]'(by decide)).toNat : Int) = 92 := rfl
 have x3 : (((⟨#[34]⟩ : ByteArray)[0]'(by decide)).toNat : Int) = 34 := rfl
 have e1 : IntKind.i64.wrap ((s.size : Int) + (c9 : Int)) = (s.size : Int) + (c9 : Int) := by rw [IntKind.wrap_i64]; omega
 have e2 : IntKind.i64.wrap ((s.size : Int) + (c9 : Int) + (c3 : Int)) = (s.size : Int) + (c9 : Int) + (c3 : Int) := by rw [IntKind.wrap_i64]; omega
 have e3 : IntKind.i64.wrap (c9 : Int) = (c9 : Int) := by rw [IntKind.wrap_i64]; omega
 have e4 : IntKind.i64.wrap (c3 : Int) = (c3 : Int) := by rw [IntKind.wrap_i64]; omega
 go_enter Tryz.func205, Tryz.ntmps205
 go_upto_if 26 with fail
 generalize decide ((16 : Int) ≤ (s.size : Int)) = qq
 clear cl
 go_cut [5, 6, 26] from 27 (fun s5 s6 s26 wx => s5 = .int .i64 ((s.size : Int) + (c9 : Int) + (c3 : Int)) ∧ s6 = .bool (decide (0 < c9 + c3)) ∧ s26 = .bool qq ∧ Rep.Sm w wx)
 case first =>
  cases qq
  case true =>
   have cl := CL.out.1
   go_wp2_with fail
   go_loopg [5, 6, 32] 2 (fun gk s5 s6 i wr => ∃ j : Nat, gk = 2 - j ∧ (j = 0 ∧ i = .int .i64 0 ∧ s5 = .int .i64 s.size ∧ s6 = .bool false ∨ j = 1 ∧ i = .int .i64 1 ∧ s5 = .int .i64 ((s.size : Int) + (c9 : Int)) ∧ s6 = .bool (decide (0 < c9)) ∨ j = 2 ∧ i = .int .i64 2 ∧ s5 = .int .i64 ((s.size : Int) + (c9 : Int) + (c3 : Int)) ∧ s6 = .bool (decide (0 < c9 + c3))) ∧ Rep.Sm w wr)
   case atStart => exact ⟨0, rfl, .inl ⟨rfl, rfl, rfl, rfl⟩, Rep.Sm.refl w⟩
   case round =>
    clear cl
    obtain ⟨j, rfl, ⟨rfl, rfl, rfl, rfl⟩ | ⟨rfl, rfl, rfl, rfl⟩ | ⟨rfl, rfl, rfl, rfl⟩, hSM⟩ := hrel
    ·have HSM := Lib.hid hSM; clear hSM
     have cl := (HSM.out.cell _).trans CL.out.1
     have t0 := (HSM.out.cell _).trans CL.out.2.1
     have t1 := (HSM.out.cell _).trans CL.out.2.2.1
     have d9 := (HSM.out.cell _).trans CL.out.2.2.2.1
     have d3 := (HSM.out.cell _).trans CL.out.2.2.2.2
     by_cases hc : c9 = 0
     ·subst hc
      go_wp2_with (go_at_call 80; refine (HC9.out _).mono ?_; rintro e w5 ⟨rfl, rfl⟩)
      go_roundg (2 - (0 + 1))
      case rel => exact ⟨1, rfl, .inr (.inl ⟨rfl, rfl, by simp, by simp⟩), HSM.out⟩
      case measure => omega
     ·have hne : ((c9 : Int) != 0) = true := by simpa using hc
      go_upto_region 9 with (go_at_call 80; refine (HC9.out _).mono ?_; rintro e w5 ⟨rfl, rfl⟩)
      go_region
      go_wp2_with fail
      go_roundg (2 - (0 + 1))
      case rel => exact ⟨1, rfl, .inr (.inl ⟨rfl, rfl, rfl, by simp; omega⟩), HSM.out.drew⟩
      case measure => omega
    ·have HSM := Lib.hid hSM; clear hSM
     have cl := (HSM.out.cell _).trans CL.out.1
     have t0 := (HSM.out.cell _).trans CL.out.2.1
     have t1 := (HSM.out.cell _).trans CL.out.2.2.1
     have d9 := (HSM.out.cell _).trans CL.out.2.2.2.1
     have d3 := (HSM.out.cell _).trans CL.out.2.2.2.2
     by_cases hc : c3 = 0
     ·subst hc
      go_wp2_with (go_at_call 80; refine (HC3.out _).mono ?_; rintro e w5 ⟨rfl, rfl⟩)
      go_roundg (2 - (1 + 1))
      case rel => exact ⟨2, rfl, .inr (.inr ⟨rfl, rfl, by simp, by simp⟩), HSM.out⟩
      case measure => omega
     ·have hne : ((c3 : Int) != 0) = true := by simpa using hc
      go_upto_region 9 with (go_at_call 80; refine (HC3.out _).mono ?_; rintro e w5 ⟨rfl, rfl⟩)
      go_region
      go_wp2_with fail
      go_roundg (2 - (1 + 1))
      case rel => exact ⟨2, rfl, .inr (.inr ⟨rfl, rfl, rfl, by simp; omega⟩), HSM.out.drew⟩
      case measure => omega
    ·go_wp2_with fail
     go_meet
     case rel => exact ⟨rfl, rfl, rfl, hSM⟩
  case false =>
   go_wp2_with fail
   go_loopg [5, 6, 10] s.size (fun gk s5 s6 i wr => ∃ j : Nat, j ≤ s.size ∧ gk = s.size - j ∧ i = .int .i64 j ∧ s5 = .int .i64 ((s.size : Int) + (Rep.cnt (s.data.toList.take j) : Int)) ∧ s6 = .bool (decide (0 < Rep.cnt (s.data.toList.take j))) ∧ Rep.Sm w wr)
   case atStart => exact ⟨0, by omega, rfl, rfl, by simp [Rep.cnt], by simp [Rep.cnt], Rep.Sm.refl w⟩
   case round =>
    obtain ⟨j, hj, rfl, rfl, rfl, rfl, hSM⟩ := hrel
    by_cases hlt : j < s.size
    ·obtain ⟨b, hb⟩ : ∃ b, s.data.toList[j]? = some b := ⟨_, List.getElem?_eq_getElem (by simpa using hlt)⟩
     have hix := Rep.idx s j b hb
     have hbd := Rep.cnt_take s.data.toList j
     have hsn : Rep.cnt (s.data.toList.take (j + 1)) = Rep.cnt (s.data.toList.take j) + (if Rep.sp b then 1 else 0) := by rw [List.take_add_one, hb]; exact Rep.cnt_snoc _ _
     have HSN := Lib.hid hsn; clear hsn
     have HSM := Lib.hid hSM
     have hFj := hSM.fin HF.out
     clear hSM
     have hl1 : (j : Int) < (s.size : Int) := by omega
     have hw1 : IntKind.i64.wrap ((j : Int) + 1) = (j : Int) + 1 := by rw [IntKind.wrap_i64]; omega
     have HB := Lib.hid hb; clear hb
     generalize Rep.cnt (s.data.toList.take j) = cn at hbd HSN ⊢
     have hb6 : (b.toNat : Int) < 256 := by have := b.toNat_lt; omega
     by_cases hsp : Rep.sp b = true
     ·obtain ⟨p, c, dp, _, _, _⟩ := hFj.hit b hsp
      rw [if_pos hsp] at HSN
      have hne := Rep.nesome ⟨p, 0, none⟩ 2 c
      have hw2 : IntKind.i64.wrap ((s.size : Int) + (cn : Int) + 1) = (s.size : Int) + (cn : Int) + 1 := by rw [IntKind.wrap_i64]; omega
      clear hsp hFj
      go_wp2_with fail
      go_roundg (s.size - (j + 1))
      case rel => exact ⟨j + 1, by omega, rfl, by go_num, by rw [HSN.out]; first | rfl | (congr 1; first | omega | (rw [hw2]; omega)), by rw [HSN.out]; simp, HSM.out⟩
      case measure => omega
     ·have hsp' : Rep.sp b = false := by simpa using hsp
      have dp := hFj.miss b hsp'
      rw [if_neg hsp] at HSN
      have hne := Rep.nenil
      clear hsp hsp' hFj
      go_wp2_with fail
      go_roundg (s.size - (j + 1))
      case rel => exact ⟨j + 1, by omega, rfl, by go_num, by rw [HSN.out]; rfl, by rw [HSN.out]; rfl, HSM.out⟩
      case measure => omega
    ·have e : j = s.size := by omega
     subst e
     have hl : s.data.toList.take s.size = s.data.toList := List.take_of_length_le (by simp)
     rw [hl, HK.out]
     go_wp2_with fail
     go_meet
     case rel => exact ⟨by congr 1; omega, rfl, rfl, hSM⟩
 case rest =>
  obtain ⟨rfl, rfl, rfl, hSM⟩ := hcut
  have hF := hSM.fin HF.out
  by_cases hz : c9 + c3 = 0
  ·have e9 : c9 = 0 := by omega
   have e3' : c3 = 0 := by omega
   subst e9; subst e3'
   have HE := Lib.hid (Rep.esc_same (l := s.data.toList) (by rw [HK.out]))
   clear hz hF
   go_wp2_with fail
   go_ret
   refine ⟨?_, hSM.2⟩
   rw [HE.out]
   show Ending.returned (.string s) = _
   simp
  ·have hpos : decide (0 < c9 + c3) = true := by simp; omega
   rw [hpos]
   clear hpos hz
   have hmk := Rep.make (s.size + c9 + c3) (by omega) wc
   simp only [Int.natCast_add] at hmk
   go_upto_region 24 with fail
   all_goals
    have hlen : (Rep.esc s.data.toList).length = s.size + c9 + c3 := by rw [Rep.esc_len, HK.out]; simp; omega
    have hB0 : Below w.heap.size w (wc.alloc (.cells (madeCells #[.int .u8 0] (s.size + c9 + c3)) 5)) := hSM.2.alloc (by rw [hSM.1]; exact Nat.le_refl _) _
    have hgw : w.heap.size ≤ wc.heap.size := hSM.2.size
    have hO0 : OwnC (wc.alloc (.cells (madeCells #[.int .u8 0] (s.size + c9 + c3)) 5)) wc.heap.size 5 1 wc.heap.size (s.size + c9 + c3) (s.size + c9 + c3) (madeCells #[.int .u8 0] (s.size + c9 + c3)).toList := by
     have hsz : (madeCells #[.int .u8 0] (s.size + c9 + c3)).size = s.size + c9 + c3 := by simp [madeCells]
     exact own_make (Nat.le_refl _) (heap_alloc_last wc _) (Nat.le_refl _) (by simp [maxLen]; omega) (by rw [hsz]; omega) (List.take_of_length_le (by simp only [Array.length_toList, hsz]; omega))
    generalize wc.alloc (.cells (madeCells #[.int .u8 0] (s.size + c9 + c3)) 5) = Wb at hB0 hO0 ⊢
    clear hmk hF
    generalize wc.heap.size = g at hgw hO0 ⊢
    clear hSM
    have HLEN := Lib.hid hlen; clear hlen
    have hNb : s.size + c9 + c3 ≤ 10000000000 := by omega
    generalize s.size + c9 + c3 = N at hO0 HLEN hNb ⊢
    clear e1 e2 e3 e4 k9 k3 HC9 HC3 x9 x3
    go_loopg [13, 14] s.size (fun gk s13 s14 wr => ∃ (j : Nat) (tl : List Value), j ≤ s.size ∧ gk = s.size - j ∧ s14 = .int .i64 j ∧ s13 = .int .i64 ((Rep.esc (s.data.toList.take j)).length : Int) ∧ OwnC wr g 5 1 g N N (Rep.u8s (Rep.esc (s.data.toList.take j)) ++ tl) ∧ Below w.heap.size w wr)
    case atStart => exact ⟨0, _, by omega, rfl, rfl, rfl, hO0, hB0⟩
    case round =>
     obtain ⟨j, tl, hj, rfl, rfl, rfl, hO, hB⟩ := hrel
     have HO := Lib.hid hO; have HB := Lib.hid hB
     by_cases hlt : j < s.size
     ·obtain ⟨b, hb⟩ : ∃ b, s.data.toList[j]? = some b := ⟨_, List.getElem?_eq_getElem (by simpa using hlt)⟩
      have hix := Rep.idx s j b hb
      have hsn : Rep.esc (s.data.toList.take (j + 1)) = Rep.esc (s.data.toList.take j) ++ (if Rep.sp b then [92, b] else [b]) := by rw [List.take_add_one, hb]; exact Rep.esc_snoc _ _
      have hpre : (Rep.esc (s.data.toList.take (j + 1))).length ≤ N := by
       have h1 : Rep.esc (s.data.toList.take (j + 1)) ++ Rep.esc (s.data.toList.drop (j + 1)) = Rep.esc s.data.toList := by unfold Rep.esc; rw [← List.flatMap_append, List.take_append_drop]
       have h2 := congrArg List.length h1
       rw [List.length_append, HLEN.out] at h2; omega
      have hF := HF.out.keep hB
      have hlo : (Rep.u8s (Rep.esc (s.data.toList.take j)) ++ tl).length = N := by obtain ⟨_, _, _, _, _, _, _, hl⟩ := hO; rw [hl]; omega
      have hl1 : (j : Int) < (s.size : Int) := by omega
      have hw1 : IntKind.i64.wrap ((j : Int) + 1) = (j : Int) + 1 := by rw [IntKind.wrap_i64]; omega
      have hb6 : (b.toNat : Int) < 256 := by have := b.toNat_lt; omega
      rw [List.length_append, Rep.u8s_len] at hlo
      have HSN := Lib.hid hsn
      generalize hE : Rep.esc (s.data.toList.take j) = E at hO hlo hsn HO HSN ⊢
      clear hB
      by_cases hsp : Rep.sp b = true
      ·obtain ⟨p, c, dp, d0, d1, hpl⟩ := hF.hit b hsp
       rw [if_pos hsp] at HSN hsn
       rw [hsn, List.length_append] at hpre
       simp only [List.length_cons, List.length_nil] at hpre
       have hne := Rep.nesome ⟨p, 0, none⟩ 2 c
       have hOd : OwnC wr.drew g 5 1 g N N (Rep.u8s E ++ tl) := hO.of_block rfl
       obtain ⟨w5, hcp, hO5, hG5⟩ := own_copy (P := Tryz.prog) hOd 34 34 Tryz.underlying34 (by kernel_rfl) E.length (N - E.length) (N - E.length) ⟨p, 0, none⟩ 2 c [.int .u8 92, .int .u8 (b.toNat : Int)] (by
         have : Nat.min 2 (N - E.length) = 2 := Nat.min_eq_left (by omega)
         rw [this]; rfl) (fun k v hv => by
         match k, hv with
         | 0, hv => simp only [List.getElem?_cons_zero, Option.some.injEq] at hv; subst hv; exact d0
         | 1, hv => simp only [List.getElem?_cons_succ, List.getElem?_cons_zero, Option.some.injEq] at hv; subst hv; exact d1
         | k + 2, hv => simp at hv) (by simp; omega) (by simp [Value.oneCell'])
       have hm2 : Nat.min 2 (N - E.length) = 2 := Nat.min_eq_left (by omega)
       rw [hm2] at hcp
       have hk1 : (E.length : Int) ≤ (N : Int) := by omega
       have hk2 : ((N : Int) - (E.length : Int)).toNat = N - E.length := by omega
       have hw2 : IntKind.i64.wrap ((E.length : Int) + 2) = (E.length : Int) + 2 := by rw [IntKind.wrap_i64]; omega
       have hnE : (N = E.length) = False := eq_false (by omega)
       have HO5 := Lib.hid hO5
       clear hsp hF hsn hE hO hO5 hOd
       go_wp2_with fail
       go_region_law (first | (refine step_copy_run rfl _ _ _ _ rfl _ _ rfl rfl (hcp _) ?_))
       all_goals
        go_wp2_with fail
        go_roundg (s.size - (j + 1))
        case rel => exact ⟨j + 1, tl.drop 2, by omega, rfl, by go_num, by rw [HSN.out, List.length_append]; rfl, by
         rw [HSN.out, Rep.u8s_append, List.append_assoc]
         have h5 := HO5.out
         rw [List.take_append_of_le_length (by rw [Rep.u8s_len]; exact Nat.le_refl _), List.take_of_length_le (by rw [Rep.u8s_len]; exact Nat.le_refl _), List.append_assoc, List.drop_append, List.drop_eq_nil_of_le (by rw [Rep.u8s_len]; simp), List.nil_append, Rep.u8s_len] at h5
         rw [show E.length + [Value.int .u8 92, Value.int .u8 (b.toNat : Int)].length - E.length = 2 by simp] at h5
         exact h5, HB.out.drew.grown hG5 (HB.out.size) (fun k e => by cases e; exact hgw)⟩
        case measure => omega
      ·have hsp' : Rep.sp b = false := by simpa using hsp
       have dp := hF.miss b hsp'
       rw [if_neg hsp] at HSN hsn
       rw [hsn, List.length_append] at hpre
       simp only [List.length_singleton] at hpre
       have hne := Rep.nenil
       obtain ⟨x, tl', rfl⟩ : ∃ x tl', tl = x :: tl' := by
        cases tl with
        | nil => simp at hlo; omega
        | cons x tl' => exact ⟨x, tl', rfl⟩
       have hcx := hO.cellAt E.length (by omega)
       rw [List.getElem?_append_right (by rw [Rep.u8s_len]; exact Nat.le_refl _), Rep.u8s_len, Nat.sub_self] at hcx
       simp only [List.getElem?_cons_zero] at hcx
       have hzx : wr.frozen? ⟨g, E.length, none⟩ = false := by obtain ⟨cur, _, hc, _⟩ := hO; exact frozen_of hc _
       have hi0 : (E.length : Int) < (N : Int) := by omega
       have hw2 : IntKind.i64.wrap ((E.length : Int) + 1) = (E.length : Int) + 1 := by rw [IntKind.wrap_i64]; omega
       clear hsp hsp' hF hsn hE
       clear hO
       go_wp2_with fail
       go_roundg (s.size - (j + 1))
       case rel => exact ⟨j + 1, tl', by omega, rfl, by go_num, by rw [HSN.out, List.length_append]; rfl, by rw [HSN.out, Rep.u8s_append, List.append_assoc]; exact own_put HO.out (Rep.u8s_len _) _, HB.out.setCell (p := ⟨g, E.length, none⟩) hgw _⟩
       case measure => omega
     ·have e : j = s.size := by omega
      subst e
      have hl : s.data.toList.take s.size = s.data.toList := List.take_of_length_le (by simp)
      rw [hl] at hO ⊢
      have hlo : (Rep.u8s (Rep.esc s.data.toList) ++ tl).length = N := by obtain ⟨_, _, _, _, _, _, _, h⟩ := hO; rw [h]; omega
      rw [List.length_append, Rep.u8s_len, HLEN.out] at hlo
      have htl : tl = [] := List.eq_nil_of_length_eq_zero (by omega)
      subst htl
      rw [List.append_nil] at hO
      have hcv : (convert 34 9 (.slice (some ⟨g, 0, none⟩) N N)).run Tryz.prog wr = .ok (.string ⟨(Rep.esc s.data.toList).toArray⟩) wr := by
       have := run_convert_bytes_back (P := Tryz.prog) wr 34 9 5 ⟨g, 0, none⟩ N (Rep.esc s.data.toList) Tryz.underlying34 Tryz.underlying5 Tryz.underlying9 (fun k hk => by
        have h1 := hO.cellAt k (by rw [HLEN.out] at hk; omega)
        rw [show (⟨g, 0, none⟩ : Addr).add k = ⟨g, k, none⟩ from Rep.add0 g k]
        rw [h1]; simp [Rep.u8s, List.getElem?_eq_getElem hk])
       rwa [HLEN.out] at this
      clear hO
      go_wp2_with fail
      go_ret
      exact ⟨rfl, HB.out⟩
theorem Rep.meth (a : Addr) (n : Nat) (W : World) : (method (n + 1) 183 (.pointer (some a)) "Replace").run Tryz.prog W = .ok (205, .pointer (some a)) W := by kernel_rfl
theorem replace_is {cp : Nat} (b o : Nat) (s : ByteArray) (w : World) (hs : s.size ≤ 1000000000) (hB : Blk w b #[.int .u32 0, .int .i32 0, .int .u32 0, .nilIface, .slice (some ⟨o, 0, none⟩) 4 cp] 126)
  (s0 : w.cell? ⟨o, 0, none⟩ = some (.string ⟨#[34]⟩)) (s1 : w.cell? ⟨o, 1, none⟩ = some (.string ⟨#[92, 34]⟩)) (s2 : w.cell? ⟨o, 2, none⟩ = some (.string ⟨#[92]⟩)) (s3 : w.cell? ⟨o, 3, none⟩ = some (.string ⟨#[92, 92]⟩)) (ho : o < w.heap.size) (hob : o ≠ b) :
  Calls Tryz.prog 66 #[.pointer (some ⟨b, 0, none⟩), .string s] w fun e w' => e = .returned (.string ⟨(Rep.esc s.data.toList).toArray⟩) ∧ Below b w w' := by
 have hb := hB.lt
 obtain ⟨c0, c1, c2, c3, c4⟩ : w.cell? ⟨b, 0, none⟩ = some (.int .u32 0) ∧ w.cell? ⟨b, 1, none⟩ = some (.int .i32 0) ∧ w.cell? ⟨b, 2, none⟩ = some (.int .u32 0) ∧ w.cell? ⟨b, 3, none⟩ = some .nilIface ∧ w.cell? ⟨b, 4, none⟩ = some (.slice (some ⟨o, 0, none⟩) 4 cp) :=
  ⟨(hB.cell 0).trans rfl, (hB.cell 1).trans rfl, (hB.cell 2).trans rfl, (hB.cell 3).trans rfl, (hB.cell 4).trans rfl⟩
 have HD := Lib.hid (do_is b o w .nilIface c0 c1 c3 c4 s0 s1 s2 s3 ho hb (fun k => hB.frozen k) hob)
 have hmf : ∀ (fn : Fn) (first cap : Array Value) (w : World), (Instr.makeFunc fn first cap).run Tryz.prog w = .ok (.func fn first cap) w := fun _ _ _ _ => rfl
 have hme := Rep.meth
 go_enter Tryz.func66, Tryz.ntmps66
 go_wp2_with (first | (go_at_call 88; refine HD.out.mono ?_; rintro e w2 ⟨rfl, q3, hF, hBl⟩) | (go_at_call 205; refine (replaceB_is _ _ s _ hs hF).mono ?_; rintro e w3 ⟨rfl, hB3⟩))
 all_goals
  go_ret
  exact ⟨rfl, hBl.trans (hB3.mono (by have := hBl.size; omega))⟩
end Go.Proofs.YtmpjnbhdlfneaaaGreatDoor
namespace Go.Proofs.YtmpjnbhdlfneaaaGreatDoor
open Go.RowKit Go.Sort Go.Shelf
namespace Cx
def word (op : Int) : List UInt8 :=
 if op = 1 then [97, 108, 108, 40] else
 if op = 2 then [97, 110, 121, 40] else
 if op = 3 then [110, 111, 116, 40] else
 if op = 4 then [116, 97, 103, 32] else
 if op = 5 then [115, 97, 121, 115, 32] else
 if op = 6 then [112, 101, 114, 115, 111, 110, 32] else
 if op = 7 then [115, 116, 97, 114, 115, 32] else
 if op = 8 then [116, 97, 107, 101, 110, 32] else
 if op = 9 then [116, 97, 108, 108] else
 if op = 10 then [119, 105, 100, 101] else
 if op = 11 then [115, 113, 117, 97, 114, 101] else
 if op = 12 then [116, 117, 114, 110, 101, 100] else
 if op = 13 then [112, 108, 97, 99, 101, 100] else
 if op = 14 then [119, 105, 116, 104, 105, 110, 32] else
 if op = 15 then [98, 111, 120, 32] else
 if op = 16 then [104, 105, 100, 100, 101, 110] else []
def qt (l : List UInt8) : List UInt8 := [34] ++ Rep.esc l ++ [34]
theorem esc_le (l : List UInt8) : (Rep.esc l).length ≤ 2 * l.length := by
 have h1 := Rep.esc_len l
 have h2 : Rep.cnt l ≤ l.length := List.countP_le_length
 omega
theorem itoa_len {n : Int} (h : -180000000 ≤ n ∧ n ≤ 6311433599) : (Lib.itoa n).length ≤ 21 := Lib.itoa_length_le n (by omega) (by omega)
end Cx
end Go.Proofs.YtmpjnbhdlfneaaaGreatDoor
namespace Go.Proofs.YtmpjnbhdlfneaaaGreatDoor
open Go.RowKit Go.Sort
theorem newReplacer_is (o : Nat) (w : World) (s0 : w.cell? ⟨o, 0, none⟩ = some (.string ⟨#[34]⟩)) (s1 : w.cell? ⟨o, 1, none⟩ = some (.string ⟨#[92, 34]⟩)) (s2 : w.cell? ⟨o, 2, none⟩ = some (.string ⟨#[92]⟩)) (s3 : w.cell? ⟨o, 3, none⟩ = some (.string ⟨#[92, 92]⟩)) (ho : o < w.heap.size) :
  Calls Tryz.prog 65 #[.slice (some ⟨o, 0, none⟩) 4 4] w fun e w' => e = .returned (.pointer (some ⟨w.heap.size + 1, 0, none⟩)) ∧ Below w.heap.size w w' ∧ w.heap.size < w'.heap.size ∧ ∃ cp, Blk w' (w.heap.size + 1) #[.int .u32 0, .int .i32 0, .int .u32 0, .nilIface, .slice (some ⟨w.heap.size, 0, none⟩) 4 cp] 126 ∧
   w'.cell? ⟨w.heap.size, 0, none⟩ = some (.string ⟨#[34]⟩) ∧ w'.cell? ⟨w.heap.size, 1, none⟩ = some (.string ⟨#[92, 34]⟩) ∧ w'.cell? ⟨w.heap.size, 2, none⟩ = some (.string ⟨#[92]⟩) ∧ w'.cell? ⟨w.heap.size, 3, none⟩ = some (.string ⟨#[92, 92]⟩) := by
 go_enter Tryz.func65, Tryz.ntmps65
 go_wp2_with fail
 all_goals
  go_ret
  have hc : ∀ (w0 : World) (xs : Array Value) (ys : Array Value) (o2 : Obj) (k : Nat) (v : Value), xs[k]? = some v → ((w0.alloc (.cells (xs ++ ys) 9)).alloc o2).cell? ⟨w0.heap.size, k, none⟩ = some v := by
   intro w0 xs ys o2 k v hk
   rw [World.cell?_of_block (Below.heap_alloc _ _ _ (by simp)), World.cell?_alloc_mark, Array.getElem?_append_left (Array.getElem?_eq_some_iff.1 hk).1]
   exact hk
  have hb := Blk.new (w.alloc (.cells (#[Value.string ⟨#[34]⟩, .string ⟨#[92, 34]⟩, .string ⟨#[92]⟩, .string ⟨#[92, 92]⟩] ++ Builtin.zeroCells #[Value.string ⟨#[]⟩] ((Question.appendCap 4 0 9).cut (w.tape w.drawn (Question.appendCap 4 0 9)) - 4)) 9))
    #[.int .u32 0, .int .i32 0, .int .u32 0, .nilIface, .slice (some ⟨w.heap.size, 0, none⟩) 4 ((Question.appendCap 4 0 9).cut (w.tape w.drawn (Question.appendCap 4 0 9)))] 126
  simp only [World.size_alloc] at hb
  refine ⟨rfl, (((Below.refl _ _).alloc (Nat.le_refl _) _).alloc (by simp) _).drew, by simp; omega, ?_⟩
  exact ⟨_, hb, hc w _ _ _ 0 _ rfl, hc w _ _ _ 1 _ rfl, hc w _ _ _ 2 _ rfl, hc w _ _ _ 3 _ rfl⟩
namespace Tx
open Go.Lib
theorem dig1 {n : Nat} (h : n < 10) : decDigits n = [UInt8.ofNat (48 + n)] := by rw [decDigits, dif_pos h]
theorem digs {n : Nat} (h : 10 ≤ n) : decDigits n = decDigits (n / 10) ++ [UInt8.ofNat (48 + n % 10)] := by rw [decDigits, dif_neg (by omega)]
end Tx
theorem told_is (i : Nat) (h1 : i ≤ 9223372036854775807) (w : World) :
  Calls Tryz.prog 39 #[.int .i64 i] w fun e w' => e = .returned (.string (Tx.mk (Lib.decDigits i))) ∧ Below w.heap.size w w' := by
 have hdl := Tx.dl_le i h1
 go_enter Tryz.func39, Tryz.ntmps39
 go_wp2_with fail
 go_loopg [0, 3] i (fun gk a s wr => ∃ (k : Nat) (l : List UInt8), gk = k ∧ a = .int .i64 k ∧ s = .string (Tx.mk l) ∧ k ≤ i ∧ Lib.decDigits i = Lib.decDigits k ++ l ∧ Below w.heap.size w wr)
 case atStart => exact ⟨i, [], rfl, rfl, rfl, by omega, by simp, Below.refl _ _⟩
 case round =>
  obtain ⟨_, l, rfl, rfl, rfl, hki, hl, hB⟩ := hrel
  have hll : l.length ≤ 19 := by have := congrArg List.length hl; rw [List.length_append] at this; unfold Tx.dl at hdl; omega
  have hd : (UInt8.ofNat (48 + gk % 10)).toNat = 48 + gk % 10 := by simp only [UInt8.toNat_ofNat']; omega
  have hconv : (convert 34 9 (.slice (some ⟨wr.heap.size, 0, none⟩) 1 1)).run Tryz.prog (wr.alloc (.cells #[.int .u8 (48 + (gk : Int) % 10)] 5)) = .ok (.string (Tx.mk [UInt8.ofNat (48 + gk % 10)])) (wr.alloc (.cells #[.int .u8 (48 + (gk : Int) % 10)] 5)) :=
   run_convert_bytes_back _ 34 9 5 ⟨wr.heap.size, 0, none⟩ 1 [UInt8.ofNat (48 + gk % 10)] Tryz.underlying34 Tryz.underlying5 Tryz.underlying9 (fun j hj => by
    obtain rfl : j = 0 := by simpa using hj
    refine ((Blk.new wr #[.int .u8 (48 + (gk : Int) % 10)] 5).one).trans ?_
    simp only [List.getElem_cons_zero, hd]; rfl)
  have hcat : ∀ W, (Op.stringOp .add (Tx.mk [UInt8.ofNat (48 + gk % 10)]) (Tx.mk l)).run Tryz.prog W = .ok (.string (Tx.mk (UInt8.ofNat (48 + gk % 10) :: l))) W := fun W => by
   rw [run_string_add_sum W _ _ (by rw [Tx.mk_size, Tx.mk_size]; simp; omega), Tx.mk_append]; rfl
  have HL := Lib.hid hl
  have hB2 := hB.alloc hB.size (.cells #[.int .u8 (48 + (gk : Int) % 10)] 5)
  generalize Tx.mk [UInt8.ofNat (48 + gk % 10)] = D at *
  generalize hm : Tx.mk l = M at *
  generalize hm2 : Tx.mk (UInt8.ofNat (48 + gk % 10) :: l) = M2 at *
  have HM2 := Lib.hid hm2
  clear hm2 hl hd
  by_cases hk : gk < 10
  ·have hk0 : (gk : Int) / 10 = 0 := by omega
   have HE : Hid (Lib.decDigits i = UInt8.ofNat (48 + gk % 10) :: l) := by
    show _ = _
    rw [HL.out, Tx.dig1 hk, Nat.mod_eq_of_lt hk]; rfl
   go_wp2_with fail
   go_ret
   exact ⟨by rw [HE.out, HM2.out]; rfl, hB2⟩
  ·have HE : Hid (Lib.decDigits i = Lib.decDigits (gk / 10) ++ UInt8.ofNat (48 + gk % 10) :: l) := by
    show _ = _
    rw [HL.out, Tx.digs (by omega), List.append_assoc]; rfl
   go_wp2_with fail
   go_roundg (gk / 10)
   case rel => exact ⟨gk / 10, _, rfl, by go_num, by rw [← HM2.out], by omega, HE.out, hB2⟩
   case measure => omega
theorem told_neg (i : Nat) (h0 : 1 ≤ i) (h1 : i ≤ 1000000000000) (w : World) :
  Calls Tryz.prog 39 #[.int .i64 (-(i : Int))] w fun e w' => e = .returned (.string (Tx.mk (45 :: Lib.decDigits i))) ∧ Below w.heap.size w w' := by
 have hdl := Tx.dl_le i (by omega)
 have hi0 : -(i : Int) < 0 := by omega
 have hi1 : (0 : Int) < (i : Int) := by omega
 have hi2 : 0 < i := h0
 go_enter Tryz.func39, Tryz.ntmps39
 go_wp2_with fail
 go_loopg [0, 3] i (fun gk a s wr => ∃ (k : Nat) (l : List UInt8), gk = k ∧ a = .int .i64 (-(k : Int)) ∧ s = .string (Tx.mk l) ∧ k ≤ i ∧ Lib.decDigits i = Lib.decDigits k ++ l ∧ Below w.heap.size w wr)
 case atStart => exact ⟨i, [], rfl, rfl, rfl, by omega, by simp, Below.refl _ _⟩
 case round =>
  obtain ⟨_, l, rfl, rfl, rfl, hki, hl, hB⟩ := hrel
  have hll : l.length ≤ 19 := by have := congrArg List.length hl; rw [List.length_append] at this; unfold Tx.dl at hdl; omega
  have hd : (UInt8.ofNat (48 + gk % 10)).toNat = 48 + gk % 10 := by simp only [UInt8.toNat_ofNat']; omega
  have hconv : (convert 34 9 (.slice (some ⟨wr.heap.size, 0, none⟩) 1 1)).run Tryz.prog (wr.alloc (.cells #[.int .u8 (48 + (gk : Int) % 10)] 5)) = .ok (.string (Tx.mk [UInt8.ofNat (48 + gk % 10)])) (wr.alloc (.cells #[.int .u8 (48 + (gk : Int) % 10)] 5)) :=
   run_convert_bytes_back _ 34 9 5 ⟨wr.heap.size, 0, none⟩ 1 [UInt8.ofNat (48 + gk % 10)] Tryz.underlying34 Tryz.underlying5 Tryz.underlying9 (fun j hj => by
    obtain rfl : j = 0 := by simpa using hj
    refine ((Blk.new wr #[.int .u8 (48 + (gk : Int) % 10)] 5).one).trans ?_
    simp only [List.getElem_cons_zero, hd]; rfl)
  have hcat : ∀ W, (Op.stringOp .add (Tx.mk [UInt8.ofNat (48 + gk % 10)]) (Tx.mk l)).run Tryz.prog W = .ok (.string (Tx.mk (UInt8.ofNat (48 + gk % 10) :: l))) W := fun W => by
   rw [run_string_add_sum W _ _ (by rw [Tx.mk_size, Tx.mk_size]; simp; omega), Tx.mk_append]; rfl
  have hmin : ∀ W, (Op.stringOp .add (Tx.mk [45]) (Tx.mk (UInt8.ofNat (48 + gk % 10) :: l))).run Tryz.prog W = .ok (.string (Tx.mk (45 :: UInt8.ofNat (48 + gk % 10) :: l))) W := fun W => by
   rw [run_string_add_sum W _ _ (by rw [Tx.mk_size, Tx.mk_size]; simp; omega), Tx.mk_append]; rfl
  have HL := Lib.hid hl
  have hB2 := hB.alloc hB.size (.cells #[.int .u8 (48 + (gk : Int) % 10)] 5)
  generalize Tx.mk [UInt8.ofNat (48 + gk % 10)] = D at *
  generalize hm : Tx.mk l = M at *
  generalize hm2 : Tx.mk (UInt8.ofNat (48 + gk % 10) :: l) = M2 at *
  generalize hm3 : Tx.mk (45 :: UInt8.ofNat (48 + gk % 10) :: l) = M3 at *
  have HM2 := Lib.hid hm2
  have HM3 := Lib.hid hm3
  clear hm2 hm3 hl hd
  have q1 : Int.tmod (-(gk : Int)) 10 = -((gk : Int) % 10) := by rw [Int.neg_tmod, Int.tmod_eq_emod_of_nonneg (by omega)]
  have q2 : Int.tdiv (-(gk : Int)) 10 = -((gk : Int) / 10) := by rw [Int.neg_tdiv, Int.tdiv_eq_ediv_of_nonneg (by omega)]
  have q4 : -(-((gk : Int) % 10)) = (gk : Int) % 10 := Int.neg_neg _
  by_cases hz : gk % 10 = 0
  ·have q3 : (gk : Int) % 10 = 0 := by omega
   simp only [q3, Int.add_zero] at hconv hB2
   by_cases hk : gk < 10
   ·have hk0 : (gk : Int) / 10 = 0 := by omega
    have HE : Hid (Lib.decDigits i = UInt8.ofNat (48 + gk % 10) :: l) := by
     show _ = _
     rw [HL.out, Tx.dig1 hk, Nat.mod_eq_of_lt hk]; rfl
    go_wp2_with fail
    go_ret
    exact ⟨by rw [HE.out, HM3.out]; rfl, hB2⟩
   ·have HE : Hid (Lib.decDigits i = Lib.decDigits (gk / 10) ++ UInt8.ofNat (48 + gk % 10) :: l) := by
     show _ = _
     rw [HL.out, Tx.digs (by omega), List.append_assoc]; rfl
    go_wp2_with fail
    go_roundg (gk / 10)
    case rel => exact ⟨gk / 10, _, rfl, by go_num, by rw [← HM2.out], by omega, HE.out, hB2⟩
    case measure => omega
  ·have q3 : (0 : Int) < (gk : Int) % 10 := by omega
   by_cases hk : gk < 10
   ·have hk0 : (gk : Int) / 10 = 0 := by omega
    have HE : Hid (Lib.decDigits i = UInt8.ofNat (48 + gk % 10) :: l) := by
     show _ = _
     rw [HL.out, Tx.dig1 hk, Nat.mod_eq_of_lt hk]; rfl
    go_wp2_with fail
    go_ret
    exact ⟨by rw [HE.out, HM3.out]; rfl, hB2⟩
   ·have HE : Hid (Lib.decDigits i = Lib.decDigits (gk / 10) ++ UInt8.ofNat (48 + gk % 10) :: l) := by
     show _ = _
     rw [HL.out, Tx.digs (by omega), List.append_assoc]; rfl
    go_wp2_with fail
    go_roundg (gk / 10)
    case rel => exact ⟨gk / 10, _, rfl, by go_num, by rw [← HM2.out], by omega, HE.out, hB2⟩
    case measure => omega
theorem told_any (n : Int) (h : -1000000000000 ≤ n ∧ n ≤ 1000000000000) (w : World) :
  Calls Tryz.prog 39 #[.int .i64 n] w fun e w' => e = .returned (.string (Tx.mk (Lib.itoa n))) ∧ Below w.heap.size w w' := by
 unfold Lib.itoa
 by_cases hn : n < 0
 ·obtain ⟨i, rfl⟩ : ∃ i : Nat, n = -(i : Int) := ⟨n.natAbs, by omega⟩
  rw [if_pos hn, Int.natAbs_neg]
  exact told_neg i (by omega) (by omega) w
 ·obtain ⟨i, rfl⟩ : ∃ i : Nat, n = (i : Int) := ⟨n.toNat, by omega⟩
  rw [if_neg hn]
  exact told_is i (by omega) w
end Go.Proofs.YtmpjnbhdlfneaaaGreatDoor
