/- Parts of the proof, no condition: Bld, TxLays, TxTab, TxTld, ToldN, StLine, DigMath, DigLays, StDig, StIdx, Events0, FdStr, FdStr2, FdStr3, StSmall, StGood. -/
import Derived.Test.YthdiccdnggloiaaDoorPk3
import Derived.Shelf.Strings.BuilderK
import Derived.Test.YthdiccdnggloiaaDoorPk1
import Derived.Shelf.Strconv.Itoa3
import Derived.Test.YthdiccdnggloiaaDoorProg
import Derived.Lib.LaidTab
import Derived.LaidMore
import Derived.Stop.LaidErr
import Derived.Shelf.Unicode.PredsPay
import Derived.Laws.IdiomStrings
import Derived.Lib.Atoi
import Derived.Lib.SlTrimSet
import Derived.Shelf.Strings.SlTrimAscii
import Derived.Shelf.Abstract
import Derived.Below
import Derived.Lib.Bytealg
import Derived.WalkLawsBesides
import Derived.Lib.ConvBytes
import Derived.Laws.Closers25
set_option maxRecDepth 100000
set_option maxHeartbeats 4000000
set_option linter.unusedSimpArgs false
set_option linter.unusedVariables false
namespace Go.Proofs.YthdiccdnggloiaaDoor
open Go.RowKit Go.Sort Go.Shelf
theorem Lay.extStr : Builder.Extra Tryd.prog Lay.wrStrS_ren := {
 sizeBuilder := by kernel_rfl
 liesBuilder := by kernel_rfl
 t5 := Tryd.underlying5
 a5 := Tryd.isAgg5
 z5 := Tryd.sizeOf5
 v5 := Tryd.zeroValue5
 infoByte := by kernel_rfl
 cellsByte := by kernel_rfl
 sizeByte := by kernel_rfl
 neB5 := by decide }
theorem Lay.extGet : Builder.Extra Tryd.prog Lay.bStrS_ren := {
 sizeBuilder := by kernel_rfl
 liesBuilder := by kernel_rfl
 t5 := Tryd.underlying5
 a5 := Tryd.isAgg5
 z5 := Tryd.sizeOf5
 v5 := Tryd.zeroValue5
 infoByte := by kernel_rfl
 cellsByte := by kernel_rfl
 sizeByte := by kernel_rfl
 neB5 := by decide }
def Bld (w : World) (b : Nat) (l : List UInt8) : Prop := Lib.IsBuilderF 79 5 b b (Lib.byteCells l) w
theorem builderAtF_below {T e : TypeId} {B b : Nat} {p : Value} {bs : List Value} {W W' : World} (h : Lib.BuilderAtF T e B b p bs W) (hb : Below W.heap.size W W') : Lib.BuilderAtF T e B b p bs W' := by
 have hlt := h.lt
 obtain ⟨hB, v, hv, hown, hne⟩ := h
 exact ⟨hB, v, (hb.block b hlt).trans hv, hown.kept (row := none) ⟨hb.os, hb.tape, hb.output, hb.size, fun k hk _ => hb.block k hk⟩ (Classical.em _), hne⟩
theorem Bld.keep {W W' : World} {b : Nat} {l : List UInt8} (h : Bld W b l) (hb : Below W.heap.size W W') : Bld W' b l :=
 Or.elim h (fun x => .inl (builderAtF_below x hb)) (fun x => .inr (builderAtF_below x hb))
theorem Bld.lt {W : World} {b : Nat} {l : List UInt8} (h : Bld W b l) : b < W.heap.size := Or.elim h (fun x => x.lt) (fun x => x.lt)
theorem Bld.new (w : World) : Bld (w.alloc (.cells #[.pointer none, .slice none 0 0] 79)) w.heap.size [] :=
 .inl ⟨Nat.le_refl _, .slice none 0 0, Blk.new _ _ _, World.ownsRowF_nil _ _ _ _, by simp [Value.ownBlock]⟩
theorem Blk.others {w w' : World} {b pb : Nat} {c : Array Value} {t : TypeId} (h : Blk w pb c t) (hk : Lib.OthersKept 5 (some b) w w') (hb : pb ≠ b) (ht : t ≠ 5) : Blk w' pb c t :=
 hk pb _ h (by simpa using hb) (fun c' fz e => ht (by injection e))
theorem writeString_is (b : Nat) (l : List UInt8) (s : List UInt8) (w : World) (h : Bld w b l) (hlen : l.length + s.length ≤ 140737488355328) :
  Calls Tryd.prog 40 #[.pointer (some ⟨b, 0, none⟩), .string (Tx.mk s)] w fun e w' => e = .returned (.tuple #[.int .i64 (Tx.mk s).size, .nilIface]) ∧ Bld w' b (l ++ s) ∧ Below b w w' ∧ Lib.OthersKept 5 (some b) w w' := by
 refine (Any.Builder_WriteString_k Lay.wrStrS Lay.extStr b b (Lib.byteCells l) (Tx.mk s) w h (by rw [Lib.byteCells_length, Tx.mk_size]; exact hlen) (Nat.le_of_lt h.lt)).mono ?_
 rintro e w' ⟨he, h1, h2, h3⟩
 refine ⟨he, .inr ?_, h2, h3⟩
 rw [Lib.byteCells_append]
 have e2 : Lib.strCells (Tx.mk s) = Lib.byteCells s := by rw [Lib.strCells_eq]
 rw [← e2]
 exact h1
theorem bldString_is (b : Nat) (l : List UInt8) (w : World) (h : Bld w b l) :
  Calls Tryd.prog 46 #[.pointer (some ⟨b, 0, none⟩)] w fun e w' => e = .returned (.string (Tx.mk l)) ∧ Below b w w' :=
 (Any.Builder_String_any_f Lay.bStrS Lay.extGet b b l w h (Nat.le_of_lt h.lt)).mono fun e w' hh => ⟨hh.1, hh.2.2⟩
end Go.Proofs.YthdiccdnggloiaaDoor
namespace Go.Proofs.YthdiccdnggloiaaDoor
open Go.Shelf
def Lay.itoaM_ren : Go.Shelf.Ren := ⟨fun | 171 => 42 | 243 => 82 | 246 => 94 | 283 => 100 | 284 => 101 | 285 => 102 | 286 => 103 | 129 => 109 | 317 => 108 | 318 => 110 | 319 => 111 | 320 => 112 | 337 => 120 | 338 => 121 | n => n, fun | 3 => 3 | 9 => 9 | 2 => 2 | 4 => 4 | 171 => 125 | 0 => 0 | 53 => 126 | 37 => 77 | 5 => 5 | 173 => 129 | 212 => 135 | 51 => 136 | 20 => 20 | 213 => 137 | 46 => 120 | 232 => 151 | 233 => 152 | n => n, fun | 17 => 1 | 18 => 2 | 19 => 3 | n => n⟩
theorem Lay.itoaM : Go.Proofs.LaysM.n171 Tryd.prog Lay.itoaM_ren := {
 mixed := by kernel_rfl
 f129 := Tryd.func109.trans (congrArg some (by kernel_rfl))
 f171 := Tryd.func42.trans (congrArg some (by kernel_rfl))
 f243 := Tryd.func82.trans (congrArg some (by kernel_rfl))
 f246 := Tryd.func94.trans (congrArg some (by kernel_rfl))
 f283 := Tryd.func100.trans (congrArg some (by kernel_rfl))
 f284 := Tryd.func101.trans (congrArg some (by kernel_rfl))
 f285 := Tryd.func102.trans (congrArg some (by kernel_rfl))
 f286 := Tryd.func103.trans (congrArg some (by kernel_rfl))
 f317 := Tryd.func108.trans (congrArg some (by kernel_rfl))
 f318 := Tryd.func110.trans (congrArg some (by kernel_rfl))
 f319 := Tryd.func111.trans (congrArg some (by kernel_rfl))
 f320 := Tryd.func112.trans (congrArg some (by kernel_rfl))
 f337 := Tryd.func120.trans (congrArg some (by kernel_rfl))
 f338 := Tryd.func121.trans (congrArg some (by kernel_rfl))
 t0 := Tryd.underlying0
 a0 := Tryd.isAgg0
 z0 := Tryd.sizeOf0
 v0 := Tryd.zeroValue0
 t2 := Tryd.underlying2
 a2 := Tryd.isAgg2
 z2 := Tryd.sizeOf2
 v2 := Tryd.zeroValue2
 t3 := Tryd.underlying3
 a3 := Tryd.isAgg3
 z3 := Tryd.sizeOf3
 v3 := Tryd.zeroValue3
 t4 := Tryd.underlying4
 a4 := Tryd.isAgg4
 z4 := Tryd.sizeOf4
 v4 := Tryd.zeroValue4
 t5 := Tryd.underlying5
 a5 := Tryd.isAgg5
 z5 := Tryd.sizeOf5
 v5 := Tryd.zeroValue5
 t9 := Tryd.underlying9
 a9 := Tryd.isAgg9
 z9 := Tryd.sizeOf9
 v9 := Tryd.zeroValue9
 t20 := Tryd.underlying20
 a20 := Tryd.isAgg20
 z20 := Tryd.sizeOf20
 v20 := Tryd.zeroValue20
 t37 := Tryd.underlying77
 a37 := Tryd.isAgg77
 z37 := Tryd.sizeOf77
 v37 := Tryd.zeroValue77
 t46 := Tryd.underlying120
 a46 := Tryd.isAgg120
 z46 := Tryd.sizeOf120
 v46 := Tryd.zeroValue120
 t51 := Tryd.underlying136
 a51 := Tryd.isAgg136
 z51 := Tryd.sizeOf136
 v51 := Tryd.zeroValue136
 t53 := Tryd.underlying126
 a53 := Tryd.isAgg126
 z53 := Tryd.sizeOf126
 v53 := Tryd.zeroValue126
 t171 := Tryd.underlying125
 a171 := Tryd.isAgg125
 z171 := Tryd.sizeOf125
 v171 := Tryd.zeroValue125
 t173 := Tryd.underlying129
 a173 := Tryd.isAgg129
 z173 := Tryd.sizeOf129
 v173 := Tryd.zeroValue129
 t212 := Tryd.underlying135
 a212 := Tryd.isAgg135
 z212 := Tryd.sizeOf135
 v212 := Tryd.zeroValue135
 t213 := Tryd.underlying137
 a213 := Tryd.isAgg137
 z213 := Tryd.sizeOf137
 t232 := Tryd.underlying151
 a232 := Tryd.isAgg151
 z232 := Tryd.sizeOf151
 v232 := Tryd.zeroValue151
 t233 := Tryd.underlying152
 a233 := Tryd.isAgg152
 z233 := Tryd.sizeOf152
 v233 := Tryd.zeroValue152
 g17 := by kernel_rfl
 g18 := by kernel_rfl
 g19 := by kernel_rfl
 i0 := by kernel_rfl
 i2 := by kernel_rfl
 i3 := by kernel_rfl
 i4 := by kernel_rfl
 i5 := by kernel_rfl
 i9 := by kernel_rfl
 i20 := by kernel_rfl
 i37 := by kernel_rfl
 i46 := by kernel_rfl
 i51 := by kernel_rfl
 i53 := by kernel_rfl
 i171 := by kernel_rfl
 i173 := by kernel_rfl
 i212 := by kernel_rfl
 i232 := by kernel_rfl
 i233 := by kernel_rfl
 m17 := by kernel_rfl
 m18 := by kernel_rfl
 m19 := by kernel_rfl }
end Go.Proofs.YthdiccdnggloiaaDoor
namespace Go.Proofs.YthdiccdnggloiaaDoor
open Go.RowKit Go.Sort Go.Shelf
namespace Tx
abbrev Tab (w : World) : Prop := Lib.TabIs Tryd.prog w "internal/strconv.uint64pow10" .u64 Lib.pow10Tab
theorem tab_global : Tryd.prog.globalNamed "internal/strconv.uint64pow10" = some 1 := by kernel_rfl
theorem tab_below {w w' : World} (h : Tab w) (hb : Below w.heap.size w w') : Tab w' := TabIs_below tab_global h hb
theorem tab_of_laid {W : World} {x y : String × DataW Unit} {rest : List (String × DataW Unit)} (h : laidMet Tryd.prog (x :: y :: ("internal/strconv.uint64pow10", Lib.tabData .u64 Lib.pow10Tab) :: rest) W) : Tab W :=
 Lib.tabIs_of_head (t := 135) (e := 126) (n := 20) tab_global (by kernel_rfl) (by kernel_rfl) (by kernel_rfl) (by kernel_rfl) (by kernel_rfl) h.tail.tail
end Tx
theorem itoa_any (n : Int) (h0 : -9223372036854775808 ≤ n) (h1 : n ≤ 9223372036854775807) (w : World) (ht : Tx.Tab w) : Calls Tryd.prog 42 #[.int .i64 n] w fun e w' => e = .returned (.string ⟨(Lib.itoa n).toArray⟩) ∧ ∃ k os, w' = grow (w.drewN k) os := Any.strconv_Itoa Lay.itoaM n h0 h1 w ht
end Go.Proofs.YthdiccdnggloiaaDoor
namespace Go.Proofs.YthdiccdnggloiaaDoor
open Go.RowKit Go.Sort
namespace Tx
open Go.Lib
theorem dig1 {n : Nat} (h : n < 10) : decDigits n = [UInt8.ofNat (48 + n)] := by rw [decDigits, dif_pos h]
theorem digs {n : Nat} (h : 10 ≤ n) : decDigits n = decDigits (n / 10) ++ [UInt8.ofNat (48 + n % 10)] := by rw [decDigits, dif_neg (by omega)]
end Tx
theorem told_is (i : Nat) (h1 : i ≤ 9223372036854775807) (w : World) :
  Calls Tryd.prog 47 #[.int .i64 i] w fun e w' => e = .returned (.string (Tx.mk (Lib.decDigits i))) ∧ Below w.heap.size w w' := by
 have hdl := Tx.dl_le i h1
 go_enter Tryd.func47, Tryd.ntmps47
 go_wp2_with fail
 go_loopg [0, 3] i (fun gk a s wr => ∃ (k : Nat) (l : List UInt8), gk = k ∧ a = .int .i64 k ∧ s = .string (Tx.mk l) ∧ k ≤ i ∧ Lib.decDigits i = Lib.decDigits k ++ l ∧ Below w.heap.size w wr)
 case atStart => exact ⟨i, [], rfl, rfl, rfl, by omega, by simp, Below.refl _ _⟩
 case round =>
  obtain ⟨_, l, rfl, rfl, rfl, hki, hl, hB⟩ := hrel
  have hll : l.length ≤ 19 := by have := congrArg List.length hl; rw [List.length_append] at this; unfold Tx.dl at hdl; omega
  have hd : (UInt8.ofNat (48 + gk % 10)).toNat = 48 + gk % 10 := by simp only [UInt8.toNat_ofNat']; omega
  have hconv : (convert 77 9 (.slice (some ⟨wr.heap.size, 0, none⟩) 1 1)).run Tryd.prog (wr.alloc (.cells #[.int .u8 (48 + (gk : Int) % 10)] 5)) = .ok (.string (Tx.mk [UInt8.ofNat (48 + gk % 10)])) (wr.alloc (.cells #[.int .u8 (48 + (gk : Int) % 10)] 5)) :=
   run_convert_bytes_back _ 77 9 5 ⟨wr.heap.size, 0, none⟩ 1 [UInt8.ofNat (48 + gk % 10)] Tryd.underlying77 Tryd.underlying5 Tryd.underlying9 (fun j hj => by
    obtain rfl : j = 0 := by simpa using hj
    refine ((Blk.new wr #[.int .u8 (48 + (gk : Int) % 10)] 5).one).trans ?_
    simp only [List.getElem_cons_zero, hd]; rfl)
  have hcat : ∀ W, (Op.stringOp .add (Tx.mk [UInt8.ofNat (48 + gk % 10)]) (Tx.mk l)).run Tryd.prog W = .ok (.string (Tx.mk (UInt8.ofNat (48 + gk % 10) :: l))) W := fun W => by
   rw [run_string_add_sum W _ _ (by rw [Tx.mk_size, Tx.mk_size]; simp; omega), Tx.mk_append]; rfl
  have HL := Lib.hid hl
  have hB2 := hB.alloc hB.size (.cells #[.int .u8 (48 + (gk : Int) % 10)] 5)
  generalize Tx.mk [UInt8.ofNat (48 + gk % 10)] = D at *
  generalize hm : Tx.mk l = M at *
  generalize hm2 : Tx.mk (UInt8.ofNat (48 + gk % 10) :: l) = M2 at *
  have HM2 := Lib.hid hm2
  clear hm2 hl hd
  by_cases hk : gk < 10
  ·have hk0 : (gk : Int) / 10 = 0 := by omega
   have HE : Hid (Lib.decDigits i = UInt8.ofNat (48 + gk % 10) :: l) := by
    show _ = _
    rw [HL.out, Tx.dig1 hk, Nat.mod_eq_of_lt hk]; rfl
   go_wp2_with fail
   go_ret
   exact ⟨by rw [HE.out, HM2.out]; rfl, hB2⟩
  ·have HE : Hid (Lib.decDigits i = Lib.decDigits (gk / 10) ++ UInt8.ofNat (48 + gk % 10) :: l) := by
    show _ = _
    rw [HL.out, Tx.digs (by omega), List.append_assoc]; rfl
   go_wp2_with fail
   go_roundg (gk / 10)
   case rel => exact ⟨gk / 10, _, rfl, by go_num, by rw [← HM2.out], by omega, HE.out, hB2⟩
   case measure => omega
theorem told_neg (i : Nat) (h0 : 1 ≤ i) (h1 : i ≤ 1000000000000) (w : World) :
  Calls Tryd.prog 47 #[.int .i64 (-(i : Int))] w fun e w' => e = .returned (.string (Tx.mk (45 :: Lib.decDigits i))) ∧ Below w.heap.size w w' := by
 have hdl := Tx.dl_le i (by omega)
 have hi0 : -(i : Int) < 0 := by omega
 have hi1 : (0 : Int) < (i : Int) := by omega
 have hi2 : 0 < i := h0
 go_enter Tryd.func47, Tryd.ntmps47
 go_wp2_with fail
 go_loopg [0, 3] i (fun gk a s wr => ∃ (k : Nat) (l : List UInt8), gk = k ∧ a = .int .i64 (-(k : Int)) ∧ s = .string (Tx.mk l) ∧ k ≤ i ∧ Lib.decDigits i = Lib.decDigits k ++ l ∧ Below w.heap.size w wr)
 case atStart => exact ⟨i, [], rfl, rfl, rfl, by omega, by simp, Below.refl _ _⟩
 case round =>
  obtain ⟨_, l, rfl, rfl, rfl, hki, hl, hB⟩ := hrel
  have hll : l.length ≤ 19 := by have := congrArg List.length hl; rw [List.length_append] at this; unfold Tx.dl at hdl; omega
  have hd : (UInt8.ofNat (48 + gk % 10)).toNat = 48 + gk % 10 := by simp only [UInt8.toNat_ofNat']; omega
  have hconv : (convert 77 9 (.slice (some ⟨wr.heap.size, 0, none⟩) 1 1)).run Tryd.prog (wr.alloc (.cells #[.int .u8 (48 + (gk : Int) % 10)] 5)) = .ok (.string (Tx.mk [UInt8.ofNat (48 + gk % 10)])) (wr.alloc (.cells #[.int .u8 (48 + (gk : Int) % 10)] 5)) :=
   run_convert_bytes_back _ 77 9 5 ⟨wr.heap.size, 0, none⟩ 1 [UInt8.ofNat (48 + gk % 10)] Tryd.underlying77 Tryd.underlying5 Tryd.underlying9 (fun j hj => by
    obtain rfl : j = 0 := by simpa using hj
    refine ((Blk.new wr #[.int .u8 (48 + (gk : Int) % 10)] 5).one).trans ?_
    simp only [List.getElem_cons_zero, hd]; rfl)
  have hcat : ∀ W, (Op.stringOp .add (Tx.mk [UInt8.ofNat (48 + gk % 10)]) (Tx.mk l)).run Tryd.prog W = .ok (.string (Tx.mk (UInt8.ofNat (48 + gk % 10) :: l))) W := fun W => by
   rw [run_string_add_sum W _ _ (by rw [Tx.mk_size, Tx.mk_size]; simp; omega), Tx.mk_append]; rfl
  have hmin : ∀ W, (Op.stringOp .add (Tx.mk [45]) (Tx.mk (UInt8.ofNat (48 + gk % 10) :: l))).run Tryd.prog W = .ok (.string (Tx.mk (45 :: UInt8.ofNat (48 + gk % 10) :: l))) W := fun W => by
   rw [run_string_add_sum W _ _ (by rw [Tx.mk_size, Tx.mk_size]; simp; omega), Tx.mk_append]; rfl
  have HL := Lib.hid hl
  have hB2 := hB.alloc hB.size (.cells #[.int .u8 (48 + (gk : Int) % 10)] 5)
  generalize Tx.mk [UInt8.ofNat (48 + gk % 10)] = D at *
  generalize hm : Tx.mk l = M at *
  generalize hm2 : Tx.mk (UInt8.ofNat (48 + gk % 10) :: l) = M2 at *
  generalize hm3 : Tx.mk (45 :: UInt8.ofNat (48 + gk % 10) :: l) = M3 at *
  have HM2 := Lib.hid hm2
  have HM3 := Lib.hid hm3
  clear hm2 hm3 hl hd
  have q1 : Int.tmod (-(gk : Int)) 10 = -((gk : Int) % 10) := by rw [Int.neg_tmod, Int.tmod_eq_emod_of_nonneg (by omega)]
  have q2 : Int.tdiv (-(gk : Int)) 10 = -((gk : Int) / 10) := by rw [Int.neg_tdiv, Int.tdiv_eq_ediv_of_nonneg (by omega)]
  have q4 : -(-((gk : Int) % 10)) = (gk : Int) % 10 := Int.neg_neg _
  by_cases hz : gk % 10 = 0
  ·have q3 : (gk : Int) % 10 = 0 := by omega
   simp only [q3, Int.add_zero] at hconv hB2
   by_cases hk : gk < 10
   ·have hk0 : (gk : Int) / 10 = 0 := by omega
    have HE : Hid (Lib.decDigits i = UInt8.ofNat (48 + gk % 10) :: l) := by
     show _ = _
     rw [HL.out, Tx.dig1 hk, Nat.mod_eq_of_lt hk]; rfl
    go_wp2_with fail
    go_ret
    exact ⟨by rw [HE.out, HM3.out]; rfl, hB2⟩
   ·have HE : Hid (Lib.decDigits i = Lib.decDigits (gk / 10) ++ UInt8.ofNat (48 + gk % 10) :: l) := by
     show _ = _
     rw [HL.out, Tx.digs (by omega), List.append_assoc]; rfl
    go_wp2_with fail
    go_roundg (gk / 10)
    case rel => exact ⟨gk / 10, _, rfl, by go_num, by rw [← HM2.out], by omega, HE.out, hB2⟩
    case measure => omega
  ·have q3 : (0 : Int) < (gk : Int) % 10 := by omega
   by_cases hk : gk < 10
   ·have hk0 : (gk : Int) / 10 = 0 := by omega
    have HE : Hid (Lib.decDigits i = UInt8.ofNat (48 + gk % 10) :: l) := by
     show _ = _
     rw [HL.out, Tx.dig1 hk, Nat.mod_eq_of_lt hk]; rfl
    go_wp2_with fail
    go_ret
    exact ⟨by rw [HE.out, HM3.out]; rfl, hB2⟩
   ·have HE : Hid (Lib.decDigits i = Lib.decDigits (gk / 10) ++ UInt8.ofNat (48 + gk % 10) :: l) := by
     show _ = _
     rw [HL.out, Tx.digs (by omega), List.append_assoc]; rfl
    go_wp2_with fail
    go_roundg (gk / 10)
    case rel => exact ⟨gk / 10, _, rfl, by go_num, by rw [← HM2.out], by omega, HE.out, hB2⟩
    case measure => omega
theorem told_any (n : Int) (h : -1000000000000 ≤ n ∧ n ≤ 1000000000000) (w : World) :
  Calls Tryd.prog 47 #[.int .i64 n] w fun e w' => e = .returned (.string (Tx.mk (Lib.itoa n))) ∧ Below w.heap.size w w' := by
 unfold Lib.itoa
 by_cases hn : n < 0
 ·obtain ⟨i, rfl⟩ : ∃ i : Nat, n = -(i : Int) := ⟨n.natAbs, by omega⟩
  rw [if_pos hn, Int.natAbs_neg]
  exact told_neg i (by omega) (by omega) w
 ·obtain ⟨i, rfl⟩ : ∃ i : Nat, n = (i : Int) := ⟨n.toNat, by omega⟩
  rw [if_neg hn]
  exact told_is i (by omega) w
end Go.Proofs.YthdiccdnggloiaaDoor
namespace Go.Proofs.YthdiccdnggloiaaDoor
open Go.RowKit Go.Sort Go.Shelf
namespace St
def sw (b : Bool) (x y : ByteArray) : ByteArray := if b = true then x else y
def kindB (k : Int) : ByteArray := Tx.mk (kindT k)
theorem kindB_size (k : Int) : (kindB k).size ≤ 8 := by
 unfold kindB kindT
 rw [Tx.mk_size]
 split
 ·decide
 ·split <;> decide
def num (n : Int) : ByteArray := Tx.mk (Lib.itoa n)
theorem num_size {n : Int} (h : -1000000000000000 ≤ n ∧ n ≤ 1000000000000000) : (num n).size ≤ 21 := by unfold num; rw [Tx.mk_size]; exact itoa21 h
theorem sw_list (b : Bool) (x y : List UInt8) : Tx.mk (tow b x y) = sw b (Tx.mk x) (Tx.mk y) := by unfold tow sw; cases b <;> rfl
end St
theorem itoaN_is (n : Int) (h : -9223372036854775808 ≤ n ∧ n ≤ 9223372036854775807) (V : World) (ht : Tx.Tab V) : Calls Tryd.prog 42 #[.int .i64 n] V fun e w' => e = .returned (.string (St.num n)) ∧ Below V.heap.size V w' := by
 refine (itoa_any n h.1 h.2 V ht).mono ?_
 rintro e w' ⟨rfl, k, os, rfl⟩
 exact ⟨rfl, rfl, rfl, rfl, by simp [grow], fun j hj => by simp [grow, Array.getElem?_append, hj]⟩
theorem toldN_is (n : Int) (h : -1000000000000 ≤ n ∧ n ≤ 1000000000000) (V : World) : Calls Tryd.prog 47 #[.int .i64 n] V fun e w' => e = .returned (.string (St.num n)) ∧ Below V.heap.size V w' := told_any n h V
theorem word_is (b : Bool) (x y : ByteArray) (w : World) : Calls Tryd.prog 43 #[.bool b, .string x, .string y] w fun e w' => e = .returned (.string (St.sw b x y)) ∧ w = w' := by
 cases b
 all_goals
  go_enter Tryd.func43, Tryd.ntmps43
  go_wp2_with fail
  go_ret
  exact ⟨rfl, rfl⟩
theorem eitherR_is (b : Bool) (x y : ByteArray) (w : World) : Calls Tryd.prog 48 #[.bool b, .string x, .string y] w fun e w' => e = .returned (.string (St.sw b x y)) ∧ w = w' := by
 cases b
 all_goals
  go_enter Tryd.func48, Tryd.ntmps48
  go_wp2_with fail
  go_ret
  exact ⟨rfl, rfl⟩
theorem St.kinds_idx (k : Int) (hk : k = 1 ∨ k = 2 ∨ k = 3) (V : World) :
  (Instr.index 111 (.agg #[.string ⟨#[]⟩, .string ⟨#[111, 114, 105, 103, 105, 110, 97, 108]⟩, .string ⟨#[115, 105, 100, 101, 99, 97, 114]⟩, .string ⟨#[100, 101, 114, 105, 118, 101, 100]⟩]) (.int .i64 k)).run Tryd.prog V = .ok (.string (St.kindB k)) V := by
 rcases hk with rfl | rfl | rfl <;> kernel_rfl
theorem kindWord_is (k : Int) (h : 1 ≤ k ∧ k ≤ 3) (w : World) : Calls Tryd.prog 44 #[.int .i64 k] w fun e w' => e = .returned (.string (St.kindB k)) ∧ w = w' := by
 have hop : k = 1 ∨ k = 2 ∨ k = 3 := by omega
 clear h
 have hix := St.kinds_idx k hop
 generalize St.kindB k = X at *
 clear hop
 go_enter Tryd.func44, Tryd.ntmps44
 go_wp2_with fail
 go_ret
 exact ⟨rfl, rfl⟩
theorem kindWordR_is (k : Int) (h : 1 ≤ k ∧ k ≤ 3) (w : World) : Calls Tryd.prog 49 #[.int .i64 k] w fun e w' => e = .returned (.string (St.kindB k)) ∧ w = w' := by
 have hop : k = 1 ∨ k = 2 ∨ k = 3 := by omega
 rcases hop with rfl | rfl | rfl
 all_goals
  go_enter Tryd.func49, Tryd.ntmps49
  go_wp2_with fail
  go_ret
  exact ⟨rfl, rfl⟩
theorem bldLenS_is (b : Nat) (l : List UInt8) (w : World) (h : Bld w b l) :
  Calls Tryd.prog 45 #[.pointer (some ⟨b, 0, none⟩)] w fun e w' => e = .returned (.int .i64 (l.length : Nat)) ∧ w' = w := by
 have := Any.Builder_Len_f Lay.bLenS b b (Lib.byteCells l) w h
 rw [Lib.byteCells_length] at this
 exact this
theorem joinCells_is (xs : List ByteArray) (g cap : Nat) (sep : List UInt8) (w : World) (hc : ∀ j x, xs[j]? = some x → w.cell? ⟨g, j, none⟩ = some (.string x)) (hg : g < w.heap.size) (hcap : xs.length ≤ cap) (hn : xs.length ≤ 1000000) (hlen : (Lib.join (xs.map fun x => x.data.toList) sep).length ≤ 100000000) :
  Calls Tryd.prog 50 #[.slice (some ⟨g, 0, none⟩) xs.length cap, .string (Tx.mk sep)] w fun e w' => e = .returned (.string (Tx.mk (Lib.join (xs.map fun x => x.data.toList) sep))) ∧ Below w.heap.size w w' := by
 have := Any.strings_Join Lay.joinS Lay.extJoin g 0 cap xs (Tx.mk sep) w (fun j x hj => by rw [Nat.zero_add]; exact hc j x hj) hg (by omega) hcap (by rw [Tx.mk_toList]; omega)
 rw [Tx.mk_toList] at this
 exact this
theorem line_is (xs : List ByteArray) (g cap : Nat) (w : World) (hc : ∀ j x, xs[j]? = some x → w.cell? ⟨g, j, none⟩ = some (.string x)) (hg : g < w.heap.size) (hcap : xs.length ≤ cap) (hn : xs.length ≤ 5) (hlen : (St.ln (xs.map fun x => x.data.toList)).length ≤ 1000) :
  Calls Tryd.prog 41 #[.slice (some ⟨g, 0, none⟩) xs.length cap] w fun e w' => e = .returned (.string (Tx.mk (St.ln (xs.map fun x => x.data.toList) ++ [10]))) ∧ Below w.heap.size w w' := by
 have HJ := Lib.hid (joinCells_is xs g cap [32] w hc hg hcap (by omega) (by have : (Lib.join (xs.map fun x => x.data.toList) [32]).length ≤ 1000 := hlen; omega))
 have e0 : Lib.join (xs.map fun x => x.data.toList) [32] = St.ln (xs.map fun x => x.data.toList) := rfl
 rw [e0] at HJ
 have hs : (Tx.mk (St.ln (xs.map fun x => x.data.toList))).size ≤ 1000 := by rw [Tx.mk_size]; exact hlen
 have HE : Hid (Tx.mk (St.ln (xs.map fun x => x.data.toList) ++ [10]) = Tx.mk (St.ln (xs.map fun x => x.data.toList)) ++ ⟨#[10]⟩) := Lib.hid (by rw [← Tx.mk_append])
 generalize Tx.mk (St.ln (xs.map fun x => x.data.toList) ++ [10]) = Y at *
 generalize Tx.mk (St.ln (xs.map fun x => x.data.toList)) = X at *
 clear hc hg e0 hlen
 have hsp : Tx.mk [32] = ⟨#[32]⟩ := rfl
 rw [hsp] at HJ
 clear hsp
 generalize xs.length = n at *
 go_enter Tryd.func41, Tryd.ntmps41
 go_wp2_with (go_at_call 50; refine HJ.out.mono ?_; rintro e w4 ⟨rfl, hB4⟩)
 go_ret
 exact ⟨by rw [HE.out]; rfl, hB4⟩
theorem lineLit_is (xs : List ByteArray) (t : TypeId) (V : World) (hn : xs.length ≤ 5) (hlen : (St.ln (xs.map fun x => x.data.toList)).length ≤ 1000) :
  Calls Tryd.prog 41 #[.slice (some ⟨V.heap.size, 0, none⟩) xs.length xs.length] (V.alloc (.cells (xs.map Value.string).toArray t)) fun e w' => e = .returned (.string (Tx.mk (St.ln (xs.map fun x => x.data.toList) ++ [10]))) ∧ Below V.heap.size V w' := by
 refine (line_is xs V.heap.size xs.length _ (fun j x hj => ?_) (by simp) (Nat.le_refl _) hn hlen).mono ?_
 ·rw [(Blk.new V (xs.map Value.string).toArray t).cell j]
  simp [hj]
 ·rintro e w' ⟨he, hb⟩
  exact ⟨he, below_up ((Below.refl _ _).alloc (Nat.le_refl _) _) hb⟩
theorem lineOwn_is (xs : List ByteArray) (B g cap : Nat) (w : World) (h : w.ownsRow B 9 1 (.slice (some ⟨g, 0, none⟩) xs.length cap) xs.length (xs.map Value.string)) (hn : xs.length ≤ 5) (hlen : (St.ln (xs.map fun x => x.data.toList)).length ≤ 1000) :
  Calls Tryd.prog 41 #[.slice (some ⟨g, 0, none⟩) xs.length cap] w fun e w' => e = .returned (.string (Tx.mk (St.ln (xs.map fun x => x.data.toList) ++ [10]))) ∧ Below w.heap.size w w' := by
 have hcap : xs.length ≤ cap := by
  rcases h.2 with ⟨h0, _⟩ | ⟨g', cap', cur, h0, _, _, hk, _⟩
  ·cases h0
  ·cases h0; exact hk
 refine line_is xs g cap w (fun j x hj => ?_) (h.lt g rfl).2 hcap hn hlen
 rw [h.cellAt j (by have := (List.getElem?_eq_some_iff.1 hj).1; omega), List.getElem?_map, hj]; rfl
theorem line2_is (a b : ByteArray) (t : TypeId) (V : World) (hlen : (St.ln [a.data.toList, b.data.toList]).length ≤ 1000) :
  Calls Tryd.prog 41 #[.slice (some ⟨V.heap.size, 0, none⟩) 2 2] (V.alloc (.cells #[.string a, .string b] t)) fun e w' => e = .returned (.string (Tx.mk (St.ln [a.data.toList, b.data.toList] ++ [10]))) ∧ Below V.heap.size V w' := lineLit_is [a, b] t V (by simp) hlen
theorem line3_is (a b c : ByteArray) (t : TypeId) (V : World) (hlen : (St.ln [a.data.toList, b.data.toList, c.data.toList]).length ≤ 1000) :
  Calls Tryd.prog 41 #[.slice (some ⟨V.heap.size, 0, none⟩) 3 3] (V.alloc (.cells #[.string a, .string b, .string c] t)) fun e w' => e = .returned (.string (Tx.mk (St.ln [a.data.toList, b.data.toList, c.data.toList] ++ [10]))) ∧ Below V.heap.size V w' := lineLit_is [a, b, c] t V (by simp) hlen
theorem line4_is (a b c d : ByteArray) (t : TypeId) (V : World) (hlen : (St.ln [a.data.toList, b.data.toList, c.data.toList, d.data.toList]).length ≤ 1000) :
  Calls Tryd.prog 41 #[.slice (some ⟨V.heap.size, 0, none⟩) 4 4] (V.alloc (.cells #[.string a, .string b, .string c, .string d] t)) fun e w' => e = .returned (.string (Tx.mk (St.ln [a.data.toList, b.data.toList, c.data.toList, d.data.toList] ++ [10]))) ∧ Below V.heap.size V w' := lineLit_is [a, b, c, d] t V (by simp) hlen
theorem line5_is (a b c d x : ByteArray) (t : TypeId) (V : World) (hlen : (St.ln [a.data.toList, b.data.toList, c.data.toList, d.data.toList, x.data.toList]).length ≤ 1000) :
  Calls Tryd.prog 41 #[.slice (some ⟨V.heap.size, 0, none⟩) 5 5] (V.alloc (.cells #[.string a, .string b, .string c, .string d, .string x] t)) fun e w' => e = .returned (.string (Tx.mk (St.ln [a.data.toList, b.data.toList, c.data.toList, d.data.toList, x.data.toList] ++ [10]))) ∧ Below V.heap.size V w' := lineLit_is [a, b, c, d, x] t V (by simp) hlen
end Go.Proofs.YthdiccdnggloiaaDoor
namespace Go.Proofs.YthdiccdnggloiaaDoor
namespace Dg
open Go.Lib
def valF (n : Nat) : List UInt8 → Nat
 | [] => n
 | b :: r => valF (10 * n + (b.toNat - 48)) r
def val (l : List UInt8) : Nat := valF 0 l
def digits : List UInt8 := [48, 49, 50, 51, 52, 53, 54, 55, 56, 57]
theorem dropWhile_nil {α : Type} (p : α → Bool) : ∀ l : List α, l.dropWhile p = [] ↔ l.all p = true
 | [] => by simp
 | a :: r => by
   rw [List.dropWhile_cons, List.all_cons]
   cases hp : p a
   ·simp
   ·simpa using dropWhile_nil p r
theorem dropWhile_head {α : Type} (p : α → Bool) : ∀ l : List α, l.dropWhile p ≠ [] → (l.dropWhile p).all p = false
 | [], h => absurd rfl h
 | a :: r, h => by
   rw [List.dropWhile_cons] at h ⊢
   cases hp : p a
   ·simp [hp]
   ·rw [hp, if_pos rfl] at h; rw [if_pos rfl]; exact dropWhile_head p r h
end Dg
end Go.Proofs.YthdiccdnggloiaaDoor
namespace Go.Proofs.YthdiccdnggloiaaDoor
open Go.Shelf
def Lay.trimS_ren : Go.Shelf.Ren := ⟨fun | 160 => 105 | 232 => 114 | 231 => 113 | 227 => 115 | 234 => 117 | 233 => 116 | 236 => 119 | 235 => 118 | 228 => 122 | 271 => 125 | 151 => 124 | 197 => 123 | 120 => 128 | 152 => 127 | 260 => 126 | 137 => 74 | 119 => 129 | 224 => 130 | 225 => 131 | 217 => 91 | 266 => 99 | n => n, fun | 9 => 9 | 4 => 4 | 3 => 3 | 5 => 5 | 117 => 142 | 116 => 141 | 0 => 0 | 124 => 145 | 21 => 21 | 105 => 148 | 46 => 120 | 119 => 154 | 139 => 157 | 138 => 156 | n => n, fun | 3 => 4 | 4 => 5 | n => n⟩
theorem Lay.trimS : Go.Proofs.Lays.n160 Tryd.prog Lay.trimS_ren := {
 mixed := by kernel_rfl
 f119 := Tryd.func129.trans (congrArg some (by kernel_rfl))
 f120 := Tryd.func128.trans (congrArg some (by kernel_rfl))
 f137 := Tryd.func74.trans (congrArg some (by kernel_rfl))
 f151 := Tryd.func124.trans (congrArg some (by kernel_rfl))
 f152 := Tryd.func127.trans (congrArg some (by kernel_rfl))
 f160 := Tryd.func105.trans (congrArg some (by kernel_rfl))
 f197 := Tryd.func123.trans (congrArg some (by kernel_rfl))
 f217 := Tryd.func91.trans (congrArg some (by kernel_rfl))
 f224 := Tryd.func130.trans (congrArg some (by kernel_rfl))
 f225 := Tryd.func131.trans (congrArg some (by kernel_rfl))
 f227 := Tryd.func115.trans (congrArg some (by kernel_rfl))
 f228 := Tryd.func122.trans (congrArg some (by kernel_rfl))
 f231 := Tryd.func113.trans (congrArg some (by kernel_rfl))
 f232 := Tryd.func114.trans (congrArg some (by kernel_rfl))
 f233 := Tryd.func116.trans (congrArg some (by kernel_rfl))
 f234 := Tryd.func117.trans (congrArg some (by kernel_rfl))
 f235 := Tryd.func118.trans (congrArg some (by kernel_rfl))
 f236 := Tryd.func119.trans (congrArg some (by kernel_rfl))
 f260 := Tryd.func126.trans (congrArg some (by kernel_rfl))
 f266 := Tryd.func99.trans (congrArg some (by kernel_rfl))
 f271 := Tryd.func125.trans (congrArg some (by kernel_rfl))
 t0 := Tryd.underlying0
 a0 := Tryd.isAgg0
 z0 := Tryd.sizeOf0
 v0 := Tryd.zeroValue0
 t3 := Tryd.underlying3
 a3 := Tryd.isAgg3
 z3 := Tryd.sizeOf3
 v3 := Tryd.zeroValue3
 t4 := Tryd.underlying4
 a4 := Tryd.isAgg4
 z4 := Tryd.sizeOf4
 v4 := Tryd.zeroValue4
 t5 := Tryd.underlying5
 a5 := Tryd.isAgg5
 z5 := Tryd.sizeOf5
 v5 := Tryd.zeroValue5
 t9 := Tryd.underlying9
 a9 := Tryd.isAgg9
 z9 := Tryd.sizeOf9
 v9 := Tryd.zeroValue9
 t21 := Tryd.underlying21
 a21 := Tryd.isAgg21
 z21 := Tryd.sizeOf21
 v21 := Tryd.zeroValue21
 t46 := Tryd.underlying120
 a46 := Tryd.isAgg120
 z46 := Tryd.sizeOf120
 v46 := Tryd.zeroValue120
 t105 := Tryd.underlying148
 a105 := Tryd.isAgg148
 z105 := Tryd.sizeOf148
 v105 := Tryd.zeroValue148
 t116 := Tryd.underlying141
 a116 := Tryd.isAgg141
 z116 := Tryd.sizeOf141
 t117 := Tryd.underlying142
 a117 := Tryd.isAgg142
 z117 := Tryd.sizeOf142
 v117 := Tryd.zeroValue142
 t119 := Tryd.underlying154
 a119 := Tryd.isAgg154
 z119 := Tryd.sizeOf154
 t124 := Tryd.underlying145
 a124 := Tryd.isAgg145
 z124 := Tryd.sizeOf145
 v124 := Tryd.zeroValue145
 t138 := Tryd.underlying156
 a138 := Tryd.isAgg156
 z138 := Tryd.sizeOf156
 v138 := Tryd.zeroValue156
 t139 := Tryd.underlying157
 a139 := Tryd.isAgg157
 z139 := Tryd.sizeOf157
 v139 := Tryd.zeroValue157
 g3 := by kernel_rfl
 g4 := by kernel_rfl }
end Go.Proofs.YthdiccdnggloiaaDoor
namespace Go.Proofs.YthdiccdnggloiaaDoor
open Go.RowKit Go.Sort Go.Shelf
namespace Hx
def hexD : List UInt8 := [48, 49, 50, 51, 52, 53, 54, 55, 56, 57, 97, 98, 99, 100, 101, 102]
def isH (b : UInt8) : Bool := Fd.hexN b.toNat
theorem mem_hexD (b : UInt8) : hexD.contains b = isH b := by
 rw [Bool.eq_iff_iff]
 unfold hexD isH Fd.hexN
 rw [decide_eq_true_iff, List.contains_iff_mem]
 simp only [List.mem_cons, List.not_mem_nil, or_false, ← UInt8.toNat_inj]
 simp only [UInt8.reduceToNat]
 omega
theorem trim_nilH (l : List UInt8) : Lib.trimS l hexD = [] ↔ l.all isH = true := by
 have e : (fun x => hexD.contains x) = isH := funext mem_hexD
 unfold Lib.trimS Lib.trimLeftS Lib.trimRightS
 rw [e]
 constructor
 ·intro h
  by_cases c : l.reverse.dropWhile isH = []
  ·have := (Dg.dropWhile_nil isH l.reverse).1 c
   rwa [List.all_reverse] at this
  ·have h1 := Dg.dropWhile_head isH l.reverse c
   have h2 := (Dg.dropWhile_nil isH _).1 h
   rw [List.all_reverse, h1] at h2
   exact absurd h2 (by simp)
 ·intro h
  have : l.reverse.dropWhile isH = [] := (Dg.dropWhile_nil isH l.reverse).2 (by rw [List.all_reverse]; exact h)
  rw [this]; rfl
theorem fileB_all {s : ByteArray} (h : s.size = 16) : Fd.fileB s = s.data.toList.all isH := by
 have hl : s.data.toList.length = s.size := rfl
 rw [Bool.eq_iff_iff, List.all_eq_true]
 unfold Fd.fileB
 rw [decide_eq_true_eq]
 constructor
 ·rintro ⟨_, h2⟩ b hb
  obtain ⟨i, hi⟩ := List.getElem?_of_mem hb
  obtain ⟨hlt, hg⟩ := List.getElem?_eq_some_iff.1 hi
  have h3 := h2 i (by omega)
  have e : s[i] = b := by rw [← hg]; rfl
  rw [e] at h3
  exact h3
 ·intro h2
  refine ⟨h, fun i hi => ?_⟩
  exact h2 _ (show s[i] ∈ s.data.toList from by
   have e : s[i] = s.data.toList[i]'(by rw [hl]; exact hi) := rfl
   rw [e]; exact List.getElem_mem _)
end Hx
theorem trimH_is (s : ByteArray) (h0 : 0 < s.size) (hl : s.size ≤ 9223372036854775807) (w : World) :
  Calls Tryd.prog 105 #[.string s, .string ⟨#[48, 49, 50, 51, 52, 53, 54, 55, 56, 57, 97, 98, 99, 100, 101, 102]⟩] w fun e w' => e = .returned (.string (Tx.mk (Lib.trimS s.data.toList Hx.hexD))) ∧ Below w.heap.size w w' := by
 refine (Any.strings_Trim_set Lay.trimS Tryd.zeroValue141 (by kernel_rfl) s (Tx.mk Hx.hexD) w (by rw [Tx.mk_size]; decide) h0 hl (by rw [Tx.mk_size]; decide) (fun j b hb => ?_)).mono ?_
 ·rw [Tx.mk_toList] at hb
  have hm : b ∈ Hx.hexD := List.mem_of_getElem? hb
  have hd : Hx.isH b = true := by rw [← Hx.mem_hexD]; exact List.contains_iff_mem.2 hm
  have := of_decide_eq_true hd
  omega
 ·rintro e w' ⟨he, q, rfl⟩
  exact ⟨he, below_drewN (((Below.refl _ _).alloc (Nat.le_refl _) _).alloc (by simp) _) q⟩
theorem mkEmptyH_no (l : List UInt8) (h : l ≠ []) : (Tx.mk l).toList.isEmpty = false := by
 have e : (Tx.mk l).toList = l := by rw [ByteArray.toList_eq]
 rw [e]; cases l with | nil => exact absurd rfl h | cons a r => rfl
end Go.Proofs.YthdiccdnggloiaaDoor
namespace Go.Proofs.YthdiccdnggloiaaDoor
open Go.RowKit
namespace St
theorem idx_here {α : Type} {p : α → Bool} {L : List α} {j : Nat} {q : Int} {x : α} (h : idx p (L.drop j) j = q) (hx : L[j]? = some x) (hp : p x = true) : (j : Int) = q := by
 obtain ⟨hlt, hg⟩ := List.getElem?_eq_some_iff.1 hx
 rw [List.drop_eq_getElem_cons hlt, hg, idx, if_pos hp] at h
 exact h
theorem idx_next {α : Type} {p : α → Bool} {L : List α} {j : Nat} {q : Int} {x : α} (h : idx p (L.drop j) j = q) (hx : L[j]? = some x) (hp : p x = false) : idx p (L.drop (j + 1)) (j + 1) = q := by
 obtain ⟨hlt, hg⟩ := List.getElem?_eq_some_iff.1 hx
 rw [List.drop_eq_getElem_cons hlt, hg, idx, if_neg (by rw [hp]; decide)] at h
 exact h
theorem idx_end {α : Type} {p : α → Bool} {L : List α} {q : Int} (h : idx p (L.drop L.length) L.length = q) : (-1 : Int) = q := by
 rw [List.drop_length] at h; exact h
theorem idx_some {α : Type} {p : α → Bool} : ∀ {L : List α} {i : Nat} {n : Int}, idx p L i = n → 0 ≤ n → ∃ (j : Nat) (x : α), n = ((i + j : Nat) : Int) ∧ L[j]? = some x ∧ p x = true ∧ ∀ k y, k < j → L[k]? = some y → p y = false
 | [], i, n, h, h0 => by rw [idx] at h; omega
 | y :: r, i, n, h, h0 => by
   rw [idx] at h
   split at h
   ·rename_i hy
    exact ⟨0, y, h.symm, rfl, hy, fun k z hk => absurd hk (Nat.not_lt_zero _)⟩
   ·rename_i hy
    obtain ⟨j, x, h1, h2, h3, h4⟩ := idx_some h h0
    refine ⟨j + 1, x, by rw [h1]; congr 1; omega, by simpa using h2, h3, fun k z hk hz => ?_⟩
    cases k with
    | zero => simp at hz; subst hz; simpa using hy
    | succ k => exact h4 k z (by omega) (by simpa using hz)
theorem hasTier_idx (L : List Tir) (n : ByteArray) : hasTier L n = decide (0 ≤ tierAt L n) := by
 unfold tierAt
 cases h : hasTier L n with
 | false =>
   have : idx (fun t => eq t.name n) L 0 = -1 := idx_none fun x hx => by
    cases e : eq x.name n with
    | false => rfl
    | true =>
      have : hasTier L n = true := List.any_eq_true.2 ⟨x, hx, e⟩
      rw [h] at this; cases this
   rw [this]; rfl
 | true =>
   symm
   rw [decide_eq_true_eq]
   rcases Int.lt_or_le (idx (fun t => eq t.name n) L 0) 0 with g | g
   ·obtain ⟨x, hx, e⟩ := List.any_eq_true.1 h
    have := (idx_neg.1 g) x hx
    rw [e] at this; cases this
   ·exact g
theorem tier_first {L : List Tir} {j : Nat} {t : Tir} (h : L[j]? = some t) : (tierAt L t.name < (j : Int)) ↔ hasTier (L.take j) t.name = true := by
 unfold tierAt
 constructor
 ·intro hlt
  rcases Int.lt_or_le (idx (fun x => eq x.name t.name) L 0) 0 with g | g
  ·have := (idx_neg.1 g) t (List.mem_of_getElem? h)
   rw [eq_refl] at this; cases this
  ·obtain ⟨k, x, h1, h2, h3, _⟩ := idx_some rfl g
   have hk : k < j := by omega
   refine List.any_eq_true.2 ⟨x, List.mem_of_getElem? (i := k) ?_, h3⟩
   rw [List.getElem?_take, if_pos hk]; exact h2
 ·intro hh
  obtain ⟨x, hx, e⟩ := List.any_eq_true.1 hh
  obtain ⟨k, hk⟩ := List.getElem?_of_mem hx
  rw [List.getElem?_take] at hk
  split at hk
  ·rename_i hkj
   rcases Int.lt_or_le (idx (fun x => eq x.name t.name) L 0) 0 with g | g
   ·omega
   ·obtain ⟨m, y, h1, h2, h3, h4⟩ := idx_some rfl g
    rcases Nat.lt_or_ge k m with hm | hm
    ·have := h4 k x hm hk; rw [e] at this; cases this
    ·omega
  ·cases hk
theorem find_here {α : Type} {p : α → Bool} {L : List α} {j : Nat} {q : Option α} {x : α} (h : (L.drop j).find? p = q) (hx : L[j]? = some x) (hp : p x = true) : some x = q := by
 obtain ⟨hlt, hg⟩ := List.getElem?_eq_some_iff.1 hx
 rw [List.drop_eq_getElem_cons hlt, hg, List.find?_cons, hp] at h
 exact h
theorem find_next {α : Type} {p : α → Bool} {L : List α} {j : Nat} {q : Option α} {x : α} (h : (L.drop j).find? p = q) (hx : L[j]? = some x) (hp : p x = false) : (L.drop (j + 1)).find? p = q := by
 obtain ⟨hlt, hg⟩ := List.getElem?_eq_some_iff.1 hx
 rw [List.drop_eq_getElem_cons hlt, hg, List.find?_cons, hp] at h
 exact h
theorem find_end {α : Type} {p : α → Bool} {L : List α} {q : Option α} (h : (L.drop L.length).find? p = q) : none = q := by
 rw [List.drop_length] at h; exact h
end St
end Go.Proofs.YthdiccdnggloiaaDoor
namespace Go.Proofs.YthdiccdnggloiaaDoor
open Go.RowKit Go.Sort Go.Shelf
theorem below_allocs {a b : World} (h : Below a.heap.size a b) (o : Obj) : Below a.heap.size a (b.alloc o) := h.alloc h.size o
theorem moment_is (n : Int) (b : Bool) (h : Ev.mom n = b) (w : World) : Calls Tryd.prog 32 #[.int .i64 n] w fun e w' => e = .returned (.bool b) ∧ w = w' := by
 cases b
 ·have h' := (Ev.mom_no n).1 h
  clear h
  by_cases c : 0 ≤ n
  ·go_enter Tryd.func32, Tryd.ntmps32
   go_wp2_with fail
   go_ret
   exact ⟨ret_bool (by simp <;> omega), rfl⟩
  ·go_enter Tryd.func32, Tryd.ntmps32
   go_wp2_with fail
   go_ret
   exact ⟨ret_bool (by simp <;> omega), rfl⟩
 ·have h' := (Ev.mom_iff n).1 h
  clear h
  go_enter Tryd.func32, Tryd.ntmps32
  go_wp2_with fail
  go_ret
  exact ⟨ret_bool (by simp <;> omega), rfl⟩
def Row (w : World) (a : Option Addr) (len : Nat) (f : Nat → Value) : Prop :=
 0 < len → ∃ b off, a = some ⟨b, off, none⟩ ∧ b < w.heap.size ∧ ∀ i, i < len → w.cell? ⟨b, off + i, none⟩ = some (f i)
theorem Row.keep {w w' : World} {a : Option Addr} {len : Nat} {f : Nat → Value} (h : Row w a len f) (hb : Below w.heap.size w w') : Row w' a len f := by
 intro hl
 obtain ⟨b, off, rfl, hlt, hc⟩ := h hl
 exact ⟨b, off, rfl, Nat.lt_of_lt_of_le hlt hb.size, fun i hi => (hb.cell (p := ⟨b, off + i, none⟩) hlt).trans (hc i hi)⟩
theorem in_is (n lo hi : Int) (b : Bool) (h : decide (lo ≤ n ∧ n ≤ hi) = b) (w : World) : Calls Tryd.prog 24 #[.int .i64 n, .int .i64 lo, .int .i64 hi] w fun e w' => e = .returned (.bool b) ∧ w = w' := by
 cases b
 ·rw [decide_eq_false_iff_not] at h
  by_cases c : lo ≤ n
  ·have d : hi < n := by omega
   clear h
   go_enter Tryd.func24, Tryd.ntmps24
   go_wp2
   go_ret
   exact ⟨ret_bool (by simp <;> omega), rfl⟩
  ·clear h
   go_enter Tryd.func24, Tryd.ntmps24
   go_wp2
   go_ret
   exact ⟨ret_bool (by simp <;> omega), rfl⟩
 ·obtain ⟨h1, h2⟩ := of_decide_eq_true h
  clear h
  go_enter Tryd.func24, Tryd.ntmps24
  go_wp2
  go_ret
  exact ⟨ret_bool (by simp <;> omega), rfl⟩
theorem indexByteS (s : ByteArray) (c : Int) (w : World) : Calls Tryd.prog 74 #[.string s, .int .u8 c] w fun e w' => e = .returned (.int .i64 (Lib.indexByte s.data.toList c.toNat.toUInt8)) ∧ w = w' := by
 go_enter Tryd.func74, Tryd.ntmps74
 go_wp2
 rw [run_callFunc_extern Tryd.func99 (by kernel_rfl) (by kernel_rfl) (by kernel_rfl) (e := Extern.BytealgIndexByte.indexByte) (by kernel_rfl), Lib.run_indexByteString]
 simp only [Result.andThen]
 rw [Oper.upon_value]
 go_wp2
 go_ret
 exact ⟨rfl, rfl⟩
theorem hex_all : ∀ n, n < 256 → decide (Lib.indexByte [48, 49, 50, 51, 52, 53, 54, 55, 56, 57, 97, 98, 99, 100, 101, 102] n.toUInt8 < 0) = !Fd.hexN n := by decide +kernel
theorem hexIdx (c : UInt8) (b : Bool) (h : Fd.hexN c.toNat = b) (W : World) : Calls Tryd.prog 74 #[.string ⟨#[48, 49, 50, 51, 52, 53, 54, 55, 56, 57, 97, 98, 99, 100, 101, 102]⟩, .int .u8 c.toNat] W fun e w' => ∃ r : Int, e = .returned (.int .i64 r) ∧ decide (r < 0) = !b ∧ W = w' := by
 refine (indexByteS _ _ W).mono fun e w' h' => ⟨_, h'.1, ?_, h'.2⟩
 have := hex_all c.toNat c.toNat_lt
 rw [h] at this
 rw [Int.toNat_natCast]
 exact this
theorem isDigest_is (s : ByteArray) (hs : s.size ≤ 9223372036854775807) (b : Bool) (h : Fd.fileB s = b) (w : World) : Calls Tryd.prog 27 #[.string s] w fun e w' => e = .returned (.bool b) ∧ w = w' := by
 have HB := Lib.hid h; clear h
 go_enter Tryd.func27, Tryd.ntmps27
 go_wp2_with fail
 go_loopg [6] s.size (fun gk i wr => ∃ j : Nat, j ≤ s.size ∧ gk = s.size - j ∧ i = .int .i64 j ∧ (∀ i, (h : i < s.size) → i < j → Fd.hexN s[i].toNat = true) ∧ w = wr)
 case atStart => exact ⟨0, by omega, rfl, rfl, fun i _ hi => by omega, rfl⟩
 case round =>
  obtain ⟨j, hj, rfl, rfl, hall, rfl⟩ := hrel
  have HALL := Lib.hid hall; clear hall
  by_cases hlt : j < s.size
  ·by_cases hx : Fd.hexN s[j].toNat = true
   ·have HN := Lib.hid (Fd.upto_next (P := fun _ c => Fd.hexN c = true) HALL.out hlt hx)
    have HX := Lib.hid (fun W => hexIdx s[j] true hx W)
    clear hx
    go_wp2_with (go_at_call 74; refine (HX.out _).mono ?_; rintro e w' ⟨r, rfl, hr, rfl⟩; simp only [Bool.not_true] at hr; have hr2 : ¬ r < 0 := of_decide_eq_false hr)
    go_roundg (s.size - (j + 1))
    case rel => exact ⟨j + 1, by omega, rfl, by go_num, HN.out, rfl⟩
    case measure => omega
   ·have hx' : Fd.hexN s[j].toNat = false := by simpa using hx
    have HX := Lib.hid (fun W => hexIdx s[j] false hx' W)
    have HB2 : Hid (b = false) := by have h1 := HB.out; rw [Fd.fileB_at j hlt hx'] at h1; exact Lib.hid h1.symm
    clear hx'
    clear hx
    go_wp2_with (go_at_call 74; refine (HX.out _).mono ?_; rintro e w' ⟨r, rfl, hr, rfl⟩; simp only [Bool.not_false] at hr; have hr2 : r < 0 := of_decide_eq_true hr)
    go_ret
    exact ⟨ret_bool HB2.out.symm, rfl⟩
  ·obtain rfl : j = s.size := by omega
   by_cases hz : s.size = 16
   ·have hz1 : ((s.size : Int) == 16) = true := by simp; omega
    have HB2 : Hid (b = true) := by have h1 := HB.out; rw [Fd.fileB_yes hz (fun i hi => HALL.out i hi hi)] at h1; exact Lib.hid h1.symm
    have HZ := Lib.hid hz; clear hz
    go_wp2_with fail
    go_ret
    exact ⟨ret_bool HB2.out.symm, rfl⟩
   ·have hz1 : ((s.size : Int) == 16) = false := by simp; omega
    have HB2 : Hid (b = false) := by have h1 := HB.out; rw [Fd.fileB_size hz] at h1; exact Lib.hid h1.symm
    clear hz
    go_wp2_with fail
    go_ret
    exact ⟨ret_bool HB2.out.symm, rfl⟩
theorem isNameR_is (s : ByteArray) (hs : s.size ≤ 9223372036854775807) (b : Bool) (h : Fd.nameB s = b) (w : World) : Calls Tryd.prog 25 #[.string s] w fun e w' => e = .returned (.bool b) ∧ w = w' := by
 have HB := Lib.hid h; clear h
 go_enter Tryd.func25, Tryd.ntmps25
 go_wp2_with fail
 go_loopg [6] s.size (fun gk i wr => ∃ j : Nat, j ≤ s.size ∧ gk = s.size - j ∧ i = .int .i64 j ∧ (∀ i, (h : i < s.size) → i < j → Fd.nmN i s[i].toNat = true) ∧ w = wr)
 case atStart => exact ⟨0, by omega, rfl, rfl, fun i _ hi => by omega, rfl⟩
 case round =>
  obtain ⟨j, hj, rfl, rfl, hall, rfl⟩ := hrel
  have HALL := Lib.hid hall; clear hall
  by_cases hlt : j < s.size
  ·by_cases hx : Fd.nmN j s[j].toNat = true
   ·have HN := Lib.hid (Fd.upto_next (P := fun i c => Fd.nmN i c = true) HALL.out hlt hx)
    have ht := (Fd.tailN_iff _).1 (Fd.nmN_tail _ _ hx)
    by_cases i1 : (97 : Int) ≤ (s[j].toNat : Int) ∧ (s[j].toNat : Int) ≤ 122
    ·obtain ⟨i1, i2⟩ := i1
     clear hx ht
     go_wp2_with fail
     go_roundg (s.size - (j + 1))
     case rel => exact ⟨j + 1, by omega, rfl, by go_num, HN.out, rfl⟩
     case measure => omega
    ·have hj0 : j ≠ 0 := by
      rintro rfl
      rw [Fd.nmN_zero, Fd.letN_iff] at hx; omega
     have hj1 : ((j : Int) == 0) = false := by simpa using hj0
     clear hx
     by_cases i3 : s[j].toNat = 45
     ·have i4 : ((s[j].toNat : Int) == 45) = true := by simp; omega
      have i5 : ((s[j].toNat : Int) != 45) = false := by simp; omega
      have i6 : (s[j].toNat : Int) < 97 := by omega
      clear i1 ht i3
      go_wp2_with fail
      go_roundg (s.size - (j + 1))
      case rel => exact ⟨j + 1, by omega, rfl, by go_num, HN.out, rfl⟩
      case measure => omega
     ·have i4 : ((s[j].toNat : Int) == 45) = false := by simp; omega
      have i5 : ((s[j].toNat : Int) != 45) = true := by simp; omega
      have i6 : (s[j].toNat : Int) < 97 := by omega
      have i7 : (48 : Int) ≤ (s[j].toNat : Int) := by omega
      have i8 : (s[j].toNat : Int) ≤ 57 := by omega
      clear i1 ht i3
      go_wp2_with fail
      go_roundg (s.size - (j + 1))
      case rel => exact ⟨j + 1, by omega, rfl, by go_num, HN.out, rfl⟩
      case measure => omega
   ·have hx' : Fd.nmN j s[j].toNat = false := by simpa using hx
    have HB2 : Hid (b = false) := by have h1 := HB.out; rw [Fd.nameB_at j hlt hx'] at h1; exact Lib.hid h1.symm
    by_cases hj0 : j = 0
    ·have hj1 : ((j : Int) == 0) = true := by simpa using hj0
     have hl : ¬ (97 ≤ s[j].toNat ∧ s[j].toNat ≤ 122) := by
      have hx2 := hx'
      unfold Fd.nmN at hx2; rw [if_pos hj0] at hx2
      rw [← Fd.letN_iff, hx2]; simp
     have HJ := Lib.hid hj0; clear hj0 hx'
     by_cases i1 : (s[j].toNat : Int) < 97
     ·clear hl
      clear hx
      go_wp2_with fail
      go_ret
      exact ⟨ret_bool HB2.out.symm, rfl⟩
     ·have i2 : (122 : Int) < (s[j].toNat : Int) := by omega
      clear hl
      clear hx
      go_wp2_with fail
      go_ret
      exact ⟨ret_bool HB2.out.symm, rfl⟩
    ·have hj1 : ((j : Int) == 0) = false := by simpa using hj0
     have hl : ¬ (97 ≤ s[j].toNat ∧ s[j].toNat ≤ 122 ∨ 48 ≤ s[j].toNat ∧ s[j].toNat ≤ 57 ∨ s[j].toNat = 45) := by rw [← Fd.tailN_iff]; rw [Fd.nmN_pos _ _ hj0] at hx'; rw [hx']; simp
     have i4 : ((s[j].toNat : Int) == 45) = false := by simp; omega
     have i5 : ((s[j].toNat : Int) != 45) = true := by simp; omega
     clear hx' hj0
     by_cases i1 : (s[j].toNat : Int) < 97
     ·by_cases i2 : (s[j].toNat : Int) < 48
      ·clear hl
       clear hx
       go_wp2_with fail
       go_ret
       exact ⟨ret_bool HB2.out.symm, rfl⟩
      ·have i3 : (57 : Int) < (s[j].toNat : Int) := by omega
       clear hl
       clear hx
       go_wp2_with fail
       go_ret
       exact ⟨ret_bool HB2.out.symm, rfl⟩
     ·have i2 : (122 : Int) < (s[j].toNat : Int) := by omega
      have i3 : (57 : Int) < (s[j].toNat : Int) := by omega
      have i6 : (48 : Int) ≤ (s[j].toNat : Int) := by omega
      clear hl
      clear hx
      go_wp2_with fail
      go_ret
      exact ⟨ret_bool HB2.out.symm, rfl⟩
  ·obtain rfl : j = s.size := by omega
   by_cases hz : 1 ≤ s.size ∧ s.size ≤ 40
   ·have HB2 : Hid (b = true) := by have h1 := HB.out; rw [Fd.nameB_yes hz (fun i hi => HALL.out i hi hi)] at h1; exact Lib.hid h1.symm
    obtain ⟨z1, z2⟩ := hz
    have z3 : (1 : Int) ≤ (s.size : Int) := by omega
    have z4 : (s.size : Int) ≤ 40 := by omega
    go_wp2_with fail
    go_ret
    exact ⟨ret_bool (by first | exact HB2.out.symm | (rw [HB2.out]; simp <;> omega)), rfl⟩
   ·have HB2 : Hid (b = false) := by have h1 := HB.out; rw [Fd.nameB_size hz] at h1; exact Lib.hid h1.symm
    by_cases z3 : (1 : Int) ≤ (s.size : Int)
    ·have z4 : (40 : Int) < (s.size : Int) := by omega
     clear hz
     go_wp2_with fail
     go_ret
     exact ⟨ret_bool (by first | exact HB2.out.symm | (rw [HB2.out]; simp <;> omega)), rfl⟩
    ·clear hz
     go_wp2_with fail
     go_ret
     exact ⟨ret_bool (by first | exact HB2.out.symm | (rw [HB2.out]; simp <;> omega)), rfl⟩
theorem strEmpty_no (s : ByteArray) (h : s.size ≠ 0) : s.toList.isEmpty = false := by
 rw [← decide_eq_emptyBytes]; exact decide_eq_false fun e => h (by rw [e]; rfl)
theorem strEmpty_yes (s : ByteArray) (h : s.size = 0) : s.toList.isEmpty = true := by
 rw [← decide_eq_emptyBytes]
 refine decide_eq_true ?_
 obtain ⟨d⟩ := s
 have : d = #[] := Array.eq_empty_of_size_eq_zero h
 subst this; rfl
theorem isNameW_is (s : ByteArray) (hs : s.size ≤ 9223372036854775807) (b : Bool) (h : Fd.nameB s = b) (w : World) : Calls Tryd.prog 84 #[.string s] w fun e w' => e = .returned (.bool b) ∧ w = w' := by
 have HB := Lib.hid h; clear h
 by_cases z0 : s.size = 0
 ·have HB2 : Hid (b = false) := by have h1 := HB.out; rw [Fd.nameB_size (by omega)] at h1; exact Lib.hid h1.symm
  have e1 := strEmpty_yes s z0
  have e2 : s.toList = [] := by simpa using e1
  have HZ := Lib.hid z0; clear z0
  go_enter Tryd.func84, Tryd.ntmps84
  go_wp2_with fail
  go_ret
  exact ⟨ret_bool (by first | exact HB2.out.symm | (rw [HB2.out]; simp)), rfl⟩
 ·have z1 : (0 : Int) < (s.size : Int) := by omega
  have z2 : 0 < s.size := by omega
  have e1 := strEmpty_no s z0
  have e2 : ¬ s.toList = [] := by simpa using e1
  clear z0
  by_cases z3 : (40 : Int) < (s.size : Int)
  ·have HB2 : Hid (b = false) := by have h1 := HB.out; rw [Fd.nameB_size (by omega)] at h1; exact Lib.hid h1.symm
   go_enter Tryd.func84, Tryd.ntmps84
   go_wp2_with fail
   go_ret
   exact ⟨ret_bool (by first | exact HB2.out.symm | (rw [HB2.out]; simp)), rfl⟩
  ·have hz : 1 ≤ s.size ∧ s.size ≤ 40 := by omega
   have HZ := Lib.hid hz; clear hz
   by_cases hl : Fd.letN (s[0]'z2).toNat = true
   ·have hl2 := (Fd.letN_iff _).1 hl
    have HL := Lib.hid hl
    have i1 : ¬ ((s[0]'z2).toNat : Int) < 97 := by omega
    have i2 : ¬ (122 : Int) < ((s[0]'z2).toNat : Int) := by omega
    clear hl hl2
    go_enter Tryd.func84, Tryd.ntmps84
    go_wp2_with fail
    clear i1 i2
    go_loopg [24] s.size (fun gk i wr => ∃ j : Nat, j ≤ s.size ∧ gk = s.size - j ∧ i = .int .i64 j ∧ (∀ i, (h : i < s.size) → i < j → Fd.nmN i s[i].toNat = true) ∧ w = wr)
    case atStart => exact ⟨0, by omega, rfl, rfl, fun i _ hi => by omega, rfl⟩
    case round =>
     obtain ⟨j, hj, rfl, rfl, hall, rfl⟩ := hrel
     have HALL := Lib.hid hall; clear hall
     by_cases hlt : j < s.size
     ·by_cases hx : Fd.tailN s[j].toNat = true
      ·have hnm : Fd.nmN j s[j].toNat = true := by
        by_cases e : j = 0
        ·subst e; exact HL.out
        ·rw [Fd.nmN_pos _ _ e]; exact hx
       have HN := Lib.hid (Fd.upto_next (P := fun i c => Fd.nmN i c = true) HALL.out hlt hnm)
       have ht := (Fd.tailN_iff _).1 hx
       clear hx hnm
       by_cases i1 : (97 : Int) ≤ (s[j].toNat : Int) ∧ (s[j].toNat : Int) ≤ 122
       ·obtain ⟨i1, i2⟩ := i1
        clear ht
        go_wp2_with fail
        go_roundg (s.size - (j + 1))
        case rel => exact ⟨j + 1, by omega, rfl, by go_num, HN.out, rfl⟩
        case measure => omega
       ·by_cases i3 : s[j].toNat = 45
        ·have i4 : ((s[j].toNat : Int) == 45) = true := by simp; omega
         have i6 : ¬ (97 : Int) ≤ (s[j].toNat : Int) := by omega
         have i7 : ¬ (48 : Int) ≤ (s[j].toNat : Int) := by omega
         clear i1 ht i3
         go_wp2_with fail
         go_roundg (s.size - (j + 1))
         case rel => exact ⟨j + 1, by omega, rfl, by go_num, HN.out, rfl⟩
         case measure => omega
        ·have i6 : ¬ (97 : Int) ≤ (s[j].toNat : Int) := by omega
         have i7 : (48 : Int) ≤ (s[j].toNat : Int) := by omega
         have i8 : (s[j].toNat : Int) ≤ 57 := by omega
         clear i1 ht i3
         go_wp2_with fail
         go_roundg (s.size - (j + 1))
         case rel => exact ⟨j + 1, by omega, rfl, by go_num, HN.out, rfl⟩
         case measure => omega
      ·have hx' : Fd.nmN j s[j].toNat = false := by
        cases hc : Fd.nmN j s[j].toNat
        ·rfl
        ·exact absurd (Fd.nmN_tail _ _ hc) hx
       have HB2 : Hid (b = false) := by have h1 := HB.out; rw [Fd.nameB_at j hlt hx'] at h1; exact Lib.hid h1.symm
       have ht : ¬ (97 ≤ s[j].toNat ∧ s[j].toNat ≤ 122 ∨ 48 ≤ s[j].toNat ∧ s[j].toNat ≤ 57 ∨ s[j].toNat = 45) := fun g => hx ((Fd.tailN_iff _).2 g)
       have i4 : ((s[j].toNat : Int) == 45) = false := by simp; omega
       clear hx hx'
       by_cases i1 : (97 : Int) ≤ (s[j].toNat : Int)
       ·have i2 : ¬ (s[j].toNat : Int) ≤ 122 := by omega
        have i3 : (48 : Int) ≤ (s[j].toNat : Int) := by omega
        have i5 : ¬ (s[j].toNat : Int) ≤ 57 := by omega
        clear ht
        go_wp2_with fail
        go_ret
        exact ⟨ret_bool HB2.out.symm, rfl⟩
       ·by_cases i3 : (48 : Int) ≤ (s[j].toNat : Int)
        ·have i5 : ¬ (s[j].toNat : Int) ≤ 57 := by omega
         clear ht
         go_wp2_with fail
         go_ret
         exact ⟨ret_bool HB2.out.symm, rfl⟩
        ·clear ht
         go_wp2_with fail
         go_ret
         exact ⟨ret_bool HB2.out.symm, rfl⟩
     ·obtain rfl : j = s.size := by omega
      have HB2 : Hid (b = true) := by have h1 := HB.out; rw [Fd.nameB_yes HZ.out (fun i hi => HALL.out i hi hi)] at h1; exact Lib.hid h1.symm
      go_wp2_with fail
      go_ret
      exact ⟨ret_bool HB2.out.symm, rfl⟩
   ·have HB2 : Hid (b = false) := by have h1 := HB.out; rw [Fd.nameB_at 0 z2 (by rw [Fd.nmN_zero]; simpa using hl)] at h1; exact Lib.hid h1.symm
    rw [Fd.letN_iff] at hl
    by_cases i1 : ((s[0]'z2).toNat : Int) < 97
    ·clear hl
     go_enter Tryd.func84, Tryd.ntmps84
     go_wp2_with fail
     go_ret
     exact ⟨ret_bool (by first | exact HB2.out.symm | (rw [HB2.out]; simp)), rfl⟩
    ·have i2 : (122 : Int) < ((s[0]'z2).toNat : Int) := by omega
     clear hl
     go_enter Tryd.func84, Tryd.ntmps84
     go_wp2_with fail
     go_ret
     exact ⟨ret_bool (by first | exact HB2.out.symm | (rw [HB2.out]; simp)), rfl⟩
theorem outsideS_is (n lo hi : Int) (w : World) : Calls Tryd.prog 67 #[.int .i64 n, .int .i64 lo, .int .i64 hi] w fun e w' => e = .returned (.bool (!St.inB n lo hi)) ∧ w = w' := by
 by_cases h : lo ≤ n ∧ n ≤ hi
 ·rw [show St.inB n lo hi = true from decide_eq_true h]
  obtain ⟨h1, h2⟩ := h
  go_enter Tryd.func67, Tryd.ntmps67
  go_wp2
  go_ret
  exact ⟨ret_bool (by simp <;> omega), rfl⟩
 ·rw [show St.inB n lo hi = false from decide_eq_false h]
  by_cases c : n < lo
  ·clear h
   go_enter Tryd.func67, Tryd.ntmps67
   go_wp2
   go_ret
   exact ⟨ret_bool (by simp <;> omega), rfl⟩
  ·have d : hi < n := by omega
   clear h
   go_enter Tryd.func67, Tryd.ntmps67
   go_wp2
   go_ret
   exact ⟨ret_bool (by simp <;> omega), rfl⟩
theorem isMomentS_is (n : Int) (w : World) : Calls Tryd.prog 16 #[.int .i64 n] w fun e w' => e = .returned (.bool (St.isMom n)) ∧ w = w' := by
 have h := Lib.hid (fun W => outsideS_is n 0 6311433599 W)
 rw [show St.isMom n = St.inB n 0 6311433599 from rfl]
 generalize St.inB n 0 6311433599 = b at *
 cases b
 ·go_enter Tryd.func16, Tryd.ntmps16
  go_wp2_with (go_at_call 67; (with_reducible refine (h.out _).mono ?_); rintro e w2 ⟨rfl, rfl⟩)
  go_ret
  exact ⟨rfl, rfl⟩
 ·go_enter Tryd.func16, Tryd.ntmps16
  go_wp2_with (go_at_call 67; (with_reducible refine (h.out _).mono ?_); rintro e w2 ⟨rfl, rfl⟩)
  go_ret
  exact ⟨rfl, rfl⟩
theorem isDayS_is (n : Int) (w : World) : Calls Tryd.prog 87 #[.int .i64 n] w fun e w' => e = .returned (.bool (St.inB n 0 73048)) ∧ w = w' := by
 have h := Lib.hid (fun W => outsideS_is n 0 73048 W)
 generalize St.inB n 0 73048 = b at *
 cases b
 ·go_enter Tryd.func87, Tryd.ntmps87
  go_wp2_with (go_at_call 67; (with_reducible refine (h.out _).mono ?_); rintro e w2 ⟨rfl, rfl⟩)
  go_ret
  exact ⟨rfl, rfl⟩
 ·go_enter Tryd.func87, Tryd.ntmps87
  go_wp2_with (go_at_call 67; (with_reducible refine (h.out _).mono ?_); rintro e w2 ⟨rfl, rfl⟩)
  go_ret
  exact ⟨rfl, rfl⟩
theorem inS_is (n lo hi : Int) (w : World) : Calls Tryd.prog 24 #[.int .i64 n, .int .i64 lo, .int .i64 hi] w fun e w' => e = .returned (.bool (St.inB n lo hi)) ∧ w = w' := in_is n lo hi _ rfl w
theorem momentS_is (n : Int) (w : World) : Calls Tryd.prog 32 #[.int .i64 n] w fun e w' => e = .returned (.bool (St.isMom n)) ∧ w = w' := moment_is n _ rfl w
theorem isDigestS_is (d : ByteArray) (hd : d.size ≤ 9223372036854775807) (w : World) : Calls Tryd.prog 96 #[.string d] w fun e w' => e = .returned (.bool (Fd.fileB d)) ∧ Below w.heap.size w w' := by
 by_cases h : d.size = 16
 ·have HT := Lib.hid (trimH_is d (by omega) hd w)
  have h16 : ((d.size : Int) == 16) = true := by rw [h]; rfl
  rw [Hx.fileB_all h]
  by_cases h1 : d.data.toList.all Hx.isH = true
  ·rw [(Hx.trim_nilH _).2 h1] at HT
   rw [h1]
   clear h1
   go_enter Tryd.func96, Tryd.ntmps96
   go_wp2_with (go_at_call 105; refine HT.out.mono ?_; rintro e w2 ⟨rfl, hB2⟩)
   go_ret
   exact ⟨rfl, hB2⟩
  ·have e1 := mkEmptyH_no (Lib.trimS d.data.toList Hx.hexD) (fun h => h1 ((Hx.trim_nilH _).1 h))
   rw [show d.data.toList.all Hx.isH = false by simpa using h1]
   generalize Tx.mk (Lib.trimS d.data.toList Hx.hexD) = t at *
   clear h1
   go_enter Tryd.func96, Tryd.ntmps96
   go_wp2_with (go_at_call 105; refine HT.out.mono ?_; rintro e w2 ⟨rfl, hB2⟩)
   go_ret
   exact ⟨rfl, hB2⟩
 ·have h16 : ((d.size : Int) == 16) = false := by rw [beq_eq_false_iff_ne]; omega
  have h16' : ¬ ((d.size : Int) = 16) := by omega
  rw [Fd.fileB_size h]
  go_enter Tryd.func96, Tryd.ntmps96
  go_wp2_with fail
  go_ret
  exact ⟨rfl, Below.refl _ _⟩
end Go.Proofs.YthdiccdnggloiaaDoor
namespace Go.Proofs.YthdiccdnggloiaaDoor
open Go.RowKit
namespace St
def goodAt (s : Sto) (d t : ByteArray) : Bool := match s.copies.find? (fun c => eq c.dig d && eq c.tier t) with | some c => c.good | none => false
def goodL (s : Sto) (d : ByteArray) : List Tir := s.tiers.filter fun t => goodAt s d t.name
def awayN (L : List Tir) : Nat := L.countP fun t => t.away
def short (s : Sto) (d : ByteArray) : Bool := decide (((goodL s d).length : Int) < s.least) || (awayN (goodL s d) == 0 && decide (0 < awayN s.tiers))
end St
end Go.Proofs.YthdiccdnggloiaaDoor
