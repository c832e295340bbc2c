/- Parts of the proof, no condition: BldLays, Bld. -/
import Derived.Shelf.Strings.Builder1
import Derived.Shelf.Strings.Builder2
import Derived.Shelf.Strings.BuilderF
import Derived.Test.YtmpjnbhdlfneaaaGreatDoorProg
import Derived.Shelf.Strings.BuilderK
import Derived.Test.YtmpjnbhdlfneaaaGreatDoorEe7
import Derived.Test.YtmpjnbhdlfneaaaGreatDoorEe1
set_option linter.unusedVariables false
namespace Go.Proofs.YtmpjnbhdlfneaaaGreatDoor
open Go.Shelf
def Lay.wrStrS_ren : Go.Shelf.Ren := ⟨fun | 166 => 12 | 169 => 15 | 170 => 14 | 240 => 26 | 276 => 63 | 277 => 122 | 165 => 67 | 241 => 90 | n => n, fun | 31 => 38 | 20 => 20 | 72 => 36 | 76 => 44 | 70 => 33 | 37 => 34 | 75 => 43 | 127 => 65 | 164 => 93 | 80 => 48 | n => n, fun | n => n⟩
theorem Lay.wrStrS : Go.Proofs.Lays.n166 Tryz.prog Lay.wrStrS_ren := {
 mixed := by kernel_rfl
 f166 := Tryz.func12.trans (congrArg some (by kernel_rfl))
 f240 := Tryz.func26.trans (congrArg some (by kernel_rfl))
 f276 := Tryz.func63.trans (congrArg some (by kernel_rfl))
 t0 := Tryz.underlying0
 a0 := Tryz.isAgg0
 z0 := Tryz.sizeOf0
 v0 := Tryz.zeroValue0
 t3 := Tryz.underlying3
 a3 := Tryz.isAgg3
 z3 := Tryz.sizeOf3
 v3 := Tryz.zeroValue3
 t4 := Tryz.underlying4
 a4 := Tryz.isAgg4
 z4 := Tryz.sizeOf4
 v4 := Tryz.zeroValue4
 t9 := Tryz.underlying9
 a9 := Tryz.isAgg9
 z9 := Tryz.sizeOf9
 v9 := Tryz.zeroValue9
 t20 := Tryz.underlying20
 a20 := Tryz.isAgg20
 z20 := Tryz.sizeOf20
 v20 := Tryz.zeroValue20
 t37 := Tryz.underlying34
 a37 := Tryz.isAgg34
 z37 := Tryz.sizeOf34
 v37 := Tryz.zeroValue34
 t70 := Tryz.underlying33
 a70 := Tryz.isAgg33
 z70 := Tryz.sizeOf33
 v70 := Tryz.zeroValue33
 t72 := Tryz.underlying36
 a72 := Tryz.isAgg36
 z72 := Tryz.sizeOf36
 v72 := Tryz.zeroValue36
 t75 := Tryz.underlying43
 a75 := Tryz.isAgg43
 z75 := Tryz.sizeOf43
 v75 := Tryz.zeroValue43
 t164 := Tryz.underlying93
 a164 := Tryz.isAgg93
 z164 := Tryz.sizeOf93
 v164 := Tryz.zeroValue93 }
def Lay.bStrS_ren : Go.Shelf.Ren := ⟨fun | 166 => 12 | 169 => 15 | 170 => 14 | 240 => 26 | 276 => 63 | 277 => 122 | 165 => 67 | 241 => 90 | n => n, fun | 31 => 38 | 20 => 20 | 72 => 36 | 76 => 44 | 70 => 33 | 37 => 34 | 75 => 43 | 127 => 65 | 164 => 93 | 80 => 48 | n => n, fun | n => n⟩
theorem Lay.bStrS : Go.Proofs.Lays.n169 Tryz.prog Lay.bStrS_ren := {
 mixed := by kernel_rfl
 f169 := Tryz.func15.trans (congrArg some (by kernel_rfl))
 t0 := Tryz.underlying0
 a0 := Tryz.isAgg0
 z0 := Tryz.sizeOf0
 v0 := Tryz.zeroValue0
 t3 := Tryz.underlying3
 a3 := Tryz.isAgg3
 z3 := Tryz.sizeOf3
 v3 := Tryz.zeroValue3
 t9 := Tryz.underlying9
 a9 := Tryz.isAgg9
 z9 := Tryz.sizeOf9
 v9 := Tryz.zeroValue9
 t37 := Tryz.underlying34
 a37 := Tryz.isAgg34
 z37 := Tryz.sizeOf34
 v37 := Tryz.zeroValue34
 t70 := Tryz.underlying33
 a70 := Tryz.isAgg33
 z70 := Tryz.sizeOf33
 v70 := Tryz.zeroValue33
 t72 := Tryz.underlying36
 a72 := Tryz.isAgg36
 z72 := Tryz.sizeOf36
 v72 := Tryz.zeroValue36
 t127 := Tryz.underlying65
 a127 := Tryz.isAgg65
 z127 := Tryz.sizeOf65
 v127 := Tryz.zeroValue65 }
def Lay.bLenS_ren : Go.Shelf.Ren := ⟨fun | 166 => 12 | 169 => 15 | 170 => 14 | 240 => 26 | 276 => 63 | 277 => 122 | 165 => 67 | 241 => 90 | n => n, fun | 31 => 38 | 20 => 20 | 72 => 36 | 76 => 44 | 70 => 33 | 37 => 34 | 75 => 43 | 127 => 65 | 164 => 93 | 80 => 48 | n => n, fun | n => n⟩
theorem Lay.bLenS : Go.Proofs.Lays.n170 Tryz.prog Lay.bLenS_ren := {
 mixed := by kernel_rfl
 f170 := Tryz.func14.trans (congrArg some (by kernel_rfl))
 t0 := Tryz.underlying0
 a0 := Tryz.isAgg0
 z0 := Tryz.sizeOf0
 v0 := Tryz.zeroValue0
 t3 := Tryz.underlying3
 a3 := Tryz.isAgg3
 z3 := Tryz.sizeOf3
 v3 := Tryz.zeroValue3
 t37 := Tryz.underlying34
 a37 := Tryz.isAgg34
 z37 := Tryz.sizeOf34
 v37 := Tryz.zeroValue34
 t70 := Tryz.underlying33
 a70 := Tryz.isAgg33
 z70 := Tryz.sizeOf33
 v70 := Tryz.zeroValue33
 t72 := Tryz.underlying36
 a72 := Tryz.isAgg36
 z72 := Tryz.sizeOf36
 v72 := Tryz.zeroValue36 }
end Go.Proofs.YtmpjnbhdlfneaaaGreatDoor
namespace Go.Proofs.YtmpjnbhdlfneaaaGreatDoor
open Go.RowKit Go.Sort Go.Shelf
theorem Lay.extStr : Builder.Extra Tryz.prog Lay.wrStrS_ren := {
 sizeBuilder := by kernel_rfl
 liesBuilder := by kernel_rfl
 t5 := Tryz.underlying5
 a5 := Tryz.isAgg5
 z5 := Tryz.sizeOf5
 v5 := Tryz.zeroValue5
 infoByte := by kernel_rfl
 cellsByte := by kernel_rfl
 sizeByte := by kernel_rfl
 neB5 := by decide }
theorem Lay.extGet : Builder.Extra Tryz.prog Lay.bStrS_ren := {
 sizeBuilder := by kernel_rfl
 liesBuilder := by kernel_rfl
 t5 := Tryz.underlying5
 a5 := Tryz.isAgg5
 z5 := Tryz.sizeOf5
 v5 := Tryz.zeroValue5
 infoByte := by kernel_rfl
 cellsByte := by kernel_rfl
 sizeByte := by kernel_rfl
 neB5 := by decide }
def Bld (w : World) (b : Nat) (l : List UInt8) : Prop := Lib.IsBuilderF 36 5 b b (Lib.byteCells l) w
theorem builderAtF_below {T e : TypeId} {B b : Nat} {p : Value} {bs : List Value} {W W' : World} (h : Lib.BuilderAtF T e B b p bs W) (hb : Below W.heap.size W W') : Lib.BuilderAtF T e B b p bs W' := by
 have hlt := h.lt
 obtain ⟨hB, v, hv, hown, hne⟩ := h
 exact ⟨hB, v, (hb.block b hlt).trans hv, hown.kept (row := none) ⟨hb.os, hb.tape, hb.output, hb.size, fun k hk _ => hb.block k hk⟩ (Classical.em _), hne⟩
theorem Bld.keep {W W' : World} {b : Nat} {l : List UInt8} (h : Bld W b l) (hb : Below W.heap.size W W') : Bld W' b l :=
 Or.elim h (fun x => .inl (builderAtF_below x hb)) (fun x => .inr (builderAtF_below x hb))
theorem Bld.lt {W : World} {b : Nat} {l : List UInt8} (h : Bld W b l) : b < W.heap.size := Or.elim h (fun x => x.lt) (fun x => x.lt)
theorem Bld.new (w : World) : Bld (w.alloc (.cells #[.pointer none, .slice none 0 0] 36)) w.heap.size [] :=
 .inl ⟨Nat.le_refl _, .slice none 0 0, Blk.new _ _ _, World.ownsRowF_nil _ _ _ _, by simp [Value.ownBlock]⟩
theorem writeString_is (b : Nat) (l : List UInt8) (s : List UInt8) (w : World) (h : Bld w b l) (hlen : l.length + s.length ≤ 140737488355328) :
  Calls Tryz.prog 12 #[.pointer (some ⟨b, 0, none⟩), .string (Tx.mk s)] w fun e w' => e = .returned (.tuple #[.int .i64 (Tx.mk s).size, .nilIface]) ∧ Bld w' b (l ++ s) ∧ Below b w w' ∧ Lib.OthersKept 5 (some b) w w' := by
 refine (Any.Builder_WriteString_k Lay.wrStrS Lay.extStr b b (Lib.byteCells l) (Tx.mk s) w h (by rw [Lib.byteCells_length, Tx.mk_size]; exact hlen) (Nat.le_of_lt h.lt)).mono ?_
 rintro e w' ⟨he, h1, h2, h3⟩
 refine ⟨he, .inr ?_, h2, h3⟩
 rw [Lib.byteCells_append]
 have e2 : Lib.strCells (Tx.mk s) = Lib.byteCells s := by rw [Lib.strCells_eq]
 rw [← e2]
 exact h1
theorem bldString_is (b : Nat) (l : List UInt8) (w : World) (h : Bld w b l) :
  Calls Tryz.prog 15 #[.pointer (some ⟨b, 0, none⟩)] w fun e w' => e = .returned (.string (Tx.mk l)) ∧ Below b w w' :=
 (Any.Builder_String_any_f Lay.bStrS Lay.extGet b b l w h (Nat.le_of_lt h.lt)).mono fun e w' hh => ⟨hh.1, hh.2.2⟩
theorem writeStringB_is (b : Nat) (l : List UInt8) (s : ByteArray) (w : World) (h : Bld w b l) (hlen : l.length + s.size ≤ 140737488355328) :
  Calls Tryz.prog 12 #[.pointer (some ⟨b, 0, none⟩), .string s] w fun e w' => e = .returned (.tuple #[.int .i64 s.size, .nilIface]) ∧ Bld w' b (l ++ s.data.toList) ∧ Below b w w' :=
 (writeString_is b l s.data.toList w h hlen).mono fun e w' hh => ⟨hh.1, hh.2.1, hh.2.2.1⟩
end Go.Proofs.YtmpjnbhdlfneaaaGreatDoor
