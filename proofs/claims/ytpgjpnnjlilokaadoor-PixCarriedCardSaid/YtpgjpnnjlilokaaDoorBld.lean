/- A strings.Builder by its bytes: WriteString, WriteByte, String. -/
import Derived.Test.YtpgjpnnjlilokaaDoorBldLays
import Derived.Shelf.Strings.BuilderK
import Derived.Test.YtpgjpnnjlilokaaDoorTxMath
import Derived.Test.YtpgjpnnjlilokaaDoorKit
namespace Go.Proofs.YtpgjpnnjlilokaaDoor
open Go.RowKit Go.Sort Go.Shelf
set_option linter.unusedVariables false
theorem Lay.extStr : Builder.Extra Tryd.prog Lay.wrStrS_ren := {
  sizeBuilder := by kernel_rfl
  liesBuilder := by kernel_rfl
  t5 := Tryd.underlying5
  a5 := Tryd.isAgg5
  z5 := Tryd.sizeOf5
  v5 := Tryd.zeroValue5
  infoByte := by kernel_rfl
  cellsByte := by kernel_rfl
  sizeByte := by kernel_rfl
  neB5 := by decide }
theorem Lay.extByte : Builder.Extra Tryd.prog Lay.wrByteS_ren := {
  sizeBuilder := by kernel_rfl
  liesBuilder := by kernel_rfl
  t5 := Tryd.underlying5
  a5 := Tryd.isAgg5
  z5 := Tryd.sizeOf5
  v5 := Tryd.zeroValue5
  infoByte := by kernel_rfl
  cellsByte := by kernel_rfl
  sizeByte := by kernel_rfl
  neB5 := by decide }
theorem Lay.extGet : Builder.Extra Tryd.prog Lay.bStrS_ren := {
  sizeBuilder := by kernel_rfl
  liesBuilder := by kernel_rfl
  t5 := Tryd.underlying5
  a5 := Tryd.isAgg5
  z5 := Tryd.sizeOf5
  v5 := Tryd.zeroValue5
  infoByte := by kernel_rfl
  cellsByte := by kernel_rfl
  sizeByte := by kernel_rfl
  neB5 := by decide }
/-- The block b is a builder that holds these bytes; its row lies behind b. -/
def Bld (w : World) (b : Nat) (l : List UInt8) : Prop := Lib.IsBuilderF 38 5 b b (Lib.byteCells l) w
theorem builderAtF_below {T e : TypeId} {B b : Nat} {p : Value} {bs : List Value} {W W' : World} (h : Lib.BuilderAtF T e B b p bs W) (hb : Below W.heap.size W W') : Lib.BuilderAtF T e B b p bs W' := by
  have hlt := h.lt
  obtain ⟨hB, v, hv, hown, hne⟩ := h
  exact ⟨hB, v, (hb.block b hlt).trans hv, hown.kept (row := none) ⟨hb.os, hb.tape, hb.output, hb.size, fun k hk _ => hb.block k hk⟩ (Classical.em _), hne⟩
theorem Bld.keep {W W' : World} {b : Nat} {l : List UInt8} (h : Bld W b l) (hb : Below W.heap.size W W') : Bld W' b l :=
  Or.elim h (fun x => .inl (builderAtF_below x hb)) (fun x => .inr (builderAtF_below x hb))
theorem Bld.lt {W : World} {b : Nat} {l : List UInt8} (h : Bld W b l) : b < W.heap.size := Or.elim h (fun x => x.lt) (fun x => x.lt)
theorem Bld.new (w : World) : Bld (w.alloc (.cells #[.pointer none, .slice none 0 0] 38)) w.heap.size [] :=
  .inl ⟨Nat.le_refl _, .slice none 0 0, Blk.new _ _ _, World.ownsRowF_nil _ _ _ _, by simp [Value.ownBlock]⟩
/-- What is no row of bytes and not the builder's block is kept. -/
theorem Blk.others {w w' : World} {b pb : Nat} {c : Array Value} {t : TypeId} (h : Blk w pb c t) (hk : Lib.OthersKept 5 (some b) w w') (hb : pb ≠ b) (ht : t ≠ 5) : Blk w' pb c t :=
  hk pb _ h (by simpa using hb) (fun c' fz e => ht (by injection e))
theorem writeString_is (b : Nat) (l : List UInt8) (s : List UInt8) (w : World) (h : Bld w b l) (hlen : l.length + s.length ≤ 140737488355328) :
    Calls Tryd.prog 15 #[.pointer (some ⟨b, 0, none⟩), .string (Tx.mk s)] w fun e w' => e = .returned (.tuple #[.int .i64 (Tx.mk s).size, .nilIface]) ∧ Bld w' b (l ++ s) ∧ Below b w w' ∧ Lib.OthersKept 5 (some b) w w' := by
  refine (Any.Builder_WriteString_k Lay.wrStrS Lay.extStr b b (Lib.byteCells l) (Tx.mk s) w h (by rw [Lib.byteCells_length, Tx.mk_size]; exact hlen) (Nat.le_of_lt h.lt)).mono ?_
  rintro e w' ⟨he, h1, h2, h3⟩
  refine ⟨he, .inr ?_, h2, h3⟩
  rw [Lib.byteCells_append]
  have e2 : Lib.strCells (Tx.mk s) = Lib.byteCells s := by rw [Lib.strCells_eq]
  rw [← e2]
  exact h1
theorem writeByte_is (b : Nat) (l : List UInt8) (c : UInt8) (w : World) (h : Bld w b l) (hlen : l.length + 1 ≤ 140737488355328) :
    Calls Tryd.prog 18 #[.pointer (some ⟨b, 0, none⟩), .int .u8 (c.toNat : Int)] w fun e w' => e = .returned .nilIface ∧ Bld w' b (l ++ [c]) ∧ Below b w w' ∧ Lib.OthersKept 5 (some b) w w' := by
  refine (Any.Builder_WriteByte_k Lay.wrByteS Lay.extByte b b (Lib.byteCells l) (c.toNat : Int) w h (by rw [Lib.byteCells_length]; exact hlen) (Nat.le_of_lt h.lt)).mono ?_
  rintro e w' ⟨he, h1, h2, h3⟩
  refine ⟨he, .inr ?_, h2, h3⟩
  rw [Lib.byteCells_append]
  exact h1
theorem bldString_is (b : Nat) (l : List UInt8) (w : World) (h : Bld w b l) :
    Calls Tryd.prog 19 #[.pointer (some ⟨b, 0, none⟩)] w fun e w' => e = .returned (.string (Tx.mk l)) ∧ Below b w w' :=
  (Any.Builder_String_any_f Lay.bStrS Lay.extGet b b l w h (Nat.le_of_lt h.lt)).mono fun e w' hh => ⟨hh.1, hh.2.2⟩
end Go.Proofs.YtpgjpnnjlilokaaDoor
