/- IsDigest, IsName (both), plain: contracts. -/
import Derived.Test.YthldlffkgafgaaaDoorFdStr
namespace Go.Proofs.YthldlffkgafgaaaDoor
open Go.RowKit Go.Sort Go.Shelf
set_option linter.unusedVariables false
set_option maxRecDepth 100000 in
theorem indexByteS (s : ByteArray) (c : Int) (w : World) : Calls Tryd.prog 165 #[.string s, .int .u8 c] w fun e w' => e = .returned (.int .i64 (Lib.indexByte s.data.toList c.toNat.toUInt8)) ∧ w = w' := by
  go_enter Tryd.func165, Tryd.ntmps165
  go_wp2
  rw [run_callFunc_extern Tryd.func150 (by kernel_rfl) (by kernel_rfl) (by kernel_rfl) (e := Extern.BytealgIndexByte.indexByte) (by kernel_rfl), Lib.run_indexByteString]
  simp only [Result.andThen]
  rw [Oper.upon_value]
  go_wp2
  go_ret
  exact ⟨rfl, rfl⟩
theorem hex_all : ∀ n, n < 256 → decide (Lib.indexByte [48, 49, 50, 51, 52, 53, 54, 55, 56, 57, 97, 98, 99, 100, 101, 102] n.toUInt8 < 0) = !Fd.hexN n := by decide +kernel
theorem hex_yes (c : UInt8) (h : Fd.hexN c.toNat = true) : ¬ Lib.indexByte [48, 49, 50, 51, 52, 53, 54, 55, 56, 57, 97, 98, 99, 100, 101, 102] ((c.toNat : Int)).toNat.toUInt8 < 0 := by
  have := hex_all c.toNat c.toNat_lt
  rw [h] at this
  rw [Int.toNat_natCast]
  exact of_decide_eq_false this
theorem hex_no (c : UInt8) (h : Fd.hexN c.toNat = false) : Lib.indexByte [48, 49, 50, 51, 52, 53, 54, 55, 56, 57, 97, 98, 99, 100, 101, 102] ((c.toNat : Int)).toNat.toUInt8 < 0 := by
  have := hex_all c.toNat c.toNat_lt
  rw [h] at this
  rw [Int.toNat_natCast]
  exact of_decide_eq_true this
theorem hexIdx (c : UInt8) (b : Bool) (h : Fd.hexN c.toNat = b) (W : World) : Calls Tryd.prog 165 #[.string ⟨#[48, 49, 50, 51, 52, 53, 54, 55, 56, 57, 97, 98, 99, 100, 101, 102]⟩, .int .u8 c.toNat] W fun e w' => ∃ r : Int, e = .returned (.int .i64 r) ∧ decide (r < 0) = !b ∧ W = w' := by
  refine (indexByteS _ _ W).mono fun e w' h' => ⟨_, h'.1, ?_, h'.2⟩
  have := hex_all c.toNat c.toNat_lt
  rw [h] at this
  rw [Int.toNat_natCast]
  exact this
end Go.Proofs.YthldlffkgafgaaaDoor
