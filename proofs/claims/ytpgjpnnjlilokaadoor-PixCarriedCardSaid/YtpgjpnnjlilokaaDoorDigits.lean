/- digits: the program's reading of digits, at most 18 of them. -/
import Derived.Test.YtpgjpnnjlilokaaDoorDigFix
import Derived.Test.YtpgjpnnjlilokaaDoorDigLays
import Derived.Lib.ConvBytes
import Derived.Lib.AtoiErrMem
import Derived.Shelf.Abstract
namespace Go.Proofs.YtpgjpnnjlilokaaDoor
open Go.RowKit Go.Sort Go.Shelf
set_option linter.unusedVariables false
set_option maxRecDepth 10000 in
theorem trim_is (l : List UInt8) (h0 : l ≠ []) (hl : l.length ≤ 9223372036854775807) (w : World) :
    Calls Tryd.prog 47 #[.string (Tx.mk l), .string ⟨#[48, 49, 50, 51, 52, 53, 54, 55, 56, 57]⟩] w fun e w' => e = .returned (.string (Tx.mk (Lib.trimS l Dg.digits))) ∧ Below w.heap.size w w' := by
  have hp : 0 < l.length := by cases l with | nil => exact absurd rfl h0 | cons a r => simp
  refine (Any.strings_Trim_set Lay.trimS Tryd.zeroValue95 (by kernel_rfl) (Tx.mk l) (Tx.mk Dg.digits) w (by rw [Tx.mk_size]; decide) (by rw [Tx.mk_size]; exact hp) (by rw [Tx.mk_size]; exact hl) (by rw [Tx.mk_size]; decide) (fun j b hb => ?_)).mono ?_
  · rw [Tx.mk_toList] at hb
    have hm : b ∈ Dg.digits := List.mem_of_getElem? hb
    have hd : Dg.isD b = true := by rw [← Dg.mem_digits]; exact List.contains_iff_mem.2 hm
    have := of_decide_eq_true hd
    omega
  · rintro e w' ⟨he, q, rfl⟩
    exact ⟨he, below_drewN (((Below.refl _ _).alloc (Nat.le_refl _) _).alloc (by simp) _) q⟩
theorem atoi_is (l : List UInt8) (h0 : l ≠ []) (h : Dg.allD l = true) (hl : l.length ≤ 18) (w : World) :
    Calls Tryd.prog 48 #[.string (Tx.mk l)] w fun e w' => e = .returned (.tuple #[.int .i64 (Dg.val l : Int), .nilIface]) ∧ Below w.heap.size w w' := by
  refine (Any.strconv_Atoi Lay.atoiS (Tx.mk l) (Dg.val l) (by rw [Tx.mk_size]; exact hl) (by rw [Tx.mk_toList]; exact Dg.atoi_val h0 h) w).mono ?_
  rintro e w' ⟨he, t, rfl⟩
  exact ⟨he, Lib.bytesWorld_below _ _ _⟩
theorem mkEmpty_no (l : List UInt8) (h : l ≠ []) : (Tx.mk l).toList.isEmpty = false := by
  have e : (Tx.mk l).toList = l := by rw [ByteArray.toList_eq]
  rw [e]; cases l with | nil => exact absurd rfl h | cons a r => rfl
end Go.Proofs.YtpgjpnnjlilokaaDoor
