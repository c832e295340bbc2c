/- digits: the program's reading of digits, at most 18 of them. -/
import Derived.Test.YthldlffkgafgaaaDoorDigFix
import Derived.Test.YthldlffkgafgaaaDoorDigLays
import Derived.Lib.ConvBytes
import Derived.Lib.AtoiErrMem
import Derived.Shelf.Abstract
namespace Go.Proofs.YthldlffkgafgaaaDoor
open Go.RowKit Go.Sort Go.Shelf
set_option linter.unusedVariables false
set_option maxRecDepth 10000 in
theorem trim_is (l : List UInt8) (h0 : l ≠ []) (hl : l.length ≤ 9223372036854775807) (w : World) :
    Calls Tryd.prog 96 #[.string (Tx.mk l), .string ⟨#[48, 49, 50, 51, 52, 53, 54, 55, 56, 57]⟩] w fun e w' => e = .returned (.string (Tx.mk (Lib.trimS l Dg.digits))) ∧ Below w.heap.size w w' := by
  have hp : 0 < l.length := by cases l with | nil => exact absurd rfl h0 | cons a r => simp
  refine (Any.strings_Trim_set Lay.trimS Tryd.zeroValue150 (by kernel_rfl) (Tx.mk l) (Tx.mk Dg.digits) w (by rw [Tx.mk_size]; decide) (by rw [Tx.mk_size]; exact hp) (by rw [Tx.mk_size]; exact hl) (by rw [Tx.mk_size]; decide) (fun j b hb => ?_)).mono ?_
  · rw [Tx.mk_toList] at hb
    have hm : b ∈ Dg.digits := List.mem_of_getElem? hb
    have hd : Dg.isD b = true := by rw [← Dg.mem_digits]; exact List.contains_iff_mem.2 hm
    have := of_decide_eq_true hd
    omega
  · rintro e w' ⟨he, q, rfl⟩
    exact ⟨he, below_drewN (((Below.refl _ _).alloc (Nat.le_refl _) _).alloc (by simp) _) q⟩
theorem atoi_is (l : List UInt8) (h0 : l ≠ []) (h : Dg.allD l = true) (hl : l.length ≤ 18) (w : World) :
    Calls Tryd.prog 97 #[.string (Tx.mk l)] w fun e w' => e = .returned (.tuple #[.int .i64 (Dg.val l : Int), .nilIface]) ∧ Below w.heap.size w w' := by
  refine (Any.strconv_Atoi Lay.atoiS (Tx.mk l) (Dg.val l) (by rw [Tx.mk_size]; exact hl) (by rw [Tx.mk_toList]; exact Dg.atoi_val h0 h) w).mono ?_
  rintro e w' ⟨he, t, rfl⟩
  exact ⟨he, Lib.bytesWorld_below _ _ _⟩
theorem mkEmpty_no (l : List UInt8) (h : l ≠ []) : (Tx.mk l).toList.isEmpty = false := by
  have e : (Tx.mk l).toList = l := by rw [ByteArray.toList_eq]
  rw [e]; cases l with | nil => exact absurd rfl h | cons a r => rfl
set_option maxRecDepth 100000 in
set_option maxHeartbeats 1000000 in
theorem digits_is (l : List UInt8) (hl : l.length ≤ 18) (w : World) :
    Calls Tryd.prog 81 #[.string (Tx.mk l)] w fun e w' => e = .returned (.tuple #[.int .i64 (if l ≠ [] ∧ Dg.allD l = true then (Dg.val l : Int) else 0), .bool (if l ≠ [] ∧ Dg.allD l = true then true else false)]) ∧ Below w.heap.size w w' := by
  by_cases h0 : l = []
  · subst h0
    rw [if_neg (by simp), if_neg (by simp)]
    go_enter Tryd.func81, Tryd.ntmps81
    go_wp2_with fail
    go_ret2
    exact ⟨rfl, Below.refl _ _⟩
  · have HT := Lib.hid (trim_is l h0 (by omega) w)
    have e0 := mkEmpty_no l h0
    have e0' : l.isEmpty = false := by cases l with | nil => exact absurd rfl h0 | cons a r => rfl
    by_cases h1 : Dg.allD l = true
    · rw [if_pos ⟨h0, h1⟩, if_pos ⟨h0, h1⟩]
      have HA := Lib.hid (fun W => atoi_is l h0 h1 hl W)
      rw [(Dg.trim_nil l).2 h1] at HT
      clear h1
      generalize Dg.val l = v at *
      go_enter Tryd.func81, Tryd.ntmps81
      go_wp2_with (first | (go_at_call 96; refine HT.out.mono ?_; rintro e w1 ⟨rfl, hB⟩) | (go_at_call 97; refine (HA.out _).mono ?_; rintro e w2 ⟨rfl, hB2⟩))
      go_quiet (fail)
      go_wp2_with fail
      go_ret2
      exact ⟨rfl, below_drewN (below_up hB hB2) _⟩
    · rw [if_neg (fun h => h1 h.2), if_neg (fun h => h1 h.2)]
      have e1 := mkEmpty_no (Lib.trimS l Dg.digits) (fun h => h1 ((Dg.trim_nil l).1 h))
      generalize Tx.mk (Lib.trimS l Dg.digits) = t at *
      clear h1
      go_enter Tryd.func81, Tryd.ntmps81
      go_wp2_with (go_at_call 96; refine HT.out.mono ?_; rintro e w1 ⟨rfl, hB⟩)
      go_ret2
      exact ⟨rfl, hB⟩
end Go.Proofs.YthldlffkgafgaaaDoor
