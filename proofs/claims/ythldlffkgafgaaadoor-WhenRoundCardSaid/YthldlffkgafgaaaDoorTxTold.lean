/- The reference's numbers in digits: told, padded, clockTime. -/
import Derived.Test.YthldlffkgafgaaaDoorTxAwake
import Derived.Test.YthldlffkgafgaaaDoorTxTld
namespace Go.Proofs.YthldlffkgafgaaaDoor
open Go.RowKit Go.Sort Go.Shelf
set_option linter.unusedVariables false
theorem toldPad_is (n : Int) (h0 : 0 ≤ n) (h1 : n < 100) (w : World) :
    Calls Tryd.prog 41 #[.int .i64 n, .int .i64 2] w fun e w' => e = .returned (.string (Tx.P2 n)) ∧ Below w.heap.size w w' := by
  obtain ⟨i, rfl⟩ := Int.eq_ofNat_of_zero_le h0
  have HT := Lib.hid (told_is i (by omega) w)
  have hlen : (Tx.mk (Lib.decDigits i)).size = Tx.dl i := by rw [Tx.mk_size]; rfl
  unfold Tx.P2
  rw [Int.toNat_natCast]
  unfold Tx.pad
  by_cases c : i < 10
  · rw [Tx.dl_one c] at hlen ⊢
    have e : ByteArray.mk #[48] ++ Tx.mk (Lib.decDigits i) = Tx.mk (List.replicate (2 - 1) 48 ++ Lib.decDigits i) := by
      rw [show ByteArray.mk #[48] = Tx.mk [48] from rfl, Tx.mk_append]; rfl
    have e2 : (Tx.mk (List.replicate (2 - 1) 48 ++ Lib.decDigits i)).size = 2 := by rw [← e, ByteArray.size_append, hlen]; rfl
    have hcat : ∀ W, (Op.stringOp .add ⟨#[48]⟩ (Tx.mk (Lib.decDigits i))).run Tryd.prog W = .ok (.string (Tx.mk (List.replicate (2 - 1) 48 ++ Lib.decDigits i))) W := fun W => by
      rw [run_string_add_sum W _ _ (by rw [hlen]; show 1 + 1 ≤ _; omega), e]
    generalize Tx.mk (List.replicate (2 - 1) 48 ++ Lib.decDigits i) = s2 at *
    generalize Tx.mk (Lib.decDigits i) = s at *
    go_enter Tryd.func41, Tryd.ntmps41
    go_wp2_with (go_at_call 40; refine HT.out.mono ?_; rintro e w' ⟨rfl, hB⟩)
    go_loopg [5] 1 (fun gk v wr => ((gk = 1 ∧ v = .string s) ∨ (gk = 0 ∧ v = .string s2)) ∧ w' = wr)
    case atStart => exact ⟨.inl ⟨rfl, rfl⟩, rfl⟩
    case round =>
      obtain ⟨⟨rfl, rfl⟩ | ⟨rfl, rfl⟩, rfl⟩ := hrel
      · go_wp2_with fail
        go_roundg 0
        case rel => exact ⟨.inr ⟨rfl, rfl⟩, rfl⟩
        case measure => omega
      · go_wp2_with fail
        go_ret
        exact ⟨rfl, hB⟩
  · rw [Tx.dl_two (by omega) (by omega)] at hlen ⊢
    show Calls Tryd.prog 41 #[.int .i64 i, .int .i64 2] w fun e w' => e = .returned (.string (Tx.mk (Lib.decDigits i))) ∧ Below w.heap.size w w'
    generalize Tx.mk (Lib.decDigits i) = s at *
    go_enter Tryd.func41, Tryd.ntmps41
    go_wp2_with (go_at_call 40; refine HT.out.mono ?_; rintro e w' ⟨rfl, hB⟩)
    go_loopg [5] 0 (fun gk v wr => gk = 0 ∧ v = .string s ∧ w' = wr)
    case atStart => exact ⟨rfl, rfl, rfl⟩
    case round =>
      obtain ⟨rfl, rfl, rfl⟩ := hrel
      go_wp2_with fail
      go_ret
      exact ⟨rfl, hB⟩
end Go.Proofs.YthldlffkgafgaaaDoor
