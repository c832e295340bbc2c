/- The reference's told: a number in digits. -/
import Derived.Test.YtpgjpnnjlilokaaDoorTxMath
import Derived.Test.YtpgjpnnjlilokaaDoorKit
import Derived.Laws.IdiomStrings
namespace Go.Proofs.YtpgjpnnjlilokaaDoor
open Go.RowKit Go.Sort
set_option linter.unusedVariables false
namespace Tx
open Go.Lib
theorem dig1 {n : Nat} (h : n < 10) : decDigits n = [UInt8.ofNat (48 + n)] := by rw [decDigits, dif_pos h]
theorem digs {n : Nat} (h : 10 ≤ n) : decDigits n = decDigits (n / 10) ++ [UInt8.ofNat (48 + n % 10)] := by rw [decDigits, dif_neg (by omega)]
end Tx
set_option maxRecDepth 100000 in
set_option maxHeartbeats 1000000 in
theorem told_is (i : Nat) (h1 : i ≤ 9223372036854775807) (w : World) :
    Calls Tryd.prog 22 #[.int .i64 i] w fun e w' => e = .returned (.string (Tx.mk (Lib.decDigits i))) ∧ Below w.heap.size w w' := by
  have hdl := Tx.dl_le i h1
  go_enter Tryd.func22, Tryd.ntmps22
  go_wp2_with fail
  go_loopg [0, 3] i (fun gk a s wr => ∃ (k : Nat) (l : List UInt8), gk = k ∧ a = .int .i64 k ∧ s = .string (Tx.mk l) ∧ k ≤ i ∧ Lib.decDigits i = Lib.decDigits k ++ l ∧ Below w.heap.size w wr)
  case atStart => exact ⟨i, [], rfl, rfl, rfl, by omega, by simp, Below.refl _ _⟩
  case round =>
    obtain ⟨_, l, rfl, rfl, rfl, hki, hl, hB⟩ := hrel
    have hll : l.length ≤ 19 := by have := congrArg List.length hl; rw [List.length_append] at this; unfold Tx.dl at hdl; omega
    have hd : (UInt8.ofNat (48 + gk % 10)).toNat = 48 + gk % 10 := by simp only [UInt8.toNat_ofNat']; omega
    have hconv : (convert 22 9 (.slice (some ⟨wr.heap.size, 0, none⟩) 1 1)).run Tryd.prog (wr.alloc (.cells #[.int .u8 (48 + (gk : Int) % 10)] 5)) = .ok (.string (Tx.mk [UInt8.ofNat (48 + gk % 10)])) (wr.alloc (.cells #[.int .u8 (48 + (gk : Int) % 10)] 5)) :=
      run_convert_bytes_back _ 22 9 5 ⟨wr.heap.size, 0, none⟩ 1 [UInt8.ofNat (48 + gk % 10)] Tryd.underlying22 Tryd.underlying5 Tryd.underlying9 (fun j hj => by
        obtain rfl : j = 0 := by simpa using hj
        refine ((Blk.new wr #[.int .u8 (48 + (gk : Int) % 10)] 5).one).trans ?_
        simp only [List.getElem_cons_zero, hd]; rfl)
    have hcat : ∀ W, (Op.stringOp .add (Tx.mk [UInt8.ofNat (48 + gk % 10)]) (Tx.mk l)).run Tryd.prog W = .ok (.string (Tx.mk (UInt8.ofNat (48 + gk % 10) :: l))) W := fun W => by
      rw [run_string_add_sum W _ _ (by rw [Tx.mk_size, Tx.mk_size]; simp; omega), Tx.mk_append]; rfl
    have HL := Lib.hid hl
    have hB2 := hB.alloc hB.size (.cells #[.int .u8 (48 + (gk : Int) % 10)] 5)
    generalize Tx.mk [UInt8.ofNat (48 + gk % 10)] = D at *
    generalize hm : Tx.mk l = M at *
    generalize hm2 : Tx.mk (UInt8.ofNat (48 + gk % 10) :: l) = M2 at *
    have HM2 := Lib.hid hm2
    clear hm2 hl hd
    by_cases hk : gk < 10
    · have hk0 : (gk : Int) / 10 = 0 := by omega
      have HE : Hid (Lib.decDigits i = UInt8.ofNat (48 + gk % 10) :: l) := by
        show _ = _
        rw [HL.out, Tx.dig1 hk, Nat.mod_eq_of_lt hk]; rfl
      go_wp2_with fail
      go_ret
      exact ⟨by rw [HE.out, HM2.out]; rfl, hB2⟩
    · have HE : Hid (Lib.decDigits i = Lib.decDigits (gk / 10) ++ UInt8.ofNat (48 + gk % 10) :: l) := by
        show _ = _
        rw [HL.out, Tx.digs (by omega), List.append_assoc]; rfl
      go_wp2_with fail
      go_roundg (gk / 10)
      case rel => exact ⟨gk / 10, _, rfl, by go_num, by rw [← HM2.out], by omega, HE.out, hB2⟩
      case measure => omega
end Go.Proofs.YtpgjpnnjlilokaaDoor
