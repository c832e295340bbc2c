/- OnesCount64, Distance and the reference's Differ: how many bits of two numbers differ. -/
import Derived.Test.YtbbedepojogfmaaPixAwake
import Derived.Test.YtbbedepojogfmaaPopMath
import Derived.IntWalk
namespace Go.Proofs.Ytbbedepojogfmaa
open Go.RowKit Go.Sort
set_option linter.unusedVariables false
namespace Pop
def i1 (x : Int) : Int := IntKind.u64.wrap (bits .and .u64 (x / 2) 6148914691236517205 + bits .and .u64 x 6148914691236517205)
def i2 (x : Int) : Int := IntKind.u64.wrap (bits .and .u64 (x / 4) 3689348814741910323 + bits .and .u64 x 3689348814741910323)
def i3 (x : Int) : Int := bits .and .u64 (IntKind.u64.wrap (x / 16 + x)) 1085102592571150095
def i4 (x m : Int) : Int := IntKind.u64.wrap (x + x / m)
def i7 (x : Int) : Int := bits .and .i64 (wrap64 x) 127
def swar (x : Int) : Int := i7 (i4 (i4 (i4 (i3 (i2 (i1 x))) 256) 65536) 4294967296)
theorem wrap_u64_nat {n : Nat} (h : n < 18446744073709551616) : IntKind.u64.wrap (n : Int) = n := by
  rw [IntKind.wrap_u64]; omega
theorem rep85 : rep 85 8 = 6148914691236517205 := by decide
theorem rep51 : rep 51 8 = 3689348814741910323 := by decide
theorem rep15 : rep 15 8 = 1085102592571150095 := by decide
theorem rep1 : rep 1 8 = 72340172838076673 := by decide
theorem and_cast (a m : Nat) (M : Int) (hM : M = (m : Int)) (ha : a < 18446744073709551616) (hm : m < 18446744073709551616) : bits .and .u64 (a : Int) M = ((a &&& m : Nat) : Int) := by
  rw [hM]; exact bits_and_u64_nat a m ha hm
theorem and127 (n : Nat) (h : n < 9223372036854775808) : bits .and .i64 (n : Int) 127 = ((n % 128 : Nat) : Int) := by
  have h1 : (BitVec.ofInt 64 (n : Int)).toNat = n := by
    rw [BitVec.ofInt_natCast, BitVec.toNat_ofNat]; exact Nat.mod_eq_of_lt (by omega)
  have h2 : (BitVec.ofInt 64 (127 : Int)).toNat = 127 := by decide
  have h3 : n &&& 127 = n % 128 := Nat.and_two_pow_sub_one_eq_mod n 7
  show IntKind.i64.wrap ((BitVec.ofInt 64 (n : Int) &&& BitVec.ofInt 64 (127 : Int)).toNat : Int) = _
  rw [BitVec.toNat_and, h1, h2, h3, IntKind.wrap_i64]
  omega
theorem i4_nat (a m : Nat) (M : Int) (hM : M = (m : Int)) (h : a + a / m < 18446744073709551616) : i4 (a : Int) M = ((a + a / m : Nat) : Int) := by
  unfold i4
  rw [hM, ← Int.natCast_ediv, ← Int.natCast_add, wrap_u64_nat h]
theorem swar_pop (x : Nat) (hx : x < 18446744073709551616) : swar (x : Int) = (pop 64 x : Nat) := by
  have l1 := mapD_le (f := s1) (B := 255) (fun v hv => by have := s1_lt v hv; omega) 8 x
  have l2 := mapD_le (f := s2) (B := 68) (fun v hv => (s2_lt v hv).1) 8 x
  rw [rep1] at l1 l2
  have e1 : i1 (x : Int) = (mapD s1 8 x : Nat) := by
    unfold i1
    rw [show (x : Int) / 2 = ((x / 2 : Nat) : Int) by omega, and_cast (x / 2) (rep 85 8) _ (by rw [rep85]; rfl) (by omega) (by rw [rep85]; omega), and_cast x (rep 85 8) _ (by rw [rep85]; rfl) hx (by rw [rep85]; omega), ← Int.natCast_add, step1]
    exact wrap_u64_nat (by omega)
  have e2 : i2 (mapD s1 8 x : Nat) = (mapD s2 8 x : Nat) := by
    unfold i2
    rw [show ((mapD s1 8 x : Nat) : Int) / 4 = ((mapD s1 8 x / 4 : Nat) : Int) by omega, and_cast _ (rep 51 8) _ (by rw [rep51]; rfl) (by omega) (by rw [rep51]; omega), and_cast _ (rep 51 8) _ (by rw [rep51]; rfl) (by omega) (by rw [rep51]; omega), ← Int.natCast_add, step2]
    exact wrap_u64_nat (by omega)
  have e3 : i3 (mapD s2 8 x : Nat) = (mapD s3 8 x : Nat) := by
    unfold i3
    rw [show ((mapD s2 8 x : Nat) : Int) / 16 + ((mapD s2 8 x : Nat) : Int) = ((mapD s2 8 x / 16 + mapD s2 8 x : Nat) : Int) by omega, wrap_u64_nat (by omega), and_cast _ (rep 15 8) _ (by rw [rep15]; rfl) (by omega) (by rw [rep15]; omega), step3]
  obtain ⟨hs, ha, hb, hc, hd⟩ := mapD_sum x _ _ _ _ rfl rfl rfl rfl
  unfold swar
  rw [e1, e2, e3, i4_nat _ 256 256 rfl hb, i4_nat _ 65536 65536 rfl hc, i4_nat _ 4294967296 4294967296 rfl (by omega)]
  unfold i7
  rw [IntWalk.wrap64_in _ ⟨by omega, by omega⟩, and127 _ hd, hs]
end Pop
set_option maxHeartbeats 400000 in
theorem ones_is (x : Nat) (hx : x < 18446744073709551616) (w : World) : Calls Try.prog 75 #[.int .u64 x] w fun e w' => e = .returned (.int .i64 (Pop.pop 64 x : Nat)) ∧ w = w' := by
  have HS := Lib.hid (Pop.swar_pop x hx)
  clear hx
  generalize Pop.pop 64 x = p at *
  generalize (x : Int) = y at *
  go_enter Try.func75, Try.ntmps75
  go_wp2
  go_ret
  exact ⟨ret_int (HS.out), rfl⟩
end Go.Proofs.Ytbbedepojogfmaa
