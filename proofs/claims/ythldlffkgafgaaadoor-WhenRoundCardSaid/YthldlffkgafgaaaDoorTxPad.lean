/- padded, dateText, localText, Stamp and Plain: the program's texts of dates and times. -/
import Derived.Test.YthldlffkgafgaaaDoorTxTab
import Derived.Test.YthldlffkgafgaaaDoorDaysDate
import Derived.BigRegion
namespace Go.Proofs.YthldlffkgafgaaaDoor
open Go.RowKit Go.Sort Go.Shelf
set_option linter.unusedVariables false
namespace Tx
/-- A number of two digits, a year. -/
def P2 (n : Int) : ByteArray := mk (pad n.toNat 2)
def Y4 (n : Int) : ByteArray := mk (pad n.toNat 4)
theorem P2_size {n : Int} (h0 : 0 ≤ n) (h : n < 100) : (P2 n).size = 2 := by
  unfold P2; rw [mk_size]; exact pad_len (by by_cases c : n.toNat < 10; rw [dl_one c]; omega; rw [dl_two (by omega) (by omega)]; omega)
theorem Y4_size {n : Int} (h0 : 1000 ≤ n) (h : n < 10000) : (Y4 n).size = 4 := by
  unfold Y4; rw [mk_size]; exact pad_len (by rw [dl_four (by omega) (by omega)]; omega)
end Tx
theorem repeat_zero (w : World) : Calls Tryd.prog 71 #[.string ⟨#[48]⟩, .int .i64 0] w fun e w' => e = .returned (.string ⟨#[]⟩) ∧ w' = w := Any.strings_Repeat_zero Lay.repeatS ⟨#[48]⟩ w
theorem repeat_one (w : World) : Calls Tryd.prog 71 #[.string ⟨#[48]⟩, .int .i64 1] w fun e w' => e = .returned (.string ⟨#[48]⟩) ∧ w' = w := Any.strings_Repeat_one Lay.repeatS ⟨#[48]⟩ w
theorem padded2_is (n : Int) (h0 : 0 ≤ n) (h1 : n < 100) (w : World) :
    Calls Tryd.prog 36 #[.int .i64 n, .int .i64 2] w fun e w' => e = .returned (.string (Tx.P2 n)) ∧ w' = w := by
  obtain ⟨i, rfl⟩ := Int.eq_ofNat_of_zero_le h0
  have HI := Lib.hid (itoa_small i (by omega) w)
  have hlen : (ByteArray.mk (Lib.decDigits i).toArray).size = Tx.dl i := by simp [ByteArray.size, Tx.dl]
  unfold Tx.P2
  rw [Int.toNat_natCast]
  unfold Tx.pad
  by_cases c : i < 10
  · have HR := Lib.hid (repeat_one w)
    rw [Tx.dl_one c] at hlen ⊢
    have e : ByteArray.mk #[48] ++ ByteArray.mk (Lib.decDigits i).toArray = Tx.mk (List.replicate (2 - 1) 48 ++ Lib.decDigits i) := by
      rw [show ByteArray.mk #[48] = Tx.mk [48] from rfl, Tx.mk_append]; rfl
    generalize ByteArray.mk (Lib.decDigits i).toArray = s at *
    have hs : s.size = 1 := hlen
    go_enter Tryd.func36, Tryd.ntmps36
    go_wp2_with (first | (go_at_call 70; refine HI.out.mono ?_; rintro e w' ⟨rfl, rfl⟩) | (go_at_call 71; refine HR.out.mono ?_; rintro e w' ⟨rfl, rfl⟩))
    go_ret
    exact ⟨rfl, rfl⟩
  · have HR := Lib.hid (repeat_zero w)
    rw [Tx.dl_two (by omega) (by omega)] at hlen ⊢
    have e : ByteArray.mk #[] ++ ByteArray.mk (Lib.decDigits i).toArray = Tx.mk (List.replicate (2 - 2) 48 ++ Lib.decDigits i) := by
      rw [show ByteArray.mk #[] = Tx.mk [] from rfl, Tx.mk_append]; rfl
    generalize ByteArray.mk (Lib.decDigits i).toArray = s at *
    have hs : s.size = 2 := hlen
    go_enter Tryd.func36, Tryd.ntmps36
    go_wp2_with (first | (go_at_call 70; refine HI.out.mono ?_; rintro e w' ⟨rfl, rfl⟩) | (go_at_call 71; refine HR.out.mono ?_; rintro e w' ⟨rfl, rfl⟩))
    go_ret
    exact ⟨rfl, rfl⟩
theorem padded4_is (n : Int) (h0 : 1000 ≤ n) (h1 : n < 10000) (w : World) (ht : Tx.Tab w) :
    Calls Tryd.prog 36 #[.int .i64 n, .int .i64 4] w fun e w' => e = .returned (.string (Tx.Y4 n)) ∧ Below w.heap.size w w' := by
  obtain ⟨i, rfl⟩ := Int.eq_ofNat_of_zero_le (show 0 ≤ n by omega)
  have HI := Lib.hid (itoa_any i (by omega) (by omega) w ht)
  rw [Lib.itoa_nonneg] at HI
  have hlen : (ByteArray.mk (Lib.decDigits i).toArray).size = Tx.dl i := by simp [ByteArray.size, Tx.dl]
  unfold Tx.Y4
  rw [Int.toNat_natCast]
  unfold Tx.pad
  have HR := Lib.hid (fun W => repeat_zero W)
  rw [Tx.dl_four (by omega) (by omega)] at hlen ⊢
  have e : ByteArray.mk #[] ++ ByteArray.mk (Lib.decDigits i).toArray = Tx.mk (List.replicate (4 - 4) 48 ++ Lib.decDigits i) := by
    rw [show ByteArray.mk #[] = Tx.mk [] from rfl, Tx.mk_append]; rfl
  generalize ByteArray.mk (Lib.decDigits i).toArray = s at *
  have hs : s.size = 4 := hlen
  go_enter Tryd.func36, Tryd.ntmps36
  go_wp2_with (first | (go_at_call 70; refine HI.out.mono ?_; rintro e w' ⟨rfl, k, os, rfl⟩) | (go_at_call 71; refine (HR.out _).mono ?_; rintro e w' ⟨rfl, rfl⟩))
  go_ret
  exact ⟨rfl, rfl, rfl, rfl, by simp [grow], fun j hj => by simp [grow, Array.getElem?_append, hj]⟩
end Go.Proofs.YthldlffkgafgaaaDoor
