/- awakeWhen: package when is there. -/
import Derived.Test.YthldlffkgafgaaaDoorTxStamp
import Derived.Test.YthldlffkgafgaaaDoorTxTld
namespace Go.Proofs.YthldlffkgafgaaaDoor
open Go.RowKit Go.Sort Go.Shelf
set_option linter.unusedVariables false
namespace Tx
open Go.Lib
theorem pad2_val {n : Nat} (h : n < 100) : pad n 2 = [UInt8.ofNat (48 + n / 10), UInt8.ofNat (48 + n % 10)] := by
  unfold pad
  by_cases c : n < 10
  · rw [dl_one c, dig1 c, Nat.div_eq_of_lt c, Nat.mod_eq_of_lt c]; rfl
  · rw [dl_two (by omega) h, digs (by omega), dig1 (by omega)]; rfl
theorem pad4_val {n : Nat} (h0 : 1000 ≤ n) (h : n < 10000) : pad n 4 = [UInt8.ofNat (48 + n / 1000), UInt8.ofNat (48 + n / 100 % 10), UInt8.ofNat (48 + n / 10 % 10), UInt8.ofNat (48 + n % 10)] := by
  unfold pad
  rw [dl_four h0 h, digs (by omega), digs (by omega), digs (by omega), dig1 (by omega), show n / 10 / 10 / 10 = n / 1000 by omega, show n / 10 / 10 = n / 100 by omega]; rfl
end Tx
theorem stamp_zero {s : ByteArray} (h : Tx.StampIs 0 0 s) : s = ⟨#[49, 57, 48, 48, 45, 48, 49, 45, 48, 49, 84, 48, 48, 58, 48, 48, 58, 48, 48, 43, 48, 48, 58, 48, 48]⟩ := by
  obtain ⟨y, m, d, hv, hn, rfl⟩ := h
  obtain ⟨rfl, rfl, rfl⟩ := Cal.num_inj _ _ _ _ _ _ hv (show Cal.vld 1900 1 1 = true by decide) (hn.trans (by decide))
  have e4 : Tx.Y4 1900 = ⟨#[49, 57, 48, 48]⟩ := by show Tx.mk (Tx.pad 1900 4) = _; rw [Tx.pad4_val (by omega) (by omega)]; rfl
  have e1 : Tx.P2 1 = ⟨#[48, 49]⟩ := by show Tx.mk (Tx.pad 1 2) = _; rw [Tx.pad2_val (by omega)]; rfl
  have e0 : Tx.P2 0 = ⟨#[48, 48]⟩ := by show Tx.mk (Tx.pad 0 2) = _; rw [Tx.pad2_val (by omega)]; rfl
  show Tx.Y4 1900 ++ ⟨#[45]⟩ ++ Tx.P2 1 ++ ⟨#[45]⟩ ++ Tx.P2 1 ++ ⟨#[84]⟩ ++ Tx.P2 0 ++ ⟨#[58]⟩ ++ Tx.P2 0 ++ ⟨#[58]⟩ ++ Tx.P2 0 ++ ⟨#[43]⟩ ++ Tx.P2 0 ++ ⟨#[58]⟩ ++ Tx.P2 0 = _
  rw [e4, e1, e0]
  decide
set_option maxHeartbeats 1000000 in
theorem awakeWhen_is (w : World) (ht : Tx.Tab w) : Calls Tryd.prog 14 #[] w fun e w' => e = .returned (.bool true) ∧ Below w.heap.size w w' := by
  have HS := Lib.hid (stamp_ok 0 0 (by unfold Tx.StOk; omega) w ht)
  clear ht
  go_enter Tryd.func14, Tryd.ntmps14
  go_wp2_with (go_at_call 10; refine HS.out.mono ?_; rintro e w2 ⟨s, hs, rfl, hB⟩; obtain rfl := stamp_zero hs)
  go_ret
  exact ⟨rfl, hB⟩
end Go.Proofs.YthldlffkgafgaaaDoor
