/- size; slices.ContainsFunc with closures that only read. -/
import Derived.Test.YthldlffkgafgaaaDoorKit
import Derived.Test.YthldlffkgafgaaaDoorEventsMath
import Derived.Test.YthldlffkgafgaaaDoorEvents0
import Derived.Shelf.Abstract
namespace Go.Proofs.YthldlffkgafgaaaDoor
open Go.RowKit Go.Sort Go.Shelf
set_option linter.unusedVariables false
set_option maxHeartbeats 1000000 in
theorem indexFunc_any (g : Nat) (lb : Array Value) (p : Int → Bool) (eg : ∀ args w, (callFunc g args).run Tryd.prog w = .ok (.enter g args) w) (a : Option Addr) (len cap : Nat) (z : Nat → Int) (w : World) (hm : len ≤ 9223372036854775807) (hr : Row w a len (fun i => .int .i64 (z i)))
    (hc : ∀ i, i < len → Calls Tryd.prog g (#[.int .i64 (z i)] ++ lb) w fun e w' => e = .returned (.bool (p (z i))) ∧ w = w') :
    Calls Tryd.prog 77 #[.slice a len cap, .func (.func g) #[] lb] w fun e w' => (∃ r : Int, e = .returned (.int .i64 r) ∧ ((Ev.anyB p z len = true ∧ 0 ≤ r) ∨ (Ev.anyB p z len = false ∧ r = -1))) ∧ w = w' := by
  go_enter Tryd.func77, Tryd.ntmps77
  go_wp2_with fail
  go_loop [8] (fun i => ∃ k : Nat, k ≤ len ∧ i = .int .i64 k ∧ ∀ j, j < k → p (z j) = false) (fun i => (len - (intOf i).toNat))
  case atStart => exact ⟨0, by omega, rfl, fun j hj => by omega⟩
  case round =>
    obtain ⟨k, hk, rfl, hno⟩ := hrel
    have HNO := Lib.hid hno; clear hno
    have HC := Lib.hid hc; clear hc
    by_cases hlt : k < len
    · obtain ⟨b, off, rfl, hb, hcell⟩ := hr (by omega)
      have hcx := hcell k hlt
      clear hcell
      cases hp : p (z k)
      · have HP := Lib.hid hp; clear hp
        go_wp2_with (go_at_fn g; refine (HC.out k hlt).mono ?_; rintro e w' ⟨rfl, rfl⟩; rw [HP.out])
        go_round
        case rel => exact ⟨k + 1, by omega, by go_num, fun j hj => by (by_cases e : j = k); exact e ▸ HP.out; exact HNO.out j (by omega)⟩
        case measure => simp [intOf]; omega
      · have HP := Lib.hid hp; clear hp
        go_wp2_with (go_at_fn g; refine (HC.out k hlt).mono ?_; rintro e w' ⟨rfl, rfl⟩; rw [HP.out])
        go_ret
        exact ⟨⟨k, rfl, .inl ⟨Ev.anyB_yes k hlt HP.out, by omega⟩⟩, rfl⟩
    · obtain rfl : k = len := by omega
      go_wp2_with fail
      go_ret
      exact ⟨⟨-1, rfl, .inr ⟨Ev.anyB_no HNO.out, rfl⟩⟩, rfl⟩
set_option maxHeartbeats 1000000 in
theorem containsFunc_any (g : Nat) (lb : Array Value) (p : Int → Bool) (eg : ∀ args w, (callFunc g args).run Tryd.prog w = .ok (.enter g args) w) (a : Option Addr) (len cap : Nat) (z : Nat → Int) (w : World) (hm : len ≤ 9223372036854775807) (hr : Row w a len (fun i => .int .i64 (z i)))
    (hc : ∀ i, i < len → Calls Tryd.prog g (#[.int .i64 (z i)] ++ lb) w fun e w' => e = .returned (.bool (p (z i))) ∧ w = w') :
    Calls Tryd.prog 52 #[.slice a len cap, .func (.func g) #[] lb] w fun e w' => e = .returned (.bool (Ev.anyB p z len)) ∧ w = w' := by
  have HI := Lib.hid (indexFunc_any g lb p eg a len cap z w hm hr hc)
  clear hc eg hr
  go_enter Tryd.func52, Tryd.ntmps52
  go_wp2_with (go_at_call 77; refine HI.out.mono ?_; rintro e w' ⟨⟨r, rfl, hr⟩, rfl⟩; have HR := Lib.hid hr; clear hr)
  go_ret
  refine ⟨ret_bool ?_, rfl⟩
  rcases HR.out with ⟨h, h0⟩ | ⟨h, rfl⟩
  · rw [h]; simpa using h0
  · rw [h]; rfl
end Go.Proofs.YthldlffkgafgaaaDoor
