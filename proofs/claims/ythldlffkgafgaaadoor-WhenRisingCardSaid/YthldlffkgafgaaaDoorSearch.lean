/- sort.Search: the least place at which a rising test holds; the test may make memory. -/
import Derived.Test.YthldlffkgafgaaaDoorEvents
namespace Go.Proofs.YthldlffkgafgaaaDoor
open Go.RowKit Go.Sort Go.Shelf
set_option linter.unusedVariables false
set_option maxHeartbeats 1000000 in
theorem search_any (g : Nat) (lb : Array Value) (p : Int → Bool) (eg : ∀ args w, (callFunc g args).run Tryd.prog w = .ok (.enter g args) w) (n N : Int) (w : World) (hn : n ≤ 1000000000000)
    (hN0 : 0 ≤ N) (hNn : N ≤ n) (hlo : ∀ i, 0 ≤ i → i < N → p i = false) (hhi : ∀ i, N ≤ i → i < n → p i = true)
    (hc : ∀ i W, 0 ≤ i → i < n → Below w.heap.size w W → Calls Tryd.prog g (#[.int .i64 i] ++ lb) W fun e w' => e = .returned (.bool (p i)) ∧ Below W.heap.size W w') :
    Calls Tryd.prog 45 #[.int .i64 n, .func (.func g) #[] lb] w fun e w' => e = .returned (.int .i64 N) ∧ Below w.heap.size w w' := by
  have HC := Lib.hid hc; have HLO := Lib.hid hlo; have HHI := Lib.hid hhi
  clear hc hlo hhi
  go_enter Tryd.func45, Tryd.ntmps45
  go_wp2_with fail
  go_loopg [5, 6] n.toNat (fun gk i j wr => ∃ x y : Int, 0 ≤ x ∧ x ≤ N ∧ N ≤ y ∧ y ≤ n ∧ gk = (y - x).toNat ∧ i = .int .i64 x ∧ j = .int .i64 y ∧ Below w.heap.size w wr)
  case atStart => exact ⟨0, n, by omega, by omega, by omega, by omega, by simp, rfl, rfl, Below.refl _ _⟩
  case round =>
    obtain ⟨x, y, hx0, hx, hy, hyn, rfl, rfl, rfl, hB⟩ := hrel
    by_cases hlt : x < y
    · have hmid : x ≤ (x + y) / 2 ∧ (x + y) / 2 < y := by omega
      obtain ⟨h, hh⟩ : ∃ h, (x + y) / 2 = h := ⟨_, rfl⟩
      have HH := Lib.hid hh
      rw [hh] at hmid
      clear hh
      by_cases hp : N ≤ h
      · have HP := Lib.hid (HHI.out h hp (by omega))
        go_wp2_with (go_at_fn g; rw [HH.out]; refine (HC.out h _ (by omega) (by omega) hB).mono ?_; rintro e w' ⟨rfl, hB2⟩; rw [HP.out])
        go_roundg (h - x).toNat
        case rel => exact ⟨x, h, by omega, by omega, by omega, by omega, rfl, rfl, by rw [← HH.out], below_up hB hB2⟩
        case measure => omega
      · have HP := Lib.hid (HLO.out h (by omega) (by omega))
        go_wp2_with (go_at_fn g; rw [HH.out]; refine (HC.out h _ (by omega) (by omega) hB).mono ?_; rintro e w' ⟨rfl, hB2⟩; rw [HP.out])
        go_roundg (y - (h + 1)).toNat
        case rel => exact ⟨h + 1, y, by omega, by omega, by omega, by omega, rfl, by rw [← HH.out], rfl, below_up hB hB2⟩
        case measure => omega
    · obtain rfl : x = y := by omega
      obtain rfl : x = N := by omega
      go_wp2_with fail
      go_ret
      exact ⟨rfl, hB⟩
end Go.Proofs.YthldlffkgafgaaaDoor
