/- slices.ContainsFunc over stretches, at a closure that lays memory of its own; WhenParts' closure. -/
import Derived.Test.YthldlffkgafgaaaDoorKit
import Derived.Test.YthldlffkgafgaaaDoorRow2
import Derived.Test.YthldlffkgafgaaaDoorIdxFunc
import Derived.Shelf.Unicode.PredsPay
namespace Go.Proofs.YthldlffkgafgaaaDoor
open Go.RowKit Go.Sort Go.Shelf
set_option linter.unusedVariables false
set_option maxRecDepth 100000 in
set_option maxHeartbeats 1000000 in
theorem indexS_any (g : Nat) (lb : Array Value) (p : Int → Int → Bool) (eg : ∀ args w, (callFunc g args).run Tryd.prog w = .ok (.enter g args) w) (a : Option Addr) (len cap : Nat) (S T : Nat → Int) (w : World) (hm : len ≤ 9223372036854775807) (hr : Row2 w a len (fun i => .int .i64 (S i)) (fun i => .int .i64 (T i)))
    (hc : ∀ i W, i < len → Below w.heap.size w W → Calls Tryd.prog g (#[.agg #[.int .i64 (S i), .int .i64 (T i)]] ++ lb) W fun e w' => e = .returned (.bool (p (S i) (T i))) ∧ Below W.heap.size W w') (i0 : Nat) (h0 : i0 < len) (hp0 : p (S i0) (T i0) = true) :
    Calls Tryd.prog 57 #[.slice a len cap, .func (.func g) #[] lb] w fun e w' => (∃ r : Int, e = .returned (.int .i64 r) ∧ 0 ≤ r) ∧ Below w.heap.size w w' := by
  have HC := Lib.hid hc; have HR := Lib.hid hr; have HP := Lib.hid hp0
  clear hc hr hp0
  go_enter Tryd.func57, Tryd.ntmps57
  go_wp2_with fail
  go_loopg [8] len (fun gk i wr => ∃ k : Nat, k ≤ i0 ∧ gk = len - k ∧ i = .int .i64 k ∧ Below w.heap.size w wr)
  case atStart => exact ⟨0, by omega, rfl, rfl, Below.refl _ _⟩
  case round =>
    obtain ⟨k, hk, rfl, rfl, hB⟩ := hrel
    obtain ⟨b, off, rfl, hb, hcell⟩ := (HR.out.keep hB) (by omega)
    obtain ⟨e0, e1⟩ := hcell k (by omega)
    have d0 : wr.cell? ⟨b, off + k * 2, none⟩ = some (.int .i64 (S k)) := e0
    have d1 : wr.cell? ⟨b, off + k * 2 + 1, none⟩ = some (.int .i64 (T k)) := e1
    have HCk := HC.out k wr (by omega) hB
    have hlt : k < len := by omega
    clear hcell e0 e1
    cases hp : p (S k) (T k)
    · have hne : k ≠ i0 := fun e => by rw [e, HP.out] at hp; exact absurd hp (by simp)
      rw [hp] at HCk
      clear hp
      obtain ⟨x, hx⟩ : ∃ x, S k = x := ⟨_, rfl⟩
      obtain ⟨y, hy⟩ : ∃ y, T k = y := ⟨_, rfl⟩
      rw [hx] at d0 HCk
      rw [hy] at d1 HCk
      clear hx hy
      have HCk := Lib.hid HCk
      go_wp2_with (go_at_fn g; refine HCk.out.mono ?_; rintro e w' ⟨rfl, hB2⟩)
      go_roundg (len - (k + 1))
      case rel => exact ⟨k + 1, by omega, rfl, by go_num, below_up hB hB2⟩
      case measure => omega
    · rw [hp] at HCk
      clear hp
      obtain ⟨x, hx⟩ : ∃ x, S k = x := ⟨_, rfl⟩
      obtain ⟨y, hy⟩ : ∃ y, T k = y := ⟨_, rfl⟩
      rw [hx] at d0 HCk
      rw [hy] at d1 HCk
      clear hx hy
      have HCk := Lib.hid HCk
      go_wp2_with (go_at_fn g; refine HCk.out.mono ?_; rintro e w' ⟨rfl, hB2⟩)
      go_ret
      exact ⟨⟨k, rfl, by omega⟩, below_up hB hB2⟩
set_option maxRecDepth 100000 in
theorem containsS_any (g : Nat) (lb : Array Value) (p : Int → Int → Bool) (eg : ∀ args w, (callFunc g args).run Tryd.prog w = .ok (.enter g args) w) (a : Option Addr) (len cap : Nat) (S T : Nat → Int) (w : World) (hm : len ≤ 9223372036854775807) (hr : Row2 w a len (fun i => .int .i64 (S i)) (fun i => .int .i64 (T i)))
    (hc : ∀ i W, i < len → Below w.heap.size w W → Calls Tryd.prog g (#[.agg #[.int .i64 (S i), .int .i64 (T i)]] ++ lb) W fun e w' => e = .returned (.bool (p (S i) (T i))) ∧ Below W.heap.size W w') (i0 : Nat) (h0 : i0 < len) (hp0 : p (S i0) (T i0) = true) :
    Calls Tryd.prog 21 #[.slice a len cap, .func (.func g) #[] lb] w fun e w' => e = .returned (.bool true) ∧ Below w.heap.size w w' := by
  have HI := Lib.hid (indexS_any g lb p eg a len cap S T w hm hr hc i0 h0 hp0)
  clear hc eg hr hp0
  go_enter Tryd.func21, Tryd.ntmps21
  go_wp2_with (go_at_call 57; refine HI.out.mono ?_; rintro e w' ⟨⟨r, rfl, hr0⟩, hB⟩)
  go_ret
  exact ⟨ret_bool (by simp), hB⟩
set_option maxRecDepth 100000 in
theorem part1_is (x y m : Int) (pm : Addr) (w : World) (c : w.cell? pm = some (.int .i64 m)) :
    Calls Tryd.prog 22 #[.agg #[.int .i64 x, .int .i64 y], .pointer (some pm)] w fun e w' => e = .returned (.bool (decide (x ≤ m) && decide (m ≤ y))) ∧ Below w.heap.size w w' := by
  have c2 := fun o => cell_below ((Below.refl w.heap.size w).alloc (Nat.le_refl _) o) c
  have hB := (Below.refl w.heap.size w).alloc (Nat.le_refl _) (.cells #[.int .i64 x, .int .i64 y] 45)
  clear c
  by_cases h1 : x ≤ m
  · by_cases h2 : m ≤ y
    · rw [decide_eq_true h1, decide_eq_true h2]
      go_enter Tryd.func22, Tryd.ntmps22
      go_wp2_with fail
      go_ret
      exact ⟨rfl, hB⟩
    · rw [decide_eq_true h1, decide_eq_false h2]
      go_enter Tryd.func22, Tryd.ntmps22
      go_wp2_with fail
      go_ret
      exact ⟨rfl, hB⟩
  · rw [decide_eq_false h1]
    go_enter Tryd.func22, Tryd.ntmps22
    go_wp2_with fail
    go_ret
    exact ⟨rfl, hB⟩
theorem part1_eg : ∀ args w, (callFunc 22 args).run Tryd.prog w = .ok (.enter 22 args) w := enters_of Tryd.func22 (by kernel_rfl) rfl
end Go.Proofs.YthldlffkgafgaaaDoor
