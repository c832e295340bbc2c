/- The contracts of the functions on events: isMoment, hits, nearer, and slices.ContainsFunc with closures that only read. -/
import Derived.Test.YtdhfhcpgjokhlaaKit
import Derived.Test.YtdhfhcpgjokhlaaEventsMath
import Derived.Test.YtdhfhcpgjokhlaaDaysWalks
import Derived.Shelf.Abstract
namespace Go.Proofs.Ytdhfhcpgjokhlaa
open Go.RowKit Go.Sort Go.Shelf
set_option linter.unusedVariables false
theorem below_allocs {a b : World} (h : Below a.heap.size a b) (o : Obj) : Below a.heap.size a (b.alloc o) := h.alloc h.size o
theorem isMoment_is (n : Int) (b : Bool) (h : Ev.mom n = b) (w : World) : Calls Try.prog 53 #[.int .i64 n] w fun e w' => e = .returned (.bool b) ∧ w = w' := by
  cases b
  · have h' := (Ev.mom_no n).1 h
    clear h
    go_enter Try.func53, Try.ntmps53
    go_wp2_with (go_at_call 42; refine (outside_yes _ _ _ _ h').mono ?_; rintro e w' ⟨rfl, rfl⟩)
    go_ret
    exact ⟨rfl, rfl⟩
  · have h' := (Ev.mom_iff n).1 h
    clear h
    go_enter Try.func53, Try.ntmps53
    go_wp2_with (go_at_call 42; refine (outside_no _ _ _ _ h'.1 h'.2).mono ?_; rintro e w' ⟨rfl, rfl⟩)
    go_ret
    exact ⟨rfl, rfl⟩
theorem moment_is (n : Int) (b : Bool) (h : Ev.mom n = b) (w : World) : Calls Try.prog 55 #[.int .i64 n] w fun e w' => e = .returned (.bool b) ∧ w = w' := by
  cases b
  · have h' := (Ev.mom_no n).1 h
    clear h
    by_cases c : 0 ≤ n
    · go_enter Try.func55, Try.ntmps55
      go_wp2_with fail
      go_ret
      exact ⟨ret_bool (by simp <;> omega), rfl⟩
    · go_enter Try.func55, Try.ntmps55
      go_wp2_with fail
      go_ret
      exact ⟨ret_bool (by simp <;> omega), rfl⟩
  · have h' := (Ev.mom_iff n).1 h
    clear h
    go_enter Try.func55, Try.ntmps55
    go_wp2_with fail
    go_ret
    exact ⟨ret_bool (by simp <;> omega), rfl⟩
theorem size_any (n : Int) (w : World) (h1 : -9223372036854775807 ≤ n) (h2 : n ≤ 9223372036854775807) : Calls Try.prog 56 #[.int .i64 n] w fun e w' => e = .returned (.int .i64 (Ev.abs n)) ∧ w = w' := by
  by_cases c : n < 0
  · rw [Ev.abs_neg n c]
    go_enter Try.func56, Try.ntmps56
    go_wp2_with fail
    go_ret
    exact ⟨ret_int rfl, rfl⟩
  · rw [Ev.abs_pos n (by omega)]
    go_enter Try.func56, Try.ntmps56
    go_wp2_with fail
    go_ret
    exact ⟨ret_int rfl, rfl⟩
/-- A slice of length len: where it is not empty, its cells lie in an old block and hold f. -/
def Row (w : World) (a : Option Addr) (len : Nat) (f : Nat → Value) : Prop :=
  0 < len → ∃ b off, a = some ⟨b, off, none⟩ ∧ b < w.heap.size ∧ ∀ i, i < len → w.cell? ⟨b, off + i, none⟩ = some (f i)
theorem Row.keep {w w' : World} {a : Option Addr} {len : Nat} {f : Nat → Value} (h : Row w a len f) (hb : Below w.heap.size w w') : Row w' a len f := by
  intro hl
  obtain ⟨b, off, rfl, hlt, hc⟩ := h hl
  exact ⟨b, off, rfl, Nat.lt_of_lt_of_le hlt hb.size, fun i hi => (hb.cell (p := ⟨b, off + i, none⟩) hlt).trans (hc i hi)⟩
set_option maxHeartbeats 1000000 in
theorem indexFunc_any (g : Nat) (lb : Array Value) (p : Int → Bool) (eg : ∀ args w, (callFunc g args).run Try.prog w = .ok (.enter g args) w) (a : Option Addr) (len cap : Nat) (z : Nat → Int) (w : World) (hm : len ≤ 9223372036854775807) (hr : Row w a len (fun i => .int .i64 (z i)))
    (hc : ∀ i, i < len → Calls Try.prog g (#[.int .i64 (z i)] ++ lb) w fun e w' => e = .returned (.bool (p (z i))) ∧ w = w') :
    Calls Try.prog 81 #[.slice a len cap, .func (.func g) #[] lb] w fun e w' => (∃ r : Int, e = .returned (.int .i64 r) ∧ ((Ev.anyB p z len = true ∧ 0 ≤ r) ∨ (Ev.anyB p z len = false ∧ r = -1))) ∧ w = w' := by
  go_enter Try.func81, Try.ntmps81
  go_wp2_with fail
  go_loop [8] (fun i => ∃ k : Nat, k ≤ len ∧ i = .int .i64 k ∧ ∀ j, j < k → p (z j) = false) (fun i => (len - (intOf i).toNat))
  case atStart => exact ⟨0, by omega, rfl, fun j hj => by omega⟩
  case round =>
    obtain ⟨k, hk, rfl, hno⟩ := hrel
    have HNO := Lib.hid hno; clear hno
    have HC := Lib.hid hc; clear hc
    by_cases hlt : k < len
    · obtain ⟨b, off, rfl, hb, hcell⟩ := hr (by omega)
      have hcx := hcell k hlt
      clear hcell
      cases hp : p (z k)
      · have HP := Lib.hid hp; clear hp
        go_wp2_with (go_at_fn g; refine (HC.out k hlt).mono ?_; rintro e w' ⟨rfl, rfl⟩; rw [HP.out])
        go_round
        case rel => exact ⟨k + 1, by omega, by go_num, fun j hj => by (by_cases e : j = k); exact e ▸ HP.out; exact HNO.out j (by omega)⟩
        case measure => simp [intOf]; omega
      · have HP := Lib.hid hp; clear hp
        go_wp2_with (go_at_fn g; refine (HC.out k hlt).mono ?_; rintro e w' ⟨rfl, rfl⟩; rw [HP.out])
        go_ret
        exact ⟨⟨k, rfl, .inl ⟨Ev.anyB_yes k hlt HP.out, by omega⟩⟩, rfl⟩
    · obtain rfl : k = len := by omega
      go_wp2_with fail
      go_ret
      exact ⟨⟨-1, rfl, .inr ⟨Ev.anyB_no HNO.out, rfl⟩⟩, rfl⟩
set_option maxHeartbeats 1000000 in
theorem containsFunc_any (g : Nat) (lb : Array Value) (p : Int → Bool) (eg : ∀ args w, (callFunc g args).run Try.prog w = .ok (.enter g args) w) (a : Option Addr) (len cap : Nat) (z : Nat → Int) (w : World) (hm : len ≤ 9223372036854775807) (hr : Row w a len (fun i => .int .i64 (z i)))
    (hc : ∀ i, i < len → Calls Try.prog g (#[.int .i64 (z i)] ++ lb) w fun e w' => e = .returned (.bool (p (z i))) ∧ w = w') :
    Calls Try.prog 67 #[.slice a len cap, .func (.func g) #[] lb] w fun e w' => e = .returned (.bool (Ev.anyB p z len)) ∧ w = w' := by
  have HI := Lib.hid (indexFunc_any g lb p eg a len cap z w hm hr hc)
  clear hc eg hr
  go_enter Try.func67, Try.ntmps67
  go_wp2_with (go_at_call 81; refine HI.out.mono ?_; rintro e w' ⟨⟨r, rfl, hr⟩, rfl⟩; have HR := Lib.hid hr; clear hr)
  go_ret
  refine ⟨ret_bool ?_, rfl⟩
  rcases HR.out with ⟨h, h0⟩ | ⟨h, rfl⟩
  · rw [h]; simpa using h0
  · rw [h]; rfl
theorem nearer_is (s t : Int) (w : World) (h1 : -1000000000000 ≤ s) (h2 : s ≤ 1000000000000) (h3 : -1000000000000 ≤ t) (h4 : t ≤ 1000000000000) :
    Calls Try.prog 49 #[.int .i64 s, .int .i64 t] w fun e w' => e = .returned (.bool (Ev.nearer s t)) ∧ w = w' := by
  go_enter Try.func49, Try.ntmps49
  go_wp2_with fail
  all_goals
    go_ret
    refine ⟨ret_bool ?_, rfl⟩
    try simp only [beq_eq_false_iff_ne, beq_iff_eq, ne_eq] at *
    rw [Bool.eq_iff_iff]
    rw [Ev.nearer_iff]
    first | omega | (simp only [decide_eq_true_eq, Bool.false_eq_true, true_iff, false_iff]; omega)
theorem nearerR_is (s t : Int) (w : World) (h1 : -1000000000000 ≤ s) (h2 : s ≤ 1000000000000) (h3 : -1000000000000 ≤ t) (h4 : t ≤ 1000000000000) :
    Calls Try.prog 52 #[.int .i64 s, .int .i64 t] w fun e w' => e = .returned (.bool (Ev.nearer s t)) ∧ w = w' := by
  have hs : Ev.abs s = max s (-s) := rfl
  have ht : Ev.abs t = max t (-t) := rfl
  obtain ⟨x, hx⟩ : ∃ x, Ev.abs s = x := ⟨_, rfl⟩
  obtain ⟨y, hy⟩ : ∃ y, Ev.abs t = y := ⟨_, rfl⟩
  have HS := Lib.hid (fun W => size_any s W (by omega) (by omega))
  have HT := Lib.hid (fun W => size_any t W (by omega) (by omega))
  rw [hx] at HS hs; rw [hy] at HT ht
  clear hx hy
  have hn : Ev.nearer s t = decide (x < y ∨ x = y ∧ t < s) := by rw [Bool.eq_iff_iff, Ev.nearer_iff]; simp; omega
  rw [hn]; clear hn
  have HX := Lib.hid hs; have HY := Lib.hid ht; clear hs ht
  by_cases c : x < y
  · go_enter Try.func52, Try.ntmps52
    go_wp2_with (go_at_call 56; first | ((with_reducible refine (HS.out _).mono ?_); rintro e w' ⟨rfl, rfl⟩) | ((with_reducible refine (HT.out _).mono ?_); rintro e w' ⟨rfl, rfl⟩))
    all_goals
      go_ret
      refine ⟨ret_bool ?_, rfl⟩
      rw [Bool.eq_iff_iff]
      first | omega | (simp <;> omega)
  · have c' : decide (x < y) = false := by simpa using c
    by_cases d : x = y
    · have e : ((x == y) = true) := by simpa using d
      go_enter Try.func52, Try.ntmps52
      go_wp2_with (go_at_call 56; first | ((with_reducible refine (HS.out _).mono ?_); rintro e w' ⟨rfl, rfl⟩) | ((with_reducible refine (HT.out _).mono ?_); rintro e w' ⟨rfl, rfl⟩))
      all_goals
        go_ret
        refine ⟨ret_bool ?_, rfl⟩
        rw [Bool.eq_iff_iff]
        first | omega | (simp <;> omega)
    · have e : ((x == y) = false) := by simpa using d
      go_enter Try.func52, Try.ntmps52
      go_wp2_with (go_at_call 56; first | ((with_reducible refine (HS.out _).mono ?_); rintro e w' ⟨rfl, rfl⟩) | ((with_reducible refine (HT.out _).mono ?_); rintro e w' ⟨rfl, rfl⟩))
      all_goals
        go_ret
        refine ⟨ret_bool ?_, rfl⟩
        rw [Bool.eq_iff_iff]
        first | omega | (simp <;> omega)
end Go.Proofs.Ytdhfhcpgjokhlaa
