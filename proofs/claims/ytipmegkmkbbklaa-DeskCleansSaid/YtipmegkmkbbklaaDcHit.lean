/- desk.clean's closure 'near'; slices.ContainsFunc over areas. -/
import Derived.Test.YtipmegkmkbbklaaDcMath
import Derived.Test.YtipmegkmkbbklaaFdLow
namespace Go.Proofs.Ytipmegkmkbbklaa
open Go.RowKit Go.Sort Go.Shelf
set_option linter.unusedVariables false
theorem near_eg : ∀ args w, (callFunc 79 args).run Try.prog w = .ok (.enter 79 args) w := enters_of Try.func79 (by kernel_rfl) rfl
set_option maxRecDepth 100000 in
set_option maxHeartbeats 2000000 in
theorem near_is (b g off n c : Nat) (y x la lo ra d e : Int) (q : Bool) (hd : ∀ w : World, Calls Try.prog 80 #[.agg #[.int .i64 y, .int .i64 x], .agg #[.int .i64 la, .int .i64 lo]] w fun r w' => r = .returned (.tuple #[.int .i64 d, .int .i64 e]) ∧ Below w.heap.size w w') (hq : q = decide (d ≤ ra)) (hn : 0 < n)
    (w : World) (h4 : w.cell? ⟨b, 4, none⟩ = some (.slice (some ⟨g, off, none⟩) n c)) (c0 : w.cell? ⟨g, off, none⟩ = some (.int .i64 y)) (c1 : w.cell? ⟨g, off + 1, none⟩ = some (.int .i64 x)) :
    Calls Try.prog 79 (#[.agg #[.int .i64 la, .int .i64 lo, .int .i64 ra]] ++ #[.pointer (some ⟨b, 0, none⟩)]) w fun r w' => r = .returned (.bool q) ∧ Below w.heap.size w w' := by
  obtain ⟨W1, hW1, hP, hz1, hB1⟩ := box w #[.int .i64 la, .int .i64 lo, .int .i64 ra] 77
  have HW1 := Lib.hid hW1
  have h4' := (hB1.cell (p := ⟨b, 4, none⟩) (World.block_lt_of_cell? w _ h4)).trans h4
  have c0' := (hB1.cell (p := ⟨g, off, none⟩) (World.block_lt_of_cell? w _ c0)).trans c0
  have c1' := (hB1.cell (p := ⟨g, off + 1, none⟩) (World.block_lt_of_cell? w _ c1)).trans c1
  obtain ⟨p0, p1, p2⟩ := hP.three
  have HD := Lib.hid (fun dd os => Calls.regrown_of (hd (grow (redrawn W1 dd) os)))
  clear hW1 hz1 hd h4 c0 c1
  show Calls Try.prog 79 #[.agg #[.int .i64 la, .int .i64 lo, .int .i64 ra], .pointer (some ⟨b, 0, none⟩)] w _
  go_enter Try.func79, Try.ntmps79
  go_wp2_with fail
  rw [HW1.out]
  have k4 := cell_regrown h4'
  have k0 := cell_regrown c0'
  have k1 := cell_regrown c1'
  have m0 := cell_regrown p0
  have m1 := cell_regrown p1
  have m2 := cell_regrown p2
  refine wp_region_quiet_below (by kernel_rfl) (by kernel_rfl) ?_
  repeat (go_big_quiet_step ((go_at_call 80; with_reducible exact HD.out _ _)))
  refine wpQuiet_nil ?_
  intro _ hw'
  obtain ⟨⟨dq, osq⟩, hw''⟩ := hw'
  subst hw''
  have hBx3 := below_regrown W1 dq osq
  generalize grow (redrawn W1 dq) osq = x3 at *
  clear dq osq
  have hX := hP.keep hBx3
  obtain ⟨p0, p1, p2⟩ := hX.three
  clear k4 k0 k1 m0 m1 m2
  go_wp2_with fail
  go_ret
  exact ⟨ret_bool (by rw [hq]), below_up hB1 hBx3⟩
set_option maxRecDepth 100000 in
set_option maxHeartbeats 2000000 in
theorem indexAr (g : Nat) (lb : Array Value) (eg : ∀ args w, (callFunc g args).run Try.prog w = .ok (.enter g args) w) (near : Nat → Bool) (a : Option Addr) (n ca : Nat) (la lo ra : Nat → Int) (w : World) (hm : n ≤ 9223372036854775807) (hr : Ars w a n la lo ra)
    (hc : ∀ i, i < n → ∀ V, Below w.heap.size w V → Calls Try.prog g (#[.agg #[.int .i64 (la i), .int .i64 (lo i), .int .i64 (ra i)]] ++ lb) V fun e w' => e = .returned (.bool (near i)) ∧ Below V.heap.size V w') :
    Calls Try.prog 103 #[.slice a n ca, .func (.func g) #[] lb] w fun e w' => (∃ r : Int, e = .returned (.int .i64 r) ∧ ((Fd.hit near n = true ∧ 0 ≤ r) ∨ (Fd.hit near n = false ∧ r = -1))) ∧ Below w.heap.size w w' := by
  have hit_yes : ∀ k, k < n → near k = true → Fd.hit near n = true := by
    intro k hk hnk
    have : ∀ m, k < m → Fd.hit near m = true := by
      intro m
      induction m with
      | zero => intro h; omega
      | succ m ih =>
        intro h
        by_cases e : k = m
        · subst e; simp [Fd.hit, hnk]
        · simp [Fd.hit, ih (by omega)]
    exact this n hk
  have hit_no : (∀ k, k < n → near k = false) → Fd.hit near n = false := by
    intro h
    have : ∀ m, m ≤ n → Fd.hit near m = false := by
      intro m
      induction m with
      | zero => intro _; rfl
      | succ m ih => intro hm; simp [Fd.hit, ih (by omega), h m (by omega)]
    exact this n (Nat.le_refl _)
  have HY := Lib.hid hit_yes; have HN := Lib.hid hit_no; have HR := Lib.hid hr; have HC := Lib.hid hc
  clear hit_yes hit_no hr hc
  go_enter Try.func103, Try.ntmps103
  go_wp2_with fail
  go_loopg [8] n (fun gk i wr => ∃ k : Nat, k ≤ n ∧ gk = n - k ∧ i = .int .i64 k ∧ (∀ j, j < k → near j = false) ∧ Below w.heap.size w wr)
  case atStart => exact ⟨0, by omega, rfl, rfl, fun j hj => by omega, Below.refl _ _⟩
  case round =>
    obtain ⟨k, hk, rfl, rfl, hno, hB⟩ := hrel
    have HNO := Lib.hid hno; clear hno
    by_cases hlt : k < n
    · obtain ⟨b, off, rfl, hb, hcell⟩ := (HR.out.keep hB) (by omega)
      obtain ⟨x0, x1, x2⟩ := hcell k hlt
      clear hcell
      have HCK := Lib.hid (HC.out k hlt wr hB)
      cases hp : near k
      · rw [hp] at HCK
        have HP := Lib.hid hp; clear hp
        go_wp2_with (go_at_fn g; refine HCK.out.mono ?_; rintro e w' ⟨rfl, hB2⟩)
        go_roundg (n - (k + 1))
        case rel => exact ⟨k + 1, by omega, rfl, by go_num, fun j hj => by (by_cases e : j = k); exact e ▸ HP.out; exact HNO.out j (by omega), below_up hB hB2⟩
        case measure => omega
      · rw [hp] at HCK
        have HP := Lib.hid hp; clear hp
        go_wp2_with (go_at_fn g; refine HCK.out.mono ?_; rintro e w' ⟨rfl, hB2⟩)
        go_ret
        exact ⟨⟨k, rfl, .inl ⟨HY.out k hlt HP.out, by omega⟩⟩, below_up hB hB2⟩
    · obtain rfl : k = n := by omega
      go_wp2_with fail
      go_ret
      exact ⟨⟨-1, rfl, .inr ⟨HN.out HNO.out, rfl⟩⟩, hB⟩
set_option maxHeartbeats 1000000 in
theorem containsAr (g : Nat) (lb : Array Value) (eg : ∀ args w, (callFunc g args).run Try.prog w = .ok (.enter g args) w) (near : Nat → Bool) (a : Option Addr) (n ca : Nat) (la lo ra : Nat → Int) (w : World) (hm : n ≤ 9223372036854775807) (hr : Ars w a n la lo ra)
    (hc : ∀ i, i < n → ∀ V, Below w.heap.size w V → Calls Try.prog g (#[.agg #[.int .i64 (la i), .int .i64 (lo i), .int .i64 (ra i)]] ++ lb) V fun e w' => e = .returned (.bool (near i)) ∧ Below V.heap.size V w') :
    Calls Try.prog 81 #[.slice a n ca, .func (.func g) #[] lb] w fun e w' => e = .returned (.bool (Fd.hit near n)) ∧ Below w.heap.size w w' := by
  have HI := Lib.hid (indexAr g lb eg near a n ca la lo ra w hm hr hc)
  clear hc eg hr
  go_enter Try.func81, Try.ntmps81
  go_wp2_with (go_at_call 103; refine HI.out.mono ?_; rintro e w' ⟨⟨r, rfl, hr⟩, hB⟩; have HR := Lib.hid hr; clear hr)
  go_ret
  refine ⟨ret_bool ?_, hB⟩
  rcases HR.out with ⟨h, h0⟩ | ⟨h, rfl⟩
  · rw [h]; simpa using h0
  · rw [h]; rfl
end Go.Proofs.Ytipmegkmkbbklaa
