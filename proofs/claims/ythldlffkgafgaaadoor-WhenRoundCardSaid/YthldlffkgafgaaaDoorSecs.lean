/- The reference's secondsOf. -/
import Derived.Test.YthldlffkgafgaaaDoorFtMath
import Derived.Test.YthldlffkgafgaaaDoorDigFix
import Derived.Test.YthldlffkgafgaaaDoorDaysRef
import Derived.Lib.QuietBelow
namespace Go.Proofs.YthldlffkgafgaaaDoor
open Go.RowKit Go.Sort
set_option linter.unusedVariables false
namespace Sc
/-- Just so many digits; -1: they are none. -/
def fx (s : List UInt8) (a b : Nat) : Int := if Dg.allD (Ft.win s a b) = true then (Dg.val (Ft.win s a b) : Int) else -1
/-- What date and time tell. -/
def tell (Y M D h m c : Int) : Int := if Cal.vld Y M D = true ∧ (0 ≤ h ∧ h ≤ 23) ∧ (0 ≤ m ∧ m ≤ 59) ∧ (0 ≤ c ∧ c ≤ 59) then Cal.num Y M D * 86400 + h * 3600 + m * 60 + c else -1
def good (s : List UInt8) (d b : UInt8) : Prop := s.length = 19 ∧ s[4]? = some d ∧ s[7]? = some d ∧ s[10]? = some b ∧ s[13]? = some 58 ∧ s[16]? = some 58
instance (s : List UInt8) (d b : UInt8) : Decidable (good s d b) := by unfold good; infer_instance
def secs (s : List UInt8) (d b : UInt8) : Int := if good s d b then tell (fx s 0 4) (fx s 5 7) (fx s 8 10) (fx s 11 13) (fx s 14 16) (fx s 17 19) else -1
theorem fx_bd (s : List UInt8) (a b : Nat) (h : b - a ≤ 4) : -1 ≤ fx s a b ∧ fx s a b ≤ 9999 := by
  unfold fx
  split
  · rename_i hd
    have h1 := Dg.val_lt hd
    have h2 : (Ft.win s a b).length ≤ 4 := by unfold Ft.win; exact Nat.le_trans (List.length_take_le _ _) h
    have h3 : 10 ^ (Ft.win s a b).length ≤ 10 ^ 4 := Nat.pow_le_pow_right (by omega) h2
    have h4 : (10 : Nat) ^ 4 = 10000 := rfl
    omega
  · omega
end Sc
theorem strAt (l : List UInt8) (j : Nat) (b : UInt8) (hb : l[j]? = some b) : (Tx.mk l)[j]'(by rw [Tx.mk_size]; exact (List.getElem?_eq_some_iff.1 hb).1) = b := by
  obtain ⟨hj, e⟩ := List.getElem?_eq_some_iff.1 hb
  show l.toArray[j]'(by simpa using hj) = b
  simpa using e
theorem fixedWin_is (s : List UInt8) (a b n : Nat) (hn : b - a = n) (h : n ≤ 18) (hs : b ≤ s.length) (w : World) :
    Calls Tryd.prog 61 #[.string (Tx.mk (Ft.win s a b)), .int .i64 n] w fun e w' => e = .returned (.int .i64 (Sc.fx s a b)) ∧ Below w.heap.size w w' := by
  have hl := Ft.win_len s a b hs
  refine (fixed_is (Ft.win s a b) n h (by omega) w).mono ?_
  rintro e w' ⟨rfl, rfl⟩
  refine ⟨?_, Below.refl _ _⟩
  unfold Sc.fx
  by_cases c : Dg.allD (Ft.win s a b) = true
  · rw [if_pos ⟨by omega, c⟩, if_pos c]
  · rw [if_neg (fun h => c h.2), if_neg c]
set_option maxRecDepth 100000 in
set_option maxHeartbeats 4000000 in
theorem secondsOf_good (s : List UInt8) (d b : UInt8) (hg : Sc.good s d b) (w : World) :
    Calls Tryd.prog 60 #[.string (Tx.mk s), .int .u8 (d.toNat : Int), .int .u8 (b.toNat : Int)] w fun e w' => e = .returned (.int .i64 (Sc.tell (Sc.fx s 0 4) (Sc.fx s 5 7) (Sc.fx s 8 10) (Sc.fx s 11 13) (Sc.fx s 14 16) (Sc.fx s 17 19))) ∧ Below w.heap.size w w' := by
  obtain ⟨hl, g4, g7, g10, g13, g16⟩ := hg
  have hsz := Tx.mk_size s
  rw [hl] at hsz
  have i4 := strIdx s 4 d g4
  have i7 := strIdx s 7 d g7
  have i10 := strIdx s 10 b g10
  have i13 := strIdx s 13 58 g13
  have i16 := strIdx s 16 58 g16
  have a4 := strAt s 4 d g4
  have a7 := strAt s 7 d g7
  have a10 := strAt s 10 b g10
  have a13 : (Tx.mk s)[13]'(by rw [hsz]; omega) = 58 := strAt s 13 58 g13
  have a16 : (Tx.mk s)[16]'(by rw [hsz]; omega) = 58 := strAt s 16 58 g16
  have e0 := ext_mk s 0 4
  have e1 := ext_mk s 5 7
  have e2 := ext_mk s 8 10
  have e3 := ext_mk s 11 13
  have e4 := ext_mk s 14 16
  have e5 := ext_mk s 17 19
  have F0 : Hid (∀ W, Calls Tryd.prog 61 #[.string (Tx.mk (Ft.win s 0 4)), .int .i64 4] W fun e w' => e = .returned (.int .i64 (Sc.fx s 0 4)) ∧ Below W.heap.size W w') := fun W => fixedWin_is s 0 4 4 rfl (by omega) (by omega) W
  have F1 : Hid (∀ W, Calls Tryd.prog 61 #[.string (Tx.mk (Ft.win s 5 7)), .int .i64 2] W fun e w' => e = .returned (.int .i64 (Sc.fx s 5 7)) ∧ Below W.heap.size W w') := fun W => fixedWin_is s 5 7 2 rfl (by omega) (by omega) W
  have F2 : Hid (∀ W, Calls Tryd.prog 61 #[.string (Tx.mk (Ft.win s 8 10)), .int .i64 2] W fun e w' => e = .returned (.int .i64 (Sc.fx s 8 10)) ∧ Below W.heap.size W w') := fun W => fixedWin_is s 8 10 2 rfl (by omega) (by omega) W
  have F3 : Hid (∀ W, Calls Tryd.prog 61 #[.string (Tx.mk (Ft.win s 11 13)), .int .i64 2] W fun e w' => e = .returned (.int .i64 (Sc.fx s 11 13)) ∧ Below W.heap.size W w') := fun W => fixedWin_is s 11 13 2 rfl (by omega) (by omega) W
  have F4 : Hid (∀ W, Calls Tryd.prog 61 #[.string (Tx.mk (Ft.win s 14 16)), .int .i64 2] W fun e w' => e = .returned (.int .i64 (Sc.fx s 14 16)) ∧ Below W.heap.size W w') := fun W => fixedWin_is s 14 16 2 rfl (by omega) (by omega) W
  have F5 : Hid (∀ W, Calls Tryd.prog 61 #[.string (Tx.mk (Ft.win s 17 19)), .int .i64 2] W fun e w' => e = .returned (.int .i64 (Sc.fx s 17 19)) ∧ Below W.heap.size W w') := fun W => fixedWin_is s 17 19 2 rfl (by omega) (by omega) W
  have y0 := Sc.fx_bd s 0 4 (by omega)
  have y1 := Sc.fx_bd s 5 7 (by omega)
  have y2 := Sc.fx_bd s 8 10 (by omega)
  have y3 := Sc.fx_bd s 11 13 (by omega)
  have y4 := Sc.fx_bd s 14 16 (by omega)
  have y5 := Sc.fx_bd s 17 19 (by omega)
  generalize Sc.fx s 0 4 = Y at *
  generalize Sc.fx s 5 7 = M at *
  generalize Sc.fx s 8 10 = D at *
  generalize Sc.fx s 11 13 = h at *
  generalize Sc.fx s 14 16 = m at *
  generalize Sc.fx s 17 19 = c at *
  obtain ⟨q, hq⟩ : ∃ q, Sc.tell Y M D h m c = q := ⟨_, rfl⟩
  rw [hq]
  obtain ⟨dn, hdn, HDF⟩ : ∃ dn : Int, ((Cal.vld Y M D = true ∧ dn = Cal.num Y M D ∧ 0 ≤ dn ∧ dn ≤ 73048) ∨ (Cal.vld Y M D = false ∧ dn = -1)) ∧ Hid (∀ W, Calls Tryd.prog 72 #[.agg #[.int .i64 Y, .int .i64 M, .int .i64 D]] W fun e w' => e = .returned (.int .i64 dn) ∧ Below W.heap.size W w') := by
    cases hv : Cal.vld Y M D
    · exact ⟨-1, .inr ⟨rfl, rfl⟩, fun W => dayFor_no Y M D W hv⟩
    · have hb := Cal.num_bd Y M D hv
      exact ⟨_, .inl ⟨rfl, rfl, hb.1, hb.2.1⟩, fun W => dayFor_yes Y M D W hv⟩
  have G0 := Lib.hid (fun d os => Calls.regrown_of (w := w) (d := d) (os := os) (F0.out _))
  have G1 := Lib.hid (fun d os => Calls.regrown_of (w := w) (d := d) (os := os) (F1.out _))
  have G2 := Lib.hid (fun d os => Calls.regrown_of (w := w) (d := d) (os := os) (F2.out _))
  have GD := Lib.hid (fun d os => Calls.regrown_of (w := w) (d := d) (os := os) (HDF.out _))
  generalize Ft.win s 0 4 = w0 at *
  generalize Ft.win s 5 7 = w1 at *
  generalize Ft.win s 8 10 = w2 at *
  go_enter Tryd.func60, Tryd.ntmps60
  go_wp2_with fail
  refine wp_region_quiet_below (by kernel_rfl) (by kernel_rfl) ?_
  repeat (go_big_quiet_step ((first | (go_at_call 61; first | with_reducible exact G0.out _ _ | with_reducible exact G1.out _ _ | with_reducible exact G2.out _ _) | (go_at_call 72; with_reducible exact GD.out _ _))))
  refine wpQuiet_nil ?_
  intro _ hw'
  obtain ⟨⟨dq, osq⟩, hw''⟩ := hw'
  subst hw''
  have hBw3 := below_regrown w dq osq
  generalize grow (redrawn w dq) osq = w3 at *
  clear dq osq G0 G1 G2 GD
  have G3 := Lib.hid (fun d os => Calls.regrown_of (w := w3) (d := d) (os := os) (F3.out _))
  have G4 := Lib.hid (fun d os => Calls.regrown_of (w := w3) (d := d) (os := os) (F4.out _))
  have G5 := Lib.hid (fun d os => Calls.regrown_of (w := w3) (d := d) (os := os) (F5.out _))
  generalize Ft.win s 11 13 = v0 at *
  generalize Ft.win s 14 16 = v1 at *
  generalize Ft.win s 17 19 = v2 at *
  go_wp2_with fail
  refine wp_region_quiet_below (by kernel_rfl) (by kernel_rfl) ?_
  repeat (go_big_quiet_step ((go_at_call 61; first | with_reducible exact G3.out _ _ | with_reducible exact G4.out _ _ | with_reducible exact G5.out _ _)))
  refine wpQuiet_nil ?_
  intro _ hw'
  obtain ⟨⟨dq, osq⟩, hw''⟩ := hw'
  subst hw''
  have hBw4 := below_regrown w3 dq osq
  generalize grow (redrawn w3 dq) osq = w4 at *
  clear dq osq
  go_wp2_with fail
  all_goals
    go_ret
    refine ⟨ret_int ?_, below_up hBw3 hBw4⟩
    rw [← hq]
    unfold Sc.tell
    rcases hdn with ⟨hv, hd, hd0, hd1⟩ | ⟨hv, hd⟩
    · first
        | (rw [if_pos ⟨hv, by omega, by omega, by omega⟩, ← hd]; done)
        | (rw [if_neg (fun hh => by have := hh.2; omega)])
    · first
        | (rw [if_neg (fun hh => by rw [hv] at hh; exact absurd hh.1 (by simp))]; done)
        | (exfalso; omega)
end Go.Proofs.YthldlffkgafgaaaDoor
