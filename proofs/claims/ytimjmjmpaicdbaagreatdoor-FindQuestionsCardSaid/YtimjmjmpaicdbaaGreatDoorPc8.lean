/- Parts of the proof, no condition: DaysProg, ReadLoc, Secs, LocLaw2, Secs2, TxLays, TxTab, DaysDate, TxPad, TxLocal, TxStamp, TxTld, TxAwake, TxTold, DaysDateR, TxRef, RsMath, SpMath. -/
import Derived.Test.YtimjmjmpaicdbaaGreatDoorPc7
import Derived.Lib.QuietBelow
import Derived.Shelf.Unicode.PredsPay
import Derived.Shelf.Strconv.Itoa3
import Derived.Shelf.Strings.Repeat
import Derived.Test.YtimjmjmpaicdbaaGreatDoorProg
import Derived.Lib.LaidTab
import Derived.LaidMore
import Derived.Stop.LaidErr
import Derived.BigRegion
import Derived.Test.YtimjmjmpaicdbaaGreatDoorPc1
import Derived.Laws.IdiomStrings
set_option maxRecDepth 100000
set_option maxHeartbeats 2000000
set_option linter.unusedVariables false
namespace Go.Proofs.YtimjmjmpaicdbaaGreatDoor
open Go.RowKit Go.Sort
theorem box3 (w : World) (a b c : Value) (t : TypeId) : ∃ W1, w.alloc (.cells #[a, b, c] t) = W1 ∧ W1.cell? ⟨w.heap.size, 0, none⟩ = some a ∧ W1.cell? ⟨w.heap.size, 1, none⟩ = some b ∧ W1.cell? ⟨w.heap.size, 2, none⟩ = some c ∧ w.heap.size < W1.heap.size ∧ Below w.heap.size w W1 :=
 ⟨_, rfl, by simp [World.cell?_alloc_at], by simp [World.cell?_alloc_at], by simp [World.cell?_alloc_at], by simp, (Below.refl _ _).alloc (Nat.le_refl _) _⟩
theorem keep3 {W1 w1 : World} {b : Nat} {x y z : Value} (h : Below W1.heap.size W1 w1) (hb : b < W1.heap.size) (c0 : W1.cell? ⟨b, 0, none⟩ = some x) (c1 : W1.cell? ⟨b, 1, none⟩ = some y) (c2 : W1.cell? ⟨b, 2, none⟩ = some z) :
  w1.cell? ⟨b, 0, none⟩ = some x ∧ w1.cell? ⟨b, 1, none⟩ = some y ∧ w1.cell? ⟨b, 2, none⟩ = some z :=
 ⟨(h.cell (p := ⟨b, 0, none⟩) hb).trans c0, (h.cell (p := ⟨b, 1, none⟩) hb).trans c1, (h.cell (p := ⟨b, 2, none⟩) hb).trans c2⟩
theorem outs_no (n lo hi : Int) (w : World) (d : Nat) (os : Array Obj) (h1 : lo ≤ n) (h2 : n ≤ hi) : Calls Tryz.prog 156 #[.int .i64 n, .int .i64 lo, .int .i64 hi] (grow (redrawn w d) os) fun e w'' => e = .returned (.bool false) ∧ ∃ p : Regrown, w'' = grow (redrawn w p.d) p.os :=
 Calls.regrown_of ((outside_no _ _ _ _ h1 h2).mono (fun _ _ h => ⟨h.1, by rw [← h.2]; exact Below.refl _ _⟩))
theorem outs_yes (n lo hi : Int) (w : World) (d : Nat) (os : Array Obj) (h : n < lo ∨ hi < n) : Calls Tryz.prog 156 #[.int .i64 n, .int .i64 lo, .int .i64 hi] (grow (redrawn w d) os) fun e w'' => e = .returned (.bool true) ∧ ∃ p : Regrown, w'' = grow (redrawn w p.d) p.os :=
 Calls.regrown_of ((outside_yes _ _ _ _ h).mono (fun _ _ h => ⟨h.1, by rw [← h.2]; exact Below.refl _ _⟩))
theorem lengthOf_q (y m : Int) (w : World) (d : Nat) (os : Array Obj) (h0 : 0 ≤ y) (h1 : 1 ≤ m) (h2 : m ≤ 12) : Calls Tryz.prog 158 #[.int .i64 y, .int .i64 m] (grow (redrawn w d) os) fun e w'' => e = .returned (.int .i64 (Cal.len y m)) ∧ ∃ p : Regrown, w'' = grow (redrawn w p.d) p.os :=
 Calls.regrown_of (lengthOf_any _ _ _ h0 h1 h2)
theorem before_q (y : Int) (w : World) (d : Nat) (os : Array Obj) (h1 : 1 ≤ y) (h2 : y ≤ 1000000) : Calls Tryz.prog 157 #[.int .i64 y] (grow (redrawn w d) os) fun e w'' => e = .returned (.int .i64 (Cal.bef y)) ∧ ∃ p : Regrown, w'' = grow (redrawn w p.d) p.os :=
 Calls.regrown_of ((before_any _ _ h1 h2).mono (fun _ _ h => ⟨h.1, by rw [← h.2]; exact Below.refl _ _⟩))
theorem dayOf_yes (y m d : Int) (w : World) (h : Cal.vld y m d = true) :
  Calls Tryz.prog 195 #[.agg #[.int .i64 y, .int .i64 m, .int .i64 d]] w fun e w' => e = .returned (.tuple #[.int .i64 (Cal.num y m d), .int .i64 0]) ∧ Below w.heap.size w w' := by
 obtain ⟨h1, h2, h3, h4, h5, h6⟩ := (Cal.vld_iff y m d).1 h
 have hd := Cal.len_bd y m
 have hb := bef_bd y h1 (by omega)
 clear h
 obtain ⟨W1, hW1, c0, c1, c2, hz, hb1⟩ := box3 w (.int .i64 y) (.int .i64 m) (.int .i64 d) 138
 have HW1 := Lib.hid hW1; clear hW1
 go_enter Tryz.func195, Tryz.ntmps195
 go_wp2_with fail
 rw [HW1.out]
 have k0 := cell_regrown c0
 have k1 := cell_regrown c1
 have k2 := cell_regrown c2
 refine wp_region_quiet_below (by kernel_rfl) (by kernel_rfl) ?_
 repeat (go_big_quiet_step ((first | (go_at_call 156; exact outs_no _ _ _ _ _ _ (by omega) (by omega)) | (go_at_call 158; exact lengthOf_q _ _ _ _ _ (by omega) (by omega) (by omega)))))
 refine wpQuiet_nil ?_
 intro _ hw'
 obtain ⟨⟨dq, osq⟩, hw''⟩ := hw'
 subst hw''
 have hBw1 := below_regrown W1 dq osq
 generalize grow (redrawn W1 dq) osq = w1 at *
 clear dq osq
 clear k0 k1 k2
 obtain ⟨d0, d1, d2⟩ := keep3 hBw1 hz c0 c1 c2
 have hzw := hBw1.size
 go_wp2_with fail
 have k0 := cell_regrown d0
 have k1 := cell_regrown d1
 have k2 := cell_regrown d2
 refine wp_region_quiet_below (by kernel_rfl) (by kernel_rfl) ?_
 repeat (go_big_quiet_step ((go_at_call 157; exact before_q _ _ _ _ (by omega) (by omega))))
 refine wpQuiet_nil ?_
 intro _ hw'
 obtain ⟨⟨dq, osq⟩, hw''⟩ := hw'
 subst hw''
 have hBw2 := below_regrown w1 dq osq
 generalize grow (redrawn w1 dq) osq = w2 at *
 clear dq osq
 clear k0 k1 k2
 have hB2 := below_up hBw1 hBw2
 clear hBw1 hBw2 d0 d1 d2 hzw w1
 go_wp2_with fail
 go_loopw [4, 5] (fun n i wr => ∃ j : Int, 1 ≤ j ∧ j ≤ m ∧ i = .int .i64 j ∧ n = .int .i64 (Cal.bef y + d - 1 + Cal.cum y j) ∧ Below W1.heap.size W1 wr) (fun _ i _ => (m - intOf i).toNat)
 case atStart => exact ⟨1, by omega, by omega, rfl, by rw [Cal.cum_1]; simp, hB2⟩
 case round =>
  obtain ⟨j, hj1, hj2, rfl, rfl, hBr⟩ := hrel
  have hc := Cal.cum_bd y j hj1 (by omega)
  have hp := Cal.lp_01 y
  have hn := Cal.len_bd y j
  obtain ⟨d0, d1, d2⟩ := keep3 hBr hz c0 c1 c2
  by_cases hlt : j < m
  ·go_wp2_with (go_at_call 158; refine (lengthOf_any _ _ _ (by omega) (by omega) (by omega)).mono ?_; rintro e w' ⟨rfl, hB3⟩)
   go_roundw
   case rel => exact ⟨j + 1, by omega, by omega, rfl, by rw [Cal.cum_succ y j hj1 (by omega)]; go_num, below_up hBr hB3⟩
   case measure => simp [intOf]; omega
  ·obtain rfl : j = m := by omega
   go_wp2_with fail
   go_ret2
   exact ⟨ret_int2 (by unfold Cal.num; omega) rfl, below_up hb1 hBr⟩
theorem dayOf_no (y m d : Int) (w : World) (h : Cal.vld y m d = false) :
  Calls Tryz.prog 195 #[.agg #[.int .i64 y, .int .i64 m, .int .i64 d]] w fun e w' => e = .returned (.tuple #[.int .i64 0, .int .i64 1]) ∧ Below w.heap.size w w' := by
 have hv := vld_no y m d h
 have hd := Cal.len_bd y m
 clear h
 obtain ⟨W1, hW1, c0, c1, c2, hz, hb1⟩ := box3 w (.int .i64 y) (.int .i64 m) (.int .i64 d) 138
 have HW1 := Lib.hid hW1; clear hW1
 by_cases g0 : y < 1900 ∨ 2099 < y
 ·clear hv
  go_enter Tryz.func195, Tryz.ntmps195
  go_wp2_with fail
  rw [HW1.out]
  have k0 := cell_regrown c0
  have k1 := cell_regrown c1
  have k2 := cell_regrown c2
  refine wp_region_quiet_below (by kernel_rfl) (by kernel_rfl) ?_
  repeat (go_big_quiet_step ((go_at_call 156; exact outs_yes _ _ _ _ _ _ (by omega))))
  refine wpQuiet_nil ?_
  intro _ hw'
  obtain ⟨⟨dq, osq⟩, hw''⟩ := hw'
  subst hw''
  have hBw1 := below_regrown W1 dq osq
  generalize grow (redrawn W1 dq) osq = w1 at *
  clear dq osq
  clear k0 k1 k2
  go_wp2_with fail
  go_ret2
  exact ⟨ret_int2 rfl rfl, below_up hb1 hBw1⟩
 ·by_cases g1 : m < 1 ∨ 12 < m
  ·clear hv
   go_enter Tryz.func195, Tryz.ntmps195
   go_wp2_with fail
   rw [HW1.out]
   have k0 := cell_regrown c0
   have k1 := cell_regrown c1
   have k2 := cell_regrown c2
   refine wp_region_quiet_below (by kernel_rfl) (by kernel_rfl) ?_
   repeat (go_big_quiet_step ((first | (go_at_call 156; exact outs_no _ _ _ _ _ _ (by omega) (by omega)) | (go_at_call 156; exact outs_yes _ _ _ _ _ _ (by omega)))))
   refine wpQuiet_nil ?_
   intro _ hw'
   obtain ⟨⟨dq, osq⟩, hw''⟩ := hw'
   subst hw''
   have hBw1 := below_regrown W1 dq osq
   generalize grow (redrawn W1 dq) osq = w1 at *
   clear dq osq
   clear k0 k1 k2
   go_wp2_with fail
   go_ret2
   exact ⟨ret_int2 rfl rfl, below_up hb1 hBw1⟩
  ·have g2 : d < 1 ∨ Cal.len y m < d := by omega
   clear hv
   go_enter Tryz.func195, Tryz.ntmps195
   go_wp2_with fail
   rw [HW1.out]
   have k0 := cell_regrown c0
   have k1 := cell_regrown c1
   have k2 := cell_regrown c2
   refine wp_region_quiet_below (by kernel_rfl) (by kernel_rfl) ?_
   repeat (go_big_quiet_step ((first | (go_at_call 158; exact lengthOf_q _ _ _ _ _ (by omega) (by omega) (by omega)) | (go_at_call 156; exact outs_no _ _ _ _ _ _ (by omega) (by omega)) | (go_at_call 156; exact outs_yes _ _ _ _ _ _ (by omega)))))
   refine wpQuiet_nil ?_
   intro _ hw'
   obtain ⟨⟨dq, osq⟩, hw''⟩ := hw'
   subst hw''
   have hBw1 := below_regrown W1 dq osq
   generalize grow (redrawn W1 dq) osq = w1 at *
   clear dq osq
   clear k0 k1 k2
   go_wp2_with fail
   go_ret2
   exact ⟨ret_int2 rfl rfl, below_up hb1 hBw1⟩
end Go.Proofs.YtimjmjmpaicdbaaGreatDoor
namespace Go.Proofs.YtimjmjmpaicdbaaGreatDoor
open Go.RowKit Go.Sort Go.Shelf
namespace Ft
def loc (r : Option (List Int)) : Option Int := match r with
 | some [a, b, c, d, e, f] => if Cal.vld a b c = true ∧ d ≤ 23 ∧ e ≤ 59 ∧ f ≤ 59 then some (Cal.num a b c * 86400 + 3600 * d + 60 * e + f) else none
 | _ => none
end Ft
end Go.Proofs.YtimjmjmpaicdbaaGreatDoor
namespace Go.Proofs.YtimjmjmpaicdbaaGreatDoor
open Go.RowKit Go.Sort
namespace Sc
def fx (s : List UInt8) (a b : Nat) : Int := if Dg.allD (Ft.win s a b) = true then (Dg.val (Ft.win s a b) : Int) else -1
def tell (Y M D h m c : Int) : Int := if Cal.vld Y M D = true ∧ (0 ≤ h ∧ h ≤ 23) ∧ (0 ≤ m ∧ m ≤ 59) ∧ (0 ≤ c ∧ c ≤ 59) then Cal.num Y M D * 86400 + h * 3600 + m * 60 + c else -1
def good (s : List UInt8) (d b : UInt8) : Prop := s.length = 19 ∧ s[4]? = some d ∧ s[7]? = some d ∧ s[10]? = some b ∧ s[13]? = some 58 ∧ s[16]? = some 58
instance (s : List UInt8) (d b : UInt8) : Decidable (good s d b) := by unfold good; infer_instance
def secs (s : List UInt8) (d b : UInt8) : Int := if good s d b then tell (fx s 0 4) (fx s 5 7) (fx s 8 10) (fx s 11 13) (fx s 14 16) (fx s 17 19) else -1
theorem fx_bd (s : List UInt8) (a b : Nat) (h : b - a ≤ 4) : -1 ≤ fx s a b ∧ fx s a b ≤ 9999 := by
 unfold fx
 split
 ·rename_i hd
  have h1 := Dg.val_lt hd
  have h2 : (Ft.win s a b).length ≤ 4 := by unfold Ft.win; exact Nat.le_trans (List.length_take_le _ _) h
  have h3 : 10 ^ (Ft.win s a b).length ≤ 10 ^ 4 := Nat.pow_le_pow_right (by omega) h2
  have h4 : (10 : Nat) ^ 4 = 10000 := rfl
  omega
 ·omega
end Sc
theorem strAt (l : List UInt8) (j : Nat) (b : UInt8) (hb : l[j]? = some b) : (Tx.mk l)[j]'(by rw [Tx.mk_size]; exact (List.getElem?_eq_some_iff.1 hb).1) = b := by
 obtain ⟨hj, e⟩ := List.getElem?_eq_some_iff.1 hb
 show l.toArray[j]'(by simpa using hj) = b
 simpa using e
end Go.Proofs.YtimjmjmpaicdbaaGreatDoor
namespace Go.Proofs.YtimjmjmpaicdbaaGreatDoor
namespace Ft
def formOf (d b : UInt8) : List UInt8 := [48, 48, 48, 48, d, 48, 48, d, 48, 48, b, 48, 48, 58, 48, 48, 58, 48, 48]
theorem skip {s form : List UInt8} : ∀ (n k j fr : Nat) (acc : List Int), (∀ i, j ≤ i → i < j + n → form[i]? = some 48) → go s form (k + n) j fr acc = go s form k (j + n) fr acc := by
 intro n
 induction n with
 | zero => intro k j fr acc _; rfl
 | succ n ih =>
   intro k j fr acc h
   rw [show k + (n + 1) = (k + n) + 1 by omega, go_zero (h j (by omega) (by omega)), ih k (j + 1) fr acc (fun i h1 h2 => h i (by omega) (by omega)), show j + 1 + n = j + (n + 1) by omega]
theorem group {s form : List UInt8} (n k fr : Nat) (acc : List Int) (hn : 0 < n) (hz : ∀ i, fr ≤ i → i < fr + n → form[i]? = some 48) (hs : form[fr + n]? ≠ some 48) :
  go s form (k + 1 + n) fr fr acc = if Dg.allD (win s fr (fr + n)) = true ∧ ¬ (fr + n < form.length ∧ s[fr + n]? ≠ form[fr + n]?) then go s form k (fr + n + 1) (fr + n + 1) (acc ++ [(Dg.val (win s fr (fr + n)) : Int)]) else none := by
 rw [skip n (k + 1) fr fr acc hz]
 by_cases h1 : Dg.allD (win s fr (fr + n)) = true
 ·by_cases h2 : fr + n < form.length ∧ s[fr + n]? ≠ form[fr + n]?
  ·rw [if_neg (fun h => h.2 h2), go_numSep hs (by omega) h1 h2.1 h2.2]
  ·rw [if_pos ⟨h1, h2⟩, go_num hs (by omega) h1 h2]
 ·rw [if_neg (fun h => h1 h.1), go_bad hs (by omega) (by simpa using h1)]
end Ft
end Go.Proofs.YtimjmjmpaicdbaaGreatDoor
namespace Go.Proofs.YtimjmjmpaicdbaaGreatDoor
open Go.RowKit Go.Sort
theorem ne_of {b c : UInt8} (h : ¬ b = c) : ¬ (b.toNat : Int) = (c.toNat : Int) := fun e => h (UInt8.toNat_inj.1 (by omega))
end Go.Proofs.YtimjmjmpaicdbaaGreatDoor
namespace Go.Proofs.YtimjmjmpaicdbaaGreatDoor
open Go.Shelf
def Lay.itoaM_ren : Go.Shelf.Ren := ⟨fun | 171 => 28 | 243 => 75 | 246 => 112 | 283 => 165 | 284 => 166 | 285 => 167 | 286 => 168 | 129 => 199 | 317 => 198 | 318 => 200 | 319 => 201 | 320 => 202 | 337 => 226 | 338 => 227 | n => n, fun | 3 => 3 | 9 => 9 | 2 => 2 | 4 => 4 | 171 => 198 | 0 => 0 | 53 => 199 | 37 => 62 | 5 => 5 | 173 => 202 | 212 => 225 | 51 => 179 | 20 => 20 | 213 => 226 | 46 => 227 | 232 => 280 | 233 => 281 | n => n, fun | 17 => 1 | 18 => 4 | 19 => 5 | n => n⟩
theorem Lay.itoaM : Go.Proofs.LaysM.n171 Tryz.prog Lay.itoaM_ren := {
 mixed := by kernel_rfl
 f129 := Tryz.func199.trans (congrArg some (by kernel_rfl))
 f171 := Tryz.func28.trans (congrArg some (by kernel_rfl))
 f243 := Tryz.func75.trans (congrArg some (by kernel_rfl))
 f246 := Tryz.func112.trans (congrArg some (by kernel_rfl))
 f283 := Tryz.func165.trans (congrArg some (by kernel_rfl))
 f284 := Tryz.func166.trans (congrArg some (by kernel_rfl))
 f285 := Tryz.func167.trans (congrArg some (by kernel_rfl))
 f286 := Tryz.func168.trans (congrArg some (by kernel_rfl))
 f317 := Tryz.func198.trans (congrArg some (by kernel_rfl))
 f318 := Tryz.func200.trans (congrArg some (by kernel_rfl))
 f319 := Tryz.func201.trans (congrArg some (by kernel_rfl))
 f320 := Tryz.func202.trans (congrArg some (by kernel_rfl))
 f337 := Tryz.func226.trans (congrArg some (by kernel_rfl))
 f338 := Tryz.func227.trans (congrArg some (by kernel_rfl))
 t0 := Tryz.underlying0
 a0 := Tryz.isAgg0
 z0 := Tryz.sizeOf0
 v0 := Tryz.zeroValue0
 t2 := Tryz.underlying2
 a2 := Tryz.isAgg2
 z2 := Tryz.sizeOf2
 v2 := Tryz.zeroValue2
 t3 := Tryz.underlying3
 a3 := Tryz.isAgg3
 z3 := Tryz.sizeOf3
 v3 := Tryz.zeroValue3
 t4 := Tryz.underlying4
 a4 := Tryz.isAgg4
 z4 := Tryz.sizeOf4
 v4 := Tryz.zeroValue4
 t5 := Tryz.underlying5
 a5 := Tryz.isAgg5
 z5 := Tryz.sizeOf5
 v5 := Tryz.zeroValue5
 t9 := Tryz.underlying9
 a9 := Tryz.isAgg9
 z9 := Tryz.sizeOf9
 v9 := Tryz.zeroValue9
 t20 := Tryz.underlying20
 a20 := Tryz.isAgg20
 z20 := Tryz.sizeOf20
 v20 := Tryz.zeroValue20
 t37 := Tryz.underlying62
 a37 := Tryz.isAgg62
 z37 := Tryz.sizeOf62
 v37 := Tryz.zeroValue62
 t46 := Tryz.underlying227
 a46 := Tryz.isAgg227
 z46 := Tryz.sizeOf227
 v46 := Tryz.zeroValue227
 t51 := Tryz.underlying179
 a51 := Tryz.isAgg179
 z51 := Tryz.sizeOf179
 v51 := Tryz.zeroValue179
 t53 := Tryz.underlying199
 a53 := Tryz.isAgg199
 z53 := Tryz.sizeOf199
 v53 := Tryz.zeroValue199
 t171 := Tryz.underlying198
 a171 := Tryz.isAgg198
 z171 := Tryz.sizeOf198
 v171 := Tryz.zeroValue198
 t173 := Tryz.underlying202
 a173 := Tryz.isAgg202
 z173 := Tryz.sizeOf202
 v173 := Tryz.zeroValue202
 t212 := Tryz.underlying225
 a212 := Tryz.isAgg225
 z212 := Tryz.sizeOf225
 v212 := Tryz.zeroValue225
 t213 := Tryz.underlying226
 a213 := Tryz.isAgg226
 z213 := Tryz.sizeOf226
 t232 := Tryz.underlying280
 a232 := Tryz.isAgg280
 z232 := Tryz.sizeOf280
 v232 := Tryz.zeroValue280
 t233 := Tryz.underlying281
 a233 := Tryz.isAgg281
 z233 := Tryz.sizeOf281
 v233 := Tryz.zeroValue281
 g17 := by kernel_rfl
 g18 := by kernel_rfl
 g19 := by kernel_rfl
 i0 := by kernel_rfl
 i2 := by kernel_rfl
 i3 := by kernel_rfl
 i4 := by kernel_rfl
 i5 := by kernel_rfl
 i9 := by kernel_rfl
 i20 := by kernel_rfl
 i37 := by kernel_rfl
 i46 := by kernel_rfl
 i51 := by kernel_rfl
 i53 := by kernel_rfl
 i171 := by kernel_rfl
 i173 := by kernel_rfl
 i212 := by kernel_rfl
 i232 := by kernel_rfl
 i233 := by kernel_rfl
 m17 := by kernel_rfl
 m18 := by kernel_rfl
 m19 := by kernel_rfl }
def Lay.itoaS_ren : Go.Shelf.Ren := ⟨fun | 171 => 28 | 243 => 75 | 246 => 112 | 283 => 165 | 284 => 166 | 285 => 167 | 286 => 168 | 129 => 199 | 317 => 198 | 318 => 200 | 319 => 201 | 320 => 202 | 337 => 226 | 338 => 227 | n => n, fun | 3 => 3 | 9 => 9 | 2 => 2 | 4 => 4 | 171 => 198 | 0 => 0 | 53 => 199 | 37 => 62 | 5 => 5 | 173 => 202 | 212 => 225 | 51 => 179 | 20 => 20 | 213 => 226 | 46 => 227 | 232 => 280 | 233 => 281 | n => n, fun | 17 => 1 | 18 => 4 | 19 => 5 | n => n⟩
theorem Lay.itoaS : Go.Proofs.Lays.n171 Tryz.prog Lay.itoaS_ren := {
 mixed := by kernel_rfl
 f129 := Tryz.func199.trans (congrArg some (by kernel_rfl))
 f171 := Tryz.func28.trans (congrArg some (by kernel_rfl))
 f243 := Tryz.func75.trans (congrArg some (by kernel_rfl))
 f246 := Tryz.func112.trans (congrArg some (by kernel_rfl))
 f283 := Tryz.func165.trans (congrArg some (by kernel_rfl))
 f284 := Tryz.func166.trans (congrArg some (by kernel_rfl))
 f285 := Tryz.func167.trans (congrArg some (by kernel_rfl))
 f286 := Tryz.func168.trans (congrArg some (by kernel_rfl))
 f317 := Tryz.func198.trans (congrArg some (by kernel_rfl))
 f318 := Tryz.func200.trans (congrArg some (by kernel_rfl))
 f319 := Tryz.func201.trans (congrArg some (by kernel_rfl))
 f320 := Tryz.func202.trans (congrArg some (by kernel_rfl))
 f337 := Tryz.func226.trans (congrArg some (by kernel_rfl))
 f338 := Tryz.func227.trans (congrArg some (by kernel_rfl))
 t0 := Tryz.underlying0
 a0 := Tryz.isAgg0
 z0 := Tryz.sizeOf0
 v0 := Tryz.zeroValue0
 t2 := Tryz.underlying2
 a2 := Tryz.isAgg2
 z2 := Tryz.sizeOf2
 v2 := Tryz.zeroValue2
 t3 := Tryz.underlying3
 a3 := Tryz.isAgg3
 z3 := Tryz.sizeOf3
 v3 := Tryz.zeroValue3
 t4 := Tryz.underlying4
 a4 := Tryz.isAgg4
 z4 := Tryz.sizeOf4
 v4 := Tryz.zeroValue4
 t5 := Tryz.underlying5
 a5 := Tryz.isAgg5
 z5 := Tryz.sizeOf5
 v5 := Tryz.zeroValue5
 t9 := Tryz.underlying9
 a9 := Tryz.isAgg9
 z9 := Tryz.sizeOf9
 v9 := Tryz.zeroValue9
 t20 := Tryz.underlying20
 a20 := Tryz.isAgg20
 z20 := Tryz.sizeOf20
 v20 := Tryz.zeroValue20
 t37 := Tryz.underlying62
 a37 := Tryz.isAgg62
 z37 := Tryz.sizeOf62
 v37 := Tryz.zeroValue62
 t46 := Tryz.underlying227
 a46 := Tryz.isAgg227
 z46 := Tryz.sizeOf227
 v46 := Tryz.zeroValue227
 t51 := Tryz.underlying179
 a51 := Tryz.isAgg179
 z51 := Tryz.sizeOf179
 v51 := Tryz.zeroValue179
 t53 := Tryz.underlying199
 a53 := Tryz.isAgg199
 z53 := Tryz.sizeOf199
 v53 := Tryz.zeroValue199
 t171 := Tryz.underlying198
 a171 := Tryz.isAgg198
 z171 := Tryz.sizeOf198
 v171 := Tryz.zeroValue198
 t173 := Tryz.underlying202
 a173 := Tryz.isAgg202
 z173 := Tryz.sizeOf202
 v173 := Tryz.zeroValue202
 t212 := Tryz.underlying225
 a212 := Tryz.isAgg225
 z212 := Tryz.sizeOf225
 v212 := Tryz.zeroValue225
 t213 := Tryz.underlying226
 a213 := Tryz.isAgg226
 z213 := Tryz.sizeOf226
 t232 := Tryz.underlying280
 a232 := Tryz.isAgg280
 z232 := Tryz.sizeOf280
 v232 := Tryz.zeroValue280
 t233 := Tryz.underlying281
 a233 := Tryz.isAgg281
 z233 := Tryz.sizeOf281
 v233 := Tryz.zeroValue281
 g17 := by kernel_rfl
 g18 := by kernel_rfl
 g19 := by kernel_rfl }
def Lay.repeatS_ren : Go.Shelf.Ren := ⟨fun | 105 => 224 | 212 => 246 | 99 => 247 | 165 => 97 | 166 => 26 | 170 => 29 | 169 => 30 | 263 => 264 | 264 => 265 | 206 => 266 | 240 => 73 | 241 => 153 | 276 => 111 | 277 => 187 | n => n, fun | 9 => 9 | 3 => 3 | 4 => 4 | 20 => 20 | 0 => 0 | 46 => 227 | 109 => 277 | 5 => 5 | 72 => 64 | 76 => 67 | 51 => 179 | 146 => 282 | 53 => 199 | 148 => 298 | 70 => 61 | 37 => 62 | 75 => 66 | 127 => 117 | 164 => 156 | 80 => 74 | n => n, fun | n => n⟩
theorem Lay.repeatS : Go.Proofs.Lays.n105 Tryz.prog Lay.repeatS_ren := {
 mixed := by kernel_rfl
 f99 := Tryz.func247.trans (congrArg some (by kernel_rfl))
 f105 := Tryz.func224.trans (congrArg some (by kernel_rfl))
 f165 := Tryz.func97.trans (congrArg some (by kernel_rfl))
 f166 := Tryz.func26.trans (congrArg some (by kernel_rfl))
 f169 := Tryz.func30.trans (congrArg some (by kernel_rfl))
 f170 := Tryz.func29.trans (congrArg some (by kernel_rfl))
 f206 := Tryz.func266.trans (congrArg some (by kernel_rfl))
 f212 := Tryz.func246.trans (congrArg some (by kernel_rfl))
 f240 := Tryz.func73.trans (congrArg some (by kernel_rfl))
 f241 := Tryz.func153.trans (congrArg some (by kernel_rfl))
 f263 := Tryz.func264.trans (congrArg some (by kernel_rfl))
 f264 := Tryz.func265.trans (congrArg some (by kernel_rfl))
 f276 := Tryz.func111.trans (congrArg some (by kernel_rfl))
 f277 := Tryz.func187.trans (congrArg some (by kernel_rfl))
 t0 := Tryz.underlying0
 a0 := Tryz.isAgg0
 z0 := Tryz.sizeOf0
 v0 := Tryz.zeroValue0
 t3 := Tryz.underlying3
 a3 := Tryz.isAgg3
 z3 := Tryz.sizeOf3
 v3 := Tryz.zeroValue3
 t4 := Tryz.underlying4
 a4 := Tryz.isAgg4
 z4 := Tryz.sizeOf4
 v4 := Tryz.zeroValue4
 t5 := Tryz.underlying5
 a5 := Tryz.isAgg5
 z5 := Tryz.sizeOf5
 v5 := Tryz.zeroValue5
 t9 := Tryz.underlying9
 a9 := Tryz.isAgg9
 z9 := Tryz.sizeOf9
 v9 := Tryz.zeroValue9
 t20 := Tryz.underlying20
 a20 := Tryz.isAgg20
 z20 := Tryz.sizeOf20
 v20 := Tryz.zeroValue20
 t37 := Tryz.underlying62
 a37 := Tryz.isAgg62
 z37 := Tryz.sizeOf62
 v37 := Tryz.zeroValue62
 t46 := Tryz.underlying227
 a46 := Tryz.isAgg227
 z46 := Tryz.sizeOf227
 v46 := Tryz.zeroValue227
 t51 := Tryz.underlying179
 a51 := Tryz.isAgg179
 z51 := Tryz.sizeOf179
 v51 := Tryz.zeroValue179
 t53 := Tryz.underlying199
 a53 := Tryz.isAgg199
 z53 := Tryz.sizeOf199
 v53 := Tryz.zeroValue199
 t70 := Tryz.underlying61
 a70 := Tryz.isAgg61
 z70 := Tryz.sizeOf61
 v70 := Tryz.zeroValue61
 t72 := Tryz.underlying64
 a72 := Tryz.isAgg64
 z72 := Tryz.sizeOf64
 v72 := Tryz.zeroValue64
 t75 := Tryz.underlying66
 a75 := Tryz.isAgg66
 z75 := Tryz.sizeOf66
 v75 := Tryz.zeroValue66
 t76 := Tryz.underlying67
 a76 := Tryz.isAgg67
 z76 := Tryz.sizeOf67
 v76 := Tryz.zeroValue67
 t109 := Tryz.underlying277
 a109 := Tryz.isAgg277
 z109 := Tryz.sizeOf277
 v109 := Tryz.zeroValue277
 t127 := Tryz.underlying117
 a127 := Tryz.isAgg117
 z127 := Tryz.sizeOf117
 v127 := Tryz.zeroValue117
 t146 := Tryz.underlying282
 a146 := Tryz.isAgg282
 z146 := Tryz.sizeOf282
 v146 := Tryz.zeroValue282
 t148 := Tryz.underlying298
 a148 := Tryz.isAgg298
 z148 := Tryz.sizeOf298
 v148 := Tryz.zeroValue298
 t164 := Tryz.underlying156
 a164 := Tryz.isAgg156
 z164 := Tryz.sizeOf156
 v164 := Tryz.zeroValue156 }
end Go.Proofs.YtimjmjmpaicdbaaGreatDoor
namespace Go.Proofs.YtimjmjmpaicdbaaGreatDoor
open Go.RowKit Go.Sort Go.Shelf
namespace Tx
abbrev Tab (w : World) : Prop := Lib.TabIs Tryz.prog w "internal/strconv.uint64pow10" .u64 Lib.pow10Tab
theorem tab_global : Tryz.prog.globalNamed "internal/strconv.uint64pow10" = some 1 := by kernel_rfl
theorem tab_below {w w' : World} (h : Tab w) (hb : Below w.heap.size w w') : Tab w' := TabIs_below tab_global h hb
theorem tab_of_laid {W : World} {x y : String × DataW Unit} {rest : List (String × DataW Unit)} (h : laidMet Tryz.prog (x :: y :: ("internal/strconv.uint64pow10", Lib.tabData .u64 Lib.pow10Tab) :: rest) W) : Tab W :=
 Lib.tabIs_of_head (t := 225) (e := 199) (n := 20) tab_global (by kernel_rfl) (by kernel_rfl) (by kernel_rfl) (by kernel_rfl) (by kernel_rfl) h.tail.tail
end Tx
theorem itoa_small (i : Nat) (hi : i < 100) (w : World) : Calls Tryz.prog 28 #[.int .i64 i] w fun e w' => e = .returned (.string ⟨(Lib.decDigits i).toArray⟩) ∧ w' = w := Any.strconv_Itoa_small Lay.itoaS i hi w
theorem itoa_any (n : Int) (h0 : -9223372036854775808 ≤ n) (h1 : n ≤ 9223372036854775807) (w : World) (ht : Tx.Tab w) : Calls Tryz.prog 28 #[.int .i64 n] w fun e w' => e = .returned (.string ⟨(Lib.itoa n).toArray⟩) ∧ ∃ k os, w' = grow (w.drewN k) os := Any.strconv_Itoa Lay.itoaM n h0 h1 w ht
end Go.Proofs.YtimjmjmpaicdbaaGreatDoor
namespace Go.Proofs.YtimjmjmpaicdbaaGreatDoor
open Go.RowKit Go.Sort
theorem guess (n : Int) (h1 : 0 ≤ n) (h2 : n ≤ 73048) : Cal.bef (1900 + n / 366) ≤ n ∧ 1900 + n / 366 ≤ 2099 := by
 unfold Cal.bef; omega
theorem bef_lt (n y : Int) (h : Cal.bef y ≤ n) (h2 : n ≤ 73048) : y ≤ 2099 := by
 by_cases c : y ≤ 2099
 ·exact c
 ·have := Cal.bef_mono 2100 y (by omega); rw [Cal.bef_2100] at this; omega
theorem dateOf_yes (n : Int) (w : World) (h1 : 0 ≤ n) (h2 : n ≤ 73048) :
  Calls Tryz.prog 101 #[.int .i64 n] w fun e w' => ∃ y m d : Int, Cal.vld y m d = true ∧ Cal.num y m d = n ∧ e = .returned (.tuple #[.agg #[.int .i64 y, .int .i64 m, .int .i64 d], .int .i64 0]) ∧ Below w.heap.size w w' := by
 obtain ⟨g1, g2⟩ := guess n h1 h2
 go_enter Tryz.func101, Tryz.ntmps101
 go_wp2_with (go_at_call 156; refine (outside_no _ _ _ _ (by omega) (by omega)).mono ?_; rintro e w' ⟨rfl, rfl⟩)
 go_loopg [] (2099 - (1900 + n / 366)).toNat (fun gk wr => ∃ y : Int, 1900 ≤ y ∧ y ≤ 2099 ∧ Cal.bef y ≤ n ∧ gk = (2099 - y).toNat ∧ wr = (w.alloc (.cells #[.int .i64 0, .int .i64 0, .int .i64 0] 138)).alloc (.cells #[.int .i64 y, .int .i64 1, .int .i64 0] 138))
 case atStart => exact ⟨1900 + n / 366, by omega, g2, g1, rfl, rfl⟩
 case round =>
  obtain ⟨y, hy1, hy2, hy3, rfl, rfl⟩ := hrel
  clear g1 g2
  by_cases hc : Cal.bef (y + 1) ≤ n
  ·have hy4 := bef_lt n (y + 1) hc h2
   go_wp2_with (go_at_call 157; refine (before_any _ _ (by omega) (by omega)).mono ?_; rintro e w' ⟨rfl, rfl⟩)
   go_roundg (2099 - (y + 1)).toNat
   case rel => exact ⟨y + 1, by omega, by omega, hc, rfl, rfl⟩
   case measure => omega
  ·have hs := Cal.bef_succ y
   have hb := bef_bd y hy1 (by omega)
   have hl := Cal.lp_01 y
   go_wp2_with (go_at_call 157; refine (before_any _ _ (by omega) (by omega)).mono ?_; rintro e w' ⟨rfl, rfl⟩)
   clear hs
   go_loopg [5] 12 (fun gk r wr => ∃ m : Int, 1 ≤ m ∧ m ≤ 12 ∧ gk = (13 - m).toNat ∧ r = .int .i64 (n - Cal.bef y - Cal.cum y m) ∧ 0 ≤ n - Cal.bef y - Cal.cum y m ∧ Blk wr (w.heap.size + 1) #[.int .i64 y, .int .i64 m, .int .i64 0] 138 ∧
     Blk wr w.heap.size #[.int .i64 0, .int .i64 0, .int .i64 0] 138 ∧ Below w.heap.size w wr)
   case atStart => exact ⟨1, by omega, by omega, rfl, by rw [Cal.cum_1]; simp, by rw [Cal.cum_1]; omega, by have := Blk.new (w.alloc (.cells #[.int .i64 0, .int .i64 0, .int .i64 0] 138)) #[.int .i64 y, .int .i64 1, .int .i64 0] 138; simpa using this, (Blk.new _ _ _).alloc _, ((Below.refl _ _).alloc (Nat.le_refl _) _).alloc (by simp) _⟩
   case round =>
    obtain ⟨m, hm1, hm2, rfl, rfl, hr, hD, hR, hB⟩ := hrel
    have hbd := Cal.cum_bd y m hm1 (by omega)
    have hn := Cal.len_bd y m
    obtain ⟨c0, c1, c2⟩ := hD.three
    have cf := hD.free
    have hl := Cal.lp_01 y
    have h13 := Cal.cum_mono y m 13 hm1 (by omega) (by omega)
    rw [Cal.cum_13] at h13
    by_cases hlt : Cal.len y m ≤ n - Cal.bef y - Cal.cum y m
    ·have hm3 : m < 12 := by
      by_cases e : m = 12
      ·subst e; have := Cal.cum_succ y 12 (by omega) (by omega); rw [show (12 : Int) + 1 = 13 from rfl, Cal.cum_13] at this; have := Cal.bef_succ y; omega
      ·omega
     clear hc
     go_wp2_with (go_at_call 158; refine (lengthOf_any _ _ _ (by omega) (by omega) (by omega)).mono ?_; rintro e w' ⟨rfl, hB3⟩; have hD := hD.keep hB3; have hR := hR.keep hB3; have hB := below_up hB hB3; obtain ⟨c0, c1, c2⟩ := hD.three; have cf := hD.free)
     have hs := Cal.cum_succ y m hm1 (by omega)
     go_roundg (13 - (m + 1)).toNat
     case rel => exact ⟨m + 1, by omega, by omega, rfl, by rw [hs]; go_num, by rw [hs]; omega, by have := hD.set 1 (.int .i64 (m + 1)); simpa using this, hR.setOther (by simp) _, hB.setCell (by simp) _⟩
     case measure => omega
    ·clear hc
     obtain ⟨r0, r1, r2⟩ := hR.three
     have rf := hR.free
     go_wp2_with (go_at_call 158; refine (lengthOf_any _ _ _ (by omega) (by omega) (by omega)).mono ?_; rintro e w' ⟨rfl, hB3⟩; have hD := hD.keep hB3; have hR := hR.keep hB3; have hB := below_up hB hB3; obtain ⟨c0, c1, c2⟩ := hD.three; have cf := hD.free; obtain ⟨r0, r1, r2⟩ := hR.three; have rf := hR.free)
     have hF := (((hR.setOther (a := ⟨w.heap.size + 1, 2, none⟩) (by simp) (.int .i64 (n - Cal.bef y - Cal.cum y m + 1))).set 0 (.int .i64 y)).set 1 (.int .i64 m)).set 2 (.int .i64 (n - Cal.bef y - Cal.cum y m + 1))
     obtain ⟨f0, f1, f2⟩ := Blk.three (by simpa using hF)
     refine bodyPost_ret (v := .tuple #[.agg #[.int .i64 y, .int .i64 m, .int .i64 (n - Cal.bef y - Cal.cum y m + 1)], .int .i64 0]) (by simp [results, Tryz.results101, go_sem, f0, f1, f2]) rfl ⟨y, m, _, ?_, ?_, rfl, ?_⟩
     ·exact (Cal.vld_iff _ _ _).2 ⟨by omega, by omega, hm1, hm2, by omega, by omega⟩
     ·unfold Cal.num; omega
     ·exact (((hB.setCell (by simp) _).setCell (Nat.le_refl _) _).setCell (Nat.le_refl _) _).setCell (Nat.le_refl _) _
end Go.Proofs.YtimjmjmpaicdbaaGreatDoor
namespace Go.Proofs.YtimjmjmpaicdbaaGreatDoor
open Go.RowKit Go.Sort Go.Shelf
namespace Tx
def P2 (n : Int) : ByteArray := mk (pad n.toNat 2)
def Y4 (n : Int) : ByteArray := mk (pad n.toNat 4)
theorem P2_size {n : Int} (h0 : 0 ≤ n) (h : n < 100) : (P2 n).size = 2 := by
 unfold P2; rw [mk_size]; exact pad_len (by by_cases c : n.toNat < 10; rw [dl_one c]; omega; rw [dl_two (by omega) (by omega)]; omega)
theorem Y4_size {n : Int} (h0 : 1000 ≤ n) (h : n < 10000) : (Y4 n).size = 4 := by
 unfold Y4; rw [mk_size]; exact pad_len (by rw [dl_four (by omega) (by omega)]; omega)
end Tx
theorem repeat_zero (w : World) : Calls Tryz.prog 224 #[.string ⟨#[48]⟩, .int .i64 0] w fun e w' => e = .returned (.string ⟨#[]⟩) ∧ w' = w := Any.strings_Repeat_zero Lay.repeatS ⟨#[48]⟩ w
theorem repeat_one (w : World) : Calls Tryz.prog 224 #[.string ⟨#[48]⟩, .int .i64 1] w fun e w' => e = .returned (.string ⟨#[48]⟩) ∧ w' = w := Any.strings_Repeat_one Lay.repeatS ⟨#[48]⟩ w
theorem padded2_is (n : Int) (h0 : 0 ≤ n) (h1 : n < 100) (w : World) :
  Calls Tryz.prog 192 #[.int .i64 n, .int .i64 2] w fun e w' => e = .returned (.string (Tx.P2 n)) ∧ w' = w := by
 obtain ⟨i, rfl⟩ := Int.eq_ofNat_of_zero_le h0
 have HI := Lib.hid (itoa_small i (by omega) w)
 have hlen : (ByteArray.mk (Lib.decDigits i).toArray).size = Tx.dl i := by simp [ByteArray.size, Tx.dl]
 unfold Tx.P2
 rw [Int.toNat_natCast]
 unfold Tx.pad
 by_cases c : i < 10
 ·have HR := Lib.hid (repeat_one w)
  rw [Tx.dl_one c] at hlen ⊢
  have e : ByteArray.mk #[48] ++ ByteArray.mk (Lib.decDigits i).toArray = Tx.mk (List.replicate (2 - 1) 48 ++ Lib.decDigits i) := by
   rw [show ByteArray.mk #[48] = Tx.mk [48] from rfl, Tx.mk_append]; rfl
  generalize ByteArray.mk (Lib.decDigits i).toArray = s at *
  have hs : s.size = 1 := hlen
  go_enter Tryz.func192, Tryz.ntmps192
  go_wp2_with (first | (go_at_call 28; refine HI.out.mono ?_; rintro e w' ⟨rfl, rfl⟩) | (go_at_call 224; refine HR.out.mono ?_; rintro e w' ⟨rfl, rfl⟩))
  go_ret
  exact ⟨rfl, rfl⟩
 ·have HR := Lib.hid (repeat_zero w)
  rw [Tx.dl_two (by omega) (by omega)] at hlen ⊢
  have e : ByteArray.mk #[] ++ ByteArray.mk (Lib.decDigits i).toArray = Tx.mk (List.replicate (2 - 2) 48 ++ Lib.decDigits i) := by
   rw [show ByteArray.mk #[] = Tx.mk [] from rfl, Tx.mk_append]; rfl
  generalize ByteArray.mk (Lib.decDigits i).toArray = s at *
  have hs : s.size = 2 := hlen
  go_enter Tryz.func192, Tryz.ntmps192
  go_wp2_with (first | (go_at_call 28; refine HI.out.mono ?_; rintro e w' ⟨rfl, rfl⟩) | (go_at_call 224; refine HR.out.mono ?_; rintro e w' ⟨rfl, rfl⟩))
  go_ret
  exact ⟨rfl, rfl⟩
theorem padded4_is (n : Int) (h0 : 1000 ≤ n) (h1 : n < 10000) (w : World) (ht : Tx.Tab w) :
  Calls Tryz.prog 192 #[.int .i64 n, .int .i64 4] w fun e w' => e = .returned (.string (Tx.Y4 n)) ∧ Below w.heap.size w w' := by
 obtain ⟨i, rfl⟩ := Int.eq_ofNat_of_zero_le (show 0 ≤ n by omega)
 have HI := Lib.hid (itoa_any i (by omega) (by omega) w ht)
 rw [Lib.itoa_nonneg] at HI
 have hlen : (ByteArray.mk (Lib.decDigits i).toArray).size = Tx.dl i := by simp [ByteArray.size, Tx.dl]
 unfold Tx.Y4
 rw [Int.toNat_natCast]
 unfold Tx.pad
 have HR := Lib.hid (fun W => repeat_zero W)
 rw [Tx.dl_four (by omega) (by omega)] at hlen ⊢
 have e : ByteArray.mk #[] ++ ByteArray.mk (Lib.decDigits i).toArray = Tx.mk (List.replicate (4 - 4) 48 ++ Lib.decDigits i) := by
  rw [show ByteArray.mk #[] = Tx.mk [] from rfl, Tx.mk_append]; rfl
 generalize ByteArray.mk (Lib.decDigits i).toArray = s at *
 have hs : s.size = 4 := hlen
 go_enter Tryz.func192, Tryz.ntmps192
 go_wp2_with (first | (go_at_call 28; refine HI.out.mono ?_; rintro e w' ⟨rfl, k, os, rfl⟩) | (go_at_call 224; refine (HR.out _).mono ?_; rintro e w' ⟨rfl, rfl⟩))
 go_ret
 exact ⟨rfl, rfl, rfl, rfl, by simp [grow], fun j hj => by simp [grow, Array.getElem?_append, hj]⟩
namespace Tx
def D (y m d : Int) (sep : ByteArray) : ByteArray := Y4 y ++ sep ++ P2 m ++ sep ++ P2 d
def LT (y m d s : Int) (sep mid : ByteArray) : ByteArray := D y m d sep ++ mid ++ P2 (s / 3600) ++ ⟨#[58]⟩ ++ P2 (s / 60 % 60) ++ ⟨#[58]⟩ ++ P2 (s % 60)
end Tx
theorem dateText_is (y m d : Int) (sep : ByteArray) (hy : 1900 ≤ y ∧ y ≤ 2099) (hm : 1 ≤ m ∧ m ≤ 12) (hd : 1 ≤ d ∧ d ≤ 31) (hs : sep.size = 1) (w : World) (ht : Tx.Tab w) :
  Calls Tryz.prog 159 #[.agg #[.int .i64 y, .int .i64 m, .int .i64 d], .string sep] w fun e w' => e = .returned (.string (Tx.D y m d sep)) ∧ Below w.heap.size w w' := by
 obtain ⟨W1, hW1, hP, hz1, hB⟩ := box w #[.int .i64 y, .int .i64 m, .int .i64 d] 138
 have HW1 := Lib.hid hW1
 obtain ⟨c0, c1, c2⟩ := hP.three
 have ht1 := Tx.tab_below ht hB
 have HY : Hid (∀ d os, Calls Tryz.prog 192 #[.int .i64 y, .int .i64 4] (grow (redrawn W1 d) os) fun e w'' => e = .returned (.string (Tx.Y4 y)) ∧ ∃ p : Regrown, w'' = grow (redrawn W1 p.d) p.os) :=
  fun d os => Calls.regrown_of (padded4_is y (by omega) (by omega) _ (Tx.tab_below ht1 (below_regrown W1 d os)))
 have two : ∀ x : Int, 0 ≤ x → x < 100 → Hid (∀ d os, Calls Tryz.prog 192 #[.int .i64 x, .int .i64 2] (grow (redrawn W1 d) os) fun e w'' => e = .returned (.string (Tx.P2 x)) ∧ ∃ p : Regrown, w'' = grow (redrawn W1 p.d) p.os) :=
  fun x h0 h1 d os => Calls.regrown_of ((padded2_is x h0 h1 _).mono fun e w' ⟨he, hw⟩ => ⟨he, by rw [hw]; exact Below.refl _ _⟩)
 have HM := two m (by omega) (by omega)
 have HD := two d (by omega) (by omega)
 have ys := Tx.Y4_size (n := y) (by omega) (by omega)
 have ms := Tx.P2_size (n := m) (by omega) (by omega)
 have ds := Tx.P2_size (n := d) (by omega) (by omega)
 unfold Tx.D
 generalize Tx.Y4 y = A at *
 generalize Tx.P2 m = B at *
 generalize Tx.P2 d = E at *
 clear hW1 two ht ht1 hP hy hm hd
 go_enter Tryz.func159, Tryz.ntmps159
 go_wp2_with fail
 rw [HW1.out]
 have k0 := cell_regrown c0
 have k1 := cell_regrown c1
 have k2 := cell_regrown c2
 refine wp_region_quiet_below (by kernel_rfl) (by kernel_rfl) ?_
 repeat (go_big_quiet_step ((go_at_call 192; first | with_reducible exact HY.out _ _ | with_reducible exact HM.out _ _ | with_reducible exact HD.out _ _)))
 refine wpQuiet_nil ?_
 intro _ hw'
 obtain ⟨⟨dq, osq⟩, hw''⟩ := hw'
 subst hw''
 have hBw2 := below_regrown W1 dq osq
 generalize grow (redrawn W1 dq) osq = w2 at *
 clear dq osq
 go_wp2_with fail
 go_ret
 exact ⟨rfl, below_up hB hBw2⟩
namespace Tx
def mag (z : Int) : Int := max z (-z)
def sgn (z : Int) : ByteArray := if z < 0 then ⟨#[45]⟩ else ⟨#[43]⟩
def ST (y m d s z : Int) : ByteArray := LT y m d s ⟨#[45]⟩ ⟨#[84]⟩ ++ sgn z ++ P2 (mag z / 60) ++ ⟨#[58]⟩ ++ P2 (mag z % 60)
def StampIs (t z : Int) (s : ByteArray) : Prop := ∃ y m d, Cal.vld y m d = true ∧ Cal.num y m d = (t + 60 * z) / 86400 ∧ s = ST y m d ((t + 60 * z) % 86400) z
end Tx
end Go.Proofs.YtimjmjmpaicdbaaGreatDoor
namespace Go.Proofs.YtimjmjmpaicdbaaGreatDoor
open Go.RowKit Go.Sort
namespace Tx
open Go.Lib
theorem dig1 {n : Nat} (h : n < 10) : decDigits n = [UInt8.ofNat (48 + n)] := by rw [decDigits, dif_pos h]
theorem digs {n : Nat} (h : 10 ≤ n) : decDigits n = decDigits (n / 10) ++ [UInt8.ofNat (48 + n % 10)] := by rw [decDigits, dif_neg (by omega)]
end Tx
theorem told_is (i : Nat) (h1 : i ≤ 9223372036854775807) (w : World) :
  Calls Tryz.prog 36 #[.int .i64 i] w fun e w' => e = .returned (.string (Tx.mk (Lib.decDigits i))) ∧ Below w.heap.size w w' := by
 have hdl := Tx.dl_le i h1
 go_enter Tryz.func36, Tryz.ntmps36
 go_wp2_with fail
 go_loopg [0, 3] i (fun gk a s wr => ∃ (k : Nat) (l : List UInt8), gk = k ∧ a = .int .i64 k ∧ s = .string (Tx.mk l) ∧ k ≤ i ∧ Lib.decDigits i = Lib.decDigits k ++ l ∧ Below w.heap.size w wr)
 case atStart => exact ⟨i, [], rfl, rfl, rfl, by omega, by simp, Below.refl _ _⟩
 case round =>
  obtain ⟨_, l, rfl, rfl, rfl, hki, hl, hB⟩ := hrel
  have hll : l.length ≤ 19 := by have := congrArg List.length hl; rw [List.length_append] at this; unfold Tx.dl at hdl; omega
  have hd : (UInt8.ofNat (48 + gk % 10)).toNat = 48 + gk % 10 := by simp only [UInt8.toNat_ofNat']; omega
  have hconv : (convert 62 9 (.slice (some ⟨wr.heap.size, 0, none⟩) 1 1)).run Tryz.prog (wr.alloc (.cells #[.int .u8 (48 + (gk : Int) % 10)] 5)) = .ok (.string (Tx.mk [UInt8.ofNat (48 + gk % 10)])) (wr.alloc (.cells #[.int .u8 (48 + (gk : Int) % 10)] 5)) :=
   run_convert_bytes_back _ 62 9 5 ⟨wr.heap.size, 0, none⟩ 1 [UInt8.ofNat (48 + gk % 10)] Tryz.underlying62 Tryz.underlying5 Tryz.underlying9 (fun j hj => by
    obtain rfl : j = 0 := by simpa using hj
    refine ((Blk.new wr #[.int .u8 (48 + (gk : Int) % 10)] 5).one).trans ?_
    simp only [List.getElem_cons_zero, hd]; rfl)
  have hcat : ∀ W, (Op.stringOp .add (Tx.mk [UInt8.ofNat (48 + gk % 10)]) (Tx.mk l)).run Tryz.prog W = .ok (.string (Tx.mk (UInt8.ofNat (48 + gk % 10) :: l))) W := fun W => by
   rw [run_string_add_sum W _ _ (by rw [Tx.mk_size, Tx.mk_size]; simp; omega), Tx.mk_append]; rfl
  have HL := Lib.hid hl
  have hB2 := hB.alloc hB.size (.cells #[.int .u8 (48 + (gk : Int) % 10)] 5)
  generalize Tx.mk [UInt8.ofNat (48 + gk % 10)] = D at *
  generalize hm : Tx.mk l = M at *
  generalize hm2 : Tx.mk (UInt8.ofNat (48 + gk % 10) :: l) = M2 at *
  have HM2 := Lib.hid hm2
  clear hm2 hl hd
  by_cases hk : gk < 10
  ·have hk0 : (gk : Int) / 10 = 0 := by omega
   have HE : Hid (Lib.decDigits i = UInt8.ofNat (48 + gk % 10) :: l) := by
    show _ = _
    rw [HL.out, Tx.dig1 hk, Nat.mod_eq_of_lt hk]; rfl
   go_wp2_with fail
   go_ret
   exact ⟨by rw [HE.out, HM2.out]; rfl, hB2⟩
  ·have HE : Hid (Lib.decDigits i = Lib.decDigits (gk / 10) ++ UInt8.ofNat (48 + gk % 10) :: l) := by
    show _ = _
    rw [HL.out, Tx.digs (by omega), List.append_assoc]; rfl
   go_wp2_with fail
   go_roundg (gk / 10)
   case rel => exact ⟨gk / 10, _, rfl, by go_num, by rw [← HM2.out], by omega, HE.out, hB2⟩
   case measure => omega
end Go.Proofs.YtimjmjmpaicdbaaGreatDoor
namespace Go.Proofs.YtimjmjmpaicdbaaGreatDoor
open Go.RowKit Go.Sort Go.Shelf
namespace Tx
open Go.Lib
theorem pad2_val {n : Nat} (h : n < 100) : pad n 2 = [UInt8.ofNat (48 + n / 10), UInt8.ofNat (48 + n % 10)] := by
 unfold pad
 by_cases c : n < 10
 ·rw [dl_one c, dig1 c, Nat.div_eq_of_lt c, Nat.mod_eq_of_lt c]; rfl
 ·rw [dl_two (by omega) h, digs (by omega), dig1 (by omega)]; rfl
theorem pad4_val {n : Nat} (h0 : 1000 ≤ n) (h : n < 10000) : pad n 4 = [UInt8.ofNat (48 + n / 1000), UInt8.ofNat (48 + n / 100 % 10), UInt8.ofNat (48 + n / 10 % 10), UInt8.ofNat (48 + n % 10)] := by
 unfold pad
 rw [dl_four h0 h, digs (by omega), digs (by omega), digs (by omega), dig1 (by omega), show n / 10 / 10 / 10 = n / 1000 by omega, show n / 10 / 10 = n / 100 by omega]; rfl
end Tx
theorem toldPad_is (n : Int) (h0 : 0 ≤ n) (h1 : n < 100) (w : World) :
  Calls Tryz.prog 104 #[.int .i64 n, .int .i64 2] w fun e w' => e = .returned (.string (Tx.P2 n)) ∧ Below w.heap.size w w' := by
 obtain ⟨i, rfl⟩ := Int.eq_ofNat_of_zero_le h0
 have HT := Lib.hid (told_is i (by omega) w)
 have hlen : (Tx.mk (Lib.decDigits i)).size = Tx.dl i := by rw [Tx.mk_size]; rfl
 unfold Tx.P2
 rw [Int.toNat_natCast]
 unfold Tx.pad
 by_cases c : i < 10
 ·rw [Tx.dl_one c] at hlen ⊢
  have e : ByteArray.mk #[48] ++ Tx.mk (Lib.decDigits i) = Tx.mk (List.replicate (2 - 1) 48 ++ Lib.decDigits i) := by
   rw [show ByteArray.mk #[48] = Tx.mk [48] from rfl, Tx.mk_append]; rfl
  have e2 : (Tx.mk (List.replicate (2 - 1) 48 ++ Lib.decDigits i)).size = 2 := by rw [← e, ByteArray.size_append, hlen]; rfl
  have hcat : ∀ W, (Op.stringOp .add ⟨#[48]⟩ (Tx.mk (Lib.decDigits i))).run Tryz.prog W = .ok (.string (Tx.mk (List.replicate (2 - 1) 48 ++ Lib.decDigits i))) W := fun W => by
   rw [run_string_add_sum W _ _ (by rw [hlen]; show 1 + 1 ≤ _; omega), e]
  generalize Tx.mk (List.replicate (2 - 1) 48 ++ Lib.decDigits i) = s2 at *
  generalize Tx.mk (Lib.decDigits i) = s at *
  go_enter Tryz.func104, Tryz.ntmps104
  go_wp2_with (go_at_call 36; refine HT.out.mono ?_; rintro e w' ⟨rfl, hB⟩)
  go_loopg [5] 1 (fun gk v wr => ((gk = 1 ∧ v = .string s) ∨ (gk = 0 ∧ v = .string s2)) ∧ w' = wr)
  case atStart => exact ⟨.inl ⟨rfl, rfl⟩, rfl⟩
  case round =>
   obtain ⟨⟨rfl, rfl⟩ | ⟨rfl, rfl⟩, rfl⟩ := hrel
   ·go_wp2_with fail
    go_roundg 0
    case rel => exact ⟨.inr ⟨rfl, rfl⟩, rfl⟩
    case measure => omega
   ·go_wp2_with fail
    go_ret
    exact ⟨rfl, hB⟩
 ·rw [Tx.dl_two (by omega) (by omega)] at hlen ⊢
  show Calls Tryz.prog 104 #[.int .i64 i, .int .i64 2] w fun e w' => e = .returned (.string (Tx.mk (Lib.decDigits i))) ∧ Below w.heap.size w w'
  generalize Tx.mk (Lib.decDigits i) = s at *
  go_enter Tryz.func104, Tryz.ntmps104
  go_wp2_with (go_at_call 36; refine HT.out.mono ?_; rintro e w' ⟨rfl, hB⟩)
  go_loopg [5] 0 (fun gk v wr => gk = 0 ∧ v = .string s ∧ w' = wr)
  case atStart => exact ⟨rfl, rfl, rfl⟩
  case round =>
   obtain ⟨rfl, rfl, rfl⟩ := hrel
   go_wp2_with fail
   go_ret
   exact ⟨rfl, hB⟩
end Go.Proofs.YtimjmjmpaicdbaaGreatDoor
namespace Go.Proofs.YtimjmjmpaicdbaaGreatDoor
open Go.RowKit Go.Sort
theorem vld_first (y m : Int) (h1 : 1900 ≤ y) (h2 : y ≤ 2099) (h3 : 1 ≤ m) (h4 : m ≤ 12) : Cal.vld y m 1 = true := by
 have := Cal.len_bd y m
 exact (Cal.vld_iff _ _ _).2 ⟨h1, h2, h3, h4, by omega, by omega⟩
theorem num_first (y m : Int) : Cal.num y m 1 = Cal.bef y + Cal.cum y m := by unfold Cal.num; omega
theorem vld_2100 (y : Int) (h : 2099 < y) : Cal.vld y 1 1 = false := by
 simp only [Cal.vld, decide_eq_false_iff_not]; omega
theorem dayFor_first (y m : Int) (w : World) (h1 : 1900 ≤ y) (h2 : y ≤ 2099) (h3 : 1 ≤ m) (h4 : m ≤ 12) :
  Calls Tryz.prog 152 #[.agg #[.int .i64 y, .int .i64 m, .int .i64 1]] w fun e w' => e = .returned (.int .i64 (Cal.bef y + Cal.cum y m)) ∧ Below w.heap.size w w' := by
 rw [← num_first]; exact dayFor_yes y m 1 w (vld_first y m h1 h2 h3 h4)
theorem dayFor_new (y : Int) (w : World) (h1 : 1900 ≤ y) (h2 : y ≤ 2099) :
  Calls Tryz.prog 152 #[.agg #[.int .i64 y, .int .i64 1, .int .i64 1]] w fun e w' => e = .returned (.int .i64 (Cal.bef y)) ∧ Below w.heap.size w w' := by
 have := dayFor_first y 1 w h1 h2 (by omega) (by omega)
 rwa [Cal.cum_1, Int.add_zero] at this
theorem dateFor_any (n : Int) (w : World) (h1 : 0 ≤ n) (h2 : n ≤ 73048) :
  Calls Tryz.prog 96 #[.int .i64 n] w fun e w' => ∃ y m d : Int, Cal.vld y m d = true ∧ Cal.num y m d = n ∧ e = .returned (.agg #[.int .i64 y, .int .i64 m, .int .i64 d]) ∧ Below w.heap.size w w' := by
 go_enter Tryz.func96, Tryz.ntmps96
 go_wp2_with fail
 go_loopg [] 199 (fun gk wr => ∃ y : Int, 1900 ≤ y ∧ y ≤ 2099 ∧ Cal.bef y ≤ n ∧ gk = (2099 - y).toNat ∧ Blk wr (w.heap.size + 1) #[.int .i64 y, .int .i64 1, .int .i64 1] 138 ∧
     Blk wr w.heap.size #[.int .i64 0, .int .i64 0, .int .i64 0] 138 ∧ Below w.heap.size w wr)
 case atStart => exact ⟨1900, by omega, by omega, by rw [Cal.bef_1900]; omega, rfl, by have := Blk.new (w.alloc (.cells #[.int .i64 0, .int .i64 0, .int .i64 0] 138)) #[.int .i64 1900, .int .i64 1, .int .i64 1] 138; simpa using this, (Blk.new _ _ _).alloc _, ((Below.refl _ _).alloc (Nat.le_refl _) _).alloc (by simp) _⟩
 case round =>
  obtain ⟨y, hy1, hy2, hy3, rfl, hD, hR, hB⟩ := hrel
  have hb := bef_bd y hy1 (by omega)
  have hb1 := bef_bd (y + 1) (by omega) (by omega)
  obtain ⟨c0, c1, c2⟩ := hD.three
  have cf := hD.free
  by_cases hc : Cal.bef (y + 1) ≤ n
  ·have hy4 := bef_lt n (y + 1) hc h2
   go_wp2_with (go_at_call 152; refine (dayFor_new _ _ (by omega) (by omega)).mono ?_; rintro e w' ⟨rfl, hB3⟩; have hD := hD.keep hB3; have hR := hR.keep hB3; have hB := below_up hB hB3; obtain ⟨c0, c1, c2⟩ := hD.three; have cf := hD.free; obtain ⟨r0, r1, r2⟩ := hR.three; have rf := hR.free)
   go_roundg (2099 - (y + 1)).toNat
   case rel => exact ⟨y + 1, by omega, by omega, hc, rfl, by have := hD.set 0 (.int .i64 (y + 1)); simpa using this, hR.setOther (by simp) _, hB.setCell (by simp) _⟩
   case measure => omega
  ·by_cases hy5 : y ≤ 2098
   all_goals
    first
     | (have hy6 : y ≤ 2098 := hy5; go_wp2_with (go_at_call 152; refine (dayFor_new _ _ (by omega) (by omega)).mono ?_; rintro e w' ⟨rfl, hB3⟩; have hD := hD.keep hB3; have hR := hR.keep hB3; have hB := below_up hB hB3; obtain ⟨c0, c1, c2⟩ := hD.three; have cf := hD.free; obtain ⟨r0, r1, r2⟩ := hR.three; have rf := hR.free))
     | (go_wp2_with (go_at_call 152; refine (dayFor_no _ _ _ _ (vld_2100 _ (by omega))).mono ?_; rintro e w' ⟨rfl, hB3⟩; have hD := hD.keep hB3; have hR := hR.keep hB3; have hB := below_up hB hB3; obtain ⟨c0, c1, c2⟩ := hD.three; have cf := hD.free; obtain ⟨r0, r1, r2⟩ := hR.three; have rf := hR.free))
    have hs := Lib.hid (Cal.bef_succ y)
    have hc' : n < Cal.bef (y + 1) := by omega
    clear hc hy5 hb1
    go_loopg [] 11 (fun gk wr => ∃ m : Int, 1 ≤ m ∧ m ≤ 12 ∧ Cal.bef y + Cal.cum y m ≤ n ∧ gk = (12 - m).toNat ∧ Blk wr (w.heap.size + 1) #[.int .i64 y, .int .i64 m, .int .i64 1] 138 ∧
     Blk wr w.heap.size #[.int .i64 0, .int .i64 0, .int .i64 0] 138 ∧ Below w.heap.size w wr)
    case atStart => exact ⟨1, by omega, by omega, by rw [Cal.cum_1]; omega, rfl, hD, hR, hB⟩
    case round =>
     obtain ⟨m, hm1, hm2, hm3, rfl, hD, hR, hB⟩ := hrel
     have hbd := Cal.cum_bd y m hm1 (by omega)
     have hn := Cal.len_bd y m
     have hl := Cal.lp_01 y
     obtain ⟨c0, c1, c2⟩ := hD.three
     have cf := hD.free
     by_cases hm : m < 12
     ·have hbd' := Cal.cum_bd y (m + 1) (by omega) (by omega)
      by_cases hc : Cal.bef y + Cal.cum y (m + 1) ≤ n
      ·go_wp2_with (go_at_call 152; refine (dayFor_first _ _ _ (by omega) (by omega) (by omega) (by omega)).mono ?_; rintro e w' ⟨rfl, hB3⟩; have hD := hD.keep hB3; have hR := hR.keep hB3; have hB := below_up hB hB3; obtain ⟨c0, c1, c2⟩ := hD.three; have cf := hD.free; obtain ⟨r0, r1, r2⟩ := hR.three; have rf := hR.free)
       go_roundg (12 - (m + 1)).toNat
       case rel => exact ⟨m + 1, by omega, by omega, hc, rfl, by have := hD.set 1 (.int .i64 (m + 1)); simpa using this, hR.setOther (by simp) _, hB.setCell (by simp) _⟩
       case measure => omega
      ·have hcs := Lib.hid (Cal.cum_succ y m hm1 hm2)
       go_wp2_with (go_at_call 152; refine (dayFor_first _ _ _ (by omega) (by omega) (by omega) (by omega)).mono ?_; rintro e w' ⟨rfl, hB3⟩; have hD := hD.keep hB3; have hR := hR.keep hB3; have hB := below_up hB hB3; obtain ⟨c0, c1, c2⟩ := hD.three; have cf := hD.free; obtain ⟨r0, r1, r2⟩ := hR.three; have rf := hR.free)
       have hnn : n < Cal.bef y + Cal.cum y (m + 1) := by omega
       have hF := (((hR.setOther (a := ⟨w.heap.size + 1, 2, none⟩) (by simp) (.int .i64 (n - (Cal.bef y + Cal.cum y m) + 1))).set 0 (.int .i64 y)).set 1 (.int .i64 m)).set 2 (.int .i64 (n - (Cal.bef y + Cal.cum y m) + 1))
       obtain ⟨f0, f1, f2⟩ := Blk.three (by simpa using hF)
       have hcs' := hcs.out
       refine bodyPost_ret (v := .agg #[.int .i64 y, .int .i64 m, .int .i64 (n - (Cal.bef y + Cal.cum y m) + 1)]) (by simp [results, Tryz.results96, go_sem, f0, f1, f2]) rfl ⟨y, m, _, ?_, ?_, rfl, ?_⟩
       ·exact (Cal.vld_iff _ _ _).2 ⟨by omega, by omega, hm1, hm2, by omega, by omega⟩
       ·unfold Cal.num; omega
       ·exact (((hB.setCell (by simp) _).setCell (Nat.le_refl _) _).setCell (Nat.le_refl _) _).setCell (Nat.le_refl _) _
     ·have hcs := Lib.hid (Cal.cum_succ y m hm1 hm2)
      have hnn : n < Cal.bef y + Cal.cum y (m + 1) := by
       obtain rfl : m = 12 := by omega
       rw [show (12 : Int) + 1 = 13 from rfl, Cal.cum_13]; have := hs.out; omega
      go_wp2_with (go_at_call 152; refine (dayFor_first _ _ _ (by omega) (by omega) (by omega) (by omega)).mono ?_; rintro e w' ⟨rfl, hB3⟩; have hD := hD.keep hB3; have hR := hR.keep hB3; have hB := below_up hB hB3; obtain ⟨c0, c1, c2⟩ := hD.three; have cf := hD.free; obtain ⟨r0, r1, r2⟩ := hR.three; have rf := hR.free)
      have hF := (((hR.setOther (a := ⟨w.heap.size + 1, 2, none⟩) (by simp) (.int .i64 (n - (Cal.bef y + Cal.cum y m) + 1))).set 0 (.int .i64 y)).set 1 (.int .i64 m)).set 2 (.int .i64 (n - (Cal.bef y + Cal.cum y m) + 1))
      obtain ⟨f0, f1, f2⟩ := Blk.three (by simpa using hF)
      have hcs' := hcs.out
      refine bodyPost_ret (v := .agg #[.int .i64 y, .int .i64 m, .int .i64 (n - (Cal.bef y + Cal.cum y m) + 1)]) (by simp [results, Tryz.results96, go_sem, f0, f1, f2]) rfl ⟨y, m, _, ?_, ?_, rfl, ?_⟩
      ·exact (Cal.vld_iff _ _ _).2 ⟨by omega, by omega, hm1, hm2, by omega, by omega⟩
      ·unfold Cal.num; omega
      ·exact (((hB.setCell (by simp) _).setCell (Nat.le_refl _) _).setCell (Nat.le_refl _) _).setCell (Nat.le_refl _) _
end Go.Proofs.YtimjmjmpaicdbaaGreatDoor
namespace Go.Proofs.YtimjmjmpaicdbaaGreatDoor
open Go.RowKit Go.Sort Go.Shelf
namespace Tx
theorem Y4_told {y : Nat} (h0 : 1000 ≤ y) (h1 : y < 10000) : mk (Lib.decDigits y) = Y4 y := by
 unfold Y4; rw [Int.toNat_natCast, pad_big (by rw [dl_four h0 h1]; omega)]
end Tx
theorem toldY_is (y : Int) (h0 : 1000 ≤ y) (h1 : y < 10000) (w : World) : Calls Tryz.prog 36 #[.int .i64 y] w fun e w' => e = .returned (.string (Tx.Y4 y)) ∧ Below w.heap.size w w' := by
 obtain ⟨i, rfl⟩ := Int.eq_ofNat_of_zero_le (show 0 ≤ y by omega)
 rw [← Tx.Y4_told (by omega) (by omega)]
 exact told_is i (by omega) w
end Go.Proofs.YtimjmjmpaicdbaaGreatDoor
namespace Go.Proofs.YtimjmjmpaicdbaaGreatDoor
namespace Ft
end Ft
namespace Dg
theorem ofNat_back (a : UInt8) (n : Nat) (h : n = a.toNat) : UInt8.ofNat n = a := by rw [h]; exact UInt8.ofNat_toNat
theorem isD_bd {a : UInt8} (h : isD a = true) : 48 ≤ a.toNat ∧ a.toNat ≤ 57 := by simpa [isD] using h
theorem two_back {l : List UInt8} (h : l.length = 2) (hd : allD l = true) : Tx.pad (val l) 2 = l := by
 match l, h with
 | [a, b], _ =>
   simp only [allD, List.all_cons, List.all_nil, Bool.and_true, Bool.and_eq_true] at hd
   have ha := isD_bd hd.1
   have hb := isD_bd hd.2
   have hv : val [a, b] = 10 * (a.toNat - 48) + (b.toNat - 48) := by show 10 * (10 * 0 + (a.toNat - 48)) + (b.toNat - 48) = _; omega
   rw [hv, Tx.pad2_val (by omega), ofNat_back a _ (by omega), ofNat_back b _ (by omega)]
theorem four_back {l : List UInt8} (h : l.length = 4) (hd : allD l = true) (hv0 : 1000 ≤ val l) : Tx.pad (val l) 4 = l := by
 match l, h with
 | [a, b, c, d], _ =>
   simp only [allD, List.all_cons, List.all_nil, Bool.and_true, Bool.and_eq_true] at hd
   have ha := isD_bd hd.1
   have hb := isD_bd hd.2.1
   have hc := isD_bd hd.2.2.1
   have hd4 := isD_bd hd.2.2.2
   have hv : val [a, b, c, d] = 1000 * (a.toNat - 48) + 100 * (b.toNat - 48) + 10 * (c.toNat - 48) + (d.toNat - 48) := by
    show 10 * (10 * (10 * (10 * 0 + (a.toNat - 48)) + (b.toNat - 48)) + (c.toNat - 48)) + (d.toNat - 48) = _; omega
   rw [hv] at hv0
   rw [hv, Tx.pad4_val (by omega) (by omega), ofNat_back a _ (by omega), ofNat_back b _ (by omega), ofNat_back c _ (by omega), ofNat_back d _ (by omega)]
theorem pad2_read {n : Nat} (h : n < 100) : allD (Tx.pad n 2) = true ∧ val (Tx.pad n 2) = n := by
 rw [Tx.pad2_val h]
 have t : ∀ k, k < 10 → (UInt8.ofNat (48 + k)).toNat = 48 + k := fun k hk => by simp only [UInt8.toNat_ofNat']; omega
 have t1 := t (n / 10) (by omega)
 have t2 := t (n % 10) (by omega)
 constructor
 ·simp only [allD, List.all_cons, List.all_nil, Bool.and_true, Bool.and_eq_true, isD, decide_eq_true_eq]
  omega
 ·show 10 * (10 * 0 + ((UInt8.ofNat (48 + n / 10)).toNat - 48)) + ((UInt8.ofNat (48 + n % 10)).toNat - 48) = n
  omega
end Dg
namespace Ft
theorem win_join (s : List UInt8) {a b c : Nat} (h1 : a ≤ b) (h2 : b ≤ c) : win s a b ++ win s b c = win s a c := by
 unfold win
 rw [show c - a = (b - a) + (c - b) by omega, List.take_add, List.drop_drop, show a + (b - a) = b by omega]
theorem win_one (s : List UInt8) (a : Nat) (x : UInt8) (h : s[a]? = some x) : win s a (a + 1) = [x] := by
 obtain ⟨h1, h2⟩ := List.getElem?_eq_some_iff.1 h
 unfold win
 rw [List.drop_eq_getElem_cons h1, show a + 1 - a = 1 by omega, h2]; rfl
theorem win_all (s : List UInt8) (n : Nat) (h : s.length = n) : win s 0 n = s := by
 unfold win; rw [List.drop_zero, Nat.sub_zero, ← h, List.take_length]
theorem win_win (s : List UInt8) (a b c d : Nat) (h : a + d ≤ b) : win (win s a b) c d = win s (a + c) (a + d) := by
 unfold win
 rw [List.drop_take, List.take_take, List.drop_drop, show a + d - (a + c) = d - c by omega, Nat.min_eq_left (by omega)]
theorem win_at (s : List UInt8) (a b j : Nat) (h : a + j < b) : (win s a b)[j]? = s[a + j]? := by
 unfold win
 rw [List.getElem?_take, if_pos (by omega), List.getElem?_drop]
end Ft
namespace Rs
def zone (s : List UInt8) : Int := if s[19]? = some 45 then -(60 * Sc.fx s 20 22 + Sc.fx s 23 25) else 60 * Sc.fx s 20 22 + Sc.fx s 23 25
def loc (s : List UInt8) : Int := Sc.secs (Ft.win s 0 19) 45 84
def shape (s : List UInt8) : Prop := s.length = 25 ∧ s[22]? = some 58 ∧ (s[19]? = some 43 ∨ s[19]? = some 45)
def parts (s : List UInt8) : Prop := 0 ≤ loc s ∧ 0 ≤ Sc.fx s 20 22 ∧ 0 ≤ Sc.fx s 23 25 ∧ Sc.fx s 23 25 ≤ 59
def fine (s : List UInt8) : Prop := 60 * Sc.fx s 20 22 + Sc.fx s 23 25 ≤ 840 ∧ (0 ≤ loc s - 60 * zone s ∧ loc s - 60 * zone s ≤ 6311433599) ∧ ¬ (s[19]? = some 45 ∧ zone s = 0)
instance (s : List UInt8) : Decidable (shape s) := by unfold shape; infer_instance
instance (s : List UInt8) : Decidable (parts s) := by unfold parts; infer_instance
instance (s : List UInt8) : Decidable (fine s) := by unfold fine; infer_instance
def val (s : List UInt8) : Option (Int × Int) := if shape s ∧ parts s ∧ fine s then some (loc s - 60 * zone s, zone s) else none
theorem fx_dig {s : List UInt8} {a b : Nat} (h : 0 ≤ Sc.fx s a b) : Dg.allD (Ft.win s a b) = true ∧ Sc.fx s a b = (Dg.val (Ft.win s a b) : Int) := by
 unfold Sc.fx at h ⊢
 split at h
 ·rename_i hd; rw [if_pos hd]; exact ⟨hd, rfl⟩
 ·omega
theorem p2_back {s : List UInt8} {a b : Nat} (hl : (Ft.win s a b).length = 2) (h : 0 ≤ Sc.fx s a b) : Tx.P2 (Sc.fx s a b) = Tx.mk (Ft.win s a b) := by
 obtain ⟨h1, h2⟩ := fx_dig h
 rw [h2]; unfold Tx.P2; rw [Int.toNat_natCast, Dg.two_back hl h1]
theorem y4_back {s : List UInt8} {a b : Nat} (hl : (Ft.win s a b).length = 4) (h : 1000 ≤ Sc.fx s a b) : Tx.Y4 (Sc.fx s a b) = Tx.mk (Ft.win s a b) := by
 obtain ⟨h1, h2⟩ := fx_dig (s := s) (a := a) (b := b) (by omega)
 rw [h2] at h
 rw [h2]; unfold Tx.Y4; rw [Int.toNat_natCast, Dg.four_back hl h1 (by omega)]
theorem mk_inj {a b : List UInt8} (h : Tx.mk a = Tx.mk b) : a = b := by
 have := congrArg (fun x => x.data.toList) h
 simpa using this
theorem back {s : List UInt8} (hs : shape s) (hp : parts s) (hz : 60 * Sc.fx s 20 22 + Sc.fx s 23 25 ≤ 840) {t : ByteArray} (ht : Tx.StampIs (loc s - 60 * zone s) (zone s) t) : t = Tx.mk s ↔ ¬ (s[19]? = some 45 ∧ zone s = 0) := by
 obtain ⟨hl, h22, hsg⟩ := hs
 obtain ⟨hp0, hp1, hp2, hp3⟩ := hp
 have hb0 := Sc.fx_bd s 20 22 (by omega)
 have wl : ∀ a b, b ≤ 25 → (Ft.win s a b).length = b - a := fun a b h => Ft.win_len s a b (by omega)
 have hW := wl 0 19 (by omega)
 have hlo : loc s = Sc.tell (Sc.fx s 0 4) (Sc.fx s 5 7) (Sc.fx s 8 10) (Sc.fx s 11 13) (Sc.fx s 14 16) (Sc.fx s 17 19) ∧ Sc.good (Ft.win s 0 19) 45 84 := by
  unfold loc Sc.secs at hp0 ⊢
  split at hp0
  ·rename_i hg
   rw [if_pos hg]
   refine ⟨?_, hg⟩
   unfold Sc.fx
   rw [Ft.win_win s 0 19 0 4 (by omega), Ft.win_win s 0 19 5 7 (by omega), Ft.win_win s 0 19 8 10 (by omega), Ft.win_win s 0 19 11 13 (by omega), Ft.win_win s 0 19 14 16 (by omega), Ft.win_win s 0 19 17 19 (by omega)]
  ·omega
 obtain ⟨hlo, _, g4, g7, g10, g13, g16⟩ := hlo
 rw [Ft.win_at s 0 19 4 (by omega), Nat.zero_add] at g4
 rw [Ft.win_at s 0 19 7 (by omega), Nat.zero_add] at g7
 rw [Ft.win_at s 0 19 10 (by omega), Nat.zero_add] at g10
 rw [Ft.win_at s 0 19 13 (by omega), Nat.zero_add] at g13
 rw [Ft.win_at s 0 19 16 (by omega), Nat.zero_add] at g16
 obtain ⟨y, m, d, hv, hn, rfl⟩ := ht
 have hq : loc s - 60 * zone s + 60 * zone s = loc s := by omega
 rw [hq] at hn ⊢
 rw [hlo] at hp0
 unfold Sc.tell at hlo hp0
 split at hp0
 ·rename_i hh
  rw [if_pos hh] at hlo
  obtain ⟨hv', ⟨c1, c2⟩, ⟨c3, c4⟩, c5, c6⟩ := hh
  obtain ⟨v1, v2, v3, v4, v5, v6⟩ := (Cal.vld_iff _ _ _).1 hv'
  have e1 : Cal.num y m d = Cal.num (Sc.fx s 0 4) (Sc.fx s 5 7) (Sc.fx s 8 10) := by rw [hn, hlo]; omega
  obtain ⟨rfl, rfl, rfl⟩ := Cal.num_inj _ _ _ _ _ _ hv hv' e1
  have hmg : Tx.mag (zone s) = 60 * Sc.fx s 20 22 + Sc.fx s 23 25 := by unfold Tx.mag zone; split <;> omega
  have hd : loc s % 86400 = Sc.fx s 11 13 * 3600 + Sc.fx s 14 16 * 60 + Sc.fx s 17 19 := by rw [hlo]; omega
  have hj := fun a b c => Ft.win_join s (a := a) (b := b) (c := c)
  have es : Tx.mk s = Tx.mk (Ft.win s 0 19 ++ Ft.win s 19 20 ++ Ft.win s 20 25) := by
   rw [Ft.win_join s (by omega) (by omega), Ft.win_join s (by omega) (by omega), Ft.win_all s 25 hl]
  have e19 : Ft.win s 0 19 = Ft.win s 0 4 ++ [45] ++ Ft.win s 5 7 ++ [45] ++ Ft.win s 8 10 ++ [84] ++ Ft.win s 11 13 ++ [58] ++ Ft.win s 14 16 ++ [58] ++ Ft.win s 17 19 := by
   have w4 : Ft.win s 4 5 = [45] := Ft.win_one s 4 45 g4
   have w7 : Ft.win s 7 8 = [45] := Ft.win_one s 7 45 g7
   have w10 : Ft.win s 10 11 = [84] := Ft.win_one s 10 84 g10
   have w13 : Ft.win s 13 14 = [58] := Ft.win_one s 13 58 g13
   have w16 : Ft.win s 16 17 = [58] := Ft.win_one s 16 58 g16
   have e : Ft.win s 0 4 ++ Ft.win s 4 5 ++ Ft.win s 5 7 ++ Ft.win s 7 8 ++ Ft.win s 8 10 ++ Ft.win s 10 11 ++ Ft.win s 11 13 ++ Ft.win s 13 14 ++ Ft.win s 14 16 ++ Ft.win s 16 17 ++ Ft.win s 17 19 = Ft.win s 0 19 := by
    rw [hj 0 4 5 (by omega) (by omega), hj 0 5 7 (by omega) (by omega), hj 0 7 8 (by omega) (by omega), hj 0 8 10 (by omega) (by omega), hj 0 10 11 (by omega) (by omega), hj 0 11 13 (by omega) (by omega), hj 0 13 14 (by omega) (by omega), hj 0 14 16 (by omega) (by omega), hj 0 16 17 (by omega) (by omega), hj 0 17 19 (by omega) (by omega)]
   rw [w4, w7, w10, w13, w16] at e
   exact e.symm
  have e25 : Ft.win s 20 25 = Ft.win s 20 22 ++ [58] ++ Ft.win s 23 25 := by
   have w22 : Ft.win s 22 23 = [58] := Ft.win_one s 22 58 h22
   have e : Ft.win s 20 22 ++ Ft.win s 22 23 ++ Ft.win s 23 25 = Ft.win s 20 25 := by rw [hj 20 22 23 (by omega) (by omega), hj 20 23 25 (by omega) (by omega)]
   rw [w22] at e
   exact e.symm
  have eST : Tx.ST (Sc.fx s 0 4) (Sc.fx s 5 7) (Sc.fx s 8 10) (loc s % 86400) (zone s) = Tx.mk (Ft.win s 0 19 ++ (if zone s < 0 then [45] else [43]) ++ Ft.win s 20 25) := by
   rw [e19, e25]
   unfold Tx.ST Tx.LT Tx.D
   have q1 : loc s % 86400 / 3600 = Sc.fx s 11 13 := by omega
   have q2 : loc s % 86400 / 60 % 60 = Sc.fx s 14 16 := by omega
   have q3 : loc s % 86400 % 60 = Sc.fx s 17 19 := by omega
   have q4 : Tx.mag (zone s) / 60 = Sc.fx s 20 22 := by omega
   have q5 : Tx.mag (zone s) % 60 = Sc.fx s 23 25 := by omega
   have e45 : ByteArray.mk #[45] = Tx.mk [45] := rfl
   have e84 : ByteArray.mk #[84] = Tx.mk [84] := rfl
   have e58 : ByteArray.mk #[58] = Tx.mk [58] := rfl
   have esg : Tx.sgn (zone s) = Tx.mk (if zone s < 0 then [45] else [43]) := by unfold Tx.sgn; split <;> rfl
   rw [q1, q2, q3, q4, q5, esg, e45, e84, e58, y4_back (wl 0 4 (by omega)) (by omega), p2_back (wl 5 7 (by omega)) (by omega), p2_back (wl 8 10 (by omega)) (by omega), p2_back (wl 11 13 (by omega)) (by omega), p2_back (wl 14 16 (by omega)) (by omega), p2_back (wl 17 19 (by omega)) (by omega), p2_back (wl 20 22 (by omega)) (by omega), p2_back (wl 23 25 (by omega)) (by omega)]
   simp only [Tx.mk_append, List.append_assoc]
  rw [eST, es]
  have key : (Tx.mk (Ft.win s 0 19 ++ (if zone s < 0 then [45] else [43]) ++ Ft.win s 20 25) = Tx.mk (Ft.win s 0 19 ++ Ft.win s 19 20 ++ Ft.win s 20 25)) ↔ (if zone s < 0 then [45] else [43]) = Ft.win s 19 20 := by
   constructor
   ·intro h
    have h1 := mk_inj h
    rw [List.append_assoc, List.append_assoc] at h1
    have h2 := List.append_cancel_left h1
    exact List.append_cancel_right h2
   ·intro h; rw [h]
  rw [key]
  rcases hsg with h | h
  ·rw [Ft.win_one s 19 43 h, h]
   have : ¬ zone s < 0 := by unfold zone; rw [if_neg (by rw [h]; decide)]; omega
   rw [if_neg this]
   simp
  ·rw [Ft.win_one s 19 45 h, h]
   have hz0 : zone s = -(60 * Sc.fx s 20 22 + Sc.fx s 23 25) := by unfold zone; rw [if_pos h]
   by_cases c : zone s < 0
   ·rw [if_pos c]; simp; omega
   ·rw [if_neg c]; simp; omega
 ·omega
end Rs
namespace Sp
abbrev D3 := Int × Int × Int
def kind (s : List UInt8) : Option (D3 × D3) :=
 if s.length = 4 then (if 0 ≤ Sc.fx s 0 4 then some ((Sc.fx s 0 4, 1, 1), (Sc.fx s 0 4, 12, 31)) else none)
 else if s.length = 7 then (if 0 ≤ Sc.fx s 0 4 ∧ s[4]? = some 45 ∧ 0 ≤ Sc.fx s 5 7 then some ((Sc.fx s 0 4, Sc.fx s 5 7, 1), (Sc.fx s 0 4, Sc.fx s 5 7, Cal.len (Sc.fx s 0 4) (Sc.fx s 5 7))) else none)
 else if s.length = 10 then (if 0 ≤ Sc.fx s 0 4 ∧ s[4]? = some 45 ∧ 0 ≤ Sc.fx s 5 7 ∧ s[7]? = some 45 ∧ 0 ≤ Sc.fx s 8 10 then some ((Sc.fx s 0 4, Sc.fx s 5 7, Sc.fx s 8 10), (Sc.fx s 0 4, Sc.fx s 5 7, Sc.fx s 8 10)) else none)
 else none
def vld (d : D3) : Bool := Cal.vld d.1 d.2.1 d.2.2
def num (d : D3) : Int := Cal.num d.1 d.2.1 d.2.2
def outF (k : Option (D3 × D3)) : Int := match k with
 | some (a, b) => if vld a = true ∧ vld b = true then num a * 86400 else 0
 | none => 0
def outT (k : Option (D3 × D3)) : Int := match k with
 | some (a, b) => if vld a = true ∧ vld b = true then num b * 86400 + 86399 else 0
 | none => 0
def outE (k : Option (D3 × D3)) : Int := match k with
 | some (a, b) => if vld a = true ∧ vld b = true then 0 else 1
 | none => 8
theorem dig (s : List UInt8) (a b : Nat) : Dg.allD (Ft.win s a b) = true ↔ 0 ≤ Sc.fx s a b := ⟨fun h => by unfold Sc.fx; rw [if_pos h]; omega, fun h => (Rs.fx_dig h).1⟩
theorem val_fx {s : List UInt8} {a b : Nat} (h : Dg.allD (Ft.win s a b) = true) : (Dg.val (Ft.win s a b) : Int) = Sc.fx s a b := by unfold Sc.fx; rw [if_pos h]
def f4 : List UInt8 := [48, 48, 48, 48]
def f7 : List UInt8 := [48, 48, 48, 48, 45, 48, 48]
def f10 : List UInt8 := [48, 48, 48, 48, 45, 48, 48, 45, 48, 48]
theorem few4 : Ft.Few f4 := .inl (by decide)
theorem few7 : Ft.Few f7 := .inl (by decide)
theorem few10 : Ft.Few f10 := .inl (by decide)
theorem sep_iff {s form : List UInt8} {j n : Nat} {c : UInt8} (hf : form[j]? = some c) (hl : form.length = n) (hj : j < n) : (¬ (j < form.length ∧ s[j]? ≠ form[j]?)) ↔ s[j]? = some c := by
 rw [hf, hl]
 constructor
 ·intro hh
  by_cases e : s[j]? = some c
  ·exact e
  ·exact absurd ⟨hj, e⟩ hh
 ·rintro e ⟨_, hn⟩; exact hn e
theorem res4 (s : List UInt8) : Ft.res s f4 = if s.length = 4 ∧ 0 ≤ Sc.fx s 0 4 then some [Sc.fx s 0 4] else none := by
 by_cases hl : s.length = 4
 ·have e : Ft.res s f4 = Ft.go s f4 (0 + 1 + 4) 0 0 [] := by unfold Ft.res; rw [if_pos (show s.length = f4.length from hl)]; rfl
  have g0 := Ft.group (s := s) (form := f4) 4 0 0 [] (by omega) (fun i _ h => by match i, h with | 0, _ => rfl | 1, _ => rfl | 2, _ => rfl | 3, _ => rfl) (by show (none : Option UInt8) ≠ some 48; simp)
  rw [e, g0]
  by_cases h : Dg.allD (Ft.win s 0 4) = true
  ·rw [if_pos ⟨h, fun h => absurd h.1 (by show ¬ 0 + 4 < 4; omega)⟩, if_pos ⟨hl, (dig _ _ _).1 h⟩]
   show some [(Dg.val (Ft.win s 0 4) : Int)] = _
   rw [val_fx h]
  ·rw [if_neg (fun hh => h hh.1), if_neg (fun hh => h ((dig _ _ _).2 hh.2))]
 ·have e : Ft.res s f4 = none := by unfold Ft.res; rw [if_neg (by show ¬ s.length = 4; exact hl)]
  rw [e, if_neg (fun h => hl h.1)]
theorem res7 (s : List UInt8) : Ft.res s f7 = if s.length = 7 ∧ 0 ≤ Sc.fx s 0 4 ∧ s[4]? = some 45 ∧ 0 ≤ Sc.fx s 5 7 then some [Sc.fx s 0 4, Sc.fx s 5 7] else none := by
 by_cases hl : s.length = 7
 ·have e : Ft.res s f7 = Ft.go s f7 (3 + 1 + 4) 0 0 [] := by unfold Ft.res; rw [if_pos (show s.length = f7.length from hl)]; rfl
  have g0 := Ft.group (s := s) (form := f7) 4 3 0 [] (by omega) (fun i _ h => by match i, h with | 0, _ => rfl | 1, _ => rfl | 2, _ => rfl | 3, _ => rfl) (by show some (45 : UInt8) ≠ some 48; decide)
  have g1 := fun acc => Ft.group (s := s) (form := f7) 2 0 5 acc (by omega) (fun i h1 h => by have e : i = 5 ∨ i = 6 := (by omega); rcases e with rfl | rfl <;> rfl) (by show (none : Option UInt8) ≠ some 48; simp)
  have q4 := sep_iff (s := s) (form := f7) (j := 4) (c := 45) (n := 7) rfl rfl (by omega)
  rw [e, g0]
  by_cases h : Dg.allD (Ft.win s 0 4) = true ∧ s[4]? = some 45
  ·rw [if_pos ⟨h.1, q4.2 h.2⟩]
   show Ft.go s f7 (0 + 1 + 2) 5 5 _ = _
   rw [g1]
   by_cases h2 : Dg.allD (Ft.win s 5 7) = true
   ·rw [if_pos ⟨h2, fun h => absurd h.1 (by show ¬ 5 + 2 < 7; omega)⟩, if_pos ⟨hl, (dig _ _ _).1 h.1, h.2, (dig _ _ _).1 h2⟩]
    show some [(Dg.val (Ft.win s 0 4) : Int), (Dg.val (Ft.win s 5 7) : Int)] = _
    rw [val_fx h.1, val_fx h2]
   ·rw [if_neg (fun hh => h2 hh.1), if_neg (fun hh => h2 ((dig _ _ _).2 hh.2.2.2))]
  ·rw [if_neg (fun hh => h ⟨hh.1, q4.1 hh.2⟩), if_neg (fun hh => h ⟨(dig _ _ _).2 hh.2.1, hh.2.2.1⟩)]
 ·have e : Ft.res s f7 = none := by unfold Ft.res; rw [if_neg (by show ¬ s.length = 7; exact hl)]
  rw [e, if_neg (fun h => hl h.1)]
theorem res10 (s : List UInt8) : Ft.res s f10 = if s.length = 10 ∧ 0 ≤ Sc.fx s 0 4 ∧ s[4]? = some 45 ∧ 0 ≤ Sc.fx s 5 7 ∧ s[7]? = some 45 ∧ 0 ≤ Sc.fx s 8 10 then some [Sc.fx s 0 4, Sc.fx s 5 7, Sc.fx s 8 10] else none := by
 by_cases hl : s.length = 10
 ·have e : Ft.res s f10 = Ft.go s f10 (6 + 1 + 4) 0 0 [] := by unfold Ft.res; rw [if_pos (show s.length = f10.length from hl)]; rfl
  have g0 := Ft.group (s := s) (form := f10) 4 6 0 [] (by omega) (fun i _ h => by match i, h with | 0, _ => rfl | 1, _ => rfl | 2, _ => rfl | 3, _ => rfl) (by show some (45 : UInt8) ≠ some 48; decide)
  have g1 := fun acc => Ft.group (s := s) (form := f10) 2 3 5 acc (by omega) (fun i h1 h => by have e : i = 5 ∨ i = 6 := (by omega); rcases e with rfl | rfl <;> rfl) (by show some (45 : UInt8) ≠ some 48; decide)
  have g2 := fun acc => Ft.group (s := s) (form := f10) 2 0 8 acc (by omega) (fun i h1 h => by have e : i = 8 ∨ i = 9 := (by omega); rcases e with rfl | rfl <;> rfl) (by show (none : Option UInt8) ≠ some 48; simp)
  have q4 := sep_iff (s := s) (form := f10) (j := 4) (c := 45) (n := 10) rfl rfl (by omega)
  have q7 := sep_iff (s := s) (form := f10) (j := 7) (c := 45) (n := 10) rfl rfl (by omega)
  rw [e, g0]
  by_cases h : Dg.allD (Ft.win s 0 4) = true ∧ s[4]? = some 45
  ·rw [if_pos ⟨h.1, q4.2 h.2⟩]
   show Ft.go s f10 (3 + 1 + 2) 5 5 _ = _
   rw [g1]
   by_cases h2 : Dg.allD (Ft.win s 5 7) = true ∧ s[7]? = some 45
   ·rw [if_pos ⟨h2.1, q7.2 h2.2⟩]
    show Ft.go s f10 (0 + 1 + 2) 8 8 _ = _
    rw [g2]
    by_cases h3 : Dg.allD (Ft.win s 8 10) = true
    ·rw [if_pos ⟨h3, fun h => absurd h.1 (by show ¬ 8 + 2 < 10; omega)⟩, if_pos ⟨hl, (dig _ _ _).1 h.1, h.2, (dig _ _ _).1 h2.1, h2.2, (dig _ _ _).1 h3⟩]
     show some [(Dg.val (Ft.win s 0 4) : Int), (Dg.val (Ft.win s 5 7) : Int), (Dg.val (Ft.win s 8 10) : Int)] = _
     rw [val_fx h.1, val_fx h2.1, val_fx h3]
    ·rw [if_neg (fun hh => h3 hh.1), if_neg (fun hh => h3 ((dig _ _ _).2 hh.2.2.2.2.2))]
   ·rw [if_neg (fun hh => h2 ⟨hh.1, q7.1 hh.2⟩), if_neg (fun hh => h2 ⟨(dig _ _ _).2 hh.2.2.2.1, hh.2.2.2.2.1⟩)]
  ·rw [if_neg (fun hh => h ⟨hh.1, q4.1 hh.2⟩), if_neg (fun hh => h ⟨(dig _ _ _).2 hh.2.1, hh.2.2.1⟩)]
 ·have e : Ft.res s f10 = none := by unfold Ft.res; rw [if_neg (by show ¬ s.length = 10; exact hl)]
  rw [e, if_neg (fun h => hl h.1)]
theorem num_bd {d : D3} (h : vld d = true) : 0 ≤ num d ∧ num d ≤ 73048 := by have := Cal.num_bd _ _ _ h; exact ⟨this.1, this.2.1⟩
theorem year_vld (y : Int) : Cal.vld y 12 31 = Cal.vld y 1 1 := by
 rw [Bool.eq_iff_iff, Cal.vld_iff, Cal.vld_iff]
 have e : Cal.len y 12 = 31 := by simp [Cal.len]
 have e1 : Cal.len y 1 = 31 := by simp [Cal.len]
 rw [e, e1]; omega
theorem month_vld (y m : Int) : Cal.vld y m (Cal.len y m) = Cal.vld y m 1 := by
 rw [Bool.eq_iff_iff, Cal.vld_iff, Cal.vld_iff]
 have := Cal.len_bd y m
 omega
end Sp
end Go.Proofs.YtimjmjmpaicdbaaGreatDoor
