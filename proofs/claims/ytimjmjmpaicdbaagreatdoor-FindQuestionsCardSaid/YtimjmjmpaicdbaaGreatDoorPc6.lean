/- Parts of the proof, no condition: DistW, Cpy, FdEq, FdPhoto, FdErr0, FdErrA, FdErrB, FdErrC, FdErrD, FdErr, FdSame, OrdM, DcMath, HdMath. -/
import Derived.Laws.FloatArith
import Derived.Test.YtimjmjmpaicdbaaGreatDoorProg
import Derived.Test.YtimjmjmpaicdbaaGreatDoorPc1
import Derived.Laws.Externs
import Derived.Test.YtimjmjmpaicdbaaGreatDoorPc5
import Derived.Deep.AppendLies
import Derived.Deep.DeepCutAuto
import Derived.Laws.Tables
import Derived.Laws.Rows
import Derived.Laws.CopyOwn
import Derived.Laws.StructEq
import Derived.Deep.RegionHeld
import Derived.Lib.IndexMore
import Derived.Laws.IdiomStrings
set_option maxRecDepth 100000
set_option maxHeartbeats 4000000
set_option linter.unusedVariables false
namespace Go.Proofs.YtimjmjmpaicdbaaGreatDoor.Fl
open Ieee
theorem two52 : (2 : Nat) ^ 52 = 4503599627370496 := rfl
theorem kept_bd (mag L : Nat) (h0 : mag ≠ 0) (hL : mag.log2 = L) (h1 : L ≤ 52) : 4503599627370496 ≤ mag * 2 ^ (52 - L) ∧ mag * 2 ^ (52 - L) < 9007199254740992 := by
 have a := Nat.log2_self_le h0
 have b := @Nat.lt_log2_self mag
 rw [hL] at a b
 have e : 2 ^ L * 2 ^ (52 - L) = 4503599627370496 := by rw [← Nat.pow_add, show L + (52 - L) = 52 by omega]
 have e2 : 2 ^ (L + 1) * 2 ^ (52 - L) = 9007199254740992 := by rw [← Nat.pow_add, show L + 1 + (52 - L) = 53 by omega]
 have p : 0 < 2 ^ (52 - L) := Nat.two_pow_pos _
 refine ⟨?_, ?_⟩
 ·rw [← e]; exact Nat.mul_le_mul_right _ a
 ·rw [← e2]; exact Nat.mul_lt_mul_of_pos_right b p
theorem low_bd (mag L : Nat) (h0 : mag ≠ 0) (hL : mag.log2 = L) (h1 : 52 < L) : 4503599627370496 ≤ mag / 2 ^ (L - 52) ∧ mag / 2 ^ (L - 52) < 9007199254740992 := by
 have a := Nat.log2_self_le h0
 have b := @Nat.lt_log2_self mag
 rw [hL] at a b
 have e : 2 ^ L = 4503599627370496 * 2 ^ (L - 52) := by rw [← two52, ← Nat.pow_add, show 52 + (L - 52) = L by omega]
 have e2 : 2 ^ (L + 1) = 9007199254740992 * 2 ^ (L - 52) := by rw [show (9007199254740992 : Nat) = 2 ^ 53 from rfl, ← Nat.pow_add, show 53 + (L - 52) = L + 1 by omega]
 have p : 0 < 2 ^ (L - 52) := Nat.two_pow_pos _
 exact ⟨(Nat.le_div_iff_mul_le p).2 (by rw [← e]; exact a), (Nat.div_lt_iff_lt_mul p).2 (by rw [← e2]; exact b)⟩
theorem cut_bd (neg : Bool) (n drop : Nat) (h : drop ≤ n.log2 + 2) : ∃ b, b ≤ 1 ∧ Toward.cut .even neg n drop = n / 2 ^ drop + b := by
 have hb : ∀ b : Bool, b.toNat ≤ 1 := by decide
 unfold Toward.cut
 simp only [Nat.min_eq_left h, Nat.one_shiftLeft]
 exact ⟨_, hb _, rfl⟩
theorem read_rung (q kept : Nat) (h1 : 4503599627370496 ≤ kept) (h2 : kept ≤ 9007199254740992) (hq : q ≤ 2000) :
  ∃ m p, double.read (q * 4503599627370496 + kept) = .number false m p ∧ 4503599627370496 ≤ m ∧ m < 9007199254740992 ∧ (p = -1074 + q ∨ p = -1074 + (q + 1)) := by
 have hs : double.signWeight = 9223372036854775808 := by decide
 have hb : double.binade = 4503599627370496 := by decide
 have hi : double.infRung = 9218868437227405312 := by decide
 have hl : double.leastPlace = -1074 := by decide
 unfold Format.read
 rw [hs, hb, hi, hl]
 have c1 : ((q * 4503599627370496 + kept) / 9223372036854775808 % 2 == 1) = false := by
  rw [beq_eq_false_iff_ne]; omega
 have c2 : (q * 4503599627370496 + kept) % 9223372036854775808 = q * 4503599627370496 + kept := by omega
 simp only [c1, c2]
 rw [if_neg (by omega), if_pos (by omega)]
 exact ⟨_, _, rfl, by omega, by omega, by omega⟩
theorem read_nearest (mag : Nat) (place : Int) (h0 : mag ≠ 0) (hlo : -1000 ≤ place) (hhi : place + mag.log2 ≤ 900) :
  ∃ m p, double.read (double.nearest false mag place) = .number false m p ∧ 4503599627370496 ≤ m ∧ m < 9007199254740992 ∧ (p = place + mag.log2 - 52 ∨ p = place + mag.log2 - 51) := by
 have hb : double.binade = 4503599627370496 := by decide
 have hi : double.infRung = 9218868437227405312 := by decide
 have hl : double.leastPlace = -1074 := by decide
 have hf : double.fractionBits = 52 := rfl
 obtain ⟨L, hL⟩ : ∃ L, mag.log2 = L := ⟨_, rfl⟩
 unfold Format.nearest
 rw [if_neg h0]
 simp only [hb, hi, hl, hf, hL]
 rw [hL] at hhi
 have e1 : max (place + (L : Int) - (52 : Nat)) (-1074) = place + L - 52 := by omega
 rw [e1]
 have key : ∃ kept, Toward.cut .even false (mag <<< (place - (place + (L : Int) - 52)).toNat) ((place + (L : Int) - 52) - place).toNat = kept ∧ 4503599627370496 ≤ kept ∧ kept ≤ 9007199254740992 := by
  by_cases h : L ≤ 52
  ·rw [show (place - (place + (L : Int) - 52)).toNat = 52 - L by omega, show ((place + (L : Int) - 52) - place).toNat = 0 by omega]
   obtain ⟨k1, k2⟩ := kept_bd mag L h0 hL h
   refine ⟨mag <<< (52 - L), ?_, by rw [Nat.shiftLeft_eq]; exact k1, by rw [Nat.shiftLeft_eq]; omega⟩
   unfold Toward.cut
   simp [Nat.mod_one]
  ·rw [show (place - (place + (L : Int) - 52)).toNat = 0 by omega, show ((place + (L : Int) - 52) - place).toNat = L - 52 by omega]
   obtain ⟨k1, k2⟩ := low_bd mag L h0 hL (by omega)
   obtain ⟨b, hb1, hb2⟩ := cut_bd false mag (L - 52) (by rw [hL]; omega)
   refine ⟨_, rfl, ?_, ?_⟩
   ·rw [Nat.shiftLeft_zero, hb2]; omega
   ·rw [Nat.shiftLeft_zero, hb2]; omega
 obtain ⟨kept, hk, hk1, hk2⟩ := key
 rw [hk]
 obtain ⟨q, hq⟩ : ∃ q : Nat, (place + (L : Int) - 52 - -1074).toNat = q := ⟨_, rfl⟩
 rw [hq, Nat.min_eq_left (by omega)]
 obtain ⟨m, p, h1, h2, h3, h4⟩ := read_rung q kept hk1 hk2 (by omega)
 exact ⟨m, p, h1, h2, h3, by omega⟩
theorem rootFrom_lt (n : Nat) : ∀ todo root, Datum.rootFrom n todo root < root + 2 ^ todo := by
 intro todo
 induction todo with
 | zero => intro root; show root < root + 1; omega
 | succ todo ih =>
   intro root
   unfold Datum.rootFrom
   have p := Nat.two_pow_pos todo
   have e : (2 : Nat) ^ (todo + 1) = 2 ^ todo + 2 ^ todo := by rw [Nat.pow_succ]; omega
   have e2 : (root + 1) <<< todo = root + 1 <<< todo ∨ True := .inr trivial
   simp only []
   split
   ·have := ih (root + 1 <<< todo)
    rw [Nat.one_shiftLeft] at this ⊢
    omega
   ·have := ih root
    omega
theorem log2_lt {m k : Nat} (h0 : m ≠ 0) (h : m < 2 ^ (k + 1)) : m.log2 ≤ k := by
 have := (Nat.log2_lt h0).2 h
 omega
theorem log2_ge {m k : Nat} (h0 : m ≠ 0) (h : 2 ^ k ≤ m) : k ≤ m.log2 := (Nat.le_log2 h0).2 h
theorem sqrt_int (n : Nat) (hn : n < 144115188075855872) : ∃ b r : Nat, double.sqrt (double.write (.number false n 0)) = some b ∧ (double.read b).toInt .zero = some (r : Int) ∧ r ≤ 2147483648 := by
 by_cases h0 : n = 0
 ·subst h0
  exact ⟨0, 0, by decide +kernel, by decide +kernel, by omega⟩
 ·have hL : n.log2 ≤ 56 := log2_lt h0 (by simpa using hn)
  obtain ⟨m, p, h1, h2, h3, h4⟩ := read_nearest n 0 h0 (by omega) (by omega)
  have hm0 : m ≠ 0 := by omega
  have hml : m.log2 = 52 := by
   have a := log2_lt (k := 52) hm0 (by simpa using h3)
   have b := log2_ge (k := 52) hm0 (by simpa using h2)
   omega
  have hp : -52 ≤ p ∧ p ≤ 5 := by omega
  obtain ⟨s, e, hroot, hs0, hs, he⟩ : ∃ s e, Datum.root 54 (.number false m p) = some (.number false s e) ∧ s ≠ 0 ∧ s < 72057594037927936 ∧ -56 ≤ e ∧ e ≤ -26 := by
   unfold Datum.root
   simp only [if_neg hm0, hml, Bool.false_eq_true, if_false]
   obtain ⟨o, ho⟩ : ∃ o : Nat, ((p - ((2 * 54 - 52 : Nat) : Int)) % 2).toNat = o := ⟨_, rfl⟩
   rw [ho]
   have ho1 : o ≤ 1 := by omega
   obtain ⟨N, hN⟩ : ∃ N, m <<< (2 * 54 - 52 + o) = N := ⟨_, rfl⟩
   rw [hN]
   have hNb : N ≠ 0 ∧ N < 2 ^ 110 ∧ 2 ^ 108 ≤ N := by
    rw [Nat.shiftLeft_eq] at hN
    have : (2 : Nat) ^ 56 ≤ 2 ^ (2 * 54 - 52 + o) := Nat.pow_le_pow_right (by omega) (by omega)
    have h57 : (2 : Nat) ^ (2 * 54 - 52 + o) ≤ 2 ^ 57 := Nat.pow_le_pow_right (by omega) (by omega)
    have a := Nat.mul_le_mul h2 this
    have b : m * 2 ^ (2 * 54 - 52 + o) < 9007199254740992 * 2 ^ 57 := Nat.lt_of_lt_of_le (Nat.mul_lt_mul_of_pos_right h3 (Nat.two_pow_pos _)) (Nat.mul_le_mul_left _ h57)
    rw [hN] at a b
    have e1 : (4503599627370496 : Nat) * 2 ^ 56 = 2 ^ 108 := by rw [← two52, ← Nat.pow_add]
    have e2 : (9007199254740992 : Nat) * 2 ^ 57 = 2 ^ 110 := by rw [show (9007199254740992 : Nat) = 2 ^ 53 from rfl, ← Nat.pow_add]
    have := Nat.two_pow_pos 108
    omega
   have hNl : N.log2 / 2 + 1 = 55 := by
    have a := log2_lt (k := 109) hNb.1 hNb.2.1
    have b := log2_ge (k := 108) hNb.1 hNb.2.2
    omega
   have hr := rootFrom_lt N 55 0
   rw [hNl]
   obtain ⟨W, hW⟩ : ∃ W, Datum.rootFrom N 55 0 = W := ⟨_, rfl⟩
   rw [hW] at hr ⊢
   have hb : ∀ b : Bool, b.toNat ≤ 1 := by decide
   have h55 : (2 : Nat) ^ 55 = 36028797018963968 := rfl
   refine ⟨_, _, rfl, ?_, ?_, by omega, by omega⟩
   ·intro hz
    have hW0 : W = 0 := by omega
    rw [hW0] at hz
    have : ((0 * 0 != N) : Bool) = true := by simpa using hNb.1.symm
    rw [this] at hz
    simp at hz
   ·have := hb (W * W != N)
    omega
  have hsl : s.log2 ≤ 55 := log2_lt hs0 (by simpa using hs)
  obtain ⟨m2, p2, g1, g2, g3, g4⟩ := read_nearest s e hs0 (by omega) (by omega)
  refine ⟨double.nearest false s e, ?_⟩
  have hw : double.sqrt (double.write (.number false n 0)) = some (double.nearest false s e) := by
   show ((double.read (double.nearest false n 0)).root 54).map double.write = _
   rw [h1, hroot]; rfl
  refine ⟨((m2 <<< p2.toNat) / 2 ^ (min (-p2).toNat ((m2 <<< p2.toNat).log2 + 2))), hw, ?_, ?_⟩
  ·rw [g1]
   unfold Datum.toInt Datum.integral
   simp only [Toward.cut, signed, Nat.one_shiftLeft, Bool.toNat_false, Nat.add_zero, Nat.shiftLeft_zero, Bool.false_eq_true, if_false]
  ·have hp2 : p2 ≤ -22 := by omega
   rw [show p2.toNat = 0 by omega, Nat.shiftLeft_zero]
   have hml2 : m2.log2 = 52 := by
    have a := log2_lt (k := 52) (by omega) (show m2 < 2 ^ 53 by simpa using g3)
    have b := log2_ge (k := 52) (by omega) (show 2 ^ 52 ≤ m2 by simpa using g2)
    omega
   rw [hml2]
   have hd : (2 : Nat) ^ 22 ≤ 2 ^ (min (-p2).toNat (52 + 2)) := Nat.pow_le_pow_right (by omega) (by omega)
   have := Nat.div_le_div (Nat.le_of_lt g3) hd (by have := Nat.two_pow_pos 22; omega)
   rw [show (9007199254740992 : Nat) / 2 ^ 22 = 2147483648 from by decide] at this
   exact this
end Go.Proofs.YtimjmjmpaicdbaaGreatDoor.Fl
namespace Go.Proofs.YtimjmjmpaicdbaaGreatDoor
open Go.RowKit Go.Sort
theorem run_sqrtF {P : Program} (x b : Nat) (h : Ieee.double.sqrt x = some b) (w : World) : (Extern.MathSqrt.sqrt #[.float .f64 x]).run P w = .ok (.float .f64 b) w := by
 have e : Extern.MathSqrt.sqrt #[.float .f64 x] = (match Ieee.double.sqrt x with | some r => pure (.float .f64 r) | none => do pure (.float .f64 (← choose (.nanBits .f64 x x)))) := rfl
 rw [e, h]
 rfl
theorem sqrt_is (x b : Nat) (h : Ieee.double.sqrt x = some b) (w : World) : Calls Tryz.prog 235 #[.float .f64 x] w fun e w' => e = .returned (.float .f64 b) ∧ w = w' := by
 have H := Lib.hid h
 go_enter Tryz.func235, Tryz.ntmps235
 go_wp2
 rw [run_callFunc_extern Tryz.func252 (by kernel_rfl) (by kernel_rfl) (by kernel_rfl) (e := Extern.MathSqrt.sqrt) (by kernel_rfl), run_sqrtF x b H.out]
 simp only [Result.andThen]
 rw [Oper.upon_value]
 go_wp2
 go_ret
 exact ⟨rfl, rfl⟩
theorem isqrt_ex : ∀ n : Nat, ∃ d : Nat, d * d ≤ n ∧ n < (d + 1) * (d + 1)
 | 0 => ⟨0, by omega, by omega⟩
 | n + 1 => by
   obtain ⟨d, h1, h2⟩ := isqrt_ex n
   by_cases h : n + 1 < (d + 1) * (d + 1)
   ·exact ⟨d, by omega, h⟩
   ·refine ⟨d + 1, by omega, ?_⟩
    have e : (d + 1 + 1) * (d + 1 + 1) = (d + 1) * (d + 1) + 2 * (d + 1) + 1 := by
     simp only [Nat.add_mul, Nat.mul_add, Nat.mul_one, Nat.one_mul]; omega
    omega
theorem sq_le {a b : Nat} (h : a ≤ b) : a * a ≤ b * b := Nat.mul_self_le_mul_self h
theorem root_is (n : Nat) (hn : n < 100000000000000000) : ∃ d : Nat, d * d ≤ n ∧ ∀ w : World, Calls Tryz.prog 210 #[.int .i64 n] w fun e w' => e = .returned (.int .i64 d) ∧ w = w' := by
 obtain ⟨d, h1, h2⟩ := isqrt_ex n
 refine ⟨d, h1, fun w => ?_⟩
 obtain ⟨b, r0, hb, hr, hr0⟩ := Fl.sqrt_int n (by omega)
 have e : floatOfInt .f64 (n : Int) = Ieee.double.write (.number false n 0) := by
  show Ieee.double.write (.number (decide ((n : Int) < 0)) (n : Int).natAbs 0) = _
  rw [decide_eq_false (by omega), Int.natAbs_natCast]
 have HI : Hid (∀ V : World, (convert 256 3 (.float .f64 b)).run Tryz.prog V = .ok (.int .i64 (r0 : Int)) V) := by
  intro V
  refine run_convert_float_int V 256 3 .f64 .i64 b r0 (by rw [Tryz.underlying256]; rfl) Tryz.underlying3 ?_
  unfold floatToIntVal
  rw [show (FloatKind.f64.decode b).toInt .zero = some (r0 : Int) from hr]
  simp only
  rw [if_pos (by rw [show IntKind.i64.min = -9223372036854775808 from rfl, show IntKind.i64.max = 9223372036854775807 from rfl]; omega)]
 rw [← e] at hb
 have HS := Lib.hid (fun V => sqrt_is _ b hb V)
 clear hb hr e
 have hd31 : d < 400000000 := by
  rcases Nat.lt_or_ge d 400000000 with h | h
  ·exact h
  ·have := sq_le h; omega
 go_enter Tryz.func210, Tryz.ntmps210
 have hI := HI.out
 go_wp2_with (first | (go_at_call 235; refine (HS.out _).mono ?_; rintro e w2 ⟨rfl, rfl⟩))
 go_loopg [3] (0 + r0) (fun gk i wr => ∃ r : Nat, r ≤ 2147483648 ∧ gk = 0 + r ∧ i = .int .i64 r ∧ w = wr)
 case atStart => exact ⟨r0, hr0, rfl, rfl, rfl⟩
 case round =>
  obtain ⟨r, hr, rfl, rfl, rfl⟩ := hrel
  obtain ⟨q, hq⟩ : ∃ q, r * r = q := ⟨_, rfl⟩
  have hq2 : q ≤ 4611686018427387904 := by rw [← hq]; exact sq_le hr
  have hqi : (r : Int) * (r : Int) = (q : Int) := by rw [← hq, Int.natCast_mul]
  by_cases hlt : n < q
  ·have hl2 : (n : Int) < (q : Int) := by omega
   have hr1 : 1 ≤ r := by
    rcases Nat.eq_zero_or_pos r with h | h
    ·subst h; omega
    ·exact h
   have HQ := Lib.hid hq
   clear hq
   go_wp2_with fail
   go_roundg (0 + (r - 1))
   case rel => exact ⟨r - 1, by omega, rfl, by go_num, rfl⟩
   case measure => omega
  ·have hl2 : ¬ (n : Int) < (q : Int) := by omega
   have hrd : r ≤ d := by
    rcases Nat.lt_or_ge d r with h | h
    ·have := sq_le (show d + 1 ≤ r from h); omega
    ·exact h
   clear hq
   go_wp2_with fail
   clear hl2 hqi hq2
   go_loopg [3] (0 + (d - r)) (fun gk i wr => ∃ u : Nat, u ≤ d ∧ gk = 0 + (d - u) ∧ i = .int .i64 u ∧ w = wr)
   case atStart => exact ⟨r, hrd, rfl, rfl, rfl⟩
   case round =>
    obtain ⟨u, hu, rfl, rfl, rfl⟩ := hrel
    obtain ⟨q, hq⟩ : ∃ q, (u + 1) * (u + 1) = q := ⟨_, rfl⟩
    have hq2 : q ≤ 4611686018427387904 := by rw [← hq]; exact sq_le (show u + 1 ≤ 2147483648 by omega)
    have hqi : ((u : Int) + 1) * ((u : Int) + 1) = (q : Int) := by rw [← hq]; simp
    by_cases hlt : q ≤ n
    ·have hl2 : (q : Int) ≤ (n : Int) := by omega
     have hud : u < d := by
      rcases Nat.lt_or_ge u d with h | h
      ·exact h
      ·obtain rfl : u = d := by omega
       omega
     clear hq
     go_wp2_with fail
     go_roundg (0 + (d - (u + 1)))
     case rel => exact ⟨u + 1, by omega, rfl, by go_num, rfl⟩
     case measure => omega
    ·have hl2 : ¬ (q : Int) ≤ (n : Int) := by omega
     obtain rfl : u = d := by
      rcases Nat.lt_or_ge u d with h | h
      ·have := sq_le (show u + 1 ≤ d from h); omega
      ·omega
     clear hq
     go_wp2_with fail
     go_ret
     exact ⟨rfl, rfl⟩
theorem floor2_is (n : Int) (hn : -1000000000 ≤ n ∧ n ≤ 1000000000) (w : World) : Calls Tryz.prog 209 #[.int .i64 n, .int .i64 2] w fun e w' => e = .returned (.int .i64 (n / 2)) ∧ w = w' := by
 obtain ⟨q, hq⟩ : ∃ q, n.tdiv 2 = q := ⟨_, rfl⟩
 obtain ⟨m, hm⟩ : ∃ m, n.tmod 2 = m := ⟨_, rfl⟩
 have hqm : n = 2 * q + m := by rw [← hq, ← hm]; exact (Int.mul_tdiv_add_tmod n 2).symm
 have hmb : m = -1 ∨ m = 0 ∨ m = 1 := by
  rw [← hm]
  rcases Int.le_total 0 n with h | h
  ·rw [Int.tmod_eq_emod_of_nonneg h]; omega
  ·have := Int.tmod_eq_emod_of_nonneg (a := -n) (b := 2) (by omega)
   rw [Int.neg_tmod] at this; omega
 have f1 : m < 0 → n / 2 = q - 1 := by intro h; omega
 have f2 : ¬ m < 0 → n / 2 = q := by intro h; omega
 have F1 := Lib.hid f1; have F2 := Lib.hid f2
 have hqb : -1000000000 ≤ q ∧ q ≤ 1000000000 := by omega
 clear hqm hmb f1 f2
 by_cases h0 : m < 0
 ·go_enter Tryz.func209, Tryz.ntmps209
  go_wp2_with fail
  go_ret
  exact ⟨ret_int (by rw [F1.out h0]), rfl⟩
 ·go_enter Tryz.func209, Tryz.ntmps209
  go_wp2_with fail
  go_ret
  exact ⟨ret_int (by rw [F2.out h0]), rfl⟩
theorem mul_bd2 {a b A : Int} (h1 : -A ≤ a ∧ a ≤ A) (h2 : 0 ≤ b) {B : Int} (h3 : b ≤ B) (hA : 0 ≤ A) : -(A * B) ≤ a * b ∧ a * b ≤ A * B := by
 have x1 := Int.mul_le_mul_of_nonneg_right h1.2 h2
 have x2 := Int.mul_le_mul_of_nonneg_right h1.1 h2
 have x3 := Int.mul_le_mul_of_nonneg_left h3 hA
 have x4 : -A * b = -(A * b) := Int.neg_mul _ _
 omega
theorem sq_bd {a A : Int} (h : -A ≤ a ∧ a ≤ A) (hA : 0 ≤ A) : 0 ≤ a * a ∧ a * a ≤ A * A := by
 rcases Int.le_total 0 a with h0 | h0
 ·exact ⟨Int.mul_nonneg h0 h0, Int.mul_le_mul h.2 h.2 h0 hA⟩
 ·have e : a * a = (-a) * (-a) := by rw [Int.neg_mul_neg]
  rw [e]
  exact ⟨Int.mul_nonneg (by omega) (by omega), Int.mul_le_mul (by omega) (by omega) (by omega) hA⟩
theorem cosine_is (n : Int) (hn : -90000000 ≤ n ∧ n ≤ 90000000) : ∃ c : Int, (0 ≤ c ∧ c ≤ 1000000) ∧ ∀ w : World, Calls Tryz.prog 208 #[.int .i64 n] w fun e w' => e = .returned (.int .i64 c) ∧ w = w' := by
 obtain ⟨k, hk⟩ : ∃ k, n.tdiv 100 = k := ⟨_, rfl⟩
 have hkb : -900000 ≤ k ∧ k ≤ 900000 := by
  rw [← hk]
  rcases Int.le_total 0 n with h | h
  ·rw [Int.tdiv_eq_ediv_of_nonneg h]; omega
  ·have := Int.tdiv_eq_ediv_of_nonneg (a := -n) (b := 100) (by omega)
   rw [Int.neg_tdiv] at this; omega
 obtain ⟨s, hs⟩ : ∃ s, k * k = s := ⟨_, rfl⟩
 have hsb := sq_bd hkb (by omega)
 rw [hs] at hsb
 have hs4 : 4 * k * k = 4 * s := by rw [← hs, Int.mul_assoc]
 obtain ⟨v, hv⟩ : ∃ v, (3240000000000 - 4 * s) * 1000000 = v := ⟨_, rfl⟩
 have hvb : 0 ≤ v ∧ v ≤ 3240000000000000000 := by omega
 obtain ⟨c, hc⟩ : ∃ c, v.tdiv (3240000000000 + s) = c := ⟨_, rfl⟩
 have hcb : 0 ≤ c ∧ c ≤ 1000000 := by
  rw [← hc, Int.tdiv_eq_ediv_of_nonneg hvb.1]
  refine ⟨Int.ediv_nonneg hvb.1 (by omega), ?_⟩
  have : v / (3240000000000 + s) < 1000001 := Int.ediv_lt_of_lt_mul (by omega) (by omega)
  omega
 have hz : ¬ (3240000000000 + s = 0) := by omega
 refine ⟨c, hcb, fun w => ?_⟩
 have HV := Lib.hid hv
 go_enter Tryz.func208, Tryz.ntmps208
 go_wp2_with fail
 go_ret
 exact ⟨rfl, rfl⟩
theorem tmod_bd (n c : Int) (hc : 0 < c) : -c < n.tmod c ∧ n.tmod c < c := by
 rcases Int.le_total 0 n with h | h
 ·rw [Int.tmod_eq_emod_of_nonneg h]
  have := Int.emod_nonneg n (show c ≠ 0 by omega)
  have := Int.emod_lt_of_pos n hc
  omega
 ·have e := Int.tmod_eq_emod_of_nonneg (a := -n) (b := c) (by omega)
  rw [Int.neg_tmod] at e
  have := Int.emod_nonneg (-n) (show c ≠ 0 by omega)
  have := Int.emod_lt_of_pos (-n) hc
  omega
theorem eastward_is (a b : Int) (ha : -180000000 ≤ a ∧ a ≤ 180000000) (hb : -180000000 ≤ b ∧ b ≤ 180000000) : ∃ c : Int, (0 ≤ c ∧ c < 360000000) ∧ ∀ w : World, Calls Tryz.prog 234 #[.int .i64 a, .int .i64 b] w fun e w' => e = .returned (.int .i64 c) ∧ w = w' := by
 obtain ⟨m, hm⟩ : ∃ m, (b - a).tmod 360000000 = m := ⟨_, rfl⟩
 have hmb := tmod_bd (b - a) 360000000 (by omega)
 rw [hm] at hmb
 obtain ⟨c, hc⟩ : ∃ c, (m + 360000000).tmod 360000000 = c := ⟨_, rfl⟩
 have hcb : 0 ≤ c ∧ c < 360000000 := by
  rw [← hc, Int.tmod_eq_emod_of_nonneg (by omega)]; omega
 refine ⟨c, hcb, fun w => ?_⟩
 go_enter Tryz.func234, Tryz.ntmps234
 go_wp2_with fail
 go_ret
 exact ⟨rfl, rfl⟩
theorem short_is (a b : Int) (ha : -180000000 ≤ a ∧ a ≤ 180000000) (hb : -180000000 ≤ b ∧ b ≤ 180000000) : ∃ c : Int, (-180000000 ≤ c ∧ c ≤ 180000000) ∧ ∀ w : World, Calls Tryz.prog 207 #[.int .i64 a, .int .i64 b] w fun e w' => e = .returned (.int .i64 c) ∧ w = w' := by
 obtain ⟨c, hc, h⟩ := eastward_is a b ha hb
 have HE := Lib.hid h
 by_cases h1 : (180000000 : Int) ≤ c
 ·refine ⟨c - 360000000, by omega, fun w => ?_⟩
  go_enter Tryz.func207, Tryz.ntmps207
  go_wp2_with (go_at_call 234; refine (HE.out _).mono ?_; rintro e w2 ⟨rfl, rfl⟩)
  go_ret
  exact ⟨rfl, rfl⟩
 ·refine ⟨c, by omega, fun w => ?_⟩
  go_enter Tryz.func207, Tryz.ntmps207
  go_wp2_with (go_at_call 234; refine (HE.out _).mono ?_; rintro e w2 ⟨rfl, rfl⟩)
  go_ret
  exact ⟨rfl, rfl⟩
theorem distance_is (a o a' o' : Int) (ha : -90000000 ≤ a ∧ a ≤ 90000000) (ho : -180000000 ≤ o ∧ o ≤ 180000000) (ha' : -90000000 ≤ a' ∧ a' ≤ 90000000) (ho' : -180000000 ≤ o' ∧ o' ≤ 180000000) :
  ∃ d : Int, ∀ w : World, Calls Tryz.prog 174 #[.agg #[.int .i64 a, .int .i64 o], .agg #[.int .i64 a', .int .i64 o']] w fun e w' => e = .returned (.int .i64 d) ∧ Below w.heap.size w w' := by
 obtain ⟨x, hx, hs⟩ := short_is o o' ho ho'
 obtain ⟨c, hc, hco⟩ := cosine_is ((a + a') / 2) (by omega)
 have hf := floor2_is (a + a') (by omega)
 obtain ⟨v, hv⟩ : ∃ v, x * c = v := ⟨_, rfl⟩
 have hvb := mul_bd2 (A := 180000000) (B := 1000000) (by omega) hc.1 hc.2 (by omega) (a := x) (b := c)
 rw [hv] at hvb
 obtain ⟨t, ht⟩ : ∃ t, v.tdiv 1000000 = t := ⟨_, rfl⟩
 have htb : -180000000 ≤ t ∧ t ≤ 180000000 := by
  rw [← ht]
  rcases Int.le_total 0 v with h | h
  ·rw [Int.tdiv_eq_ediv_of_nonneg h]; omega
  ·have := Int.tdiv_eq_ediv_of_nonneg (a := -v) (b := 1000000) (by omega)
   rw [Int.neg_tdiv] at this; omega
 obtain ⟨y, hy⟩ : ∃ y, a' - a = y := ⟨_, rfl⟩
 obtain ⟨p, hp⟩ : ∃ p, y * y = p := ⟨_, rfl⟩
 obtain ⟨q, hq⟩ : ∃ q, t * t = q := ⟨_, rfl⟩
 have hpb := sq_bd (a := y) (A := 180000000) (by omega) (by omega)
 have hqb := sq_bd htb (by omega)
 rw [hp] at hpb
 rw [hq] at hqb
 obtain ⟨N, hN⟩ := Int.eq_ofNat_of_zero_le (show 0 ≤ p + q by omega)
 obtain ⟨d, hd, hr⟩ := root_is N (by omega)
 have hd4 : d < 400000000 := by
  rcases Nat.lt_or_ge d 400000000 with h | h
  ·exact h
  ·have := sq_le h; omega
 have HS := Lib.hid hs; have HC := Lib.hid hco; have HF := Lib.hid hf; have HR := Lib.hid hr
 clear hs hco hf hr hd
 refine ⟨(d * 111195 : Int).tdiv 1000000, fun w => ?_⟩
 obtain ⟨W1, hW1, hP1, hz1, hB1⟩ := box w #[.int .i64 a, .int .i64 o] 112
 obtain ⟨W2, hW2, hP2, hz2, hB2⟩ := box W1 #[.int .i64 a', .int .i64 o'] 112
 have HW1 := Lib.hid hW1; have HW2 := Lib.hid hW2
 rw [hz1] at hP2
 obtain ⟨p0, p1⟩ := (hP1.keep hB2).two
 obtain ⟨r0, r1⟩ := hP2.two
 have hB := below_up hB1 hB2
 clear hW1 hW2 hz1 hz2
 go_enter Tryz.func174, Tryz.ntmps174
 go_wp2_with fail
 rw [HW1.out, HW2.out]
 go_wp2_with fail
 go_quiet ((first | (go_at_call 207; with_reducible exact quiet_same (HS.out _)) | (go_at_call 209; with_reducible exact quiet_same (HF.out _)) | (go_at_call 208; with_reducible exact quiet_same (HC.out _))))
 have hNq : p + q = (N : Int) := hN
 have hBq := below_drewN hB nq
 generalize W2.drewN nq = Wq at *
 go_wp2_with (go_at_call 210; (with_reducible refine (HR.out _).mono ?_); rintro e w2 ⟨rfl, rfl⟩)
 go_ret
 exact ⟨rfl, hBq⟩
theorem outW_is (n lo hi : Int) (b : Bool) (h : decide (lo ≤ n ∧ n ≤ hi) = b) (w : World) : Calls Tryz.prog 251 #[.int .i64 n, .int .i64 lo, .int .i64 hi] w fun e w' => e = .returned (.bool (!b)) ∧ w = w' := by
 cases b
 ·have h' : n < lo ∨ hi < n := by rw [decide_eq_false_iff_not] at h; omega
  clear h
  by_cases c : n < lo
  ·go_enter Tryz.func251, Tryz.ntmps251
   go_wp2
   go_ret
   exact ⟨rfl, rfl⟩
  ·have d : hi < n := by omega
   go_enter Tryz.func251, Tryz.ntmps251
   go_wp2
   go_ret
   exact ⟨rfl, rfl⟩
 ·obtain ⟨h1, h2⟩ := of_decide_eq_true h
  clear h
  go_enter Tryz.func251, Tryz.ntmps251
  go_wp2
  go_ret
  exact ⟨ret_bool (by simp <;> omega), rfl⟩
theorem isLat_is (n : Int) (b : Bool) (h : decide (-90000000 ≤ n ∧ n ≤ 90000000) = b) (w : World) : Calls Tryz.prog 232 #[.int .i64 n] w fun e w' => e = .returned (.bool b) ∧ w = w' := by
 have HO := Lib.hid (outW_is n (-90000000) 90000000 b h w)
 go_enter Tryz.func232, Tryz.ntmps232
 go_wp2_with (go_at_call 251; refine HO.out.mono ?_; rintro e w2 ⟨rfl, rfl⟩)
 go_ret
 exact ⟨ret_bool (by simp), rfl⟩
theorem isLon_is (n : Int) (b : Bool) (h : decide (-180000000 ≤ n ∧ n ≤ 179999999) = b) (w : World) : Calls Tryz.prog 233 #[.int .i64 n] w fun e w' => e = .returned (.bool b) ∧ w = w' := by
 have HO := Lib.hid (outW_is n (-180000000) 179999999 b h w)
 go_enter Tryz.func233, Tryz.ntmps233
 go_wp2_with (go_at_call 251; refine HO.out.mono ?_; rintro e w2 ⟨rfl, rfl⟩)
 go_ret
 exact ⟨ret_bool (by simp), rfl⟩
theorem checkPlaceW_is (a o : Int) (w : World) (b : Bool) (h : Fd.placeB a o = b) : Calls Tryz.prog 206 #[.agg #[.int .i64 a, .int .i64 o]] w fun e w' => e = .returned (.int .i64 (if b = true then 0 else 2)) ∧ Below w.heap.size w w' := by
 unfold Fd.placeB at h
 cases h1 : decide (-90000000 ≤ a ∧ a ≤ 90000000)
 ·have hb : b = false := by rw [← h]; rw [decide_eq_false_iff_not] at h1 ⊢; exact fun g => h1 g.1
  subst hb
  have HA := Lib.hid (fun V => isLat_is a false h1 V)
  clear h h1
  go_enter Tryz.func206, Tryz.ntmps206
  go_wp2_with (go_at_call 232; refine (HA.out _).mono ?_; rintro e w2 ⟨rfl, rfl⟩)
  go_ret
  exact ⟨rfl, (Below.refl _ _).alloc (Nat.le_refl _) _⟩
 ·have HA := Lib.hid (fun V => isLat_is a true h1 V)
  cases h2 : decide (-180000000 ≤ o ∧ o ≤ 179999999)
  ·have hb : b = false := by rw [← h]; rw [decide_eq_false_iff_not] at h2 ⊢; exact fun g => h2 g.2
   subst hb
   have HB := Lib.hid (fun V => isLon_is o false h2 V)
   clear h h1 h2
   go_enter Tryz.func206, Tryz.ntmps206
   go_wp2_with (first | (go_at_call 232; refine (HA.out _).mono ?_; rintro e w2 ⟨rfl, rfl⟩) | (go_at_call 233; refine (HB.out _).mono ?_; rintro e w2 ⟨rfl, rfl⟩))
   go_ret
   exact ⟨rfl, (Below.refl _ _).alloc (Nat.le_refl _) _⟩
  ·have hb : b = true := by rw [← h]; exact decide_eq_true ⟨of_decide_eq_true h1, of_decide_eq_true h2⟩
   subst hb
   have HB := Lib.hid (fun V => isLon_is o true h2 V)
   clear h h1 h2
   go_enter Tryz.func206, Tryz.ntmps206
   go_wp2_with (first | (go_at_call 232; refine (HA.out _).mono ?_; rintro e w2 ⟨rfl, rfl⟩) | (go_at_call 233; refine (HB.out _).mono ?_; rintro e w2 ⟨rfl, rfl⟩))
   go_ret
   exact ⟨rfl, (Below.refl _ _).alloc (Nat.le_refl _) _⟩
theorem Blk.four2 {w : World} {b : Nat} {t : TypeId} {x y z u : Value} (h : Blk w b #[x, y, z, u] t) : w.cell? ⟨b, 0, none⟩ = some x ∧ w.cell? ⟨b, 1, none⟩ = some y ∧ w.cell? ⟨b, 2, none⟩ = some z ∧ w.cell? ⟨b, 3, none⟩ = some u :=
 ⟨by rw [h.cell]; rfl, by rw [h.cell]; rfl, by rw [h.cell]; rfl, by rw [h.cell]; rfl⟩
theorem checkPlaces_is (a o a' o' : Int) (b : Nat) (w : World) (hb : Blk w b #[.int .i64 a, .int .i64 o, .int .i64 a', .int .i64 o'] 112) (q : Int) (hq : ((Fd.placeB a o && Fd.placeB a' o') = false → q = 2) ∧ ((Fd.placeB a o && Fd.placeB a' o') = true → q = 0)) :
  Calls Tryz.prog 173 #[.slice (some ⟨b, 0, none⟩) 2 2] w fun e w' => e = .returned (.int .i64 q) ∧ Below w.heap.size w w' := by
 have HQ := Lib.hid hq
 clear hq
 go_enter Tryz.func173, Tryz.ntmps173
 go_wp2_with fail
 go_loopg [8] 2 (fun gk i wr => ∃ j : Nat, j ≤ 2 ∧ gk = 2 - j ∧ i = .int .i64 j ∧ ((0 < j → Fd.placeB a o = true) ∧ (1 < j → Fd.placeB a' o' = true)) ∧ Blk wr b #[.int .i64 a, .int .i64 o, .int .i64 a', .int .i64 o'] 112 ∧ Below w.heap.size w wr)
 case atStart => exact ⟨0, by omega, rfl, rfl, ⟨fun h => by omega, fun h => by omega⟩, hb, Below.refl _ _⟩
 case round =>
  clear hb
  obtain ⟨j, hj, rfl, rfl, ⟨h0, h1⟩, hX, hB⟩ := hrel
  have hjs : j = 0 ∨ j = 1 ∨ j = 2 := by omega
  rcases hjs with rfl | rfl | rfl
  ·clear h0 h1
   obtain ⟨c0, c1, c2, c3⟩ := hX.four2
   simp only [Int.cast_ofNat_Int]
   cases hp : Fd.placeB a o
   ·have HP := Lib.hid (fun V => checkPlaceW_is a o V false hp)
    have HN := Lib.hid (show (Fd.placeB a o && Fd.placeB a' o') = false by simp [hp])
    clear hp
    go_wp2_with (go_at_call 206; (with_reducible refine (HP.out _).mono ?_); rintro e w2 ⟨rfl, hB2⟩)
    go_ret
    exact ⟨ret_int (HQ.out.1 HN.out).symm, below_up (below_allocs hB _) hB2⟩
   ·have HP := Lib.hid (fun V => checkPlaceW_is a o V true hp)
    have HY := Lib.hid hp
    clear hp
    go_wp2_with (go_at_call 206; (with_reducible refine (HP.out _).mono ?_); rintro e w2 ⟨rfl, hB2⟩)
    go_roundg (2 - (0 + 1))
    case rel => exact ⟨0 + 1, by omega, rfl, by go_num, ⟨fun _ => HY.out, fun h => by omega⟩, (hX.alloc _).keep hB2, below_up (below_allocs hB _) hB2⟩
    case measure => omega
  ·have H0 := Lib.hid (h0 (by omega))
   clear h0 h1
   obtain ⟨c0, c1, c2, c3⟩ := hX.four2
   simp only [Int.cast_ofNat_Int]
   cases hp : Fd.placeB a' o'
   ·have HP := Lib.hid (fun V => checkPlaceW_is a' o' V false hp)
    have HN := Lib.hid (show (Fd.placeB a o && Fd.placeB a' o') = false by simp [hp])
    clear hp
    go_wp2_with (go_at_call 206; (with_reducible refine (HP.out _).mono ?_); rintro e w2 ⟨rfl, hB2⟩)
    go_ret
    exact ⟨ret_int (HQ.out.1 HN.out).symm, below_up (below_allocs hB _) hB2⟩
   ·have HP := Lib.hid (fun V => checkPlaceW_is a' o' V true hp)
    have HY := Lib.hid hp
    clear hp
    go_wp2_with (go_at_call 206; (with_reducible refine (HP.out _).mono ?_); rintro e w2 ⟨rfl, hB2⟩)
    go_roundg (2 - (1 + 1))
    case rel => exact ⟨1 + 1, by omega, rfl, by go_num, ⟨fun _ => H0.out, fun _ => HY.out⟩, (hX.alloc _).keep hB2, below_up (below_allocs hB _) hB2⟩
    case measure => omega
  ·have H0 := Lib.hid (h0 (by omega))
   have H1 := Lib.hid (h1 (by omega))
   clear h0 h1
   simp only [Int.cast_ofNat_Int]
   go_wp2_with fail
   go_ret
   exact ⟨ret_int (HQ.out.2 (by rw [H0.out, H1.out]; rfl)).symm, hB⟩
theorem distW_is (a o a' o' : Int) : ∃ d e : Int, ∀ w : World, Calls Tryz.prog 137 #[.agg #[.int .i64 a, .int .i64 o], .agg #[.int .i64 a', .int .i64 o']] w fun r w' => r = .returned (.tuple #[.int .i64 d, .int .i64 e]) ∧ Below w.heap.size w w' := by
 cases hv : (Fd.placeB a o && Fd.placeB a' o')
 ·refine ⟨0, 2, fun w => ?_⟩
  obtain ⟨W1, hW1, hP1, hz1, hB1⟩ := box w #[.int .i64 a, .int .i64 o] 112
  obtain ⟨W2, hW2, hP2, hz2, hB2⟩ := box W1 #[.int .i64 a', .int .i64 o'] 112
  obtain ⟨W3, hW3, hP3, hz3, hB3⟩ := box W2 #[.int .i64 a, .int .i64 o, .int .i64 a', .int .i64 o'] 112
  have HW1 := Lib.hid hW1; have HW2 := Lib.hid hW2; have HW3 := Lib.hid hW3
  rw [hz1] at hP2
  have hP1' := hP1.keep hB2
  obtain ⟨p0, p1⟩ := hP1'.two
  obtain ⟨r0, r1⟩ := hP2.two
  have hB := below_up (below_up hB1 hB2) hB3
  have HCP := Lib.hid (checkPlaces_is a o a' o' W2.heap.size W3 hP3 2 ⟨fun _ => rfl, fun h => absurd (hv.symm.trans h) (by simp)⟩)
  rw [hz2, hz1] at HCP
  clear hW1 hW2 hW3 hz1 hz2 hz3
  go_enter Tryz.func137, Tryz.ntmps137
  go_wp2_with fail
  rw [HW1.out, HW2.out]
  go_wp2_with fail
  rw [HW3.out]
  clear hv
  go_wp2_with (go_at_call 173; (with_reducible refine HCP.out.mono ?_); rintro e w4 ⟨rfl, hB4⟩)
  go_ret2
  exact ⟨rfl, below_up hB hB4⟩
 ·obtain ⟨v1, v2⟩ : Fd.placeB a o = true ∧ Fd.placeB a' o' = true := by simpa using hv
  unfold Fd.placeB at v1 v2
  have v1' := of_decide_eq_true v1
  have v2' := of_decide_eq_true v2
  obtain ⟨d, hd⟩ := distance_is a o a' o' v1'.1 (by omega) v2'.1 (by omega)
  have HD := Lib.hid hd
  refine ⟨d, 0, fun w => ?_⟩
  obtain ⟨W1, hW1, hP1, hz1, hB1⟩ := box w #[.int .i64 a, .int .i64 o] 112
  obtain ⟨W2, hW2, hP2, hz2, hB2⟩ := box W1 #[.int .i64 a', .int .i64 o'] 112
  obtain ⟨W3, hW3, hP3, hz3, hB3⟩ := box W2 #[.int .i64 a, .int .i64 o, .int .i64 a', .int .i64 o'] 112
  have HW1 := Lib.hid hW1; have HW2 := Lib.hid hW2; have HW3 := Lib.hid hW3
  rw [hz1] at hP2
  have hP1' := hP1.keep hB2
  obtain ⟨p0, p1⟩ := hP1'.two
  obtain ⟨r0, r1⟩ := hP2.two
  have hB := below_up (below_up hB1 hB2) hB3
  have HCP := Lib.hid (checkPlaces_is a o a' o' W2.heap.size W3 hP3 0 ⟨fun h => absurd (hv.symm.trans h) (by simp), fun _ => rfl⟩)
  rw [hz2, hz1] at HCP
  clear hW1 hW2 hW3 hz1 hz2 hz3
  go_enter Tryz.func137, Tryz.ntmps137
  go_wp2_with fail
  rw [HW1.out, HW2.out]
  go_wp2_with fail
  rw [HW3.out]
  clear hv v1 v2 v1' v2' hd
  go_wp2_with (first | (go_at_call 173; (with_reducible refine HCP.out.mono ?_); rintro e w4 ⟨rfl, hB4⟩; have hB34 := below_up hB3 hB4; obtain ⟨p0, p1⟩ := (hP1'.keep hB34).two; obtain ⟨r0, r1⟩ := (hP2.keep hB34).two) | (go_at_call 174; (with_reducible refine (HD.out _).mono ?_); rintro e w5 ⟨rfl, hB5⟩))
  go_ret2
  exact ⟨rfl, below_up (below_up hB hB4) hB5⟩
end Go.Proofs.YtimjmjmpaicdbaaGreatDoor
namespace Go.Proofs.YtimjmjmpaicdbaaGreatDoor
open Go.RowKit Go.Sort Go.Shelf
def RowK (w : World) (a : Option Addr) (n k : Nat) (F : Nat → Value) : Prop := 0 < n → ∃ b off, a = some ⟨b, off, none⟩ ∧ b < w.heap.size ∧ ∀ i, i < n * k → w.cell? ⟨b, off + i, none⟩ = some (F i)
def NewK (B : Nat) (a : Option Addr) (n : Nat) : Prop := 0 < n → ∃ g, a = some ⟨g, 0, none⟩ ∧ B ≤ g
theorem RowK.of_own {w : World} {base g n cap k : Nat} {e : TypeId} {F : Nat → Value} (h : w.ownsRow base e k (.slice (some ⟨g, 0, none⟩) n cap) n ((List.range (n * k)).map F)) : RowK w (some ⟨g, 0, none⟩) n k F := by
 intro _
 refine ⟨g, 0, rfl, (h.lt g rfl).2, fun i hi => ?_⟩
 rw [Nat.zero_add, h.cellAt i hi, List.getElem?_map, List.getElem?_range hi]; rfl
theorem NewK.down {B B' : Nat} {a : Option Addr} {n : Nat} (h : NewK B a n) (hB : B' ≤ B) : NewK B' a n := fun h0 => by
 obtain ⟨g, hg, hb⟩ := h h0
 exact ⟨g, hg, by omega⟩
theorem infoIntC : (Tryz.prog.info? 3).map (fun i => (i.zero, i.size, i.bytes)) = some (some (.int .i64 0), 1, 8) := by kernel_rfl
theorem infoStrC : (Tryz.prog.info? 9).map (fun i => (i.zero, i.size, i.bytes)) = some (some (.string ByteArray.empty), 1, 16) := by kernel_rfl
theorem infoPlaceC : (Tryz.prog.info? 112).map (fun i => (i.zero, i.size, i.bytes)) = some (some (.agg #[.int .i64 0, .int .i64 0]), 2, 16) := by kernel_rfl



theorem RowK.setRow {w : World} {a : Option Addr} {n k B : Nat} {F : Nat → Value} (h : RowK w a n k F) (hn : NewK B a n) {b0 : Nat} (hp : b0 < B) (cs : Array Value) : RowK (w.setRow b0 cs) a n k F := by
 intro h0
 obtain ⟨b, off, rfl, hb, hc⟩ := h h0
 obtain ⟨g, hg, hB⟩ := hn h0
 injection hg with hg
 injection hg with hg1 hg2
 subst hg1 hg2
 exact ⟨b, 0, rfl, by simpa using hb, fun i hi => (cell_setRow_other w b0 cs ⟨b, 0 + i, none⟩ (by simp; omega)).trans (hc i hi)⟩
def Ph.moved (p : Ph) (a1 a2 a3 : Option Addr) : Ph := { p with wa := a1, wc := p.wn, ta := a2, tc := p.tn, pa := a3, pc := p.pn }
theorem RowK.keep {w w' : World} {a : Option Addr} {n k : Nat} {F : Nat → Value} (h : RowK w a n k F) (hb : Below w.heap.size w w') : RowK w' a n k F := by
 intro h0
 obtain ⟨b, off, rfl, hlt, hc⟩ := h h0
 exact ⟨b, off, rfl, Nat.lt_of_lt_of_le hlt hb.size, fun i hi => (hb.cell (p := ⟨b, off + i, none⟩) hlt).trans (hc i hi)⟩
structure Ph.Few (p : Ph) : Prop where
 w : p.wn ≤ 1000000
 t : p.tn ≤ 1000000
 p : p.pn ≤ 1000000
def Fd.eqRow (n m : Nat) (eq : Nat → Bool) : Bool := decide (n = m ∧ ∀ i, i < n → eq i = true)
theorem Fd.eqRow_self (n : Nat) (eq : Nat → Bool) (h : ∀ i, eq i = true) : Fd.eqRow n n eq = true := decide_eq_true ⟨rfl, fun i _ => h i⟩
def Ph.same (p r : Ph) : Bool := (p.id == r.id) && (p.file.toList == r.file.toList) && (p.mom == r.mom) && (p.zone == r.zone) && (Fd.eqRow p.wn r.wn fun i => p.lat i == r.lat i && p.lon i == r.lon i) && (p.W == r.W) && (p.H == r.H) && (p.turn == r.turn) && (p.stars == r.stars) && (Fd.eqRow p.tn r.tn fun i => (p.tag i).toList == (r.tag i).toList) && (p.cap.toList == r.cap.toList) && (Fd.eqRow p.pn r.pn fun i => p.who i == r.who i) && (p.hid == r.hid)
theorem Ph.same_yes {p r : Ph} (h0 : (p.id == r.id) = true) (h1 : (p.file.toList == r.file.toList) = true) (h2 : (p.mom == r.mom) = true) (h3 : (p.zone == r.zone) = true) (h4 : (Fd.eqRow p.wn r.wn fun i => p.lat i == r.lat i && p.lon i == r.lon i) = true) (h5 : (p.W == r.W) = true) (h6 : (p.H == r.H) = true) (h7 : (p.turn == r.turn) = true) (h8 : (p.stars == r.stars) = true) (h9 : (Fd.eqRow p.tn r.tn fun i => (p.tag i).toList == (r.tag i).toList) = true) (h10 : (p.cap.toList == r.cap.toList) = true) (h11 : (Fd.eqRow p.pn r.pn fun i => p.who i == r.who i) = true) (h12 : (p.hid == r.hid) = true) : p.same r = true := by unfold Ph.same; rw [h0, h1, h2, h3, h4, h5, h6, h7, h8, h9, h10, h11, h12]; rfl
end Go.Proofs.YtimjmjmpaicdbaaGreatDoor
namespace Go.Proofs.YtimjmjmpaicdbaaGreatDoor
open Go
section
variable {P : Program} {ops : Array Oper} {Q : Exit → Act → World → Prop} {md : Region.Mode} {C : World → Prop} {m : Nat}
def Until (C : World → Prop) (m : Nat) (l : Array Bool) (w : World) : Prop := l.getD m true = false → C w
def anyM (P : Program) (md : Region.Mode) (ops : Array Oper) (Q : Exit → Act → World → Prop) (C : World → Prop) (m : Nat) : Nat → Array Bool → Act → World → Prop
 | 0, l, a, w => Region.ready md ops l = [] ∧ Q .normal a w
 | f + 1, l, a, w => (Region.ready md ops l = [] → Q .normal a w) ∧ ∀ i ∈ Region.ready md ops l, wpOp P ops Q i (fun a' w' => Until C m (l.setIfInBounds i true) w' ∧ anyM P md ops Q C m f (l.setIfInBounds i true) a' w') a w
def ReadyM (P : Program) (md : Region.Mode) (ops : Array Oper) (Q : Exit → Act → World → Prop) (C : World → Prop) (m : Nat) (f : Nat) (l : Array Bool) (a : Act) (w : World) (rs : List Nat) : Prop :=
 ∀ i ∈ rs, wpOp P ops Q i (fun a' w' => Until C m (l.setIfInBounds i true) w' ∧ anyM P md ops Q C m f (l.setIfInBounds i true) a' w') a w
theorem ReadyM.nil {f : Nat} {l : Array Bool} {a : Act} {w : World} : ReadyM P md ops Q C m f l a w [] := fun _ h => by cases h
theorem ReadyM.cons {f : Nat} {l : Array Bool} {a : Act} {w : World} {i : Nat} {o : Oper} {rs : List Nat} (ho : ops[i]? = some o)
  (h : ∀ K' : Act → World → Prop, Shut (∀ a w, Until C m (l.setIfInBounds i true) w → anyM P md ops Q C m f (l.setIfInBounds i true) a w → K' a w) → if Region.wanted o (yielded ops a.tmps) = true then Oper.wp P o a w K' Q else K' (a.put o.dst undef) w)
  (hs : ReadyM P md ops Q C m f l a w rs) : ReadyM P md ops Q C m f l a w (i :: rs) := fun j hj => by
 rcases List.mem_cons.1 hj with rfl | hj
 ·exact wpOp_step ho (fun K' hK => h K' (fun a w hS hW => hK a w ⟨hS, hW⟩))
 ·exact hs j hj
end
end Go.Proofs.YtimjmjmpaicdbaaGreatDoor
namespace Go.Proofs.YtimjmjmpaicdbaaGreatDoor
open Go.RowKit Go.Sort Go.Shelf
def Ars (w : World) (a : Option Addr) (n : Nat) (la lo ra : Nat → Int) : Prop :=
 0 < n → ∃ b off, a = some ⟨b, off, none⟩ ∧ b < w.heap.size ∧ ∀ i, i < n → w.cell? ⟨b, off + i * 3, none⟩ = some (.int .i64 (la i)) ∧ w.cell? ⟨b, off + i * 3 + 1, none⟩ = some (.int .i64 (lo i)) ∧ w.cell? ⟨b, off + i * 3 + 2, none⟩ = some (.int .i64 (ra i))
theorem Ars.keep {w w' : World} {a : Option Addr} {n : Nat} {la lo ra : Nat → Int} (h : Ars w a n la lo ra) (hb : Below w.heap.size w w') : Ars w' a n la lo ra := by
 intro h0
 obtain ⟨b, off, rfl, hlt, hc⟩ := h h0
 exact ⟨b, off, rfl, Nat.lt_of_lt_of_le hlt hb.size, fun i hi => ⟨(hb.cell (p := ⟨b, off + i * 3, none⟩) hlt).trans (hc i hi).1, (hb.cell (p := ⟨b, off + i * 3 + 1, none⟩) hlt).trans (hc i hi).2.1, (hb.cell (p := ⟨b, off + i * 3 + 2, none⟩) hlt).trans (hc i hi).2.2⟩⟩
def Fd.hit (near : Nat → Bool) : Nat → Bool
 | 0 => false
 | n + 1 => Fd.hit near n || near n
structure Ph.Like (p r : Ph) (kw kp kt : Bool) : Prop where
 id : r.id = p.id
 mom : r.mom = p.mom
 zone : r.zone = p.zone
 W : r.W = p.W
 H : r.H = p.H
 turn : r.turn = p.turn
 stars : r.stars = p.stars
 file : r.file = p.file
 hid : r.hid = p.hid
 cap : r.cap = if kt = true then p.cap else ⟨#[]⟩
 wn : r.wn = if kw = true then p.wn else 0
 tn : r.tn = if kt = true then p.tn else 0
 pn : r.pn = if kp = true then p.pn else 0
 lat : r.lat = p.lat
 lon : r.lon = p.lon
 tag : r.tag = p.tag
 who : r.who = p.who
theorem Ph.Like.same {p r s : Ph} {kw kp kt : Bool} (h : p.Like r kw kp kt) (g : p.Like s kw kp kt) : r.same s = true := by
 have hw : r.wn = s.wn := h.wn.trans g.wn.symm
 have ht : r.tn = s.tn := h.tn.trans g.tn.symm
 have hp : r.pn = s.pn := h.pn.trans g.pn.symm
 refine Ph.same_yes ?_ ?_ ?_ ?_ ?_ ?_ ?_ ?_ ?_ ?_ ?_ ?_ ?_
 ·rw [h.id, g.id]; simp
 ·rw [h.file, g.file]; simp
 ·rw [h.mom, g.mom]; simp
 ·rw [h.zone, g.zone]; simp
 ·rw [hw, h.lat, g.lat, h.lon, g.lon]; exact Fd.eqRow_self _ _ (fun i => by simp)
 ·rw [h.W, g.W]; simp
 ·rw [h.H, g.H]; simp
 ·rw [h.turn, g.turn]; simp
 ·rw [h.stars, g.stars]; simp
 ·rw [ht, h.tag, g.tag]; exact Fd.eqRow_self _ _ (fun i => by simp)
 ·rw [h.cap, g.cap]; simp
 ·rw [hp, h.who, g.who]; exact Fd.eqRow_self _ _ (fun i => by simp)
 ·rw [h.hid, g.hid]; simp
def Ph.cl (p : Ph) (kw kp kt : Bool) (a1 : Option Addr) (c1 : Nat) (a2 : Option Addr) (c2 : Nat) (a3 : Option Addr) (c3 : Nat) : Ph :=
 { p with wa := if kw = true then a1 else none, wn := if kw = true then p.wn else 0, wc := if kw = true then c1 else 0, ta := if kt = true then a2 else none, tn := if kt = true then p.tn else 0, tc := if kt = true then c2 else 0, cap := if kt = true then p.cap else ⟨#[]⟩, pa := if kp = true then a3 else none, pn := if kp = true then p.pn else 0, pc := if kp = true then c3 else 0 }
namespace Hd
noncomputable def dist (a o a' o' : Int) : Int := Classical.choose (distW_is a o a' o')
def lowC (c : UInt8) : UInt8 := if 65 ≤ c ∧ c ≤ 90 then c + 32 else c
def low (s : ByteArray) : ByteArray := ⟨⟨s.data.toList.map lowC⟩⟩
def all (f : Nat → Bool) : Nat → Bool
 | 0 => true
 | n + 1 => all f n && f n
theorem hit_yes {f : Nat → Bool} {n j : Nat} (hj : j < n) (h : f j = true) : Fd.hit f n = true := by
 induction n with
 | zero => omega
 | succ n ih =>
   unfold Fd.hit
   by_cases e : j = n
   ·subst e; rw [h]; simp
   ·rw [ih (by omega)]; rfl
theorem hit_no {f : Nat → Bool} {n : Nat} (h : ∀ j, j < n → f j = false) : Fd.hit f n = false := by
 induction n with
 | zero => rfl
 | succ n ih => unfold Fd.hit; rw [ih (fun j hj => h j (by omega)), h n (by omega)]; rfl
def tall (p : Ph) : Int := if 4 < p.turn then p.W - p.H else p.H - p.W
def box (a o a0 o0 a1 o1 : Int) : Bool := if a0 ≤ a ∧ a ≤ a1 then (if o0 ≤ o1 then decide (o0 ≤ o ∧ o ≤ o1) else decide (o0 ≤ o ∨ o ≤ o1)) else false
noncomputable def leaf (p : Ph) (op : Int) (text : ByteArray) (lo hi : Int) (lat lon : Nat → Int) : Bool :=
 if op = 4 then Fd.hit (fun i => text.toList == (p.tag i).toList) p.tn
 else if op = 5 then Lib.contains (low p.cap).data.toList (low text).data.toList
 else if op = 6 then Fd.hit (fun i => lo == p.who i) p.pn
 else if op = 7 then decide (lo ≤ p.stars ∧ p.stars ≤ hi)
 else if op = 8 then decide (0 ≤ p.mom) && decide (lo ≤ p.mom + 60 * p.zone ∧ p.mom + 60 * p.zone ≤ hi)
 else if op = 9 then decide (0 < tall p)
 else if op = 10 then decide (tall p < 0)
 else if op = 11 then decide (tall p = 0)
 else if op = 12 then !(p.turn == 1)
 else if op = 13 then decide (0 < p.wn)
 else if op = 14 then decide (0 < p.wn) && decide (dist (p.lat 0) (p.lon 0) (lat 0) (lon 0) ≤ lo)
 else if op = 15 then decide (0 < p.wn) && box (p.lat 0) (p.lon 0) (lat 0) (lon 0) (lat 1) (lon 1)
 else p.hid
end Hd
noncomputable def Cnd.holds (p : Ph) : Cnd → Bool
 | .zero => false
 | .mk op ka kn kc kids text low high aa an ac lat lon =>
   if op = 1 then Hd.all (fun i => (kids i).holds p) kn
   else if op = 2 then Fd.hit (fun i => (kids i).holds p) kn
   else if op = 3 then !(kids 0).holds p
   else Hd.leaf p op text low high lat lon
def Cnd.Good : Cnd → Prop
 | .zero => False
 | .mk op ka kn kc kids text low high aa an ac lat lon => (Cnd.bareE op kn text low high an lat lon = 0 ∧ kn ≤ 100) ∧ ∀ i, i < kn → (kids i).Good
theorem Cnd.Good.bare {c : Cnd} (h : c.Good) : Cnd.bareE c.op c.kn c.text c.low c.high c.an c.lat c.lon = 0 := by
 cases c with
 | zero => exact h.elim
 | mk => exact h.1.1
theorem Cnd.Good.few {c : Cnd} (h : c.Good) : c.kn ≤ 100 := by
 cases c with
 | zero => exact h.elim
 | mk => exact h.1.2
theorem Cnd.Good.ne {c : Cnd} (h : c.Good) : c ≠ .zero := by
 rintro rfl; exact h
theorem Cnd.Good.each {c : Cnd} (h : c.Good) (i : Nat) (hi : i < c.kn) : (c.kids i).Good := by
 cases c with
 | zero => exact h.elim
 | mk => exact h.2 i hi
theorem Cnd.Good.op {c : Cnd} (h : c.Good) : 1 ≤ c.op ∧ c.op ≤ 16 := by
 by_cases g : 1 ≤ c.op ∧ c.op ≤ 16
 ·exact g
 ·have := h.bare; rw [Cnd.bareE_kind g] at this; cases this
theorem Cnd.Good.form {c : Cnd} (h : c.Good) : Cnd.formB c.op c.kn c.an c.text c.low c.high = true := by
 cases g : Cnd.formB c.op c.kn c.an c.text c.low c.high
 ·have := h.bare; rw [Cnd.bareE_form h.op g] at this; cases this
 ·rfl
theorem Cnd.Good.textOk {c : Cnd} (h : c.Good) : Cnd.textE c.op c.text = 0 := by
 by_cases g : Cnd.textE c.op c.text = 0
 ·exact g
 ·have := h.bare; rw [Cnd.bareE_text h.op h.form rfl g] at this; exact absurd this g
theorem Cnd.Good.at1 {c : Cnd} (h : c.Good) (h3 : c.op = 14) : c.an = 1 := by
 by_cases g : c.an = 1
 ·exact g
 ·have := h.form; rw [Cnd.formB_at_I _ _ _ _ _ _ h3 g] at this; cases this
theorem Cnd.Good.at2 {c : Cnd} (h : c.Good) (h3 : c.op = 15) : c.an = 2 := by
 by_cases g : c.an = 2
 ·exact g
 ·have := h.form; rw [Cnd.formB_at_J _ _ _ _ _ _ h3 g] at this; cases this
theorem Cnd.Good.says {c : Cnd} (h : c.Good) (h3 : c.op = 5) : 1 ≤ c.text.size ∧ c.text.size ≤ 200 := by
 by_cases g : 1 ≤ c.text.size ∧ c.text.size ≤ 200
 ·exact g
 ·have := h.textOk; unfold Cnd.textE at this; rw [if_neg (by omega), if_pos h3, if_neg g] at this; cases this
theorem Cnd.ahead_more {c : Cnd} (h : c ≠ .zero) (d : Nat) {l : List (Cnd × Nat)} (hl : l.length ≤ 100) : l.length + 1 ≤ (Cnd.ahead c d l).length := by
 by_cases hd : d ≤ 12
 ·rw [Cnd.ahead_eq h hl hd]
  obtain ⟨m, hm⟩ := Cnd.aheadK_pre (f := fun i => Cnd.ahead (c.kids i) (d + 1)) (fun i l => Cnd.ahead_pre _ _ _) c.kn (l ++ [(c, d)])
  rw [hm]; simp <;> omega
 ·rw [Cnd.ahead_deep h hl (by omega)]; simp
theorem Cnd.good_ahead (w : World) : ∀ (c : Cnd) (d : Nat) (l : List (Cnd × Nat)), c.In w → Cnd.errL 0 (Cnd.ahead c d l) = 0 → c.Good := by
 refine Cnd.ind (fun d l h => absurd rfl h.ne) fun c hne ih d l hI he => ?_
 have hl : Cnd.errL 0 l = 0 := by
  by_cases g : Cnd.errL 0 l = 0
  ·exact g
  ·obtain ⟨m, hm⟩ := Cnd.ahead_pre c d l
   rw [hm, Cnd.errL_pre g] at he
   exact absurd he g
 have hle := Cnd.errL_le hl
 have hlt : l.length < 100 ∧ d ≤ 12 := by
  by_cases g : l.length = 100 ∨ 12 < d
  ·rw [Cnd.ahead_large hne hl g] at he; cases he
  ·omega
 have hb : c.bare = 0 := by
  by_cases g : c.bare = 0
  ·exact g
  ·rw [Cnd.ahead_bad hne hl hlt.1 hlt.2 g] at he; exact absurd he g
 rw [Cnd.ahead_eq hne (by omega) hlt.2] at he
 have hk : ∀ i, i < c.kn → (c.kids i).Good := by
  intro i hi
  refine ih i (d + 1) (Cnd.aheadK (fun i => Cnd.ahead (c.kids i) (d + 1)) i (l ++ [(c, d)])) (hI.each i hi) ?_
  by_cases g : Cnd.errL 0 (Cnd.aheadK (fun i => Cnd.ahead (c.kids i) (d + 1)) (i + 1) (l ++ [(c, d)])) = 0
  ·rw [Cnd.aheadK] at g; exact g
  ·rw [Cnd.aheadK_more (fun i l => Cnd.ahead_pre _ _ _) _ (i + 1) c.kn (by omega) g] at he; exact absurd he g
 rw [Cnd.bare_eq hne] at hb
 have hn : ∀ j, j ≤ c.kn → j ≤ (Cnd.aheadK (fun i => Cnd.ahead (c.kids i) (d + 1)) j (l ++ [(c, d)])).length := by
  intro j
  induction j with
  | zero => intro _; omega
  | succ j ihj =>
    intro hj
    have h1 := ihj (by omega)
    have h0 : Cnd.errL 0 (Cnd.aheadK (fun i => Cnd.ahead (c.kids i) (d + 1)) j (l ++ [(c, d)])) = 0 := by
     by_cases g : Cnd.errL 0 (Cnd.aheadK (fun i => Cnd.ahead (c.kids i) (d + 1)) j (l ++ [(c, d)])) = 0
     ·exact g
     ·rw [Cnd.aheadK_more (fun i l => Cnd.ahead_pre _ _ _) _ j c.kn (by omega) g] at he; exact absurd he g
    have h2 := Cnd.ahead_more (c := c.kids j) (hI.each j (by omega)).ne (d + 1) (Cnd.errL_le h0)
    rw [Cnd.aheadK]; omega
 have hn2 := hn c.kn (Nat.le_refl _)
 have hn3 := Cnd.errL_le he
 cases c with
 | zero => exact absurd rfl hne
 | mk => exact ⟨⟨hb, Nat.le_trans hn2 hn3⟩, hk⟩
theorem Cnd.good_of {w : World} {c : Cnd} (hI : c.In w) (h : c.err = 0) : c.Good := Cnd.good_ahead w c 0 [] hI h

theorem hasS_is (a : Option Addr) (n ca : Nat) (f : Nat → ByteArray) (x : ByteArray) (w : World) (hr : Row w a n (fun i => .string (f i))) (hn : n ≤ 9223372036854775807) :
  Calls Tryz.prog 121 #[.slice a n ca, .string x] w fun e w' => e = .returned (.bool (Fd.hit (fun i => x.toList == ByteArray.toList (f i)) n)) ∧ Below w.heap.size w w' := by
 have HR := Lib.hid hr
 have HY := Lib.hid (fun j (hj : j < n) (h : (x.toList == ByteArray.toList (f j)) = true) => Hd.hit_yes (f := fun i => x.toList == ByteArray.toList (f i)) hj h)
 have HN := Lib.hid (fun (h : ∀ j, j < n → (x.toList == ByteArray.toList (f j)) = false) => Hd.hit_no (f := fun i => x.toList == ByteArray.toList (f i)) h)
 clear hr
 generalize Fd.hit (fun i => x.toList == ByteArray.toList (f i)) n = q at *
 go_enter Tryz.func121, Tryz.ntmps121
 go_wp2_with fail
 go_loopg [9] n (fun gk i wr => ∃ j : Nat, j ≤ n ∧ gk = n - j ∧ i = .int .i64 j ∧ (∀ k, k < j → (x.toList == ByteArray.toList (f k)) = false) ∧ Below w.heap.size w wr)
 case atStart => exact ⟨0, by omega, rfl, rfl, fun k hk => by omega, Below.refl _ _⟩
 case round =>
  obtain ⟨j, hj, rfl, rfl, hall, hB⟩ := hrel
  have HALL := Lib.hid hall; clear hall
  by_cases hlt : j < n
  ·obtain ⟨b, off, rfl, hb, hcell⟩ := (HR.out.keep hB) (by omega)
   have c0 : wr.cell? ⟨b, off + j, none⟩ = some (.string (f j)) := hcell j hlt
   clear hcell
   obtain ⟨y, hy⟩ : ∃ y, f j = y := ⟨_, rfl⟩
   rw [hy] at c0
   have HE := Lib.hid hy; clear hy
   cases he : (x.toList == ByteArray.toList y)
   ·have HF := Lib.hid (show (x.toList == ByteArray.toList (f j)) = false by rw [HE.out]; exact he)
    go_wp2_with fail
    go_roundg (n - (j + 1))
    case rel => exact ⟨j + 1, by omega, rfl, by go_num, fun k hk => by (by_cases e : k = j); (subst e; exact HF.out); exact HALL.out k (by omega), (by first | exact hB | exact below_allocs hB _)⟩
    case measure => omega
   ·have HF := Lib.hid (HY.out j hlt (by rw [HE.out]; exact he))
    go_wp2_with fail
    go_ret
    exact ⟨ret_bool HF.out.symm, (by first | exact hB | exact below_allocs hB _)⟩
  ·obtain rfl : j = n := by omega
   go_wp2_with fail
   go_ret
   exact ⟨ret_bool (HN.out HALL.out).symm, hB⟩

theorem hasI_is (a : Option Addr) (n ca : Nat) (f : Nat → Int) (x : Int) (w : World) (hr : Row w a n (fun i => .int .i64 (f i))) (hn : n ≤ 9223372036854775807) :
  Calls Tryz.prog 126 #[.slice a n ca, .int .i64 x] w fun e w' => e = .returned (.bool (Fd.hit (fun i => x == (f i)) n)) ∧ Below w.heap.size w w' := by
 have HR := Lib.hid hr
 have HY := Lib.hid (fun j (hj : j < n) (h : (x == (f j)) = true) => Hd.hit_yes (f := fun i => x == (f i)) hj h)
 have HN := Lib.hid (fun (h : ∀ j, j < n → (x == (f j)) = false) => Hd.hit_no (f := fun i => x == (f i)) h)
 clear hr
 generalize Fd.hit (fun i => x == (f i)) n = q at *
 go_enter Tryz.func126, Tryz.ntmps126
 go_wp2_with fail
 go_loopg [9] n (fun gk i wr => ∃ j : Nat, j ≤ n ∧ gk = n - j ∧ i = .int .i64 j ∧ (∀ k, k < j → (x == (f k)) = false) ∧ Below w.heap.size w wr)
 case atStart => exact ⟨0, by omega, rfl, rfl, fun k hk => by omega, Below.refl _ _⟩
 case round =>
  obtain ⟨j, hj, rfl, rfl, hall, hB⟩ := hrel
  have HALL := Lib.hid hall; clear hall
  by_cases hlt : j < n
  ·obtain ⟨b, off, rfl, hb, hcell⟩ := (HR.out.keep hB) (by omega)
   have c0 : wr.cell? ⟨b, off + j, none⟩ = some (.int .i64 (f j)) := hcell j hlt
   clear hcell
   obtain ⟨y, hy⟩ : ∃ y, f j = y := ⟨_, rfl⟩
   rw [hy] at c0
   have HE := Lib.hid hy; clear hy
   cases he : (x == y)
   ·have HF := Lib.hid (show (x == (f j)) = false by rw [HE.out]; exact he)
    go_wp2_with fail
    go_roundg (n - (j + 1))
    case rel => exact ⟨j + 1, by omega, rfl, by go_num, fun k hk => by (by_cases e : k = j); (subst e; exact HF.out); exact HALL.out k (by omega), (by first | exact hB | exact below_allocs hB _)⟩
    case measure => omega
   ·have HF := Lib.hid (HY.out j hlt (by rw [HE.out]; exact he))
    go_wp2_with fail
    go_ret
    exact ⟨ret_bool HF.out.symm, (by first | exact hB | exact below_allocs hB _)⟩
  ·obtain rfl : j = n := by omega
   go_wp2_with fail
   go_ret
   exact ⟨ret_bool (HN.out HALL.out).symm, hB⟩

theorem hdIndexS (a : Option Addr) (n ca : Nat) (f : Nat → ByteArray) (x : ByteArray) (w : World) (hr : Row w a n (fun i => .string (f i))) (hn : n ≤ 9223372036854775807) :
  Calls Tryz.prog 181 #[.slice a n ca, .string x] w fun e w' => (∃ r : Int, e = .returned (.int .i64 r) ∧ ((Fd.hit (fun i => x.toList == ByteArray.toList (f i)) n = true ∧ 0 ≤ r) ∨ (Fd.hit (fun i => x.toList == ByteArray.toList (f i)) n = false ∧ r = -1))) ∧ w = w' := by
 have HR := Lib.hid hr; clear hr
 go_enter Tryz.func181, Tryz.ntmps181
 go_wp2_with fail
 go_loopg [8] n (fun gk i wr => ∃ j : Nat, j ≤ n ∧ gk = n - j ∧ i = .int .i64 j ∧ (∀ k, k < j → (x.toList == ByteArray.toList (f k)) = false) ∧ w = wr)
 case atStart => exact ⟨0, by omega, rfl, rfl, fun k hk => by omega, rfl⟩
 case round =>
  obtain ⟨j, hj, rfl, rfl, hall, rfl⟩ := hrel
  have HALL := Lib.hid hall; clear hall
  by_cases hlt : j < n
  ·obtain ⟨b, off, rfl, hb, hcell⟩ := HR.out (by omega)
   have c0 : w.cell? ⟨b, off + j, none⟩ = some (.string (f j)) := hcell j hlt
   clear hcell
   obtain ⟨y, hy⟩ : ∃ y, f j = y := ⟨_, rfl⟩
   rw [hy] at c0
   have HE := Lib.hid hy; clear hy
   cases he : (x.toList == ByteArray.toList y)
   ·have HF := Lib.hid (show (x.toList == ByteArray.toList (f j)) = false by rw [HE.out]; exact he)
    go_wp2_with fail
    go_roundg (n - (j + 1))
    case rel => exact ⟨j + 1, by omega, rfl, by go_num, fun k hk => by (by_cases e : k = j); (subst e; exact HF.out); exact HALL.out k (by omega), rfl⟩
    case measure => omega
   ·have HF := Lib.hid (Hd.hit_yes (f := fun i => x.toList == ByteArray.toList (f i)) hlt (by simp only [HE.out]; exact he))
    go_wp2_with fail
    go_ret
    exact ⟨⟨j, rfl, .inl ⟨HF.out, by omega⟩⟩, rfl⟩
  ·obtain rfl : j = n := by omega
   go_wp2_with fail
   go_ret
   exact ⟨⟨-1, rfl, .inr ⟨Hd.hit_no HALL.out, rfl⟩⟩, rfl⟩
theorem hdContS (a : Option Addr) (n ca : Nat) (f : Nat → ByteArray) (x : ByteArray) (w : World) (hr : Row w a n (fun i => .string (f i))) (hn : n ≤ 9223372036854775807) :
  Calls Tryz.prog 145 #[.slice a n ca, .string x] w fun e w' => e = .returned (.bool (Fd.hit (fun i => x.toList == ByteArray.toList (f i)) n)) ∧ w = w' := by
 have HI := Lib.hid (hdIndexS a n ca f x w hr hn)
 clear hr
 generalize Fd.hit (fun i => x.toList == ByteArray.toList (f i)) n = q at *
 go_enter Tryz.func145, Tryz.ntmps145
 go_wp2_with (go_at_call 181; refine HI.out.mono ?_; rintro e w' ⟨⟨r, rfl, hr⟩, rfl⟩; have HR := Lib.hid hr; clear hr)
 go_ret
 refine ⟨ret_bool ?_, rfl⟩
 rcases HR.out with ⟨h, h0⟩ | ⟨h, rfl⟩
 ·rw [h]; simpa using h0
 ·rw [h]; rfl

theorem hdIndexI (a : Option Addr) (n ca : Nat) (f : Nat → Int) (x : Int) (w : World) (hr : Row w a n (fun i => .int .i64 (f i))) (hn : n ≤ 9223372036854775807) :
  Calls Tryz.prog 182 #[.slice a n ca, .int .i64 x] w fun e w' => (∃ r : Int, e = .returned (.int .i64 r) ∧ ((Fd.hit (fun i => x == (f i)) n = true ∧ 0 ≤ r) ∨ (Fd.hit (fun i => x == (f i)) n = false ∧ r = -1))) ∧ w = w' := by
 have HR := Lib.hid hr; clear hr
 go_enter Tryz.func182, Tryz.ntmps182
 go_wp2_with fail
 go_loopg [8] n (fun gk i wr => ∃ j : Nat, j ≤ n ∧ gk = n - j ∧ i = .int .i64 j ∧ (∀ k, k < j → (x == (f k)) = false) ∧ w = wr)
 case atStart => exact ⟨0, by omega, rfl, rfl, fun k hk => by omega, rfl⟩
 case round =>
  obtain ⟨j, hj, rfl, rfl, hall, rfl⟩ := hrel
  have HALL := Lib.hid hall; clear hall
  by_cases hlt : j < n
  ·obtain ⟨b, off, rfl, hb, hcell⟩ := HR.out (by omega)
   have c0 : w.cell? ⟨b, off + j, none⟩ = some (.int .i64 (f j)) := hcell j hlt
   clear hcell
   obtain ⟨y, hy⟩ : ∃ y, f j = y := ⟨_, rfl⟩
   rw [hy] at c0
   have HE := Lib.hid hy; clear hy
   cases he : (x == y)
   ·have HF := Lib.hid (show (x == (f j)) = false by rw [HE.out]; exact he)
    go_wp2_with fail
    go_roundg (n - (j + 1))
    case rel => exact ⟨j + 1, by omega, rfl, by go_num, fun k hk => by (by_cases e : k = j); (subst e; exact HF.out); exact HALL.out k (by omega), rfl⟩
    case measure => omega
   ·have HF := Lib.hid (Hd.hit_yes (f := fun i => x == (f i)) hlt (by simp only [HE.out]; exact he))
    go_wp2_with fail
    go_ret
    exact ⟨⟨j, rfl, .inl ⟨HF.out, by omega⟩⟩, rfl⟩
  ·obtain rfl : j = n := by omega
   go_wp2_with fail
   go_ret
   exact ⟨⟨-1, rfl, .inr ⟨Hd.hit_no HALL.out, rfl⟩⟩, rfl⟩
theorem hdContI (a : Option Addr) (n ca : Nat) (f : Nat → Int) (x : Int) (w : World) (hr : Row w a n (fun i => .int .i64 (f i))) (hn : n ≤ 9223372036854775807) :
  Calls Tryz.prog 147 #[.slice a n ca, .int .i64 x] w fun e w' => e = .returned (.bool (Fd.hit (fun i => x == (f i)) n)) ∧ w = w' := by
 have HI := Lib.hid (hdIndexI a n ca f x w hr hn)
 clear hr
 generalize Fd.hit (fun i => x == (f i)) n = q at *
 go_enter Tryz.func147, Tryz.ntmps147
 go_wp2_with (go_at_call 182; refine HI.out.mono ?_; rintro e w' ⟨⟨r, rfl, hr⟩, rfl⟩; have HR := Lib.hid hr; clear hr)
 go_ret
 refine ⟨ret_bool ?_, rfl⟩
 rcases HR.out with ⟨h, h0⟩ | ⟨h, rfl⟩
 ·rw [h]; simpa using h0
 ·rw [h]; rfl
structure LowAt (w0 w : World) (s : ByteArray) (b j : Nat) : Prop where
 cell : ∀ k, k < s.size → w.cell? ⟨b, k, none⟩ = some (.int .u8 ((if k < j then Hd.lowC (s.data.toList.getD k 0) else s.data.toList.getD k 0).toNat : Int))
 free : ∀ k, k < s.size → w.frozen? ⟨b, k, none⟩ = false
 bel : Below b w0 w
theorem LowAt.start (w : World) (e : TypeId) (s : ByteArray) (cap : Nat) (W : World) (hW : w.drew.alloc (.cells (bytesRow s cap) e ((bytesRow s cap).size, (bytesRow s cap).size + 1)) = W) : LowAt w W s w.heap.size 0 := by
 subst hW
 refine ⟨fun k hk => ?_, fun k hk => ?_, ?_⟩
 ·rw [if_neg (by omega)]
  refine (World.cell?_alloc_mark w.drew _ _ _ k).trans ?_
  rw [bytesRow_at s cap k hk]
  simp [List.getD, Array.getElem?_toList, Array.getElem?_eq_getElem (show k < s.data.size from hk)]
 ·refine (World.frozen?_alloc_mark w.drew _ _ _ _ k).trans ?_
  have : k < (bytesRow s cap).size := by
   have hk' : k < s.data.size := hk
   unfold bytesRow
   simp
   omega
  simp
  omega
 ·exact below_allocs (Below.refl _ w).drew _
theorem LowAt.set {w0 w : World} {s : ByteArray} {b j : Nat} (h : LowAt w0 w s b j) (hj : j < s.size) (v : Int) (hv : v = ((Hd.lowC (s.data.toList.getD j 0)).toNat : Int)) : LowAt w0 (w.setCell ⟨b, j, none⟩ (.int .u8 v)) s b (j + 1) := by
 subst hv
 refine ⟨fun k hk => ?_, fun k hk => ?_, h.bel.setCell (by exact Nat.le_refl _) _⟩
 ·by_cases e : k = j
  ·subst e
   rw [World.cell?_setCell_same _ _ _ (h.cell k hk), if_pos (by omega)]
  ·rw [World.cell?_setCell_other _ _ _ _ (by simp <;> omega), h.cell k hk]
   by_cases g : k < j
   ·rw [if_pos g, if_pos (by omega)]
   ·rw [if_neg g, if_neg (by omega)]
 ·rw [World.frozen?_setCell]; exact h.free k hk
theorem LowAt.skip {w0 w : World} {s : ByteArray} {b j : Nat} (h : LowAt w0 w s b j) (hv : Hd.lowC (s.data.toList.getD j 0) = s.data.toList.getD j 0) : LowAt w0 w s b (j + 1) := by
 refine ⟨fun k hk => ?_, h.free, h.bel⟩
 rw [h.cell k hk]
 by_cases e : k = j
 ·subst e; rw [if_neg (by omega), if_pos (by omega), hv]
 ·by_cases g : k < j
  ·rw [if_pos g, if_pos (by omega)]
  ·rw [if_neg g, if_neg (by omega)]
theorem lowC_yes {c : UInt8} (h1 : (65 : Int) ≤ (c.toNat : Int)) (h2 : (c.toNat : Int) ≤ 90) : ((Hd.lowC c).toNat : Int) = (c.toNat : Int) + 32 := by
 unfold Hd.lowC
 have h1' : 65 ≤ c.toNat := by omega
 have h2' : c.toNat ≤ 90 := by omega
 rw [if_pos ⟨by rw [UInt8.le_iff_toNat_le]; exact h1', by rw [UInt8.le_iff_toNat_le]; exact h2'⟩]
 rw [UInt8.toNat_add]
 have : (32 : UInt8).toNat = 32 := rfl
 rw [this]; omega
theorem lowC_no {c : UInt8} (h : ¬ ((65 : Int) ≤ (c.toNat : Int) ∧ (c.toNat : Int) ≤ 90)) : Hd.lowC c = c := by
 unfold Hd.lowC
 rw [if_neg fun g => h ⟨by have := UInt8.le_iff_toNat_le.1 g.1; have e : (65 : UInt8).toNat = 65 := rfl; omega, by have := UInt8.le_iff_toNat_le.1 g.2; have e : (90 : UInt8).toNat = 90 := rfl; omega⟩]
theorem low_bytes (s : ByteArray) : ∀ j (hj : j < (s.data.toList.map Hd.lowC).length), (s.data.toList.map Hd.lowC)[j] = Hd.lowC (s.data.toList.getD j 0) := by
 intro j hj
 have hj' : j < s.data.toList.length := by rw [List.length_map] at hj; exact hj
 rw [List.getElem_map]
 simp [List.getD, List.getElem?_eq_getElem hj']

theorem lower_is (s : ByteArray) (hs : s.size ≤ 200) (w : World) : Calls Tryz.prog 122 #[.string s] w fun e w' => e = .returned (.string (Hd.low s)) ∧ Below w.heap.size w w' := by
 obtain ⟨cap, hcap⟩ : ∃ cap, grownCap w s.size 0 5 = cap := ⟨_, rfl⟩
 have hcv := run_bytes_of_string (P := Tryz.prog) w 9 62 5 s Tryz.underlying9 Tryz.underlying62 Tryz.underlying5
 rw [hcap] at hcv
 obtain ⟨W1, hW1⟩ : ∃ W1, w.drew.alloc (.cells (bytesRow s cap) 5 ((bytesRow s cap).size, (bytesRow s cap).size + 1)) = W1 := ⟨_, rfl⟩
 have HL0 := Lib.hid (LowAt.start w 5 s cap W1 hW1)
 rw [hW1] at hcv
 have hlen : (s.data.toList.map Hd.lowC).length = s.size := by rw [List.length_map]; rfl
 have HBK := Lib.hid (fun (W : World) (c : Nat) (h : LowAt w W s w.heap.size s.size) => run_convert_bytes_back (P := Tryz.prog) W 62 9 5 ⟨w.heap.size, 0, none⟩ c (s.data.toList.map Hd.lowC) Tryz.underlying62 Tryz.underlying5 Tryz.underlying9
  (fun j hj => by
   have := h.cell j (by omega)
   rw [if_pos (by omega)] at this
   rw [low_bytes s j hj, ← this]
   congr 1
   simp [Addr.add] <;> omega))
 rw [hlen] at HBK
 have HW1 := Lib.hid hW1
 clear hW1 hcap hlen
 go_enter Tryz.func122, Tryz.ntmps122
 go_wp2_with fail
 go_loopg [10] s.size (fun gk i wr => ∃ j : Nat, j ≤ s.size ∧ gk = s.size - j ∧ i = .int .i64 j ∧ LowAt w wr s w.heap.size j)
 case atStart => exact ⟨0, by omega, rfl, rfl, HL0.out⟩
 case round =>
  obtain ⟨j, hj, rfl, rfl, hL⟩ := hrel
  have HL := Lib.hid hL
  by_cases hlt : j < s.size
  ·have c0 := hL.cell j hlt
   rw [if_neg (by omega)] at c0
   have f0 := hL.free j hlt
   clear hL
   obtain ⟨u, hu⟩ : ∃ u, s.data.toList.getD j 0 = u := ⟨_, rfl⟩
   rw [hu] at c0
   have HU := Lib.hid hu; clear hu
   obtain ⟨c, hc⟩ : ∃ c : Int, (u.toNat : Int) = c := ⟨_, rfl⟩
   have hc1 : 0 ≤ c ∧ c < 256 := by have := u.toNat_lt; omega
   rw [hc] at c0
   have HCC := Lib.hid hc; clear hc
   by_cases h1 : 65 ≤ c
   ·by_cases h2 : c ≤ 90
    ·have e1 : IntKind.u8.wrap (c + 97) = c + 97 := by rw [IntKind.wrap_u8]; omega
     have e2 : IntKind.u8.wrap (c + 97 - 65) = c + 97 - 65 := by rw [IntKind.wrap_u8]; omega
     have e3 : IntKind.u8.wrap (c + 32) = c + 32 := by rw [IntKind.wrap_u8]; omega
     go_wp2_with fail
     go_roundg (s.size - (j + 1))
     case rel => exact ⟨j + 1, by omega, rfl, by go_num, HL.out.set hlt _ (by rw [HU.out, lowC_yes (by rw [HCC.out]; exact h1) (by rw [HCC.out]; exact h2), HCC.out] <;> omega)⟩
     case measure => omega
    ·go_wp2_with fail
     go_roundg (s.size - (j + 1))
     case rel => exact ⟨j + 1, by omega, rfl, by go_num, HL.out.skip (by rw [HU.out]; exact lowC_no (by rw [HCC.out]; omega))⟩
     case measure => omega
   ·go_wp2_with fail
    go_roundg (s.size - (j + 1))
    case rel => exact ⟨j + 1, by omega, rfl, by go_num, HL.out.skip (by rw [HU.out]; exact lowC_no (by rw [HCC.out]; omega))⟩
    case measure => omega
  ·obtain rfl : j = s.size := by omega
   have hbk := HBK.out wr cap HL.out
   clear hL
   go_wp2_with fail
   go_ret
   exact ⟨rfl, HL.out.bel⟩

theorem small_is (s : ByteArray) (hs : s.size ≤ 200) (w : World) : Calls Tryz.prog 146 #[.string s] w fun e w' => e = .returned (.string (Hd.low s)) ∧ Below w.heap.size w w' := by
 obtain ⟨cap, hcap⟩ : ∃ cap, grownCap w s.size 0 5 = cap := ⟨_, rfl⟩
 have hcv := run_bytes_of_string (P := Tryz.prog) w 9 62 5 s Tryz.underlying9 Tryz.underlying62 Tryz.underlying5
 rw [hcap] at hcv
 obtain ⟨W1, hW1⟩ : ∃ W1, w.drew.alloc (.cells (bytesRow s cap) 5 ((bytesRow s cap).size, (bytesRow s cap).size + 1)) = W1 := ⟨_, rfl⟩
 have HL0 := Lib.hid (LowAt.start w 5 s cap W1 hW1)
 rw [hW1] at hcv
 have hlen : (s.data.toList.map Hd.lowC).length = s.size := by rw [List.length_map]; rfl
 have HBK := Lib.hid (fun (W : World) (c : Nat) (h : LowAt w W s w.heap.size s.size) => run_convert_bytes_back (P := Tryz.prog) W 62 9 5 ⟨w.heap.size, 0, none⟩ c (s.data.toList.map Hd.lowC) Tryz.underlying62 Tryz.underlying5 Tryz.underlying9
  (fun j hj => by
   have := h.cell j (by omega)
   rw [if_pos (by omega)] at this
   rw [low_bytes s j hj, ← this]
   congr 1
   simp [Addr.add] <;> omega))
 rw [hlen] at HBK
 have HW1 := Lib.hid hW1
 clear hW1 hcap hlen
 go_enter Tryz.func146, Tryz.ntmps146
 go_wp2_with fail
 go_loopg [10] s.size (fun gk i wr => ∃ j : Nat, j ≤ s.size ∧ gk = s.size - j ∧ i = .int .i64 j ∧ LowAt w wr s w.heap.size j)
 case atStart => exact ⟨0, by omega, rfl, rfl, HL0.out⟩
 case round =>
  obtain ⟨j, hj, rfl, rfl, hL⟩ := hrel
  have HL := Lib.hid hL
  by_cases hlt : j < s.size
  ·have c0 := hL.cell j hlt
   rw [if_neg (by omega)] at c0
   have f0 := hL.free j hlt
   clear hL
   obtain ⟨u, hu⟩ : ∃ u, s.data.toList.getD j 0 = u := ⟨_, rfl⟩
   rw [hu] at c0
   have HU := Lib.hid hu; clear hu
   obtain ⟨c, hc⟩ : ∃ c : Int, (u.toNat : Int) = c := ⟨_, rfl⟩
   have hc1 : 0 ≤ c ∧ c < 256 := by have := u.toNat_lt; omega
   rw [hc] at c0
   have HCC := Lib.hid hc; clear hc
   by_cases h1 : 65 ≤ c
   ·by_cases h2 : c ≤ 90
    ·have e1 : IntKind.u8.wrap (c + 97) = c + 97 := by rw [IntKind.wrap_u8]; omega
     have e2 : IntKind.u8.wrap (c + 97 - 65) = c + 97 - 65 := by rw [IntKind.wrap_u8]; omega
     have e3 : IntKind.u8.wrap (c + 32) = c + 32 := by rw [IntKind.wrap_u8]; omega
     go_wp2_with fail
     go_roundg (s.size - (j + 1))
     case rel => exact ⟨j + 1, by omega, rfl, by go_num, HL.out.set hlt _ (by rw [HU.out, lowC_yes (by rw [HCC.out]; exact h1) (by rw [HCC.out]; exact h2), HCC.out] <;> omega)⟩
     case measure => omega
    ·go_wp2_with fail
     go_roundg (s.size - (j + 1))
     case rel => exact ⟨j + 1, by omega, rfl, by go_num, HL.out.skip (by rw [HU.out]; exact lowC_no (by rw [HCC.out]; omega))⟩
     case measure => omega
   ·go_wp2_with fail
    go_roundg (s.size - (j + 1))
    case rel => exact ⟨j + 1, by omega, rfl, by go_num, HL.out.skip (by rw [HU.out]; exact lowC_no (by rw [HCC.out]; omega))⟩
    case measure => omega
  ·obtain rfl : j = s.size := by omega
   have hbk := HBK.out wr cap HL.out
   clear hL
   go_wp2_with fail
   go_ret
   exact ⟨rfl, HL.out.bel⟩
end Go.Proofs.YtimjmjmpaicdbaaGreatDoor
