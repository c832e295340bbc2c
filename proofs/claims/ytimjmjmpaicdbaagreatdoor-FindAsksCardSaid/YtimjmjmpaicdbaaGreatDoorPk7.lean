/- Parts of the proof, no condition: DistW, Cpy, FdEq, FdPhoto, FdErr0, FdErrA. -/
import Derived.Laws.FloatArith
import Derived.Test.YtimjmjmpaicdbaaGreatDoorProg
import Derived.Test.YtimjmjmpaicdbaaGreatDoorPk1
import Derived.Laws.Externs
import Derived.Test.YtimjmjmpaicdbaaGreatDoorPk6
import Derived.Deep.AppendLies
import Derived.Deep.DeepCutAuto
import Derived.Laws.Tables
import Derived.Laws.Rows
import Derived.Laws.CopyOwn
import Derived.Laws.StructEq
import Derived.Test.YtimjmjmpaicdbaaGreatDoorPk2
set_option maxRecDepth 100000
set_option maxHeartbeats 16000000
set_option linter.unusedVariables false
namespace Go.Proofs.YtimjmjmpaicdbaaGreatDoor.Fl
open Ieee
theorem two52 : (2 : Nat) ^ 52 = 4503599627370496 := rfl
theorem kept_bd (mag L : Nat) (h0 : mag ≠ 0) (hL : mag.log2 = L) (h1 : L ≤ 52) : 4503599627370496 ≤ mag * 2 ^ (52 - L) ∧ mag * 2 ^ (52 - L) < 9007199254740992 := by
 have a := Nat.log2_self_le h0
 have b := @Nat.lt_log2_self mag
 rw [hL] at a b
 have e : 2 ^ L * 2 ^ (52 - L) = 4503599627370496 := by rw [← Nat.pow_add, show L + (52 - L) = 52 by omega]
 have e2 : 2 ^ (L + 1) * 2 ^ (52 - L) = 9007199254740992 := by rw [← Nat.pow_add, show L + 1 + (52 - L) = 53 by omega]
 have p : 0 < 2 ^ (52 - L) := Nat.two_pow_pos _
 refine ⟨?_, ?_⟩
 ·rw [← e]; exact Nat.mul_le_mul_right _ a
 ·rw [← e2]; exact Nat.mul_lt_mul_of_pos_right b p
theorem low_bd (mag L : Nat) (h0 : mag ≠ 0) (hL : mag.log2 = L) (h1 : 52 < L) : 4503599627370496 ≤ mag / 2 ^ (L - 52) ∧ mag / 2 ^ (L - 52) < 9007199254740992 := by
 have a := Nat.log2_self_le h0
 have b := @Nat.lt_log2_self mag
 rw [hL] at a b
 have e : 2 ^ L = 4503599627370496 * 2 ^ (L - 52) := by rw [← two52, ← Nat.pow_add, show 52 + (L - 52) = L by omega]
 have e2 : 2 ^ (L + 1) = 9007199254740992 * 2 ^ (L - 52) := by rw [show (9007199254740992 : Nat) = 2 ^ 53 from rfl, ← Nat.pow_add, show 53 + (L - 52) = L + 1 by omega]
 have p : 0 < 2 ^ (L - 52) := Nat.two_pow_pos _
 exact ⟨(Nat.le_div_iff_mul_le p).2 (by rw [← e]; exact a), (Nat.div_lt_iff_lt_mul p).2 (by rw [← e2]; exact b)⟩
theorem cut_bd (neg : Bool) (n drop : Nat) (h : drop ≤ n.log2 + 2) : ∃ b, b ≤ 1 ∧ Toward.cut .even neg n drop = n / 2 ^ drop + b := by
 have hb : ∀ b : Bool, b.toNat ≤ 1 := by decide
 unfold Toward.cut
 simp only [Nat.min_eq_left h, Nat.one_shiftLeft]
 exact ⟨_, hb _, rfl⟩
theorem read_rung (q kept : Nat) (h1 : 4503599627370496 ≤ kept) (h2 : kept ≤ 9007199254740992) (hq : q ≤ 2000) :
  ∃ m p, double.read (q * 4503599627370496 + kept) = .number false m p ∧ 4503599627370496 ≤ m ∧ m < 9007199254740992 ∧ (p = -1074 + q ∨ p = -1074 + (q + 1)) := by
 have hs : double.signWeight = 9223372036854775808 := by decide
 have hb : double.binade = 4503599627370496 := by decide
 have hi : double.infRung = 9218868437227405312 := by decide
 have hl : double.leastPlace = -1074 := by decide
 unfold Format.read
 rw [hs, hb, hi, hl]
 have c1 : ((q * 4503599627370496 + kept) / 9223372036854775808 % 2 == 1) = false := by
  rw [beq_eq_false_iff_ne]; omega
 have c2 : (q * 4503599627370496 + kept) % 9223372036854775808 = q * 4503599627370496 + kept := by omega
 simp only [c1, c2]
 rw [if_neg (by omega), if_pos (by omega)]
 exact ⟨_, _, rfl, by omega, by omega, by omega⟩
theorem read_nearest (mag : Nat) (place : Int) (h0 : mag ≠ 0) (hlo : -1000 ≤ place) (hhi : place + mag.log2 ≤ 900) :
  ∃ m p, double.read (double.nearest false mag place) = .number false m p ∧ 4503599627370496 ≤ m ∧ m < 9007199254740992 ∧ (p = place + mag.log2 - 52 ∨ p = place + mag.log2 - 51) := by
 have hb : double.binade = 4503599627370496 := by decide
 have hi : double.infRung = 9218868437227405312 := by decide
 have hl : double.leastPlace = -1074 := by decide
 have hf : double.fractionBits = 52 := rfl
 obtain ⟨L, hL⟩ : ∃ L, mag.log2 = L := ⟨_, rfl⟩
 unfold Format.nearest
 rw [if_neg h0]
 simp only [hb, hi, hl, hf, hL]
 rw [hL] at hhi
 have e1 : max (place + (L : Int) - (52 : Nat)) (-1074) = place + L - 52 := by omega
 rw [e1]
 have key : ∃ kept, Toward.cut .even false (mag <<< (place - (place + (L : Int) - 52)).toNat) ((place + (L : Int) - 52) - place).toNat = kept ∧ 4503599627370496 ≤ kept ∧ kept ≤ 9007199254740992 := by
  by_cases h : L ≤ 52
  ·rw [show (place - (place + (L : Int) - 52)).toNat = 52 - L by omega, show ((place + (L : Int) - 52) - place).toNat = 0 by omega]
   obtain ⟨k1, k2⟩ := kept_bd mag L h0 hL h
   refine ⟨mag <<< (52 - L), ?_, by rw [Nat.shiftLeft_eq]; exact k1, by rw [Nat.shiftLeft_eq]; omega⟩
   unfold Toward.cut
   simp [Nat.mod_one]
  ·rw [show (place - (place + (L : Int) - 52)).toNat = 0 by omega, show ((place + (L : Int) - 52) - place).toNat = L - 52 by omega]
   obtain ⟨k1, k2⟩ := low_bd mag L h0 hL (by omega)
   obtain ⟨b, hb1, hb2⟩ := cut_bd false mag (L - 52) (by rw [hL]; omega)
   refine ⟨_, rfl, ?_, ?_⟩
   ·rw [Nat.shiftLeft_zero, hb2]; omega
   ·rw [Nat.shiftLeft_zero, hb2]; omega
 obtain ⟨kept, hk, hk1, hk2⟩ := key
 rw [hk]
 obtain ⟨q, hq⟩ : ∃ q : Nat, (place + (L : Int) - 52 - -1074).toNat = q := ⟨_, rfl⟩
 rw [hq, Nat.min_eq_left (by omega)]
 obtain ⟨m, p, h1, h2, h3, h4⟩ := read_rung q kept hk1 hk2 (by omega)
 exact ⟨m, p, h1, h2, h3, by omega⟩
theorem rootFrom_lt (n : Nat) : ∀ todo root, Datum.rootFrom n todo root < root + 2 ^ todo := by
 intro todo
 induction todo with
 | zero => intro root; show root < root + 1; omega
 | succ todo ih =>
   intro root
   unfold Datum.rootFrom
   have p := Nat.two_pow_pos todo
   have e : (2 : Nat) ^ (todo + 1) = 2 ^ todo + 2 ^ todo := by rw [Nat.pow_succ]; omega
   have e2 : (root + 1) <<< todo = root + 1 <<< todo ∨ True := .inr trivial
   simp only []
   split
   ·have := ih (root + 1 <<< todo)
    rw [Nat.one_shiftLeft] at this ⊢
    omega
   ·have := ih root
    omega
theorem log2_lt {m k : Nat} (h0 : m ≠ 0) (h : m < 2 ^ (k + 1)) : m.log2 ≤ k := by
 have := (Nat.log2_lt h0).2 h
 omega
theorem log2_ge {m k : Nat} (h0 : m ≠ 0) (h : 2 ^ k ≤ m) : k ≤ m.log2 := (Nat.le_log2 h0).2 h
theorem sqrt_int (n : Nat) (hn : n < 144115188075855872) : ∃ b r : Nat, double.sqrt (double.write (.number false n 0)) = some b ∧ (double.read b).toInt .zero = some (r : Int) ∧ r ≤ 2147483648 := by
 by_cases h0 : n = 0
 ·subst h0
  exact ⟨0, 0, by decide +kernel, by decide +kernel, by omega⟩
 ·have hL : n.log2 ≤ 56 := log2_lt h0 (by simpa using hn)
  obtain ⟨m, p, h1, h2, h3, h4⟩ := read_nearest n 0 h0 (by omega) (by omega)
  have hm0 : m ≠ 0 := by omega
  have hml : m.log2 = 52 := by
   have a := log2_lt (k := 52) hm0 (by simpa using h3)
   have b := log2_ge (k := 52) hm0 (by simpa using h2)
   omega
  have hp : -52 ≤ p ∧ p ≤ 5 := by omega
  obtain ⟨s, e, hroot, hs0, hs, he⟩ : ∃ s e, Datum.root 54 (.number false m p) = some (.number false s e) ∧ s ≠ 0 ∧ s < 72057594037927936 ∧ -56 ≤ e ∧ e ≤ -26 := by
   unfold Datum.root
   simp only [if_neg hm0, hml, Bool.false_eq_true, if_false]
   obtain ⟨o, ho⟩ : ∃ o : Nat, ((p - ((2 * 54 - 52 : Nat) : Int)) % 2).toNat = o := ⟨_, rfl⟩
   rw [ho]
   have ho1 : o ≤ 1 := by omega
   obtain ⟨N, hN⟩ : ∃ N, m <<< (2 * 54 - 52 + o) = N := ⟨_, rfl⟩
   rw [hN]
   have hNb : N ≠ 0 ∧ N < 2 ^ 110 ∧ 2 ^ 108 ≤ N := by
    rw [Nat.shiftLeft_eq] at hN
    have : (2 : Nat) ^ 56 ≤ 2 ^ (2 * 54 - 52 + o) := Nat.pow_le_pow_right (by omega) (by omega)
    have h57 : (2 : Nat) ^ (2 * 54 - 52 + o) ≤ 2 ^ 57 := Nat.pow_le_pow_right (by omega) (by omega)
    have a := Nat.mul_le_mul h2 this
    have b : m * 2 ^ (2 * 54 - 52 + o) < 9007199254740992 * 2 ^ 57 := Nat.lt_of_lt_of_le (Nat.mul_lt_mul_of_pos_right h3 (Nat.two_pow_pos _)) (Nat.mul_le_mul_left _ h57)
    rw [hN] at a b
    have e1 : (4503599627370496 : Nat) * 2 ^ 56 = 2 ^ 108 := by rw [← two52, ← Nat.pow_add]
    have e2 : (9007199254740992 : Nat) * 2 ^ 57 = 2 ^ 110 := by rw [show (9007199254740992 : Nat) = 2 ^ 53 from rfl, ← Nat.pow_add]
    have := Nat.two_pow_pos 108
    omega
   have hNl : N.log2 / 2 + 1 = 55 := by
    have a := log2_lt (k := 109) hNb.1 hNb.2.1
    have b := log2_ge (k := 108) hNb.1 hNb.2.2
    omega
   have hr := rootFrom_lt N 55 0
   rw [hNl]
   obtain ⟨W, hW⟩ : ∃ W, Datum.rootFrom N 55 0 = W := ⟨_, rfl⟩
   rw [hW] at hr ⊢
   have hb : ∀ b : Bool, b.toNat ≤ 1 := by decide
   have h55 : (2 : Nat) ^ 55 = 36028797018963968 := rfl
   refine ⟨_, _, rfl, ?_, ?_, by omega, by omega⟩
   ·intro hz
    have hW0 : W = 0 := by omega
    rw [hW0] at hz
    have : ((0 * 0 != N) : Bool) = true := by simpa using hNb.1.symm
    rw [this] at hz
    simp at hz
   ·have := hb (W * W != N)
    omega
  have hsl : s.log2 ≤ 55 := log2_lt hs0 (by simpa using hs)
  obtain ⟨m2, p2, g1, g2, g3, g4⟩ := read_nearest s e hs0 (by omega) (by omega)
  refine ⟨double.nearest false s e, ?_⟩
  have hw : double.sqrt (double.write (.number false n 0)) = some (double.nearest false s e) := by
   show ((double.read (double.nearest false n 0)).root 54).map double.write = _
   rw [h1, hroot]; rfl
  refine ⟨((m2 <<< p2.toNat) / 2 ^ (min (-p2).toNat ((m2 <<< p2.toNat).log2 + 2))), hw, ?_, ?_⟩
  ·rw [g1]
   unfold Datum.toInt Datum.integral
   simp only [Toward.cut, signed, Nat.one_shiftLeft, Bool.toNat_false, Nat.add_zero, Nat.shiftLeft_zero, Bool.false_eq_true, if_false]
  ·have hp2 : p2 ≤ -22 := by omega
   rw [show p2.toNat = 0 by omega, Nat.shiftLeft_zero]
   have hml2 : m2.log2 = 52 := by
    have a := log2_lt (k := 52) (by omega) (show m2 < 2 ^ 53 by simpa using g3)
    have b := log2_ge (k := 52) (by omega) (show 2 ^ 52 ≤ m2 by simpa using g2)
    omega
   rw [hml2]
   have hd : (2 : Nat) ^ 22 ≤ 2 ^ (min (-p2).toNat (52 + 2)) := Nat.pow_le_pow_right (by omega) (by omega)
   have := Nat.div_le_div (Nat.le_of_lt g3) hd (by have := Nat.two_pow_pos 22; omega)
   rw [show (9007199254740992 : Nat) / 2 ^ 22 = 2147483648 from by decide] at this
   exact this
end Go.Proofs.YtimjmjmpaicdbaaGreatDoor.Fl
namespace Go.Proofs.YtimjmjmpaicdbaaGreatDoor
open Go.RowKit Go.Sort
theorem run_sqrtF {P : Program} (x b : Nat) (h : Ieee.double.sqrt x = some b) (w : World) : (Extern.MathSqrt.sqrt #[.float .f64 x]).run P w = .ok (.float .f64 b) w := by
 have e : Extern.MathSqrt.sqrt #[.float .f64 x] = (match Ieee.double.sqrt x with | some r => pure (.float .f64 r) | none => do pure (.float .f64 (← choose (.nanBits .f64 x x)))) := rfl
 rw [e, h]
 rfl
theorem sqrt_is (x b : Nat) (h : Ieee.double.sqrt x = some b) (w : World) : Calls Tryz.prog 235 #[.float .f64 x] w fun e w' => e = .returned (.float .f64 b) ∧ w = w' := by
 have H := Lib.hid h
 go_enter Tryz.func235, Tryz.ntmps235
 go_wp2
 rw [run_callFunc_extern Tryz.func252 (by kernel_rfl) (by kernel_rfl) (by kernel_rfl) (e := Extern.MathSqrt.sqrt) (by kernel_rfl), run_sqrtF x b H.out]
 simp only [Result.andThen]
 rw [Oper.upon_value]
 go_wp2
 go_ret
 exact ⟨rfl, rfl⟩
theorem isqrt_ex : ∀ n : Nat, ∃ d : Nat, d * d ≤ n ∧ n < (d + 1) * (d + 1)
 | 0 => ⟨0, by omega, by omega⟩
 | n + 1 => by
   obtain ⟨d, h1, h2⟩ := isqrt_ex n
   by_cases h : n + 1 < (d + 1) * (d + 1)
   ·exact ⟨d, by omega, h⟩
   ·refine ⟨d + 1, by omega, ?_⟩
    have e : (d + 1 + 1) * (d + 1 + 1) = (d + 1) * (d + 1) + 2 * (d + 1) + 1 := by
     simp only [Nat.add_mul, Nat.mul_add, Nat.mul_one, Nat.one_mul]; omega
    omega
theorem sq_le {a b : Nat} (h : a ≤ b) : a * a ≤ b * b := Nat.mul_self_le_mul_self h
theorem root_is (n : Nat) (hn : n < 100000000000000000) : ∃ d : Nat, d * d ≤ n ∧ ∀ w : World, Calls Tryz.prog 210 #[.int .i64 n] w fun e w' => e = .returned (.int .i64 d) ∧ w = w' := by
 obtain ⟨d, h1, h2⟩ := isqrt_ex n
 refine ⟨d, h1, fun w => ?_⟩
 obtain ⟨b, r0, hb, hr, hr0⟩ := Fl.sqrt_int n (by omega)
 have e : floatOfInt .f64 (n : Int) = Ieee.double.write (.number false n 0) := by
  show Ieee.double.write (.number (decide ((n : Int) < 0)) (n : Int).natAbs 0) = _
  rw [decide_eq_false (by omega), Int.natAbs_natCast]
 have HI : Hid (∀ V : World, (convert 256 3 (.float .f64 b)).run Tryz.prog V = .ok (.int .i64 (r0 : Int)) V) := by
  intro V
  refine run_convert_float_int V 256 3 .f64 .i64 b r0 (by rw [Tryz.underlying256]; rfl) Tryz.underlying3 ?_
  unfold floatToIntVal
  rw [show (FloatKind.f64.decode b).toInt .zero = some (r0 : Int) from hr]
  simp only
  rw [if_pos (by rw [show IntKind.i64.min = -9223372036854775808 from rfl, show IntKind.i64.max = 9223372036854775807 from rfl]; omega)]
 rw [← e] at hb
 have HS := Lib.hid (fun V => sqrt_is _ b hb V)
 clear hb hr e
 have hd31 : d < 400000000 := by
  rcases Nat.lt_or_ge d 400000000 with h | h
  ·exact h
  ·have := sq_le h; omega
 go_enter Tryz.func210, Tryz.ntmps210
 have hI := HI.out
 go_wp2_with (first | (go_at_call 235; refine (HS.out _).mono ?_; rintro e w2 ⟨rfl, rfl⟩))
 go_loopg [3] (0 + r0) (fun gk i wr => ∃ r : Nat, r ≤ 2147483648 ∧ gk = 0 + r ∧ i = .int .i64 r ∧ w = wr)
 case atStart => exact ⟨r0, hr0, rfl, rfl, rfl⟩
 case round =>
  obtain ⟨r, hr, rfl, rfl, rfl⟩ := hrel
  obtain ⟨q, hq⟩ : ∃ q, r * r = q := ⟨_, rfl⟩
  have hq2 : q ≤ 4611686018427387904 := by rw [← hq]; exact sq_le hr
  have hqi : (r : Int) * (r : Int) = (q : Int) := by rw [← hq, Int.natCast_mul]
  by_cases hlt : n < q
  ·have hl2 : (n : Int) < (q : Int) := by omega
   have hr1 : 1 ≤ r := by
    rcases Nat.eq_zero_or_pos r with h | h
    ·subst h; omega
    ·exact h
   have HQ := Lib.hid hq
   clear hq
   go_wp2_with fail
   go_roundg (0 + (r - 1))
   case rel => exact ⟨r - 1, by omega, rfl, by go_num, rfl⟩
   case measure => omega
  ·have hl2 : ¬ (n : Int) < (q : Int) := by omega
   have hrd : r ≤ d := by
    rcases Nat.lt_or_ge d r with h | h
    ·have := sq_le (show d + 1 ≤ r from h); omega
    ·exact h
   clear hq
   go_wp2_with fail
   clear hl2 hqi hq2
   go_loopg [3] (0 + (d - r)) (fun gk i wr => ∃ u : Nat, u ≤ d ∧ gk = 0 + (d - u) ∧ i = .int .i64 u ∧ w = wr)
   case atStart => exact ⟨r, hrd, rfl, rfl, rfl⟩
   case round =>
    obtain ⟨u, hu, rfl, rfl, rfl⟩ := hrel
    obtain ⟨q, hq⟩ : ∃ q, (u + 1) * (u + 1) = q := ⟨_, rfl⟩
    have hq2 : q ≤ 4611686018427387904 := by rw [← hq]; exact sq_le (show u + 1 ≤ 2147483648 by omega)
    have hqi : ((u : Int) + 1) * ((u : Int) + 1) = (q : Int) := by rw [← hq]; simp
    by_cases hlt : q ≤ n
    ·have hl2 : (q : Int) ≤ (n : Int) := by omega
     have hud : u < d := by
      rcases Nat.lt_or_ge u d with h | h
      ·exact h
      ·obtain rfl : u = d := by omega
       omega
     clear hq
     go_wp2_with fail
     go_roundg (0 + (d - (u + 1)))
     case rel => exact ⟨u + 1, by omega, rfl, by go_num, rfl⟩
     case measure => omega
    ·have hl2 : ¬ (q : Int) ≤ (n : Int) := by omega
     obtain rfl : u = d := by
      rcases Nat.lt_or_ge u d with h | h
      ·have := sq_le (show u + 1 ≤ d from h); omega
      ·omega
     clear hq
     go_wp2_with fail
     go_ret
     exact ⟨rfl, rfl⟩
theorem floor2_is (n : Int) (hn : -1000000000 ≤ n ∧ n ≤ 1000000000) (w : World) : Calls Tryz.prog 209 #[.int .i64 n, .int .i64 2] w fun e w' => e = .returned (.int .i64 (n / 2)) ∧ w = w' := by
 obtain ⟨q, hq⟩ : ∃ q, n.tdiv 2 = q := ⟨_, rfl⟩
 obtain ⟨m, hm⟩ : ∃ m, n.tmod 2 = m := ⟨_, rfl⟩
 have hqm : n = 2 * q + m := by rw [← hq, ← hm]; exact (Int.mul_tdiv_add_tmod n 2).symm
 have hmb : m = -1 ∨ m = 0 ∨ m = 1 := by
  rw [← hm]
  rcases Int.le_total 0 n with h | h
  ·rw [Int.tmod_eq_emod_of_nonneg h]; omega
  ·have := Int.tmod_eq_emod_of_nonneg (a := -n) (b := 2) (by omega)
   rw [Int.neg_tmod] at this; omega
 have f1 : m < 0 → n / 2 = q - 1 := by intro h; omega
 have f2 : ¬ m < 0 → n / 2 = q := by intro h; omega
 have F1 := Lib.hid f1; have F2 := Lib.hid f2
 have hqb : -1000000000 ≤ q ∧ q ≤ 1000000000 := by omega
 clear hqm hmb f1 f2
 by_cases h0 : m < 0
 ·go_enter Tryz.func209, Tryz.ntmps209
  go_wp2_with fail
  go_ret
  exact ⟨ret_int (by rw [F1.out h0]), rfl⟩
 ·go_enter Tryz.func209, Tryz.ntmps209
  go_wp2_with fail
  go_ret
  exact ⟨ret_int (by rw [F2.out h0]), rfl⟩
theorem mul_bd2 {a b A : Int} (h1 : -A ≤ a ∧ a ≤ A) (h2 : 0 ≤ b) {B : Int} (h3 : b ≤ B) (hA : 0 ≤ A) : -(A * B) ≤ a * b ∧ a * b ≤ A * B := by
 have x1 := Int.mul_le_mul_of_nonneg_right h1.2 h2
 have x2 := Int.mul_le_mul_of_nonneg_right h1.1 h2
 have x3 := Int.mul_le_mul_of_nonneg_left h3 hA
 have x4 : -A * b = -(A * b) := Int.neg_mul _ _
 omega
theorem sq_bd {a A : Int} (h : -A ≤ a ∧ a ≤ A) (hA : 0 ≤ A) : 0 ≤ a * a ∧ a * a ≤ A * A := by
 rcases Int.le_total 0 a with h0 | h0
 ·exact ⟨Int.mul_nonneg h0 h0, Int.mul_le_mul h.2 h.2 h0 hA⟩
 ·have e : a * a = (-a) * (-a) := by rw [Int.neg_mul_neg]
  rw [e]
  exact ⟨Int.mul_nonneg (by omega) (by omega), Int.mul_le_mul (by omega) (by omega) (by omega) hA⟩
theorem cosine_is (n : Int) (hn : -90000000 ≤ n ∧ n ≤ 90000000) : ∃ c : Int, (0 ≤ c ∧ c ≤ 1000000) ∧ ∀ w : World, Calls Tryz.prog 208 #[.int .i64 n] w fun e w' => e = .returned (.int .i64 c) ∧ w = w' := by
 obtain ⟨k, hk⟩ : ∃ k, n.tdiv 100 = k := ⟨_, rfl⟩
 have hkb : -900000 ≤ k ∧ k ≤ 900000 := by
  rw [← hk]
  rcases Int.le_total 0 n with h | h
  ·rw [Int.tdiv_eq_ediv_of_nonneg h]; omega
  ·have := Int.tdiv_eq_ediv_of_nonneg (a := -n) (b := 100) (by omega)
   rw [Int.neg_tdiv] at this; omega
 obtain ⟨s, hs⟩ : ∃ s, k * k = s := ⟨_, rfl⟩
 have hsb := sq_bd hkb (by omega)
 rw [hs] at hsb
 have hs4 : 4 * k * k = 4 * s := by rw [← hs, Int.mul_assoc]
 obtain ⟨v, hv⟩ : ∃ v, (3240000000000 - 4 * s) * 1000000 = v := ⟨_, rfl⟩
 have hvb : 0 ≤ v ∧ v ≤ 3240000000000000000 := by omega
 obtain ⟨c, hc⟩ : ∃ c, v.tdiv (3240000000000 + s) = c := ⟨_, rfl⟩
 have hcb : 0 ≤ c ∧ c ≤ 1000000 := by
  rw [← hc, Int.tdiv_eq_ediv_of_nonneg hvb.1]
  refine ⟨Int.ediv_nonneg hvb.1 (by omega), ?_⟩
  have : v / (3240000000000 + s) < 1000001 := Int.ediv_lt_of_lt_mul (by omega) (by omega)
  omega
 have hz : ¬ (3240000000000 + s = 0) := by omega
 refine ⟨c, hcb, fun w => ?_⟩
 have HV := Lib.hid hv
 go_enter Tryz.func208, Tryz.ntmps208
 go_wp2_with fail
 go_ret
 exact ⟨rfl, rfl⟩
theorem tmod_bd (n c : Int) (hc : 0 < c) : -c < n.tmod c ∧ n.tmod c < c := by
 rcases Int.le_total 0 n with h | h
 ·rw [Int.tmod_eq_emod_of_nonneg h]
  have := Int.emod_nonneg n (show c ≠ 0 by omega)
  have := Int.emod_lt_of_pos n hc
  omega
 ·have e := Int.tmod_eq_emod_of_nonneg (a := -n) (b := c) (by omega)
  rw [Int.neg_tmod] at e
  have := Int.emod_nonneg (-n) (show c ≠ 0 by omega)
  have := Int.emod_lt_of_pos (-n) hc
  omega
theorem eastward_is (a b : Int) (ha : -180000000 ≤ a ∧ a ≤ 180000000) (hb : -180000000 ≤ b ∧ b ≤ 180000000) : ∃ c : Int, (0 ≤ c ∧ c < 360000000) ∧ ∀ w : World, Calls Tryz.prog 234 #[.int .i64 a, .int .i64 b] w fun e w' => e = .returned (.int .i64 c) ∧ w = w' := by
 obtain ⟨m, hm⟩ : ∃ m, (b - a).tmod 360000000 = m := ⟨_, rfl⟩
 have hmb := tmod_bd (b - a) 360000000 (by omega)
 rw [hm] at hmb
 obtain ⟨c, hc⟩ : ∃ c, (m + 360000000).tmod 360000000 = c := ⟨_, rfl⟩
 have hcb : 0 ≤ c ∧ c < 360000000 := by
  rw [← hc, Int.tmod_eq_emod_of_nonneg (by omega)]; omega
 refine ⟨c, hcb, fun w => ?_⟩
 go_enter Tryz.func234, Tryz.ntmps234
 go_wp2_with fail
 go_ret
 exact ⟨rfl, rfl⟩
theorem short_is (a b : Int) (ha : -180000000 ≤ a ∧ a ≤ 180000000) (hb : -180000000 ≤ b ∧ b ≤ 180000000) : ∃ c : Int, (-180000000 ≤ c ∧ c ≤ 180000000) ∧ ∀ w : World, Calls Tryz.prog 207 #[.int .i64 a, .int .i64 b] w fun e w' => e = .returned (.int .i64 c) ∧ w = w' := by
 obtain ⟨c, hc, h⟩ := eastward_is a b ha hb
 have HE := Lib.hid h
 by_cases h1 : (180000000 : Int) ≤ c
 ·refine ⟨c - 360000000, by omega, fun w => ?_⟩
  go_enter Tryz.func207, Tryz.ntmps207
  go_wp2_with (go_at_call 234; refine (HE.out _).mono ?_; rintro e w2 ⟨rfl, rfl⟩)
  go_ret
  exact ⟨rfl, rfl⟩
 ·refine ⟨c, by omega, fun w => ?_⟩
  go_enter Tryz.func207, Tryz.ntmps207
  go_wp2_with (go_at_call 234; refine (HE.out _).mono ?_; rintro e w2 ⟨rfl, rfl⟩)
  go_ret
  exact ⟨rfl, rfl⟩
theorem distance_is (a o a' o' : Int) (ha : -90000000 ≤ a ∧ a ≤ 90000000) (ho : -180000000 ≤ o ∧ o ≤ 180000000) (ha' : -90000000 ≤ a' ∧ a' ≤ 90000000) (ho' : -180000000 ≤ o' ∧ o' ≤ 180000000) :
  ∃ d : Int, ∀ w : World, Calls Tryz.prog 174 #[.agg #[.int .i64 a, .int .i64 o], .agg #[.int .i64 a', .int .i64 o']] w fun e w' => e = .returned (.int .i64 d) ∧ Below w.heap.size w w' := by
 obtain ⟨x, hx, hs⟩ := short_is o o' ho ho'
 obtain ⟨c, hc, hco⟩ := cosine_is ((a + a') / 2) (by omega)
 have hf := floor2_is (a + a') (by omega)
 obtain ⟨v, hv⟩ : ∃ v, x * c = v := ⟨_, rfl⟩
 have hvb := mul_bd2 (A := 180000000) (B := 1000000) (by omega) hc.1 hc.2 (by omega) (a := x) (b := c)
 rw [hv] at hvb
 obtain ⟨t, ht⟩ : ∃ t, v.tdiv 1000000 = t := ⟨_, rfl⟩
 have htb : -180000000 ≤ t ∧ t ≤ 180000000 := by
  rw [← ht]
  rcases Int.le_total 0 v with h | h
  ·rw [Int.tdiv_eq_ediv_of_nonneg h]; omega
  ·have := Int.tdiv_eq_ediv_of_nonneg (a := -v) (b := 1000000) (by omega)
   rw [Int.neg_tdiv] at this; omega
 obtain ⟨y, hy⟩ : ∃ y, a' - a = y := ⟨_, rfl⟩
 obtain ⟨p, hp⟩ : ∃ p, y * y = p := ⟨_, rfl⟩
 obtain ⟨q, hq⟩ : ∃ q, t * t = q := ⟨_, rfl⟩
 have hpb := sq_bd (a := y) (A := 180000000) (by omega) (by omega)
 have hqb := sq_bd htb (by omega)
 rw [hp] at hpb
 rw [hq] at hqb
 obtain ⟨N, hN⟩ := Int.eq_ofNat_of_zero_le (show 0 ≤ p + q by omega)
 obtain ⟨d, hd, hr⟩ := root_is N (by omega)
 have hd4 : d < 400000000 := by
  rcases Nat.lt_or_ge d 400000000 with h | h
  ·exact h
  ·have := sq_le h; omega
 have HS := Lib.hid hs; have HC := Lib.hid hco; have HF := Lib.hid hf; have HR := Lib.hid hr
 clear hs hco hf hr hd
 refine ⟨(d * 111195 : Int).tdiv 1000000, fun w => ?_⟩
 obtain ⟨W1, hW1, hP1, hz1, hB1⟩ := box w #[.int .i64 a, .int .i64 o] 112
 obtain ⟨W2, hW2, hP2, hz2, hB2⟩ := box W1 #[.int .i64 a', .int .i64 o'] 112
 have HW1 := Lib.hid hW1; have HW2 := Lib.hid hW2
 rw [hz1] at hP2
 obtain ⟨p0, p1⟩ := (hP1.keep hB2).two
 obtain ⟨r0, r1⟩ := hP2.two
 have hB := below_up hB1 hB2
 clear hW1 hW2 hz1 hz2
 go_enter Tryz.func174, Tryz.ntmps174
 go_wp2_with fail
 rw [HW1.out, HW2.out]
 go_wp2_with fail
 go_quiet ((first | (go_at_call 207; with_reducible exact quiet_same (HS.out _)) | (go_at_call 209; with_reducible exact quiet_same (HF.out _)) | (go_at_call 208; with_reducible exact quiet_same (HC.out _))))
 have hNq : p + q = (N : Int) := hN
 have hBq := below_drewN hB nq
 generalize W2.drewN nq = Wq at *
 go_wp2_with (go_at_call 210; (with_reducible refine (HR.out _).mono ?_); rintro e w2 ⟨rfl, rfl⟩)
 go_ret
 exact ⟨rfl, hBq⟩
theorem outW_is (n lo hi : Int) (b : Bool) (h : decide (lo ≤ n ∧ n ≤ hi) = b) (w : World) : Calls Tryz.prog 251 #[.int .i64 n, .int .i64 lo, .int .i64 hi] w fun e w' => e = .returned (.bool (!b)) ∧ w = w' := by
 cases b
 ·have h' : n < lo ∨ hi < n := by rw [decide_eq_false_iff_not] at h; omega
  clear h
  by_cases c : n < lo
  ·go_enter Tryz.func251, Tryz.ntmps251
   go_wp2
   go_ret
   exact ⟨rfl, rfl⟩
  ·have d : hi < n := by omega
   go_enter Tryz.func251, Tryz.ntmps251
   go_wp2
   go_ret
   exact ⟨rfl, rfl⟩
 ·obtain ⟨h1, h2⟩ := of_decide_eq_true h
  clear h
  go_enter Tryz.func251, Tryz.ntmps251
  go_wp2
  go_ret
  exact ⟨ret_bool (by simp <;> omega), rfl⟩
theorem isLat_is (n : Int) (b : Bool) (h : decide (-90000000 ≤ n ∧ n ≤ 90000000) = b) (w : World) : Calls Tryz.prog 232 #[.int .i64 n] w fun e w' => e = .returned (.bool b) ∧ w = w' := by
 have HO := Lib.hid (outW_is n (-90000000) 90000000 b h w)
 go_enter Tryz.func232, Tryz.ntmps232
 go_wp2_with (go_at_call 251; refine HO.out.mono ?_; rintro e w2 ⟨rfl, rfl⟩)
 go_ret
 exact ⟨ret_bool (by simp), rfl⟩
theorem isLon_is (n : Int) (b : Bool) (h : decide (-180000000 ≤ n ∧ n ≤ 179999999) = b) (w : World) : Calls Tryz.prog 233 #[.int .i64 n] w fun e w' => e = .returned (.bool b) ∧ w = w' := by
 have HO := Lib.hid (outW_is n (-180000000) 179999999 b h w)
 go_enter Tryz.func233, Tryz.ntmps233
 go_wp2_with (go_at_call 251; refine HO.out.mono ?_; rintro e w2 ⟨rfl, rfl⟩)
 go_ret
 exact ⟨ret_bool (by simp), rfl⟩
theorem checkPlaceW_is (a o : Int) (w : World) (b : Bool) (h : Fd.placeB a o = b) : Calls Tryz.prog 206 #[.agg #[.int .i64 a, .int .i64 o]] w fun e w' => e = .returned (.int .i64 (if b = true then 0 else 2)) ∧ Below w.heap.size w w' := by
 unfold Fd.placeB at h
 cases h1 : decide (-90000000 ≤ a ∧ a ≤ 90000000)
 ·have hb : b = false := by rw [← h]; rw [decide_eq_false_iff_not] at h1 ⊢; exact fun g => h1 g.1
  subst hb
  have HA := Lib.hid (fun V => isLat_is a false h1 V)
  clear h h1
  go_enter Tryz.func206, Tryz.ntmps206
  go_wp2_with (go_at_call 232; refine (HA.out _).mono ?_; rintro e w2 ⟨rfl, rfl⟩)
  go_ret
  exact ⟨rfl, (Below.refl _ _).alloc (Nat.le_refl _) _⟩
 ·have HA := Lib.hid (fun V => isLat_is a true h1 V)
  cases h2 : decide (-180000000 ≤ o ∧ o ≤ 179999999)
  ·have hb : b = false := by rw [← h]; rw [decide_eq_false_iff_not] at h2 ⊢; exact fun g => h2 g.2
   subst hb
   have HB := Lib.hid (fun V => isLon_is o false h2 V)
   clear h h1 h2
   go_enter Tryz.func206, Tryz.ntmps206
   go_wp2_with (first | (go_at_call 232; refine (HA.out _).mono ?_; rintro e w2 ⟨rfl, rfl⟩) | (go_at_call 233; refine (HB.out _).mono ?_; rintro e w2 ⟨rfl, rfl⟩))
   go_ret
   exact ⟨rfl, (Below.refl _ _).alloc (Nat.le_refl _) _⟩
  ·have hb : b = true := by rw [← h]; exact decide_eq_true ⟨of_decide_eq_true h1, of_decide_eq_true h2⟩
   subst hb
   have HB := Lib.hid (fun V => isLon_is o true h2 V)
   clear h h1 h2
   go_enter Tryz.func206, Tryz.ntmps206
   go_wp2_with (first | (go_at_call 232; refine (HA.out _).mono ?_; rintro e w2 ⟨rfl, rfl⟩) | (go_at_call 233; refine (HB.out _).mono ?_; rintro e w2 ⟨rfl, rfl⟩))
   go_ret
   exact ⟨rfl, (Below.refl _ _).alloc (Nat.le_refl _) _⟩
theorem Blk.four2 {w : World} {b : Nat} {t : TypeId} {x y z u : Value} (h : Blk w b #[x, y, z, u] t) : w.cell? ⟨b, 0, none⟩ = some x ∧ w.cell? ⟨b, 1, none⟩ = some y ∧ w.cell? ⟨b, 2, none⟩ = some z ∧ w.cell? ⟨b, 3, none⟩ = some u :=
 ⟨by rw [h.cell]; rfl, by rw [h.cell]; rfl, by rw [h.cell]; rfl, by rw [h.cell]; rfl⟩
theorem checkPlaces_is (a o a' o' : Int) (b : Nat) (w : World) (hb : Blk w b #[.int .i64 a, .int .i64 o, .int .i64 a', .int .i64 o'] 112) (q : Int) (hq : ((Fd.placeB a o && Fd.placeB a' o') = false → q = 2) ∧ ((Fd.placeB a o && Fd.placeB a' o') = true → q = 0)) :
  Calls Tryz.prog 173 #[.slice (some ⟨b, 0, none⟩) 2 2] w fun e w' => e = .returned (.int .i64 q) ∧ Below w.heap.size w w' := by
 have HQ := Lib.hid hq
 clear hq
 go_enter Tryz.func173, Tryz.ntmps173
 go_wp2_with fail
 go_loopg [8] 2 (fun gk i wr => ∃ j : Nat, j ≤ 2 ∧ gk = 2 - j ∧ i = .int .i64 j ∧ ((0 < j → Fd.placeB a o = true) ∧ (1 < j → Fd.placeB a' o' = true)) ∧ Blk wr b #[.int .i64 a, .int .i64 o, .int .i64 a', .int .i64 o'] 112 ∧ Below w.heap.size w wr)
 case atStart => exact ⟨0, by omega, rfl, rfl, ⟨fun h => by omega, fun h => by omega⟩, hb, Below.refl _ _⟩
 case round =>
  clear hb
  obtain ⟨j, hj, rfl, rfl, ⟨h0, h1⟩, hX, hB⟩ := hrel
  have hjs : j = 0 ∨ j = 1 ∨ j = 2 := by omega
  rcases hjs with rfl | rfl | rfl
  ·clear h0 h1
   obtain ⟨c0, c1, c2, c3⟩ := hX.four2
   simp only [Int.cast_ofNat_Int]
   cases hp : Fd.placeB a o
   ·have HP := Lib.hid (fun V => checkPlaceW_is a o V false hp)
    have HN := Lib.hid (show (Fd.placeB a o && Fd.placeB a' o') = false by simp [hp])
    clear hp
    go_wp2_with (go_at_call 206; (with_reducible refine (HP.out _).mono ?_); rintro e w2 ⟨rfl, hB2⟩)
    go_ret
    exact ⟨ret_int (HQ.out.1 HN.out).symm, below_up (below_allocs hB _) hB2⟩
   ·have HP := Lib.hid (fun V => checkPlaceW_is a o V true hp)
    have HY := Lib.hid hp
    clear hp
    go_wp2_with (go_at_call 206; (with_reducible refine (HP.out _).mono ?_); rintro e w2 ⟨rfl, hB2⟩)
    go_roundg (2 - (0 + 1))
    case rel => exact ⟨0 + 1, by omega, rfl, by go_num, ⟨fun _ => HY.out, fun h => by omega⟩, (hX.alloc _).keep hB2, below_up (below_allocs hB _) hB2⟩
    case measure => omega
  ·have H0 := Lib.hid (h0 (by omega))
   clear h0 h1
   obtain ⟨c0, c1, c2, c3⟩ := hX.four2
   simp only [Int.cast_ofNat_Int]
   cases hp : Fd.placeB a' o'
   ·have HP := Lib.hid (fun V => checkPlaceW_is a' o' V false hp)
    have HN := Lib.hid (show (Fd.placeB a o && Fd.placeB a' o') = false by simp [hp])
    clear hp
    go_wp2_with (go_at_call 206; (with_reducible refine (HP.out _).mono ?_); rintro e w2 ⟨rfl, hB2⟩)
    go_ret
    exact ⟨ret_int (HQ.out.1 HN.out).symm, below_up (below_allocs hB _) hB2⟩
   ·have HP := Lib.hid (fun V => checkPlaceW_is a' o' V true hp)
    have HY := Lib.hid hp
    clear hp
    go_wp2_with (go_at_call 206; (with_reducible refine (HP.out _).mono ?_); rintro e w2 ⟨rfl, hB2⟩)
    go_roundg (2 - (1 + 1))
    case rel => exact ⟨1 + 1, by omega, rfl, by go_num, ⟨fun _ => H0.out, fun _ => HY.out⟩, (hX.alloc _).keep hB2, below_up (below_allocs hB _) hB2⟩
    case measure => omega
  ·have H0 := Lib.hid (h0 (by omega))
   have H1 := Lib.hid (h1 (by omega))
   clear h0 h1
   simp only [Int.cast_ofNat_Int]
   go_wp2_with fail
   go_ret
   exact ⟨ret_int (HQ.out.2 (by rw [H0.out, H1.out]; rfl)).symm, hB⟩
theorem distW_is (a o a' o' : Int) : ∃ d e : Int, ∀ w : World, Calls Tryz.prog 137 #[.agg #[.int .i64 a, .int .i64 o], .agg #[.int .i64 a', .int .i64 o']] w fun r w' => r = .returned (.tuple #[.int .i64 d, .int .i64 e]) ∧ Below w.heap.size w w' := by
 cases hv : (Fd.placeB a o && Fd.placeB a' o')
 ·refine ⟨0, 2, fun w => ?_⟩
  obtain ⟨W1, hW1, hP1, hz1, hB1⟩ := box w #[.int .i64 a, .int .i64 o] 112
  obtain ⟨W2, hW2, hP2, hz2, hB2⟩ := box W1 #[.int .i64 a', .int .i64 o'] 112
  obtain ⟨W3, hW3, hP3, hz3, hB3⟩ := box W2 #[.int .i64 a, .int .i64 o, .int .i64 a', .int .i64 o'] 112
  have HW1 := Lib.hid hW1; have HW2 := Lib.hid hW2; have HW3 := Lib.hid hW3
  rw [hz1] at hP2
  have hP1' := hP1.keep hB2
  obtain ⟨p0, p1⟩ := hP1'.two
  obtain ⟨r0, r1⟩ := hP2.two
  have hB := below_up (below_up hB1 hB2) hB3
  have HCP := Lib.hid (checkPlaces_is a o a' o' W2.heap.size W3 hP3 2 ⟨fun _ => rfl, fun h => absurd (hv.symm.trans h) (by simp)⟩)
  rw [hz2, hz1] at HCP
  clear hW1 hW2 hW3 hz1 hz2 hz3
  go_enter Tryz.func137, Tryz.ntmps137
  go_wp2_with fail
  rw [HW1.out, HW2.out]
  go_wp2_with fail
  rw [HW3.out]
  clear hv
  go_wp2_with (go_at_call 173; (with_reducible refine HCP.out.mono ?_); rintro e w4 ⟨rfl, hB4⟩)
  go_ret2
  exact ⟨rfl, below_up hB hB4⟩
 ·obtain ⟨v1, v2⟩ : Fd.placeB a o = true ∧ Fd.placeB a' o' = true := by simpa using hv
  unfold Fd.placeB at v1 v2
  have v1' := of_decide_eq_true v1
  have v2' := of_decide_eq_true v2
  obtain ⟨d, hd⟩ := distance_is a o a' o' v1'.1 (by omega) v2'.1 (by omega)
  have HD := Lib.hid hd
  refine ⟨d, 0, fun w => ?_⟩
  obtain ⟨W1, hW1, hP1, hz1, hB1⟩ := box w #[.int .i64 a, .int .i64 o] 112
  obtain ⟨W2, hW2, hP2, hz2, hB2⟩ := box W1 #[.int .i64 a', .int .i64 o'] 112
  obtain ⟨W3, hW3, hP3, hz3, hB3⟩ := box W2 #[.int .i64 a, .int .i64 o, .int .i64 a', .int .i64 o'] 112
  have HW1 := Lib.hid hW1; have HW2 := Lib.hid hW2; have HW3 := Lib.hid hW3
  rw [hz1] at hP2
  have hP1' := hP1.keep hB2
  obtain ⟨p0, p1⟩ := hP1'.two
  obtain ⟨r0, r1⟩ := hP2.two
  have hB := below_up (below_up hB1 hB2) hB3
  have HCP := Lib.hid (checkPlaces_is a o a' o' W2.heap.size W3 hP3 0 ⟨fun h => absurd (hv.symm.trans h) (by simp), fun _ => rfl⟩)
  rw [hz2, hz1] at HCP
  clear hW1 hW2 hW3 hz1 hz2 hz3
  go_enter Tryz.func137, Tryz.ntmps137
  go_wp2_with fail
  rw [HW1.out, HW2.out]
  go_wp2_with fail
  rw [HW3.out]
  clear hv v1 v2 v1' v2' hd
  go_wp2_with (first | (go_at_call 173; (with_reducible refine HCP.out.mono ?_); rintro e w4 ⟨rfl, hB4⟩; have hB34 := below_up hB3 hB4; obtain ⟨p0, p1⟩ := (hP1'.keep hB34).two; obtain ⟨r0, r1⟩ := (hP2.keep hB34).two) | (go_at_call 174; (with_reducible refine (HD.out _).mono ?_); rintro e w5 ⟨rfl, hB5⟩))
  go_ret2
  exact ⟨rfl, below_up (below_up hB hB4) hB5⟩
end Go.Proofs.YtimjmjmpaicdbaaGreatDoor
namespace Go.Proofs.YtimjmjmpaicdbaaGreatDoor
open Go.RowKit Go.Sort Go.Shelf
def RowK (w : World) (a : Option Addr) (n k : Nat) (F : Nat → Value) : Prop := 0 < n → ∃ b off, a = some ⟨b, off, none⟩ ∧ b < w.heap.size ∧ ∀ i, i < n * k → w.cell? ⟨b, off + i, none⟩ = some (F i)
def NewK (B : Nat) (a : Option Addr) (n : Nat) : Prop := 0 < n → ∃ g, a = some ⟨g, 0, none⟩ ∧ B ≤ g
theorem RowK.of_own {w : World} {base g n cap k : Nat} {e : TypeId} {F : Nat → Value} (h : w.ownsRow base e k (.slice (some ⟨g, 0, none⟩) n cap) n ((List.range (n * k)).map F)) : RowK w (some ⟨g, 0, none⟩) n k F := by
 intro _
 refine ⟨g, 0, rfl, (h.lt g rfl).2, fun i hi => ?_⟩
 rw [Nat.zero_add, h.cellAt i hi, List.getElem?_map, List.getElem?_range hi]; rfl
theorem NewK.down {B B' : Nat} {a : Option Addr} {n : Nat} (h : NewK B a n) (hB : B' ≤ B) : NewK B' a n := fun h0 => by
 obtain ⟨g, hg, hb⟩ := h h0
 exact ⟨g, hg, by omega⟩
theorem infoIntC : (Tryz.prog.info? 3).map (fun i => (i.zero, i.size, i.bytes)) = some (some (.int .i64 0), 1, 8) := by kernel_rfl
theorem infoStrC : (Tryz.prog.info? 9).map (fun i => (i.zero, i.size, i.bytes)) = some (some (.string ByteArray.empty), 1, 16) := by kernel_rfl
theorem infoPlaceC : (Tryz.prog.info? 112).map (fun i => (i.zero, i.size, i.bytes)) = some (some (.agg #[.int .i64 0, .int .i64 0]), 2, 16) := by kernel_rfl



theorem RowK.setRow {w : World} {a : Option Addr} {n k B : Nat} {F : Nat → Value} (h : RowK w a n k F) (hn : NewK B a n) {b0 : Nat} (hp : b0 < B) (cs : Array Value) : RowK (w.setRow b0 cs) a n k F := by
 intro h0
 obtain ⟨b, off, rfl, hb, hc⟩ := h h0
 obtain ⟨g, hg, hB⟩ := hn h0
 injection hg with hg
 injection hg with hg1 hg2
 subst hg1 hg2
 exact ⟨b, 0, rfl, by simpa using hb, fun i hi => (cell_setRow_other w b0 cs ⟨b, 0 + i, none⟩ (by simp; omega)).trans (hc i hi)⟩
def Ph.moved (p : Ph) (a1 a2 a3 : Option Addr) : Ph := { p with wa := a1, wc := p.wn, ta := a2, tc := p.tn, pa := a3, pc := p.pn }
theorem RowK.keep {w w' : World} {a : Option Addr} {n k : Nat} {F : Nat → Value} (h : RowK w a n k F) (hb : Below w.heap.size w w') : RowK w' a n k F := by
 intro h0
 obtain ⟨b, off, rfl, hlt, hc⟩ := h h0
 exact ⟨b, off, rfl, Nat.lt_of_lt_of_le hlt hb.size, fun i hi => (hb.cell (p := ⟨b, off + i, none⟩) hlt).trans (hc i hi)⟩
structure Ph.Few (p : Ph) : Prop where
 w : p.wn ≤ 1000000
 t : p.tn ≤ 1000000
 p : p.pn ≤ 1000000
def Fd.eqRow (n m : Nat) (eq : Nat → Bool) : Bool := decide (n = m ∧ ∀ i, i < n → eq i = true)
theorem Fd.eqRow_self (n : Nat) (eq : Nat → Bool) (h : ∀ i, eq i = true) : Fd.eqRow n n eq = true := decide_eq_true ⟨rfl, fun i _ => h i⟩
theorem checkPhoto_is (p : Ph) (w : World) (hI : p.In w) (hF : p.Fits) : Calls Tryz.prog 77 #[.agg #[.int .i64 p.id, .string p.file, .int .i64 p.mom, .int .i64 p.zone, .slice p.wa p.wn p.wc, .int .i64 p.W, .int .i64 p.H, .int .i64 p.turn, .int .i64 p.stars, .slice p.ta p.tn p.tc, .string p.cap, .slice p.pa p.pn p.pc, .bool p.hid]] w fun e w' => e = .returned (.int .i64 p.err) ∧ Below w.heap.size w w' := by
 obtain ⟨W1, hW1, hP, hz1, hB1⟩ := bxP w p
 have HW1 := Lib.hid hW1
 clear hW1 hz1
 obtain ⟨q0, q1, q2, q3, q4, q5, q6, q7, q8, q9, q10, q11, q12⟩ := hP.photo
 have hI := hI.keep hB1
 have HPL := Lib.hid hI.places
 have hff := hF.file
 have hbw := hF.wn
 obtain ⟨b, hb⟩ : ∃ b, Fd.whenB p.mom p.zone = b := ⟨_, rfl⟩
 have HWH := Lib.hid (fun W => checkWhen_is p W b hb)
 have HWO := Lib.hid (fun W (hB : Below W1.heap.size W1 W) => checkWords_is p W (hI.keep hB) hF)
 obtain ⟨q, hq⟩ : ∃ q, p.err = q := ⟨_, rfl⟩
 rw [hq]
 unfold Ph.err at hq
 rw [hb] at hq
 clear hI hF hb
 generalize p.wa = wa at *
 cases hcI : decide (1 ≤ p.id ∧ p.id ≤ 1000000)
 ·rw [hcI, if_neg (by simp)] at hq
  subst hq
  have HcI := Lib.hid hcI; clear hcI
  go_enter Tryz.func77, Tryz.ntmps77
  go_wp2_with fail
  rw [HW1.out]
  go_wp2_with (first | (go_at_call 32; (with_reducible refine (outsideF_is p.id 1 1000000 false HcI.out _).mono ?_); rintro e w2 ⟨rfl, rfl⟩) | (go_at_call 113; (with_reducible refine (isFile_is p.file hff false HcF.out _).mono ?_); rintro e w2 ⟨rfl, rfl⟩) | (go_at_call 114; refine (HWH.out _).mono ?_; rintro e w3 ⟨rfl, hB3⟩; obtain ⟨t0, t1, t2, t3, t4, t5, t6, t7, t8, t9, t10, t11, t12⟩ := (hP.keep hB3).photo))
  go_ret
  exact ⟨rfl, hB1⟩
 ·rw [hcI, if_pos rfl] at hq
  have HcI := Lib.hid hcI; clear hcI
  cases hcF : Fd.fileB p.file
  ·rw [hcF, if_neg (by simp)] at hq
   subst hq
   have HcF := Lib.hid hcF; clear hcF
   go_enter Tryz.func77, Tryz.ntmps77
   go_wp2_with fail
   rw [HW1.out]
   go_wp2_with (first | (go_at_call 32; (with_reducible refine (outsideF_is p.id 1 1000000 true HcI.out _).mono ?_); rintro e w2 ⟨rfl, rfl⟩) | (go_at_call 113; (with_reducible refine (isFile_is p.file hff false HcF.out _).mono ?_); rintro e w2 ⟨rfl, rfl⟩) | (go_at_call 114; refine (HWH.out _).mono ?_; rintro e w3 ⟨rfl, hB3⟩; obtain ⟨t0, t1, t2, t3, t4, t5, t6, t7, t8, t9, t10, t11, t12⟩ := (hP.keep hB3).photo))
   go_ret
   exact ⟨rfl, hB1⟩
  ·rw [hcF, if_pos rfl] at hq
   have HcF := Lib.hid hcF; clear hcF
   cases b
   ·rw [if_neg (by simp)] at hq
    subst hq
    rw [if_neg (by simp)] at HWH
    go_enter Tryz.func77, Tryz.ntmps77
    go_wp2_with fail
    rw [HW1.out]
    go_wp2_with (first | (go_at_call 32; (with_reducible refine (outsideF_is p.id 1 1000000 true HcI.out _).mono ?_); rintro e w2 ⟨rfl, rfl⟩) | (go_at_call 113; (with_reducible refine (isFile_is p.file hff true HcF.out _).mono ?_); rintro e w2 ⟨rfl, rfl⟩) | (go_at_call 114; refine (HWH.out _).mono ?_; rintro e w3 ⟨rfl, hB3⟩; obtain ⟨t0, t1, t2, t3, t4, t5, t6, t7, t8, t9, t10, t11, t12⟩ := (hP.keep hB3).photo))
    go_ret
    exact ⟨rfl, below_up hB1 hB3⟩
   ·rw [if_pos rfl] at hq
    rw [if_pos rfl] at HWH
    by_cases hn : 1 < p.wn
    ·rw [if_pos hn] at hq
     have hn' : (1 : Int) < (p.wn : Int) := by omega
     subst hq
     go_enter Tryz.func77, Tryz.ntmps77
     go_wp2_with fail
     rw [HW1.out]
     go_wp2_with (first | (go_at_call 32; (with_reducible refine (outsideF_is p.id 1 1000000 true HcI.out _).mono ?_); rintro e w2 ⟨rfl, rfl⟩) | (go_at_call 113; (with_reducible refine (isFile_is p.file hff true HcF.out _).mono ?_); rintro e w2 ⟨rfl, rfl⟩) | (go_at_call 114; refine (HWH.out _).mono ?_; rintro e w3 ⟨rfl, hB3⟩; obtain ⟨t0, t1, t2, t3, t4, t5, t6, t7, t8, t9, t10, t11, t12⟩ := (hP.keep hB3).photo))
     go_ret
     exact ⟨rfl, below_up hB1 hB3⟩
    ·rw [if_neg hn] at hq
     have hn' : ¬ (1 : Int) < (p.wn : Int) := by omega
     have HQ := Lib.hid hq; clear hq
     go_enter Tryz.func77, Tryz.ntmps77
     go_wp2_with fail
     rw [HW1.out]
     go_wp2_with (first | (go_at_call 32; (with_reducible refine (outsideF_is p.id 1 1000000 true HcI.out _).mono ?_); rintro e w2 ⟨rfl, rfl⟩) | (go_at_call 113; (with_reducible refine (isFile_is p.file hff true HcF.out _).mono ?_); rintro e w2 ⟨rfl, rfl⟩) | (go_at_call 114; refine (HWH.out _).mono ?_; rintro e w3 ⟨rfl, hB3⟩; obtain ⟨t0, t1, t2, t3, t4, t5, t6, t7, t8, t9, t10, t11, t12⟩ := (hP.keep hB3).photo))
     clear q0 q1 q2 q3 q4 q5 q6 q7 q8 q9 q10 q11 q12 t0 t1 t2 t3 t4 t5 t6 t7 t8 t9 t10 t11 t12
     go_loopg [26] p.wn (fun gk i wr => ∃ j : Nat, j ≤ p.wn ∧ gk = p.wn - j ∧ i = .int .i64 j ∧ (∀ k, k < j → Fd.placeB (p.lat k) (p.lon k) = true) ∧ Below W1.heap.size W1 wr)
     case atStart => exact ⟨0, by omega, rfl, rfl, fun k hk => by omega, hB3⟩
     case round =>
      obtain ⟨j, hj, rfl, rfl, hall, hB⟩ := hrel
      have HALL := Lib.hid hall; clear hall
      obtain ⟨t0, t1, t2, t3, t4, t5, t6, t7, t8, t9, t10, t11, t12⟩ := (hP.keep hB).photo
      by_cases hlt : j < p.wn
      ·obtain ⟨b1, off, rfl, hb1, hcell⟩ := HPL.out.keep hB (by omega)
       obtain ⟨c0, c1⟩ := hcell j hlt
       clear hcell
       have HPB := Lib.hid (fun W => checkPlace_is (p.lat j) (p.lon j) W (Fd.placeB (p.lat j) (p.lon j)) rfl)
       have hBa := below_allocs hB (.cells #[.int .i64 (p.lat j), .int .i64 (p.lon j)] 112)
       cases hpl : Fd.placeB (p.lat j) (p.lon j)
       ·have hj0 : j = 0 := by omega
        have hq := HQ.out
        rw [if_pos ⟨by omega, by rw [← hj0]; exact hpl⟩] at hq
        rw [hpl, if_neg (by simp)] at HPB
        subst hq
        have HPLC := Lib.hid hpl; clear hpl hj0
        go_wp2_with (go_at_call 110; refine (HPB.out _).mono ?_; rintro e w5 ⟨rfl, hB5⟩)
        go_ret
        exact ⟨rfl, below_up hB1 (below_up hBa hB5)⟩
       ·rw [hpl, if_pos rfl] at HPB
        have HPLC := Lib.hid hpl; clear hpl
        go_wp2_with (go_at_call 110; refine (HPB.out _).mono ?_; rintro e w5 ⟨rfl, hB5⟩)
        go_roundg (p.wn - (j + 1))
        case rel => exact ⟨j + 1, by omega, rfl, by go_num, Fd.places_next HALL.out HPLC.out, below_up hBa hB5⟩
        case measure => omega
      ·obtain rfl : j = p.wn := by omega
       have hq := HQ.out
       rw [if_neg (by rintro ⟨e1, e2⟩; have := HALL.out 0 (by omega); rw [e2] at this; cases this)] at hq
       cases hcW : decide (1 ≤ p.W ∧ p.W ≤ 100000)
       ·have HcW := Lib.hid hcW
        have hsh : Fd.shapeB p.W p.H p.turn p.stars = false := Fd.shapeB_no (.inl hcW)
        rw [if_neg (by rw [hsh]; simp)] at hq
        subst hq
        clear hcW hsh
        go_wp2_with (first
         | (go_at_call 32; (with_reducible refine (outsideF_is p.W 1 100000 false HcW.out _).mono ?_); rintro e w5 ⟨rfl, rfl⟩)
         | (go_at_call 32; (with_reducible refine (outsideF_is p.H 1 100000 false HcH.out _).mono ?_); rintro e w5 ⟨rfl, rfl⟩)
         | (go_at_call 32; (with_reducible refine (outsideF_is p.turn 1 8 false HcT.out _).mono ?_); rintro e w5 ⟨rfl, rfl⟩)
         | (go_at_call 32; (with_reducible refine (outsideF_is p.stars 0 5 false HcS.out _).mono ?_); rintro e w5 ⟨rfl, rfl⟩))
        go_ret
        exact ⟨rfl, below_up hB1 hB⟩
       ·have HcW := Lib.hid hcW
        cases hcH : decide (1 ≤ p.H ∧ p.H ≤ 100000)
        ·have HcH := Lib.hid hcH
         have hsh : Fd.shapeB p.W p.H p.turn p.stars = false := Fd.shapeB_no (.inr (.inl hcH))
         rw [if_neg (by rw [hsh]; simp)] at hq
         subst hq
         clear hcW hsh
         go_wp2_with (first
          | (go_at_call 32; (with_reducible refine (outsideF_is p.W 1 100000 true HcW.out _).mono ?_); rintro e w5 ⟨rfl, rfl⟩)
          | (go_at_call 32; (with_reducible refine (outsideF_is p.H 1 100000 false HcH.out _).mono ?_); rintro e w5 ⟨rfl, rfl⟩)
          | (go_at_call 32; (with_reducible refine (outsideF_is p.turn 1 8 false HcT.out _).mono ?_); rintro e w5 ⟨rfl, rfl⟩)
          | (go_at_call 32; (with_reducible refine (outsideF_is p.stars 0 5 false HcS.out _).mono ?_); rintro e w5 ⟨rfl, rfl⟩))
         go_ret
         exact ⟨rfl, below_up hB1 hB⟩
        ·have HcH := Lib.hid hcH
         cases hcT : decide (1 ≤ p.turn ∧ p.turn ≤ 8)
         ·have HcT := Lib.hid hcT
          have hsh : Fd.shapeB p.W p.H p.turn p.stars = false := Fd.shapeB_no (.inr (.inr (.inl hcT)))
          rw [if_neg (by rw [hsh]; simp)] at hq
          subst hq
          clear hcW hsh
          go_wp2_with (first
           | (go_at_call 32; (with_reducible refine (outsideF_is p.W 1 100000 true HcW.out _).mono ?_); rintro e w5 ⟨rfl, rfl⟩)
           | (go_at_call 32; (with_reducible refine (outsideF_is p.H 1 100000 true HcH.out _).mono ?_); rintro e w5 ⟨rfl, rfl⟩)
           | (go_at_call 32; (with_reducible refine (outsideF_is p.turn 1 8 false HcT.out _).mono ?_); rintro e w5 ⟨rfl, rfl⟩)
           | (go_at_call 32; (with_reducible refine (outsideF_is p.stars 0 5 false HcS.out _).mono ?_); rintro e w5 ⟨rfl, rfl⟩))
          go_ret
          exact ⟨rfl, below_up hB1 hB⟩
         ·have HcT := Lib.hid hcT
          cases hcS : decide (0 ≤ p.stars ∧ p.stars ≤ 5)
          ·have HcS := Lib.hid hcS
           have hsh : Fd.shapeB p.W p.H p.turn p.stars = false := Fd.shapeB_no (.inr (.inr (.inr hcS)))
           rw [if_neg (by rw [hsh]; simp)] at hq
           subst hq
           clear hcW hsh
           go_wp2_with (first
            | (go_at_call 32; (with_reducible refine (outsideF_is p.W 1 100000 true HcW.out _).mono ?_); rintro e w5 ⟨rfl, rfl⟩)
            | (go_at_call 32; (with_reducible refine (outsideF_is p.H 1 100000 true HcH.out _).mono ?_); rintro e w5 ⟨rfl, rfl⟩)
            | (go_at_call 32; (with_reducible refine (outsideF_is p.turn 1 8 true HcT.out _).mono ?_); rintro e w5 ⟨rfl, rfl⟩)
            | (go_at_call 32; (with_reducible refine (outsideF_is p.stars 0 5 false HcS.out _).mono ?_); rintro e w5 ⟨rfl, rfl⟩))
           go_ret
           exact ⟨rfl, below_up hB1 hB⟩
          ·have HcS := Lib.hid hcS
           have hsh : Fd.shapeB p.W p.H p.turn p.stars = true := Fd.shapeB_yes hcW hcH hcT hcS
           rw [if_pos hsh] at hq
           clear hcW hcH hcT hcS hsh
           have HQ2 := Lib.hid hq; clear hq
           go_wp2_with (first
            | (go_at_call 32; (with_reducible refine (outsideF_is p.W 1 100000 true HcW.out _).mono ?_); rintro e w5 ⟨rfl, rfl⟩)
            | (go_at_call 32; (with_reducible refine (outsideF_is p.H 1 100000 true HcH.out _).mono ?_); rintro e w5 ⟨rfl, rfl⟩)
            | (go_at_call 32; (with_reducible refine (outsideF_is p.turn 1 8 true HcT.out _).mono ?_); rintro e w5 ⟨rfl, rfl⟩)
            | (go_at_call 32; (with_reducible refine (outsideF_is p.stars 0 5 true HcS.out _).mono ?_); rintro e w5 ⟨rfl, rfl⟩)
            | (go_at_call 115; refine (HWO.out _ hB).mono ?_; rintro e w6 ⟨rfl, hB6⟩))
           go_ret
           exact ⟨ret_int HQ2.out, below_up hB1 (below_up hB hB6)⟩
theorem photoError_A (p : Ph) (w : World) (hI : p.In w) (hF : p.Fits) (hcI : decide (1 ≤ p.id ∧ p.id ≤ 1000000) = true) (hcF : Fd.fileB p.file = true) (hcM : decide (-1 ≤ p.mom ∧ p.mom ≤ 6311433599) = true) (hcZ : Zn.zok p.zone = true) (hm : 0 ≤ p.mom) (hL : Ev.mom (p.mom + 60 * p.zone) = true) (hw : p.wn = 1) (hpl : Fd.placeB (p.lat 0) (p.lon 0) = true) :
  Calls Tryz.prog 48 #[.agg #[.int .i64 p.id, .string p.file, .int .i64 p.mom, .int .i64 p.zone, .slice p.wa p.wn p.wc, .int .i64 p.W, .int .i64 p.H, .int .i64 p.turn, .int .i64 p.stars, .slice p.ta p.tn p.tc, .string p.cap, .slice p.pa p.pn p.pc, .bool p.hid]] w fun e w' => e = .returned (.int .i64 (if Fd.shapeB p.W p.H p.turn p.stars = true then p.words else 2)) ∧ Below w.heap.size w w' := by
 obtain ⟨W1, hW1, hP, hz1, hB1⟩ := bxP w p
 have HW1 := Lib.hid hW1
 clear hW1 hz1
 obtain ⟨q0, q1, q2, q3, q4, q5, q6, q7, q8, q9, q10, q11, q12⟩ := hP.photo
 have hI := hI.keep hB1
 have hmz1 := of_decide_eq_true hcM
 have hm2 := hmz1.2
 have hz2 := (Zn.zok_iff _).1 hcZ
 have hz3 := hz2.1
 have hz4 := hz2.2
 have HTG := Lib.hid (fun W (hB : Below W1.heap.size W1 W) => (hI.keep hB).tags)
 have HPG := Lib.hid (fun W (hB : Below W1.heap.size W1 W) => (hI.keep hB).people)
 have HPL := Lib.hid hI.places
 have HTS := Lib.hid hF.tag
 have hff := hF.file; have hbt := hF.tn; have hbp := hF.pn; have hbc := hF.cap; have hbw := hF.wn
 obtain ⟨b, hb⟩ : ∃ b, Fd.plainB p.cap = b := ⟨_, rfl⟩
 have HPLN := Lib.hid (fun W => plain_is p.cap hF.cap b hb W)
 have HPB := Lib.hid (fun W => placed_is (p.lat 0) (p.lon 0) W true hpl)
 obtain ⟨q, hq⟩ : ∃ q, (if Fd.shapeB p.W p.H p.turn p.stars = true then p.words else 2) = q := ⟨_, rfl⟩
 rw [hq]
 unfold Ph.words at hq
 rw [hb] at hq
 have HcI := Lib.hid hcI; have HcF := Lib.hid hcF; have HcM := Lib.hid hcM; have HcZ := Lib.hid hcZ; have HcL := Lib.hid hL
 have hw1 : ((p.wn : Int) == 1) = true := by simp; omega
 have hw2 : ¬ (1 : Int) < (p.wn : Int) := by omega
 have hw3 : 0 < p.wn := by omega
 have HWN := Lib.hid hw
 clear hI hF hb hcI hcF hcM hcZ hpl hmz1 hz2 hw hL
 generalize p.wa = wa at *
 generalize p.ta = ta at *
 generalize p.pa = pa at *
 obtain ⟨bw, offw, rfl, hbw1, hcellw⟩ := HPL.out hw3
 obtain ⟨cw0, cw1⟩ := hcellw 0 (by omega)
 rw [Nat.zero_mul, Nat.add_zero] at cw0 cw1
 clear hcellw HPL
 cases hcW : decide (1 ≤ p.W ∧ p.W ≤ 100000)
 ·have HcW := Lib.hid hcW
  have hsh : Fd.shapeB p.W p.H p.turn p.stars = false := Fd.shapeB_no (.inl hcW)
  rw [if_neg (by rw [hsh]; simp)] at hq
  subst hq
  clear hcW hsh
  go_enter Tryz.func48, Tryz.ntmps48
  go_wp2_with fail
  rw [HW1.out]
  go_wp2_with (first | (go_at_call 31; (with_reducible refine (in_is p.id 1 1000000 true HcI.out _).mono ?_); rintro e w2 ⟨rfl, rfl⟩) | (go_at_call 90; (with_reducible refine (isDigest_is p.file hff true HcF.out _).mono ?_); rintro e w2 ⟨rfl, rfl⟩) | (go_at_call 31; (with_reducible refine (in_is p.mom (-1) 6311433599 true HcM.out _).mono ?_); rintro e w2 ⟨rfl, rfl⟩) | (go_at_call 91; (with_reducible refine (zoned_is p.zone true HcZ.out _).mono ?_); rintro e w2 ⟨rfl, rfl⟩) | (go_at_call 71; (with_reducible refine (moment_is (p.mom + 60 * p.zone) true HcL.out _).mono ?_); rintro e w2 ⟨rfl, rfl⟩) | (go_at_call 72; refine (HPB.out _).mono ?_; rintro e w5 ⟨rfl, hB5⟩; obtain ⟨t0, t1, t2, t3, t4, t5, t6, t7, t8, t9, t10, t11, t12⟩ := (hP.keep hB5).photo) | (go_at_call 31; (with_reducible refine (in_is p.W 1 100000 false HcW.out _).mono ?_); rintro e w7 ⟨rfl, rfl⟩) | (go_at_call 31; (with_reducible refine (in_is p.H 1 100000 false HcH.out _).mono ?_); rintro e w7 ⟨rfl, rfl⟩) | (go_at_call 31; (with_reducible refine (in_is p.turn 1 8 false HcT.out _).mono ?_); rintro e w7 ⟨rfl, rfl⟩) | (go_at_call 31; (with_reducible refine (in_is p.stars 0 5 false HcS.out _).mono ?_); rintro e w7 ⟨rfl, rfl⟩))
  go_ret
  exact ⟨rfl, below_up hB1 hB5⟩
 ·have HcW := Lib.hid hcW
  cases hcH : decide (1 ≤ p.H ∧ p.H ≤ 100000)
  ·have HcH := Lib.hid hcH
   have hsh : Fd.shapeB p.W p.H p.turn p.stars = false := Fd.shapeB_no (.inr (.inl hcH))
   rw [if_neg (by rw [hsh]; simp)] at hq
   subst hq
   clear hcW hsh
   go_enter Tryz.func48, Tryz.ntmps48
   go_wp2_with fail
   rw [HW1.out]
   go_wp2_with (first | (go_at_call 31; (with_reducible refine (in_is p.id 1 1000000 true HcI.out _).mono ?_); rintro e w2 ⟨rfl, rfl⟩) | (go_at_call 90; (with_reducible refine (isDigest_is p.file hff true HcF.out _).mono ?_); rintro e w2 ⟨rfl, rfl⟩) | (go_at_call 31; (with_reducible refine (in_is p.mom (-1) 6311433599 true HcM.out _).mono ?_); rintro e w2 ⟨rfl, rfl⟩) | (go_at_call 91; (with_reducible refine (zoned_is p.zone true HcZ.out _).mono ?_); rintro e w2 ⟨rfl, rfl⟩) | (go_at_call 71; (with_reducible refine (moment_is (p.mom + 60 * p.zone) true HcL.out _).mono ?_); rintro e w2 ⟨rfl, rfl⟩) | (go_at_call 72; refine (HPB.out _).mono ?_; rintro e w5 ⟨rfl, hB5⟩; obtain ⟨t0, t1, t2, t3, t4, t5, t6, t7, t8, t9, t10, t11, t12⟩ := (hP.keep hB5).photo) | (go_at_call 31; (with_reducible refine (in_is p.W 1 100000 true HcW.out _).mono ?_); rintro e w7 ⟨rfl, rfl⟩) | (go_at_call 31; (with_reducible refine (in_is p.H 1 100000 false HcH.out _).mono ?_); rintro e w7 ⟨rfl, rfl⟩) | (go_at_call 31; (with_reducible refine (in_is p.turn 1 8 false HcT.out _).mono ?_); rintro e w7 ⟨rfl, rfl⟩) | (go_at_call 31; (with_reducible refine (in_is p.stars 0 5 false HcS.out _).mono ?_); rintro e w7 ⟨rfl, rfl⟩))
   go_ret
   exact ⟨rfl, below_up hB1 hB5⟩
  ·have HcH := Lib.hid hcH
   cases hcT : decide (1 ≤ p.turn ∧ p.turn ≤ 8)
   ·have HcT := Lib.hid hcT
    have hsh : Fd.shapeB p.W p.H p.turn p.stars = false := Fd.shapeB_no (.inr (.inr (.inl hcT)))
    rw [if_neg (by rw [hsh]; simp)] at hq
    subst hq
    clear hcW hsh
    go_enter Tryz.func48, Tryz.ntmps48
    go_wp2_with fail
    rw [HW1.out]
    go_wp2_with (first | (go_at_call 31; (with_reducible refine (in_is p.id 1 1000000 true HcI.out _).mono ?_); rintro e w2 ⟨rfl, rfl⟩) | (go_at_call 90; (with_reducible refine (isDigest_is p.file hff true HcF.out _).mono ?_); rintro e w2 ⟨rfl, rfl⟩) | (go_at_call 31; (with_reducible refine (in_is p.mom (-1) 6311433599 true HcM.out _).mono ?_); rintro e w2 ⟨rfl, rfl⟩) | (go_at_call 91; (with_reducible refine (zoned_is p.zone true HcZ.out _).mono ?_); rintro e w2 ⟨rfl, rfl⟩) | (go_at_call 71; (with_reducible refine (moment_is (p.mom + 60 * p.zone) true HcL.out _).mono ?_); rintro e w2 ⟨rfl, rfl⟩) | (go_at_call 72; refine (HPB.out _).mono ?_; rintro e w5 ⟨rfl, hB5⟩; obtain ⟨t0, t1, t2, t3, t4, t5, t6, t7, t8, t9, t10, t11, t12⟩ := (hP.keep hB5).photo) | (go_at_call 31; (with_reducible refine (in_is p.W 1 100000 true HcW.out _).mono ?_); rintro e w7 ⟨rfl, rfl⟩) | (go_at_call 31; (with_reducible refine (in_is p.H 1 100000 true HcH.out _).mono ?_); rintro e w7 ⟨rfl, rfl⟩) | (go_at_call 31; (with_reducible refine (in_is p.turn 1 8 false HcT.out _).mono ?_); rintro e w7 ⟨rfl, rfl⟩) | (go_at_call 31; (with_reducible refine (in_is p.stars 0 5 false HcS.out _).mono ?_); rintro e w7 ⟨rfl, rfl⟩))
    go_ret
    exact ⟨rfl, below_up hB1 hB5⟩
   ·have HcT := Lib.hid hcT
    cases hcS : decide (0 ≤ p.stars ∧ p.stars ≤ 5)
    ·have HcS := Lib.hid hcS
     have hsh : Fd.shapeB p.W p.H p.turn p.stars = false := Fd.shapeB_no (.inr (.inr (.inr hcS)))
     rw [if_neg (by rw [hsh]; simp)] at hq
     subst hq
     clear hcW hsh
     go_enter Tryz.func48, Tryz.ntmps48
     go_wp2_with fail
     rw [HW1.out]
     go_wp2_with (first | (go_at_call 31; (with_reducible refine (in_is p.id 1 1000000 true HcI.out _).mono ?_); rintro e w2 ⟨rfl, rfl⟩) | (go_at_call 90; (with_reducible refine (isDigest_is p.file hff true HcF.out _).mono ?_); rintro e w2 ⟨rfl, rfl⟩) | (go_at_call 31; (with_reducible refine (in_is p.mom (-1) 6311433599 true HcM.out _).mono ?_); rintro e w2 ⟨rfl, rfl⟩) | (go_at_call 91; (with_reducible refine (zoned_is p.zone true HcZ.out _).mono ?_); rintro e w2 ⟨rfl, rfl⟩) | (go_at_call 71; (with_reducible refine (moment_is (p.mom + 60 * p.zone) true HcL.out _).mono ?_); rintro e w2 ⟨rfl, rfl⟩) | (go_at_call 72; refine (HPB.out _).mono ?_; rintro e w5 ⟨rfl, hB5⟩; obtain ⟨t0, t1, t2, t3, t4, t5, t6, t7, t8, t9, t10, t11, t12⟩ := (hP.keep hB5).photo) | (go_at_call 31; (with_reducible refine (in_is p.W 1 100000 true HcW.out _).mono ?_); rintro e w7 ⟨rfl, rfl⟩) | (go_at_call 31; (with_reducible refine (in_is p.H 1 100000 true HcH.out _).mono ?_); rintro e w7 ⟨rfl, rfl⟩) | (go_at_call 31; (with_reducible refine (in_is p.turn 1 8 true HcT.out _).mono ?_); rintro e w7 ⟨rfl, rfl⟩) | (go_at_call 31; (with_reducible refine (in_is p.stars 0 5 false HcS.out _).mono ?_); rintro e w7 ⟨rfl, rfl⟩))
     go_ret
     exact ⟨rfl, below_up hB1 hB5⟩
    ·have HcS := Lib.hid hcS
     have hsh : Fd.shapeB p.W p.H p.turn p.stars = true := Fd.shapeB_yes hcW hcH hcT hcS
     rw [if_pos hsh] at hq
     clear hcW hcH hcT hcS hsh
     by_cases ht : 20 < p.tn
     ·rw [if_pos ht] at hq
      subst hq
      have ht' : (20 : Int) < (p.tn : Int) := by omega
      go_enter Tryz.func48, Tryz.ntmps48
      go_wp2_with fail
      rw [HW1.out]
      go_wp2_with (first | (go_at_call 31; (with_reducible refine (in_is p.id 1 1000000 true HcI.out _).mono ?_); rintro e w2 ⟨rfl, rfl⟩) | (go_at_call 90; (with_reducible refine (isDigest_is p.file hff true HcF.out _).mono ?_); rintro e w2 ⟨rfl, rfl⟩) | (go_at_call 31; (with_reducible refine (in_is p.mom (-1) 6311433599 true HcM.out _).mono ?_); rintro e w2 ⟨rfl, rfl⟩) | (go_at_call 91; (with_reducible refine (zoned_is p.zone true HcZ.out _).mono ?_); rintro e w2 ⟨rfl, rfl⟩) | (go_at_call 71; (with_reducible refine (moment_is (p.mom + 60 * p.zone) true HcL.out _).mono ?_); rintro e w2 ⟨rfl, rfl⟩) | (go_at_call 72; refine (HPB.out _).mono ?_; rintro e w5 ⟨rfl, hB5⟩; obtain ⟨t0, t1, t2, t3, t4, t5, t6, t7, t8, t9, t10, t11, t12⟩ := (hP.keep hB5).photo) | (go_at_call 31; (with_reducible refine (in_is p.W 1 100000 true HcW.out _).mono ?_); rintro e w7 ⟨rfl, rfl⟩) | (go_at_call 31; (with_reducible refine (in_is p.H 1 100000 true HcH.out _).mono ?_); rintro e w7 ⟨rfl, rfl⟩) | (go_at_call 31; (with_reducible refine (in_is p.turn 1 8 true HcT.out _).mono ?_); rintro e w7 ⟨rfl, rfl⟩) | (go_at_call 31; (with_reducible refine (in_is p.stars 0 5 true HcS.out _).mono ?_); rintro e w7 ⟨rfl, rfl⟩))
      go_ret
      exact ⟨rfl, below_up hB1 hB5⟩
     ·rw [if_neg ht] at hq
      have ht' : ¬ (20 : Int) < (p.tn : Int) := by omega
      obtain ⟨s, hs⟩ : ∃ s, Fd.scan (Fd.tbad p.tag) 0 p.tn = s := ⟨_, rfl⟩
      rw [hs] at hq
      have HTO : Hid (∀ e : Int, e ≠ 0 → e = s → e = q) := by
       intro e h0 he
       subst he
       rw [if_neg h0] at hq
       exact hq
      have HS := Lib.hid hs; have HQ := Lib.hid hq; clear hs hq
      go_enter Tryz.func48, Tryz.ntmps48
      go_wp2_with fail
      rw [HW1.out]
      go_wp2_with (first | (go_at_call 31; (with_reducible refine (in_is p.id 1 1000000 true HcI.out _).mono ?_); rintro e w2 ⟨rfl, rfl⟩) | (go_at_call 90; (with_reducible refine (isDigest_is p.file hff true HcF.out _).mono ?_); rintro e w2 ⟨rfl, rfl⟩) | (go_at_call 31; (with_reducible refine (in_is p.mom (-1) 6311433599 true HcM.out _).mono ?_); rintro e w2 ⟨rfl, rfl⟩) | (go_at_call 91; (with_reducible refine (zoned_is p.zone true HcZ.out _).mono ?_); rintro e w2 ⟨rfl, rfl⟩) | (go_at_call 71; (with_reducible refine (moment_is (p.mom + 60 * p.zone) true HcL.out _).mono ?_); rintro e w2 ⟨rfl, rfl⟩) | (go_at_call 72; refine (HPB.out _).mono ?_; rintro e w5 ⟨rfl, hB5⟩; obtain ⟨t0, t1, t2, t3, t4, t5, t6, t7, t8, t9, t10, t11, t12⟩ := (hP.keep hB5).photo) | (go_at_call 31; (with_reducible refine (in_is p.W 1 100000 true HcW.out _).mono ?_); rintro e w7 ⟨rfl, rfl⟩) | (go_at_call 31; (with_reducible refine (in_is p.H 1 100000 true HcH.out _).mono ?_); rintro e w7 ⟨rfl, rfl⟩) | (go_at_call 31; (with_reducible refine (in_is p.turn 1 8 true HcT.out _).mono ?_); rintro e w7 ⟨rfl, rfl⟩) | (go_at_call 31; (with_reducible refine (in_is p.stars 0 5 true HcS.out _).mono ?_); rintro e w7 ⟨rfl, rfl⟩))
      have HTG5 := Lib.hid (HTG.out _ hB5)
      have HPG5 := Lib.hid (HPG.out _ hB5)
      have hBf := below_up hB1 hB5
      go_loopg [92] p.tn (fun gk i wr => ∃ j : Nat, j ≤ p.tn ∧ gk = p.tn - j ∧ i = .int .i64 j ∧ Fd.scan (Fd.tbad p.tag) j (p.tn - j) = s ∧ w5 = wr)
      case atStart => exact ⟨0, by omega, rfl, rfl, HS.out, rfl⟩
      case round =>
       obtain ⟨j, hj, rfl, rfl, hsc, rfl⟩ := hrel
       have HSC := Lib.hid hsc; clear hsc
       by_cases hlt : j < p.tn
       ·obtain ⟨b1, off, rfl, hb1, hcell⟩ := HTG5.out (by omega)
        have hcell : ∀ i, i < p.tn → w5.cell? ⟨b1, off + i, none⟩ = some (.string (p.tag i)) := hcell
        have c0 := hcell j hlt
        have HC := Lib.hid hcell
        clear hcell
        have hcell := HC.out
        cases hin : Fd.nameB (p.tag j)
        ·have HIN := Lib.hid hin
         have HBAD := Lib.hid (HTO.out _ (by omega) (Fd.scan_here HSC.out hlt (Fd.tbad_name hin) (by omega)))
         clear hin
         go_wp2_with (go_at_call 69; (with_reducible refine (isNameR_is (p.tag j) (HTS.out j hlt) false HIN.out _).mono ?_); rintro e w2 ⟨rfl, rfl⟩)
         go_ret
         exact ⟨ret_int HBAD.out, hBf⟩
        ·have HIN := Lib.hid hin
         by_cases hj0 : j = 0
         ·have hj0' : decide ((0 : Int) < (j : Int)) = false := by simpa using hj0
          have hj0'' : ((0 : Int) < (j : Int)) = False := by simpa using hj0
          have hj0n : (0 < j) = False := by simpa using hj0
          have HBAD := Lib.hid (Fd.scan_next HSC.out hlt (Fd.tbad_first hin hj0))
          clear hin hj0
          go_wp2_with (go_at_call 69; (with_reducible refine (isNameR_is (p.tag j) (HTS.out j hlt) true HIN.out _).mono ?_); rintro e w2 ⟨rfl, rfl⟩)
          go_roundg (p.tn - (j + 1))
          case rel => exact ⟨j + 1, by omega, rfl, by go_num, HBAD.out, rfl⟩
          case measure => omega
         ·have hj1 : 1 ≤ j := by omega
          have hj0' : decide ((0 : Int) < (j : Int)) = true := by simp; omega
          have hj0n : 0 < j := by omega
          have d0 := hcell (j - 1) (by omega)
          have hi0 : (0 : Int) ≤ (j : Int) - 1 := by omega
          have hi1 : (j : Int) - 1 < (p.tn : Int) := by omega
          cases ho : Fd.leS (p.tag j) (p.tag (j - 1))
          ·have HBAD := Lib.hid (Fd.scan_next HSC.out hlt (Fd.tbad_ok hin hj0 ho))
           unfold Fd.leS at ho
           clear hin hj0
           go_wp2_with (go_at_call 69; (with_reducible refine (isNameR_is (p.tag j) (HTS.out j hlt) true HIN.out _).mono ?_); rintro e w2 ⟨rfl, rfl⟩)
           go_roundg (p.tn - (j + 1))
           case rel => exact ⟨j + 1, by omega, rfl, by go_num, HBAD.out, rfl⟩
           case measure => omega
          ·have HBAD := Lib.hid (HTO.out _ (by omega) (Fd.scan_here HSC.out hlt (Fd.tbad_ord hin hj0 ho) (by omega)))
           unfold Fd.leS at ho
           clear hin hj0
           go_wp2_with (go_at_call 69; (with_reducible refine (isNameR_is (p.tag j) (HTS.out j hlt) true HIN.out _).mono ?_); rintro e w2 ⟨rfl, rfl⟩)
           go_ret
           exact ⟨ret_int HBAD.out, hBf⟩
       ·obtain rfl : j = p.tn := by omega
        have hs0 := Fd.scan_end HSC.out
        have hq := HQ.out
        rw [if_pos hs0] at hq
        clear hs0
        by_cases hc : 200 < p.cap.size
        ·rw [if_pos hc] at hq
         have hc' : (200 : Int) < (p.cap.size : Int) := by omega
         subst hq
         go_wp2_with fail
         go_ret
         exact ⟨rfl, hBf⟩
        ·rw [if_neg hc] at hq
         have hc' : ¬ (200 : Int) < (p.cap.size : Int) := by omega
         cases b
         ·rw [if_neg (by simp)] at hq
          subst hq
          go_wp2_with (go_at_call 70; refine (HPLN.out _).mono ?_; rintro e w8 ⟨rfl, rfl⟩)
          go_ret
          exact ⟨rfl, hBf⟩
         ·rw [if_pos rfl] at hq
          by_cases hn : 20 < p.pn
          ·rw [if_pos hn] at hq
           have hn' : (20 : Int) < (p.pn : Int) := by omega
           subst hq
           go_wp2_with (go_at_call 70; refine (HPLN.out _).mono ?_; rintro e w8 ⟨rfl, rfl⟩)
           go_ret
           exact ⟨rfl, hBf⟩
          ·rw [if_neg hn] at hq
           have hn' : ¬ (20 : Int) < (p.pn : Int) := by omega
           have HQ2 := Lib.hid hq; clear hq
           go_wp2_with (go_at_call 70; refine (HPLN.out _).mono ?_; rintro e w8 ⟨rfl, rfl⟩)
           go_loopg [131] p.pn (fun gk i wr => ∃ j : Nat, j ≤ p.pn ∧ gk = p.pn - j ∧ i = .int .i64 j ∧ Fd.scan (Fd.pbad p.who) j (p.pn - j) = q ∧ w5 = wr)
           case atStart => exact ⟨0, by omega, rfl, rfl, HQ2.out, rfl⟩
           case round =>
            obtain ⟨j, hj, rfl, rfl, hsc, rfl⟩ := hrel
            have HSC := Lib.hid hsc; clear hsc
            by_cases hlt : j < p.pn
            ·obtain ⟨b1, off, rfl, hb1, hcell⟩ := HPG5.out (by omega)
             have hcell : ∀ i, i < p.pn → w5.cell? ⟨b1, off + i, none⟩ = some (.int .i64 (p.who i)) := hcell
             have c0 := hcell j hlt
             have HC := Lib.hid hcell
             clear hcell
             have hcell := HC.out
             cases hin : decide (1 ≤ p.who j ∧ p.who j ≤ 1000000)
             ·have HIN := Lib.hid hin
              have HBAD := Lib.hid (id (Fd.scan_here HSC.out hlt (Fd.pbad_out hin) (by omega)))
              clear hin
              go_wp2_with (go_at_call 31; (with_reducible refine (in_is (p.who j) 1 1000000 false HIN.out _).mono ?_); rintro e w2 ⟨rfl, rfl⟩)
              go_ret
              exact ⟨ret_int HBAD.out, hBf⟩
             ·have HIN := Lib.hid hin
              by_cases hj0 : j = 0
              ·have hj0' : decide ((0 : Int) < (j : Int)) = false := by simpa using hj0
               have hj0'' : ((0 : Int) < (j : Int)) = False := by simpa using hj0
               have hj0n : (0 < j) = False := by simpa using hj0
               have HBAD := Lib.hid (Fd.scan_next HSC.out hlt (Fd.pbad_first hin hj0))
               clear hin hj0
               go_wp2_with (go_at_call 31; (with_reducible refine (in_is (p.who j) 1 1000000 true HIN.out _).mono ?_); rintro e w2 ⟨rfl, rfl⟩)
               go_roundg (p.pn - (j + 1))
               case rel => exact ⟨j + 1, by omega, rfl, by go_num, HBAD.out, rfl⟩
               case measure => omega
              ·have hj1 : 1 ≤ j := by omega
               have hj0' : decide ((0 : Int) < (j : Int)) = true := by simp; omega
               have hj0n : 0 < j := by omega
               have d0 := hcell (j - 1) (by omega)
               have hi0 : (0 : Int) ≤ (j : Int) - 1 := by omega
               have hi1 : (j : Int) - 1 < (p.pn : Int) := by omega
               by_cases ho : p.who j ≤ p.who (j - 1)
               ·have HBAD := Lib.hid (id (Fd.scan_here HSC.out hlt (Fd.pbad_ord hin hj0 ho) (by omega)))
                clear hin hj0
                go_wp2_with (go_at_call 31; (with_reducible refine (in_is (p.who j) 1 1000000 true HIN.out _).mono ?_); rintro e w2 ⟨rfl, rfl⟩)
                go_ret
                exact ⟨ret_int HBAD.out, hBf⟩
               ·have HBAD := Lib.hid (Fd.scan_next HSC.out hlt (Fd.pbad_ok hin hj0 ho))
                have ho' : p.who (j - 1) < p.who j := by omega
                clear hin hj0 ho
                go_wp2_with (go_at_call 31; (with_reducible refine (in_is (p.who j) 1 1000000 true HIN.out _).mono ?_); rintro e w2 ⟨rfl, rfl⟩)
                go_roundg (p.pn - (j + 1))
                case rel => exact ⟨j + 1, by omega, rfl, by go_num, HBAD.out, rfl⟩
                case measure => omega
            ·obtain rfl : j = p.pn := by omega
             go_wp2_with fail
             go_ret
             exact ⟨ret_int (Fd.scan_end HSC.out).symm, hBf⟩
end Go.Proofs.YtimjmjmpaicdbaaGreatDoor
