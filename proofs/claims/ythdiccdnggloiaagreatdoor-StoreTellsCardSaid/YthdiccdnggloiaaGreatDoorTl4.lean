/- Parts of the proof, no condition: HexMath, StHx, StDgM, RepLays, StDg, StEq. -/
import Derived.Test.YthdiccdnggloiaaGreatDoorEv16
import Derived.Test.YthdiccdnggloiaaGreatDoorEv17
import Derived.Test.YthdiccdnggloiaaGreatDoorTl1
import Derived.Lib.LaidTab
import Derived.LaidMore
import Derived.Stop.LaidErr
import Derived.Laws.Bits64b
import Derived.Lib.TrailingZeros
import Derived.Lib.SmallJoins
import Derived.Shelf.Strings.Repeat
import Derived.Test.YthdiccdnggloiaaGreatDoorProg
import Derived.Laws.Bits64
import Derived.Deep.QuietTactic
import Derived.BigQuiet
set_option maxRecDepth 100000
set_option maxHeartbeats 4000000
set_option linter.unusedSimpArgs false
set_option linter.unusedVariables false
namespace Go.Proofs.YthdiccdnggloiaaGreatDoor
open Go.RowKit
namespace Hx
def hx (n : Nat) : UInt8 := if n < 10 then UInt8.ofNat (48 + n) else UInt8.ofNat (87 + n)
def digs (n : Nat) : List UInt8 := if h : n < 16 then [hx n] else digs (n / 16) ++ [hx (n % 16)]
def low : Nat → Nat → List UInt8
 | _, 0 => []
 | n, k + 1 => low (n / 16) k ++ [hx (n % 16)]
theorem low_len : ∀ k n, (low n k).length = k
 | 0, _ => rfl
 | k + 1, n => by rw [low, List.length_append, low_len k]; rfl
theorem digs_small {n : Nat} (h : n < 16) : digs n = [hx n] := by rw [digs, dif_pos h]
theorem digs_big {n : Nat} (h : 16 ≤ n) : digs n = digs (n / 16) ++ [hx (n % 16)] := by rw [digs, dif_neg (by omega)]
theorem low_zero : ∀ k, low 0 k = List.replicate k 48
 | 0 => rfl
 | k + 1 => by
   rw [low, Nat.zero_div, low_zero k]
   show List.replicate k 48 ++ [hx 0] = _
   rw [List.replicate_succ']; rfl
theorem digs_pos (n : Nat) : 1 ≤ (digs n).length := by
 rw [digs]; split <;> simp
theorem digs_low : ∀ k n, n < 16 ^ (k + 1) → (digs n).length ≤ k + 1 ∧ List.replicate (k + 1 - (digs n).length) 48 ++ digs n = low n (k + 1)
 | 0, n, h => by
   have h16 : n < 16 := by simpa using h
   rw [digs_small h16]
   refine ⟨by simp, ?_⟩
   rw [low, low]
   simp [Nat.mod_eq_of_lt h16]
 | k + 1, n, h => by
   by_cases h16 : n < 16
   ·rw [digs_small h16]
    refine ⟨by simp, ?_⟩
    rw [low, show n / 16 = 0 by omega, low_zero, Nat.mod_eq_of_lt h16]
    simp
   ·have hd : n / 16 < 16 ^ (k + 1) := by rw [Nat.pow_succ] at h; omega
    obtain ⟨h1, h2⟩ := digs_low k (n / 16) hd
    rw [digs_big (by omega)]
    refine ⟨by rw [List.length_append]; simp; omega, ?_⟩
    rw [low, ← h2, List.length_append, ← List.append_assoc]
    congr 2
    simp
end Hx
namespace Hx
def tab : List Int := Lib.deBruijn64tab.map fun n : Nat => (n : Int)
abbrev DB (w : World) : Prop := Lib.TabIs Tryz.prog w "math/bits.deBruijn64tab" .u8 tab
theorem db_global : Tryz.prog.globalNamed "math/bits.deBruijn64tab" = some 3 := by kernel_rfl
theorem db_below {w w' : World} (h : DB w) (hb : Below w.heap.size w w') : DB w' := Go.Joins.tab_stays db_global h hb (Nat.le_refl _)
theorem db_of_laid {W : World} {x : String × DataW Unit} {rest : List (String × DataW Unit)} (h : laidMet Tryz.prog (x :: ("math/bits.deBruijn64tab", Lib.tabData .u8 tab) :: rest) W) : DB W :=
 Lib.tabIs_of_head (t := 264) (e := 5) (n := 64) db_global (by kernel_rfl) (by kernel_rfl) (by kernel_rfl) (by kernel_rfl) (by kernel_rfl) h.tail
end Hx
theorem tz64_16 (w : World) (h : Hx.DB w) : Calls Tryz.prog 241 #[.int .u64 16] w fun e w' => e = .returned (.int .i64 4) ∧ w' = w := by
 have hc := h.cell Hx.db_global 15 (by decide)
 rw [show Hx.tab.getD 15 0 = 4 from by decide] at hc
 have key : IntKind.u64.wrap (bits BinOp.and IntKind.u64 (16 : Int) (IntKind.u64.wrap (-16)) * 285870213051353865) / 288230376151711744 = 15 := by decide +kernel
 go_enter Tryz.func241, Tryz.ntmps241
 go_wp2_with (simp only [key])
 go_ret
 exact ⟨rfl, rfl⟩
theorem tz_16 (w : World) (h : Hx.DB w) : Calls Tryz.prog 227 #[.int .u64 16] w fun e w' => e = .returned (.int .i64 4) ∧ w' = w := by
 have HT := Lib.hid (tz64_16 w h)
 clear h
 go_enter Tryz.func227, Tryz.ntmps227
 go_wp2_with (go_at_call 241; (with_reducible refine HT.out.mono ?_); rintro e w' ⟨rfl, rfl⟩)
 go_ret
 exact ⟨rfl, rfl⟩
theorem pow2_16 (w : World) : Calls Tryz.prog 226 #[.int .i64 16] w fun e w' => e = .returned (.bool true) ∧ w' = w := by
 have key : bits BinOp.and IntKind.i64 (16 : Int) 15 = 0 := by decide +kernel
 go_enter Tryz.func226, Tryz.ntmps226
 go_wp2_with (simp only [key])
 go_ret
 exact ⟨rfl, rfl⟩
theorem hx36 : ∀ d : Fin 16, ((ByteArray.mk #[48, 49, 50, 51, 52, 53, 54, 55, 56, 57, 97, 98, 99, 100, 101, 102, 103, 104, 105, 106, 107, 108, 109, 110, 111, 112, 113, 114, 115, 116, 117, 118, 119, 120, 121, 122]).data[d.val]'(by have := d.isLt; simp; omega)).toNat = (Hx.hx d.val).toNat := by decide
theorem hx36At (d : Nat) (h : d < 16) (hs : d < (ByteArray.mk #[48, 49, 50, 51, 52, 53, 54, 55, 56, 57, 97, 98, 99, 100, 101, 102, 103, 104, 105, 106, 107, 108, 109, 110, 111, 112, 113, 114, 115, 116, 117, 118, 119, 120, 121, 122]).size) : ((ByteArray.mk #[48, 49, 50, 51, 52, 53, 54, 55, 56, 57, 97, 98, 99, 100, 101, 102, 103, 104, 105, 106, 107, 108, 109, 110, 111, 112, 113, 114, 115, 116, 117, 118, 119, 120, 121, 122])[d]'hs).toNat = (Hx.hx d).toNat := hx36 ⟨d, h⟩
theorem and15U (m : Nat) (h : m < 18446744073709551616) : bits .and .u64 (m : Int) 15 = ((m % 16 : Nat) : Int) := by
 have := bits_and_u64_nat m 15 h (by decide)
 rw [show ((15 : Nat) : Int) = 15 from rfl] at this
 rw [this]
 congr 1
 exact Nat.and_two_pow_sub_one_eq_mod m 4
def Hx.cells (L : List UInt8) : List Value := L.map fun x => Value.int .u8 (x.toNat : Int)
theorem Hx.put {cur : Array Value} {k : Nat} {L : List UInt8} {x : UInt8} (hk : k + 1 + L.length = 65) (hs : cur.size = 65) (hd : cur.toList.drop (k + 1) = Hx.cells L) : (cur.setIfInBounds k (.int .u8 (x.toNat : Int))).toList.drop k = Hx.cells (x :: L) := by
 rw [Array.toList_setIfInBounds]
 have hkl : k < cur.toList.length := by rw [Array.length_toList]; omega
 rw [List.drop_eq_getElem_cons (by rw [List.length_set]; exact hkl), List.getElem_set_self, List.drop_set_of_lt (by omega), hd]
 rfl
theorem fmtBits_16 (n : Nat) (hn : n < 18446744073709551616) (w : World) (h : Hx.DB w) : Calls Tryz.prog 209 #[.slice none 0 0, .int .u64 n, .int .i64 16, .bool false, .bool false] w fun e w' => e = .returned (.tuple #[.slice none 0 0, .string ⟨(Hx.digs n).toArray⟩]) ∧ Below w.heap.size w w' := by
 have HP := Lib.hid (fun V => pow2_16 V)
 have HT := Lib.hid (fun V (hb : Below w.heap.size w V) => tz_16 V (Hx.db_below h hb))
 have hd16 := (Hx.digs_low 15 n (by simpa using hn)).1
 have HDL := Lib.hid hd16
 have HN := Lib.hid hn
 obtain ⟨W1, hW1, hX1, hz1, hB1⟩ := box w Tryz.zeroCells244 244
 have HW1 := Lib.hid hW1
 have HX1 := Lib.hid hX1; have HB1 := Lib.hid hB1
 clear h hn hd16 hW1 hX1 hz1 hB1
 go_enter Tryz.func209, Tryz.ntmps209
 go_upto_region 4 with fail
 rw [HW1.out]
 go_wp2_with (first
  | (go_at_call 226; (with_reducible refine (HP.out _).mono ?_); rintro e w3 ⟨rfl, rfl⟩)
  | (go_at_call 227; (with_reducible refine (HT.out _ HB1.out).mono ?_); rintro e w4 ⟨rfl, rfl⟩))
 go_loopg [1, 13] n (fun gk u i wr => ∃ (m k : Nat) (L : List UInt8) (cur : Array Value), gk = m ∧ u = .int .u64 m ∧ i = .int .i64 k ∧ m ≤ n ∧ Hx.digs n = Hx.digs m ++ L ∧ k + L.length = 65 ∧ Blk wr w.heap.size cur 244 ∧ cur.size = 65 ∧ cur.toList.drop k = Hx.cells L ∧ Below w.heap.size w wr)
 case atStart => exact ⟨n, 65, [], _, rfl, rfl, rfl, Nat.le_refl _, by simp, rfl, HX1.out, by kernel_rfl, by rfl, HB1.out⟩
 case round =>
  obtain ⟨m, k, L, cur, rfl, rfl, rfl, hmn, hdg, hk, hX, hsz, hdr, hB⟩ := hrel
  have HDG := Lib.hid hdg; have HX := Lib.hid hX; have HDR := Lib.hid hdr
  have hdl := HDL.out
  rw [hdg, List.length_append] at hdl
  have hdp := Hx.digs_pos gk
  have hn := HN.out
  have hm64 : gk < 18446744073709551616 := by omega
  have hL : L.length ≤ 15 := by omega
  clear hdg hdr hdl hdp hn
  by_cases hge : 16 ≤ gk
  ·have hgd : decide ((16 : Int) ≤ (gk : Int)) = true := decide_eq_true (by omega)
   have hgt : ((16 : Int) ≤ (gk : Int)) = True := eq_true (by omega)
   obtain ⟨d, hd⟩ : ∃ d, gk % 16 = d := ⟨_, rfl⟩
   obtain ⟨q, hq⟩ : ∃ q, gk / 16 = q := ⟨_, rfl⟩
   have hand := and15U gk hm64
   have hshr : (gk : Int) / 16 = (q : Int) := by omega
   rw [hd] at hand
   have HDQ := Lib.hid (And.intro hd hq)
   obtain ⟨k, rfl⟩ : ∃ k', k = k' + 1 := ⟨k - 1, by omega⟩
   have hkw : ((k + 1 : Nat) : Int) = (k : Int) + 1 := by omega
   have hki : IntKind.i64.wrap ((k : Int) + 1 - 1) = (k : Int) := by rw [IntKind.wrap_i64]; omega
   have hk0 : (0 : Int) ≤ (k : Int) := by omega
   have hk1 : (k : Int) < 65 := by omega
   have hce : wr.cell? ⟨w.heap.size, k, none⟩ = some (cur[k]'(by omega)) := by rw [hX.cell, Array.getElem?_eq_getElem]
   have hfz := frozen_of hX k
   have hidx := hx36At (d) (by omega)
   have hd0 : (0 : Int) ≤ ((d : Nat) : Int) := by omega
   have hd1 : ((d : Nat) : Int) < 36 := by omega
   rw [hkw]
   clear hd hq
   go_wp2_with fail
   go_roundg q
   case rel =>
    have hq := HDQ.out.2
    have hd := HDQ.out.1
    refine ⟨q, k, Hx.hx d :: L, _, rfl, rfl, rfl, by omega, ?_, by simp; omega, HX.out.set k _, by simpa using hsz, Hx.put hk hsz HDR.out, hB.setCell (p := ⟨w.heap.size, k, none⟩) (by simp) _⟩
    rw [HDG.out, Hx.digs_big hge, hd, hq, List.append_assoc]; rfl
   case measure => have := HDQ.out.2; omega
  ·have hgd : decide ((16 : Int) ≤ (gk : Int)) = false := decide_eq_false (by omega)
   have hgt : ((16 : Int) ≤ (gk : Int)) = False := eq_false (by omega)
   obtain ⟨k, rfl⟩ : ∃ k', k = k' + 1 := ⟨k - 1, by omega⟩
   have hkw : ((k + 1 : Nat) : Int) = (k : Int) + 1 := by omega
   have hki : IntKind.i64.wrap ((k : Int) + 1 - 1) = (k : Int) := by rw [IntKind.wrap_i64]; omega
   have hk0 : (0 : Int) ≤ (k : Int) := by omega
   have hk1 : (k : Int) < 65 := by omega
   have hce : wr.cell? ⟨w.heap.size, k, none⟩ = some (cur[k]'(by omega)) := by rw [hX.cell, Array.getElem?_eq_getElem]
   have hfz := frozen_of hX k
   have hidx := hx36At (gk) (by omega)
   have hd0 : (0 : Int) ≤ ((gk : Nat) : Int) := by omega
   have hd1 : ((gk : Nat) : Int) < 36 := by omega
   rw [hkw]
   have hk65 : (k : Int) ≤ 65 := by omega
   have hput := Hx.put (x := Hx.hx gk) hk hsz HDR.out
   have hXS := HX.out.set k (.int .u8 ((Hx.hx gk).toNat : Int))
   have HE : Hid (Hx.digs n = Hx.hx gk :: L) := Lib.hid (by rw [HDG.out, Hx.digs_small (by omega)]; rfl)
   have hconv : ∀ ty, (convert ty 9 (.slice (some ⟨w.heap.size, k, none⟩) (65 - k) (65 - k))).run Tryz.prog (wr.setCell ⟨w.heap.size, k, none⟩ (.int .u8 ((Hx.hx gk).toNat : Int))) = .ok (.string ⟨(Hx.digs n).toArray⟩) (wr.setCell ⟨w.heap.size, k, none⟩ (.int .u8 ((Hx.hx gk).toNat : Int))) ∨ ty ≠ 200 := fun ty => by
    by_cases hty : ty = 200
    ·left
     subst hty
     rw [HE.out, show 65 - k = (Hx.hx gk :: L).length by simp; omega]
     refine run_convert_bytes_back _ _ _ 5 ⟨w.heap.size, k, none⟩ _ (Hx.hx gk :: L) Tryz.underlying200 Tryz.underlying5 Tryz.underlying9 ?_
     intro j hj
     rw [show (⟨w.heap.size, k, none⟩ : Addr).add j = ⟨w.heap.size, k + j, none⟩ from by unfold Addr.add; split <;> simp_all, hXS.cell, ← Array.getElem?_toList]
     have h2 := congrArg (fun l => l[j]?) hput
     simp only [List.getElem?_drop] at h2
     rw [h2]
     unfold Hx.cells
     rw [List.getElem?_map, List.getElem?_eq_getElem hj]; rfl
    ·exact .inr hty
   have hcv := (hconv 200).resolve_right (fun h => h rfl)
   have HCV := Lib.hid hcv
   clear hconv hcv hput hXS
   go_upto_region 30 with fail
   have hcv := HCV.out
   go_wp2_with fail
   go_ret2
   exact ⟨rfl, hB.setCell (p := ⟨w.heap.size, k, none⟩) (by simp) _⟩
theorem fmtUintI_16 (n : Nat) (hn : n < 18446744073709551616) (w : World) (h : Hx.DB w) : Calls Tryz.prog 173 #[.int .u64 n, .int .i64 16] w fun e w' => e = .returned (.string ⟨(Hx.digs n).toArray⟩) ∧ Below w.heap.size w w' := by
 have HF := Lib.hid (fmtBits_16 n hn w h)
 clear h hn
 go_enter Tryz.func173, Tryz.ntmps173
 go_wp2_with (go_at_call 209; (with_reducible refine HF.out.mono ?_); rintro e w3 ⟨rfl, hB3⟩)
 go_ret
 exact ⟨rfl, hB3⟩
theorem fmtUint_16 (n : Nat) (hn : n < 18446744073709551616) (w : World) (h : Hx.DB w) : Calls Tryz.prog 106 #[.int .u64 n, .int .i64 16] w fun e w' => e = .returned (.string ⟨(Hx.digs n).toArray⟩) ∧ Below w.heap.size w w' := by
 have HF := Lib.hid (fmtUintI_16 n hn w h)
 clear h hn
 go_enter Tryz.func106, Tryz.ntmps106
 go_wp2_with (go_at_call 173; (with_reducible refine HF.out.mono ?_); rintro e w3 ⟨rfl, hB3⟩)
 go_ret
 exact ⟨rfl, hB3⟩
namespace Hx
def step (h : Nat) (b : UInt8) : Nat := ((h ^^^ b.toNat) * 1099511628211) % 18446744073709551616
def fnv0 : Nat := 14695981039346656037
def fnv (l : List UInt8) : Nat := l.foldl step fnv0
theorem fnv0_lt : fnv0 < 18446744073709551616 := by decide
theorem step_lt (h : Nat) (b : UInt8) : step h b < 18446744073709551616 := Nat.mod_lt _ (by decide)
theorem fnv_lt (l : List UInt8) : fnv l < 18446744073709551616 := by
 unfold fnv
 cases hl : l.reverse with
 | nil => have : l = [] := List.reverse_eq_nil_iff.1 hl; subst this; exact fnv0_lt
 | cons b r =>
   have : l = r.reverse ++ [b] := by rw [← List.reverse_reverse l, hl]; simp
   rw [this, List.foldl_append, List.foldl_cons, List.foldl_nil]
   exact step_lt _ _
theorem fnv_next {l : List UInt8} {j : Nat} {b : UInt8} (h : l[j]? = some b) : fnv (l.take (j + 1)) = step (fnv (l.take j)) b := by
 unfold fnv
 rw [List.take_add_one, h, List.foldl_append, Option.toList_some, List.foldl_cons, List.foldl_nil]
theorem low_front : ∀ k n, low n (k + 1) = hx (n / 16 ^ k % 16) :: low n k
 | 0, n => by rw [low, low, low]; simp
 | k + 1, n => by
   rw [low, low_front k (n / 16), low, Nat.div_div_eq_div_mul, Nat.pow_succ, Nat.mul_comm]
   rfl
theorem div_next (n k : Nat) : n / 16 ^ k / 16 = n / 16 ^ (k + 1) := by rw [Nat.div_div_eq_div_mul, Nat.pow_succ]
def dig (l : List UInt8) : ByteArray := ⟨(low (fnv l) 16).toArray⟩
end Hx
end Go.Proofs.YthdiccdnggloiaaGreatDoor
namespace Go.Proofs.YthdiccdnggloiaaGreatDoor
open Go.Shelf
def Lay.repeatS_ren : Go.Shelf.Ren := ⟨fun | 105 => 107 | 212 => 174 | 99 => 175 | 165 => 176 | 166 => 177 | 170 => 178 | 169 => 179 | 263 => 210 | 264 => 211 | 206 => 212 | 240 => 213 | 241 => 214 | 276 => 228 | 277 => 229 | n => n, fun | 9 => 9 | 3 => 3 | 4 => 4 | 20 => 20 | 0 => 0 | 46 => 195 | 109 => 196 | 5 => 5 | 72 => 202 | 76 => 206 | 51 => 230 | 146 => 231 | 53 => 149 | 148 => 233 | 70 => 199 | 37 => 200 | 75 => 205 | 127 => 235 | 164 => 246 | 80 => 209 | n => n, fun | n => n⟩
theorem Lay.repeatS : Go.Proofs.Lays.n105 Tryz.prog Lay.repeatS_ren := {
 mixed := by kernel_rfl
 f99 := Tryz.func175.trans (congrArg some (by kernel_rfl))
 f105 := Tryz.func107.trans (congrArg some (by kernel_rfl))
 f165 := Tryz.func176.trans (congrArg some (by kernel_rfl))
 f166 := Tryz.func177.trans (congrArg some (by kernel_rfl))
 f169 := Tryz.func179.trans (congrArg some (by kernel_rfl))
 f170 := Tryz.func178.trans (congrArg some (by kernel_rfl))
 f206 := Tryz.func212.trans (congrArg some (by kernel_rfl))
 f212 := Tryz.func174.trans (congrArg some (by kernel_rfl))
 f240 := Tryz.func213.trans (congrArg some (by kernel_rfl))
 f241 := Tryz.func214.trans (congrArg some (by kernel_rfl))
 f263 := Tryz.func210.trans (congrArg some (by kernel_rfl))
 f264 := Tryz.func211.trans (congrArg some (by kernel_rfl))
 f276 := Tryz.func228.trans (congrArg some (by kernel_rfl))
 f277 := Tryz.func229.trans (congrArg some (by kernel_rfl))
 t0 := Tryz.underlying0
 a0 := Tryz.isAgg0
 z0 := Tryz.sizeOf0
 v0 := Tryz.zeroValue0
 t3 := Tryz.underlying3
 a3 := Tryz.isAgg3
 z3 := Tryz.sizeOf3
 v3 := Tryz.zeroValue3
 t4 := Tryz.underlying4
 a4 := Tryz.isAgg4
 z4 := Tryz.sizeOf4
 v4 := Tryz.zeroValue4
 t5 := Tryz.underlying5
 a5 := Tryz.isAgg5
 z5 := Tryz.sizeOf5
 v5 := Tryz.zeroValue5
 t9 := Tryz.underlying9
 a9 := Tryz.isAgg9
 z9 := Tryz.sizeOf9
 v9 := Tryz.zeroValue9
 t20 := Tryz.underlying20
 a20 := Tryz.isAgg20
 z20 := Tryz.sizeOf20
 v20 := Tryz.zeroValue20
 t37 := Tryz.underlying200
 a37 := Tryz.isAgg200
 z37 := Tryz.sizeOf200
 v37 := Tryz.zeroValue200
 t46 := Tryz.underlying195
 a46 := Tryz.isAgg195
 z46 := Tryz.sizeOf195
 v46 := Tryz.zeroValue195
 t51 := Tryz.underlying230
 a51 := Tryz.isAgg230
 z51 := Tryz.sizeOf230
 v51 := Tryz.zeroValue230
 t53 := Tryz.underlying149
 a53 := Tryz.isAgg149
 z53 := Tryz.sizeOf149
 v53 := Tryz.zeroValue149
 t70 := Tryz.underlying199
 a70 := Tryz.isAgg199
 z70 := Tryz.sizeOf199
 v70 := Tryz.zeroValue199
 t72 := Tryz.underlying202
 a72 := Tryz.isAgg202
 z72 := Tryz.sizeOf202
 v72 := Tryz.zeroValue202
 t75 := Tryz.underlying205
 a75 := Tryz.isAgg205
 z75 := Tryz.sizeOf205
 v75 := Tryz.zeroValue205
 t76 := Tryz.underlying206
 a76 := Tryz.isAgg206
 z76 := Tryz.sizeOf206
 v76 := Tryz.zeroValue206
 t109 := Tryz.underlying196
 a109 := Tryz.isAgg196
 z109 := Tryz.sizeOf196
 v109 := Tryz.zeroValue196
 t127 := Tryz.underlying235
 a127 := Tryz.isAgg235
 z127 := Tryz.sizeOf235
 v127 := Tryz.zeroValue235
 t146 := Tryz.underlying231
 a146 := Tryz.isAgg231
 z146 := Tryz.sizeOf231
 v146 := Tryz.zeroValue231
 t148 := Tryz.underlying233
 a148 := Tryz.isAgg233
 z148 := Tryz.sizeOf233
 v148 := Tryz.zeroValue233
 t164 := Tryz.underlying246
 a164 := Tryz.isAgg246
 z164 := Tryz.sizeOf246
 v164 := Tryz.zeroValue246 }
end Go.Proofs.YthdiccdnggloiaaGreatDoor
namespace Go.Proofs.YthdiccdnggloiaaGreatDoor
open Go.RowKit Go.Sort Go.Shelf
theorem Lay.extRep : Builder.Extra Tryz.prog Lay.repeatS_ren := {
 sizeBuilder := by kernel_rfl
 liesBuilder := by kernel_rfl
 t5 := Tryz.underlying5
 a5 := Tryz.isAgg5
 z5 := Tryz.sizeOf5
 v5 := Tryz.zeroValue5
 infoByte := by kernel_rfl
 cellsByte := by kernel_rfl
 sizeByte := by kernel_rfl
 neB5 := by decide }
theorem repL48 : ∀ c, Lib.repeatL [48] c = List.replicate c 48
 | 0 => rfl
 | c + 1 => by
   show [48] ++ Lib.repeatL [48] c = _
   rw [repL48 c]; rfl
theorem rep48 (c : Nat) (hc : c ≤ 16) (w : World) : Calls Tryz.prog 107 #[.string ⟨#[48]⟩, .int .i64 c] w fun e w' => e = .returned (.string ⟨(List.replicate c 48).toArray⟩) ∧ Below w.heap.size w w' := by
 have h := Any.strings_Repeat Lay.repeatS Lay.extRep ⟨#[48]⟩ c w (by omega) (by show 1 * c ≤ _; omega)
 have e : Lib.repeatL (ByteArray.mk #[48]).data.toList c = List.replicate c 48 := repL48 c
 rw [e] at h
 exact h
theorem digest_is (s : ByteArray) (hs : s.size ≤ 9223372036854775807) (w : World) (hd : Hx.DB w) : Calls Tryz.prog 30 #[.string s] w fun e w' => e = .returned (.string (Hx.dig s.data.toList)) ∧ Below w.heap.size w w' := by
 obtain ⟨n, hn⟩ : ∃ n, s.size = n := ⟨_, rfl⟩
 have HN := Lib.hid hn
 have HD := Lib.hid hd
 rw [hn] at hs
 clear hd
 go_enter Tryz.func30, Tryz.ntmps30
 go_wp2_with fail
 go_loopg [3, 8] n (fun gk u i wr => ∃ (j h : Nat), j ≤ n ∧ gk = n - j ∧ i = .int .i64 j ∧ u = .int .u64 h ∧ h = Hx.fnv (s.data.toList.take j) ∧ w = wr)
 case atStart => exact ⟨0, _, by omega, rfl, rfl, rfl, rfl, rfl⟩
 case round =>
  obtain ⟨j, h, hj, rfl, rfl, rfl, hh, rfl⟩ := hrel
  have h64 : h < 18446744073709551616 := by rw [hh]; exact Hx.fnv_lt _
  have HH := Lib.hid hh
  clear hh
  by_cases hlt : j < n
  ·obtain ⟨b, hb⟩ : ∃ b, s[j]'(by rw [HN.out]; exact hlt) = b := ⟨_, rfl⟩
   have hj0 : (0 : Int) ≤ (j : Int) := by omega
   have hj1 : (j : Int) < (n : Int) := by omega
   have hbw : IntKind.u64.wrap (b.toNat : Int) = (b.toNat : Int) := by have := b.toNat_lt; rw [IntKind.wrap_u64]; omega
   have hxr := bits_xor_u64_nat h b.toNat (by omega) (by have := b.toNat_lt; omega)
   have hmu : IntKind.u64.wrap (((h ^^^ b.toNat : Nat) : Int) * 1099511628211) = ((Hx.step h b : Nat) : Int) := by
    rw [IntKind.wrap_u64]
    unfold Hx.step
    omega
   have hjs : j < s.size := by rw [HN.out]; exact hlt
   have HB : Hid (s.data.toList[j]? = some b) := Lib.hid (by
    rw [← hb]
    show _ = some (s.data[j]'_)
    rw [Array.getElem?_toList, Array.getElem?_eq_getElem])
   go_wp2_with fail
   go_roundg (n - (j + 1))
   case rel => exact ⟨j + 1, Hx.step h b, by omega, rfl, by go_num, rfl, by rw [Hx.fnv_next HB.out, HH.out], rfl⟩
   case measure => omega
  ·obtain rfl : j = n := by omega
   have HFN : Hid (h = Hx.fnv s.data.toList) := Lib.hid (by
    rw [HH.out, List.take_of_length_le (by rw [Array.length_toList]; exact Nat.le_of_eq HN.out)])
   have HFM := Lib.hid (fmtUint_16 h h64 w HD.out)
   obtain ⟨hl16, hlow⟩ := Hx.digs_low 15 h (by simpa using h64)
   have HE : Hid ((⟨(List.replicate (16 - (Hx.digs h).length) 48).toArray⟩ : ByteArray) ++ ⟨(Hx.digs h).toArray⟩ = Hx.dig s.data.toList) := Lib.hid (by
    unfold Hx.dig
    rw [← HFN.out, ← hlow]
    apply ByteArray.ext
    rw [ByteArray.data_append]
    simp)
   obtain ⟨D, hD⟩ : ∃ D : ByteArray, (⟨(Hx.digs h).toArray⟩ : ByteArray) = D := ⟨_, rfl⟩
   have hDs : D.size = (Hx.digs h).length := by rw [← hD]; show (Hx.digs h).toArray.size = _; simp
   rw [hD] at HFM HE
   obtain ⟨l, hl⟩ : ∃ l, (Hx.digs h).length = l := ⟨_, rfl⟩
   rw [hl] at hDs HE hl16
   obtain ⟨c, hc⟩ : ∃ c, 16 - l = c := ⟨_, rfl⟩
   have hci : IntKind.i64.wrap (16 - (l : Int)) = (c : Int) := by rw [IntKind.wrap_i64]; omega
   rw [hc] at HE
   have HRP := Lib.hid (fun V => rep48 c (by omega) V)
   have hadd : ∀ V, (Op.stringOp .add (⟨(List.replicate c 48).toArray⟩ : ByteArray) D).run Tryz.prog V = .ok (.string ((⟨(List.replicate c 48).toArray⟩ : ByteArray) ++ D)) V := fun V => run_string_add_sum V _ _ (by
    have h1 : (⟨(List.replicate c 48).toArray⟩ : ByteArray).size = c := by show (List.replicate c 48).toArray.size = c; simp
    rw [h1]; omega)
   generalize (⟨(List.replicate c 48).toArray⟩ : ByteArray) = R at *
   clear hD hl hlow
   go_wp2_with (first
    | (go_at_call 106; (with_reducible refine HFM.out.mono ?_); rintro e w3 ⟨rfl, hB3⟩)
    | (go_at_call 107; (with_reducible refine (HRP.out _).mono ?_); rintro e w4 ⟨rfl, hB4⟩))
   go_ret
   exact ⟨by rw [HE.out]; rfl, below_up hB3 hB4⟩
theorem hxExt0 : ∀ d : Fin 16, (ByteArray.mk #[48, 49, 50, 51, 52, 53, 54, 55, 56, 57, 97, 98, 99, 100, 101, 102]).extract d.val (d.val + 1) = ⟨#[Hx.hx d.val]⟩ := by decide
theorem hxExt (d : Nat) (h : d < 16) : (ByteArray.mk #[48, 49, 50, 51, 52, 53, 54, 55, 56, 57, 97, 98, 99, 100, 101, 102]).extract d (d + 1) = ⟨#[Hx.hx d]⟩ := hxExt0 ⟨d, h⟩
theorem digestOf_is (s : ByteArray) (hs : s.size ≤ 9223372036854775807) (w : World) : Calls Tryz.prog 31 #[.string s] w fun e w' => e = .returned (.string (Hx.dig s.data.toList)) ∧ Below w.heap.size w w' := by
 obtain ⟨n, hn⟩ : ∃ n, s.size = n := ⟨_, rfl⟩
 have HN := Lib.hid hn
 rw [hn] at hs
 go_enter Tryz.func31, Tryz.ntmps31
 go_wp2_with fail
 go_loopg [3, 8] n (fun gk u i wr => ∃ (j h : Nat), j ≤ n ∧ gk = n - j ∧ i = .int .i64 j ∧ u = .int .u64 h ∧ h = Hx.fnv (s.data.toList.take j) ∧ w = wr)
 case atStart => exact ⟨0, _, by omega, rfl, rfl, rfl, rfl, rfl⟩
 case round =>
  obtain ⟨j, h, hj, rfl, rfl, rfl, hh, rfl⟩ := hrel
  have h64 : h < 18446744073709551616 := by rw [hh]; exact Hx.fnv_lt _
  have HH := Lib.hid hh
  clear hh
  by_cases hlt : j < n
  ·obtain ⟨b, hb⟩ : ∃ b, s[j]'(by rw [HN.out]; exact hlt) = b := ⟨_, rfl⟩
   have hj0 : (0 : Int) ≤ (j : Int) := by omega
   have hj1 : (j : Int) < (n : Int) := by omega
   have hbw : IntKind.u64.wrap (b.toNat : Int) = (b.toNat : Int) := by have := b.toNat_lt; rw [IntKind.wrap_u64]; omega
   have hxr := bits_xor_u64_nat h b.toNat (by omega) (by have := b.toNat_lt; omega)
   have hmu : IntKind.u64.wrap (((h ^^^ b.toNat : Nat) : Int) * 1099511628211) = ((Hx.step h b : Nat) : Int) := by
    rw [IntKind.wrap_u64]
    unfold Hx.step
    omega
   have hjs : j < s.size := by rw [HN.out]; exact hlt
   have HB : Hid (s.data.toList[j]? = some b) := Lib.hid (by
    rw [← hb]
    show _ = some (s.data[j]'_)
    rw [Array.getElem?_toList, Array.getElem?_eq_getElem])
   go_wp2_with fail
   go_roundg (n - (j + 1))
   case rel => exact ⟨j + 1, Hx.step h b, by omega, rfl, by go_num, rfl, by rw [Hx.fnv_next HB.out, HH.out], rfl⟩
   case measure => omega
  ·obtain rfl : j = n := by omega
   have HFN : Hid (h = Hx.fnv s.data.toList) := Lib.hid (by
    rw [HH.out, List.take_of_length_le (by rw [Array.length_toList]; exact Nat.le_of_eq HN.out)])
   go_wp2_with fail
   go_loopg [3, 5, 19] 16 (fun gk u str i wr => ∃ (k q : Nat) (S : ByteArray), k ≤ 16 ∧ gk = 16 - k ∧ i = .int .i64 k ∧ u = .int .u64 q ∧ str = .string S ∧ q = h / 16 ^ k ∧ S = ⟨(Hx.low h k).toArray⟩ ∧ w = wr)
   case atStart => exact ⟨0, h, _, by omega, rfl, rfl, rfl, rfl, by simp, rfl, rfl⟩
   case round =>
    obtain ⟨k, q, S, hk, rfl, rfl, rfl, rfl, hq, hS, rfl⟩ := hrel
    have HQ := Lib.hid hq; have HS := Lib.hid hS
    have hSs : S.size = k := by rw [hS]; show (Hx.low h k).toArray.size = k; rw [List.size_toArray, Hx.low_len]
    have hq64 : q < 18446744073709551616 := by rw [hq]; exact Nat.lt_of_le_of_lt (Nat.div_le_self _ _) h64
    clear hq hS
    by_cases hlt2 : k < 16
    ·obtain ⟨d, hd⟩ : ∃ d, q % 16 = d := ⟨_, rfl⟩
     obtain ⟨q', hq'⟩ : ∃ q', q / 16 = q' := ⟨_, rfl⟩
     have hdi : (q : Int) % 16 = (d : Int) := by omega
     have hqi : (q : Int) / 16 = (q' : Int) := by omega
     have hd16 : d < 16 := by omega
     have HDQ := Lib.hid (And.intro hd hq')
     have hk0 : (0 : Int) ≤ (k : Int) := by omega
     have hk1 : (k : Int) < 16 := by omega
     clear hd hq'
     go_upto_region 11 with fail
     go_wp2_with fail
     go_roundg (16 - (k + 1))
     case rel =>
      refine ⟨k + 1, q', _, by omega, rfl, by go_num, by go_num, rfl, ?_, ?_, rfl⟩
      ·rw [← Hx.div_next, ← HQ.out]; exact HDQ.out.2.symm
      ·rw [hxExt d hd16, HS.out, Hx.low_front, ← HQ.out, HDQ.out.1]
       apply ByteArray.ext
       rw [ByteArray.data_append]
       simp
     case measure => omega
    ·obtain rfl : k = 16 := by omega
     go_wp2_with fail
     go_ret
     exact ⟨by rw [HS.out, HFN.out]; rfl, Below.refl _ _⟩
end Go.Proofs.YthdiccdnggloiaaGreatDoor
namespace Go.Proofs.YthdiccdnggloiaaGreatDoor
open Go.RowKit Go.Sort Go.Shelf Go.Maps




theorem guardTir : Tryz.prog.eqGuardType Tryz.prog.depth 46 = false := by kernel_rfl
theorem guardFil : Tryz.prog.eqGuardType Tryz.prog.depth 30 = false := by kernel_rfl
theorem guardGon : Tryz.prog.eqGuardType Tryz.prog.depth 112 = false := by kernel_rfl
theorem eqC_same (O : List Cop) (a b : Option Addr) (ca cb : Nat) (w : World) (hx : RowE St.eC w a O) (hy : RowE St.eC w b O) (hn : O.length ≤ 9223372036854775807) :
  Calls Tryz.prog 42 #[.slice a O.length ca, .slice b O.length cb] w fun e w' => e = .returned (.bool true) ∧ Below w.heap.size w w' := by
 have HX := Lib.hid hx; have HY := Lib.hid hy
 obtain ⟨n, hnn⟩ : ∃ n, O.length = n := ⟨_, rfl⟩
 have HN := Lib.hid hnn
 rw [hnn] at hn ⊢
 have hl' : ((n : Int) == (n : Int)) = true := by simp
 clear hx hy hnn
 go_enter Tryz.func42, Tryz.ntmps42
 go_wp2_with fail
 go_loopg [13] n (fun gk i wr => ∃ j : Nat, j ≤ n ∧ gk = n - j ∧ i = .int .i64 j ∧ Below w.heap.size w wr)
 case atStart => exact ⟨0, by omega, rfl, rfl, Below.refl _ _⟩
 case round =>
  obtain ⟨j, hj, rfl, rfl, hB⟩ := hrel
  by_cases hlt : j < n
  ·obtain ⟨x, hq⟩ : ∃ x, O[j]? = some x := ⟨_, List.getElem?_eq_getElem (by rw [HN.out]; exact hlt)⟩
   obtain ⟨b1, o1, ha1, hb1, hc1⟩ := HX.out.keep hB (by rw [HN.out]; omega)
   obtain ⟨b2, o2, ha2, hb2, hc2⟩ := HY.out.keep hB (by rw [HN.out]; omega)
   have c0 : wr.cell? ⟨b1, o1 + j * 4, none⟩ = some (.string x.dig) := hc1 j x hq 0 (.string x.dig) rfl
   have c1 : wr.cell? ⟨b1, o1 + j * 4 + 1, none⟩ = some (.string x.tier) := hc1 j x hq 1 (.string x.tier) rfl
   have c2 : wr.cell? ⟨b1, o1 + j * 4 + 2, none⟩ = some (.bool x.good) := hc1 j x hq 2 (.bool x.good) rfl
   have c3 : wr.cell? ⟨b1, o1 + j * 4 + 3, none⟩ = some (.int .i64 x.asked) := hc1 j x hq 3 (.int .i64 x.asked) rfl
   have d0 : wr.cell? ⟨b2, o2 + j * 4, none⟩ = some (.string x.dig) := hc2 j x hq 0 (.string x.dig) rfl
   have d1 : wr.cell? ⟨b2, o2 + j * 4 + 1, none⟩ = some (.string x.tier) := hc2 j x hq 1 (.string x.tier) rfl
   have d2 : wr.cell? ⟨b2, o2 + j * 4 + 2, none⟩ = some (.bool x.good) := hc2 j x hq 2 (.bool x.good) rfl
   have d3 : wr.cell? ⟨b2, o2 + j * 4 + 3, none⟩ = some (.int .i64 x.asked) := hc2 j x hq 3 (.int .i64 x.asked) rfl
   have hj0 : (0 : Int) ≤ (j : Int) := by omega
   have hj1 : (j : Int) < (n : Int) := by omega
   have hne := neCop x.dig x.tier x.good x.asked
   have hgd := guardCop
   clear hc1 hc2 hq
   rw [ha1, ha2]
   go_wp2_with fail
   go_quiet (fail)
   go_wp2_with fail
   rw [← ha1, ← ha2]
   go_roundg (n - (j + 1))
   case rel => exact ⟨j + 1, by omega, rfl, by go_num, below_drewN hB _⟩
   case measure => omega
  ·obtain rfl : j = n := by omega
   have hjn : ¬ ((j : Int) < (j : Int)) := by omega
   go_wp2_with fail
   go_ret
   exact ⟨rfl, hB⟩
theorem eqS_same (O : List ByteArray) (a b : Option Addr) (ca cb : Nat) (w : World) (hx : RowE St.eS w a O) (hy : RowE St.eS w b O) (hn : O.length ≤ 9223372036854775807) :
  Calls Tryz.prog 37 #[.slice a O.length ca, .slice b O.length cb] w fun e w' => e = .returned (.bool true) ∧ Below w.heap.size w w' := by
 have HX := Lib.hid hx; have HY := Lib.hid hy
 obtain ⟨n, hnn⟩ : ∃ n, O.length = n := ⟨_, rfl⟩
 have HN := Lib.hid hnn
 rw [hnn] at hn ⊢
 have hl' : ((n : Int) == (n : Int)) = true := by simp
 clear hx hy hnn
 go_enter Tryz.func37, Tryz.ntmps37
 go_wp2_with fail
 go_loopg [13] n (fun gk i wr => ∃ j : Nat, j ≤ n ∧ gk = n - j ∧ i = .int .i64 j ∧ Below w.heap.size w wr)
 case atStart => exact ⟨0, by omega, rfl, rfl, Below.refl _ _⟩
 case round =>
  obtain ⟨j, hj, rfl, rfl, hB⟩ := hrel
  by_cases hlt : j < n
  ·obtain ⟨x, hq⟩ : ∃ x, O[j]? = some x := ⟨_, List.getElem?_eq_getElem (by rw [HN.out]; exact hlt)⟩
   obtain ⟨b1, o1, ha1, hb1, hc1⟩ := HX.out.keep hB (by rw [HN.out]; omega)
   obtain ⟨b2, o2, ha2, hb2, hc2⟩ := HY.out.keep hB (by rw [HN.out]; omega)
   have c0 : wr.cell? ⟨b1, o1 + j, none⟩ = some (.string x) := by have := hc1 j x hq 0 (.string x) rfl; rw [show o1 + j * St.eS.k + 0 = o1 + j by simp [St.eS]] at this; exact this
   have d0 : wr.cell? ⟨b2, o2 + j, none⟩ = some (.string x) := by have := hc2 j x hq 0 (.string x) rfl; rw [show o2 + j * St.eS.k + 0 = o2 + j by simp [St.eS]] at this; exact this
   have hj0 : (0 : Int) ≤ (j : Int) := by omega
   have hj1 : (j : Int) < (n : Int) := by omega
   clear hc1 hc2 hq
   rw [ha1, ha2]
   go_wp2_with fail
   go_quiet (fail)
   go_wp2_with fail
   rw [← ha1, ← ha2]
   go_roundg (n - (j + 1))
   case rel => exact ⟨j + 1, by omega, rfl, by go_num, below_drewN hB _⟩
   case measure => omega
  ·obtain rfl : j = n := by omega
   have hjn : ¬ ((j : Int) < (j : Int)) := by omega
   go_wp2_with fail
   go_ret
   exact ⟨rfl, hB⟩
end Go.Proofs.YthdiccdnggloiaaGreatDoor
