/- Parts of the proof, no condition: Kit, HexMath, Own, Stb, StHx, StDgM, RepLays, StRow, StSet, StHeld, DigMath, StFetM, StCln. -/
import Derived.Test.YthdiccdnggloiaaGreatDoorEv16
import Derived.Test.YthdiccdnggloiaaGreatDoorEv17
import Derived.Test.YthdiccdnggloiaaGreatDoorProg
import Derived.WalkKit
import Derived.WalkSpells
import Derived.WalkLawsBesides
import Derived.Deep.QuietTactic
import Derived.BigQuiet
import Derived.Lib.Hide
import Derived.Lib.QuietBelow
import Derived.Deep.LoopGhost
import Derived.Deep.OwnRows
import Derived.Outline
import Derived.Maps.AppendAt
import Derived.OwnWalk
import Derived.Laws.IdiomCopy
import Derived.Lib.AppendZeros
import Derived.Deep.RegionLaw
import Derived.ArgAppend
import Derived.Deep.MidRow
import Derived.BigRegion
import Derived.Maps.RangeWalk
import Derived.Deep.Cut
import Derived.Lib.LaidTab
import Derived.LaidMore
import Derived.Stop.LaidErr
import Derived.Laws.Bits64b
import Derived.Lib.TrailingZeros
import Derived.Lib.SmallJoins
import Derived.Shelf.Strings.Repeat
import Derived.Lib.Atoi
import Derived.Lib.SlTrimSet
import Derived.Deep.DeepCutAuto
import Derived.Shelf.Abstract
import Derived.Deep.AppendLies
import Derived.Laws.Tables
import Derived.Laws.Rows
import Derived.Laws.CopyOwn
set_option maxRecDepth 100000
set_option maxHeartbeats 4000000
set_option linter.unusedSimpArgs false
set_option linter.unusedVariables false
namespace Go.Proofs.YthdiccdnggloiaaGreatDoor
open Go.RowKit Go.Sort
namespace Blk
variable {w w' : World} {b : Nat} {c : Array Value} {t : TypeId}
theorem setOther (h : Blk w b c t) {a : Addr} (ha : b ≠ a.block) (v : Value) : Blk (w.setCell a v) b c t := h.of_block (Below.heap_setCell w a v b ha)
end Blk
end Go.Proofs.YthdiccdnggloiaaGreatDoor
namespace Go.Proofs.YthdiccdnggloiaaGreatDoor
open Go.RowKit
namespace Hx
def hx (n : Nat) : UInt8 := if n < 10 then UInt8.ofNat (48 + n) else UInt8.ofNat (87 + n)
def digs (n : Nat) : List UInt8 := if h : n < 16 then [hx n] else digs (n / 16) ++ [hx (n % 16)]
def low : Nat → Nat → List UInt8
 | _, 0 => []
 | n, k + 1 => low (n / 16) k ++ [hx (n % 16)]
theorem digs_small {n : Nat} (h : n < 16) : digs n = [hx n] := by rw [digs, dif_pos h]
theorem digs_big {n : Nat} (h : 16 ≤ n) : digs n = digs (n / 16) ++ [hx (n % 16)] := by rw [digs, dif_neg (by omega)]
theorem low_zero : ∀ k, low 0 k = List.replicate k 48
 | 0 => rfl
 | k + 1 => by
   rw [low, Nat.zero_div, low_zero k]
   show List.replicate k 48 ++ [hx 0] = _
   rw [List.replicate_succ']; rfl
theorem digs_pos (n : Nat) : 1 ≤ (digs n).length := by
 rw [digs]; split <;> simp
theorem digs_low : ∀ k n, n < 16 ^ (k + 1) → (digs n).length ≤ k + 1 ∧ List.replicate (k + 1 - (digs n).length) 48 ++ digs n = low n (k + 1)
 | 0, n, h => by
   have h16 : n < 16 := by simpa using h
   rw [digs_small h16]
   refine ⟨by simp, ?_⟩
   rw [low, low]
   simp [Nat.mod_eq_of_lt h16]
 | k + 1, n, h => by
   by_cases h16 : n < 16
   ·rw [digs_small h16]
    refine ⟨by simp, ?_⟩
    rw [low, show n / 16 = 0 by omega, low_zero, Nat.mod_eq_of_lt h16]
    simp
   ·have hd : n / 16 < 16 ^ (k + 1) := by rw [Nat.pow_succ] at h; omega
    obtain ⟨h1, h2⟩ := digs_low k (n / 16) hd
    rw [digs_big (by omega)]
    refine ⟨by rw [List.length_append]; simp; omega, ?_⟩
    rw [low, ← h2, List.length_append, ← List.append_assoc]
    congr 2
    simp
end Hx
theorem Blk.beside {w w' : World} {b : Nat} {c : Array Value} {t : TypeId} {old : Option Nat} (h : Blk w b c t) (hg : w.grownBy w' old) (hne : old ≠ some b) : Blk w' b c t :=
 h.grown hg (fun e => hne e.symm)
theorem step_append_run {P : Program} {ops : Array Oper} {o : Oper} {a : Act} {w : World} {K : Act → World → Prop} {Q : Exit → Act → World → Prop} {E : Prop}
  (hg : o.guard = none) (s x : Operand) (t tn : TypeId) (hop : o.op = Op.call { callee := Callee.builtin Builtin.append, args := #[s, x], argTypes := #[t, tn] })
  (v u : Value) (hs : a.eval s = v) (hx : a.eval x = u) {v' : Value} {w' : World} (hr : (Builtin.append_ #[t, tn] o.type #[v, u]).run P w = .ok v' w') (hK : K (a.put o.dst v') w') :
  if Region.wanted o (yielded ops a.tmps) = true then Oper.wp P o a w K Q else E := by
 have hw : Region.wanted o (yielded ops a.tmps) = true := by simp [Region.wanted, hg]
 rw [if_pos hw]
 exact Lib.wp_append_run w s x t tn hop v u hs hx v' w' hr hK
theorem wp_clear_run {P : Program} (w : World) {o : Oper} {a : Act} {K : Act → World → Prop} {Q : Exit → Act → World → Prop} (x : Operand) (t : TypeId)
  (ho : o.op = .call { callee := .builtin .clear, args := #[x], argTypes := #[t] }) (v : Value) (hx : a.eval x = v) {v' : Value} {w' : World}
  (hr : (Builtin.clear_ #[t] o.type #[v]).run P w = .ok v' w') (h : K (a.put o.dst v') w') : o.wp P a w K Q := by
 unfold Oper.wp execOp
 simp only [ho, resolve, invoke, builtin, Sem.run_bind, Sem.run_pure, Result.andThen_ok, List.map_toArray, List.map_cons, List.map_nil, hx, hr]
 exact h
theorem wpList_clear_run {P : Program} (w : World) {ops : Array Oper} {rest : List Oper} {o : Oper} {a : Act} {Q : Exit → Act → World → Prop} (hgd : o.guard = none) (x : Operand) (t : TypeId)
  (ho : o.op = .call { callee := .builtin .clear, args := #[x], argTypes := #[t] }) (v : Value) (hx : a.eval x = v) {v' : Value} {w' : World}
  (hr : (Builtin.clear_ #[t] o.type #[v]).run P w = .ok v' w') (h : wpList P ops Q rest (a.put o.dst v') w') : wpList P ops Q (o :: rest) a w :=
 wpList_plain hgd fun _ hK => wp_clear_run w x t ho v hx hr (hK _ _ h)
section
variable {w : World} {B k g n cap : Nat} {e : TypeId} {xs : List Value}
theorem own_less (h : OwnC w B e k g n cap xs) {m : Nat} (hm : m ≤ n) : OwnC w B e k g m cap (xs.take (m * k)) := by
 obtain ⟨cur, hB, hc, hn, hx, hs, ht, hl⟩ := h
 refine own_make hB hc (by omega) hx hs ?_
 rw [← ht, List.take_take, Nat.min_eq_left (Nat.mul_le_mul_right k hm)]
theorem own_clear {P : Program} (h : OwnC w B e k g n cap xs) (t : TypeId) (ht : P.underlying t = some (.slice e)) (z : Value) (hz : ∀ w, (zeroValue e).run P w = .ok z w) (hzs : z.cells.size = k) (h1 : ∀ v ∈ z.cells.toList, v.oneCell' = true)
  (p m : Nat) (hm : 0 < m) (hp : p + m * k = n * k) :
  ∃ w', (∀ ty c, (Builtin.clear_ #[t] ty #[.slice (some ⟨g, p, none⟩) m c]).run P w = .ok (.tuple #[]) w') ∧ (∃ zs, OwnC w' B e k g n cap (xs.take p ++ zs)) ∧ w.grownBy w' (some g) := by
 have hzl : (Builtin.zeroCells z.cells m).toList.length = m * k := by rw [← hzs]; simp [Builtin.zeroCells]
 have hz1 : ∀ v ∈ (Builtin.zeroCells z.cells m).toList, v.oneCell' = true := by
  intro v hv
  refine h1 v ?_
  simp [Builtin.zeroCells] at hv
  obtain ⟨i, hi, rfl⟩ := hv
  have hp : 0 < z.cells.size := by
   rcases Nat.eq_zero_or_pos z.cells.size with h0 | h0
   ·rw [h0] at hi; simp at hi
   ·exact h0
  have hlt : i % z.cells.size < z.cells.size := Nat.mod_lt _ hp
  rw [getElem!_pos z.cells _ hlt]
  simp
 obtain ⟨cur, hc, hl, ho, hg⟩ := own_setRow h p (Builtin.zeroCells z.cells m).toList (by rw [hzl]; omega)
 refine ⟨_, fun ty c => ?_, ⟨(Builtin.zeroCells z.cells m).toList ++ xs.drop (p + (Builtin.zeroCells z.cells m).toList.length), by rw [← List.append_assoc]; exact ho⟩, hg⟩
 have hst := run_storeCells_at (P := P) g p e (Builtin.zeroCells z.cells m).toList 0 cur w hc (by omega) hz1
 rw [Nat.add_zero] at hst
 obtain ⟨m', rfl⟩ : ∃ m', m = m' + 1 := ⟨m - 1, by omega⟩
 simp [Builtin.clear_, run_underlying ht, hz, hst]
end
namespace Enc
variable {α : Type} (E : Enc α)
end Enc
end Go.Proofs.YthdiccdnggloiaaGreatDoor
namespace Go.Proofs.YthdiccdnggloiaaGreatDoor
namespace Stb
variable {α : Type} (lt : α → α → Prop) (neg : α → α → Bool)
variable {lt neg}
end Stb
end Go.Proofs.YthdiccdnggloiaaGreatDoor
namespace Go.Proofs.YthdiccdnggloiaaGreatDoor
open Go.RowKit
namespace SRow
variable {α : Type} {E : Enc α} {w w' : World} {B g cap n : Nat} {e : TypeId} {L : List α}
end SRow
namespace SRow
variable {α : Type} {E : Enc α} {w w' : World} {B g cap n : Nat} {e : TypeId} {L : List α}
end SRow
end Go.Proofs.YthdiccdnggloiaaGreatDoor
namespace Go.Proofs.YthdiccdnggloiaaGreatDoor
namespace Stb
variable {α : Type}
variable {lt : α → α → Prop} {neg : α → α → Bool}
end Stb
end Go.Proofs.YthdiccdnggloiaaGreatDoor
namespace Go.Proofs.YthdiccdnggloiaaGreatDoor
open Go.RowKit Go.Sort
section
variable {P : Program} {ops : Array Oper} {Q : Exit → Act → World → Prop} {md : Region.Mode} {C : World → Prop} {m : Nat}
variable {f : Nat} {l : Array Bool} {a : Act} {w : World} {oi : Oper}
end





namespace Stb
variable {α : Type} {lt : α → α → Prop} {neg : α → α → Bool}
end Stb

end Go.Proofs.YthdiccdnggloiaaGreatDoor
namespace Go.Proofs.YthdiccdnggloiaaGreatDoor
open Go.RowKit
namespace Hx
def tab : List Int := Lib.deBruijn64tab.map fun n : Nat => (n : Int)
abbrev DB (w : World) : Prop := Lib.TabIs Tryz.prog w "math/bits.deBruijn64tab" .u8 tab
theorem db_global : Tryz.prog.globalNamed "math/bits.deBruijn64tab" = some 3 := by kernel_rfl
theorem db_below {w w' : World} (h : DB w) (hb : Below w.heap.size w w') : DB w' := Go.Joins.tab_stays db_global h hb (Nat.le_refl _)
theorem db_of_laid {W : World} {x : String × DataW Unit} {rest : List (String × DataW Unit)} (h : laidMet Tryz.prog (x :: ("math/bits.deBruijn64tab", Lib.tabData .u8 tab) :: rest) W) : DB W :=
 Lib.tabIs_of_head (t := 264) (e := 5) (n := 64) db_global (by kernel_rfl) (by kernel_rfl) (by kernel_rfl) (by kernel_rfl) (by kernel_rfl) h.tail
end Hx
theorem tz64_16 (w : World) (h : Hx.DB w) : Calls Tryz.prog 241 #[.int .u64 16] w fun e w' => e = .returned (.int .i64 4) ∧ w' = w := by
 have hc := h.cell Hx.db_global 15 (by decide)
 rw [show Hx.tab.getD 15 0 = 4 from by decide] at hc
 have key : IntKind.u64.wrap (bits BinOp.and IntKind.u64 (16 : Int) (IntKind.u64.wrap (-16)) * 285870213051353865) / 288230376151711744 = 15 := by decide +kernel
 go_enter Tryz.func241, Tryz.ntmps241
 go_wp2_with (simp only [key])
 go_ret
 exact ⟨rfl, rfl⟩
theorem tz_16 (w : World) (h : Hx.DB w) : Calls Tryz.prog 227 #[.int .u64 16] w fun e w' => e = .returned (.int .i64 4) ∧ w' = w := by
 have HT := Lib.hid (tz64_16 w h)
 clear h
 go_enter Tryz.func227, Tryz.ntmps227
 go_wp2_with (go_at_call 241; (with_reducible refine HT.out.mono ?_); rintro e w' ⟨rfl, rfl⟩)
 go_ret
 exact ⟨rfl, rfl⟩
theorem pow2_16 (w : World) : Calls Tryz.prog 226 #[.int .i64 16] w fun e w' => e = .returned (.bool true) ∧ w' = w := by
 have key : bits BinOp.and IntKind.i64 (16 : Int) 15 = 0 := by decide +kernel
 go_enter Tryz.func226, Tryz.ntmps226
 go_wp2_with (simp only [key])
 go_ret
 exact ⟨rfl, rfl⟩
theorem hx36 : ∀ d : Fin 16, ((ByteArray.mk #[48, 49, 50, 51, 52, 53, 54, 55, 56, 57, 97, 98, 99, 100, 101, 102, 103, 104, 105, 106, 107, 108, 109, 110, 111, 112, 113, 114, 115, 116, 117, 118, 119, 120, 121, 122]).data[d.val]'(by have := d.isLt; simp; omega)).toNat = (Hx.hx d.val).toNat := by decide
theorem hx36At (d : Nat) (h : d < 16) (hs : d < (ByteArray.mk #[48, 49, 50, 51, 52, 53, 54, 55, 56, 57, 97, 98, 99, 100, 101, 102, 103, 104, 105, 106, 107, 108, 109, 110, 111, 112, 113, 114, 115, 116, 117, 118, 119, 120, 121, 122]).size) : ((ByteArray.mk #[48, 49, 50, 51, 52, 53, 54, 55, 56, 57, 97, 98, 99, 100, 101, 102, 103, 104, 105, 106, 107, 108, 109, 110, 111, 112, 113, 114, 115, 116, 117, 118, 119, 120, 121, 122])[d]'hs).toNat = (Hx.hx d).toNat := hx36 ⟨d, h⟩
theorem and15U (m : Nat) (h : m < 18446744073709551616) : bits .and .u64 (m : Int) 15 = ((m % 16 : Nat) : Int) := by
 have := bits_and_u64_nat m 15 h (by decide)
 rw [show ((15 : Nat) : Int) = 15 from rfl] at this
 rw [this]
 congr 1
 exact Nat.and_two_pow_sub_one_eq_mod m 4
def Hx.cells (L : List UInt8) : List Value := L.map fun x => Value.int .u8 (x.toNat : Int)
theorem Hx.put {cur : Array Value} {k : Nat} {L : List UInt8} {x : UInt8} (hk : k + 1 + L.length = 65) (hs : cur.size = 65) (hd : cur.toList.drop (k + 1) = Hx.cells L) : (cur.setIfInBounds k (.int .u8 (x.toNat : Int))).toList.drop k = Hx.cells (x :: L) := by
 rw [Array.toList_setIfInBounds]
 have hkl : k < cur.toList.length := by rw [Array.length_toList]; omega
 rw [List.drop_eq_getElem_cons (by rw [List.length_set]; exact hkl), List.getElem_set_self, List.drop_set_of_lt (by omega), hd]
 rfl
theorem fmtBits_16 (n : Nat) (hn : n < 18446744073709551616) (w : World) (h : Hx.DB w) : Calls Tryz.prog 209 #[.slice none 0 0, .int .u64 n, .int .i64 16, .bool false, .bool false] w fun e w' => e = .returned (.tuple #[.slice none 0 0, .string ⟨(Hx.digs n).toArray⟩]) ∧ Below w.heap.size w w' := by
 have HP := Lib.hid (fun V => pow2_16 V)
 have HT := Lib.hid (fun V (hb : Below w.heap.size w V) => tz_16 V (Hx.db_below h hb))
 have hd16 := (Hx.digs_low 15 n (by simpa using hn)).1
 have HDL := Lib.hid hd16
 have HN := Lib.hid hn
 obtain ⟨W1, hW1, hX1, hz1, hB1⟩ := box w Tryz.zeroCells244 244
 have HW1 := Lib.hid hW1
 have HX1 := Lib.hid hX1; have HB1 := Lib.hid hB1
 clear h hn hd16 hW1 hX1 hz1 hB1
 go_enter Tryz.func209, Tryz.ntmps209
 go_upto_region 4 with fail
 rw [HW1.out]
 go_wp2_with (first
  | (go_at_call 226; (with_reducible refine (HP.out _).mono ?_); rintro e w3 ⟨rfl, rfl⟩)
  | (go_at_call 227; (with_reducible refine (HT.out _ HB1.out).mono ?_); rintro e w4 ⟨rfl, rfl⟩))
 go_loopg [1, 13] n (fun gk u i wr => ∃ (m k : Nat) (L : List UInt8) (cur : Array Value), gk = m ∧ u = .int .u64 m ∧ i = .int .i64 k ∧ m ≤ n ∧ Hx.digs n = Hx.digs m ++ L ∧ k + L.length = 65 ∧ Blk wr w.heap.size cur 244 ∧ cur.size = 65 ∧ cur.toList.drop k = Hx.cells L ∧ Below w.heap.size w wr)
 case atStart => exact ⟨n, 65, [], _, rfl, rfl, rfl, Nat.le_refl _, by simp, rfl, HX1.out, by kernel_rfl, by rfl, HB1.out⟩
 case round =>
  obtain ⟨m, k, L, cur, rfl, rfl, rfl, hmn, hdg, hk, hX, hsz, hdr, hB⟩ := hrel
  have HDG := Lib.hid hdg; have HX := Lib.hid hX; have HDR := Lib.hid hdr
  have hdl := HDL.out
  rw [hdg, List.length_append] at hdl
  have hdp := Hx.digs_pos gk
  have hn := HN.out
  have hm64 : gk < 18446744073709551616 := by omega
  have hL : L.length ≤ 15 := by omega
  clear hdg hdr hdl hdp hn
  by_cases hge : 16 ≤ gk
  ·have hgd : decide ((16 : Int) ≤ (gk : Int)) = true := decide_eq_true (by omega)
   have hgt : ((16 : Int) ≤ (gk : Int)) = True := eq_true (by omega)
   obtain ⟨d, hd⟩ : ∃ d, gk % 16 = d := ⟨_, rfl⟩
   obtain ⟨q, hq⟩ : ∃ q, gk / 16 = q := ⟨_, rfl⟩
   have hand := and15U gk hm64
   have hshr : (gk : Int) / 16 = (q : Int) := by omega
   rw [hd] at hand
   have HDQ := Lib.hid (And.intro hd hq)
   obtain ⟨k, rfl⟩ : ∃ k', k = k' + 1 := ⟨k - 1, by omega⟩
   have hkw : ((k + 1 : Nat) : Int) = (k : Int) + 1 := by omega
   have hki : IntKind.i64.wrap ((k : Int) + 1 - 1) = (k : Int) := by rw [IntKind.wrap_i64]; omega
   have hk0 : (0 : Int) ≤ (k : Int) := by omega
   have hk1 : (k : Int) < 65 := by omega
   have hce : wr.cell? ⟨w.heap.size, k, none⟩ = some (cur[k]'(by omega)) := by rw [hX.cell, Array.getElem?_eq_getElem]
   have hfz := frozen_of hX k
   have hidx := hx36At (d) (by omega)
   have hd0 : (0 : Int) ≤ ((d : Nat) : Int) := by omega
   have hd1 : ((d : Nat) : Int) < 36 := by omega
   rw [hkw]
   clear hd hq
   go_wp2_with fail
   go_roundg q
   case rel =>
    have hq := HDQ.out.2
    have hd := HDQ.out.1
    refine ⟨q, k, Hx.hx d :: L, _, rfl, rfl, rfl, by omega, ?_, by simp; omega, HX.out.set k _, by simpa using hsz, Hx.put hk hsz HDR.out, hB.setCell (p := ⟨w.heap.size, k, none⟩) (by simp) _⟩
    rw [HDG.out, Hx.digs_big hge, hd, hq, List.append_assoc]; rfl
   case measure => have := HDQ.out.2; omega
  ·have hgd : decide ((16 : Int) ≤ (gk : Int)) = false := decide_eq_false (by omega)
   have hgt : ((16 : Int) ≤ (gk : Int)) = False := eq_false (by omega)
   obtain ⟨k, rfl⟩ : ∃ k', k = k' + 1 := ⟨k - 1, by omega⟩
   have hkw : ((k + 1 : Nat) : Int) = (k : Int) + 1 := by omega
   have hki : IntKind.i64.wrap ((k : Int) + 1 - 1) = (k : Int) := by rw [IntKind.wrap_i64]; omega
   have hk0 : (0 : Int) ≤ (k : Int) := by omega
   have hk1 : (k : Int) < 65 := by omega
   have hce : wr.cell? ⟨w.heap.size, k, none⟩ = some (cur[k]'(by omega)) := by rw [hX.cell, Array.getElem?_eq_getElem]
   have hfz := frozen_of hX k
   have hidx := hx36At (gk) (by omega)
   have hd0 : (0 : Int) ≤ ((gk : Nat) : Int) := by omega
   have hd1 : ((gk : Nat) : Int) < 36 := by omega
   rw [hkw]
   have hk65 : (k : Int) ≤ 65 := by omega
   have hput := Hx.put (x := Hx.hx gk) hk hsz HDR.out
   have hXS := HX.out.set k (.int .u8 ((Hx.hx gk).toNat : Int))
   have HE : Hid (Hx.digs n = Hx.hx gk :: L) := Lib.hid (by rw [HDG.out, Hx.digs_small (by omega)]; rfl)
   have hconv : ∀ ty, (convert ty 9 (.slice (some ⟨w.heap.size, k, none⟩) (65 - k) (65 - k))).run Tryz.prog (wr.setCell ⟨w.heap.size, k, none⟩ (.int .u8 ((Hx.hx gk).toNat : Int))) = .ok (.string ⟨(Hx.digs n).toArray⟩) (wr.setCell ⟨w.heap.size, k, none⟩ (.int .u8 ((Hx.hx gk).toNat : Int))) ∨ ty ≠ 200 := fun ty => by
    by_cases hty : ty = 200
    ·left
     subst hty
     rw [HE.out, show 65 - k = (Hx.hx gk :: L).length by simp; omega]
     refine run_convert_bytes_back _ _ _ 5 ⟨w.heap.size, k, none⟩ _ (Hx.hx gk :: L) Tryz.underlying200 Tryz.underlying5 Tryz.underlying9 ?_
     intro j hj
     rw [show (⟨w.heap.size, k, none⟩ : Addr).add j = ⟨w.heap.size, k + j, none⟩ from by unfold Addr.add; split <;> simp_all, hXS.cell, ← Array.getElem?_toList]
     have h2 := congrArg (fun l => l[j]?) hput
     simp only [List.getElem?_drop] at h2
     rw [h2]
     unfold Hx.cells
     rw [List.getElem?_map, List.getElem?_eq_getElem hj]; rfl
    ·exact .inr hty
   have hcv := (hconv 200).resolve_right (fun h => h rfl)
   have HCV := Lib.hid hcv
   clear hconv hcv hput hXS
   go_upto_region 30 with fail
   have hcv := HCV.out
   go_wp2_with fail
   go_ret2
   exact ⟨rfl, hB.setCell (p := ⟨w.heap.size, k, none⟩) (by simp) _⟩
theorem fmtUintI_16 (n : Nat) (hn : n < 18446744073709551616) (w : World) (h : Hx.DB w) : Calls Tryz.prog 173 #[.int .u64 n, .int .i64 16] w fun e w' => e = .returned (.string ⟨(Hx.digs n).toArray⟩) ∧ Below w.heap.size w w' := by
 have HF := Lib.hid (fmtBits_16 n hn w h)
 clear h hn
 go_enter Tryz.func173, Tryz.ntmps173
 go_wp2_with (go_at_call 209; (with_reducible refine HF.out.mono ?_); rintro e w3 ⟨rfl, hB3⟩)
 go_ret
 exact ⟨rfl, hB3⟩
theorem fmtUint_16 (n : Nat) (hn : n < 18446744073709551616) (w : World) (h : Hx.DB w) : Calls Tryz.prog 106 #[.int .u64 n, .int .i64 16] w fun e w' => e = .returned (.string ⟨(Hx.digs n).toArray⟩) ∧ Below w.heap.size w w' := by
 have HF := Lib.hid (fmtUintI_16 n hn w h)
 clear h hn
 go_enter Tryz.func106, Tryz.ntmps106
 go_wp2_with (go_at_call 173; (with_reducible refine HF.out.mono ?_); rintro e w3 ⟨rfl, hB3⟩)
 go_ret
 exact ⟨rfl, hB3⟩
namespace Hx
def step (h : Nat) (b : UInt8) : Nat := ((h ^^^ b.toNat) * 1099511628211) % 18446744073709551616
def fnv0 : Nat := 14695981039346656037
def fnv (l : List UInt8) : Nat := l.foldl step fnv0
theorem fnv0_lt : fnv0 < 18446744073709551616 := by decide
theorem step_lt (h : Nat) (b : UInt8) : step h b < 18446744073709551616 := Nat.mod_lt _ (by decide)
theorem fnv_lt (l : List UInt8) : fnv l < 18446744073709551616 := by
 unfold fnv
 cases hl : l.reverse with
 | nil => have : l = [] := List.reverse_eq_nil_iff.1 hl; subst this; exact fnv0_lt
 | cons b r =>
   have : l = r.reverse ++ [b] := by rw [← List.reverse_reverse l, hl]; simp
   rw [this, List.foldl_append, List.foldl_cons, List.foldl_nil]
   exact step_lt _ _
theorem fnv_next {l : List UInt8} {j : Nat} {b : UInt8} (h : l[j]? = some b) : fnv (l.take (j + 1)) = step (fnv (l.take j)) b := by
 unfold fnv
 rw [List.take_add_one, h, List.foldl_append, Option.toList_some, List.foldl_cons, List.foldl_nil]
def dig (l : List UInt8) : ByteArray := ⟨(low (fnv l) 16).toArray⟩
end Hx
end Go.Proofs.YthdiccdnggloiaaGreatDoor
namespace Go.Proofs.YthdiccdnggloiaaGreatDoor
open Go.Shelf
def Lay.repeatS_ren : Go.Shelf.Ren := ⟨fun | 105 => 107 | 212 => 174 | 99 => 175 | 165 => 176 | 166 => 177 | 170 => 178 | 169 => 179 | 263 => 210 | 264 => 211 | 206 => 212 | 240 => 213 | 241 => 214 | 276 => 228 | 277 => 229 | n => n, fun | 9 => 9 | 3 => 3 | 4 => 4 | 20 => 20 | 0 => 0 | 46 => 195 | 109 => 196 | 5 => 5 | 72 => 202 | 76 => 206 | 51 => 230 | 146 => 231 | 53 => 149 | 148 => 233 | 70 => 199 | 37 => 200 | 75 => 205 | 127 => 235 | 164 => 246 | 80 => 209 | n => n, fun | n => n⟩
theorem Lay.repeatS : Go.Proofs.Lays.n105 Tryz.prog Lay.repeatS_ren := {
 mixed := by kernel_rfl
 f99 := Tryz.func175.trans (congrArg some (by kernel_rfl))
 f105 := Tryz.func107.trans (congrArg some (by kernel_rfl))
 f165 := Tryz.func176.trans (congrArg some (by kernel_rfl))
 f166 := Tryz.func177.trans (congrArg some (by kernel_rfl))
 f169 := Tryz.func179.trans (congrArg some (by kernel_rfl))
 f170 := Tryz.func178.trans (congrArg some (by kernel_rfl))
 f206 := Tryz.func212.trans (congrArg some (by kernel_rfl))
 f212 := Tryz.func174.trans (congrArg some (by kernel_rfl))
 f240 := Tryz.func213.trans (congrArg some (by kernel_rfl))
 f241 := Tryz.func214.trans (congrArg some (by kernel_rfl))
 f263 := Tryz.func210.trans (congrArg some (by kernel_rfl))
 f264 := Tryz.func211.trans (congrArg some (by kernel_rfl))
 f276 := Tryz.func228.trans (congrArg some (by kernel_rfl))
 f277 := Tryz.func229.trans (congrArg some (by kernel_rfl))
 t0 := Tryz.underlying0
 a0 := Tryz.isAgg0
 z0 := Tryz.sizeOf0
 v0 := Tryz.zeroValue0
 t3 := Tryz.underlying3
 a3 := Tryz.isAgg3
 z3 := Tryz.sizeOf3
 v3 := Tryz.zeroValue3
 t4 := Tryz.underlying4
 a4 := Tryz.isAgg4
 z4 := Tryz.sizeOf4
 v4 := Tryz.zeroValue4
 t5 := Tryz.underlying5
 a5 := Tryz.isAgg5
 z5 := Tryz.sizeOf5
 v5 := Tryz.zeroValue5
 t9 := Tryz.underlying9
 a9 := Tryz.isAgg9
 z9 := Tryz.sizeOf9
 v9 := Tryz.zeroValue9
 t20 := Tryz.underlying20
 a20 := Tryz.isAgg20
 z20 := Tryz.sizeOf20
 v20 := Tryz.zeroValue20
 t37 := Tryz.underlying200
 a37 := Tryz.isAgg200
 z37 := Tryz.sizeOf200
 v37 := Tryz.zeroValue200
 t46 := Tryz.underlying195
 a46 := Tryz.isAgg195
 z46 := Tryz.sizeOf195
 v46 := Tryz.zeroValue195
 t51 := Tryz.underlying230
 a51 := Tryz.isAgg230
 z51 := Tryz.sizeOf230
 v51 := Tryz.zeroValue230
 t53 := Tryz.underlying149
 a53 := Tryz.isAgg149
 z53 := Tryz.sizeOf149
 v53 := Tryz.zeroValue149
 t70 := Tryz.underlying199
 a70 := Tryz.isAgg199
 z70 := Tryz.sizeOf199
 v70 := Tryz.zeroValue199
 t72 := Tryz.underlying202
 a72 := Tryz.isAgg202
 z72 := Tryz.sizeOf202
 v72 := Tryz.zeroValue202
 t75 := Tryz.underlying205
 a75 := Tryz.isAgg205
 z75 := Tryz.sizeOf205
 v75 := Tryz.zeroValue205
 t76 := Tryz.underlying206
 a76 := Tryz.isAgg206
 z76 := Tryz.sizeOf206
 v76 := Tryz.zeroValue206
 t109 := Tryz.underlying196
 a109 := Tryz.isAgg196
 z109 := Tryz.sizeOf196
 v109 := Tryz.zeroValue196
 t127 := Tryz.underlying235
 a127 := Tryz.isAgg235
 z127 := Tryz.sizeOf235
 v127 := Tryz.zeroValue235
 t146 := Tryz.underlying231
 a146 := Tryz.isAgg231
 z146 := Tryz.sizeOf231
 v146 := Tryz.zeroValue231
 t148 := Tryz.underlying233
 a148 := Tryz.isAgg233
 z148 := Tryz.sizeOf233
 v148 := Tryz.zeroValue233
 t164 := Tryz.underlying246
 a164 := Tryz.isAgg246
 z164 := Tryz.sizeOf246
 v164 := Tryz.zeroValue246 }
end Go.Proofs.YthdiccdnggloiaaGreatDoor
namespace Go.Proofs.YthdiccdnggloiaaGreatDoor
open Go.RowKit
namespace St
theorem pos_from {α : Type} {key : α → ByteArray} {k : ByteArray} {L : List α} (h : Up key L) {i : Nat} {x : α} (hi : L[i]? = some x) (hp : pos key k L ≤ i) : St.lt (key x) k = false := by
 obtain ⟨h1, _⟩ := List.getElem?_eq_some_iff.1 hi
 obtain ⟨y, hy⟩ : ∃ y, L[pos key k L]? = some y := ⟨_, List.getElem?_eq_getElem (by omega)⟩
 have h2 := pos_at hy
 by_cases e : pos key k L = i
 ·subst e
  rw [hy] at hi
  obtain rfl := Option.some.inj hi
  exact h2
 ·have h3 := h.lt hy hi (by omega)
  cases h4 : St.lt (key x) k with
  | false => rfl
  | true => rw [lt_trans h3 h4] at h2; cases h2
end St
namespace St
theorem up_ext {α : Type} {key : α → ByteArray} : ∀ {L M : List α}, Up key L → Up key M → (∀ x, x ∈ L ↔ x ∈ M) → L = M
 | [], M, _, _, h => by
   cases M with
   | nil => rfl
   | cons y M => have := (h y).2 (by simp); cases this
 | x :: L, [], _, _, h => by have := (h x).1 (by simp); cases this
 | x :: L, y :: M, hL, hM, h => by
   obtain ⟨l1, l2⟩ := List.pairwise_cons.1 hL
   obtain ⟨m1, m2⟩ := List.pairwise_cons.1 hM
   have hxy : x = y := by
    rcases List.mem_cons.1 ((h x).1 (by simp)) with e | hx
    ·exact e
    ·rcases List.mem_cons.1 ((h y).2 (by simp)) with e | hy
     ·exact e.symm
     ·have := lt_trans (l1 y hy) (m1 x hx)
      rw [lt_irr] at this; cases this
   subst hxy
   have : L = M := up_ext l2 m2 fun z => by
    constructor
    ·intro hz
     rcases List.mem_cons.1 ((h z).1 (by simp [hz])) with e | g
     ·subst e; have := l1 z hz; rw [lt_irr] at this; cases this
     ·exact g
    ·intro hz
     rcases List.mem_cons.1 ((h z).2 (by simp [hz])) with e | g
     ·subst e; have := m1 z hz; rw [lt_irr] at this; cases this
     ·exact g
   rw [this]
theorem split_pos {α : Type} {key : α → ByteArray} {L : List α} (h : Up key L) (k : ByteArray) (hk : hasK key L k = false) : (∀ x ∈ L.take (pos key k L), lt (key x) k = true) ∧ (∀ x ∈ L.drop (pos key k L), lt k (key x) = true) := by
 constructor
 ·intro x hx
  obtain ⟨i, hi⟩ := List.getElem?_of_mem hx
  rw [List.getElem?_take] at hi
  split at hi
  ·rename_i hlt; exact pos_before hi hlt
  ·cases hi
 ·intro x hx
  obtain ⟨i, hi⟩ := List.getElem?_of_mem hx
  rw [List.getElem?_drop] at hi
  have h1 := pos_from (k := k) h hi (by omega)
  have h2 : eq (key x) k = false := by
   cases he : eq (key x) k with
   | false => rfl
   | true => rw [hasK_iff.2 ⟨x, List.mem_of_getElem? hi, eq_iff.1 he⟩] at hk; cases hk
  cases h3 : lt k (key x) with
  | true => rfl
  | false =>
    have := Sx.less_tri _ _ h1 h3
    unfold eq at h2
    rw [this] at h2; simp at h2
theorem up_wth {α : Type} {key : α → ByteArray} {L : List α} (h : Up key L) (x : α) : Up key (wth key x L) := by
 unfold wth
 split
 ·rename_i hk
  obtain ⟨y, hy, hyk⟩ := hasK_at h hk
  unfold Up
  rw [List.pairwise_iff_getElem]
  intro i j hi hj hij
  rw [List.length_set] at hi hj
  have hp := List.pairwise_iff_getElem.1 h i j hi hj hij
  obtain ⟨hlt, hg⟩ := List.getElem?_eq_some_iff.1 hy
  rw [List.getElem_set, List.getElem_set]
  split
  ·rename_i e
   split
   ·omega
   ·subst e; rw [hg, hyk] at hp; exact hp
  ·split
   ·rename_i e; subst e; rw [hg, hyk] at hp; exact hp
   ·exact hp
 ·rename_i hk
  obtain ⟨h1, h2⟩ := split_pos h (key x) (by simpa using hk)
  unfold Up
  rw [List.pairwise_append]
  refine ⟨h.sub (List.take_sublist _ _), List.pairwise_cons.2 ⟨fun y hy => h2 y hy, h.sub (List.drop_sublist _ _)⟩, fun a ha b hb => ?_⟩
  rcases List.mem_cons.1 hb with rfl | hb
  ·exact h1 a ha
  ·exact lt_trans (h1 a ha) (h2 b hb)
theorem mem_wth {α : Type} {key : α → ByteArray} {L : List α} (h : Up key L) (x y : α) : y ∈ wth key x L ↔ y = x ∨ (y ∈ L ∧ key y ≠ key x) := by
 unfold wth
 split
 ·rename_i hk
  obtain ⟨z, hz, hzk⟩ := hasK_at h hk
  obtain ⟨hlt, hg⟩ := List.getElem?_eq_some_iff.1 hz
  constructor
  ·intro hy
   obtain ⟨i, hi⟩ := List.getElem?_of_mem hy
   rw [List.getElem?_set] at hi
   split at hi
   ·first | exact .inl (Option.some.inj hi).symm | (rw [if_pos hlt] at hi; exact .inl (Option.some.inj hi).symm)
   ·rename_i hne
    refine .inr ⟨List.mem_of_getElem? hi, fun e => ?_⟩
    rcases Nat.lt_trichotomy i (pos key (key x) L) with h1 | h1 | h1
    ·have := h.lt hi hz h1; rw [e, hzk, lt_irr] at this; cases this
    ·exact hne h1.symm
    ·have := h.lt hz hi h1; rw [e, hzk, lt_irr] at this; cases this
  ·rintro (rfl | ⟨hy, hne⟩)
   ·refine List.mem_of_getElem? (i := pos key (key y) L) ?_
    rw [List.getElem?_set, if_pos rfl]
    first | rfl | exact if_pos hlt | (simp [hlt])
   ·obtain ⟨i, hi⟩ := List.getElem?_of_mem hy
    refine List.mem_of_getElem? (i := i) ?_
    rw [List.getElem?_set, if_neg]
    ·exact hi
    ·intro e; subst e; rw [hz] at hi; obtain rfl := Option.some.inj hi; exact hne hzk
 ·rename_i hk
  have hno : ∀ z ∈ L, key z ≠ key x := fun z hz e => hk (hasK_iff.2 ⟨z, hz, e⟩)
  rw [List.mem_append, List.mem_cons]
  constructor
  ·rintro (hy | rfl | hy)
   ·exact .inr ⟨List.mem_of_mem_take hy, hno y (List.mem_of_mem_take hy)⟩
   ·exact .inl rfl
   ·exact .inr ⟨List.mem_of_mem_drop hy, hno y (List.mem_of_mem_drop hy)⟩
  ·rintro (rfl | ⟨hy, _⟩)
   ·exact .inr (.inl rfl)
   ·have : y ∈ L.take (pos key (key x) L) ++ L.drop (pos key (key x) L) := by rw [List.take_append_drop]; exact hy
    rcases List.mem_append.1 this with g | g
    ·exact .inl g
    ·exact .inr (.inr g)
theorem up_wo {α : Type} {key : α → ByteArray} {L : List α} (h : Up key L) (k : ByteArray) : Up key (wo key k L) := by
 unfold wo
 split
 ·exact h.sub (List.eraseIdx_sublist _ _)
 ·exact h
theorem mem_wo {α : Type} {key : α → ByteArray} {L : List α} (h : Up key L) (k : ByteArray) (y : α) : y ∈ wo key k L ↔ y ∈ L ∧ key y ≠ k := by
 unfold wo
 split
 ·rename_i hk
  obtain ⟨z, hz, hzk⟩ := hasK_at h hk
  rw [List.mem_eraseIdx_iff_getElem?]
  constructor
  ·rintro ⟨i, hne, hi⟩
   refine ⟨List.mem_of_getElem? hi, fun e => ?_⟩
   rcases Nat.lt_trichotomy i (pos key k L) with h1 | h1 | h1
   ·have := h.lt hi hz h1; rw [e, hzk, lt_irr] at this; cases this
   ·exact hne h1
   ·have := h.lt hz hi h1; rw [e, hzk, lt_irr] at this; cases this
  ·rintro ⟨hy, hne⟩
   obtain ⟨i, hi⟩ := List.getElem?_of_mem hy
   exact ⟨i, fun e => by subst e; rw [hz] at hi; obtain rfl := Option.some.inj hi; exact hne hzk, hi⟩
 ·rename_i hk
  exact ⟨fun hy => ⟨hy, fun e => hk (hasK_iff.2 ⟨y, hy, e⟩)⟩, fun hy => hy.1⟩
theorem wo_wth {α : Type} {key : α → ByteArray} {L : List α} (h : Up key L) (x : α) (hk : hasK key L (key x) = false) : wo key (key x) (wth key x L) = L := by
 refine up_ext (up_wo (up_wth h x) _) h fun y => ?_
 rw [mem_wo (up_wth h x), mem_wth h]
 constructor
 ·rintro ⟨rfl | ⟨hy, _⟩, hne⟩
  ·exact absurd rfl hne
  ·exact hy
 ·intro hy
  have : key y ≠ key x := fun e => by rw [hasK_iff.2 ⟨y, hy, e⟩] at hk; cases hk
  exact ⟨.inr ⟨hy, this⟩, this⟩
theorem wth_wo {α : Type} {key : α → ByteArray} {L : List α} (h : Up key L) {x : α} (hx : x ∈ L) : wth key x (wo key (key x) L) = L := by
 refine up_ext (up_wth (up_wo h _) _) h fun y => ?_
 rw [mem_wth (up_wo h _), mem_wo h]
 constructor
 ·rintro (rfl | ⟨⟨hy, _⟩, _⟩)
  ·exact hx
  ·exact hy
 ·intro hy
  by_cases e : key y = key x
  ·exact .inl (h.one hy hx e)
  ·exact .inr ⟨⟨hy, e⟩, e⟩
end St
namespace St
def neededL (s : Sto) : List ByteArray := (s.files.filter (needed s)).map (·.dig)
def release (s : Sto) (d : ByteArray) (day : Int) : Sto := { s with held := wo id d s.held, bin := wth gdig ⟨d, day⟩ s.bin }
theorem binR_iff {H : List ByteArray} {g : Gon} : binR H g = 0 ↔ inB g.day 0 73048 = true ∧ hasK id H g.dig = false := by
 have e : hasS H g.dig = hasK id H g.dig := rfl
 unfold binR
 rw [e]
 cases inB g.day 0 73048 <;> cases hasK id H g.dig <;> simp
theorem hasK_sub {H H' : List ByteArray} {d : ByteArray} (h : ∀ x ∈ H', x ∈ H) (hk : hasK id H d = false) : hasK id H' d = false := by
 cases e : hasK id H' d with
 | false => rfl
 | true =>
   obtain ⟨x, hx, rfl⟩ := hasK_iff.1 e
   rw [hasK_iff.2 ⟨x, h x hx, rfl⟩] at hk; cases hk
theorem right_release {s : Sto} (r : Right s) {d : ByteArray} {day : Int} (hd : hasK id s.held d = true) (hday : inB day 0 73048 = true) : Right (release s d day) := by
 obtain ⟨x, hx, hxd⟩ := hasK_iff.1 hd
 have hkd : kindOf s.files d = 1 := by rw [← hxd]; exact r.held x hx
 have hnd : hasK id (wo id d s.held) d = false := by
  cases e : hasK id (wo id d s.held) d with
  | false => rfl
  | true =>
    obtain ⟨y, hy, hyd⟩ := hasK_iff.1 e
    exact absurd hyd ((mem_wo r.hup d y).1 hy).2
 refine r.kept (fun y hy => r.held y ((mem_wo r.hup d y).1 hy).1) (up_wo r.hup d) (fun g hg => ?_) (up_wth r.bup _)
 rcases (mem_wth (key := gdig) r.bup ⟨d, day⟩ g).1 hg with rfl | ⟨hg, _⟩
 ·exact ⟨hkd, binR_iff.2 ⟨hday, hnd⟩⟩
 ·obtain ⟨h1, h2⟩ := r.bin g hg
  obtain ⟨h3, h4⟩ := binR_iff.1 h2
  exact ⟨h1, binR_iff.2 ⟨h3, hasK_sub (fun y hy => ((mem_wo r.hup d y).1 hy).1) h4⟩⟩
theorem right_empty {s : Sto} (r : Right s) (day : Int) : Right (empty s day) := by
 have := r.kept (H := s.held) (B := s.bin.filter (stays s day)) r.held r.hup (fun g hg => r.bin g (List.mem_filter.1 hg).1) (r.bup.sub List.filter_sublist)
 exact this
theorem right_hold {s : Sto} (r : Right s) {d : ByteArray} (hd : hasK gdig s.bin d = true) : Right (hold s d) := by
 obtain ⟨x, hx, hxd⟩ := hasK_iff.1 hd
 have hkd : kindOf s.files d = 1 := by rw [← hxd]; exact (r.bin x hx).1
 refine r.kept (fun y hy => ?_) (up_wth r.hup d) (fun g hg => ?_) (up_wo r.bup d)
 ·rcases (mem_wth (key := id) r.hup d y).1 hy with rfl | ⟨hy, _⟩
  ·exact hkd
  ·exact r.held y hy
 ·obtain ⟨hg1, hg2⟩ := (mem_wo (key := gdig) r.bup d g).1 hg
  obtain ⟨h1, h2⟩ := r.bin g hg1
  obtain ⟨h3, h4⟩ := binR_iff.1 h2
  refine ⟨h1, binR_iff.2 ⟨h3, ?_⟩⟩
  cases e : hasK id (wth id d s.held) g.dig with
  | false => rfl
  | true =>
    obtain ⟨y, hy, hyg⟩ := hasK_iff.1 e
    rcases (mem_wth (key := id) r.hup d y).1 hy with rfl | ⟨hy, _⟩
    ·exact absurd hyg.symm hg2
    ·rw [hasK_iff.2 ⟨y, hy, hyg⟩] at h4; cases h4
theorem needed_mem {s : Sto} (r : Right s) {d : ByteArray} (hk : kindOf s.files d = 1) : d ∈ neededL s ↔ kept s d = true := by
 obtain ⟨f, _, hf, hfd, hfk⟩ := kind_mem hk
 unfold neededL
 rw [List.mem_map]
 constructor
 ·rintro ⟨g, hg, hgd⟩
  obtain ⟨hg1, hg2⟩ := List.mem_filter.1 hg
  have : g = f := r.fup.one hg1 hf (hgd.trans hfd.symm)
  subst this
  unfold needed at hg2
  rw [if_pos hfk, hfd] at hg2
  exact hg2
 ·intro hkp
  refine ⟨f, List.mem_filter.2 ⟨hf, ?_⟩, hfd⟩
  unfold needed
  rw [if_pos hfk, hfd]; exact hkp
theorem bin_law {s : Sto} (r : Right s) {d : ByteArray} {day : Int} (hd : hasK id s.held d = true) (hday : inB day 0 73048 = true) :
  d ∈ neededL (release s d day) ∧ (∀ n : Int, d ∈ neededL (empty (release s d day) n) ↔ n < day + s.wait) ∧ hasK gdig (release s d day).bin d = true ∧ hold (release s d day) d = s := by
 have rr := right_release r hd hday
 obtain ⟨x, hx, hxd⟩ := hasK_iff.1 hd
 have hkd : kindOf s.files d = 1 := by rw [← hxd]; exact r.held x hx
 have hin : (⟨d, day⟩ : Gon) ∈ wth gdig ⟨d, day⟩ s.bin := (mem_wth (key := gdig) r.bup _ _).2 (.inl rfl)
 have hbk : hasK gdig (release s d day).bin d = true := hasK_iff.2 ⟨_, hin, rfl⟩
 have hnh : hasK id (release s d day).held d = false := by
  cases e : hasK id (release s d day).held d with
  | false => rfl
  | true =>
    obtain ⟨y, hy, hyd⟩ := hasK_iff.1 e
    exact absurd hyd ((mem_wo r.hup d y).1 hy).2
 have hnb : hasK gdig s.bin d = false := by
  cases e : hasK gdig s.bin d with
  | false => rfl
  | true =>
    obtain ⟨g, hg, hgd⟩ := hasK_iff.1 e
    have := (binR_iff.1 (r.bin g hg).2).2
    have hgd' : g.dig = d := hgd
    rw [hgd', hd] at this; cases this
 refine ⟨(needed_mem rr hkd).2 (by unfold kept; rw [hbk]; simp), fun n => ?_, hbk, ?_⟩
 ·rw [needed_mem (right_empty rr n) hkd]
  have hh : hasK id (empty (release s d day) n).held d = false := hnh
  unfold kept
  rw [hh, Bool.false_or, hasK_iff]
  constructor
  ·rintro ⟨g, hg, hgd⟩
   obtain ⟨h1, h2⟩ := List.mem_filter.1 hg
   rcases (mem_wth (key := gdig) r.bup ⟨d, day⟩ g).1 h1 with rfl | ⟨_, h3⟩
   ·unfold stays at h2
    simp only [Bool.not_eq_true', decide_eq_false_iff_not] at h2
    have : (release s d day).wait = s.wait := rfl
    rw [this] at h2
    omega
   ·exact absurd hgd h3
  ·intro hn
   refine ⟨⟨d, day⟩, List.mem_filter.2 ⟨hin, ?_⟩, rfl⟩
   unfold stays
   simp only [Bool.not_eq_true', decide_eq_false_iff_not]
   have : (release s d day).wait = s.wait := rfl
   rw [this]
   omega
 ·have e1 : wth id d (wo id d s.held) = s.held := by
   have := wth_wo (key := id) r.hup hx
   have hxd' : x = d := hxd
   subst hxd'; exact this
  have e2 : wo gdig d (wth gdig ⟨d, day⟩ s.bin) = s.bin := wo_wth (key := gdig) r.bup ⟨d, day⟩ hnb
  unfold hold release
  simp only [e1, e2]
end St
end Go.Proofs.YthdiccdnggloiaaGreatDoor
namespace Go.Proofs.YthdiccdnggloiaaGreatDoor
namespace Dg
open Go.Lib
def digits : List UInt8 := [48, 49, 50, 51, 52, 53, 54, 55, 56, 57]
end Dg
end Go.Proofs.YthdiccdnggloiaaGreatDoor
namespace Go.Proofs.YthdiccdnggloiaaGreatDoor
open Go.RowKit
namespace St
end St
namespace St
theorem file16 {s : Sto} (r : Right s) {d : ByteArray} {f : Fil} (h : fileOf s.files d = some f) : d.size = 16 := by
 obtain ⟨h1, h2⟩ := find_mem h
 rw [← eq_iff.1 h2]
 exact dig16 (r.dig f h1).1
end St
end Go.Proofs.YthdiccdnggloiaaGreatDoor
namespace Go.Proofs.YthdiccdnggloiaaGreatDoor
open Go.RowKit Go.Sort Go.Shelf Go.Maps
theorem RowE.flatAt {α : Type} {E : Enc α} (hk : 0 < E.k) {w : World} {b off : Nat} {L : List α} (h : RowE E w (some ⟨b, off, none⟩) L) : ∀ j u, (E.flat L)[j]? = some u → w.cell? ⟨b, off + j, none⟩ = some u := by
 intro j u hj
 have hlt := (List.getElem?_eq_some_iff.1 hj).1
 rw [E.flat_len] at hlt
 have hdm := Nat.div_add_mod j E.k
 have hmod := Nat.mod_lt j hk
 have hi : j / E.k < L.length := Nat.div_lt_of_lt_mul (by rw [Nat.mul_comm]; exact hlt)
 obtain ⟨b', off', e, hb, hc⟩ := h (Nat.lt_of_le_of_lt (Nat.zero_le _) hi)
 cases e
 have he : j / E.k * E.k + j % E.k = j := by rw [Nat.mul_comm]; exact hdm
 have hg := E.flat_get L (j / E.k) _ (List.getElem?_eq_getElem hi) (j % E.k) hmod
 rw [he, hj] at hg
 have := hc (j / E.k) _ (List.getElem?_eq_getElem hi) (j % E.k) u hg.symm
 rwa [Nat.add_assoc, he] at this
def ClnPost {α : Type} (E : Enc α) (t : TypeId) (w : World) (L : List α) (e : Ending) (w' : World) : Prop := ∃ a ca, e = .returned (.slice a L.length ca) ∧ OwnV w' w.heap.size t E.k (.slice a L.length ca) L.length (E.flat L) ∧ Below w.heap.size w w'

theorem clnT_none (ca : Nat) (w : World) : Calls Tryz.prog 135 #[.slice none 0 ca] w (ClnPost St.eT 46 w []) := by
 have hnil := fun (W : World) => Lib.run_eql_slice_nil (P := Tryz.prog) W 22 46 none 0 ca 0 0 Tryz.underlying22
 go_enter Tryz.func135, Tryz.ntmps135
 go_wp2_with fail
 go_ret
 exact ⟨none, 0, rfl, .inl ⟨rfl, rfl, rfl⟩, Below.refl _ _⟩
theorem clnT_empty (p : Addr) (ca : Nat) (w : World) : Calls Tryz.prog 135 #[.slice (some p) 0 ca] w (ClnPost St.eT 46 w []) := by
 obtain ⟨i0, hi0, hz0, hz1, hz2⟩ := info_parts infoTir
 have HI0 := Lib.hid hi0; have HI2 := Lib.hid hz1
 clear hi0 hz0 hz1 hz2
 have hnil := fun (W : World) => Lib.run_eql_slice_nil (P := Tryz.prog) W 22 46 (some p) 0 ca 0 0 Tryz.underlying22
 have HO : Hid ((w.alloc (.cells #[] 46)).ownsRow w.heap.size 46 4 (.slice (some ⟨w.heap.size, 0, none⟩) 0 0) 0 []) := ⟨rfl, .inr ⟨w.heap.size, 0, #[], rfl, Nat.le_refl _, heap_alloc_new w _, Nat.le_refl _, by simp, by simp, by simp⟩⟩
 go_enter Tryz.func135, Tryz.ntmps135
 go_wp2_with (at_builtin; refine wpList_append_fits _ rfl _ _ 22 rfl w.heap.size 46 i0 4 Tryz.underlying22 HI0.out HI2.out w.heap.size 0 0 [] rfl HO.out p 0 ca [] rfl rfl (fun j u hj => by simp at hj) (by simp) (by omega) ?_; intro w1 hown hgrow)
 go_ret
 exact ⟨_, _, rfl, OwnV.of_own hown, ((Below.refl _ w).alloc (Nat.le_refl _) _).grown hgrow (by simp) (fun k e => by cases e; exact Nat.le_refl _)⟩
theorem clnT_is {L : List _} (a : Option Addr) (ca : Nat) (w : World) (hx : RowE St.eT w a L) (hn2 : L.length ≤ 1000000) : Calls Tryz.prog 135 #[.slice a L.length ca] w (ClnPost St.eT 46 w L) := by
 rcases Nat.eq_zero_or_pos L.length with h0 | hn
 ·obtain rfl := List.length_eq_zero_iff.1 h0
  cases a with
  | none => exact clnT_none ca w
  | some p => exact clnT_empty p ca w
 ·obtain ⟨b, off, rfl, hb, _⟩ := id (hx hn)
  have hc := hx.flatAt (by decide)
  obtain ⟨i0, hi0, hz0, hz1, hz2⟩ := info_parts infoTir
  have HI0 := Lib.hid hi0; have HI1 := Lib.hid hz0; have HI2 := Lib.hid hz1; have HI3 := Lib.hid hz2
  clear hi0 hz0 hz1 hz2
  have hnw : ∀ j u, (Enc.flat St.eT L)[j]? = some u → (w.alloc (.cells #[] 46)).cell? ((⟨b, off, none⟩ : Addr).add j) = some u := by
   intro j u hj
   rw [show (⟨b, off, none⟩ : Addr).add j = ⟨b, off + j, none⟩ from by unfold Addr.add; split <;> simp_all]
   exact (((Below.refl w.heap.size w).alloc (Nat.le_refl _) (.cells #[] 46)).cell (p := ⟨b, off + j, none⟩) hb).trans (hc j u hj)
  have HNW := Lib.hid hnw; have H1C := Lib.hid (Enc.flat_one St.eT L); have HNL : Hid ((Enc.flat St.eT L).length = L.length * 4) := Lib.hid (Enc.flat_len St.eT L)
  clear hnw hc hx hb
  show Calls Tryz.prog 135 #[.slice (some ⟨b, off, none⟩) L.length ca] w fun e w' => ∃ a ca, e = .returned (.slice a L.length ca) ∧ OwnV w' w.heap.size 46 4 (.slice a L.length ca) L.length (Enc.flat St.eT L) ∧ Below w.heap.size w w'
  generalize Enc.flat St.eT L = FL at *
  generalize L.length = n at *
  have hmx : 0 + n ≤ maxLen := by unfold maxLen; omega
  have hbz : (0 + n) * 40 ≤ 140737488355328 := by omega
  have hnil := fun (W : World) => Lib.run_eql_slice_nil (P := Tryz.prog) W 22 46 (some ⟨b, off, none⟩) n ca 0 0 Tryz.underlying22
  go_enter Tryz.func135, Tryz.ntmps135
  go_wp2_with (at_builtin; refine wpList_append_grows _ rfl _ _ 22 rfl 46 i0 (.agg #[.string ByteArray.empty, .int .i64 0, .int .i64 0, .bool false]) 4 40 Tryz.underlying22 HI0.out HI1.out HI2.out HI3.out rfl (by decide) (some ⟨w.heap.size, 0, none⟩) 0 0 [] rfl (fun h => by cases h) rfl (fun b hb j u hj => by simp at hj) ⟨b, off, none⟩ n ca FL rfl HNL.out HNW.out H1C.out (by omega) hmx hbz ?_; intro v' w1 hown hgrow)
  rw [Nat.zero_add, List.nil_append] at hown
  rcases hown.2 with ⟨_, h0⟩ | ⟨g, cap, cur, rfl, hg, hcell, hk, hm, _⟩
  ·omega
  have hB1 := ((Below.refl w.heap.size w).alloc (Nat.le_refl _) (.cells #[] 46)).grown hgrow (by simp) (fun k e => by cases e)
  have HOW := Lib.hid (ownsRow_down hown (show w.heap.size ≤ _ by simp))
  have hm2 : cap ≤ 9223372036854775807 := hm
  clear hown hgrow hcell hm hg
  go_wp2_with fail
  go_ret
  exact ⟨_, _, rfl, OwnV.of_own HOW.out, hB1⟩

theorem clnF_none (ca : Nat) (w : World) : Calls Tryz.prog 137 #[.slice none 0 ca] w (ClnPost St.eF 30 w []) := by
 have hnil := fun (W : World) => Lib.run_eql_slice_nil (P := Tryz.prog) W 23 30 none 0 ca 0 0 Tryz.underlying23
 go_enter Tryz.func137, Tryz.ntmps137
 go_wp2_with fail
 go_ret
 exact ⟨none, 0, rfl, .inl ⟨rfl, rfl, rfl⟩, Below.refl _ _⟩
theorem clnF_empty (p : Addr) (ca : Nat) (w : World) : Calls Tryz.prog 137 #[.slice (some p) 0 ca] w (ClnPost St.eF 30 w []) := by
 obtain ⟨i0, hi0, hz0, hz1, hz2⟩ := info_parts infoFil
 have HI0 := Lib.hid hi0; have HI2 := Lib.hid hz1
 clear hi0 hz0 hz1 hz2
 have hnil := fun (W : World) => Lib.run_eql_slice_nil (P := Tryz.prog) W 23 30 (some p) 0 ca 0 0 Tryz.underlying23
 have HO : Hid ((w.alloc (.cells #[] 30)).ownsRow w.heap.size 30 4 (.slice (some ⟨w.heap.size, 0, none⟩) 0 0) 0 []) := ⟨rfl, .inr ⟨w.heap.size, 0, #[], rfl, Nat.le_refl _, heap_alloc_new w _, Nat.le_refl _, by simp, by simp, by simp⟩⟩
 go_enter Tryz.func137, Tryz.ntmps137
 go_wp2_with (at_builtin; refine wpList_append_fits _ rfl _ _ 23 rfl w.heap.size 30 i0 4 Tryz.underlying23 HI0.out HI2.out w.heap.size 0 0 [] rfl HO.out p 0 ca [] rfl rfl (fun j u hj => by simp at hj) (by simp) (by omega) ?_; intro w1 hown hgrow)
 go_ret
 exact ⟨_, _, rfl, OwnV.of_own hown, ((Below.refl _ w).alloc (Nat.le_refl _) _).grown hgrow (by simp) (fun k e => by cases e; exact Nat.le_refl _)⟩
theorem clnF_is {L : List _} (a : Option Addr) (ca : Nat) (w : World) (hx : RowE St.eF w a L) (hn2 : L.length ≤ 1000000) : Calls Tryz.prog 137 #[.slice a L.length ca] w (ClnPost St.eF 30 w L) := by
 rcases Nat.eq_zero_or_pos L.length with h0 | hn
 ·obtain rfl := List.length_eq_zero_iff.1 h0
  cases a with
  | none => exact clnF_none ca w
  | some p => exact clnF_empty p ca w
 ·obtain ⟨b, off, rfl, hb, _⟩ := id (hx hn)
  have hc := hx.flatAt (by decide)
  obtain ⟨i0, hi0, hz0, hz1, hz2⟩ := info_parts infoFil
  have HI0 := Lib.hid hi0; have HI1 := Lib.hid hz0; have HI2 := Lib.hid hz1; have HI3 := Lib.hid hz2
  clear hi0 hz0 hz1 hz2
  have hnw : ∀ j u, (Enc.flat St.eF L)[j]? = some u → (w.alloc (.cells #[] 30)).cell? ((⟨b, off, none⟩ : Addr).add j) = some u := by
   intro j u hj
   rw [show (⟨b, off, none⟩ : Addr).add j = ⟨b, off + j, none⟩ from by unfold Addr.add; split <;> simp_all]
   exact (((Below.refl w.heap.size w).alloc (Nat.le_refl _) (.cells #[] 30)).cell (p := ⟨b, off + j, none⟩) hb).trans (hc j u hj)
  have HNW := Lib.hid hnw; have H1C := Lib.hid (Enc.flat_one St.eF L); have HNL : Hid ((Enc.flat St.eF L).length = L.length * 4) := Lib.hid (Enc.flat_len St.eF L)
  clear hnw hc hx hb
  show Calls Tryz.prog 137 #[.slice (some ⟨b, off, none⟩) L.length ca] w fun e w' => ∃ a ca, e = .returned (.slice a L.length ca) ∧ OwnV w' w.heap.size 30 4 (.slice a L.length ca) L.length (Enc.flat St.eF L) ∧ Below w.heap.size w w'
  generalize Enc.flat St.eF L = FL at *
  generalize L.length = n at *
  have hmx : 0 + n ≤ maxLen := by unfold maxLen; omega
  have hbz : (0 + n) * 48 ≤ 140737488355328 := by omega
  have hnil := fun (W : World) => Lib.run_eql_slice_nil (P := Tryz.prog) W 23 30 (some ⟨b, off, none⟩) n ca 0 0 Tryz.underlying23
  go_enter Tryz.func137, Tryz.ntmps137
  go_wp2_with (at_builtin; refine wpList_append_grows _ rfl _ _ 23 rfl 30 i0 (.agg #[.string ByteArray.empty, .int .i64 0, .int .i64 0, .string ByteArray.empty]) 4 48 Tryz.underlying23 HI0.out HI1.out HI2.out HI3.out rfl (by decide) (some ⟨w.heap.size, 0, none⟩) 0 0 [] rfl (fun h => by cases h) rfl (fun b hb j u hj => by simp at hj) ⟨b, off, none⟩ n ca FL rfl HNL.out HNW.out H1C.out (by omega) hmx hbz ?_; intro v' w1 hown hgrow)
  rw [Nat.zero_add, List.nil_append] at hown
  rcases hown.2 with ⟨_, h0⟩ | ⟨g, cap, cur, rfl, hg, hcell, hk, hm, _⟩
  ·omega
  have hB1 := ((Below.refl w.heap.size w).alloc (Nat.le_refl _) (.cells #[] 30)).grown hgrow (by simp) (fun k e => by cases e)
  have HOW := Lib.hid (ownsRow_down hown (show w.heap.size ≤ _ by simp))
  have hm2 : cap ≤ 9223372036854775807 := hm
  clear hown hgrow hcell hm hg
  go_wp2_with fail
  go_ret
  exact ⟨_, _, rfl, OwnV.of_own HOW.out, hB1⟩

theorem clnC_none (ca : Nat) (w : World) : Calls Tryz.prog 139 #[.slice none 0 ca] w (ClnPost St.eC 74 w []) := by
 have hnil := fun (W : World) => Lib.run_eql_slice_nil (P := Tryz.prog) W 24 74 none 0 ca 0 0 Tryz.underlying24
 go_enter Tryz.func139, Tryz.ntmps139
 go_wp2_with fail
 go_ret
 exact ⟨none, 0, rfl, .inl ⟨rfl, rfl, rfl⟩, Below.refl _ _⟩
theorem clnC_empty (p : Addr) (ca : Nat) (w : World) : Calls Tryz.prog 139 #[.slice (some p) 0 ca] w (ClnPost St.eC 74 w []) := by
 obtain ⟨i0, hi0, hz0, hz1, hz2⟩ := info_parts infoCop
 have HI0 := Lib.hid hi0; have HI2 := Lib.hid hz1
 clear hi0 hz0 hz1 hz2
 have hnil := fun (W : World) => Lib.run_eql_slice_nil (P := Tryz.prog) W 24 74 (some p) 0 ca 0 0 Tryz.underlying24
 have HO : Hid ((w.alloc (.cells #[] 74)).ownsRow w.heap.size 74 4 (.slice (some ⟨w.heap.size, 0, none⟩) 0 0) 0 []) := ⟨rfl, .inr ⟨w.heap.size, 0, #[], rfl, Nat.le_refl _, heap_alloc_new w _, Nat.le_refl _, by simp, by simp, by simp⟩⟩
 go_enter Tryz.func139, Tryz.ntmps139
 go_wp2_with (at_builtin; refine wpList_append_fits _ rfl _ _ 24 rfl w.heap.size 74 i0 4 Tryz.underlying24 HI0.out HI2.out w.heap.size 0 0 [] rfl HO.out p 0 ca [] rfl rfl (fun j u hj => by simp at hj) (by simp) (by omega) ?_; intro w1 hown hgrow)
 go_ret
 exact ⟨_, _, rfl, OwnV.of_own hown, ((Below.refl _ w).alloc (Nat.le_refl _) _).grown hgrow (by simp) (fun k e => by cases e; exact Nat.le_refl _)⟩
theorem clnC_is {L : List _} (a : Option Addr) (ca : Nat) (w : World) (hx : RowE St.eC w a L) (hn2 : L.length ≤ 1000000) : Calls Tryz.prog 139 #[.slice a L.length ca] w (ClnPost St.eC 74 w L) := by
 rcases Nat.eq_zero_or_pos L.length with h0 | hn
 ·obtain rfl := List.length_eq_zero_iff.1 h0
  cases a with
  | none => exact clnC_none ca w
  | some p => exact clnC_empty p ca w
 ·obtain ⟨b, off, rfl, hb, _⟩ := id (hx hn)
  have hc := hx.flatAt (by decide)
  obtain ⟨i0, hi0, hz0, hz1, hz2⟩ := info_parts infoCop
  have HI0 := Lib.hid hi0; have HI1 := Lib.hid hz0; have HI2 := Lib.hid hz1; have HI3 := Lib.hid hz2
  clear hi0 hz0 hz1 hz2
  have hnw : ∀ j u, (Enc.flat St.eC L)[j]? = some u → (w.alloc (.cells #[] 74)).cell? ((⟨b, off, none⟩ : Addr).add j) = some u := by
   intro j u hj
   rw [show (⟨b, off, none⟩ : Addr).add j = ⟨b, off + j, none⟩ from by unfold Addr.add; split <;> simp_all]
   exact (((Below.refl w.heap.size w).alloc (Nat.le_refl _) (.cells #[] 74)).cell (p := ⟨b, off + j, none⟩) hb).trans (hc j u hj)
  have HNW := Lib.hid hnw; have H1C := Lib.hid (Enc.flat_one St.eC L); have HNL : Hid ((Enc.flat St.eC L).length = L.length * 4) := Lib.hid (Enc.flat_len St.eC L)
  clear hnw hc hx hb
  show Calls Tryz.prog 139 #[.slice (some ⟨b, off, none⟩) L.length ca] w fun e w' => ∃ a ca, e = .returned (.slice a L.length ca) ∧ OwnV w' w.heap.size 74 4 (.slice a L.length ca) L.length (Enc.flat St.eC L) ∧ Below w.heap.size w w'
  generalize Enc.flat St.eC L = FL at *
  generalize L.length = n at *
  have hmx : 0 + n ≤ maxLen := by unfold maxLen; omega
  have hbz : (0 + n) * 48 ≤ 140737488355328 := by omega
  have hnil := fun (W : World) => Lib.run_eql_slice_nil (P := Tryz.prog) W 24 74 (some ⟨b, off, none⟩) n ca 0 0 Tryz.underlying24
  go_enter Tryz.func139, Tryz.ntmps139
  go_wp2_with (at_builtin; refine wpList_append_grows _ rfl _ _ 24 rfl 74 i0 (.agg #[.string ByteArray.empty, .string ByteArray.empty, .bool false, .int .i64 0]) 4 48 Tryz.underlying24 HI0.out HI1.out HI2.out HI3.out rfl (by decide) (some ⟨w.heap.size, 0, none⟩) 0 0 [] rfl (fun h => by cases h) rfl (fun b hb j u hj => by simp at hj) ⟨b, off, none⟩ n ca FL rfl HNL.out HNW.out H1C.out (by omega) hmx hbz ?_; intro v' w1 hown hgrow)
  rw [Nat.zero_add, List.nil_append] at hown
  rcases hown.2 with ⟨_, h0⟩ | ⟨g, cap, cur, rfl, hg, hcell, hk, hm, _⟩
  ·omega
  have hB1 := ((Below.refl w.heap.size w).alloc (Nat.le_refl _) (.cells #[] 74)).grown hgrow (by simp) (fun k e => by cases e)
  have HOW := Lib.hid (ownsRow_down hown (show w.heap.size ≤ _ by simp))
  have hm2 : cap ≤ 9223372036854775807 := hm
  clear hown hgrow hcell hm hg
  go_wp2_with fail
  go_ret
  exact ⟨_, _, rfl, OwnV.of_own HOW.out, hB1⟩

theorem clnS_none (ca : Nat) (w : World) : Calls Tryz.prog 140 #[.slice none 0 ca] w (ClnPost St.eS 9 w []) := by
 have hnil := fun (W : World) => Lib.run_eql_slice_nil (P := Tryz.prog) W 25 9 none 0 ca 0 0 Tryz.underlying25
 go_enter Tryz.func140, Tryz.ntmps140
 go_wp2_with fail
 go_ret
 exact ⟨none, 0, rfl, .inl ⟨rfl, rfl, rfl⟩, Below.refl _ _⟩
theorem clnS_empty (p : Addr) (ca : Nat) (w : World) : Calls Tryz.prog 140 #[.slice (some p) 0 ca] w (ClnPost St.eS 9 w []) := by
 obtain ⟨i0, hi0, hz0, hz1, hz2⟩ := info_parts infoStS
 have HI0 := Lib.hid hi0; have HI2 := Lib.hid hz1
 clear hi0 hz0 hz1 hz2
 have hnil := fun (W : World) => Lib.run_eql_slice_nil (P := Tryz.prog) W 25 9 (some p) 0 ca 0 0 Tryz.underlying25
 have HO : Hid ((w.alloc (.cells #[] 9)).ownsRow w.heap.size 9 1 (.slice (some ⟨w.heap.size, 0, none⟩) 0 0) 0 []) := ⟨rfl, .inr ⟨w.heap.size, 0, #[], rfl, Nat.le_refl _, heap_alloc_new w _, Nat.le_refl _, by simp, by simp, by simp⟩⟩
 go_enter Tryz.func140, Tryz.ntmps140
 go_wp2_with (at_builtin; refine wpList_append_fits _ rfl _ _ 25 rfl w.heap.size 9 i0 1 Tryz.underlying25 HI0.out HI2.out w.heap.size 0 0 [] rfl HO.out p 0 ca [] rfl rfl (fun j u hj => by simp at hj) (by simp) (by omega) ?_; intro w1 hown hgrow)
 go_ret
 exact ⟨_, _, rfl, OwnV.of_own hown, ((Below.refl _ w).alloc (Nat.le_refl _) _).grown hgrow (by simp) (fun k e => by cases e; exact Nat.le_refl _)⟩
theorem clnS_is {L : List _} (a : Option Addr) (ca : Nat) (w : World) (hx : RowE St.eS w a L) (hn2 : L.length ≤ 1000000) : Calls Tryz.prog 140 #[.slice a L.length ca] w (ClnPost St.eS 9 w L) := by
 rcases Nat.eq_zero_or_pos L.length with h0 | hn
 ·obtain rfl := List.length_eq_zero_iff.1 h0
  cases a with
  | none => exact clnS_none ca w
  | some p => exact clnS_empty p ca w
 ·obtain ⟨b, off, rfl, hb, _⟩ := id (hx hn)
  have hc := hx.flatAt (by decide)
  obtain ⟨i0, hi0, hz0, hz1, hz2⟩ := info_parts infoStS
  have HI0 := Lib.hid hi0; have HI1 := Lib.hid hz0; have HI2 := Lib.hid hz1; have HI3 := Lib.hid hz2
  clear hi0 hz0 hz1 hz2
  have hnw : ∀ j u, (Enc.flat St.eS L)[j]? = some u → (w.alloc (.cells #[] 9)).cell? ((⟨b, off, none⟩ : Addr).add j) = some u := by
   intro j u hj
   rw [show (⟨b, off, none⟩ : Addr).add j = ⟨b, off + j, none⟩ from by unfold Addr.add; split <;> simp_all]
   exact (((Below.refl w.heap.size w).alloc (Nat.le_refl _) (.cells #[] 9)).cell (p := ⟨b, off + j, none⟩) hb).trans (hc j u hj)
  have HNW := Lib.hid hnw; have H1C := Lib.hid (Enc.flat_one St.eS L); have HNL : Hid ((Enc.flat St.eS L).length = L.length * 1) := Lib.hid (Enc.flat_len St.eS L)
  clear hnw hc hx hb
  show Calls Tryz.prog 140 #[.slice (some ⟨b, off, none⟩) L.length ca] w fun e w' => ∃ a ca, e = .returned (.slice a L.length ca) ∧ OwnV w' w.heap.size 9 1 (.slice a L.length ca) L.length (Enc.flat St.eS L) ∧ Below w.heap.size w w'
  generalize Enc.flat St.eS L = FL at *
  generalize L.length = n at *
  have hmx : 0 + n ≤ maxLen := by unfold maxLen; omega
  have hbz : (0 + n) * 16 ≤ 140737488355328 := by omega
  have hnil := fun (W : World) => Lib.run_eql_slice_nil (P := Tryz.prog) W 25 9 (some ⟨b, off, none⟩) n ca 0 0 Tryz.underlying25
  go_enter Tryz.func140, Tryz.ntmps140
  go_wp2_with (at_builtin; refine wpList_append_grows _ rfl _ _ 25 rfl 9 i0 (.string ByteArray.empty) 1 16 Tryz.underlying25 HI0.out HI1.out HI2.out HI3.out rfl (by decide) (some ⟨w.heap.size, 0, none⟩) 0 0 [] rfl (fun h => by cases h) rfl (fun b hb j u hj => by simp at hj) ⟨b, off, none⟩ n ca FL rfl HNL.out HNW.out H1C.out (by omega) hmx hbz ?_; intro v' w1 hown hgrow)
  rw [Nat.zero_add, List.nil_append] at hown
  rcases hown.2 with ⟨_, h0⟩ | ⟨g, cap, cur, rfl, hg, hcell, hk, hm, _⟩
  ·omega
  have hB1 := ((Below.refl w.heap.size w).alloc (Nat.le_refl _) (.cells #[] 9)).grown hgrow (by simp) (fun k e => by cases e)
  have HOW := Lib.hid (ownsRow_down hown (show w.heap.size ≤ _ by simp))
  have hm2 : cap ≤ 9223372036854775807 := hm
  clear hown hgrow hcell hm hg
  go_wp2_with fail
  go_ret
  exact ⟨_, _, rfl, OwnV.of_own HOW.out, hB1⟩

theorem clnG_none (ca : Nat) (w : World) : Calls Tryz.prog 141 #[.slice none 0 ca] w (ClnPost St.eG 112 w []) := by
 have hnil := fun (W : World) => Lib.run_eql_slice_nil (P := Tryz.prog) W 26 112 none 0 ca 0 0 Tryz.underlying26
 go_enter Tryz.func141, Tryz.ntmps141
 go_wp2_with fail
 go_ret
 exact ⟨none, 0, rfl, .inl ⟨rfl, rfl, rfl⟩, Below.refl _ _⟩
theorem clnG_empty (p : Addr) (ca : Nat) (w : World) : Calls Tryz.prog 141 #[.slice (some p) 0 ca] w (ClnPost St.eG 112 w []) := by
 obtain ⟨i0, hi0, hz0, hz1, hz2⟩ := info_parts infoGon
 have HI0 := Lib.hid hi0; have HI2 := Lib.hid hz1
 clear hi0 hz0 hz1 hz2
 have hnil := fun (W : World) => Lib.run_eql_slice_nil (P := Tryz.prog) W 26 112 (some p) 0 ca 0 0 Tryz.underlying26
 have HO : Hid ((w.alloc (.cells #[] 112)).ownsRow w.heap.size 112 2 (.slice (some ⟨w.heap.size, 0, none⟩) 0 0) 0 []) := ⟨rfl, .inr ⟨w.heap.size, 0, #[], rfl, Nat.le_refl _, heap_alloc_new w _, Nat.le_refl _, by simp, by simp, by simp⟩⟩
 go_enter Tryz.func141, Tryz.ntmps141
 go_wp2_with (at_builtin; refine wpList_append_fits _ rfl _ _ 26 rfl w.heap.size 112 i0 2 Tryz.underlying26 HI0.out HI2.out w.heap.size 0 0 [] rfl HO.out p 0 ca [] rfl rfl (fun j u hj => by simp at hj) (by simp) (by omega) ?_; intro w1 hown hgrow)
 go_ret
 exact ⟨_, _, rfl, OwnV.of_own hown, ((Below.refl _ w).alloc (Nat.le_refl _) _).grown hgrow (by simp) (fun k e => by cases e; exact Nat.le_refl _)⟩
theorem clnG_is {L : List _} (a : Option Addr) (ca : Nat) (w : World) (hx : RowE St.eG w a L) (hn2 : L.length ≤ 1000000) : Calls Tryz.prog 141 #[.slice a L.length ca] w (ClnPost St.eG 112 w L) := by
 rcases Nat.eq_zero_or_pos L.length with h0 | hn
 ·obtain rfl := List.length_eq_zero_iff.1 h0
  cases a with
  | none => exact clnG_none ca w
  | some p => exact clnG_empty p ca w
 ·obtain ⟨b, off, rfl, hb, _⟩ := id (hx hn)
  have hc := hx.flatAt (by decide)
  obtain ⟨i0, hi0, hz0, hz1, hz2⟩ := info_parts infoGon
  have HI0 := Lib.hid hi0; have HI1 := Lib.hid hz0; have HI2 := Lib.hid hz1; have HI3 := Lib.hid hz2
  clear hi0 hz0 hz1 hz2
  have hnw : ∀ j u, (Enc.flat St.eG L)[j]? = some u → (w.alloc (.cells #[] 112)).cell? ((⟨b, off, none⟩ : Addr).add j) = some u := by
   intro j u hj
   rw [show (⟨b, off, none⟩ : Addr).add j = ⟨b, off + j, none⟩ from by unfold Addr.add; split <;> simp_all]
   exact (((Below.refl w.heap.size w).alloc (Nat.le_refl _) (.cells #[] 112)).cell (p := ⟨b, off + j, none⟩) hb).trans (hc j u hj)
  have HNW := Lib.hid hnw; have H1C := Lib.hid (Enc.flat_one St.eG L); have HNL : Hid ((Enc.flat St.eG L).length = L.length * 2) := Lib.hid (Enc.flat_len St.eG L)
  clear hnw hc hx hb
  show Calls Tryz.prog 141 #[.slice (some ⟨b, off, none⟩) L.length ca] w fun e w' => ∃ a ca, e = .returned (.slice a L.length ca) ∧ OwnV w' w.heap.size 112 2 (.slice a L.length ca) L.length (Enc.flat St.eG L) ∧ Below w.heap.size w w'
  generalize Enc.flat St.eG L = FL at *
  generalize L.length = n at *
  have hmx : 0 + n ≤ maxLen := by unfold maxLen; omega
  have hbz : (0 + n) * 24 ≤ 140737488355328 := by omega
  have hnil := fun (W : World) => Lib.run_eql_slice_nil (P := Tryz.prog) W 26 112 (some ⟨b, off, none⟩) n ca 0 0 Tryz.underlying26
  go_enter Tryz.func141, Tryz.ntmps141
  go_wp2_with (at_builtin; refine wpList_append_grows _ rfl _ _ 26 rfl 112 i0 (.agg #[.string ByteArray.empty, .int .i64 0]) 2 24 Tryz.underlying26 HI0.out HI1.out HI2.out HI3.out rfl (by decide) (some ⟨w.heap.size, 0, none⟩) 0 0 [] rfl (fun h => by cases h) rfl (fun b hb j u hj => by simp at hj) ⟨b, off, none⟩ n ca FL rfl HNL.out HNW.out H1C.out (by omega) hmx hbz ?_; intro v' w1 hown hgrow)
  rw [Nat.zero_add, List.nil_append] at hown
  rcases hown.2 with ⟨_, h0⟩ | ⟨g, cap, cur, rfl, hg, hcell, hk, hm, _⟩
  ·omega
  have hB1 := ((Below.refl w.heap.size w).alloc (Nat.le_refl _) (.cells #[] 112)).grown hgrow (by simp) (fun k e => by cases e)
  have HOW := Lib.hid (ownsRow_down hown (show w.heap.size ≤ _ by simp))
  have hm2 : cap ≤ 9223372036854775807 := hm
  clear hown hgrow hcell hm hg
  go_wp2_with fail
  go_ret
  exact ⟨_, _, rfl, OwnV.of_own HOW.out, hB1⟩
theorem clnT_clip (a : Option Addr) (n ca : Nat) (w : World) (h : n ≤ ca) (hc : ca ≤ 9223372036854775807) : Calls Tryz.prog 134 #[.slice a n ca] w fun e w' => e = .returned (.slice a n n) ∧ w = w' := by
 go_enter Tryz.func134, Tryz.ntmps134
 go_wp2_with fail
 go_ret
 exact ⟨rfl, rfl⟩
theorem clnF_clip (a : Option Addr) (n ca : Nat) (w : World) (h : n ≤ ca) (hc : ca ≤ 9223372036854775807) : Calls Tryz.prog 136 #[.slice a n ca] w fun e w' => e = .returned (.slice a n n) ∧ w = w' := by
 go_enter Tryz.func136, Tryz.ntmps136
 go_wp2_with fail
 go_ret
 exact ⟨rfl, rfl⟩
theorem clnC_clip (a : Option Addr) (n ca : Nat) (w : World) (h : n ≤ ca) (hc : ca ≤ 9223372036854775807) : Calls Tryz.prog 138 #[.slice a n ca] w fun e w' => e = .returned (.slice a n n) ∧ w = w' := by
 go_enter Tryz.func138, Tryz.ntmps138
 go_wp2_with fail
 go_ret
 exact ⟨rfl, rfl⟩
theorem clnS_clip (a : Option Addr) (n ca : Nat) (w : World) (h : n ≤ ca) (hc : ca ≤ 9223372036854775807) : Calls Tryz.prog 104 #[.slice a n ca] w fun e w' => e = .returned (.slice a n n) ∧ w = w' := by
 go_enter Tryz.func104, Tryz.ntmps104
 go_wp2_with fail
 go_ret
 exact ⟨rfl, rfl⟩
theorem clnG_clip (a : Option Addr) (n ca : Nat) (w : World) (h : n ≤ ca) (hc : ca ≤ 9223372036854775807) : Calls Tryz.prog 67 #[.slice a n ca] w fun e w' => e = .returned (.slice a n n) ∧ w = w' := by
 go_enter Tryz.func67, Tryz.ntmps67
 go_wp2_with fail
 go_ret
 exact ⟨rfl, rfl⟩
end Go.Proofs.YthdiccdnggloiaaGreatDoor
