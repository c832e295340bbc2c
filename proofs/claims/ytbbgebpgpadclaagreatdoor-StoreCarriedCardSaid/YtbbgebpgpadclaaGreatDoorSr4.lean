/- Parts of the proof, no condition: StHas, DigLays, StDig, StIdx, Events0, FdStr, FdStr2, FdStr3, StSmall, StGood, StRef1, StUsed. -/
import Derived.Test.YtbbgebpgpadclaaGreatDoorSr3
import Derived.Shelf.Abstract
import Derived.Shelf.Strings.SlTrimAscii
import Derived.Shelf.Strconv.Atoi
import Derived.Test.YtbbgebpgpadclaaGreatDoorProg
import Derived.Test.YtbbgebpgpadclaaGreatDoorSr1
import Derived.Below
import Derived.Lib.Bytealg
import Derived.WalkLawsBesides
import Derived.Lib.ConvBytes
import Derived.Laws.Closers25
set_option maxRecDepth 100000
set_option maxHeartbeats 4000000
set_option linter.unusedSimpArgs false
set_option linter.unusedVariables false
namespace Go.Proofs.YtbbgebpgpadclaaGreatDoor
open Go.RowKit Go.Sort Go.Shelf Go.Maps
namespace St
def cmpS (a b : ByteArray) : Int := if lt a b = true then -1 else if lt b a = true then 1 else 0
theorem cmpS_lt {a b : ByteArray} : cmpS a b < 0 ↔ lt a b = true := by
 unfold cmpS
 cases lt a b <;> cases lt b a <;> simp
theorem cmpS_eq {a b : ByteArray} : (cmpS a b == 0) = eq a b := by
 have h := le_not (a := a) (b := b)
 unfold le at h
 unfold cmpS
 have h0 : Op.bytesLess a.toList b.toList = lt a b := rfl
 have h1 : (a.toList == b.toList) = eq a b := rfl
 rw [h0, h1] at h
 cases h2 : eq a b with
 | true =>
   obtain rfl := eq_iff.1 h2
   rw [lt_irr]; rfl
 | false =>
   rw [h2, Bool.or_false] at h
   rw [h]
   cases lt b a <;> rfl
end St
theorem isNaNs_is (a : ByteArray) (w : World) : Calls Tryz.prog 152 #[.string a] w fun e w' => e = .returned (.bool false) ∧ w = w' := by
 go_enter Tryz.func152, Tryz.ntmps152
 go_wp2_with fail
 go_ret
 exact ⟨by simp, rfl⟩
theorem cmpStr_is (a b : ByteArray) (w : World) : Calls Tryz.prog 140 #[.string a, .string b] w fun e w' => e = .returned (.int .i64 (St.cmpS a b)) ∧ w = w' := by
 have HN := Lib.hid (fun x W => isNaNs_is x W)
 obtain ⟨q, hq⟩ : ∃ q, St.cmpS a b = q := ⟨_, rfl⟩
 rw [hq]
 unfold St.cmpS at hq
 have h1 : St.lt a b = Op.bytesLess a.toList b.toList := rfl
 have h2 : St.lt b a = Op.bytesLess b.toList a.toList := rfl
 rw [h1, h2] at hq
 clear h1 h2
 cases hx : Op.bytesLess a.toList b.toList
 ·have hle := St.le_not (a := a) (b := b)
  unfold St.le at hle
  rw [hx, Bool.false_or] at hle
  have hlb : Op.bytesLess b.toList a.toList = St.lt b a := rfl
  rw [hlb] at hq
  cases hy : (a.toList == b.toList)
  case true =>
   have HQ : Hid ((0 : Int) = q) := Lib.hid (by rw [← hq, hx]; rw [hy] at hle; cases hb : St.lt b a; rfl; rw [hb] at hle; cases hle)
   clear hq hle hlb
   go_enter Tryz.func140, Tryz.ntmps140
   go_wp2_with (go_at_call 152; (with_reducible refine (HN.out _ _).mono ?_); rintro e w4 ⟨rfl, rfl⟩)
   go_ret
   exact ⟨ret_int HQ.out, rfl⟩
  case false =>
   have HQ : Hid ((1 : Int) = q) := Lib.hid (by rw [← hq, hx]; rw [hy] at hle; cases hb : St.lt b a; rw [hb] at hle; cases hle; rfl)
   clear hq hle hlb
   go_enter Tryz.func140, Tryz.ntmps140
   go_wp2_with (go_at_call 152; (with_reducible refine (HN.out _ _).mono ?_); rintro e w4 ⟨rfl, rfl⟩)
   go_ret
   exact ⟨ret_int HQ.out, rfl⟩
 ·have HQ : Hid ((-1 : Int) = q) := Lib.hid (by rw [← hq, hx]; rfl)
  clear hq
  go_enter Tryz.func140, Tryz.ntmps140
  go_wp2_with (go_at_call 152; (with_reducible refine (HN.out _ _).mono ?_); rintro e w4 ⟨rfl, rfl⟩)
  go_ret
  exact ⟨ret_int HQ.out, rfl⟩
theorem enters_held : ∀ args w, (callFunc 117 args).run Tryz.prog w = .ok (.enter 117 args) w := enters_of Tryz.func117 (by kernel_rfl) rfl
theorem enters_place : ∀ args w, (callFunc 139 args).run Tryz.prog w = .ok (.enter 139 args) w := enters_of Tryz.func139 (by kernel_rfl) rfl
theorem heldK_is (x : ByteArray) (w : World) : Calls Tryz.prog 117 #[.string x] w fun e w' => e = .returned (.string x) ∧ w = w' := by
 go_enter Tryz.func117, Tryz.ntmps117
 go_wp2_with fail
 go_ret
 exact ⟨rfl, rfl⟩
theorem placeK_is (x k : ByteArray) (a : Option Addr) (n ca bk : Nat) (t : TypeId) (w : World) (hs : Blk w bk #[.func (.func 117) #[] #[], .slice a n ca] t) :
  Calls Tryz.prog 139 #[.string x, .string k, .pointer (some ⟨bk, 0, none⟩)] w fun e w' => e = .returned (.int .i64 (St.cmpS x k)) ∧ w = w' := by
 have r0 : w.cell? ⟨bk, 0, none⟩ = some (.func (.func 117) #[] #[]) := (hs.cell 0).trans rfl
 have eg := enters_held
 have HK := Lib.hid (fun W => heldK_is x W)
 have HC := Lib.hid (fun W => cmpStr_is x k W)
 clear hs
 go_enter Tryz.func139, Tryz.ntmps139
 go_wp2_with (first | (go_at_fn 117; (with_reducible refine (HK.out _).mono ?_); rintro e w4 ⟨rfl, rfl⟩) | (go_at_call 140; (with_reducible refine (HC.out _).mono ?_); rintro e w4 ⟨rfl, rfl⟩))
 go_ret
 exact ⟨rfl, rfl⟩
theorem bsS_is (L : List ByteArray) (hu : St.Up id L) (h1m : L.length ≤ 1000000) (k : ByteArray) (a : Option Addr) (ca bk : Nat) (t : TypeId) (w : World) (hl : L.length ≤ ca ∧ ca ≤ 9223372036854775807) (hr : RowE St.eS w a L) (hs : Blk w bk #[.func (.func 117) #[] #[], .slice a L.length ca] t) :
  Calls Tryz.prog 138 #[.slice a L.length ca, .string k, .func (.func 139) #[] #[.pointer (some ⟨bk, 0, none⟩)]] w fun e w' => e = .returned (.tuple #[.int .i64 (St.pos id k L), .bool (St.hasK id L k)]) ∧ w = w' := by
 have eg := enters_place
 have HR := Lib.hid hr; have HS := Lib.hid hs; have HU := Lib.hid hu
 obtain ⟨n, hn⟩ : ∃ n, L.length = n := ⟨_, rfl⟩
 have HN := Lib.hid hn
 have HC0 := Lib.hid (fun x => placeK_is x k a L.length ca bk t w hs)
 rw [hn] at hl h1m ⊢
 clear hr hs hu hn
 go_enter Tryz.func138, Tryz.ntmps138
 go_wp2_with fail
 go_loopg [9, 10] n (fun g s7 s8 wr => ∃ lo hi : Nat, s7 = .int .i64 lo ∧ s8 = .int .i64 hi ∧ lo ≤ hi ∧ hi ≤ n ∧ g = 0 + (hi - lo) ∧ w = wr ∧ (∀ i x, L[i]? = some x → i < lo → St.lt x k = true) ∧ (∀ i x, L[i]? = some x → hi ≤ i → St.lt x k = false))
 case atStart => exact ⟨0, n, rfl, rfl, Nat.zero_le _, Nat.le_refl _, by omega, rfl, fun i x _ h => absurd h (Nat.not_lt_zero _), fun i x hx h => by have := (List.getElem?_eq_some_iff.1 hx).1; have := HN.out; omega⟩
 case round =>
  obtain ⟨lo, hi, rfl, rfl, hlh, hin, rfl, rfl, h1, h2⟩ := hrel
  have I1 := Lib.hid h1; have I2 := Lib.hid h2
  clear h1 h2
  by_cases hlt : lo < hi
  ·obtain ⟨x, hx⟩ : ∃ x, L[(lo + hi) / 2]? = some x := ⟨_, List.getElem?_eq_getElem (by rw [HN.out]; omega)⟩
   obtain ⟨b, off, ha, hb, hcell⟩ := HR.out (by rw [HN.out]; omega)
   have c0 : w.cell? ⟨b, off + (lo + hi) / 2, none⟩ = some (.string x) := by have := hcell _ x hx 0 (.string x) rfl; rw [show off + (lo + hi) / 2 * St.eS.k + 0 = off + (lo + hi) / 2 by simp [St.eS]] at this; exact this
   clear hcell
   have HX := Lib.hid hx
   obtain ⟨s, hsg⟩ : ∃ s, St.cmpS x k = s := ⟨_, rfl⟩
   have HC := Lib.hid (HC0.out x)
   rw [hsg] at HC
   have HSG : Hid (s < 0 ↔ St.lt x k = true) := Lib.hid (by rw [← hsg]; exact St.cmpS_lt)
   rw [ha]
   clear hsg hx
   by_cases hyx : s < 0
   ·go_wp2_with (go_at_fn 139; (with_reducible refine HC.out.mono ?_); rintro e w4 ⟨rfl, rfl⟩)
    rw [← ha]
    go_roundg (hi - ((lo + hi) / 2 + 1))
    case measure => omega
    case rel =>
     refine ⟨(lo + hi) / 2 + 1, hi, by rw [show ((lo : Int) + (hi : Int)) / 2 + 1 = (((lo + hi) / 2 + 1 : Nat) : Int) by omega], rfl, by omega, hin, by omega, rfl, fun i y hy hi2 => ?_, I2.out⟩
     by_cases e : i = (lo + hi) / 2
     ·subst e; rw [HX.out] at hy; obtain rfl := Option.some.inj hy; exact HSG.out.1 hyx
     ·exact St.lt_trans (HU.out.lt hy HX.out (by omega)) (HSG.out.1 hyx)
   ·go_wp2_with (go_at_fn 139; (with_reducible refine HC.out.mono ?_); rintro e w4 ⟨rfl, rfl⟩)
    rw [← ha]
    go_roundg ((lo + hi) / 2 - lo)
    case measure => omega
    case rel =>
     refine ⟨lo, (lo + hi) / 2, rfl, by rw [show ((lo : Int) + (hi : Int)) / 2 = (((lo + hi) / 2 : Nat) : Int) by omega], by omega, by omega, by omega, rfl, I1.out, fun i y hy hi2 => ?_⟩
     have hxk : St.lt x k = false := by
      cases h : St.lt x k
      ·rfl
      ·exact absurd (HSG.out.2 h) (by omega)
     by_cases e : i = (lo + hi) / 2
     ·subst e; rw [HX.out] at hy; obtain rfl := Option.some.inj hy; exact hxk
     ·have h3 : St.lt x y = true := HU.out.lt HX.out hy (by omega)
      cases h : St.lt y k
      ·rfl
      ·rw [St.lt_trans h3 h] at hxk; cases hxk
  ·have : hi = lo := by omega
   subst this
   have HP : Hid (St.pos id k L = hi) := Lib.hid (St.pos_is (by rw [HN.out]; exact hin) (fun i x h1 h2 => I1.out i x h1 h2) (fun x hx => I2.out hi x hx (Nat.le_refl _)))
   by_cases hnn : hi < n
   ·obtain ⟨x, hx⟩ : ∃ x, L[hi]? = some x := ⟨_, List.getElem?_eq_getElem (by rw [HN.out]; omega)⟩
    have HH : Hid (St.hasK id L k = St.eq x k) := Lib.hid (by rw [St.has_pos HU.out, HP.out, hx]; rfl)
    obtain ⟨b, off, ha, hb, hcell⟩ := HR.out (by rw [HN.out]; omega)
    have c0 : w.cell? ⟨b, off + hi, none⟩ = some (.string x) := by have := hcell _ x hx 0 (.string x) rfl; rw [show off + hi * St.eS.k + 0 = off + hi by simp [St.eS]] at this; exact this
    clear hcell hx
    have HEQ : Hid ((St.cmpS x k == 0) = St.eq x k) := Lib.hid St.cmpS_eq
    have HC := Lib.hid (HC0.out x)
    have HV : Hid (St.hasK id L k = (St.cmpS x k == 0)) := Lib.hid (HH.out.trans HEQ.out.symm)
    clear HEQ HH
    generalize St.cmpS x k = s at HC HV
    rw [ha]
    by_cases hs0 : s = 0
    ·subst hs0
     go_wp2_with (go_at_fn 139; (with_reducible refine HC.out.mono ?_); rintro e w4 ⟨rfl, rfl⟩)
     go_ret2
     exact ⟨by rw [HP.out, HV.out]; rfl, rfl⟩
    ·have hs1 : (s == 0) = false := by simpa using hs0
     go_wp2_with (go_at_fn 139; (with_reducible refine HC.out.mono ?_); rintro e w4 ⟨rfl, rfl⟩)
     go_ret2
     exact ⟨by rw [HP.out, HV.out, hs1]; rfl, rfl⟩
   ·obtain rfl : n = hi := by omega
    have HH : Hid (St.hasK id L k = false) := Lib.hid (by rw [St.has_pos HU.out, HP.out, List.getElem?_eq_none (by rw [HN.out]; exact Nat.le_refl _)])
    go_wp2_with fail
    go_ret2
    exact ⟨by rw [HP.out, HH.out]; rfl, rfl⟩
theorem placeS_is (L : List ByteArray) (hu : St.Up id L) (h1m : L.length ≤ 1000000) (k : ByteArray) (a : Option Addr) (ca : Nat) (w : World) (hl : L.length ≤ ca ∧ ca ≤ 9223372036854775807) (hr : RowE St.eS w a L) :
  Calls Tryz.prog 118 #[.agg #[.func (.func 117) #[] #[], .slice a L.length ca], .string k] w fun e w' => e = .returned (.tuple #[.int .i64 (St.pos id k L), .bool (St.hasK id L k)]) ∧ Below w.heap.size w w' := by
 obtain ⟨W1, hW1, hP, hz1, hB1⟩ := box w #[.func (.func 117) #[] #[], .slice a L.length ca] 116
 have HW1 := Lib.hid hW1; have HB1 := Lib.hid hB1
 have r1 : W1.cell? ⟨w.heap.size, 1, none⟩ = some (.slice a L.length ca) := (hP.cell 1).trans rfl
 have HC := Lib.hid (bsS_is L hu h1m k a ca w.heap.size _ W1 hl (hr.keep hB1) hP)
 have hmf : ∀ (fn : Fn) (first cap : Array Value) (w : World), (Instr.makeFunc fn first cap).run Tryz.prog w = .ok (.func fn first cap) w := fun _ _ _ _ => rfl
 clear hW1 hP hz1 hB1 hr
 go_enter Tryz.func118, Tryz.ntmps118
 go_wp2_with fail
 rw [HW1.out]
 go_wp2_with (go_at_call 138; (with_reducible refine HC.out.mono ?_); rintro e w4 ⟨rfl, rfl⟩)
 go_ret2
 exact ⟨rfl, HB1.out⟩
theorem hasS_is (L : List ByteArray) (hu : St.Up id L) (h1m : L.length ≤ 1000000) (k : ByteArray) (a : Option Addr) (ca : Nat) (w : World) (hl : L.length ≤ ca ∧ ca ≤ 9223372036854775807) (hr : RowE St.eS w a L) :
  Calls Tryz.prog 89 #[.agg #[.func (.func 117) #[] #[], .slice a L.length ca], .string k] w fun e w' => e = .returned (.bool (St.hasS L k)) ∧ Below w.heap.size w w' := by
 obtain ⟨W1, hW1, hP, hz1, hB1⟩ := box w #[.func (.func 117) #[] #[], .slice a L.length ca] 116
 have HW1 := Lib.hid hW1; have HB1 := Lib.hid hB1
 have r0 : W1.cell? ⟨w.heap.size, 0, none⟩ = some (.func (.func 117) #[] #[]) := (hP.cell 0).trans rfl
 have r1 : W1.cell? ⟨w.heap.size, 1, none⟩ = some (.slice a L.length ca) := (hP.cell 1).trans rfl
 have HC := Lib.hid (placeS_is L hu h1m k a ca W1 hl (hr.keep hB1))
 have e : St.hasS L k = St.hasK id L k := rfl
 rw [e]
 clear hW1 hP hz1 hB1 hr e
 go_enter Tryz.func89, Tryz.ntmps89
 go_wp2_with fail
 rw [HW1.out]
 go_wp2_with (go_at_call 118; (with_reducible refine HC.out.mono ?_); rintro e w4 ⟨rfl, hB4⟩)
 go_ret
 exact ⟨rfl, below_up HB1.out hB4⟩
end Go.Proofs.YtbbgebpgpadclaaGreatDoor
namespace Go.Proofs.YtbbgebpgpadclaaGreatDoor
open Go.Shelf
def Lay.trimS_ren : Go.Shelf.Ren := ⟨fun | 160 => 77 | 232 => 106 | 231 => 105 | 227 => 107 | 234 => 109 | 233 => 108 | 236 => 111 | 235 => 110 | 228 => 130 | 271 => 132 | 151 => 131 | 197 => 103 | 120 => 148 | 152 => 147 | 260 => 129 | 137 => 91 | 119 => 155 | 224 => 100 | 225 => 99 | 217 => 98 | 266 => 127 | n => n, fun | 9 => 9 | 4 => 4 | 3 => 3 | 5 => 5 | 117 => 133 | 116 => 132 | 0 => 0 | 124 => 136 | 21 => 21 | 105 => 128 | 46 => 120 | 119 => 166 | 139 => 169 | 138 => 168 | n => n, fun | 3 => 2 | 4 => 3 | n => n⟩
theorem Lay.trimS : Go.Proofs.Lays.n160 Tryz.prog Lay.trimS_ren := {
 mixed := by kernel_rfl
 f119 := Tryz.func155.trans (congrArg some (by kernel_rfl))
 f120 := Tryz.func148.trans (congrArg some (by kernel_rfl))
 f137 := Tryz.func91.trans (congrArg some (by kernel_rfl))
 f151 := Tryz.func131.trans (congrArg some (by kernel_rfl))
 f152 := Tryz.func147.trans (congrArg some (by kernel_rfl))
 f160 := Tryz.func77.trans (congrArg some (by kernel_rfl))
 f197 := Tryz.func103.trans (congrArg some (by kernel_rfl))
 f217 := Tryz.func98.trans (congrArg some (by kernel_rfl))
 f224 := Tryz.func100.trans (congrArg some (by kernel_rfl))
 f225 := Tryz.func99.trans (congrArg some (by kernel_rfl))
 f227 := Tryz.func107.trans (congrArg some (by kernel_rfl))
 f228 := Tryz.func130.trans (congrArg some (by kernel_rfl))
 f231 := Tryz.func105.trans (congrArg some (by kernel_rfl))
 f232 := Tryz.func106.trans (congrArg some (by kernel_rfl))
 f233 := Tryz.func108.trans (congrArg some (by kernel_rfl))
 f234 := Tryz.func109.trans (congrArg some (by kernel_rfl))
 f235 := Tryz.func110.trans (congrArg some (by kernel_rfl))
 f236 := Tryz.func111.trans (congrArg some (by kernel_rfl))
 f260 := Tryz.func129.trans (congrArg some (by kernel_rfl))
 f266 := Tryz.func127.trans (congrArg some (by kernel_rfl))
 f271 := Tryz.func132.trans (congrArg some (by kernel_rfl))
 t0 := Tryz.underlying0
 a0 := Tryz.isAgg0
 z0 := Tryz.sizeOf0
 v0 := Tryz.zeroValue0
 t3 := Tryz.underlying3
 a3 := Tryz.isAgg3
 z3 := Tryz.sizeOf3
 v3 := Tryz.zeroValue3
 t4 := Tryz.underlying4
 a4 := Tryz.isAgg4
 z4 := Tryz.sizeOf4
 v4 := Tryz.zeroValue4
 t5 := Tryz.underlying5
 a5 := Tryz.isAgg5
 z5 := Tryz.sizeOf5
 v5 := Tryz.zeroValue5
 t9 := Tryz.underlying9
 a9 := Tryz.isAgg9
 z9 := Tryz.sizeOf9
 v9 := Tryz.zeroValue9
 t21 := Tryz.underlying21
 a21 := Tryz.isAgg21
 z21 := Tryz.sizeOf21
 v21 := Tryz.zeroValue21
 t46 := Tryz.underlying120
 a46 := Tryz.isAgg120
 z46 := Tryz.sizeOf120
 v46 := Tryz.zeroValue120
 t105 := Tryz.underlying128
 a105 := Tryz.isAgg128
 z105 := Tryz.sizeOf128
 v105 := Tryz.zeroValue128
 t116 := Tryz.underlying132
 a116 := Tryz.isAgg132
 z116 := Tryz.sizeOf132
 t117 := Tryz.underlying133
 a117 := Tryz.isAgg133
 z117 := Tryz.sizeOf133
 v117 := Tryz.zeroValue133
 t119 := Tryz.underlying166
 a119 := Tryz.isAgg166
 z119 := Tryz.sizeOf166
 t124 := Tryz.underlying136
 a124 := Tryz.isAgg136
 z124 := Tryz.sizeOf136
 v124 := Tryz.zeroValue136
 t138 := Tryz.underlying168
 a138 := Tryz.isAgg168
 z138 := Tryz.sizeOf168
 v138 := Tryz.zeroValue168
 t139 := Tryz.underlying169
 a139 := Tryz.isAgg169
 z139 := Tryz.sizeOf169
 v139 := Tryz.zeroValue169
 g3 := by kernel_rfl
 g4 := by kernel_rfl }
def Lay.atoiS_ren : Go.Shelf.Ren := ⟨fun | 172 => 78 | 244 => 112 | 245 => 113 | 247 => 133 | 279 => 134 | 280 => 135 | 281 => 136 | 282 => 137 | 287 => 149 | 316 => 150 | 171 => 25 | 205 => 151 | 321 => 156 | 322 => 157 | 243 => 72 | 246 => 97 | 283 => 119 | 284 => 120 | 285 => 121 | 286 => 122 | 129 => 142 | 317 => 141 | 318 => 143 | 319 => 144 | 320 => 145 | 337 => 153 | 338 => 154 | n => n, fun | 9 => 9 | 3 => 3 | 75 => 59 | 76 => 60 | 4 => 4 | 5 => 5 | 167 => 154 | 37 => 55 | 0 => 0 | 85 => 155 | 2 => 2 | 168 => 157 | 53 => 101 | 175 => 171 | 46 => 120 | 210 => 174 | 127 => 106 | 145 => 181 | 143 => 179 | 21 => 21 | 171 => 141 | 173 => 144 | 212 => 162 | 51 => 146 | 20 => 20 | 213 => 163 | 232 => 182 | 233 => 183 | 80 => 47 | n => n, fun | 15 => 4 | 16 => 5 | 17 => 1 | 18 => 6 | 19 => 7 | n => n⟩
theorem Lay.atoiS : Go.Proofs.Lays.n172 Tryz.prog Lay.atoiS_ren := {
 mixed := by kernel_rfl
 f129 := Tryz.func142.trans (congrArg some (by kernel_rfl))
 f171 := Tryz.func25.trans (congrArg some (by kernel_rfl))
 f172 := Tryz.func78.trans (congrArg some (by kernel_rfl))
 f205 := Tryz.func151.trans (congrArg some (by kernel_rfl))
 f243 := Tryz.func72.trans (congrArg some (by kernel_rfl))
 f244 := Tryz.func112.trans (congrArg some (by kernel_rfl))
 f245 := Tryz.func113.trans (congrArg some (by kernel_rfl))
 f246 := Tryz.func97.trans (congrArg some (by kernel_rfl))
 f247 := Tryz.func133.trans (congrArg some (by kernel_rfl))
 f279 := Tryz.func134.trans (congrArg some (by kernel_rfl))
 f280 := Tryz.func135.trans (congrArg some (by kernel_rfl))
 f281 := Tryz.func136.trans (congrArg some (by kernel_rfl))
 f282 := Tryz.func137.trans (congrArg some (by kernel_rfl))
 f283 := Tryz.func119.trans (congrArg some (by kernel_rfl))
 f284 := Tryz.func120.trans (congrArg some (by kernel_rfl))
 f285 := Tryz.func121.trans (congrArg some (by kernel_rfl))
 f286 := Tryz.func122.trans (congrArg some (by kernel_rfl))
 f287 := Tryz.func149.trans (congrArg some (by kernel_rfl))
 f316 := Tryz.func150.trans (congrArg some (by kernel_rfl))
 f317 := Tryz.func141.trans (congrArg some (by kernel_rfl))
 f318 := Tryz.func143.trans (congrArg some (by kernel_rfl))
 f319 := Tryz.func144.trans (congrArg some (by kernel_rfl))
 f320 := Tryz.func145.trans (congrArg some (by kernel_rfl))
 f321 := Tryz.func156.trans (congrArg some (by kernel_rfl))
 f322 := Tryz.func157.trans (congrArg some (by kernel_rfl))
 f337 := Tryz.func153.trans (congrArg some (by kernel_rfl))
 f338 := Tryz.func154.trans (congrArg some (by kernel_rfl))
 t0 := Tryz.underlying0
 a0 := Tryz.isAgg0
 z0 := Tryz.sizeOf0
 v0 := Tryz.zeroValue0
 t2 := Tryz.underlying2
 a2 := Tryz.isAgg2
 z2 := Tryz.sizeOf2
 v2 := Tryz.zeroValue2
 t3 := Tryz.underlying3
 a3 := Tryz.isAgg3
 z3 := Tryz.sizeOf3
 v3 := Tryz.zeroValue3
 t4 := Tryz.underlying4
 a4 := Tryz.isAgg4
 z4 := Tryz.sizeOf4
 v4 := Tryz.zeroValue4
 t5 := Tryz.underlying5
 a5 := Tryz.isAgg5
 z5 := Tryz.sizeOf5
 v5 := Tryz.zeroValue5
 t9 := Tryz.underlying9
 a9 := Tryz.isAgg9
 z9 := Tryz.sizeOf9
 v9 := Tryz.zeroValue9
 t20 := Tryz.underlying20
 a20 := Tryz.isAgg20
 z20 := Tryz.sizeOf20
 v20 := Tryz.zeroValue20
 t21 := Tryz.underlying21
 a21 := Tryz.isAgg21
 z21 := Tryz.sizeOf21
 v21 := Tryz.zeroValue21
 t37 := Tryz.underlying55
 a37 := Tryz.isAgg55
 z37 := Tryz.sizeOf55
 v37 := Tryz.zeroValue55
 t46 := Tryz.underlying120
 a46 := Tryz.isAgg120
 z46 := Tryz.sizeOf120
 v46 := Tryz.zeroValue120
 t51 := Tryz.underlying146
 a51 := Tryz.isAgg146
 z51 := Tryz.sizeOf146
 v51 := Tryz.zeroValue146
 t53 := Tryz.underlying101
 a53 := Tryz.isAgg101
 z53 := Tryz.sizeOf101
 v53 := Tryz.zeroValue101
 t75 := Tryz.underlying59
 a75 := Tryz.isAgg59
 z75 := Tryz.sizeOf59
 v75 := Tryz.zeroValue59
 t76 := Tryz.underlying60
 a76 := Tryz.isAgg60
 z76 := Tryz.sizeOf60
 v76 := Tryz.zeroValue60
 t85 := Tryz.underlying155
 a85 := Tryz.isAgg155
 z85 := Tryz.sizeOf155
 v85 := Tryz.zeroValue155
 t127 := Tryz.underlying106
 a127 := Tryz.isAgg106
 z127 := Tryz.sizeOf106
 v127 := Tryz.zeroValue106
 t143 := Tryz.underlying179
 a143 := Tryz.isAgg179
 z143 := Tryz.sizeOf179
 v143 := Tryz.zeroValue179
 t145 := Tryz.underlying181
 a145 := Tryz.isAgg181
 z145 := Tryz.sizeOf181
 v145 := Tryz.zeroValue181
 t167 := Tryz.underlying154
 a167 := Tryz.isAgg154
 z167 := Tryz.sizeOf154
 v167 := Tryz.zeroValue154
 t168 := Tryz.underlying157
 a168 := Tryz.isAgg157
 z168 := Tryz.sizeOf157
 v168 := Tryz.zeroValue157
 t171 := Tryz.underlying141
 a171 := Tryz.isAgg141
 z171 := Tryz.sizeOf141
 v171 := Tryz.zeroValue141
 t173 := Tryz.underlying144
 a173 := Tryz.isAgg144
 z173 := Tryz.sizeOf144
 v173 := Tryz.zeroValue144
 t175 := Tryz.underlying171
 a175 := Tryz.isAgg171
 z175 := Tryz.sizeOf171
 v175 := Tryz.zeroValue171
 t210 := Tryz.underlying174
 a210 := Tryz.isAgg174
 z210 := Tryz.sizeOf174
 v210 := Tryz.zeroValue174
 t212 := Tryz.underlying162
 a212 := Tryz.isAgg162
 z212 := Tryz.sizeOf162
 v212 := Tryz.zeroValue162
 t213 := Tryz.underlying163
 a213 := Tryz.isAgg163
 z213 := Tryz.sizeOf163
 t232 := Tryz.underlying182
 a232 := Tryz.isAgg182
 z232 := Tryz.sizeOf182
 v232 := Tryz.zeroValue182
 t233 := Tryz.underlying183
 a233 := Tryz.isAgg183
 z233 := Tryz.sizeOf183
 v233 := Tryz.zeroValue183
 g15 := by kernel_rfl
 g16 := by kernel_rfl
 g17 := by kernel_rfl
 g18 := by kernel_rfl
 g19 := by kernel_rfl }
end Go.Proofs.YtbbgebpgpadclaaGreatDoor
namespace Go.Proofs.YtbbgebpgpadclaaGreatDoor
open Go.RowKit Go.Sort Go.Shelf
namespace Hx
def hexD : List UInt8 := [48, 49, 50, 51, 52, 53, 54, 55, 56, 57, 97, 98, 99, 100, 101, 102]
def isH (b : UInt8) : Bool := Fd.hexN b.toNat
theorem mem_hexD (b : UInt8) : hexD.contains b = isH b := by
 rw [Bool.eq_iff_iff]
 unfold hexD isH Fd.hexN
 rw [decide_eq_true_iff, List.contains_iff_mem]
 simp only [List.mem_cons, List.not_mem_nil, or_false, ← UInt8.toNat_inj]
 simp only [UInt8.reduceToNat]
 omega
theorem trim_nilH (l : List UInt8) : Lib.trimS l hexD = [] ↔ l.all isH = true := by
 have e : (fun x => hexD.contains x) = isH := funext mem_hexD
 unfold Lib.trimS Lib.trimLeftS Lib.trimRightS
 rw [e]
 constructor
 ·intro h
  by_cases c : l.reverse.dropWhile isH = []
  ·have := (Dg.dropWhile_nil isH l.reverse).1 c
   rwa [List.all_reverse] at this
  ·have h1 := Dg.dropWhile_head isH l.reverse c
   have h2 := (Dg.dropWhile_nil isH _).1 h
   rw [List.all_reverse, h1] at h2
   exact absurd h2 (by simp)
 ·intro h
  have : l.reverse.dropWhile isH = [] := (Dg.dropWhile_nil isH l.reverse).2 (by rw [List.all_reverse]; exact h)
  rw [this]; rfl
theorem fileB_all {s : ByteArray} (h : s.size = 16) : Fd.fileB s = s.data.toList.all isH := by
 have hl : s.data.toList.length = s.size := rfl
 rw [Bool.eq_iff_iff, List.all_eq_true]
 unfold Fd.fileB
 rw [decide_eq_true_eq]
 constructor
 ·rintro ⟨_, h2⟩ b hb
  obtain ⟨i, hi⟩ := List.getElem?_of_mem hb
  obtain ⟨hlt, hg⟩ := List.getElem?_eq_some_iff.1 hi
  have h3 := h2 i (by omega)
  have e : s[i] = b := by rw [← hg]; rfl
  rw [e] at h3
  exact h3
 ·intro h2
  refine ⟨h, fun i hi => ?_⟩
  exact h2 _ (show s[i] ∈ s.data.toList from by
   have e : s[i] = s.data.toList[i]'(by rw [hl]; exact hi) := rfl
   rw [e]; exact List.getElem_mem _)
end Hx
theorem trimH_is (s : ByteArray) (h0 : 0 < s.size) (hl : s.size ≤ 9223372036854775807) (w : World) :
  Calls Tryz.prog 77 #[.string s, .string ⟨#[48, 49, 50, 51, 52, 53, 54, 55, 56, 57, 97, 98, 99, 100, 101, 102]⟩] w fun e w' => e = .returned (.string (Tx.mk (Lib.trimS s.data.toList Hx.hexD))) ∧ Below w.heap.size w w' := by
 refine (Any.strings_Trim_set Lay.trimS Tryz.zeroValue132 (by kernel_rfl) s (Tx.mk Hx.hexD) w (by rw [Tx.mk_size]; decide) h0 hl (by rw [Tx.mk_size]; decide) (fun j b hb => ?_)).mono ?_
 ·rw [Tx.mk_toList] at hb
  have hm : b ∈ Hx.hexD := List.mem_of_getElem? hb
  have hd : Hx.isH b = true := by rw [← Hx.mem_hexD]; exact List.contains_iff_mem.2 hm
  have := of_decide_eq_true hd
  omega
 ·rintro e w' ⟨he, q, rfl⟩
  exact ⟨he, below_drewN (((Below.refl _ _).alloc (Nat.le_refl _) _).alloc (by simp) _) q⟩
theorem mkEmptyH_no (l : List UInt8) (h : l ≠ []) : (Tx.mk l).toList.isEmpty = false := by
 have e : (Tx.mk l).toList = l := by rw [ByteArray.toList_eq]
 rw [e]; cases l with | nil => exact absurd rfl h | cons a r => rfl
end Go.Proofs.YtbbgebpgpadclaaGreatDoor
namespace Go.Proofs.YtbbgebpgpadclaaGreatDoor
open Go.RowKit
namespace St
theorem idx_here {α : Type} {p : α → Bool} {L : List α} {j : Nat} {q : Int} {x : α} (h : idx p (L.drop j) j = q) (hx : L[j]? = some x) (hp : p x = true) : (j : Int) = q := by
 obtain ⟨hlt, hg⟩ := List.getElem?_eq_some_iff.1 hx
 rw [List.drop_eq_getElem_cons hlt, hg, idx, if_pos hp] at h
 exact h
theorem idx_next {α : Type} {p : α → Bool} {L : List α} {j : Nat} {q : Int} {x : α} (h : idx p (L.drop j) j = q) (hx : L[j]? = some x) (hp : p x = false) : idx p (L.drop (j + 1)) (j + 1) = q := by
 obtain ⟨hlt, hg⟩ := List.getElem?_eq_some_iff.1 hx
 rw [List.drop_eq_getElem_cons hlt, hg, idx, if_neg (by rw [hp]; decide)] at h
 exact h
theorem idx_end {α : Type} {p : α → Bool} {L : List α} {q : Int} (h : idx p (L.drop L.length) L.length = q) : (-1 : Int) = q := by
 rw [List.drop_length] at h; exact h
theorem idx_some {α : Type} {p : α → Bool} : ∀ {L : List α} {i : Nat} {n : Int}, idx p L i = n → 0 ≤ n → ∃ (j : Nat) (x : α), n = ((i + j : Nat) : Int) ∧ L[j]? = some x ∧ p x = true ∧ ∀ k y, k < j → L[k]? = some y → p y = false
 | [], i, n, h, h0 => by rw [idx] at h; omega
 | y :: r, i, n, h, h0 => by
   rw [idx] at h
   split at h
   ·rename_i hy
    exact ⟨0, y, h.symm, rfl, hy, fun k z hk => absurd hk (Nat.not_lt_zero _)⟩
   ·rename_i hy
    obtain ⟨j, x, h1, h2, h3, h4⟩ := idx_some h h0
    refine ⟨j + 1, x, by rw [h1]; congr 1; omega, by simpa using h2, h3, fun k z hk hz => ?_⟩
    cases k with
    | zero => simp at hz; subst hz; simpa using hy
    | succ k => exact h4 k z (by omega) (by simpa using hz)
theorem hasTier_idx (L : List Tir) (n : ByteArray) : hasTier L n = decide (0 ≤ tierAt L n) := by
 unfold tierAt
 cases h : hasTier L n with
 | false =>
   have : idx (fun t => eq t.name n) L 0 = -1 := idx_none fun x hx => by
    cases e : eq x.name n with
    | false => rfl
    | true =>
      have : hasTier L n = true := List.any_eq_true.2 ⟨x, hx, e⟩
      rw [h] at this; cases this
   rw [this]; rfl
 | true =>
   symm
   rw [decide_eq_true_eq]
   rcases Int.lt_or_le (idx (fun t => eq t.name n) L 0) 0 with g | g
   ·obtain ⟨x, hx, e⟩ := List.any_eq_true.1 h
    have := (idx_neg.1 g) x hx
    rw [e] at this; cases this
   ·exact g
theorem tier_first {L : List Tir} {j : Nat} {t : Tir} (h : L[j]? = some t) : (tierAt L t.name < (j : Int)) ↔ hasTier (L.take j) t.name = true := by
 unfold tierAt
 constructor
 ·intro hlt
  rcases Int.lt_or_le (idx (fun x => eq x.name t.name) L 0) 0 with g | g
  ·have := (idx_neg.1 g) t (List.mem_of_getElem? h)
   rw [eq_refl] at this; cases this
  ·obtain ⟨k, x, h1, h2, h3, _⟩ := idx_some rfl g
   have hk : k < j := by omega
   refine List.any_eq_true.2 ⟨x, List.mem_of_getElem? (i := k) ?_, h3⟩
   rw [List.getElem?_take, if_pos hk]; exact h2
 ·intro hh
  obtain ⟨x, hx, e⟩ := List.any_eq_true.1 hh
  obtain ⟨k, hk⟩ := List.getElem?_of_mem hx
  rw [List.getElem?_take] at hk
  split at hk
  ·rename_i hkj
   rcases Int.lt_or_le (idx (fun x => eq x.name t.name) L 0) 0 with g | g
   ·omega
   ·obtain ⟨m, y, h1, h2, h3, h4⟩ := idx_some rfl g
    rcases Nat.lt_or_ge k m with hm | hm
    ·have := h4 k x hm hk; rw [e] at this; cases this
    ·omega
  ·cases hk
theorem find_here {α : Type} {p : α → Bool} {L : List α} {j : Nat} {q : Option α} {x : α} (h : (L.drop j).find? p = q) (hx : L[j]? = some x) (hp : p x = true) : some x = q := by
 obtain ⟨hlt, hg⟩ := List.getElem?_eq_some_iff.1 hx
 rw [List.drop_eq_getElem_cons hlt, hg, List.find?_cons, hp] at h
 exact h
theorem find_next {α : Type} {p : α → Bool} {L : List α} {j : Nat} {q : Option α} {x : α} (h : (L.drop j).find? p = q) (hx : L[j]? = some x) (hp : p x = false) : (L.drop (j + 1)).find? p = q := by
 obtain ⟨hlt, hg⟩ := List.getElem?_eq_some_iff.1 hx
 rw [List.drop_eq_getElem_cons hlt, hg, List.find?_cons, hp] at h
 exact h
theorem find_end {α : Type} {p : α → Bool} {L : List α} {q : Option α} (h : (L.drop L.length).find? p = q) : none = q := by
 rw [List.drop_length] at h; exact h
end St
end Go.Proofs.YtbbgebpgpadclaaGreatDoor
namespace Go.Proofs.YtbbgebpgpadclaaGreatDoor
open Go.RowKit Go.Sort Go.Shelf
theorem below_allocs {a b : World} (h : Below a.heap.size a b) (o : Obj) : Below a.heap.size a (b.alloc o) := h.alloc h.size o
theorem moment_is (n : Int) (b : Bool) (h : Ev.mom n = b) (w : World) : Calls Tryz.prog 65 #[.int .i64 n] w fun e w' => e = .returned (.bool b) ∧ w = w' := by
 cases b
 ·have h' := (Ev.mom_no n).1 h
  clear h
  by_cases c : 0 ≤ n
  ·go_enter Tryz.func65, Tryz.ntmps65
   go_wp2_with fail
   go_ret
   exact ⟨ret_bool (by simp <;> omega), rfl⟩
  ·go_enter Tryz.func65, Tryz.ntmps65
   go_wp2_with fail
   go_ret
   exact ⟨ret_bool (by simp <;> omega), rfl⟩
 ·have h' := (Ev.mom_iff n).1 h
  clear h
  go_enter Tryz.func65, Tryz.ntmps65
  go_wp2_with fail
  go_ret
  exact ⟨ret_bool (by simp <;> omega), rfl⟩
def Row (w : World) (a : Option Addr) (len : Nat) (f : Nat → Value) : Prop :=
 0 < len → ∃ b off, a = some ⟨b, off, none⟩ ∧ b < w.heap.size ∧ ∀ i, i < len → w.cell? ⟨b, off + i, none⟩ = some (f i)
theorem Row.keep {w w' : World} {a : Option Addr} {len : Nat} {f : Nat → Value} (h : Row w a len f) (hb : Below w.heap.size w w') : Row w' a len f := by
 intro hl
 obtain ⟨b, off, rfl, hlt, hc⟩ := h hl
 exact ⟨b, off, rfl, Nat.lt_of_lt_of_le hlt hb.size, fun i hi => (hb.cell (p := ⟨b, off + i, none⟩) hlt).trans (hc i hi)⟩
theorem in_is (n lo hi : Int) (b : Bool) (h : decide (lo ≤ n ∧ n ≤ hi) = b) (w : World) : Calls Tryz.prog 57 #[.int .i64 n, .int .i64 lo, .int .i64 hi] w fun e w' => e = .returned (.bool b) ∧ w = w' := by
 cases b
 ·rw [decide_eq_false_iff_not] at h
  by_cases c : lo ≤ n
  ·have d : hi < n := by omega
   clear h
   go_enter Tryz.func57, Tryz.ntmps57
   go_wp2
   go_ret
   exact ⟨ret_bool (by simp <;> omega), rfl⟩
  ·clear h
   go_enter Tryz.func57, Tryz.ntmps57
   go_wp2
   go_ret
   exact ⟨ret_bool (by simp <;> omega), rfl⟩
 ·obtain ⟨h1, h2⟩ := of_decide_eq_true h
  clear h
  go_enter Tryz.func57, Tryz.ntmps57
  go_wp2
  go_ret
  exact ⟨ret_bool (by simp <;> omega), rfl⟩
theorem indexByteS (s : ByteArray) (c : Int) (w : World) : Calls Tryz.prog 91 #[.string s, .int .u8 c] w fun e w' => e = .returned (.int .i64 (Lib.indexByte s.data.toList c.toNat.toUInt8)) ∧ w = w' := by
 go_enter Tryz.func91, Tryz.ntmps91
 go_wp2
 rw [run_callFunc_extern Tryz.func127 (by kernel_rfl) (by kernel_rfl) (by kernel_rfl) (e := Extern.BytealgIndexByte.indexByte) (by kernel_rfl), Lib.run_indexByteString]
 simp only [Result.andThen]
 rw [Oper.upon_value]
 go_wp2
 go_ret
 exact ⟨rfl, rfl⟩
theorem hex_all : ∀ n, n < 256 → decide (Lib.indexByte [48, 49, 50, 51, 52, 53, 54, 55, 56, 57, 97, 98, 99, 100, 101, 102] n.toUInt8 < 0) = !Fd.hexN n := by decide +kernel
theorem hexIdx (c : UInt8) (b : Bool) (h : Fd.hexN c.toNat = b) (W : World) : Calls Tryz.prog 91 #[.string ⟨#[48, 49, 50, 51, 52, 53, 54, 55, 56, 57, 97, 98, 99, 100, 101, 102]⟩, .int .u8 c.toNat] W fun e w' => ∃ r : Int, e = .returned (.int .i64 r) ∧ decide (r < 0) = !b ∧ W = w' := by
 refine (indexByteS _ _ W).mono fun e w' h' => ⟨_, h'.1, ?_, h'.2⟩
 have := hex_all c.toNat c.toNat_lt
 rw [h] at this
 rw [Int.toNat_natCast]
 exact this
theorem isDigest_is (s : ByteArray) (hs : s.size ≤ 9223372036854775807) (b : Bool) (h : Fd.fileB s = b) (w : World) : Calls Tryz.prog 60 #[.string s] w fun e w' => e = .returned (.bool b) ∧ w = w' := by
 have HB := Lib.hid h; clear h
 go_enter Tryz.func60, Tryz.ntmps60
 go_wp2_with fail
 go_loopg [6] s.size (fun gk i wr => ∃ j : Nat, j ≤ s.size ∧ gk = s.size - j ∧ i = .int .i64 j ∧ (∀ i, (h : i < s.size) → i < j → Fd.hexN s[i].toNat = true) ∧ w = wr)
 case atStart => exact ⟨0, by omega, rfl, rfl, fun i _ hi => by omega, rfl⟩
 case round =>
  obtain ⟨j, hj, rfl, rfl, hall, rfl⟩ := hrel
  have HALL := Lib.hid hall; clear hall
  by_cases hlt : j < s.size
  ·by_cases hx : Fd.hexN s[j].toNat = true
   ·have HN := Lib.hid (Fd.upto_next (P := fun _ c => Fd.hexN c = true) HALL.out hlt hx)
    have HX := Lib.hid (fun W => hexIdx s[j] true hx W)
    clear hx
    go_wp2_with (go_at_call 91; refine (HX.out _).mono ?_; rintro e w' ⟨r, rfl, hr, rfl⟩; simp only [Bool.not_true] at hr; have hr2 : ¬ r < 0 := of_decide_eq_false hr)
    go_roundg (s.size - (j + 1))
    case rel => exact ⟨j + 1, by omega, rfl, by go_num, HN.out, rfl⟩
    case measure => omega
   ·have hx' : Fd.hexN s[j].toNat = false := by simpa using hx
    have HX := Lib.hid (fun W => hexIdx s[j] false hx' W)
    have HB2 : Hid (b = false) := by have h1 := HB.out; rw [Fd.fileB_at j hlt hx'] at h1; exact Lib.hid h1.symm
    clear hx'
    clear hx
    go_wp2_with (go_at_call 91; refine (HX.out _).mono ?_; rintro e w' ⟨r, rfl, hr, rfl⟩; simp only [Bool.not_false] at hr; have hr2 : r < 0 := of_decide_eq_true hr)
    go_ret
    exact ⟨ret_bool HB2.out.symm, rfl⟩
  ·obtain rfl : j = s.size := by omega
   by_cases hz : s.size = 16
   ·have hz1 : ((s.size : Int) == 16) = true := by simp; omega
    have HB2 : Hid (b = true) := by have h1 := HB.out; rw [Fd.fileB_yes hz (fun i hi => HALL.out i hi hi)] at h1; exact Lib.hid h1.symm
    have HZ := Lib.hid hz; clear hz
    go_wp2_with fail
    go_ret
    exact ⟨ret_bool HB2.out.symm, rfl⟩
   ·have hz1 : ((s.size : Int) == 16) = false := by simp; omega
    have HB2 : Hid (b = false) := by have h1 := HB.out; rw [Fd.fileB_size hz] at h1; exact Lib.hid h1.symm
    clear hz
    go_wp2_with fail
    go_ret
    exact ⟨ret_bool HB2.out.symm, rfl⟩
theorem isNameR_is (s : ByteArray) (hs : s.size ≤ 9223372036854775807) (b : Bool) (h : Fd.nameB s = b) (w : World) : Calls Tryz.prog 58 #[.string s] w fun e w' => e = .returned (.bool b) ∧ w = w' := by
 have HB := Lib.hid h; clear h
 go_enter Tryz.func58, Tryz.ntmps58
 go_wp2_with fail
 go_loopg [6] s.size (fun gk i wr => ∃ j : Nat, j ≤ s.size ∧ gk = s.size - j ∧ i = .int .i64 j ∧ (∀ i, (h : i < s.size) → i < j → Fd.nmN i s[i].toNat = true) ∧ w = wr)
 case atStart => exact ⟨0, by omega, rfl, rfl, fun i _ hi => by omega, rfl⟩
 case round =>
  obtain ⟨j, hj, rfl, rfl, hall, rfl⟩ := hrel
  have HALL := Lib.hid hall; clear hall
  by_cases hlt : j < s.size
  ·by_cases hx : Fd.nmN j s[j].toNat = true
   ·have HN := Lib.hid (Fd.upto_next (P := fun i c => Fd.nmN i c = true) HALL.out hlt hx)
    have ht := (Fd.tailN_iff _).1 (Fd.nmN_tail _ _ hx)
    by_cases i1 : (97 : Int) ≤ (s[j].toNat : Int) ∧ (s[j].toNat : Int) ≤ 122
    ·obtain ⟨i1, i2⟩ := i1
     clear hx ht
     go_wp2_with fail
     go_roundg (s.size - (j + 1))
     case rel => exact ⟨j + 1, by omega, rfl, by go_num, HN.out, rfl⟩
     case measure => omega
    ·have hj0 : j ≠ 0 := by
      rintro rfl
      rw [Fd.nmN_zero, Fd.letN_iff] at hx; omega
     have hj1 : ((j : Int) == 0) = false := by simpa using hj0
     clear hx
     by_cases i3 : s[j].toNat = 45
     ·have i4 : ((s[j].toNat : Int) == 45) = true := by simp; omega
      have i5 : ((s[j].toNat : Int) != 45) = false := by simp; omega
      have i6 : (s[j].toNat : Int) < 97 := by omega
      clear i1 ht i3
      go_wp2_with fail
      go_roundg (s.size - (j + 1))
      case rel => exact ⟨j + 1, by omega, rfl, by go_num, HN.out, rfl⟩
      case measure => omega
     ·have i4 : ((s[j].toNat : Int) == 45) = false := by simp; omega
      have i5 : ((s[j].toNat : Int) != 45) = true := by simp; omega
      have i6 : (s[j].toNat : Int) < 97 := by omega
      have i7 : (48 : Int) ≤ (s[j].toNat : Int) := by omega
      have i8 : (s[j].toNat : Int) ≤ 57 := by omega
      clear i1 ht i3
      go_wp2_with fail
      go_roundg (s.size - (j + 1))
      case rel => exact ⟨j + 1, by omega, rfl, by go_num, HN.out, rfl⟩
      case measure => omega
   ·have hx' : Fd.nmN j s[j].toNat = false := by simpa using hx
    have HB2 : Hid (b = false) := by have h1 := HB.out; rw [Fd.nameB_at j hlt hx'] at h1; exact Lib.hid h1.symm
    by_cases hj0 : j = 0
    ·have hj1 : ((j : Int) == 0) = true := by simpa using hj0
     have hl : ¬ (97 ≤ s[j].toNat ∧ s[j].toNat ≤ 122) := by
      have hx2 := hx'
      unfold Fd.nmN at hx2; rw [if_pos hj0] at hx2
      rw [← Fd.letN_iff, hx2]; simp
     have HJ := Lib.hid hj0; clear hj0 hx'
     by_cases i1 : (s[j].toNat : Int) < 97
     ·clear hl
      clear hx
      go_wp2_with fail
      go_ret
      exact ⟨ret_bool HB2.out.symm, rfl⟩
     ·have i2 : (122 : Int) < (s[j].toNat : Int) := by omega
      clear hl
      clear hx
      go_wp2_with fail
      go_ret
      exact ⟨ret_bool HB2.out.symm, rfl⟩
    ·have hj1 : ((j : Int) == 0) = false := by simpa using hj0
     have hl : ¬ (97 ≤ s[j].toNat ∧ s[j].toNat ≤ 122 ∨ 48 ≤ s[j].toNat ∧ s[j].toNat ≤ 57 ∨ s[j].toNat = 45) := by rw [← Fd.tailN_iff]; rw [Fd.nmN_pos _ _ hj0] at hx'; rw [hx']; simp
     have i4 : ((s[j].toNat : Int) == 45) = false := by simp; omega
     have i5 : ((s[j].toNat : Int) != 45) = true := by simp; omega
     clear hx' hj0
     by_cases i1 : (s[j].toNat : Int) < 97
     ·by_cases i2 : (s[j].toNat : Int) < 48
      ·clear hl
       clear hx
       go_wp2_with fail
       go_ret
       exact ⟨ret_bool HB2.out.symm, rfl⟩
      ·have i3 : (57 : Int) < (s[j].toNat : Int) := by omega
       clear hl
       clear hx
       go_wp2_with fail
       go_ret
       exact ⟨ret_bool HB2.out.symm, rfl⟩
     ·have i2 : (122 : Int) < (s[j].toNat : Int) := by omega
      have i3 : (57 : Int) < (s[j].toNat : Int) := by omega
      have i6 : (48 : Int) ≤ (s[j].toNat : Int) := by omega
      clear hl
      clear hx
      go_wp2_with fail
      go_ret
      exact ⟨ret_bool HB2.out.symm, rfl⟩
  ·obtain rfl : j = s.size := by omega
   by_cases hz : 1 ≤ s.size ∧ s.size ≤ 40
   ·have HB2 : Hid (b = true) := by have h1 := HB.out; rw [Fd.nameB_yes hz (fun i hi => HALL.out i hi hi)] at h1; exact Lib.hid h1.symm
    obtain ⟨z1, z2⟩ := hz
    have z3 : (1 : Int) ≤ (s.size : Int) := by omega
    have z4 : (s.size : Int) ≤ 40 := by omega
    go_wp2_with fail
    go_ret
    exact ⟨ret_bool (by first | exact HB2.out.symm | (rw [HB2.out]; simp <;> omega)), rfl⟩
   ·have HB2 : Hid (b = false) := by have h1 := HB.out; rw [Fd.nameB_size hz] at h1; exact Lib.hid h1.symm
    by_cases z3 : (1 : Int) ≤ (s.size : Int)
    ·have z4 : (40 : Int) < (s.size : Int) := by omega
     clear hz
     go_wp2_with fail
     go_ret
     exact ⟨ret_bool (by first | exact HB2.out.symm | (rw [HB2.out]; simp <;> omega)), rfl⟩
    ·clear hz
     go_wp2_with fail
     go_ret
     exact ⟨ret_bool (by first | exact HB2.out.symm | (rw [HB2.out]; simp <;> omega)), rfl⟩
theorem strEmpty_no (s : ByteArray) (h : s.size ≠ 0) : s.toList.isEmpty = false := by
 rw [← decide_eq_emptyBytes]; exact decide_eq_false fun e => h (by rw [e]; rfl)
theorem strEmpty_yes (s : ByteArray) (h : s.size = 0) : s.toList.isEmpty = true := by
 rw [← decide_eq_emptyBytes]
 refine decide_eq_true ?_
 obtain ⟨d⟩ := s
 have : d = #[] := Array.eq_empty_of_size_eq_zero h
 subst this; rfl
theorem isNameW_is (s : ByteArray) (hs : s.size ≤ 9223372036854775807) (b : Bool) (h : Fd.nameB s = b) (w : World) : Calls Tryz.prog 80 #[.string s] w fun e w' => e = .returned (.bool b) ∧ w = w' := by
 have HB := Lib.hid h; clear h
 by_cases z0 : s.size = 0
 ·have HB2 : Hid (b = false) := by have h1 := HB.out; rw [Fd.nameB_size (by omega)] at h1; exact Lib.hid h1.symm
  have e1 := strEmpty_yes s z0
  have e2 : s.toList = [] := by simpa using e1
  have HZ := Lib.hid z0; clear z0
  go_enter Tryz.func80, Tryz.ntmps80
  go_wp2_with fail
  go_ret
  exact ⟨ret_bool (by first | exact HB2.out.symm | (rw [HB2.out]; simp)), rfl⟩
 ·have z1 : (0 : Int) < (s.size : Int) := by omega
  have z2 : 0 < s.size := by omega
  have e1 := strEmpty_no s z0
  have e2 : ¬ s.toList = [] := by simpa using e1
  clear z0
  by_cases z3 : (40 : Int) < (s.size : Int)
  ·have HB2 : Hid (b = false) := by have h1 := HB.out; rw [Fd.nameB_size (by omega)] at h1; exact Lib.hid h1.symm
   go_enter Tryz.func80, Tryz.ntmps80
   go_wp2_with fail
   go_ret
   exact ⟨ret_bool (by first | exact HB2.out.symm | (rw [HB2.out]; simp)), rfl⟩
  ·have hz : 1 ≤ s.size ∧ s.size ≤ 40 := by omega
   have HZ := Lib.hid hz; clear hz
   by_cases hl : Fd.letN (s[0]'z2).toNat = true
   ·have hl2 := (Fd.letN_iff _).1 hl
    have HL := Lib.hid hl
    have i1 : ¬ ((s[0]'z2).toNat : Int) < 97 := by omega
    have i2 : ¬ (122 : Int) < ((s[0]'z2).toNat : Int) := by omega
    clear hl hl2
    go_enter Tryz.func80, Tryz.ntmps80
    go_wp2_with fail
    clear i1 i2
    go_loopg [24] s.size (fun gk i wr => ∃ j : Nat, j ≤ s.size ∧ gk = s.size - j ∧ i = .int .i64 j ∧ (∀ i, (h : i < s.size) → i < j → Fd.nmN i s[i].toNat = true) ∧ w = wr)
    case atStart => exact ⟨0, by omega, rfl, rfl, fun i _ hi => by omega, rfl⟩
    case round =>
     obtain ⟨j, hj, rfl, rfl, hall, rfl⟩ := hrel
     have HALL := Lib.hid hall; clear hall
     by_cases hlt : j < s.size
     ·by_cases hx : Fd.tailN s[j].toNat = true
      ·have hnm : Fd.nmN j s[j].toNat = true := by
        by_cases e : j = 0
        ·subst e; exact HL.out
        ·rw [Fd.nmN_pos _ _ e]; exact hx
       have HN := Lib.hid (Fd.upto_next (P := fun i c => Fd.nmN i c = true) HALL.out hlt hnm)
       have ht := (Fd.tailN_iff _).1 hx
       clear hx hnm
       by_cases i1 : (97 : Int) ≤ (s[j].toNat : Int) ∧ (s[j].toNat : Int) ≤ 122
       ·obtain ⟨i1, i2⟩ := i1
        clear ht
        go_wp2_with fail
        go_roundg (s.size - (j + 1))
        case rel => exact ⟨j + 1, by omega, rfl, by go_num, HN.out, rfl⟩
        case measure => omega
       ·by_cases i3 : s[j].toNat = 45
        ·have i4 : ((s[j].toNat : Int) == 45) = true := by simp; omega
         have i6 : ¬ (97 : Int) ≤ (s[j].toNat : Int) := by omega
         have i7 : ¬ (48 : Int) ≤ (s[j].toNat : Int) := by omega
         clear i1 ht i3
         go_wp2_with fail
         go_roundg (s.size - (j + 1))
         case rel => exact ⟨j + 1, by omega, rfl, by go_num, HN.out, rfl⟩
         case measure => omega
        ·have i6 : ¬ (97 : Int) ≤ (s[j].toNat : Int) := by omega
         have i7 : (48 : Int) ≤ (s[j].toNat : Int) := by omega
         have i8 : (s[j].toNat : Int) ≤ 57 := by omega
         clear i1 ht i3
         go_wp2_with fail
         go_roundg (s.size - (j + 1))
         case rel => exact ⟨j + 1, by omega, rfl, by go_num, HN.out, rfl⟩
         case measure => omega
      ·have hx' : Fd.nmN j s[j].toNat = false := by
        cases hc : Fd.nmN j s[j].toNat
        ·rfl
        ·exact absurd (Fd.nmN_tail _ _ hc) hx
       have HB2 : Hid (b = false) := by have h1 := HB.out; rw [Fd.nameB_at j hlt hx'] at h1; exact Lib.hid h1.symm
       have ht : ¬ (97 ≤ s[j].toNat ∧ s[j].toNat ≤ 122 ∨ 48 ≤ s[j].toNat ∧ s[j].toNat ≤ 57 ∨ s[j].toNat = 45) := fun g => hx ((Fd.tailN_iff _).2 g)
       have i4 : ((s[j].toNat : Int) == 45) = false := by simp; omega
       clear hx hx'
       by_cases i1 : (97 : Int) ≤ (s[j].toNat : Int)
       ·have i2 : ¬ (s[j].toNat : Int) ≤ 122 := by omega
        have i3 : (48 : Int) ≤ (s[j].toNat : Int) := by omega
        have i5 : ¬ (s[j].toNat : Int) ≤ 57 := by omega
        clear ht
        go_wp2_with fail
        go_ret
        exact ⟨ret_bool HB2.out.symm, rfl⟩
       ·by_cases i3 : (48 : Int) ≤ (s[j].toNat : Int)
        ·have i5 : ¬ (s[j].toNat : Int) ≤ 57 := by omega
         clear ht
         go_wp2_with fail
         go_ret
         exact ⟨ret_bool HB2.out.symm, rfl⟩
        ·clear ht
         go_wp2_with fail
         go_ret
         exact ⟨ret_bool HB2.out.symm, rfl⟩
     ·obtain rfl : j = s.size := by omega
      have HB2 : Hid (b = true) := by have h1 := HB.out; rw [Fd.nameB_yes HZ.out (fun i hi => HALL.out i hi hi)] at h1; exact Lib.hid h1.symm
      go_wp2_with fail
      go_ret
      exact ⟨ret_bool HB2.out.symm, rfl⟩
   ·have HB2 : Hid (b = false) := by have h1 := HB.out; rw [Fd.nameB_at 0 z2 (by rw [Fd.nmN_zero]; simpa using hl)] at h1; exact Lib.hid h1.symm
    rw [Fd.letN_iff] at hl
    by_cases i1 : ((s[0]'z2).toNat : Int) < 97
    ·clear hl
     go_enter Tryz.func80, Tryz.ntmps80
     go_wp2_with fail
     go_ret
     exact ⟨ret_bool (by first | exact HB2.out.symm | (rw [HB2.out]; simp)), rfl⟩
    ·have i2 : (122 : Int) < ((s[0]'z2).toNat : Int) := by omega
     clear hl
     go_enter Tryz.func80, Tryz.ntmps80
     go_wp2_with fail
     go_ret
     exact ⟨ret_bool (by first | exact HB2.out.symm | (rw [HB2.out]; simp)), rfl⟩
theorem bytesWorld_below (w : World) (e : TypeId) (s : ByteArray) : Below w.heap.size w (Lib.bytesWorld w e s) := by
 refine ⟨rfl, rfl, rfl, by rw [Lib.bytesWorld_size]; omega, fun b hb => Lib.bytesWorld_at_old w e s b hb⟩
theorem outsideS_is (n lo hi : Int) (w : World) : Calls Tryz.prog 79 #[.int .i64 n, .int .i64 lo, .int .i64 hi] w fun e w' => e = .returned (.bool (!St.inB n lo hi)) ∧ w = w' := by
 by_cases h : lo ≤ n ∧ n ≤ hi
 ·rw [show St.inB n lo hi = true from decide_eq_true h]
  obtain ⟨h1, h2⟩ := h
  go_enter Tryz.func79, Tryz.ntmps79
  go_wp2
  go_ret
  exact ⟨ret_bool (by simp <;> omega), rfl⟩
 ·rw [show St.inB n lo hi = false from decide_eq_false h]
  by_cases c : n < lo
  ·clear h
   go_enter Tryz.func79, Tryz.ntmps79
   go_wp2
   go_ret
   exact ⟨ret_bool (by simp <;> omega), rfl⟩
  ·have d : hi < n := by omega
   clear h
   go_enter Tryz.func79, Tryz.ntmps79
   go_wp2
   go_ret
   exact ⟨ret_bool (by simp <;> omega), rfl⟩
theorem isMomentS_is (n : Int) (w : World) : Calls Tryz.prog 85 #[.int .i64 n] w fun e w' => e = .returned (.bool (St.isMom n)) ∧ w = w' := by
 have h := Lib.hid (fun W => outsideS_is n 0 6311433599 W)
 rw [show St.isMom n = St.inB n 0 6311433599 from rfl]
 generalize St.inB n 0 6311433599 = b at *
 cases b
 ·go_enter Tryz.func85, Tryz.ntmps85
  go_wp2_with (go_at_call 79; (with_reducible refine (h.out _).mono ?_); rintro e w2 ⟨rfl, rfl⟩)
  go_ret
  exact ⟨rfl, rfl⟩
 ·go_enter Tryz.func85, Tryz.ntmps85
  go_wp2_with (go_at_call 79; (with_reducible refine (h.out _).mono ?_); rintro e w2 ⟨rfl, rfl⟩)
  go_ret
  exact ⟨rfl, rfl⟩
theorem isDayS_is (n : Int) (w : World) : Calls Tryz.prog 87 #[.int .i64 n] w fun e w' => e = .returned (.bool (St.inB n 0 73048)) ∧ w = w' := by
 have h := Lib.hid (fun W => outsideS_is n 0 73048 W)
 generalize St.inB n 0 73048 = b at *
 cases b
 ·go_enter Tryz.func87, Tryz.ntmps87
  go_wp2_with (go_at_call 79; (with_reducible refine (h.out _).mono ?_); rintro e w2 ⟨rfl, rfl⟩)
  go_ret
  exact ⟨rfl, rfl⟩
 ·go_enter Tryz.func87, Tryz.ntmps87
  go_wp2_with (go_at_call 79; (with_reducible refine (h.out _).mono ?_); rintro e w2 ⟨rfl, rfl⟩)
  go_ret
  exact ⟨rfl, rfl⟩
theorem inS_is (n lo hi : Int) (w : World) : Calls Tryz.prog 57 #[.int .i64 n, .int .i64 lo, .int .i64 hi] w fun e w' => e = .returned (.bool (St.inB n lo hi)) ∧ w = w' := in_is n lo hi _ rfl w
theorem momentS_is (n : Int) (w : World) : Calls Tryz.prog 65 #[.int .i64 n] w fun e w' => e = .returned (.bool (St.isMom n)) ∧ w = w' := moment_is n _ rfl w
theorem isDigestS_is (d : ByteArray) (hd : d.size ≤ 9223372036854775807) (w : World) : Calls Tryz.prog 116 #[.string d] w fun e w' => e = .returned (.bool (Fd.fileB d)) ∧ Below w.heap.size w w' := by
 by_cases h : d.size = 16
 ·have HT := Lib.hid (trimH_is d (by omega) hd w)
  have h16 : ((d.size : Int) == 16) = true := by rw [h]; rfl
  rw [Hx.fileB_all h]
  by_cases h1 : d.data.toList.all Hx.isH = true
  ·rw [(Hx.trim_nilH _).2 h1] at HT
   rw [h1]
   clear h1
   go_enter Tryz.func116, Tryz.ntmps116
   go_wp2_with (go_at_call 77; refine HT.out.mono ?_; rintro e w2 ⟨rfl, hB2⟩)
   go_ret
   exact ⟨rfl, hB2⟩
  ·have e1 := mkEmptyH_no (Lib.trimS d.data.toList Hx.hexD) (fun h => h1 ((Hx.trim_nilH _).1 h))
   rw [show d.data.toList.all Hx.isH = false by simpa using h1]
   generalize Tx.mk (Lib.trimS d.data.toList Hx.hexD) = t at *
   clear h1
   go_enter Tryz.func116, Tryz.ntmps116
   go_wp2_with (go_at_call 77; refine HT.out.mono ?_; rintro e w2 ⟨rfl, hB2⟩)
   go_ret
   exact ⟨rfl, hB2⟩
 ·have h16 : ((d.size : Int) == 16) = false := by rw [beq_eq_false_iff_ne]; omega
  have h16' : ¬ ((d.size : Int) = 16) := by omega
  rw [Fd.fileB_size h]
  go_enter Tryz.func116, Tryz.ntmps116
  go_wp2_with fail
  go_ret
  exact ⟨rfl, Below.refl _ _⟩
end Go.Proofs.YtbbgebpgpadclaaGreatDoor
namespace Go.Proofs.YtbbgebpgpadclaaGreatDoor
open Go.RowKit
namespace St
def goodAt (s : Sto) (d t : ByteArray) : Bool := match s.copies.find? (fun c => eq c.dig d && eq c.tier t) with | some c => c.good | none => false
def goodL (s : Sto) (d : ByteArray) : List Tir := s.tiers.filter fun t => goodAt s d t.name
def awayN (L : List Tir) : Nat := L.countP fun t => t.away
def short (s : Sto) (d : ByteArray) : Bool := decide (((goodL s d).length : Int) < s.least) || (awayN (goodL s d) == 0 && decide (0 < awayN s.tiers))
end St
end Go.Proofs.YtbbgebpgpadclaaGreatDoor
namespace Go.Proofs.YtbbgebpgpadclaaGreatDoor
open Go.RowKit Go.Sort Go.Shelf
theorem tierOf_is (s : Sto) (a : StA) (name : ByteArray) (w : World) (hI : StIn w s a) :
  Calls Tryz.prog 59 #[.agg #[.int .i64 s.least, .int .i64 s.wait, .slice a.ta s.tiers.length a.tc, .slice a.fa s.files.length a.fc, .slice a.ca s.copies.length a.cc, .slice a.ha s.held.length a.hc, .slice a.ba s.bin.length a.bc], .string name] w fun e w' => e = .returned (.int .i64 (St.tierAt s.tiers name)) ∧ Below w.heap.size w w' := by
 obtain ⟨W1, hW1, hP, hz1, hB1⟩ := box w #[.int .i64 s.least, .int .i64 s.wait, .slice a.ta s.tiers.length a.tc, .slice a.fa s.files.length a.fc, .slice a.ca s.copies.length a.cc, .slice a.ha s.held.length a.hc, .slice a.ba s.bin.length a.bc] 28
 have HW1 := Lib.hid hW1
 have HI1 := Lib.hid (hI.keep hB1)
 have q0 : W1.cell? ⟨w.heap.size, 0, none⟩ = some (.int .i64 s.least) := (hP.cell 0).trans rfl
 have q1 : W1.cell? ⟨w.heap.size, 1, none⟩ = some (.int .i64 s.wait) := (hP.cell 1).trans rfl
 have q2 : W1.cell? ⟨w.heap.size, 2, none⟩ = some (.slice a.ta s.tiers.length a.tc) := (hP.cell 2).trans rfl
 have q3 : W1.cell? ⟨w.heap.size, 3, none⟩ = some (.slice a.fa s.files.length a.fc) := (hP.cell 3).trans rfl
 have q4 : W1.cell? ⟨w.heap.size, 4, none⟩ = some (.slice a.ca s.copies.length a.cc) := (hP.cell 4).trans rfl
 have q5 : W1.cell? ⟨w.heap.size, 5, none⟩ = some (.slice a.ha s.held.length a.hc) := (hP.cell 5).trans rfl
 have q6 : W1.cell? ⟨w.heap.size, 6, none⟩ = some (.slice a.ba s.bin.length a.bc) := (hP.cell 6).trans rfl
 have HP := Lib.hid hP; have HB1 := Lib.hid hB1
 clear hW1 hP
 have htl := hI.tl
 obtain ⟨q, hq⟩ : ∃ q, St.tierAt s.tiers name = q := ⟨_, rfl⟩
 rw [hq]
 have HQ : Hid (St.idx (fun t => St.eq t.name name) (s.tiers.drop 0) 0 = q) := Lib.hid hq
 clear q0 q1 q3 q4 q5 q6 hI hq
 obtain ⟨n, hn⟩ : ∃ n, s.tiers.length = n := ⟨_, rfl⟩
 have HN := Lib.hid hn
 rw [hn] at q2 htl HW1 ⊢
 clear hn
 go_enter Tryz.func59, Tryz.ntmps59
 go_wp2_with fail
 rw [HW1.out]
 go_wp2_with fail
 go_loopg [10] n (fun gk i wr => ∃ j : Nat, j ≤ n ∧ gk = n - j ∧ i = .int .i64 j ∧ St.idx (fun t => St.eq t.name name) (s.tiers.drop j) j = q ∧ Below w.heap.size w wr ∧ Below W1.heap.size W1 wr)
 case atStart => exact ⟨0, by omega, rfl, rfl, HQ.out, HB1.out, Below.refl _ _⟩
 case round =>
  obtain ⟨j, hj, rfl, rfl, hs, hB, hBW⟩ := hrel
  have HS := Lib.hid hs; clear hs
  by_cases hlt : j < n
  ·obtain ⟨x, hx⟩ : ∃ x, s.tiers[j]? = some x := ⟨_, List.getElem?_eq_getElem (by rw [HN.out]; exact hlt)⟩
   obtain ⟨b, off, ha, hb, hcell⟩ := ((HI1.out.keep hBW).ti) (by rw [HN.out]; omega)
   have c0 : wr.cell? ⟨b, off + j * 4, none⟩ = some (.string x.name) := hcell j x hx 0 (.string x.name) rfl
   have c1 : wr.cell? ⟨b, off + j * 4 + 1, none⟩ = some (.int .i64 x.room) := hcell j x hx 1 (.int .i64 x.room) rfl
   have c2 : wr.cell? ⟨b, off + j * 4 + 2, none⟩ = some (.int .i64 x.cost) := hcell j x hx 2 (.int .i64 x.cost) rfl
   have c3 : wr.cell? ⟨b, off + j * 4 + 3, none⟩ = some (.bool x.away) := hcell j x hx 3 (.bool x.away) rfl
   clear hcell
   have HX := Lib.hid hx
   have HAL := Lib.hid (below_allocs hB (.cells #[.string x.name, .int .i64 x.room, .int .i64 x.cost, .bool x.away] 65))
   have HAW := Lib.hid (below_allocs hBW (.cells #[.string x.name, .int .i64 x.room, .int .i64 x.cost, .bool x.away] 65))
   have hj0 : (0 : Int) ≤ (j : Int) := by omega
   have hj1 : (j : Int) < (n : Int) := by omega
   obtain ⟨bq, hbq⟩ : ∃ bq, (x.name.toList == name.toList) = bq := ⟨_, rfl⟩
   have HBQ := Lib.hid hbq
   rw [ha]
   cases bq
   ·have HE := Lib.hid (St.idx_next HS.out HX.out HBQ.out)
    clear hx hB hBW
    go_wp2_with fail
    rw [← ha]
    go_roundg (n - (j + 1))
    case rel => exact ⟨j + 1, by omega, rfl, by go_num, HE.out, HAL.out, HAW.out⟩
    case measure => omega
   ·have HE := Lib.hid (St.idx_here HS.out HX.out HBQ.out)
    clear hx hB hBW
    go_wp2_with fail
    go_ret
    exact ⟨ret_int HE.out, HAL.out⟩
  ·obtain rfl : j = n := by omega
   have HE := HS.out
   rw [← HN.out] at HE
   have HE2 := Lib.hid (St.idx_end HE)
   clear HE
   go_wp2_with fail
   go_ret
   exact ⟨ret_int HE2.out, hB⟩
theorem fileOf_is (s : Sto) (a : StA) (d : ByteArray) (w : World) (hI : StIn w s a) :
  Calls Tryz.prog 63 #[.agg #[.int .i64 s.least, .int .i64 s.wait, .slice a.ta s.tiers.length a.tc, .slice a.fa s.files.length a.fc, .slice a.ca s.copies.length a.cc, .slice a.ha s.held.length a.hc, .slice a.ba s.bin.length a.bc], .string d] w fun e w' => e = .returned (.tuple #[St.fval (St.filD s.files d), .bool (St.fileOf s.files d).isSome]) ∧ Below w.heap.size w w' := by
 obtain ⟨W1, hW1, hP, hz1, hB1⟩ := box w #[.int .i64 s.least, .int .i64 s.wait, .slice a.ta s.tiers.length a.tc, .slice a.fa s.files.length a.fc, .slice a.ca s.copies.length a.cc, .slice a.ha s.held.length a.hc, .slice a.ba s.bin.length a.bc] 28
 have HW1 := Lib.hid hW1
 have HI1 := Lib.hid (hI.keep hB1)
 have q0 : W1.cell? ⟨w.heap.size, 0, none⟩ = some (.int .i64 s.least) := (hP.cell 0).trans rfl
 have q1 : W1.cell? ⟨w.heap.size, 1, none⟩ = some (.int .i64 s.wait) := (hP.cell 1).trans rfl
 have q2 : W1.cell? ⟨w.heap.size, 2, none⟩ = some (.slice a.ta s.tiers.length a.tc) := (hP.cell 2).trans rfl
 have q3 : W1.cell? ⟨w.heap.size, 3, none⟩ = some (.slice a.fa s.files.length a.fc) := (hP.cell 3).trans rfl
 have q4 : W1.cell? ⟨w.heap.size, 4, none⟩ = some (.slice a.ca s.copies.length a.cc) := (hP.cell 4).trans rfl
 have q5 : W1.cell? ⟨w.heap.size, 5, none⟩ = some (.slice a.ha s.held.length a.hc) := (hP.cell 5).trans rfl
 have q6 : W1.cell? ⟨w.heap.size, 6, none⟩ = some (.slice a.ba s.bin.length a.bc) := (hP.cell 6).trans rfl
 have HP := Lib.hid hP; have HB1 := Lib.hid hB1
 clear hW1 hP
 have hfl := hI.fl
 obtain ⟨W2, hW2, hR, hz2, hB2⟩ := box W1 #[.string ⟨#[]⟩, .int .i64 0, .int .i64 0, .string ⟨#[]⟩] 68
 rw [hz1] at hR
 have HW2 := Lib.hid hW2; have HR := Lib.hid hR; have HB2 := Lib.hid (below_up HB1.out hB2); have HI2 := Lib.hid (HI1.out.keep hB2)
 have p3 : W2.cell? ⟨w.heap.size, 3, none⟩ = some (.slice a.fa s.files.length a.fc) := ((HP.out.keep hB2).cell 3).trans rfl
 have HZ1 := Lib.hid hz1; have HZ2 := Lib.hid hz2
 clear hW2 hR hB2 hz1 hz2
 obtain ⟨q, hq⟩ : ∃ q, St.fileOf s.files d = q := ⟨_, rfl⟩
 unfold St.filD
 rw [hq]
 have HQ : Hid ((s.files.drop 0).find? (fun f => St.eq f.dig d) = q) := Lib.hid hq
 clear q0 q1 q2 q3 q4 q5 q6 hI hq
 obtain ⟨n, hn⟩ : ∃ n, s.files.length = n := ⟨_, rfl⟩
 have HN := Lib.hid hn
 rw [hn] at p3 hfl HW1 ⊢
 clear hn
 go_enter Tryz.func63, Tryz.ntmps63
 go_wp2_with fail
 rw [HW1.out]
 go_wp2_with fail
 rw [HW2.out]
 go_wp2_with fail
 go_loopg [11] n (fun gk i wr => ∃ j : Nat, j ≤ n ∧ gk = n - j ∧ i = .int .i64 j ∧ (s.files.drop j).find? (fun f => St.eq f.dig d) = q ∧ Below w.heap.size w wr ∧ Below W2.heap.size W2 wr)
 case atStart => exact ⟨0, by omega, rfl, rfl, HQ.out, HB2.out, Below.refl _ _⟩
 case round =>
  obtain ⟨j, hj, rfl, rfl, hs, hB, hBW⟩ := hrel
  have HS := Lib.hid hs; clear hs
  have HBR := Lib.hid hB
  have hRr := HR.out.keep hBW
  obtain ⟨e0, e1, e2, e3⟩ : wr.cell? ⟨w.heap.size + 1, 0, none⟩ = some (.string ⟨#[]⟩) ∧ wr.cell? ⟨w.heap.size + 1, 1, none⟩ = some (.int .i64 0) ∧ wr.cell? ⟨w.heap.size + 1, 2, none⟩ = some (.int .i64 0) ∧ wr.cell? ⟨w.heap.size + 1, 3, none⟩ = some (.string ⟨#[]⟩) := ⟨(hRr.cell 0).trans rfl, (hRr.cell 1).trans rfl, (hRr.cell 2).trans rfl, (hRr.cell 3).trans rfl⟩
  have f0 := hRr.frozen 0; have f1 := hRr.frozen 1; have f2 := hRr.frozen 2; have f3 := hRr.frozen 3
  have hrl := hRr.lt
  have hrn : ¬ (w.heap.size + 1 = wr.heap.size) := by omega
  have hrn2 : w.heap.size + 1 ≠ wr.heap.size := hrn
  have HRR := Lib.hid hRr
  clear hRr
  by_cases hlt : j < n
  ·obtain ⟨x, hx⟩ : ∃ x, s.files[j]? = some x := ⟨_, List.getElem?_eq_getElem (by rw [HN.out]; exact hlt)⟩
   obtain ⟨b, off, ha, hb, hcell⟩ := ((HI2.out.keep hBW).fi) (by rw [HN.out]; omega)
   have c0 : wr.cell? ⟨b, off + j * 4, none⟩ = some (.string x.dig) := hcell j x hx 0 (.string x.dig) rfl
   have c1 : wr.cell? ⟨b, off + j * 4 + 1, none⟩ = some (.int .i64 x.size) := hcell j x hx 1 (.int .i64 x.size) rfl
   have c2 : wr.cell? ⟨b, off + j * 4 + 2, none⟩ = some (.int .i64 x.kind) := hcell j x hx 2 (.int .i64 x.kind) rfl
   have c3 : wr.cell? ⟨b, off + j * 4 + 3, none⟩ = some (.string x.frm) := hcell j x hx 3 (.string x.frm) rfl
   clear hcell
   have HX := Lib.hid hx
   have HAL := Lib.hid (below_allocs hB (.cells #[.string x.dig, .int .i64 x.size, .int .i64 x.kind, .string x.frm] 68))
   have HAW := Lib.hid (below_allocs hBW (.cells #[.string x.dig, .int .i64 x.size, .int .i64 x.kind, .string x.frm] 68))
   have hj0 : (0 : Int) ≤ (j : Int) := by omega
   have hj1 : (j : Int) < (n : Int) := by omega
   obtain ⟨bq, hbq⟩ : ∃ bq, (x.dig.toList == d.toList) = bq := ⟨_, rfl⟩
   have HBQ := Lib.hid hbq
   rw [ha]
   cases bq
   ·have HE := Lib.hid (St.find_next HS.out HX.out HBQ.out)
    clear hx hB hBW
    go_wp2_with fail
    rw [← ha]
    go_roundg (n - (j + 1))
    case rel => exact ⟨j + 1, by omega, rfl, by go_num, HE.out, HAL.out, HAW.out⟩
    case measure => omega
   ·have HE := Lib.hid (St.find_here HS.out HX.out HBQ.out)
    clear hx hB hBW
    go_wp2_with fail
    have hx' := HE.out
    subst hx'
    have hQ : Blk (((((wr.setCell ⟨w.heap.size + 1, 0, none⟩ (.string x.dig)).setCell ⟨w.heap.size + 1, 1, none⟩ (.int .i64 x.size)).setCell ⟨w.heap.size + 1, 2, none⟩ (.int .i64 x.kind)).setCell ⟨w.heap.size + 1, 3, none⟩ (.string x.frm)).alloc (.cells #[.string x.dig, .int .i64 x.size, .int .i64 x.kind, .string x.frm] 68)) (w.heap.size + 1) #[.string x.dig, .int .i64 x.size, .int .i64 x.kind, .string x.frm] 68 := by
     have := ((((HRR.out.set 0 (.string x.dig)).set 1 (.int .i64 x.size)).set 2 (.int .i64 x.kind)).set 3 (.string x.frm)).alloc (.cells #[.string x.dig, .int .i64 x.size, .int .i64 x.kind, .string x.frm] 68)
     simpa using this
    have hBel : Below w.heap.size w (((((wr.setCell ⟨w.heap.size + 1, 0, none⟩ (.string x.dig)).setCell ⟨w.heap.size + 1, 1, none⟩ (.int .i64 x.size)).setCell ⟨w.heap.size + 1, 2, none⟩ (.int .i64 x.kind)).setCell ⟨w.heap.size + 1, 3, none⟩ (.string x.frm)).alloc (.cells #[.string x.dig, .int .i64 x.size, .int .i64 x.kind, .string x.frm] 68)) := ((((HBR.out.setCell (by simp) _).setCell (by simp) _).setCell (by simp) _).setCell (by simp) _).alloc (by simp; have := HBR.out.size; omega) _
    generalize ((((wr.setCell ⟨w.heap.size + 1, 0, none⟩ (.string x.dig)).setCell ⟨w.heap.size + 1, 1, none⟩ (.int .i64 x.size)).setCell ⟨w.heap.size + 1, 2, none⟩ (.int .i64 x.kind)).setCell ⟨w.heap.size + 1, 3, none⟩ (.string x.frm)).alloc (.cells #[.string x.dig, .int .i64 x.size, .int .i64 x.kind, .string x.frm] 68) = WF at *
    have g0 : WF.cell? ⟨w.heap.size + 1, 0, none⟩ = some (.string x.dig) := (hQ.cell 0).trans rfl
    have g1 : WF.cell? ⟨w.heap.size + 1, 1, none⟩ = some (.int .i64 x.size) := (hQ.cell 1).trans rfl
    have g2 : WF.cell? ⟨w.heap.size + 1, 2, none⟩ = some (.int .i64 x.kind) := (hQ.cell 2).trans rfl
    have g3 : WF.cell? ⟨w.heap.size + 1, 3, none⟩ = some (.string x.frm) := (hQ.cell 3).trans rfl
    refine bodyPost_ret (v := .tuple #[St.fval x, .bool true]) (by simp [results, Tryz.results63, go_sem, St.fval, g0, g1, g2, g3]) rfl ⟨rfl, hBel⟩
  ·obtain rfl : j = n := by omega
   have HE := HS.out
   rw [← HN.out] at HE
   have HE2 := Lib.hid (St.find_end HE)
   clear HE
   go_wp2_with fail
   have hx' := HE2.out
   subst hx'
   have hQ : Blk ((((wr.setCell ⟨w.heap.size + 1, 0, none⟩ (.string ⟨#[]⟩)).setCell ⟨w.heap.size + 1, 1, none⟩ (.int .i64 0)).setCell ⟨w.heap.size + 1, 2, none⟩ (.int .i64 0)).setCell ⟨w.heap.size + 1, 3, none⟩ (.string ⟨#[]⟩)) (w.heap.size + 1) #[.string ⟨#[]⟩, .int .i64 0, .int .i64 0, .string ⟨#[]⟩] 68 := by
    have := (((HRR.out.set 0 (.string ⟨#[]⟩)).set 1 (.int .i64 0)).set 2 (.int .i64 0)).set 3 (.string ⟨#[]⟩)
    simpa using this
   have hBel : Below w.heap.size w ((((wr.setCell ⟨w.heap.size + 1, 0, none⟩ (.string ⟨#[]⟩)).setCell ⟨w.heap.size + 1, 1, none⟩ (.int .i64 0)).setCell ⟨w.heap.size + 1, 2, none⟩ (.int .i64 0)).setCell ⟨w.heap.size + 1, 3, none⟩ (.string ⟨#[]⟩)) := (((HBR.out.setCell (by simp) _).setCell (by simp) _).setCell (by simp) _).setCell (by simp) _
   generalize (((wr.setCell ⟨w.heap.size + 1, 0, none⟩ (.string ⟨#[]⟩)).setCell ⟨w.heap.size + 1, 1, none⟩ (.int .i64 0)).setCell ⟨w.heap.size + 1, 2, none⟩ (.int .i64 0)).setCell ⟨w.heap.size + 1, 3, none⟩ (.string ⟨#[]⟩) = WF at *
   have g0 : WF.cell? ⟨w.heap.size + 1, 0, none⟩ = some (.string ⟨#[]⟩) := (hQ.cell 0).trans rfl
   have g1 : WF.cell? ⟨w.heap.size + 1, 1, none⟩ = some (.int .i64 0) := (hQ.cell 1).trans rfl
   have g2 : WF.cell? ⟨w.heap.size + 1, 2, none⟩ = some (.int .i64 0) := (hQ.cell 2).trans rfl
   have g3 : WF.cell? ⟨w.heap.size + 1, 3, none⟩ = some (.string ⟨#[]⟩) := (hQ.cell 3).trans rfl
   refine bodyPost_ret (v := .tuple #[St.fval St.zeroF, .bool false]) (by simp [results, Tryz.results63, go_sem, St.fval, St.zeroF, g0, g1, g2, g3]) rfl ⟨rfl, hBel⟩
theorem original_is (s : Sto) (a : StA) (d : ByteArray) (w : World) (hI : StIn w s a) :
  Calls Tryz.prog 62 #[.agg #[.int .i64 s.least, .int .i64 s.wait, .slice a.ta s.tiers.length a.tc, .slice a.fa s.files.length a.fc, .slice a.ca s.copies.length a.cc, .slice a.ha s.held.length a.hc, .slice a.ba s.bin.length a.bc], .string d] w fun e w' => e = .returned (.bool (decide (St.kindOf s.files d = 1))) ∧ Below w.heap.size w w' := by
 obtain ⟨W1, hW1, hP, hz1, hB1⟩ := box w #[.int .i64 s.least, .int .i64 s.wait, .slice a.ta s.tiers.length a.tc, .slice a.fa s.files.length a.fc, .slice a.ca s.copies.length a.cc, .slice a.ha s.held.length a.hc, .slice a.ba s.bin.length a.bc] 28
 have HW1 := Lib.hid hW1
 have HI1 := Lib.hid (hI.keep hB1)
 have q0 : W1.cell? ⟨w.heap.size, 0, none⟩ = some (.int .i64 s.least) := (hP.cell 0).trans rfl
 have q1 : W1.cell? ⟨w.heap.size, 1, none⟩ = some (.int .i64 s.wait) := (hP.cell 1).trans rfl
 have q2 : W1.cell? ⟨w.heap.size, 2, none⟩ = some (.slice a.ta s.tiers.length a.tc) := (hP.cell 2).trans rfl
 have q3 : W1.cell? ⟨w.heap.size, 3, none⟩ = some (.slice a.fa s.files.length a.fc) := (hP.cell 3).trans rfl
 have q4 : W1.cell? ⟨w.heap.size, 4, none⟩ = some (.slice a.ca s.copies.length a.cc) := (hP.cell 4).trans rfl
 have q5 : W1.cell? ⟨w.heap.size, 5, none⟩ = some (.slice a.ha s.held.length a.hc) := (hP.cell 5).trans rfl
 have q6 : W1.cell? ⟨w.heap.size, 6, none⟩ = some (.slice a.ba s.bin.length a.bc) := (hP.cell 6).trans rfl
 have HP := Lib.hid hP; have HB1 := Lib.hid hB1
 clear hW1 hP
 have HF := Lib.hid (fileOf_is s a d W1 HI1.out)
 have HK : Hid (decide (St.kindOf s.files d = 1) = ((St.fileOf s.files d).isSome && decide ((St.filD s.files d).kind = 1))) := Lib.hid (by
  unfold St.kindOf St.filD
  cases St.fileOf s.files d <;> simp)
 rw [HK.out]
 unfold St.fval at HF
 generalize St.filD s.files d = x at *
 generalize (St.fileOf s.files d).isSome = b at *
 clear hI HK
 by_cases hk : x.kind = 1
 ·have hk2 : (x.kind == 1) = true := by simpa using hk
  rw [decide_eq_true hk]
  cases b
  ·go_enter Tryz.func62, Tryz.ntmps62
   go_wp2_with fail
   rw [HW1.out]
   go_wp2_with (go_at_call 63; (with_reducible refine HF.out.mono ?_); rintro e w2 ⟨rfl, hB2⟩)
   go_ret
   exact ⟨rfl, below_allocs (below_up HB1.out hB2) _⟩
  ·go_enter Tryz.func62, Tryz.ntmps62
   go_wp2_with fail
   rw [HW1.out]
   go_wp2_with (go_at_call 63; (with_reducible refine HF.out.mono ?_); rintro e w2 ⟨rfl, hB2⟩)
   go_ret
   exact ⟨rfl, below_allocs (below_up HB1.out hB2) _⟩
 ·have hk2 : (x.kind == 1) = false := by simpa using hk
  rw [decide_eq_false hk]
  cases b
  ·go_enter Tryz.func62, Tryz.ntmps62
   go_wp2_with fail
   rw [HW1.out]
   go_wp2_with (go_at_call 63; (with_reducible refine HF.out.mono ?_); rintro e w2 ⟨rfl, hB2⟩)
   go_ret
   exact ⟨rfl, below_allocs (below_up HB1.out hB2) _⟩
  ·go_enter Tryz.func62, Tryz.ntmps62
   go_wp2_with fail
   rw [HW1.out]
   go_wp2_with (go_at_call 63; (with_reducible refine HF.out.mono ?_); rintro e w2 ⟨rfl, hB2⟩)
   go_ret
   exact ⟨rfl, below_allocs (below_up HB1.out hB2) _⟩
end Go.Proofs.YtbbgebpgpadclaaGreatDoor
namespace Go.Proofs.YtbbgebpgpadclaaGreatDoor
open Go.RowKit
namespace St
def Szs (F : List Fil) : Prop := ∀ f ∈ F, 0 ≤ f.size ∧ f.size ≤ 1000000000
theorem size_bd {F : List Fil} (h : Szs F) (d : ByteArray) : 0 ≤ sizeOf F d ∧ sizeOf F d ≤ 1000000000 := by
 unfold sizeOf
 cases hf : fileOf F d with
 | none => simp
 | some f => exact h f (find_mem hf).1
theorem used_bd {F : List Fil} (h : Szs F) (n : ByteArray) : ∀ C : List Cop, 0 ≤ used F n C ∧ used F n C ≤ 1000000000 * (C.length : Int)
 | [] => by simp [used]
 | c :: C => by
   have h1 := used_bd h n C
   have h2 := size_bd h c.dig
   rw [used, List.length_cons]
   split <;> omega
theorem used_drop {F : List Fil} {n : ByteArray} {K : List Cop} {j : Nat} {c : Cop} (h : K[j]? = some c) : used F n (K.drop j) = (if eq c.tier n = true then sizeOf F c.dig else 0) + used F n (K.drop (j + 1)) := by
 obtain ⟨hlt, hg⟩ := List.getElem?_eq_some_iff.1 h
 rw [List.drop_eq_getElem_cons hlt, hg, used]
theorem szs_of {F : List Fil} (h : ∀ f ∈ F, fileR f = 0) : Szs F := by
 intro f hf
 have h1 := h f hf
 unfold fileR at h1
 split at h1
 ·rename_i h2
  unfold inB at h2
  exact of_decide_eq_true h2
 ·cases h1
end St
end Go.Proofs.YtbbgebpgpadclaaGreatDoor
