/- Parts of the proof, no condition: DigLays, StDig, StIdx, Events0, FdStr3, StSmall, StGood, StUsed, StChk1, StChk2, StChk3. -/
import Derived.Shelf.Strings.SlTrimAscii
import Derived.Test.YthdiccdnggloiaaGreatDoorProg
import Derived.Test.YthdiccdnggloiaaGreatDoorSf3
import Derived.Test.YthdiccdnggloiaaGreatDoorSf1
import Derived.Shelf.Abstract
import Derived.Below
import Derived.Lib.ConvBytes
import Derived.Laws.Closers25
import Derived.Carry
import Derived.Maps.RangeWalk
set_option maxRecDepth 100000
set_option maxHeartbeats 8000000
set_option linter.unusedSimpArgs false
set_option linter.unusedVariables false
namespace Go.Proofs.YthdiccdnggloiaaGreatDoor
open Go.Shelf
def Lay.trimS_ren : Go.Shelf.Ren := ⟨fun | 160 => 215 | 232 => 231 | 231 => 230 | 227 => 232 | 234 => 234 | 233 => 233 | 236 => 236 | 235 => 235 | 228 => 242 | 271 => 245 | 151 => 244 | 197 => 243 | 120 => 249 | 152 => 248 | 260 => 247 | 137 => 157 | 119 => 250 | 224 => 251 | 225 => 252 | 217 => 200 | 266 => 218 | n => n, fun | 9 => 9 | 4 => 4 | 3 => 3 | 5 => 5 | 117 => 252 | 116 => 251 | 0 => 0 | 124 => 255 | 21 => 21 | 105 => 260 | 46 => 195 | 119 => 266 | 139 => 269 | 138 => 268 | n => n, fun | 3 => 4 | 4 => 5 | n => n⟩
theorem Lay.trimS : Go.Proofs.Lays.n160 Tryz.prog Lay.trimS_ren := {
 mixed := by kernel_rfl
 f119 := Tryz.func250.trans (congrArg some (by kernel_rfl))
 f120 := Tryz.func249.trans (congrArg some (by kernel_rfl))
 f137 := Tryz.func157.trans (congrArg some (by kernel_rfl))
 f151 := Tryz.func244.trans (congrArg some (by kernel_rfl))
 f152 := Tryz.func248.trans (congrArg some (by kernel_rfl))
 f160 := Tryz.func215.trans (congrArg some (by kernel_rfl))
 f197 := Tryz.func243.trans (congrArg some (by kernel_rfl))
 f217 := Tryz.func200.trans (congrArg some (by kernel_rfl))
 f224 := Tryz.func251.trans (congrArg some (by kernel_rfl))
 f225 := Tryz.func252.trans (congrArg some (by kernel_rfl))
 f227 := Tryz.func232.trans (congrArg some (by kernel_rfl))
 f228 := Tryz.func242.trans (congrArg some (by kernel_rfl))
 f231 := Tryz.func230.trans (congrArg some (by kernel_rfl))
 f232 := Tryz.func231.trans (congrArg some (by kernel_rfl))
 f233 := Tryz.func233.trans (congrArg some (by kernel_rfl))
 f234 := Tryz.func234.trans (congrArg some (by kernel_rfl))
 f235 := Tryz.func235.trans (congrArg some (by kernel_rfl))
 f236 := Tryz.func236.trans (congrArg some (by kernel_rfl))
 f260 := Tryz.func247.trans (congrArg some (by kernel_rfl))
 f266 := Tryz.func218.trans (congrArg some (by kernel_rfl))
 f271 := Tryz.func245.trans (congrArg some (by kernel_rfl))
 t0 := Tryz.underlying0
 a0 := Tryz.isAgg0
 z0 := Tryz.sizeOf0
 v0 := Tryz.zeroValue0
 t3 := Tryz.underlying3
 a3 := Tryz.isAgg3
 z3 := Tryz.sizeOf3
 v3 := Tryz.zeroValue3
 t4 := Tryz.underlying4
 a4 := Tryz.isAgg4
 z4 := Tryz.sizeOf4
 v4 := Tryz.zeroValue4
 t5 := Tryz.underlying5
 a5 := Tryz.isAgg5
 z5 := Tryz.sizeOf5
 v5 := Tryz.zeroValue5
 t9 := Tryz.underlying9
 a9 := Tryz.isAgg9
 z9 := Tryz.sizeOf9
 v9 := Tryz.zeroValue9
 t21 := Tryz.underlying21
 a21 := Tryz.isAgg21
 z21 := Tryz.sizeOf21
 v21 := Tryz.zeroValue21
 t46 := Tryz.underlying195
 a46 := Tryz.isAgg195
 z46 := Tryz.sizeOf195
 v46 := Tryz.zeroValue195
 t105 := Tryz.underlying260
 a105 := Tryz.isAgg260
 z105 := Tryz.sizeOf260
 v105 := Tryz.zeroValue260
 t116 := Tryz.underlying251
 a116 := Tryz.isAgg251
 z116 := Tryz.sizeOf251
 t117 := Tryz.underlying252
 a117 := Tryz.isAgg252
 z117 := Tryz.sizeOf252
 v117 := Tryz.zeroValue252
 t119 := Tryz.underlying266
 a119 := Tryz.isAgg266
 z119 := Tryz.sizeOf266
 t124 := Tryz.underlying255
 a124 := Tryz.isAgg255
 z124 := Tryz.sizeOf255
 v124 := Tryz.zeroValue255
 t138 := Tryz.underlying268
 a138 := Tryz.isAgg268
 z138 := Tryz.sizeOf268
 v138 := Tryz.zeroValue268
 t139 := Tryz.underlying269
 a139 := Tryz.isAgg269
 z139 := Tryz.sizeOf269
 v139 := Tryz.zeroValue269
 g3 := by kernel_rfl
 g4 := by kernel_rfl }
end Go.Proofs.YthdiccdnggloiaaGreatDoor
namespace Go.Proofs.YthdiccdnggloiaaGreatDoor
open Go.RowKit Go.Sort Go.Shelf
namespace Hx
def hexD : List UInt8 := [48, 49, 50, 51, 52, 53, 54, 55, 56, 57, 97, 98, 99, 100, 101, 102]
def isH (b : UInt8) : Bool := Fd.hexN b.toNat
theorem mem_hexD (b : UInt8) : hexD.contains b = isH b := by
 rw [Bool.eq_iff_iff]
 unfold hexD isH Fd.hexN
 rw [decide_eq_true_iff, List.contains_iff_mem]
 simp only [List.mem_cons, List.not_mem_nil, or_false, ← UInt8.toNat_inj]
 simp only [UInt8.reduceToNat]
 omega
theorem trim_nilH (l : List UInt8) : Lib.trimS l hexD = [] ↔ l.all isH = true := by
 have e : (fun x => hexD.contains x) = isH := funext mem_hexD
 unfold Lib.trimS Lib.trimLeftS Lib.trimRightS
 rw [e]
 constructor
 ·intro h
  by_cases c : l.reverse.dropWhile isH = []
  ·have := (Dg.dropWhile_nil isH l.reverse).1 c
   rwa [List.all_reverse] at this
  ·have h1 := Dg.dropWhile_head isH l.reverse c
   have h2 := (Dg.dropWhile_nil isH _).1 h
   rw [List.all_reverse, h1] at h2
   exact absurd h2 (by simp)
 ·intro h
  have : l.reverse.dropWhile isH = [] := (Dg.dropWhile_nil isH l.reverse).2 (by rw [List.all_reverse]; exact h)
  rw [this]; rfl
theorem fileB_all {s : ByteArray} (h : s.size = 16) : Fd.fileB s = s.data.toList.all isH := by
 have hl : s.data.toList.length = s.size := rfl
 rw [Bool.eq_iff_iff, List.all_eq_true]
 unfold Fd.fileB
 rw [decide_eq_true_eq]
 constructor
 ·rintro ⟨_, h2⟩ b hb
  obtain ⟨i, hi⟩ := List.getElem?_of_mem hb
  obtain ⟨hlt, hg⟩ := List.getElem?_eq_some_iff.1 hi
  have h3 := h2 i (by omega)
  have e : s[i] = b := by rw [← hg]; rfl
  rw [e] at h3
  exact h3
 ·intro h2
  refine ⟨h, fun i hi => ?_⟩
  exact h2 _ (show s[i] ∈ s.data.toList from by
   have e : s[i] = s.data.toList[i]'(by rw [hl]; exact hi) := rfl
   rw [e]; exact List.getElem_mem _)
end Hx
theorem trimH_is (s : ByteArray) (h0 : 0 < s.size) (hl : s.size ≤ 9223372036854775807) (w : World) :
  Calls Tryz.prog 215 #[.string s, .string ⟨#[48, 49, 50, 51, 52, 53, 54, 55, 56, 57, 97, 98, 99, 100, 101, 102]⟩] w fun e w' => e = .returned (.string (Tx.mk (Lib.trimS s.data.toList Hx.hexD))) ∧ Below w.heap.size w w' := by
 refine (Any.strings_Trim_set Lay.trimS Tryz.zeroValue251 (by kernel_rfl) s (Tx.mk Hx.hexD) w (by rw [Tx.mk_size]; decide) h0 hl (by rw [Tx.mk_size]; decide) (fun j b hb => ?_)).mono ?_
 ·rw [Tx.mk_toList] at hb
  have hm : b ∈ Hx.hexD := List.mem_of_getElem? hb
  have hd : Hx.isH b = true := by rw [← Hx.mem_hexD]; exact List.contains_iff_mem.2 hm
  have := of_decide_eq_true hd
  omega
 ·rintro e w' ⟨he, q, rfl⟩
  exact ⟨he, below_drewN (((Below.refl _ _).alloc (Nat.le_refl _) _).alloc (by simp) _) q⟩
theorem mkEmptyH_no (l : List UInt8) (h : l ≠ []) : (Tx.mk l).toList.isEmpty = false := by
 have e : (Tx.mk l).toList = l := by rw [ByteArray.toList_eq]
 rw [e]; cases l with | nil => exact absurd rfl h | cons a r => rfl
end Go.Proofs.YthdiccdnggloiaaGreatDoor
namespace Go.Proofs.YthdiccdnggloiaaGreatDoor
open Go.RowKit
namespace St
theorem idx_here {α : Type} {p : α → Bool} {L : List α} {j : Nat} {q : Int} {x : α} (h : idx p (L.drop j) j = q) (hx : L[j]? = some x) (hp : p x = true) : (j : Int) = q := by
 obtain ⟨hlt, hg⟩ := List.getElem?_eq_some_iff.1 hx
 rw [List.drop_eq_getElem_cons hlt, hg, idx, if_pos hp] at h
 exact h
theorem idx_next {α : Type} {p : α → Bool} {L : List α} {j : Nat} {q : Int} {x : α} (h : idx p (L.drop j) j = q) (hx : L[j]? = some x) (hp : p x = false) : idx p (L.drop (j + 1)) (j + 1) = q := by
 obtain ⟨hlt, hg⟩ := List.getElem?_eq_some_iff.1 hx
 rw [List.drop_eq_getElem_cons hlt, hg, idx, if_neg (by rw [hp]; decide)] at h
 exact h
theorem idx_end {α : Type} {p : α → Bool} {L : List α} {q : Int} (h : idx p (L.drop L.length) L.length = q) : (-1 : Int) = q := by
 rw [List.drop_length] at h; exact h
theorem idx_some {α : Type} {p : α → Bool} : ∀ {L : List α} {i : Nat} {n : Int}, idx p L i = n → 0 ≤ n → ∃ (j : Nat) (x : α), n = ((i + j : Nat) : Int) ∧ L[j]? = some x ∧ p x = true ∧ ∀ k y, k < j → L[k]? = some y → p y = false
 | [], i, n, h, h0 => by rw [idx] at h; omega
 | y :: r, i, n, h, h0 => by
   rw [idx] at h
   split at h
   ·rename_i hy
    exact ⟨0, y, h.symm, rfl, hy, fun k z hk => absurd hk (Nat.not_lt_zero _)⟩
   ·rename_i hy
    obtain ⟨j, x, h1, h2, h3, h4⟩ := idx_some h h0
    refine ⟨j + 1, x, by rw [h1]; congr 1; omega, by simpa using h2, h3, fun k z hk hz => ?_⟩
    cases k with
    | zero => simp at hz; subst hz; simpa using hy
    | succ k => exact h4 k z (by omega) (by simpa using hz)
theorem hasTier_idx (L : List Tir) (n : ByteArray) : hasTier L n = decide (0 ≤ tierAt L n) := by
 unfold tierAt
 cases h : hasTier L n with
 | false =>
   have : idx (fun t => eq t.name n) L 0 = -1 := idx_none fun x hx => by
    cases e : eq x.name n with
    | false => rfl
    | true =>
      have : hasTier L n = true := List.any_eq_true.2 ⟨x, hx, e⟩
      rw [h] at this; cases this
   rw [this]; rfl
 | true =>
   symm
   rw [decide_eq_true_eq]
   rcases Int.lt_or_le (idx (fun t => eq t.name n) L 0) 0 with g | g
   ·obtain ⟨x, hx, e⟩ := List.any_eq_true.1 h
    have := (idx_neg.1 g) x hx
    rw [e] at this; cases this
   ·exact g
theorem tier_first {L : List Tir} {j : Nat} {t : Tir} (h : L[j]? = some t) : (tierAt L t.name < (j : Int)) ↔ hasTier (L.take j) t.name = true := by
 unfold tierAt
 constructor
 ·intro hlt
  rcases Int.lt_or_le (idx (fun x => eq x.name t.name) L 0) 0 with g | g
  ·have := (idx_neg.1 g) t (List.mem_of_getElem? h)
   rw [eq_refl] at this; cases this
  ·obtain ⟨k, x, h1, h2, h3, _⟩ := idx_some rfl g
   have hk : k < j := by omega
   refine List.any_eq_true.2 ⟨x, List.mem_of_getElem? (i := k) ?_, h3⟩
   rw [List.getElem?_take, if_pos hk]; exact h2
 ·intro hh
  obtain ⟨x, hx, e⟩ := List.any_eq_true.1 hh
  obtain ⟨k, hk⟩ := List.getElem?_of_mem hx
  rw [List.getElem?_take] at hk
  split at hk
  ·rename_i hkj
   rcases Int.lt_or_le (idx (fun x => eq x.name t.name) L 0) 0 with g | g
   ·omega
   ·obtain ⟨m, y, h1, h2, h3, h4⟩ := idx_some rfl g
    rcases Nat.lt_or_ge k m with hm | hm
    ·have := h4 k x hm hk; rw [e] at this; cases this
    ·omega
  ·cases hk
end St
end Go.Proofs.YthdiccdnggloiaaGreatDoor
namespace Go.Proofs.YthdiccdnggloiaaGreatDoor
open Go.RowKit Go.Sort Go.Shelf
theorem below_allocs {a b : World} (h : Below a.heap.size a b) (o : Obj) : Below a.heap.size a (b.alloc o) := h.alloc h.size o
def Row (w : World) (a : Option Addr) (len : Nat) (f : Nat → Value) : Prop :=
 0 < len → ∃ b off, a = some ⟨b, off, none⟩ ∧ b < w.heap.size ∧ ∀ i, i < len → w.cell? ⟨b, off + i, none⟩ = some (f i)
theorem Row.keep {w w' : World} {a : Option Addr} {len : Nat} {f : Nat → Value} (h : Row w a len f) (hb : Below w.heap.size w w') : Row w' a len f := by
 intro hl
 obtain ⟨b, off, rfl, hlt, hc⟩ := h hl
 exact ⟨b, off, rfl, Nat.lt_of_lt_of_le hlt hb.size, fun i hi => (hb.cell (p := ⟨b, off + i, none⟩) hlt).trans (hc i hi)⟩
theorem strEmpty_no (s : ByteArray) (h : s.size ≠ 0) : s.toList.isEmpty = false := by
 rw [← decide_eq_emptyBytes]; exact decide_eq_false fun e => h (by rw [e]; rfl)
theorem strEmpty_yes (s : ByteArray) (h : s.size = 0) : s.toList.isEmpty = true := by
 rw [← decide_eq_emptyBytes]
 refine decide_eq_true ?_
 obtain ⟨d⟩ := s
 have : d = #[] := Array.eq_empty_of_size_eq_zero h
 subst this; rfl
theorem isNameW_is (s : ByteArray) (hs : s.size ≤ 9223372036854775807) (b : Bool) (h : Fd.nameB s = b) (w : World) : Calls Tryz.prog 180 #[.string s] w fun e w' => e = .returned (.bool b) ∧ w = w' := by
 have HB := Lib.hid h; clear h
 by_cases z0 : s.size = 0
 ·have HB2 : Hid (b = false) := by have h1 := HB.out; rw [Fd.nameB_size (by omega)] at h1; exact Lib.hid h1.symm
  have e1 := strEmpty_yes s z0
  have e2 : s.toList = [] := by simpa using e1
  have HZ := Lib.hid z0; clear z0
  go_enter Tryz.func180, Tryz.ntmps180
  go_wp2_with fail
  go_ret
  exact ⟨ret_bool (by first | exact HB2.out.symm | (rw [HB2.out]; simp)), rfl⟩
 ·have z1 : (0 : Int) < (s.size : Int) := by omega
  have z2 : 0 < s.size := by omega
  have e1 := strEmpty_no s z0
  have e2 : ¬ s.toList = [] := by simpa using e1
  clear z0
  by_cases z3 : (40 : Int) < (s.size : Int)
  ·have HB2 : Hid (b = false) := by have h1 := HB.out; rw [Fd.nameB_size (by omega)] at h1; exact Lib.hid h1.symm
   go_enter Tryz.func180, Tryz.ntmps180
   go_wp2_with fail
   go_ret
   exact ⟨ret_bool (by first | exact HB2.out.symm | (rw [HB2.out]; simp)), rfl⟩
  ·have hz : 1 ≤ s.size ∧ s.size ≤ 40 := by omega
   have HZ := Lib.hid hz; clear hz
   by_cases hl : Fd.letN (s[0]'z2).toNat = true
   ·have hl2 := (Fd.letN_iff _).1 hl
    have HL := Lib.hid hl
    have i1 : ¬ ((s[0]'z2).toNat : Int) < 97 := by omega
    have i2 : ¬ (122 : Int) < ((s[0]'z2).toNat : Int) := by omega
    clear hl hl2
    go_enter Tryz.func180, Tryz.ntmps180
    go_wp2_with fail
    clear i1 i2
    go_loopg [24] s.size (fun gk i wr => ∃ j : Nat, j ≤ s.size ∧ gk = s.size - j ∧ i = .int .i64 j ∧ (∀ i, (h : i < s.size) → i < j → Fd.nmN i s[i].toNat = true) ∧ w = wr)
    case atStart => exact ⟨0, by omega, rfl, rfl, fun i _ hi => by omega, rfl⟩
    case round =>
     obtain ⟨j, hj, rfl, rfl, hall, rfl⟩ := hrel
     have HALL := Lib.hid hall; clear hall
     by_cases hlt : j < s.size
     ·by_cases hx : Fd.tailN s[j].toNat = true
      ·have hnm : Fd.nmN j s[j].toNat = true := by
        by_cases e : j = 0
        ·subst e; exact HL.out
        ·rw [Fd.nmN_pos _ _ e]; exact hx
       have HN := Lib.hid (Fd.upto_next (P := fun i c => Fd.nmN i c = true) HALL.out hlt hnm)
       have ht := (Fd.tailN_iff _).1 hx
       clear hx hnm
       by_cases i1 : (97 : Int) ≤ (s[j].toNat : Int) ∧ (s[j].toNat : Int) ≤ 122
       ·obtain ⟨i1, i2⟩ := i1
        clear ht
        go_wp2_with fail
        go_roundg (s.size - (j + 1))
        case rel => exact ⟨j + 1, by omega, rfl, by go_num, HN.out, rfl⟩
        case measure => omega
       ·by_cases i3 : s[j].toNat = 45
        ·have i4 : ((s[j].toNat : Int) == 45) = true := by simp; omega
         have i6 : ¬ (97 : Int) ≤ (s[j].toNat : Int) := by omega
         have i7 : ¬ (48 : Int) ≤ (s[j].toNat : Int) := by omega
         clear i1 ht i3
         go_wp2_with fail
         go_roundg (s.size - (j + 1))
         case rel => exact ⟨j + 1, by omega, rfl, by go_num, HN.out, rfl⟩
         case measure => omega
        ·have i6 : ¬ (97 : Int) ≤ (s[j].toNat : Int) := by omega
         have i7 : (48 : Int) ≤ (s[j].toNat : Int) := by omega
         have i8 : (s[j].toNat : Int) ≤ 57 := by omega
         clear i1 ht i3
         go_wp2_with fail
         go_roundg (s.size - (j + 1))
         case rel => exact ⟨j + 1, by omega, rfl, by go_num, HN.out, rfl⟩
         case measure => omega
      ·have hx' : Fd.nmN j s[j].toNat = false := by
        cases hc : Fd.nmN j s[j].toNat
        ·rfl
        ·exact absurd (Fd.nmN_tail _ _ hc) hx
       have HB2 : Hid (b = false) := by have h1 := HB.out; rw [Fd.nameB_at j hlt hx'] at h1; exact Lib.hid h1.symm
       have ht : ¬ (97 ≤ s[j].toNat ∧ s[j].toNat ≤ 122 ∨ 48 ≤ s[j].toNat ∧ s[j].toNat ≤ 57 ∨ s[j].toNat = 45) := fun g => hx ((Fd.tailN_iff _).2 g)
       have i4 : ((s[j].toNat : Int) == 45) = false := by simp; omega
       clear hx hx'
       by_cases i1 : (97 : Int) ≤ (s[j].toNat : Int)
       ·have i2 : ¬ (s[j].toNat : Int) ≤ 122 := by omega
        have i3 : (48 : Int) ≤ (s[j].toNat : Int) := by omega
        have i5 : ¬ (s[j].toNat : Int) ≤ 57 := by omega
        clear ht
        go_wp2_with fail
        go_ret
        exact ⟨ret_bool HB2.out.symm, rfl⟩
       ·by_cases i3 : (48 : Int) ≤ (s[j].toNat : Int)
        ·have i5 : ¬ (s[j].toNat : Int) ≤ 57 := by omega
         clear ht
         go_wp2_with fail
         go_ret
         exact ⟨ret_bool HB2.out.symm, rfl⟩
        ·clear ht
         go_wp2_with fail
         go_ret
         exact ⟨ret_bool HB2.out.symm, rfl⟩
     ·obtain rfl : j = s.size := by omega
      have HB2 : Hid (b = true) := by have h1 := HB.out; rw [Fd.nameB_yes HZ.out (fun i hi => HALL.out i hi hi)] at h1; exact Lib.hid h1.symm
      go_wp2_with fail
      go_ret
      exact ⟨ret_bool HB2.out.symm, rfl⟩
   ·have HB2 : Hid (b = false) := by have h1 := HB.out; rw [Fd.nameB_at 0 z2 (by rw [Fd.nmN_zero]; simpa using hl)] at h1; exact Lib.hid h1.symm
    rw [Fd.letN_iff] at hl
    by_cases i1 : ((s[0]'z2).toNat : Int) < 97
    ·clear hl
     go_enter Tryz.func180, Tryz.ntmps180
     go_wp2_with fail
     go_ret
     exact ⟨ret_bool (by first | exact HB2.out.symm | (rw [HB2.out]; simp)), rfl⟩
    ·have i2 : (122 : Int) < ((s[0]'z2).toNat : Int) := by omega
     clear hl
     go_enter Tryz.func180, Tryz.ntmps180
     go_wp2_with fail
     go_ret
     exact ⟨ret_bool (by first | exact HB2.out.symm | (rw [HB2.out]; simp)), rfl⟩
theorem outsideS_is (n lo hi : Int) (w : World) : Calls Tryz.prog 92 #[.int .i64 n, .int .i64 lo, .int .i64 hi] w fun e w' => e = .returned (.bool (!St.inB n lo hi)) ∧ w = w' := by
 by_cases h : lo ≤ n ∧ n ≤ hi
 ·rw [show St.inB n lo hi = true from decide_eq_true h]
  obtain ⟨h1, h2⟩ := h
  go_enter Tryz.func92, Tryz.ntmps92
  go_wp2
  go_ret
  exact ⟨ret_bool (by simp <;> omega), rfl⟩
 ·rw [show St.inB n lo hi = false from decide_eq_false h]
  by_cases c : n < lo
  ·clear h
   go_enter Tryz.func92, Tryz.ntmps92
   go_wp2
   go_ret
   exact ⟨ret_bool (by simp <;> omega), rfl⟩
  ·have d : hi < n := by omega
   clear h
   go_enter Tryz.func92, Tryz.ntmps92
   go_wp2
   go_ret
   exact ⟨ret_bool (by simp <;> omega), rfl⟩
theorem isMomentS_is (n : Int) (w : World) : Calls Tryz.prog 132 #[.int .i64 n] w fun e w' => e = .returned (.bool (St.isMom n)) ∧ w = w' := by
 have h := Lib.hid (fun W => outsideS_is n 0 6311433599 W)
 rw [show St.isMom n = St.inB n 0 6311433599 from rfl]
 generalize St.inB n 0 6311433599 = b at *
 cases b
 ·go_enter Tryz.func132, Tryz.ntmps132
  go_wp2_with (go_at_call 92; (with_reducible refine (h.out _).mono ?_); rintro e w2 ⟨rfl, rfl⟩)
  go_ret
  exact ⟨rfl, rfl⟩
 ·go_enter Tryz.func132, Tryz.ntmps132
  go_wp2_with (go_at_call 92; (with_reducible refine (h.out _).mono ?_); rintro e w2 ⟨rfl, rfl⟩)
  go_ret
  exact ⟨rfl, rfl⟩
theorem isDayS_is (n : Int) (w : World) : Calls Tryz.prog 64 #[.int .i64 n] w fun e w' => e = .returned (.bool (St.inB n 0 73048)) ∧ w = w' := by
 have h := Lib.hid (fun W => outsideS_is n 0 73048 W)
 generalize St.inB n 0 73048 = b at *
 cases b
 ·go_enter Tryz.func64, Tryz.ntmps64
  go_wp2_with (go_at_call 92; (with_reducible refine (h.out _).mono ?_); rintro e w2 ⟨rfl, rfl⟩)
  go_ret
  exact ⟨rfl, rfl⟩
 ·go_enter Tryz.func64, Tryz.ntmps64
  go_wp2_with (go_at_call 92; (with_reducible refine (h.out _).mono ?_); rintro e w2 ⟨rfl, rfl⟩)
  go_ret
  exact ⟨rfl, rfl⟩
theorem isDigestS_is (d : ByteArray) (hd : d.size ≤ 9223372036854775807) (w : World) : Calls Tryz.prog 188 #[.string d] w fun e w' => e = .returned (.bool (Fd.fileB d)) ∧ Below w.heap.size w w' := by
 by_cases h : d.size = 16
 ·have HT := Lib.hid (trimH_is d (by omega) hd w)
  have h16 : ((d.size : Int) == 16) = true := by rw [h]; rfl
  rw [Hx.fileB_all h]
  by_cases h1 : d.data.toList.all Hx.isH = true
  ·rw [(Hx.trim_nilH _).2 h1] at HT
   rw [h1]
   clear h1
   go_enter Tryz.func188, Tryz.ntmps188
   go_wp2_with (go_at_call 215; refine HT.out.mono ?_; rintro e w2 ⟨rfl, hB2⟩)
   go_ret
   exact ⟨rfl, hB2⟩
  ·have e1 := mkEmptyH_no (Lib.trimS d.data.toList Hx.hexD) (fun h => h1 ((Hx.trim_nilH _).1 h))
   rw [show d.data.toList.all Hx.isH = false by simpa using h1]
   generalize Tx.mk (Lib.trimS d.data.toList Hx.hexD) = t at *
   clear h1
   go_enter Tryz.func188, Tryz.ntmps188
   go_wp2_with (go_at_call 215; refine HT.out.mono ?_; rintro e w2 ⟨rfl, hB2⟩)
   go_ret
   exact ⟨rfl, hB2⟩
 ·have h16 : ((d.size : Int) == 16) = false := by rw [beq_eq_false_iff_ne]; omega
  have h16' : ¬ ((d.size : Int) = 16) := by omega
  rw [Fd.fileB_size h]
  go_enter Tryz.func188, Tryz.ntmps188
  go_wp2_with fail
  go_ret
  exact ⟨rfl, Below.refl _ _⟩
end Go.Proofs.YthdiccdnggloiaaGreatDoor
namespace Go.Proofs.YthdiccdnggloiaaGreatDoor
open Go.RowKit
namespace St
def goodAt (s : Sto) (d t : ByteArray) : Bool := match s.copies.find? (fun c => eq c.dig d && eq c.tier t) with | some c => c.good | none => false
def goodL (s : Sto) (d : ByteArray) : List Tir := s.tiers.filter fun t => goodAt s d t.name
def awayN (L : List Tir) : Nat := L.countP fun t => t.away
def short (s : Sto) (d : ByteArray) : Bool := decide (((goodL s d).length : Int) < s.least) || (awayN (goodL s d) == 0 && decide (0 < awayN s.tiers))
def lostL (s : Sto) : List ByteArray := (neededL s).filter fun d => (goodL s d).length == 0
def neededD (s : Sto) (d : ByteArray) : Bool := needed s (filD s.files d)
def garbage (s : Sto) (c : Cop) : Bool :=
 !(neededD s c.dig || (decide ((filD s.files c.dig).kind = 3) && neededD s (filD s.files c.dig).frm)) || (!c.good && decide (0 < (goodL s c.dig).length))
def garbageL (s : Sto) : List Cop := s.copies.filter (garbage s)
theorem cop_one {s : Sto} (r : Right s) {c c' : Cop} (h : c ∈ s.copies) (h' : c' ∈ s.copies) (e : eq c.dig c'.dig = true) (e' : eq c.tier c'.tier = true) : c = c' := by
 refine (cop_up r).one h h' ?_
 unfold ckey
 rw [eq_iff.1 e, eq_iff.1 e']
end St
namespace St
def Szs (F : List Fil) : Prop := ∀ f ∈ F, 0 ≤ f.size ∧ f.size ≤ 1000000000
theorem size_bd {F : List Fil} (h : Szs F) (d : ByteArray) : 0 ≤ sizeOf F d ∧ sizeOf F d ≤ 1000000000 := by
 unfold sizeOf
 cases hf : fileOf F d with
 | none => simp
 | some f => exact h f (find_mem hf).1
theorem used_bd {F : List Fil} (h : Szs F) (n : ByteArray) : ∀ C : List Cop, 0 ≤ used F n C ∧ used F n C ≤ 1000000000 * (C.length : Int)
 | [] => by simp [used]
 | c :: C => by
   have h1 := used_bd h n C
   have h2 := size_bd h c.dig
   rw [used, List.length_cons]
   split <;> omega
theorem used_drop {F : List Fil} {n : ByteArray} {K : List Cop} {j : Nat} {c : Cop} (h : K[j]? = some c) : used F n (K.drop j) = (if eq c.tier n = true then sizeOf F c.dig else 0) + used F n (K.drop (j + 1)) := by
 obtain ⟨hlt, hg⟩ := List.getElem?_eq_some_iff.1 h
 rw [List.drop_eq_getElem_cons hlt, hg, used]
theorem szs_of {F : List Fil} (h : ∀ f ∈ F, fileR f = 0) : Szs F := by
 intro f hf
 have h1 := h f hf
 unfold fileR at h1
 split at h1
 ·rename_i h2
  unfold inB at h2
  exact of_decide_eq_true h2
 ·cases h1
end St
end Go.Proofs.YthdiccdnggloiaaGreatDoor
namespace Go.Proofs.YthdiccdnggloiaaGreatDoor
open Go.RowKit Go.Sort Go.Shelf
theorem tierEq_is (x : Tir) (z : ByteArray) (bk : Nat) (t : TypeId) (w : World) (hs : Blk w bk #[.string z] t) :
  Calls Tryz.prog 164 #[.agg #[.string x.name, .int .i64 x.room, .int .i64 x.cost, .bool x.away], .pointer (some ⟨bk, 0, none⟩)] w fun e w' => e = .returned (.bool (x.name.toList == z.toList)) ∧ Below w.heap.size w w' := by
 obtain ⟨W1, hW1, hA, hz1, hB1⟩ := box w #[.string x.name, .int .i64 x.room, .int .i64 x.cost, .bool x.away] 46
 have HW1 := Lib.hid hW1
 have a0 : W1.cell? ⟨w.heap.size, 0, none⟩ = some (.string x.name) := (hA.cell 0).trans rfl
 have b0 := (hs.keep hB1).one
 clear hW1 hz1
 go_enter Tryz.func164, Tryz.ntmps164
 go_upto_region 1 with fail
 rw [HW1.out]
 go_wp2_with fail
 go_ret
 exact ⟨rfl, hB1⟩
theorem enters_tierEq : ∀ args w, (callFunc 164 args).run Tryz.prog w = .ok (.enter 164 args) w := enters_of Tryz.func164 (by kernel_rfl) rfl
theorem idxTier_is (L : List Tir) (sa : Option Addr) (sc : Nat) (z : ByteArray) (bk : Nat) (t : TypeId) (w : World) (hr : RowE St.eT w sa L) (hl : L.length ≤ sc ∧ sc ≤ 9223372036854775807) (hs : Blk w bk #[.string z] t) :
  Calls Tryz.prog 95 #[.slice sa L.length sc, .func (.func 164) #[] #[.pointer (some ⟨bk, 0, none⟩)]] w fun e w' => e = .returned (.int .i64 (St.tierAt L z)) ∧ Below w.heap.size w w' := by
 have eg := enters_tierEq
 have HR := Lib.hid hr; have HS := Lib.hid hs
 obtain ⟨q, hq⟩ : ∃ q, St.tierAt L z = q := ⟨_, rfl⟩
 rw [hq]
 have HQ : Hid (St.idx (fun t => St.eq t.name z) (L.drop 0) 0 = q) := Lib.hid hq
 obtain ⟨n, hn⟩ : ∃ n, L.length = n := ⟨_, rfl⟩
 have HN := Lib.hid hn
 rw [hn] at hl ⊢
 clear hr hs hq hn
 go_enter Tryz.func95, Tryz.ntmps95
 go_wp2_with fail
 go_loopg [8] n (fun gk i wr => ∃ j : Nat, j ≤ n ∧ gk = n - j ∧ i = .int .i64 j ∧ St.idx (fun t => St.eq t.name z) (L.drop j) j = q ∧ Below w.heap.size w wr)
 case atStart => exact ⟨0, by omega, rfl, rfl, HQ.out, Below.refl _ _⟩
 case round =>
  obtain ⟨j, hj, rfl, rfl, hs, hB⟩ := hrel
  have HSC := Lib.hid hs; clear hs
  by_cases hlt : j < n
  ·obtain ⟨x, hx⟩ : ∃ x, L[j]? = some x := ⟨_, List.getElem?_eq_getElem (by rw [HN.out]; exact hlt)⟩
   obtain ⟨b, off, ha, hb, hcell⟩ := (HR.out.keep hB) (by rw [HN.out]; omega)
   have c0 : wr.cell? ⟨b, off + j * 4, none⟩ = some (.string x.name) := hcell j x hx 0 (.string x.name) rfl
   have c1 : wr.cell? ⟨b, off + j * 4 + 1, none⟩ = some (.int .i64 x.room) := hcell j x hx 1 (.int .i64 x.room) rfl
   have c2 : wr.cell? ⟨b, off + j * 4 + 2, none⟩ = some (.int .i64 x.cost) := hcell j x hx 2 (.int .i64 x.cost) rfl
   have c3 : wr.cell? ⟨b, off + j * 4 + 3, none⟩ = some (.bool x.away) := hcell j x hx 3 (.bool x.away) rfl
   clear hcell
   have HX := Lib.hid hx
   have HC := Lib.hid (tierEq_is x z bk t wr (HS.out.keep hB))
   have hj0 : (0 : Int) ≤ (j : Int) := by omega
   have hj1 : (j : Int) < (n : Int) := by omega
   obtain ⟨bq, hbq⟩ : ∃ bq, (x.name.toList == z.toList) = bq := ⟨_, rfl⟩
   rw [hbq] at HC
   have HBQ := Lib.hid hbq
   rw [ha]
   cases bq
   ·have HE := Lib.hid (St.idx_next HSC.out HX.out HBQ.out)
    clear hx hbq
    go_wp2_with (go_at_fn 164; refine HC.out.mono ?_; rintro e w4 ⟨rfl, hB4⟩)
    rw [← ha]
    go_roundg (n - (j + 1))
    case rel => exact ⟨j + 1, by omega, rfl, by go_num, HE.out, below_up hB hB4⟩
    case measure => omega
   ·have HE := Lib.hid (St.idx_here HSC.out HX.out HBQ.out)
    clear hx hbq
    go_wp2_with (go_at_fn 164; refine HC.out.mono ?_; rintro e w4 ⟨rfl, hB4⟩)
    go_ret
    exact ⟨ret_int HE.out, below_up hB hB4⟩
  ·obtain rfl : j = n := by omega
   have HE := HSC.out
   rw [← HN.out] at HE
   have HE2 := Lib.hid (St.idx_end HE)
   clear HE
   go_wp2_with fail
   go_ret
   exact ⟨ret_int HE2.out, hB⟩
theorem tierAt_is (s : Sto) (a : StA) (name : ByteArray) (w : World) (hI : StIn w s a) :
  Calls Tryz.prog 91 #[.agg #[.int .i64 s.least, .int .i64 s.wait, .slice a.ta s.tiers.length a.tc, .slice a.fa s.files.length a.fc, .slice a.ca s.copies.length a.cc, .slice a.ha s.held.length a.hc, .slice a.ba s.bin.length a.bc], .string name] w fun e w' => e = .returned (.int .i64 (St.tierAt s.tiers name)) ∧ Below w.heap.size w w' := by
 obtain ⟨W1, hW1, hP, hz1, hB1⟩ := box w #[.int .i64 s.least, .int .i64 s.wait, .slice a.ta s.tiers.length a.tc, .slice a.fa s.files.length a.fc, .slice a.ca s.copies.length a.cc, .slice a.ha s.held.length a.hc, .slice a.ba s.bin.length a.bc] 28
 have HW1 := Lib.hid hW1
 have HI1 := Lib.hid (hI.keep hB1)
 have q0 : W1.cell? ⟨w.heap.size, 0, none⟩ = some (.int .i64 s.least) := (hP.cell 0).trans rfl
 have q1 : W1.cell? ⟨w.heap.size, 1, none⟩ = some (.int .i64 s.wait) := (hP.cell 1).trans rfl
 have q2 : W1.cell? ⟨w.heap.size, 2, none⟩ = some (.slice a.ta s.tiers.length a.tc) := (hP.cell 2).trans rfl
 have q3 : W1.cell? ⟨w.heap.size, 3, none⟩ = some (.slice a.fa s.files.length a.fc) := (hP.cell 3).trans rfl
 have q4 : W1.cell? ⟨w.heap.size, 4, none⟩ = some (.slice a.ca s.copies.length a.cc) := (hP.cell 4).trans rfl
 have q5 : W1.cell? ⟨w.heap.size, 5, none⟩ = some (.slice a.ha s.held.length a.hc) := (hP.cell 5).trans rfl
 have q6 : W1.cell? ⟨w.heap.size, 6, none⟩ = some (.slice a.ba s.bin.length a.bc) := (hP.cell 6).trans rfl
 have HP := Lib.hid hP; have HB1 := Lib.hid hB1
 clear hW1 hP
 obtain ⟨W2, hW2, hX2, hz2, hB2⟩ := box W1 #[.string name] 9
 have HW2 := Lib.hid hW2
 have p2 : W2.cell? ⟨w.heap.size, 2, none⟩ = some (.slice a.ta s.tiers.length a.tc) := ((HP.out.keep hB2).cell 2).trans rfl
 have HC := Lib.hid (idxTier_is s.tiers a.ta a.tc name W1.heap.size 9 W2 ((HI1.out.keep hB2).ti) hI.tl hX2)
 rw [hz1] at HC
 have HBB := Lib.hid (below_up HB1.out hB2)
 generalize s.tiers.length = n at *
 generalize St.tierAt s.tiers name = q at *
 clear q0 q1 q2 q3 q4 q5 q6 hI hW2 hX2 hz1 hz2
 go_enter Tryz.func91, Tryz.ntmps91
 go_wp2_with fail
 rw [HW1.out, HW2.out]
 go_wp2_with (go_at_call 95; (with_reducible refine HC.out.mono ?_); rintro e w4 ⟨rfl, hB4⟩)
 go_ret
 exact ⟨rfl, below_up HBB.out hB4⟩
theorem checkSizes_is (s : Sto) (a : StA) (w : World) (hI : StIn w s a) :
  Calls Tryz.prog 108 #[.agg #[.int .i64 s.least, .int .i64 s.wait, .slice a.ta s.tiers.length a.tc, .slice a.fa s.files.length a.fc, .slice a.ca s.copies.length a.cc, .slice a.ha s.held.length a.hc, .slice a.ba s.bin.length a.bc]] w fun e w' => e = .returned (.int .i64 (St.sizesE s)) ∧ Below w.heap.size w w' := by
 obtain ⟨W1, hW1, hP, hz1, hB1⟩ := box w #[.int .i64 s.least, .int .i64 s.wait, .slice a.ta s.tiers.length a.tc, .slice a.fa s.files.length a.fc, .slice a.ca s.copies.length a.cc, .slice a.ha s.held.length a.hc, .slice a.ba s.bin.length a.bc] 28
 have HW1 := Lib.hid hW1
 have HI1 := Lib.hid (hI.keep hB1)
 have q0 : W1.cell? ⟨w.heap.size, 0, none⟩ = some (.int .i64 s.least) := (hP.cell 0).trans rfl
 have q1 : W1.cell? ⟨w.heap.size, 1, none⟩ = some (.int .i64 s.wait) := (hP.cell 1).trans rfl
 have q2 : W1.cell? ⟨w.heap.size, 2, none⟩ = some (.slice a.ta s.tiers.length a.tc) := (hP.cell 2).trans rfl
 have q3 : W1.cell? ⟨w.heap.size, 3, none⟩ = some (.slice a.fa s.files.length a.fc) := (hP.cell 3).trans rfl
 have q4 : W1.cell? ⟨w.heap.size, 4, none⟩ = some (.slice a.ca s.copies.length a.cc) := (hP.cell 4).trans rfl
 have q5 : W1.cell? ⟨w.heap.size, 5, none⟩ = some (.slice a.ha s.held.length a.hc) := (hP.cell 5).trans rfl
 have q6 : W1.cell? ⟨w.heap.size, 6, none⟩ = some (.slice a.ba s.bin.length a.bc) := (hP.cell 6).trans rfl
 have HP := Lib.hid hP; have HB1 := Lib.hid hB1
 clear hW1 hP
 obtain ⟨q, hq⟩ : ∃ q, St.sizesE s = q := ⟨_, rfl⟩
 rw [hq]
 unfold St.sizesE at hq
 have HO1 := Lib.hid (fun W => outsideS_is s.least 1 8 W)
 have HO2 := Lib.hid (fun W => outsideS_is s.wait 0 1000 W)
 have h1 := hI.tl; have h2 := hI.fl; have h3 := hI.cl; have h4 := hI.hl; have h5 := hI.bl
 clear hI
 generalize s.tiers.length = n1 at *
 generalize s.files.length = n2 at *
 generalize s.copies.length = n3 at *
 generalize s.held.length = n4 at *
 generalize s.bin.length = n5 at *
 generalize St.inB s.least 1 8 = b1 at *
 generalize St.inB s.wait 0 1000 = b2 at *
 cases b1
 ·have HQ : Hid ((2 : Int) = q) := Lib.hid (by rw [← hq, if_neg (by simp)])
  clear hq
  go_enter Tryz.func108, Tryz.ntmps108
  go_wp2_with fail
  rw [HW1.out]
  go_wp2_with (go_at_call 92; first | ((with_reducible refine (HO1.out _).mono ?_); rintro e w2 ⟨rfl, rfl⟩) | ((with_reducible refine (HO2.out _).mono ?_); rintro e w2 ⟨rfl, rfl⟩))
  go_ret
  exact ⟨ret_int HQ.out, HB1.out⟩
 ·cases b2
  ·have HQ : Hid ((2 : Int) = q) := Lib.hid (by rw [← hq, if_neg (by simp)])
   clear hq
   go_enter Tryz.func108, Tryz.ntmps108
   go_wp2_with fail
   rw [HW1.out]
   go_wp2_with (go_at_call 92; first | ((with_reducible refine (HO1.out _).mono ?_); rintro e w2 ⟨rfl, rfl⟩) | ((with_reducible refine (HO2.out _).mono ?_); rintro e w2 ⟨rfl, rfl⟩))
   go_ret
   exact ⟨ret_int HQ.out, HB1.out⟩
  ·rw [if_pos ⟨rfl, rfl⟩] at hq
   by_cases g1 : 8 < n1
   ·have HQ : Hid ((4 : Int) = q) := Lib.hid (by rw [← hq, if_pos (.inl g1)])
    have g1' : (8 : Int) < (n1 : Int) := by omega
    clear hq
    go_enter Tryz.func108, Tryz.ntmps108
    go_wp2_with fail
    rw [HW1.out]
    go_wp2_with (go_at_call 92; first | ((with_reducible refine (HO1.out _).mono ?_); rintro e w2 ⟨rfl, rfl⟩) | ((with_reducible refine (HO2.out _).mono ?_); rintro e w2 ⟨rfl, rfl⟩))
    go_ret
    exact ⟨ret_int HQ.out, HB1.out⟩
   have g1' : ¬ ((8 : Int) < (n1 : Int)) := by omega
   by_cases g2 : 500 < n2
   ·have HQ : Hid ((4 : Int) = q) := Lib.hid (by rw [← hq, if_pos (.inr (.inl g2))])
    have g2' : (500 : Int) < (n2 : Int) := by omega
    clear hq
    go_enter Tryz.func108, Tryz.ntmps108
    go_wp2_with fail
    rw [HW1.out]
    go_wp2_with (go_at_call 92; first | ((with_reducible refine (HO1.out _).mono ?_); rintro e w2 ⟨rfl, rfl⟩) | ((with_reducible refine (HO2.out _).mono ?_); rintro e w2 ⟨rfl, rfl⟩))
    go_ret
    exact ⟨ret_int HQ.out, HB1.out⟩
   have g2' : ¬ ((500 : Int) < (n2 : Int)) := by omega
   by_cases g3 : 4000 < n3
   ·have HQ : Hid ((4 : Int) = q) := Lib.hid (by rw [← hq, if_pos (.inr (.inr (.inl g3)))])
    have g3' : (4000 : Int) < (n3 : Int) := by omega
    clear hq
    go_enter Tryz.func108, Tryz.ntmps108
    go_wp2_with fail
    rw [HW1.out]
    go_wp2_with (go_at_call 92; first | ((with_reducible refine (HO1.out _).mono ?_); rintro e w2 ⟨rfl, rfl⟩) | ((with_reducible refine (HO2.out _).mono ?_); rintro e w2 ⟨rfl, rfl⟩))
    go_ret
    exact ⟨ret_int HQ.out, HB1.out⟩
   have g3' : ¬ ((4000 : Int) < (n3 : Int)) := by omega
   by_cases g4 : 500 < n4
   ·have HQ : Hid ((4 : Int) = q) := Lib.hid (by rw [← hq, if_pos (.inr (.inr (.inr (.inl g4))))])
    have g4' : (500 : Int) < (n4 : Int) := by omega
    clear hq
    go_enter Tryz.func108, Tryz.ntmps108
    go_wp2_with fail
    rw [HW1.out]
    go_wp2_with (go_at_call 92; first | ((with_reducible refine (HO1.out _).mono ?_); rintro e w2 ⟨rfl, rfl⟩) | ((with_reducible refine (HO2.out _).mono ?_); rintro e w2 ⟨rfl, rfl⟩))
    go_ret
    exact ⟨ret_int HQ.out, HB1.out⟩
   have g4' : ¬ ((500 : Int) < (n4 : Int)) := by omega
   by_cases g5 : 500 < n5
   ·have HQ : Hid ((4 : Int) = q) := Lib.hid (by rw [← hq, if_pos (.inr (.inr (.inr (.inr g5))))])
    have g5' : (500 : Int) < (n5 : Int) := by omega
    clear hq
    go_enter Tryz.func108, Tryz.ntmps108
    go_wp2_with fail
    rw [HW1.out]
    go_wp2_with (go_at_call 92; first | ((with_reducible refine (HO1.out _).mono ?_); rintro e w2 ⟨rfl, rfl⟩) | ((with_reducible refine (HO2.out _).mono ?_); rintro e w2 ⟨rfl, rfl⟩))
    go_ret
    exact ⟨ret_int HQ.out, HB1.out⟩
   have g5' : ¬ ((500 : Int) < (n5 : Int)) := by omega
   have HQ : Hid ((0 : Int) = q) := Lib.hid (by rw [← hq, if_neg (by omega)])
   clear hq
   go_enter Tryz.func108, Tryz.ntmps108
   go_wp2_with fail
   rw [HW1.out]
   go_wp2_with (go_at_call 92; first | ((with_reducible refine (HO1.out _).mono ?_); rintro e w2 ⟨rfl, rfl⟩) | ((with_reducible refine (HO2.out _).mono ?_); rintro e w2 ⟨rfl, rfl⟩))
   go_ret
   exact ⟨ret_int HQ.out, HB1.out⟩
theorem checkTiers_is (s : Sto) (a : StA) (w : World) (hI : StIn w s a) :
  Calls Tryz.prog 109 #[.agg #[.int .i64 s.least, .int .i64 s.wait, .slice a.ta s.tiers.length a.tc, .slice a.fa s.files.length a.fc, .slice a.ca s.copies.length a.cc, .slice a.ha s.held.length a.hc, .slice a.ba s.bin.length a.bc]] w fun e w' => e = .returned (.int .i64 (St.scan St.tierE [] s.tiers)) ∧ Below w.heap.size w w' := by
 obtain ⟨W1, hW1, hP, hz1, hB1⟩ := box w #[.int .i64 s.least, .int .i64 s.wait, .slice a.ta s.tiers.length a.tc, .slice a.fa s.files.length a.fc, .slice a.ca s.copies.length a.cc, .slice a.ha s.held.length a.hc, .slice a.ba s.bin.length a.bc] 28
 have HW1 := Lib.hid hW1
 have HI1 := Lib.hid (hI.keep hB1)
 have q0 : W1.cell? ⟨w.heap.size, 0, none⟩ = some (.int .i64 s.least) := (hP.cell 0).trans rfl
 have q1 : W1.cell? ⟨w.heap.size, 1, none⟩ = some (.int .i64 s.wait) := (hP.cell 1).trans rfl
 have q2 : W1.cell? ⟨w.heap.size, 2, none⟩ = some (.slice a.ta s.tiers.length a.tc) := (hP.cell 2).trans rfl
 have q3 : W1.cell? ⟨w.heap.size, 3, none⟩ = some (.slice a.fa s.files.length a.fc) := (hP.cell 3).trans rfl
 have q4 : W1.cell? ⟨w.heap.size, 4, none⟩ = some (.slice a.ca s.copies.length a.cc) := (hP.cell 4).trans rfl
 have q5 : W1.cell? ⟨w.heap.size, 5, none⟩ = some (.slice a.ha s.held.length a.hc) := (hP.cell 5).trans rfl
 have q6 : W1.cell? ⟨w.heap.size, 6, none⟩ = some (.slice a.ba s.bin.length a.bc) := (hP.cell 6).trans rfl
 have HP := Lib.hid hP; have HB1 := Lib.hid hB1
 clear hW1 hP
 have htl := hI.tl
 have HTZ := Lib.hid hI.tz
 obtain ⟨q, hq⟩ : ∃ q, St.scan St.tierE [] s.tiers = q := ⟨_, rfl⟩
 rw [hq]
 have HQ : Hid (St.scan St.tierE (s.tiers.take 0) (s.tiers.drop 0) = q) := Lib.hid hq
 have HTW := Lib.hid (fun W (hb : Below W1.heap.size W1 W) (name : ByteArray) => tierAt_is s a name W (HI1.out.keep hb))
 have HCL := Lib.hid (fun W (hb : Below W1.heap.size W1 W) => HP.out.keep hb)
 clear q0 q1 q3 q4 q5 q6 hI hq
 obtain ⟨n, hn⟩ : ∃ n, s.tiers.length = n := ⟨_, rfl⟩
 have HN := Lib.hid hn
 rw [hn] at q2 htl HW1 HTW HCL ⊢
 clear hn
 go_enter Tryz.func109, Tryz.ntmps109
 go_wp2_with fail
 rw [HW1.out]
 go_wp2_with fail
 go_loopg [8] n (fun gk i wr => ∃ j : Nat, j ≤ n ∧ gk = n - j ∧ i = .int .i64 j ∧ St.scan St.tierE (s.tiers.take j) (s.tiers.drop j) = q ∧ Below w.heap.size w wr ∧ Below W1.heap.size W1 wr)
 case atStart => exact ⟨0, by omega, rfl, rfl, HQ.out, HB1.out, Below.refl _ _⟩
 case round =>
  obtain ⟨j, hj, rfl, rfl, hs, hB, hBW⟩ := hrel
  have HS := Lib.hid hs; clear hs
  by_cases hlt : j < n
  ·obtain ⟨x, hx⟩ : ∃ x, s.tiers[j]? = some x := ⟨_, List.getElem?_eq_getElem (by rw [HN.out]; exact hlt)⟩
   obtain ⟨b, off, ha, hb, hcell⟩ := ((HI1.out.keep hBW).ti) (by rw [HN.out]; omega)
   have c0 : wr.cell? ⟨b, off + j * 4, none⟩ = some (.string x.name) := hcell j x hx 0 (.string x.name) rfl
   have c1 : wr.cell? ⟨b, off + j * 4 + 1, none⟩ = some (.int .i64 x.room) := hcell j x hx 1 (.int .i64 x.room) rfl
   have c2 : wr.cell? ⟨b, off + j * 4 + 2, none⟩ = some (.int .i64 x.cost) := hcell j x hx 2 (.int .i64 x.cost) rfl
   have c3 : wr.cell? ⟨b, off + j * 4 + 3, none⟩ = some (.bool x.away) := hcell j x hx 3 (.bool x.away) rfl
   clear hcell
   have HX := Lib.hid hx
   obtain ⟨W3, hW3, hX3, hz3, hB3⟩ := box wr #[.string x.name, .int .i64 x.room, .int .i64 x.cost, .bool x.away] 46
   have HW3 := Lib.hid hW3
   have HAL := Lib.hid (below_up hB hB3)
   have HAW := Lib.hid (below_up hBW hB3)
   have HD : Hid (∀ W, Below W3.heap.size W3 W → W.cell? ⟨wr.heap.size, 0, none⟩ = some (.string x.name) ∧ W.cell? ⟨wr.heap.size, 1, none⟩ = some (.int .i64 x.room) ∧ W.cell? ⟨wr.heap.size, 2, none⟩ = some (.int .i64 x.cost) ∧ W.cell? ⟨wr.heap.size, 3, none⟩ = some (.bool x.away)) := Lib.hid fun W hb =>
    have k := hX3.keep hb
    ⟨(k.cell 0).trans rfl, (k.cell 1).trans rfl, (k.cell 2).trans rfl, (k.cell 3).trans rfl⟩
   obtain ⟨d0, d1, d2, d3⟩ := HD.out _ (Below.refl _ _)
   have hKW := HCL.out _ HAW.out
   have m0 : W3.cell? ⟨w.heap.size, 0, none⟩ = some (.int .i64 s.least) := (hKW.cell 0).trans rfl
   have m1 : W3.cell? ⟨w.heap.size, 1, none⟩ = some (.int .i64 s.wait) := (hKW.cell 1).trans rfl
   have m2 : W3.cell? ⟨w.heap.size, 2, none⟩ = some (.slice a.ta n a.tc) := (hKW.cell 2).trans rfl
   have m3 : W3.cell? ⟨w.heap.size, 3, none⟩ = some (.slice a.fa s.files.length a.fc) := (hKW.cell 3).trans rfl
   have m4 : W3.cell? ⟨w.heap.size, 4, none⟩ = some (.slice a.ca s.copies.length a.cc) := (hKW.cell 4).trans rfl
   have m5 : W3.cell? ⟨w.heap.size, 5, none⟩ = some (.slice a.ha s.held.length a.hc) := (hKW.cell 5).trans rfl
   have m6 : W3.cell? ⟨w.heap.size, 6, none⟩ = some (.slice a.ba s.bin.length a.bc) := (hKW.cell 6).trans rfl
   have HNM := Lib.hid (fun W => isNameW_is x.name (HTZ.out x (List.mem_of_getElem? hx)) _ rfl W)
   have HTA := Lib.hid (HTW.out _ HAW.out x.name)
   have HO1 := Lib.hid (fun W => outsideS_is x.room 0 1000000000000 W)
   have HO2 := Lib.hid (fun W => outsideS_is x.cost 0 1000000 W)
   have hfst := St.tier_first hx
   have HDF : Hid (St.tierE (s.tiers.take j) x = if Fd.nameB x.name = true then (if St.hasTier (s.tiers.take j) x.name = true then 6 else if St.inB x.room 0 1000000000000 = true ∧ St.inB x.cost 0 1000000 = true then 0 else 2) else 3) := Lib.hid rfl
   have hj0 : (0 : Int) ≤ (j : Int) := by omega
   have hj1 : (j : Int) < (n : Int) := by omega
   generalize Fd.nameB x.name = bn at *
   generalize St.hasTier (s.tiers.take j) x.name = bt at *
   generalize St.inB x.room 0 1000000000000 = b1 at *
   generalize St.inB x.cost 0 1000000 = b2 at *
   generalize St.tierAt s.tiers x.name = ti at *
   clear hx hB hBW hX3 hz3 hB3 hW3 hKW
   rw [ha] at HTA m2 ⊢
   cases bn
   ·have HBD : Hid (St.tierE (s.tiers.take j) x = 3) := Lib.hid (by rw [HDF.out]; rfl)
    have HE := Lib.hid (St.scan_here HS.out HX.out (by rw [HBD.out]; decide))
    rw [HBD.out] at HE
    go_wp2_with fail
    rw [HW3.out]
    go_wp2_with (first | (go_at_call 180; (with_reducible refine (HNM.out _).mono ?_); rintro e w4 ⟨rfl, rfl⟩) | (go_at_call 91; (with_reducible refine HTA.out.mono ?_); rintro e w4 ⟨rfl, hB4⟩; have HB4 := Lib.hid hB4; obtain ⟨d0, d1, d2, d3⟩ := HD.out _ hB4) | (go_at_call 92; first | ((with_reducible refine (HO1.out _).mono ?_); rintro e w2 ⟨rfl, rfl⟩) | ((with_reducible refine (HO2.out _).mono ?_); rintro e w2 ⟨rfl, rfl⟩)))
    go_ret
    exact ⟨ret_int HE.out.symm, HAL.out⟩
   cases bt
   ·have hge : ¬ (ti < (j : Int)) := fun g => by have := hfst.1 g; cases this
    cases b1
    ·have HBD : Hid (St.tierE (s.tiers.take j) x = 2) := Lib.hid (by rw [HDF.out]; rfl)
     have HE := Lib.hid (St.scan_here HS.out HX.out (by rw [HBD.out]; decide))
     rw [HBD.out] at HE
     clear hfst
     go_wp2_with fail
     rw [HW3.out]
     go_wp2_with (first | (go_at_call 180; (with_reducible refine (HNM.out _).mono ?_); rintro e w4 ⟨rfl, rfl⟩) | (go_at_call 91; (with_reducible refine HTA.out.mono ?_); rintro e w4 ⟨rfl, hB4⟩; have HB4 := Lib.hid hB4; obtain ⟨d0, d1, d2, d3⟩ := HD.out _ hB4) | (go_at_call 92; first | ((with_reducible refine (HO1.out _).mono ?_); rintro e w2 ⟨rfl, rfl⟩) | ((with_reducible refine (HO2.out _).mono ?_); rintro e w2 ⟨rfl, rfl⟩)))
     go_ret
     exact ⟨ret_int HE.out.symm, below_up HAL.out HB4.out⟩
    cases b2
    ·have HBD : Hid (St.tierE (s.tiers.take j) x = 2) := Lib.hid (by rw [HDF.out]; rfl)
     have HE := Lib.hid (St.scan_here HS.out HX.out (by rw [HBD.out]; decide))
     rw [HBD.out] at HE
     clear hfst
     go_wp2_with fail
     rw [HW3.out]
     go_wp2_with (first | (go_at_call 180; (with_reducible refine (HNM.out _).mono ?_); rintro e w4 ⟨rfl, rfl⟩) | (go_at_call 91; (with_reducible refine HTA.out.mono ?_); rintro e w4 ⟨rfl, hB4⟩; have HB4 := Lib.hid hB4; obtain ⟨d0, d1, d2, d3⟩ := HD.out _ hB4) | (go_at_call 92; first | ((with_reducible refine (HO1.out _).mono ?_); rintro e w2 ⟨rfl, rfl⟩) | ((with_reducible refine (HO2.out _).mono ?_); rintro e w2 ⟨rfl, rfl⟩)))
     go_ret
     exact ⟨ret_int HE.out.symm, below_up HAL.out HB4.out⟩
    ·have HBD : Hid (St.tierE (s.tiers.take j) x = 0) := Lib.hid (by rw [HDF.out]; rfl)
     have HE := Lib.hid (St.scan_next HS.out HX.out HBD.out)
     clear hfst
     go_wp2_with fail
     rw [HW3.out]
     go_wp2_with (first | (go_at_call 180; (with_reducible refine (HNM.out _).mono ?_); rintro e w4 ⟨rfl, rfl⟩) | (go_at_call 91; (with_reducible refine HTA.out.mono ?_); rintro e w4 ⟨rfl, hB4⟩; have HB4 := Lib.hid hB4; obtain ⟨d0, d1, d2, d3⟩ := HD.out _ hB4) | (go_at_call 92; first | ((with_reducible refine (HO1.out _).mono ?_); rintro e w2 ⟨rfl, rfl⟩) | ((with_reducible refine (HO2.out _).mono ?_); rintro e w2 ⟨rfl, rfl⟩)))
     rw [← ha]
     go_roundg (n - (j + 1))
     case rel => exact ⟨j + 1, by omega, rfl, by go_num, HE.out, below_up HAL.out HB4.out, below_up HAW.out HB4.out⟩
     case measure => omega
   ·have hge : ti < (j : Int) := hfst.2 rfl
    have HBD : Hid (St.tierE (s.tiers.take j) x = 6) := Lib.hid (by rw [HDF.out]; rfl)
    have HE := Lib.hid (St.scan_here HS.out HX.out (by rw [HBD.out]; decide))
    rw [HBD.out] at HE
    clear hfst
    go_wp2_with fail
    rw [HW3.out]
    go_wp2_with (first | (go_at_call 180; (with_reducible refine (HNM.out _).mono ?_); rintro e w4 ⟨rfl, rfl⟩) | (go_at_call 91; (with_reducible refine HTA.out.mono ?_); rintro e w4 ⟨rfl, hB4⟩; have HB4 := Lib.hid hB4; obtain ⟨d0, d1, d2, d3⟩ := HD.out _ hB4) | (go_at_call 92; first | ((with_reducible refine (HO1.out _).mono ?_); rintro e w2 ⟨rfl, rfl⟩) | ((with_reducible refine (HO2.out _).mono ?_); rintro e w2 ⟨rfl, rfl⟩)))
    go_ret
    exact ⟨ret_int HE.out.symm, below_up HAL.out HB4.out⟩
  ·obtain rfl : j = n := by omega
   have HE := HS.out
   rw [← HN.out] at HE
   have HE2 := Lib.hid (St.scan_done HE)
   clear HE
   go_wp2_with fail
   go_ret
   exact ⟨ret_int HE2.out.symm, hB⟩
end Go.Proofs.YthdiccdnggloiaaGreatDoor
namespace Go.Proofs.YthdiccdnggloiaaGreatDoor
open Go.RowKit Go.Sort Go.Shelf Go.Maps
theorem below_of_grownS {B : Nat} {a b : World} {p : Nat} (h : a.grownBy b (some p)) (hB : B ≤ a.heap.size) (hp : B ≤ p) : Below B a b :=
 ⟨h.os, h.tape, h.output, h.size, fun k hk => h.block k (by omega) fun e => by injection e with e; omega⟩
namespace St
def fileC (f : Fil) (before : ByteArray) : Int := if Fd.fileB f.dig = true then (if le f.dig before = true then 5 else fileR f) else 1
def bef (pre : List Fil) : ByteArray := match pre.getLast? with | some p => p.dig | none => ⟨#[]⟩
theorem fileE_bef (pre : List Fil) (f : Fil) : fileE pre f = fileC f (bef pre) := by
 unfold fileE fileC bef
 by_cases h : Fd.fileB f.dig = true
 ·rw [if_pos h, if_pos h]
  cases hp : pre.getLast? with
  | some p => rfl
  | none =>
    have : le f.dig ⟨#[]⟩ = false := by
     have h16 := size_len f.dig
     have hs : f.dig.size = 16 := by
      unfold Fd.fileB at h
      exact (of_decide_eq_true h).1
     have e0 : (⟨#[]⟩ : ByteArray).toList = [] := by rw [ByteArray.toList_eq]
     unfold le
     rw [e0]
     cases hl : f.dig.toList with
     | nil => rw [hl] at h16; simp at h16; omega
     | cons a r => simp [Op.bytesLess]
    show _ = if le f.dig ⟨#[]⟩ = true then 5 else fileR f
    rw [this]; rfl
 ·rw [if_neg h, if_neg h]
theorem bef_succ {L : List Fil} {j : Nat} {x : Fil} (h : L[j]? = some x) : bef (L.take (j + 1)) = x.dig := by
 unfold bef; rw [last_take h]
end St
theorem checkFile_is (x : Fil) (before : ByteArray) (hz : x.dig.size ≤ 9223372036854775807) (w : World) :
  Calls Tryz.prog 131 #[.agg #[.string x.dig, .int .i64 x.size, .int .i64 x.kind, .string x.frm], .string before] w fun e w' => e = .returned (.int .i64 (St.fileC x before)) ∧ Below w.heap.size w w' := by
 obtain ⟨W3, hW3, hX3, hz3, hB3⟩ := box w #[.string x.dig, .int .i64 x.size, .int .i64 x.kind, .string x.frm] 30
 have HW3 := Lib.hid hW3; have HB3 := Lib.hid hB3
 have HD : Hid (∀ W, Below W3.heap.size W3 W → W.cell? ⟨w.heap.size, 0, none⟩ = some (.string x.dig) ∧ W.cell? ⟨w.heap.size, 1, none⟩ = some (.int .i64 x.size) ∧ W.cell? ⟨w.heap.size, 2, none⟩ = some (.int .i64 x.kind) ∧ W.cell? ⟨w.heap.size, 3, none⟩ = some (.string x.frm)) := Lib.hid fun W hb =>
  have k := hX3.keep hb
  ⟨(k.cell 0).trans rfl, (k.cell 1).trans rfl, (k.cell 2).trans rfl, (k.cell 3).trans rfl⟩
 obtain ⟨d0, d1, d2, d3⟩ := HD.out _ (Below.refl _ _)
 have HDG := Lib.hid (isDigestS_is x.dig hz W3)
 have HO1 := Lib.hid (fun W => outsideS_is x.size 0 1000000000 W)
 have HO2 := Lib.hid (fun W => outsideS_is x.kind 1 3 W)
 obtain ⟨q, hq⟩ : ∃ q, St.fileC x before = q := ⟨_, rfl⟩
 rw [hq]
 unfold St.fileC St.fileR at hq
 have hle : (Op.bytesLess x.dig.toList before.toList || x.dig.toList == before.toList) = St.le x.dig before := rfl
 clear hW3 hX3 hB3 hz3 hz
 generalize St.le x.dig before = bl at *
 generalize Fd.fileB x.dig = bd at *
 generalize St.inB x.size 0 1000000000 = b1 at *
 generalize St.inB x.kind 1 3 = b2 at *
 cases bd
 ·have HQ := Lib.hid hq
  clear hq
  go_enter Tryz.func131, Tryz.ntmps131
  go_wp2_with fail
  rw [HW3.out]
  go_wp2_with (first | (go_at_call 188; (with_reducible refine HDG.out.mono ?_); rintro e w4 ⟨rfl, hB4⟩; have HB4 := Lib.hid hB4; obtain ⟨d0, d1, d2, d3⟩ := HD.out _ hB4) | (go_at_call 92; first | ((with_reducible refine (HO1.out _).mono ?_); rintro e w2 ⟨rfl, rfl⟩) | ((with_reducible refine (HO2.out _).mono ?_); rintro e w2 ⟨rfl, rfl⟩)))
  go_ret
  exact ⟨ret_int (by rw [← HQ.out]; rfl), below_up HB3.out HB4.out⟩
 cases bl
 ·cases b1
  ·have HQ := Lib.hid hq
   clear hq
   go_enter Tryz.func131, Tryz.ntmps131
   go_wp2_with fail
   rw [HW3.out]
   go_wp2_with (first | (go_at_call 188; (with_reducible refine HDG.out.mono ?_); rintro e w4 ⟨rfl, hB4⟩; have HB4 := Lib.hid hB4; obtain ⟨d0, d1, d2, d3⟩ := HD.out _ hB4) | (go_at_call 92; first | ((with_reducible refine (HO1.out _).mono ?_); rintro e w2 ⟨rfl, rfl⟩) | ((with_reducible refine (HO2.out _).mono ?_); rintro e w2 ⟨rfl, rfl⟩)))
   go_ret
   exact ⟨ret_int (by rw [← HQ.out]; rfl), below_up HB3.out HB4.out⟩
  cases b2
  ·have HQ := Lib.hid hq
   clear hq
   go_enter Tryz.func131, Tryz.ntmps131
   go_wp2_with fail
   rw [HW3.out]
   go_wp2_with (first | (go_at_call 188; (with_reducible refine HDG.out.mono ?_); rintro e w4 ⟨rfl, hB4⟩; have HB4 := Lib.hid hB4; obtain ⟨d0, d1, d2, d3⟩ := HD.out _ hB4) | (go_at_call 92; first | ((with_reducible refine (HO1.out _).mono ?_); rintro e w2 ⟨rfl, rfl⟩) | ((with_reducible refine (HO2.out _).mono ?_); rintro e w2 ⟨rfl, rfl⟩)))
   go_ret
   exact ⟨ret_int (by rw [← HQ.out]; rfl), below_up HB3.out HB4.out⟩
  by_cases hk : x.kind = 1
  ·have hk2 : (x.kind == 1) = true := by simpa using hk
   cases he : x.frm.toList.isEmpty
   ·have HQ : Hid ((1 : Int) = q) := Lib.hid (by rw [← hq, if_pos rfl, if_neg (by decide), if_pos rfl, if_pos rfl, if_pos ⟨hk, he⟩])
    clear hq hk
    go_enter Tryz.func131, Tryz.ntmps131
    go_wp2_with fail
    rw [HW3.out]
    go_wp2_with (first | (go_at_call 188; (with_reducible refine HDG.out.mono ?_); rintro e w4 ⟨rfl, hB4⟩; have HB4 := Lib.hid hB4; obtain ⟨d0, d1, d2, d3⟩ := HD.out _ hB4) | (go_at_call 92; first | ((with_reducible refine (HO1.out _).mono ?_); rintro e w2 ⟨rfl, rfl⟩) | ((with_reducible refine (HO2.out _).mono ?_); rintro e w2 ⟨rfl, rfl⟩)))
    go_ret
    exact ⟨ret_int HQ.out, below_up HB3.out HB4.out⟩
   ·have HQ : Hid ((0 : Int) = q) := Lib.hid (by rw [← hq, if_pos rfl, if_neg (by decide), if_pos rfl, if_pos rfl, if_neg (by rintro ⟨_, g⟩; rw [he] at g; cases g)])
    clear hq hk
    go_enter Tryz.func131, Tryz.ntmps131
    go_wp2_with fail
    rw [HW3.out]
    go_wp2_with (first | (go_at_call 188; (with_reducible refine HDG.out.mono ?_); rintro e w4 ⟨rfl, hB4⟩; have HB4 := Lib.hid hB4; obtain ⟨d0, d1, d2, d3⟩ := HD.out _ hB4) | (go_at_call 92; first | ((with_reducible refine (HO1.out _).mono ?_); rintro e w2 ⟨rfl, rfl⟩) | ((with_reducible refine (HO2.out _).mono ?_); rintro e w2 ⟨rfl, rfl⟩)))
    go_ret
    exact ⟨ret_int HQ.out, below_up HB3.out HB4.out⟩
  ·have hk2 : (x.kind == 1) = false := by simpa using hk
   have HQ : Hid ((0 : Int) = q) := Lib.hid (by rw [← hq, if_pos rfl, if_neg (by decide), if_pos rfl, if_pos rfl, if_neg (by rintro ⟨g, _⟩; exact hk g)])
   clear hq
   go_enter Tryz.func131, Tryz.ntmps131
   go_wp2_with fail
   rw [HW3.out]
   go_wp2_with (first | (go_at_call 188; (with_reducible refine HDG.out.mono ?_); rintro e w4 ⟨rfl, hB4⟩; have HB4 := Lib.hid hB4; obtain ⟨d0, d1, d2, d3⟩ := HD.out _ hB4) | (go_at_call 92; first | ((with_reducible refine (HO1.out _).mono ?_); rintro e w2 ⟨rfl, rfl⟩) | ((with_reducible refine (HO2.out _).mono ?_); rintro e w2 ⟨rfl, rfl⟩)))
   go_ret
   exact ⟨ret_int HQ.out, below_up HB3.out HB4.out⟩
 ·have HQ := Lib.hid hq
  clear hq
  go_enter Tryz.func131, Tryz.ntmps131
  go_wp2_with fail
  rw [HW3.out]
  go_wp2_with (first | (go_at_call 188; (with_reducible refine HDG.out.mono ?_); rintro e w4 ⟨rfl, hB4⟩; have HB4 := Lib.hid hB4; obtain ⟨d0, d1, d2, d3⟩ := HD.out _ hB4) | (go_at_call 92; first | ((with_reducible refine (HO1.out _).mono ?_); rintro e w2 ⟨rfl, rfl⟩) | ((with_reducible refine (HO2.out _).mono ?_); rintro e w2 ⟨rfl, rfl⟩)))
  go_ret
  exact ⟨ret_int (by rw [← HQ.out]; rfl), below_up HB3.out HB4.out⟩
theorem byDigest_is (s : Sto) (a : StA) (w : World) (hI : StIn w s a) (hn500 : s.files.length ≤ 500) :
  Calls Tryz.prog 98 #[.agg #[.int .i64 s.least, .int .i64 s.wait, .slice a.ta s.tiers.length a.tc, .slice a.fa s.files.length a.fc, .slice a.ca s.copies.length a.cc, .slice a.ha s.held.length a.hc, .slice a.ba s.bin.length a.bc]] w fun e w' => ∃ b, e = .returned (.map (some b)) ∧ w.heap.size ≤ b ∧ FMap w' b s.files ∧ Below w.heap.size w w' := by
 obtain ⟨W1, hW1, hP, hz1, hB1⟩ := box w #[.int .i64 s.least, .int .i64 s.wait, .slice a.ta s.tiers.length a.tc, .slice a.fa s.files.length a.fc, .slice a.ca s.copies.length a.cc, .slice a.ha s.held.length a.hc, .slice a.ba s.bin.length a.bc] 28
 have HW1 := Lib.hid hW1
 have HI1 := Lib.hid (hI.keep hB1)
 have q0 : W1.cell? ⟨w.heap.size, 0, none⟩ = some (.int .i64 s.least) := (hP.cell 0).trans rfl
 have q1 : W1.cell? ⟨w.heap.size, 1, none⟩ = some (.int .i64 s.wait) := (hP.cell 1).trans rfl
 have q2 : W1.cell? ⟨w.heap.size, 2, none⟩ = some (.slice a.ta s.tiers.length a.tc) := (hP.cell 2).trans rfl
 have q3 : W1.cell? ⟨w.heap.size, 3, none⟩ = some (.slice a.fa s.files.length a.fc) := (hP.cell 3).trans rfl
 have q4 : W1.cell? ⟨w.heap.size, 4, none⟩ = some (.slice a.ca s.copies.length a.cc) := (hP.cell 4).trans rfl
 have q5 : W1.cell? ⟨w.heap.size, 5, none⟩ = some (.slice a.ha s.held.length a.hc) := (hP.cell 5).trans rfl
 have q6 : W1.cell? ⟨w.heap.size, 6, none⟩ = some (.slice a.ba s.bin.length a.bc) := (hP.cell 6).trans rfl
 have HP := Lib.hid hP; have HB1 := Lib.hid hB1
 clear hW1 hP
 have HFZ := Lib.hid hI.fz
 have HI0 := Lib.hid hI
 obtain ⟨W2, hW2⟩ : ∃ W2, W1.alloc (.map #[] 0) = W2 := ⟨_, rfl⟩
 have HW2 := Lib.hid hW2
 have hM2 : FMap W2 W1.heap.size [] := by rw [← hW2]; exact FMap.made W1
 have hB2 : Below W1.heap.size W1 W2 := by rw [← hW2]; exact (Below.refl _ _).alloc (Nat.le_refl _) _
 have HB2 := Lib.hid (below_up HB1.out hB2)
 have p3 : W2.cell? ⟨w.heap.size, 3, none⟩ = some (.slice a.fa s.files.length a.fc) := ((HP.out.keep hB2).cell 3).trans rfl
 have hfl := hI.fl
 rw [hz1] at hM2
 have HM2 := Lib.hid hM2
 clear q0 q1 q2 q3 q4 q5 q6 hI hW2 hM2 hB2 hz1
 obtain ⟨n, hn⟩ : ∃ n, s.files.length = n := ⟨_, rfl⟩
 have HN := Lib.hid hn
 rw [hn] at p3 hfl hn500 HW1 ⊢
 clear hn
 have hmm := @run_makeMap Tryz.prog
 go_enter Tryz.func98, Tryz.ntmps98
 go_wp2_with fail
 rw [HW1.out]
 go_wp2_with fail
 rw [HW2.out]
 go_wp2_with fail
 go_loopg [10] n (fun gk i wr => ∃ j : Nat, j ≤ n ∧ gk = n - j ∧ i = .int .i64 j ∧ FMap wr (w.heap.size + 1) (s.files.take j) ∧ Below w.heap.size w wr)
 case atStart => exact ⟨0, by omega, rfl, rfl, HM2.out, HB2.out⟩
 case round =>
  obtain ⟨j, hj, rfl, rfl, hm, hB⟩ := hrel
  have HM := Lib.hid hm; clear hm
  by_cases hlt : j < n
  ·obtain ⟨x, hx⟩ : ∃ x, s.files[j]? = some x := ⟨_, List.getElem?_eq_getElem (by rw [HN.out]; exact hlt)⟩
   obtain ⟨b, off, ha, hb, hcell⟩ := ((HI0.out.keep hB).fi) (by rw [HN.out]; omega)
   have c0 : wr.cell? ⟨b, off + j * 4, none⟩ = some (.string x.dig) := hcell j x hx 0 (.string x.dig) rfl
   have c1 : wr.cell? ⟨b, off + j * 4 + 1, none⟩ = some (.int .i64 x.size) := hcell j x hx 1 (.int .i64 x.size) rfl
   have c2 : wr.cell? ⟨b, off + j * 4 + 2, none⟩ = some (.int .i64 x.kind) := hcell j x hx 2 (.int .i64 x.kind) rfl
   have c3 : wr.cell? ⟨b, off + j * 4 + 3, none⟩ = some (.string x.frm) := hcell j x hx 3 (.string x.frm) rfl
   clear hcell
   have HX := Lib.hid hx
   have HBR := Lib.hid hB
   obtain ⟨W3, hW3, hX3, hz3, hB3⟩ := box wr #[.string x.dig, .int .i64 x.size, .int .i64 x.kind, .string x.frm] 30
   have HW3 := Lib.hid hW3
   have d0 : W3.cell? ⟨wr.heap.size, 0, none⟩ = some (.string x.dig) := (hX3.cell 0).trans rfl
   have d1 : W3.cell? ⟨wr.heap.size, 1, none⟩ = some (.int .i64 x.size) := (hX3.cell 1).trans rfl
   have d2 : W3.cell? ⟨wr.heap.size, 2, none⟩ = some (.int .i64 x.kind) := (hX3.cell 2).trans rfl
   have d3 : W3.cell? ⟨wr.heap.size, 3, none⟩ = some (.string x.frm) := (hX3.cell 3).trans rfl
   obtain ⟨D, h1, h2, h3⟩ := HM.out.keep hB3
   have H1 := Lib.hid h1; have H2 := Lib.hid h2; have H3 := Lib.hid h3
   have HKEY := Lib.hid (keyS (HFZ.out x (List.mem_of_getElem? hx)).1)
   have htl : (s.files.take j).length ≤ 500 := by rw [List.length_take]; omega
   have HB03 := Lib.hid (below_up HBR.out hB3)
   have hj0 : (0 : Int) ≤ (j : Int) := by omega
   have hj1 : (j : Int) < (n : Int) := by omega
   clear hx h1 h2 h3 hW3 hX3 hB3 hz3 hB
   rw [ha]
   go_upto_region 5 with fail
   rw [HW3.out]
   go_wp2_with (at_mapUpdate; (refine wpList_mapUpdate_own _ rfl _ _ _ 133 rfl 9 30 (string_keyed Tryz.underlying9) Tryz.underlying133 St.rdF (w.heap.size + 1) (s.files.take j).length D rfl H1.out (by unfold maxLen; omega) _ _ (St.kl x.dig) rfl rfl HKEY.out (.held (St.fval x)) [] rfl ?_; intro w4 hown4 hg4))
   have HE := Lib.hid (FMap.put (w := w) (f := x) H2.out H3.out hown4)
   have HB4 := Lib.hid (HB03.out.trans (below_of_grownS hg4 HB03.out.size (by omega)))
   rw [← ha]
   go_roundg (n - (j + 1))
   case rel => exact ⟨j + 1, by omega, rfl, by go_num, by rw [List.take_add_one, HX.out]; exact HE.out, HB4.out⟩
   case measure => omega
  ·obtain rfl : j = n := by omega
   have hm := HM.out
   rw [← HN.out, List.take_length] at hm
   have HMM := Lib.hid hm
   clear hm
   go_wp2_with fail
   go_ret
   exact ⟨_, rfl, by omega, HMM.out, hB⟩
end Go.Proofs.YthdiccdnggloiaaGreatDoor
