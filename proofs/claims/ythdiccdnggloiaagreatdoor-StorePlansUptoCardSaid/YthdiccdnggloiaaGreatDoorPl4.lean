/- Parts of the proof, no condition: DigLays, StDig, StIdx, Events0, FdStr, FdStr2, FdStr3, StSmall, StGood, StRef1, StUsed, StChk1. -/
import Derived.Shelf.Strings.SlTrimAscii
import Derived.Test.YthdiccdnggloiaaGreatDoorProg
import Derived.Test.YthdiccdnggloiaaGreatDoorPl3
import Derived.Test.YthdiccdnggloiaaGreatDoorPl1
import Derived.Shelf.Abstract
import Derived.Below
import Derived.Lib.Bytealg
import Derived.WalkLawsBesides
import Derived.Lib.ConvBytes
import Derived.Laws.Closers25
set_option maxRecDepth 100000
set_option maxHeartbeats 4000000
set_option linter.unusedSimpArgs false
set_option linter.unusedVariables false
namespace Go.Proofs.YthdiccdnggloiaaGreatDoor
open Go.Shelf
def Lay.trimS_ren : Go.Shelf.Ren := ⟨fun | 160 => 215 | 232 => 231 | 231 => 230 | 227 => 232 | 234 => 234 | 233 => 233 | 236 => 236 | 235 => 235 | 228 => 242 | 271 => 245 | 151 => 244 | 197 => 243 | 120 => 249 | 152 => 248 | 260 => 247 | 137 => 157 | 119 => 250 | 224 => 251 | 225 => 252 | 217 => 200 | 266 => 218 | n => n, fun | 9 => 9 | 4 => 4 | 3 => 3 | 5 => 5 | 117 => 252 | 116 => 251 | 0 => 0 | 124 => 255 | 21 => 21 | 105 => 260 | 46 => 195 | 119 => 266 | 139 => 269 | 138 => 268 | n => n, fun | 3 => 4 | 4 => 5 | n => n⟩
theorem Lay.trimS : Go.Proofs.Lays.n160 Tryz.prog Lay.trimS_ren := {
 mixed := by kernel_rfl
 f119 := Tryz.func250.trans (congrArg some (by kernel_rfl))
 f120 := Tryz.func249.trans (congrArg some (by kernel_rfl))
 f137 := Tryz.func157.trans (congrArg some (by kernel_rfl))
 f151 := Tryz.func244.trans (congrArg some (by kernel_rfl))
 f152 := Tryz.func248.trans (congrArg some (by kernel_rfl))
 f160 := Tryz.func215.trans (congrArg some (by kernel_rfl))
 f197 := Tryz.func243.trans (congrArg some (by kernel_rfl))
 f217 := Tryz.func200.trans (congrArg some (by kernel_rfl))
 f224 := Tryz.func251.trans (congrArg some (by kernel_rfl))
 f225 := Tryz.func252.trans (congrArg some (by kernel_rfl))
 f227 := Tryz.func232.trans (congrArg some (by kernel_rfl))
 f228 := Tryz.func242.trans (congrArg some (by kernel_rfl))
 f231 := Tryz.func230.trans (congrArg some (by kernel_rfl))
 f232 := Tryz.func231.trans (congrArg some (by kernel_rfl))
 f233 := Tryz.func233.trans (congrArg some (by kernel_rfl))
 f234 := Tryz.func234.trans (congrArg some (by kernel_rfl))
 f235 := Tryz.func235.trans (congrArg some (by kernel_rfl))
 f236 := Tryz.func236.trans (congrArg some (by kernel_rfl))
 f260 := Tryz.func247.trans (congrArg some (by kernel_rfl))
 f266 := Tryz.func218.trans (congrArg some (by kernel_rfl))
 f271 := Tryz.func245.trans (congrArg some (by kernel_rfl))
 t0 := Tryz.underlying0
 a0 := Tryz.isAgg0
 z0 := Tryz.sizeOf0
 v0 := Tryz.zeroValue0
 t3 := Tryz.underlying3
 a3 := Tryz.isAgg3
 z3 := Tryz.sizeOf3
 v3 := Tryz.zeroValue3
 t4 := Tryz.underlying4
 a4 := Tryz.isAgg4
 z4 := Tryz.sizeOf4
 v4 := Tryz.zeroValue4
 t5 := Tryz.underlying5
 a5 := Tryz.isAgg5
 z5 := Tryz.sizeOf5
 v5 := Tryz.zeroValue5
 t9 := Tryz.underlying9
 a9 := Tryz.isAgg9
 z9 := Tryz.sizeOf9
 v9 := Tryz.zeroValue9
 t21 := Tryz.underlying21
 a21 := Tryz.isAgg21
 z21 := Tryz.sizeOf21
 v21 := Tryz.zeroValue21
 t46 := Tryz.underlying195
 a46 := Tryz.isAgg195
 z46 := Tryz.sizeOf195
 v46 := Tryz.zeroValue195
 t105 := Tryz.underlying260
 a105 := Tryz.isAgg260
 z105 := Tryz.sizeOf260
 v105 := Tryz.zeroValue260
 t116 := Tryz.underlying251
 a116 := Tryz.isAgg251
 z116 := Tryz.sizeOf251
 t117 := Tryz.underlying252
 a117 := Tryz.isAgg252
 z117 := Tryz.sizeOf252
 v117 := Tryz.zeroValue252
 t119 := Tryz.underlying266
 a119 := Tryz.isAgg266
 z119 := Tryz.sizeOf266
 t124 := Tryz.underlying255
 a124 := Tryz.isAgg255
 z124 := Tryz.sizeOf255
 v124 := Tryz.zeroValue255
 t138 := Tryz.underlying268
 a138 := Tryz.isAgg268
 z138 := Tryz.sizeOf268
 v138 := Tryz.zeroValue268
 t139 := Tryz.underlying269
 a139 := Tryz.isAgg269
 z139 := Tryz.sizeOf269
 v139 := Tryz.zeroValue269
 g3 := by kernel_rfl
 g4 := by kernel_rfl }
end Go.Proofs.YthdiccdnggloiaaGreatDoor
namespace Go.Proofs.YthdiccdnggloiaaGreatDoor
open Go.RowKit Go.Sort Go.Shelf
namespace Hx
def hexD : List UInt8 := [48, 49, 50, 51, 52, 53, 54, 55, 56, 57, 97, 98, 99, 100, 101, 102]
def isH (b : UInt8) : Bool := Fd.hexN b.toNat
theorem mem_hexD (b : UInt8) : hexD.contains b = isH b := by
 rw [Bool.eq_iff_iff]
 unfold hexD isH Fd.hexN
 rw [decide_eq_true_iff, List.contains_iff_mem]
 simp only [List.mem_cons, List.not_mem_nil, or_false, ← UInt8.toNat_inj]
 simp only [UInt8.reduceToNat]
 omega
theorem trim_nilH (l : List UInt8) : Lib.trimS l hexD = [] ↔ l.all isH = true := by
 have e : (fun x => hexD.contains x) = isH := funext mem_hexD
 unfold Lib.trimS Lib.trimLeftS Lib.trimRightS
 rw [e]
 constructor
 ·intro h
  by_cases c : l.reverse.dropWhile isH = []
  ·have := (Dg.dropWhile_nil isH l.reverse).1 c
   rwa [List.all_reverse] at this
  ·have h1 := Dg.dropWhile_head isH l.reverse c
   have h2 := (Dg.dropWhile_nil isH _).1 h
   rw [List.all_reverse, h1] at h2
   exact absurd h2 (by simp)
 ·intro h
  have : l.reverse.dropWhile isH = [] := (Dg.dropWhile_nil isH l.reverse).2 (by rw [List.all_reverse]; exact h)
  rw [this]; rfl
theorem fileB_all {s : ByteArray} (h : s.size = 16) : Fd.fileB s = s.data.toList.all isH := by
 have hl : s.data.toList.length = s.size := rfl
 rw [Bool.eq_iff_iff, List.all_eq_true]
 unfold Fd.fileB
 rw [decide_eq_true_eq]
 constructor
 ·rintro ⟨_, h2⟩ b hb
  obtain ⟨i, hi⟩ := List.getElem?_of_mem hb
  obtain ⟨hlt, hg⟩ := List.getElem?_eq_some_iff.1 hi
  have h3 := h2 i (by omega)
  have e : s[i] = b := by rw [← hg]; rfl
  rw [e] at h3
  exact h3
 ·intro h2
  refine ⟨h, fun i hi => ?_⟩
  exact h2 _ (show s[i] ∈ s.data.toList from by
   have e : s[i] = s.data.toList[i]'(by rw [hl]; exact hi) := rfl
   rw [e]; exact List.getElem_mem _)
end Hx
theorem trimH_is (s : ByteArray) (h0 : 0 < s.size) (hl : s.size ≤ 9223372036854775807) (w : World) :
  Calls Tryz.prog 215 #[.string s, .string ⟨#[48, 49, 50, 51, 52, 53, 54, 55, 56, 57, 97, 98, 99, 100, 101, 102]⟩] w fun e w' => e = .returned (.string (Tx.mk (Lib.trimS s.data.toList Hx.hexD))) ∧ Below w.heap.size w w' := by
 refine (Any.strings_Trim_set Lay.trimS Tryz.zeroValue251 (by kernel_rfl) s (Tx.mk Hx.hexD) w (by rw [Tx.mk_size]; decide) h0 hl (by rw [Tx.mk_size]; decide) (fun j b hb => ?_)).mono ?_
 ·rw [Tx.mk_toList] at hb
  have hm : b ∈ Hx.hexD := List.mem_of_getElem? hb
  have hd : Hx.isH b = true := by rw [← Hx.mem_hexD]; exact List.contains_iff_mem.2 hm
  have := of_decide_eq_true hd
  omega
 ·rintro e w' ⟨he, q, rfl⟩
  exact ⟨he, below_drewN (((Below.refl _ _).alloc (Nat.le_refl _) _).alloc (by simp) _) q⟩
theorem mkEmptyH_no (l : List UInt8) (h : l ≠ []) : (Tx.mk l).toList.isEmpty = false := by
 have e : (Tx.mk l).toList = l := by rw [ByteArray.toList_eq]
 rw [e]; cases l with | nil => exact absurd rfl h | cons a r => rfl
end Go.Proofs.YthdiccdnggloiaaGreatDoor
namespace Go.Proofs.YthdiccdnggloiaaGreatDoor
open Go.RowKit
namespace St
theorem idx_here {α : Type} {p : α → Bool} {L : List α} {j : Nat} {q : Int} {x : α} (h : idx p (L.drop j) j = q) (hx : L[j]? = some x) (hp : p x = true) : (j : Int) = q := by
 obtain ⟨hlt, hg⟩ := List.getElem?_eq_some_iff.1 hx
 rw [List.drop_eq_getElem_cons hlt, hg, idx, if_pos hp] at h
 exact h
theorem idx_next {α : Type} {p : α → Bool} {L : List α} {j : Nat} {q : Int} {x : α} (h : idx p (L.drop j) j = q) (hx : L[j]? = some x) (hp : p x = false) : idx p (L.drop (j + 1)) (j + 1) = q := by
 obtain ⟨hlt, hg⟩ := List.getElem?_eq_some_iff.1 hx
 rw [List.drop_eq_getElem_cons hlt, hg, idx, if_neg (by rw [hp]; decide)] at h
 exact h
theorem idx_end {α : Type} {p : α → Bool} {L : List α} {q : Int} (h : idx p (L.drop L.length) L.length = q) : (-1 : Int) = q := by
 rw [List.drop_length] at h; exact h
theorem idx_some {α : Type} {p : α → Bool} : ∀ {L : List α} {i : Nat} {n : Int}, idx p L i = n → 0 ≤ n → ∃ (j : Nat) (x : α), n = ((i + j : Nat) : Int) ∧ L[j]? = some x ∧ p x = true ∧ ∀ k y, k < j → L[k]? = some y → p y = false
 | [], i, n, h, h0 => by rw [idx] at h; omega
 | y :: r, i, n, h, h0 => by
   rw [idx] at h
   split at h
   ·rename_i hy
    exact ⟨0, y, h.symm, rfl, hy, fun k z hk => absurd hk (Nat.not_lt_zero _)⟩
   ·rename_i hy
    obtain ⟨j, x, h1, h2, h3, h4⟩ := idx_some h h0
    refine ⟨j + 1, x, by rw [h1]; congr 1; omega, by simpa using h2, h3, fun k z hk hz => ?_⟩
    cases k with
    | zero => simp at hz; subst hz; simpa using hy
    | succ k => exact h4 k z (by omega) (by simpa using hz)
theorem hasTier_idx (L : List Tir) (n : ByteArray) : hasTier L n = decide (0 ≤ tierAt L n) := by
 unfold tierAt
 cases h : hasTier L n with
 | false =>
   have : idx (fun t => eq t.name n) L 0 = -1 := idx_none fun x hx => by
    cases e : eq x.name n with
    | false => rfl
    | true =>
      have : hasTier L n = true := List.any_eq_true.2 ⟨x, hx, e⟩
      rw [h] at this; cases this
   rw [this]; rfl
 | true =>
   symm
   rw [decide_eq_true_eq]
   rcases Int.lt_or_le (idx (fun t => eq t.name n) L 0) 0 with g | g
   ·obtain ⟨x, hx, e⟩ := List.any_eq_true.1 h
    have := (idx_neg.1 g) x hx
    rw [e] at this; cases this
   ·exact g
theorem tier_first {L : List Tir} {j : Nat} {t : Tir} (h : L[j]? = some t) : (tierAt L t.name < (j : Int)) ↔ hasTier (L.take j) t.name = true := by
 unfold tierAt
 constructor
 ·intro hlt
  rcases Int.lt_or_le (idx (fun x => eq x.name t.name) L 0) 0 with g | g
  ·have := (idx_neg.1 g) t (List.mem_of_getElem? h)
   rw [eq_refl] at this; cases this
  ·obtain ⟨k, x, h1, h2, h3, _⟩ := idx_some rfl g
   have hk : k < j := by omega
   refine List.any_eq_true.2 ⟨x, List.mem_of_getElem? (i := k) ?_, h3⟩
   rw [List.getElem?_take, if_pos hk]; exact h2
 ·intro hh
  obtain ⟨x, hx, e⟩ := List.any_eq_true.1 hh
  obtain ⟨k, hk⟩ := List.getElem?_of_mem hx
  rw [List.getElem?_take] at hk
  split at hk
  ·rename_i hkj
   rcases Int.lt_or_le (idx (fun x => eq x.name t.name) L 0) 0 with g | g
   ·omega
   ·obtain ⟨m, y, h1, h2, h3, h4⟩ := idx_some rfl g
    rcases Nat.lt_or_ge k m with hm | hm
    ·have := h4 k x hm hk; rw [e] at this; cases this
    ·omega
  ·cases hk
theorem find_here {α : Type} {p : α → Bool} {L : List α} {j : Nat} {q : Option α} {x : α} (h : (L.drop j).find? p = q) (hx : L[j]? = some x) (hp : p x = true) : some x = q := by
 obtain ⟨hlt, hg⟩ := List.getElem?_eq_some_iff.1 hx
 rw [List.drop_eq_getElem_cons hlt, hg, List.find?_cons, hp] at h
 exact h
theorem find_next {α : Type} {p : α → Bool} {L : List α} {j : Nat} {q : Option α} {x : α} (h : (L.drop j).find? p = q) (hx : L[j]? = some x) (hp : p x = false) : (L.drop (j + 1)).find? p = q := by
 obtain ⟨hlt, hg⟩ := List.getElem?_eq_some_iff.1 hx
 rw [List.drop_eq_getElem_cons hlt, hg, List.find?_cons, hp] at h
 exact h
theorem find_end {α : Type} {p : α → Bool} {L : List α} {q : Option α} (h : (L.drop L.length).find? p = q) : none = q := by
 rw [List.drop_length] at h; exact h
end St
end Go.Proofs.YthdiccdnggloiaaGreatDoor
namespace Go.Proofs.YthdiccdnggloiaaGreatDoor
open Go.RowKit Go.Sort Go.Shelf
theorem below_allocs {a b : World} (h : Below a.heap.size a b) (o : Obj) : Below a.heap.size a (b.alloc o) := h.alloc h.size o
theorem moment_is (n : Int) (b : Bool) (h : Ev.mom n = b) (w : World) : Calls Tryz.prog 78 #[.int .i64 n] w fun e w' => e = .returned (.bool b) ∧ w = w' := by
 cases b
 ·have h' := (Ev.mom_no n).1 h
  clear h
  by_cases c : 0 ≤ n
  ·go_enter Tryz.func78, Tryz.ntmps78
   go_wp2_with fail
   go_ret
   exact ⟨ret_bool (by simp <;> omega), rfl⟩
  ·go_enter Tryz.func78, Tryz.ntmps78
   go_wp2_with fail
   go_ret
   exact ⟨ret_bool (by simp <;> omega), rfl⟩
 ·have h' := (Ev.mom_iff n).1 h
  clear h
  go_enter Tryz.func78, Tryz.ntmps78
  go_wp2_with fail
  go_ret
  exact ⟨ret_bool (by simp <;> omega), rfl⟩
def Row (w : World) (a : Option Addr) (len : Nat) (f : Nat → Value) : Prop :=
 0 < len → ∃ b off, a = some ⟨b, off, none⟩ ∧ b < w.heap.size ∧ ∀ i, i < len → w.cell? ⟨b, off + i, none⟩ = some (f i)
theorem Row.keep {w w' : World} {a : Option Addr} {len : Nat} {f : Nat → Value} (h : Row w a len f) (hb : Below w.heap.size w w') : Row w' a len f := by
 intro hl
 obtain ⟨b, off, rfl, hlt, hc⟩ := h hl
 exact ⟨b, off, rfl, Nat.lt_of_lt_of_le hlt hb.size, fun i hi => (hb.cell (p := ⟨b, off + i, none⟩) hlt).trans (hc i hi)⟩
theorem in_is (n lo hi : Int) (b : Bool) (h : decide (lo ≤ n ∧ n ≤ hi) = b) (w : World) : Calls Tryz.prog 70 #[.int .i64 n, .int .i64 lo, .int .i64 hi] w fun e w' => e = .returned (.bool b) ∧ w = w' := by
 cases b
 ·rw [decide_eq_false_iff_not] at h
  by_cases c : lo ≤ n
  ·have d : hi < n := by omega
   clear h
   go_enter Tryz.func70, Tryz.ntmps70
   go_wp2
   go_ret
   exact ⟨ret_bool (by simp <;> omega), rfl⟩
  ·clear h
   go_enter Tryz.func70, Tryz.ntmps70
   go_wp2
   go_ret
   exact ⟨ret_bool (by simp <;> omega), rfl⟩
 ·obtain ⟨h1, h2⟩ := of_decide_eq_true h
  clear h
  go_enter Tryz.func70, Tryz.ntmps70
  go_wp2
  go_ret
  exact ⟨ret_bool (by simp <;> omega), rfl⟩
theorem indexByteS (s : ByteArray) (c : Int) (w : World) : Calls Tryz.prog 157 #[.string s, .int .u8 c] w fun e w' => e = .returned (.int .i64 (Lib.indexByte s.data.toList c.toNat.toUInt8)) ∧ w = w' := by
 go_enter Tryz.func157, Tryz.ntmps157
 go_wp2
 rw [run_callFunc_extern Tryz.func218 (by kernel_rfl) (by kernel_rfl) (by kernel_rfl) (e := Extern.BytealgIndexByte.indexByte) (by kernel_rfl), Lib.run_indexByteString]
 simp only [Result.andThen]
 rw [Oper.upon_value]
 go_wp2
 go_ret
 exact ⟨rfl, rfl⟩
theorem hex_all : ∀ n, n < 256 → decide (Lib.indexByte [48, 49, 50, 51, 52, 53, 54, 55, 56, 57, 97, 98, 99, 100, 101, 102] n.toUInt8 < 0) = !Fd.hexN n := by decide +kernel
theorem hexIdx (c : UInt8) (b : Bool) (h : Fd.hexN c.toNat = b) (W : World) : Calls Tryz.prog 157 #[.string ⟨#[48, 49, 50, 51, 52, 53, 54, 55, 56, 57, 97, 98, 99, 100, 101, 102]⟩, .int .u8 c.toNat] W fun e w' => ∃ r : Int, e = .returned (.int .i64 r) ∧ decide (r < 0) = !b ∧ W = w' := by
 refine (indexByteS _ _ W).mono fun e w' h' => ⟨_, h'.1, ?_, h'.2⟩
 have := hex_all c.toNat c.toNat_lt
 rw [h] at this
 rw [Int.toNat_natCast]
 exact this
theorem isDigest_is (s : ByteArray) (hs : s.size ≤ 9223372036854775807) (b : Bool) (h : Fd.fileB s = b) (w : World) : Calls Tryz.prog 73 #[.string s] w fun e w' => e = .returned (.bool b) ∧ w = w' := by
 have HB := Lib.hid h; clear h
 go_enter Tryz.func73, Tryz.ntmps73
 go_wp2_with fail
 go_loopg [6] s.size (fun gk i wr => ∃ j : Nat, j ≤ s.size ∧ gk = s.size - j ∧ i = .int .i64 j ∧ (∀ i, (h : i < s.size) → i < j → Fd.hexN s[i].toNat = true) ∧ w = wr)
 case atStart => exact ⟨0, by omega, rfl, rfl, fun i _ hi => by omega, rfl⟩
 case round =>
  obtain ⟨j, hj, rfl, rfl, hall, rfl⟩ := hrel
  have HALL := Lib.hid hall; clear hall
  by_cases hlt : j < s.size
  ·by_cases hx : Fd.hexN s[j].toNat = true
   ·have HN := Lib.hid (Fd.upto_next (P := fun _ c => Fd.hexN c = true) HALL.out hlt hx)
    have HX := Lib.hid (fun W => hexIdx s[j] true hx W)
    clear hx
    go_wp2_with (go_at_call 157; refine (HX.out _).mono ?_; rintro e w' ⟨r, rfl, hr, rfl⟩; simp only [Bool.not_true] at hr; have hr2 : ¬ r < 0 := of_decide_eq_false hr)
    go_roundg (s.size - (j + 1))
    case rel => exact ⟨j + 1, by omega, rfl, by go_num, HN.out, rfl⟩
    case measure => omega
   ·have hx' : Fd.hexN s[j].toNat = false := by simpa using hx
    have HX := Lib.hid (fun W => hexIdx s[j] false hx' W)
    have HB2 : Hid (b = false) := by have h1 := HB.out; rw [Fd.fileB_at j hlt hx'] at h1; exact Lib.hid h1.symm
    clear hx'
    clear hx
    go_wp2_with (go_at_call 157; refine (HX.out _).mono ?_; rintro e w' ⟨r, rfl, hr, rfl⟩; simp only [Bool.not_false] at hr; have hr2 : r < 0 := of_decide_eq_true hr)
    go_ret
    exact ⟨ret_bool HB2.out.symm, rfl⟩
  ·obtain rfl : j = s.size := by omega
   by_cases hz : s.size = 16
   ·have hz1 : ((s.size : Int) == 16) = true := by simp; omega
    have HB2 : Hid (b = true) := by have h1 := HB.out; rw [Fd.fileB_yes hz (fun i hi => HALL.out i hi hi)] at h1; exact Lib.hid h1.symm
    have HZ := Lib.hid hz; clear hz
    go_wp2_with fail
    go_ret
    exact ⟨ret_bool HB2.out.symm, rfl⟩
   ·have hz1 : ((s.size : Int) == 16) = false := by simp; omega
    have HB2 : Hid (b = false) := by have h1 := HB.out; rw [Fd.fileB_size hz] at h1; exact Lib.hid h1.symm
    clear hz
    go_wp2_with fail
    go_ret
    exact ⟨ret_bool HB2.out.symm, rfl⟩
theorem isNameR_is (s : ByteArray) (hs : s.size ≤ 9223372036854775807) (b : Bool) (h : Fd.nameB s = b) (w : World) : Calls Tryz.prog 71 #[.string s] w fun e w' => e = .returned (.bool b) ∧ w = w' := by
 have HB := Lib.hid h; clear h
 go_enter Tryz.func71, Tryz.ntmps71
 go_wp2_with fail
 go_loopg [6] s.size (fun gk i wr => ∃ j : Nat, j ≤ s.size ∧ gk = s.size - j ∧ i = .int .i64 j ∧ (∀ i, (h : i < s.size) → i < j → Fd.nmN i s[i].toNat = true) ∧ w = wr)
 case atStart => exact ⟨0, by omega, rfl, rfl, fun i _ hi => by omega, rfl⟩
 case round =>
  obtain ⟨j, hj, rfl, rfl, hall, rfl⟩ := hrel
  have HALL := Lib.hid hall; clear hall
  by_cases hlt : j < s.size
  ·by_cases hx : Fd.nmN j s[j].toNat = true
   ·have HN := Lib.hid (Fd.upto_next (P := fun i c => Fd.nmN i c = true) HALL.out hlt hx)
    have ht := (Fd.tailN_iff _).1 (Fd.nmN_tail _ _ hx)
    by_cases i1 : (97 : Int) ≤ (s[j].toNat : Int) ∧ (s[j].toNat : Int) ≤ 122
    ·obtain ⟨i1, i2⟩ := i1
     clear hx ht
     go_wp2_with fail
     go_roundg (s.size - (j + 1))
     case rel => exact ⟨j + 1, by omega, rfl, by go_num, HN.out, rfl⟩
     case measure => omega
    ·have hj0 : j ≠ 0 := by
      rintro rfl
      rw [Fd.nmN_zero, Fd.letN_iff] at hx; omega
     have hj1 : ((j : Int) == 0) = false := by simpa using hj0
     clear hx
     by_cases i3 : s[j].toNat = 45
     ·have i4 : ((s[j].toNat : Int) == 45) = true := by simp; omega
      have i5 : ((s[j].toNat : Int) != 45) = false := by simp; omega
      have i6 : (s[j].toNat : Int) < 97 := by omega
      clear i1 ht i3
      go_wp2_with fail
      go_roundg (s.size - (j + 1))
      case rel => exact ⟨j + 1, by omega, rfl, by go_num, HN.out, rfl⟩
      case measure => omega
     ·have i4 : ((s[j].toNat : Int) == 45) = false := by simp; omega
      have i5 : ((s[j].toNat : Int) != 45) = true := by simp; omega
      have i6 : (s[j].toNat : Int) < 97 := by omega
      have i7 : (48 : Int) ≤ (s[j].toNat : Int) := by omega
      have i8 : (s[j].toNat : Int) ≤ 57 := by omega
      clear i1 ht i3
      go_wp2_with fail
      go_roundg (s.size - (j + 1))
      case rel => exact ⟨j + 1, by omega, rfl, by go_num, HN.out, rfl⟩
      case measure => omega
   ·have hx' : Fd.nmN j s[j].toNat = false := by simpa using hx
    have HB2 : Hid (b = false) := by have h1 := HB.out; rw [Fd.nameB_at j hlt hx'] at h1; exact Lib.hid h1.symm
    by_cases hj0 : j = 0
    ·have hj1 : ((j : Int) == 0) = true := by simpa using hj0
     have hl : ¬ (97 ≤ s[j].toNat ∧ s[j].toNat ≤ 122) := by
      have hx2 := hx'
      unfold Fd.nmN at hx2; rw [if_pos hj0] at hx2
      rw [← Fd.letN_iff, hx2]; simp
     have HJ := Lib.hid hj0; clear hj0 hx'
     by_cases i1 : (s[j].toNat : Int) < 97
     ·clear hl
      clear hx
      go_wp2_with fail
      go_ret
      exact ⟨ret_bool HB2.out.symm, rfl⟩
     ·have i2 : (122 : Int) < (s[j].toNat : Int) := by omega
      clear hl
      clear hx
      go_wp2_with fail
      go_ret
      exact ⟨ret_bool HB2.out.symm, rfl⟩
    ·have hj1 : ((j : Int) == 0) = false := by simpa using hj0
     have hl : ¬ (97 ≤ s[j].toNat ∧ s[j].toNat ≤ 122 ∨ 48 ≤ s[j].toNat ∧ s[j].toNat ≤ 57 ∨ s[j].toNat = 45) := by rw [← Fd.tailN_iff]; rw [Fd.nmN_pos _ _ hj0] at hx'; rw [hx']; simp
     have i4 : ((s[j].toNat : Int) == 45) = false := by simp; omega
     have i5 : ((s[j].toNat : Int) != 45) = true := by simp; omega
     clear hx' hj0
     by_cases i1 : (s[j].toNat : Int) < 97
     ·by_cases i2 : (s[j].toNat : Int) < 48
      ·clear hl
       clear hx
       go_wp2_with fail
       go_ret
       exact ⟨ret_bool HB2.out.symm, rfl⟩
      ·have i3 : (57 : Int) < (s[j].toNat : Int) := by omega
       clear hl
       clear hx
       go_wp2_with fail
       go_ret
       exact ⟨ret_bool HB2.out.symm, rfl⟩
     ·have i2 : (122 : Int) < (s[j].toNat : Int) := by omega
      have i3 : (57 : Int) < (s[j].toNat : Int) := by omega
      have i6 : (48 : Int) ≤ (s[j].toNat : Int) := by omega
      clear hl
      clear hx
      go_wp2_with fail
      go_ret
      exact ⟨ret_bool HB2.out.symm, rfl⟩
  ·obtain rfl : j = s.size := by omega
   by_cases hz : 1 ≤ s.size ∧ s.size ≤ 40
   ·have HB2 : Hid (b = true) := by have h1 := HB.out; rw [Fd.nameB_yes hz (fun i hi => HALL.out i hi hi)] at h1; exact Lib.hid h1.symm
    obtain ⟨z1, z2⟩ := hz
    have z3 : (1 : Int) ≤ (s.size : Int) := by omega
    have z4 : (s.size : Int) ≤ 40 := by omega
    go_wp2_with fail
    go_ret
    exact ⟨ret_bool (by first | exact HB2.out.symm | (rw [HB2.out]; simp <;> omega)), rfl⟩
   ·have HB2 : Hid (b = false) := by have h1 := HB.out; rw [Fd.nameB_size hz] at h1; exact Lib.hid h1.symm
    by_cases z3 : (1 : Int) ≤ (s.size : Int)
    ·have z4 : (40 : Int) < (s.size : Int) := by omega
     clear hz
     go_wp2_with fail
     go_ret
     exact ⟨ret_bool (by first | exact HB2.out.symm | (rw [HB2.out]; simp <;> omega)), rfl⟩
    ·clear hz
     go_wp2_with fail
     go_ret
     exact ⟨ret_bool (by first | exact HB2.out.symm | (rw [HB2.out]; simp <;> omega)), rfl⟩
theorem strEmpty_no (s : ByteArray) (h : s.size ≠ 0) : s.toList.isEmpty = false := by
 rw [← decide_eq_emptyBytes]; exact decide_eq_false fun e => h (by rw [e]; rfl)
theorem strEmpty_yes (s : ByteArray) (h : s.size = 0) : s.toList.isEmpty = true := by
 rw [← decide_eq_emptyBytes]
 refine decide_eq_true ?_
 obtain ⟨d⟩ := s
 have : d = #[] := Array.eq_empty_of_size_eq_zero h
 subst this; rfl
theorem isNameW_is (s : ByteArray) (hs : s.size ≤ 9223372036854775807) (b : Bool) (h : Fd.nameB s = b) (w : World) : Calls Tryz.prog 180 #[.string s] w fun e w' => e = .returned (.bool b) ∧ w = w' := by
 have HB := Lib.hid h; clear h
 by_cases z0 : s.size = 0
 ·have HB2 : Hid (b = false) := by have h1 := HB.out; rw [Fd.nameB_size (by omega)] at h1; exact Lib.hid h1.symm
  have e1 := strEmpty_yes s z0
  have e2 : s.toList = [] := by simpa using e1
  have HZ := Lib.hid z0; clear z0
  go_enter Tryz.func180, Tryz.ntmps180
  go_wp2_with fail
  go_ret
  exact ⟨ret_bool (by first | exact HB2.out.symm | (rw [HB2.out]; simp)), rfl⟩
 ·have z1 : (0 : Int) < (s.size : Int) := by omega
  have z2 : 0 < s.size := by omega
  have e1 := strEmpty_no s z0
  have e2 : ¬ s.toList = [] := by simpa using e1
  clear z0
  by_cases z3 : (40 : Int) < (s.size : Int)
  ·have HB2 : Hid (b = false) := by have h1 := HB.out; rw [Fd.nameB_size (by omega)] at h1; exact Lib.hid h1.symm
   go_enter Tryz.func180, Tryz.ntmps180
   go_wp2_with fail
   go_ret
   exact ⟨ret_bool (by first | exact HB2.out.symm | (rw [HB2.out]; simp)), rfl⟩
  ·have hz : 1 ≤ s.size ∧ s.size ≤ 40 := by omega
   have HZ := Lib.hid hz; clear hz
   by_cases hl : Fd.letN (s[0]'z2).toNat = true
   ·have hl2 := (Fd.letN_iff _).1 hl
    have HL := Lib.hid hl
    have i1 : ¬ ((s[0]'z2).toNat : Int) < 97 := by omega
    have i2 : ¬ (122 : Int) < ((s[0]'z2).toNat : Int) := by omega
    clear hl hl2
    go_enter Tryz.func180, Tryz.ntmps180
    go_wp2_with fail
    clear i1 i2
    go_loopg [24] s.size (fun gk i wr => ∃ j : Nat, j ≤ s.size ∧ gk = s.size - j ∧ i = .int .i64 j ∧ (∀ i, (h : i < s.size) → i < j → Fd.nmN i s[i].toNat = true) ∧ w = wr)
    case atStart => exact ⟨0, by omega, rfl, rfl, fun i _ hi => by omega, rfl⟩
    case round =>
     obtain ⟨j, hj, rfl, rfl, hall, rfl⟩ := hrel
     have HALL := Lib.hid hall; clear hall
     by_cases hlt : j < s.size
     ·by_cases hx : Fd.tailN s[j].toNat = true
      ·have hnm : Fd.nmN j s[j].toNat = true := by
        by_cases e : j = 0
        ·subst e; exact HL.out
        ·rw [Fd.nmN_pos _ _ e]; exact hx
       have HN := Lib.hid (Fd.upto_next (P := fun i c => Fd.nmN i c = true) HALL.out hlt hnm)
       have ht := (Fd.tailN_iff _).1 hx
       clear hx hnm
       by_cases i1 : (97 : Int) ≤ (s[j].toNat : Int) ∧ (s[j].toNat : Int) ≤ 122
       ·obtain ⟨i1, i2⟩ := i1
        clear ht
        go_wp2_with fail
        go_roundg (s.size - (j + 1))
        case rel => exact ⟨j + 1, by omega, rfl, by go_num, HN.out, rfl⟩
        case measure => omega
       ·by_cases i3 : s[j].toNat = 45
        ·have i4 : ((s[j].toNat : Int) == 45) = true := by simp; omega
         have i6 : ¬ (97 : Int) ≤ (s[j].toNat : Int) := by omega
         have i7 : ¬ (48 : Int) ≤ (s[j].toNat : Int) := by omega
         clear i1 ht i3
         go_wp2_with fail
         go_roundg (s.size - (j + 1))
         case rel => exact ⟨j + 1, by omega, rfl, by go_num, HN.out, rfl⟩
         case measure => omega
        ·have i6 : ¬ (97 : Int) ≤ (s[j].toNat : Int) := by omega
         have i7 : (48 : Int) ≤ (s[j].toNat : Int) := by omega
         have i8 : (s[j].toNat : Int) ≤ 57 := by omega
         clear i1 ht i3
         go_wp2_with fail
         go_roundg (s.size - (j + 1))
         case rel => exact ⟨j + 1, by omega, rfl, by go_num, HN.out, rfl⟩
         case measure => omega
      ·have hx' : Fd.nmN j s[j].toNat = false := by
        cases hc : Fd.nmN j s[j].toNat
        ·rfl
        ·exact absurd (Fd.nmN_tail _ _ hc) hx
       have HB2 : Hid (b = false) := by have h1 := HB.out; rw [Fd.nameB_at j hlt hx'] at h1; exact Lib.hid h1.symm
       have ht : ¬ (97 ≤ s[j].toNat ∧ s[j].toNat ≤ 122 ∨ 48 ≤ s[j].toNat ∧ s[j].toNat ≤ 57 ∨ s[j].toNat = 45) := fun g => hx ((Fd.tailN_iff _).2 g)
       have i4 : ((s[j].toNat : Int) == 45) = false := by simp; omega
       clear hx hx'
       by_cases i1 : (97 : Int) ≤ (s[j].toNat : Int)
       ·have i2 : ¬ (s[j].toNat : Int) ≤ 122 := by omega
        have i3 : (48 : Int) ≤ (s[j].toNat : Int) := by omega
        have i5 : ¬ (s[j].toNat : Int) ≤ 57 := by omega
        clear ht
        go_wp2_with fail
        go_ret
        exact ⟨ret_bool HB2.out.symm, rfl⟩
       ·by_cases i3 : (48 : Int) ≤ (s[j].toNat : Int)
        ·have i5 : ¬ (s[j].toNat : Int) ≤ 57 := by omega
         clear ht
         go_wp2_with fail
         go_ret
         exact ⟨ret_bool HB2.out.symm, rfl⟩
        ·clear ht
         go_wp2_with fail
         go_ret
         exact ⟨ret_bool HB2.out.symm, rfl⟩
     ·obtain rfl : j = s.size := by omega
      have HB2 : Hid (b = true) := by have h1 := HB.out; rw [Fd.nameB_yes HZ.out (fun i hi => HALL.out i hi hi)] at h1; exact Lib.hid h1.symm
      go_wp2_with fail
      go_ret
      exact ⟨ret_bool HB2.out.symm, rfl⟩
   ·have HB2 : Hid (b = false) := by have h1 := HB.out; rw [Fd.nameB_at 0 z2 (by rw [Fd.nmN_zero]; simpa using hl)] at h1; exact Lib.hid h1.symm
    rw [Fd.letN_iff] at hl
    by_cases i1 : ((s[0]'z2).toNat : Int) < 97
    ·clear hl
     go_enter Tryz.func180, Tryz.ntmps180
     go_wp2_with fail
     go_ret
     exact ⟨ret_bool (by first | exact HB2.out.symm | (rw [HB2.out]; simp)), rfl⟩
    ·have i2 : (122 : Int) < ((s[0]'z2).toNat : Int) := by omega
     clear hl
     go_enter Tryz.func180, Tryz.ntmps180
     go_wp2_with fail
     go_ret
     exact ⟨ret_bool (by first | exact HB2.out.symm | (rw [HB2.out]; simp)), rfl⟩
theorem outsideS_is (n lo hi : Int) (w : World) : Calls Tryz.prog 92 #[.int .i64 n, .int .i64 lo, .int .i64 hi] w fun e w' => e = .returned (.bool (!St.inB n lo hi)) ∧ w = w' := by
 by_cases h : lo ≤ n ∧ n ≤ hi
 ·rw [show St.inB n lo hi = true from decide_eq_true h]
  obtain ⟨h1, h2⟩ := h
  go_enter Tryz.func92, Tryz.ntmps92
  go_wp2
  go_ret
  exact ⟨ret_bool (by simp <;> omega), rfl⟩
 ·rw [show St.inB n lo hi = false from decide_eq_false h]
  by_cases c : n < lo
  ·clear h
   go_enter Tryz.func92, Tryz.ntmps92
   go_wp2
   go_ret
   exact ⟨ret_bool (by simp <;> omega), rfl⟩
  ·have d : hi < n := by omega
   clear h
   go_enter Tryz.func92, Tryz.ntmps92
   go_wp2
   go_ret
   exact ⟨ret_bool (by simp <;> omega), rfl⟩
theorem isMomentS_is (n : Int) (w : World) : Calls Tryz.prog 132 #[.int .i64 n] w fun e w' => e = .returned (.bool (St.isMom n)) ∧ w = w' := by
 have h := Lib.hid (fun W => outsideS_is n 0 6311433599 W)
 rw [show St.isMom n = St.inB n 0 6311433599 from rfl]
 generalize St.inB n 0 6311433599 = b at *
 cases b
 ·go_enter Tryz.func132, Tryz.ntmps132
  go_wp2_with (go_at_call 92; (with_reducible refine (h.out _).mono ?_); rintro e w2 ⟨rfl, rfl⟩)
  go_ret
  exact ⟨rfl, rfl⟩
 ·go_enter Tryz.func132, Tryz.ntmps132
  go_wp2_with (go_at_call 92; (with_reducible refine (h.out _).mono ?_); rintro e w2 ⟨rfl, rfl⟩)
  go_ret
  exact ⟨rfl, rfl⟩
theorem isDayS_is (n : Int) (w : World) : Calls Tryz.prog 64 #[.int .i64 n] w fun e w' => e = .returned (.bool (St.inB n 0 73048)) ∧ w = w' := by
 have h := Lib.hid (fun W => outsideS_is n 0 73048 W)
 generalize St.inB n 0 73048 = b at *
 cases b
 ·go_enter Tryz.func64, Tryz.ntmps64
  go_wp2_with (go_at_call 92; (with_reducible refine (h.out _).mono ?_); rintro e w2 ⟨rfl, rfl⟩)
  go_ret
  exact ⟨rfl, rfl⟩
 ·go_enter Tryz.func64, Tryz.ntmps64
  go_wp2_with (go_at_call 92; (with_reducible refine (h.out _).mono ?_); rintro e w2 ⟨rfl, rfl⟩)
  go_ret
  exact ⟨rfl, rfl⟩
theorem inS_is (n lo hi : Int) (w : World) : Calls Tryz.prog 70 #[.int .i64 n, .int .i64 lo, .int .i64 hi] w fun e w' => e = .returned (.bool (St.inB n lo hi)) ∧ w = w' := in_is n lo hi _ rfl w
theorem momentS_is (n : Int) (w : World) : Calls Tryz.prog 78 #[.int .i64 n] w fun e w' => e = .returned (.bool (St.isMom n)) ∧ w = w' := moment_is n _ rfl w
theorem isDigestS_is (d : ByteArray) (hd : d.size ≤ 9223372036854775807) (w : World) : Calls Tryz.prog 188 #[.string d] w fun e w' => e = .returned (.bool (Fd.fileB d)) ∧ Below w.heap.size w w' := by
 by_cases h : d.size = 16
 ·have HT := Lib.hid (trimH_is d (by omega) hd w)
  have h16 : ((d.size : Int) == 16) = true := by rw [h]; rfl
  rw [Hx.fileB_all h]
  by_cases h1 : d.data.toList.all Hx.isH = true
  ·rw [(Hx.trim_nilH _).2 h1] at HT
   rw [h1]
   clear h1
   go_enter Tryz.func188, Tryz.ntmps188
   go_wp2_with (go_at_call 215; refine HT.out.mono ?_; rintro e w2 ⟨rfl, hB2⟩)
   go_ret
   exact ⟨rfl, hB2⟩
  ·have e1 := mkEmptyH_no (Lib.trimS d.data.toList Hx.hexD) (fun h => h1 ((Hx.trim_nilH _).1 h))
   rw [show d.data.toList.all Hx.isH = false by simpa using h1]
   generalize Tx.mk (Lib.trimS d.data.toList Hx.hexD) = t at *
   clear h1
   go_enter Tryz.func188, Tryz.ntmps188
   go_wp2_with (go_at_call 215; refine HT.out.mono ?_; rintro e w2 ⟨rfl, hB2⟩)
   go_ret
   exact ⟨rfl, hB2⟩
 ·have h16 : ((d.size : Int) == 16) = false := by rw [beq_eq_false_iff_ne]; omega
  have h16' : ¬ ((d.size : Int) = 16) := by omega
  rw [Fd.fileB_size h]
  go_enter Tryz.func188, Tryz.ntmps188
  go_wp2_with fail
  go_ret
  exact ⟨rfl, Below.refl _ _⟩
end Go.Proofs.YthdiccdnggloiaaGreatDoor
namespace Go.Proofs.YthdiccdnggloiaaGreatDoor
open Go.RowKit
namespace St
def goodAt (s : Sto) (d t : ByteArray) : Bool := match s.copies.find? (fun c => eq c.dig d && eq c.tier t) with | some c => c.good | none => false
def goodL (s : Sto) (d : ByteArray) : List Tir := s.tiers.filter fun t => goodAt s d t.name
def awayN (L : List Tir) : Nat := L.countP fun t => t.away
def short (s : Sto) (d : ByteArray) : Bool := decide (((goodL s d).length : Int) < s.least) || (awayN (goodL s d) == 0 && decide (0 < awayN s.tiers))
def neededD (s : Sto) (d : ByteArray) : Bool := needed s (filD s.files d)
def garbage (s : Sto) (c : Cop) : Bool :=
 !(neededD s c.dig || (decide ((filD s.files c.dig).kind = 3) && neededD s (filD s.files c.dig).frm)) || (!c.good && decide (0 < (goodL s c.dig).length))
def garbageR (s : Sto) (c : Cop) : Bool :=
 (!c.good && decide (0 < (goodL s c.dig).length)) || (!neededD s c.dig && !(decide ((filD s.files c.dig).kind = 3) && kept s (filD s.files c.dig).frm))
def garbageL (s : Sto) : List Cop := s.copies.filter (garbage s)
theorem cop_one {s : Sto} (r : Right s) {c c' : Cop} (h : c ∈ s.copies) (h' : c' ∈ s.copies) (e : eq c.dig c'.dig = true) (e' : eq c.tier c'.tier = true) : c = c' := by
 refine (cop_up r).one h h' ?_
 unfold ckey
 rw [eq_iff.1 e, eq_iff.1 e']
theorem orig_needed {s : Sto} (r : Right s) {d : ByteArray} (h : kindOf s.files d = 1) : neededD s d = kept s d := by
 obtain ⟨f, hf, _, hd, hk⟩ := kind_mem h
 unfold neededD filD
 rw [hf]
 show needed s f = _
 unfold needed
 rw [if_pos hk, hd]
theorem garbage_same {s : Sto} (r : Right s) (c : Cop) : garbage s c = garbageR s c := by
 unfold garbage garbageR
 by_cases h3 : (filD s.files c.dig).kind = 3
 ·have h1 : kindOf s.files (filD s.files c.dig).frm = 1 := by
   cases hf : fileOf s.files c.dig with
   | none =>
     have : (filD s.files c.dig).kind = 0 := by unfold filD; rw [hf]; rfl
     omega
   | some f =>
     have e : filD s.files c.dig = f := by unfold filD; rw [hf]; rfl
     rw [e] at h3 ⊢
     exact r.frm f (find_mem hf).1 (by omega)
  rw [orig_needed r h1]
  cases neededD s c.dig <;> cases kept s (filD s.files c.dig).frm <;> cases c.good <;> cases decide (0 < (goodL s c.dig).length) <;> simp [h3]
 ·cases neededD s c.dig <;> cases kept s (filD s.files c.dig).frm <;> cases c.good <;> cases decide (0 < (goodL s c.dig).length) <;> simp [h3]
end St
end Go.Proofs.YthdiccdnggloiaaGreatDoor
namespace Go.Proofs.YthdiccdnggloiaaGreatDoor
open Go.RowKit Go.Sort Go.Shelf
theorem tierOf_is (s : Sto) (a : StA) (name : ByteArray) (w : World) (hI : StIn w s a) :
  Calls Tryz.prog 72 #[.agg #[.int .i64 s.least, .int .i64 s.wait, .slice a.ta s.tiers.length a.tc, .slice a.fa s.files.length a.fc, .slice a.ca s.copies.length a.cc, .slice a.ha s.held.length a.hc, .slice a.ba s.bin.length a.bc], .string name] w fun e w' => e = .returned (.int .i64 (St.tierAt s.tiers name)) ∧ Below w.heap.size w w' := by
 obtain ⟨W1, hW1, hP, hz1, hB1⟩ := box w #[.int .i64 s.least, .int .i64 s.wait, .slice a.ta s.tiers.length a.tc, .slice a.fa s.files.length a.fc, .slice a.ca s.copies.length a.cc, .slice a.ha s.held.length a.hc, .slice a.ba s.bin.length a.bc] 28
 have HW1 := Lib.hid hW1
 have HI1 := Lib.hid (hI.keep hB1)
 obtain ⟨q0, q1, q2, q3, q4, q5, q6⟩ := hP.sv7
 have HP := Lib.hid hP; have HB1 := Lib.hid hB1
 clear hW1 hP
 have htl := hI.tl
 obtain ⟨q, hq⟩ : ∃ q, St.tierAt s.tiers name = q := ⟨_, rfl⟩
 rw [hq]
 have HQ : Hid (St.idx (fun t => St.eq t.name name) (s.tiers.drop 0) 0 = q) := Lib.hid hq
 clear q0 q1 q3 q4 q5 q6 hI hq
 obtain ⟨n, hn⟩ : ∃ n, s.tiers.length = n := ⟨_, rfl⟩
 have HN := Lib.hid hn
 rw [hn] at q2 htl HW1 ⊢
 clear hn
 go_enter Tryz.func72, Tryz.ntmps72
 go_wp2_with fail
 rw [HW1.out]
 go_wp2_with fail
 go_loopg [10] n (fun gk i wr => ∃ j : Nat, j ≤ n ∧ gk = n - j ∧ i = .int .i64 j ∧ St.idx (fun t => St.eq t.name name) (s.tiers.drop j) j = q ∧ Below w.heap.size w wr ∧ Below W1.heap.size W1 wr)
 case atStart => exact ⟨0, by omega, rfl, rfl, HQ.out, HB1.out, Below.refl _ _⟩
 case round =>
  obtain ⟨j, hj, rfl, rfl, hs, hB, hBW⟩ := hrel
  have HS := Lib.hid hs; clear hs
  by_cases hlt : j < n
  ·obtain ⟨x, hx⟩ : ∃ x, s.tiers[j]? = some x := ⟨_, List.getElem?_eq_getElem (by rw [HN.out]; exact hlt)⟩
   obtain ⟨b, off, ha, hb, hcell⟩ := ((HI1.out.keep hBW).ti) (by rw [HN.out]; omega)
   have c0 : wr.cell? ⟨b, off + j * 4, none⟩ = some (.string x.name) := hcell j x hx 0 (.string x.name) rfl
   have c1 : wr.cell? ⟨b, off + j * 4 + 1, none⟩ = some (.int .i64 x.room) := hcell j x hx 1 (.int .i64 x.room) rfl
   have c2 : wr.cell? ⟨b, off + j * 4 + 2, none⟩ = some (.int .i64 x.cost) := hcell j x hx 2 (.int .i64 x.cost) rfl
   have c3 : wr.cell? ⟨b, off + j * 4 + 3, none⟩ = some (.bool x.away) := hcell j x hx 3 (.bool x.away) rfl
   clear hcell
   have HX := Lib.hid hx
   have HAL := Lib.hid (below_allocs hB (.cells #[.string x.name, .int .i64 x.room, .int .i64 x.cost, .bool x.away] 46))
   have HAW := Lib.hid (below_allocs hBW (.cells #[.string x.name, .int .i64 x.room, .int .i64 x.cost, .bool x.away] 46))
   have hj0 : (0 : Int) ≤ (j : Int) := by omega
   have hj1 : (j : Int) < (n : Int) := by omega
   obtain ⟨bq, hbq⟩ : ∃ bq, (x.name.toList == name.toList) = bq := ⟨_, rfl⟩
   have HBQ := Lib.hid hbq
   rw [ha]
   cases bq
   ·have HE := Lib.hid (St.idx_next HS.out HX.out HBQ.out)
    clear hx hB hBW
    go_wp2_with fail
    rw [← ha]
    go_roundg (n - (j + 1))
    case rel => exact ⟨j + 1, by omega, rfl, by go_num, HE.out, HAL.out, HAW.out⟩
    case measure => omega
   ·have HE := Lib.hid (St.idx_here HS.out HX.out HBQ.out)
    clear hx hB hBW
    go_wp2_with fail
    go_ret
    exact ⟨ret_int HE.out, HAL.out⟩
  ·obtain rfl : j = n := by omega
   have HE := HS.out
   rw [← HN.out] at HE
   have HE2 := Lib.hid (St.idx_end HE)
   clear HE
   go_wp2_with fail
   go_ret
   exact ⟨ret_int HE2.out, hB⟩
theorem fileOf_is (s : Sto) (a : StA) (d : ByteArray) (w : World) (hI : StIn w s a) :
  Calls Tryz.prog 76 #[.agg #[.int .i64 s.least, .int .i64 s.wait, .slice a.ta s.tiers.length a.tc, .slice a.fa s.files.length a.fc, .slice a.ca s.copies.length a.cc, .slice a.ha s.held.length a.hc, .slice a.ba s.bin.length a.bc], .string d] w fun e w' => e = .returned (.tuple #[St.fval (St.filD s.files d), .bool (St.fileOf s.files d).isSome]) ∧ Below w.heap.size w w' := by
 obtain ⟨W1, hW1, hP, hz1, hB1⟩ := box w #[.int .i64 s.least, .int .i64 s.wait, .slice a.ta s.tiers.length a.tc, .slice a.fa s.files.length a.fc, .slice a.ca s.copies.length a.cc, .slice a.ha s.held.length a.hc, .slice a.ba s.bin.length a.bc] 28
 have HW1 := Lib.hid hW1
 have HI1 := Lib.hid (hI.keep hB1)
 obtain ⟨q0, q1, q2, q3, q4, q5, q6⟩ := hP.sv7
 have HP := Lib.hid hP; have HB1 := Lib.hid hB1
 clear hW1 hP
 have hfl := hI.fl
 obtain ⟨W2, hW2, hR, hz2, hB2⟩ := box W1 #[.string ⟨#[]⟩, .int .i64 0, .int .i64 0, .string ⟨#[]⟩] 30
 rw [hz1] at hR
 have HW2 := Lib.hid hW2; have HR := Lib.hid hR; have HB2 := Lib.hid (below_up HB1.out hB2); have HI2 := Lib.hid (HI1.out.keep hB2)
 have p3 : W2.cell? ⟨w.heap.size, 3, none⟩ = some (.slice a.fa s.files.length a.fc) := ((HP.out.keep hB2).cell 3).trans rfl
 have HZ1 := Lib.hid hz1; have HZ2 := Lib.hid hz2
 clear hW2 hR hB2 hz1 hz2
 obtain ⟨q, hq⟩ : ∃ q, St.fileOf s.files d = q := ⟨_, rfl⟩
 unfold St.filD
 rw [hq]
 have HQ : Hid ((s.files.drop 0).find? (fun f => St.eq f.dig d) = q) := Lib.hid hq
 clear q0 q1 q2 q3 q4 q5 q6 hI hq
 obtain ⟨n, hn⟩ : ∃ n, s.files.length = n := ⟨_, rfl⟩
 have HN := Lib.hid hn
 rw [hn] at p3 hfl HW1 ⊢
 clear hn
 go_enter Tryz.func76, Tryz.ntmps76
 go_wp2_with fail
 rw [HW1.out]
 go_wp2_with fail
 rw [HW2.out]
 go_wp2_with fail
 go_loopg [11] n (fun gk i wr => ∃ j : Nat, j ≤ n ∧ gk = n - j ∧ i = .int .i64 j ∧ (s.files.drop j).find? (fun f => St.eq f.dig d) = q ∧ Below w.heap.size w wr ∧ Below W2.heap.size W2 wr)
 case atStart => exact ⟨0, by omega, rfl, rfl, HQ.out, HB2.out, Below.refl _ _⟩
 case round =>
  obtain ⟨j, hj, rfl, rfl, hs, hB, hBW⟩ := hrel
  have HS := Lib.hid hs; clear hs
  have HBR := Lib.hid hB
  have hRr := HR.out.keep hBW
  obtain ⟨e0, e1, e2, e3⟩ : wr.cell? ⟨w.heap.size + 1, 0, none⟩ = some (.string ⟨#[]⟩) ∧ wr.cell? ⟨w.heap.size + 1, 1, none⟩ = some (.int .i64 0) ∧ wr.cell? ⟨w.heap.size + 1, 2, none⟩ = some (.int .i64 0) ∧ wr.cell? ⟨w.heap.size + 1, 3, none⟩ = some (.string ⟨#[]⟩) := ⟨(hRr.cell 0).trans rfl, (hRr.cell 1).trans rfl, (hRr.cell 2).trans rfl, (hRr.cell 3).trans rfl⟩
  have f0 := hRr.frozen 0; have f1 := hRr.frozen 1; have f2 := hRr.frozen 2; have f3 := hRr.frozen 3
  have hrl := hRr.lt
  have hrn : ¬ (w.heap.size + 1 = wr.heap.size) := by omega
  have hrn2 : w.heap.size + 1 ≠ wr.heap.size := hrn
  have HRR := Lib.hid hRr
  clear hRr
  by_cases hlt : j < n
  ·obtain ⟨x, hx⟩ : ∃ x, s.files[j]? = some x := ⟨_, List.getElem?_eq_getElem (by rw [HN.out]; exact hlt)⟩
   obtain ⟨b, off, ha, hb, hcell⟩ := ((HI2.out.keep hBW).fi) (by rw [HN.out]; omega)
   have c0 : wr.cell? ⟨b, off + j * 4, none⟩ = some (.string x.dig) := hcell j x hx 0 (.string x.dig) rfl
   have c1 : wr.cell? ⟨b, off + j * 4 + 1, none⟩ = some (.int .i64 x.size) := hcell j x hx 1 (.int .i64 x.size) rfl
   have c2 : wr.cell? ⟨b, off + j * 4 + 2, none⟩ = some (.int .i64 x.kind) := hcell j x hx 2 (.int .i64 x.kind) rfl
   have c3 : wr.cell? ⟨b, off + j * 4 + 3, none⟩ = some (.string x.frm) := hcell j x hx 3 (.string x.frm) rfl
   clear hcell
   have HX := Lib.hid hx
   have HAL := Lib.hid (below_allocs hB (.cells #[.string x.dig, .int .i64 x.size, .int .i64 x.kind, .string x.frm] 30))
   have HAW := Lib.hid (below_allocs hBW (.cells #[.string x.dig, .int .i64 x.size, .int .i64 x.kind, .string x.frm] 30))
   have hj0 : (0 : Int) ≤ (j : Int) := by omega
   have hj1 : (j : Int) < (n : Int) := by omega
   obtain ⟨bq, hbq⟩ : ∃ bq, (x.dig.toList == d.toList) = bq := ⟨_, rfl⟩
   have HBQ := Lib.hid hbq
   rw [ha]
   cases bq
   ·have HE := Lib.hid (St.find_next HS.out HX.out HBQ.out)
    clear hx hB hBW
    go_wp2_with fail
    rw [← ha]
    go_roundg (n - (j + 1))
    case rel => exact ⟨j + 1, by omega, rfl, by go_num, HE.out, HAL.out, HAW.out⟩
    case measure => omega
   ·have HE := Lib.hid (St.find_here HS.out HX.out HBQ.out)
    clear hx hB hBW
    go_wp2_with fail
    have hx' := HE.out
    subst hx'
    have hQ : Blk (((((wr.setCell ⟨w.heap.size + 1, 0, none⟩ (.string x.dig)).setCell ⟨w.heap.size + 1, 1, none⟩ (.int .i64 x.size)).setCell ⟨w.heap.size + 1, 2, none⟩ (.int .i64 x.kind)).setCell ⟨w.heap.size + 1, 3, none⟩ (.string x.frm)).alloc (.cells #[.string x.dig, .int .i64 x.size, .int .i64 x.kind, .string x.frm] 30)) (w.heap.size + 1) #[.string x.dig, .int .i64 x.size, .int .i64 x.kind, .string x.frm] 30 := by
     have := ((((HRR.out.set 0 (.string x.dig)).set 1 (.int .i64 x.size)).set 2 (.int .i64 x.kind)).set 3 (.string x.frm)).alloc (.cells #[.string x.dig, .int .i64 x.size, .int .i64 x.kind, .string x.frm] 30)
     simpa using this
    have hBel : Below w.heap.size w (((((wr.setCell ⟨w.heap.size + 1, 0, none⟩ (.string x.dig)).setCell ⟨w.heap.size + 1, 1, none⟩ (.int .i64 x.size)).setCell ⟨w.heap.size + 1, 2, none⟩ (.int .i64 x.kind)).setCell ⟨w.heap.size + 1, 3, none⟩ (.string x.frm)).alloc (.cells #[.string x.dig, .int .i64 x.size, .int .i64 x.kind, .string x.frm] 30)) := ((((HBR.out.setCell (by simp) _).setCell (by simp) _).setCell (by simp) _).setCell (by simp) _).alloc (by simp; have := HBR.out.size; omega) _
    generalize ((((wr.setCell ⟨w.heap.size + 1, 0, none⟩ (.string x.dig)).setCell ⟨w.heap.size + 1, 1, none⟩ (.int .i64 x.size)).setCell ⟨w.heap.size + 1, 2, none⟩ (.int .i64 x.kind)).setCell ⟨w.heap.size + 1, 3, none⟩ (.string x.frm)).alloc (.cells #[.string x.dig, .int .i64 x.size, .int .i64 x.kind, .string x.frm] 30) = WF at *
    have g0 : WF.cell? ⟨w.heap.size + 1, 0, none⟩ = some (.string x.dig) := (hQ.cell 0).trans rfl
    have g1 : WF.cell? ⟨w.heap.size + 1, 1, none⟩ = some (.int .i64 x.size) := (hQ.cell 1).trans rfl
    have g2 : WF.cell? ⟨w.heap.size + 1, 2, none⟩ = some (.int .i64 x.kind) := (hQ.cell 2).trans rfl
    have g3 : WF.cell? ⟨w.heap.size + 1, 3, none⟩ = some (.string x.frm) := (hQ.cell 3).trans rfl
    refine bodyPost_ret (v := .tuple #[St.fval x, .bool true]) (by simp [results, Tryz.results76, go_sem, St.fval, g0, g1, g2, g3]) rfl ⟨rfl, hBel⟩
  ·obtain rfl : j = n := by omega
   have HE := HS.out
   rw [← HN.out] at HE
   have HE2 := Lib.hid (St.find_end HE)
   clear HE
   go_wp2_with fail
   have hx' := HE2.out
   subst hx'
   have hQ : Blk ((((wr.setCell ⟨w.heap.size + 1, 0, none⟩ (.string ⟨#[]⟩)).setCell ⟨w.heap.size + 1, 1, none⟩ (.int .i64 0)).setCell ⟨w.heap.size + 1, 2, none⟩ (.int .i64 0)).setCell ⟨w.heap.size + 1, 3, none⟩ (.string ⟨#[]⟩)) (w.heap.size + 1) #[.string ⟨#[]⟩, .int .i64 0, .int .i64 0, .string ⟨#[]⟩] 30 := by
    have := (((HRR.out.set 0 (.string ⟨#[]⟩)).set 1 (.int .i64 0)).set 2 (.int .i64 0)).set 3 (.string ⟨#[]⟩)
    simpa using this
   have hBel : Below w.heap.size w ((((wr.setCell ⟨w.heap.size + 1, 0, none⟩ (.string ⟨#[]⟩)).setCell ⟨w.heap.size + 1, 1, none⟩ (.int .i64 0)).setCell ⟨w.heap.size + 1, 2, none⟩ (.int .i64 0)).setCell ⟨w.heap.size + 1, 3, none⟩ (.string ⟨#[]⟩)) := (((HBR.out.setCell (by simp) _).setCell (by simp) _).setCell (by simp) _).setCell (by simp) _
   generalize (((wr.setCell ⟨w.heap.size + 1, 0, none⟩ (.string ⟨#[]⟩)).setCell ⟨w.heap.size + 1, 1, none⟩ (.int .i64 0)).setCell ⟨w.heap.size + 1, 2, none⟩ (.int .i64 0)).setCell ⟨w.heap.size + 1, 3, none⟩ (.string ⟨#[]⟩) = WF at *
   have g0 : WF.cell? ⟨w.heap.size + 1, 0, none⟩ = some (.string ⟨#[]⟩) := (hQ.cell 0).trans rfl
   have g1 : WF.cell? ⟨w.heap.size + 1, 1, none⟩ = some (.int .i64 0) := (hQ.cell 1).trans rfl
   have g2 : WF.cell? ⟨w.heap.size + 1, 2, none⟩ = some (.int .i64 0) := (hQ.cell 2).trans rfl
   have g3 : WF.cell? ⟨w.heap.size + 1, 3, none⟩ = some (.string ⟨#[]⟩) := (hQ.cell 3).trans rfl
   refine bodyPost_ret (v := .tuple #[St.fval St.zeroF, .bool false]) (by simp [results, Tryz.results76, go_sem, St.fval, St.zeroF, g0, g1, g2, g3]) rfl ⟨rfl, hBel⟩
theorem original_is (s : Sto) (a : StA) (d : ByteArray) (w : World) (hI : StIn w s a) :
  Calls Tryz.prog 75 #[.agg #[.int .i64 s.least, .int .i64 s.wait, .slice a.ta s.tiers.length a.tc, .slice a.fa s.files.length a.fc, .slice a.ca s.copies.length a.cc, .slice a.ha s.held.length a.hc, .slice a.ba s.bin.length a.bc], .string d] w fun e w' => e = .returned (.bool (decide (St.kindOf s.files d = 1))) ∧ Below w.heap.size w w' := by
 obtain ⟨W1, hW1, hP, hz1, hB1⟩ := box w #[.int .i64 s.least, .int .i64 s.wait, .slice a.ta s.tiers.length a.tc, .slice a.fa s.files.length a.fc, .slice a.ca s.copies.length a.cc, .slice a.ha s.held.length a.hc, .slice a.ba s.bin.length a.bc] 28
 have HW1 := Lib.hid hW1
 have HI1 := Lib.hid (hI.keep hB1)
 obtain ⟨q0, q1, q2, q3, q4, q5, q6⟩ := hP.sv7
 have HP := Lib.hid hP; have HB1 := Lib.hid hB1
 clear hW1 hP
 have HF := Lib.hid (fileOf_is s a d W1 HI1.out)
 have HK : Hid (decide (St.kindOf s.files d = 1) = ((St.fileOf s.files d).isSome && decide ((St.filD s.files d).kind = 1))) := Lib.hid (by
  unfold St.kindOf St.filD
  cases St.fileOf s.files d <;> simp)
 rw [HK.out]
 unfold St.fval at HF
 generalize St.filD s.files d = x at *
 generalize (St.fileOf s.files d).isSome = b at *
 clear hI HK
 by_cases hk : x.kind = 1
 ·have hk2 : (x.kind == 1) = true := by simpa using hk
  rw [decide_eq_true hk]
  cases b
  ·go_enter Tryz.func75, Tryz.ntmps75
   go_wp2_with fail
   rw [HW1.out]
   go_wp2_with (go_at_call 76; (with_reducible refine HF.out.mono ?_); rintro e w2 ⟨rfl, hB2⟩)
   go_ret
   exact ⟨rfl, below_allocs (below_up HB1.out hB2) _⟩
  ·go_enter Tryz.func75, Tryz.ntmps75
   go_wp2_with fail
   rw [HW1.out]
   go_wp2_with (go_at_call 76; (with_reducible refine HF.out.mono ?_); rintro e w2 ⟨rfl, hB2⟩)
   go_ret
   exact ⟨rfl, below_allocs (below_up HB1.out hB2) _⟩
 ·have hk2 : (x.kind == 1) = false := by simpa using hk
  rw [decide_eq_false hk]
  cases b
  ·go_enter Tryz.func75, Tryz.ntmps75
   go_wp2_with fail
   rw [HW1.out]
   go_wp2_with (go_at_call 76; (with_reducible refine HF.out.mono ?_); rintro e w2 ⟨rfl, hB2⟩)
   go_ret
   exact ⟨rfl, below_allocs (below_up HB1.out hB2) _⟩
  ·go_enter Tryz.func75, Tryz.ntmps75
   go_wp2_with fail
   rw [HW1.out]
   go_wp2_with (go_at_call 76; (with_reducible refine HF.out.mono ?_); rintro e w2 ⟨rfl, hB2⟩)
   go_ret
   exact ⟨rfl, below_allocs (below_up HB1.out hB2) _⟩
end Go.Proofs.YthdiccdnggloiaaGreatDoor
namespace Go.Proofs.YthdiccdnggloiaaGreatDoor
open Go.RowKit
namespace St
def Szs (F : List Fil) : Prop := ∀ f ∈ F, 0 ≤ f.size ∧ f.size ≤ 1000000000
theorem size_bd {F : List Fil} (h : Szs F) (d : ByteArray) : 0 ≤ sizeOf F d ∧ sizeOf F d ≤ 1000000000 := by
 unfold sizeOf
 cases hf : fileOf F d with
 | none => simp
 | some f => exact h f (find_mem hf).1
theorem used_bd {F : List Fil} (h : Szs F) (n : ByteArray) : ∀ C : List Cop, 0 ≤ used F n C ∧ used F n C ≤ 1000000000 * (C.length : Int)
 | [] => by simp [used]
 | c :: C => by
   have h1 := used_bd h n C
   have h2 := size_bd h c.dig
   rw [used, List.length_cons]
   split <;> omega
theorem used_drop {F : List Fil} {n : ByteArray} {K : List Cop} {j : Nat} {c : Cop} (h : K[j]? = some c) : used F n (K.drop j) = (if eq c.tier n = true then sizeOf F c.dig else 0) + used F n (K.drop (j + 1)) := by
 obtain ⟨hlt, hg⟩ := List.getElem?_eq_some_iff.1 h
 rw [List.drop_eq_getElem_cons hlt, hg, used]
theorem szs_of {F : List Fil} (h : ∀ f ∈ F, fileR f = 0) : Szs F := by
 intro f hf
 have h1 := h f hf
 unfold fileR at h1
 split at h1
 ·rename_i h2
  unfold inB at h2
  exact of_decide_eq_true h2
 ·cases h1
end St
end Go.Proofs.YthdiccdnggloiaaGreatDoor
namespace Go.Proofs.YthdiccdnggloiaaGreatDoor
open Go.RowKit Go.Sort Go.Shelf
theorem tierEq_is (x : Tir) (z : ByteArray) (bk : Nat) (t : TypeId) (w : World) (hs : Blk w bk #[.string z] t) :
  Calls Tryz.prog 164 #[.agg #[.string x.name, .int .i64 x.room, .int .i64 x.cost, .bool x.away], .pointer (some ⟨bk, 0, none⟩)] w fun e w' => e = .returned (.bool (x.name.toList == z.toList)) ∧ Below w.heap.size w w' := by
 obtain ⟨W1, hW1, hA, hz1, hB1⟩ := box w #[.string x.name, .int .i64 x.room, .int .i64 x.cost, .bool x.away] 46
 have HW1 := Lib.hid hW1
 have a0 : W1.cell? ⟨w.heap.size, 0, none⟩ = some (.string x.name) := (hA.cell 0).trans rfl
 have b0 := (hs.keep hB1).one
 clear hW1 hz1
 go_enter Tryz.func164, Tryz.ntmps164
 go_upto_region 1 with fail
 rw [HW1.out]
 go_wp2_with fail
 go_ret
 exact ⟨rfl, hB1⟩
theorem enters_tierEq : ∀ args w, (callFunc 164 args).run Tryz.prog w = .ok (.enter 164 args) w := enters_of Tryz.func164 (by kernel_rfl) rfl
theorem idxTier_is (L : List Tir) (sa : Option Addr) (sc : Nat) (z : ByteArray) (bk : Nat) (t : TypeId) (w : World) (hr : RowE St.eT w sa L) (hl : L.length ≤ sc ∧ sc ≤ 9223372036854775807) (hs : Blk w bk #[.string z] t) :
  Calls Tryz.prog 95 #[.slice sa L.length sc, .func (.func 164) #[] #[.pointer (some ⟨bk, 0, none⟩)]] w fun e w' => e = .returned (.int .i64 (St.tierAt L z)) ∧ Below w.heap.size w w' := by
 have eg := enters_tierEq
 have HR := Lib.hid hr; have HS := Lib.hid hs
 obtain ⟨q, hq⟩ : ∃ q, St.tierAt L z = q := ⟨_, rfl⟩
 rw [hq]
 have HQ : Hid (St.idx (fun t => St.eq t.name z) (L.drop 0) 0 = q) := Lib.hid hq
 obtain ⟨n, hn⟩ : ∃ n, L.length = n := ⟨_, rfl⟩
 have HN := Lib.hid hn
 rw [hn] at hl ⊢
 clear hr hs hq hn
 go_enter Tryz.func95, Tryz.ntmps95
 go_wp2_with fail
 go_loopg [8] n (fun gk i wr => ∃ j : Nat, j ≤ n ∧ gk = n - j ∧ i = .int .i64 j ∧ St.idx (fun t => St.eq t.name z) (L.drop j) j = q ∧ Below w.heap.size w wr)
 case atStart => exact ⟨0, by omega, rfl, rfl, HQ.out, Below.refl _ _⟩
 case round =>
  obtain ⟨j, hj, rfl, rfl, hs, hB⟩ := hrel
  have HSC := Lib.hid hs; clear hs
  by_cases hlt : j < n
  ·obtain ⟨x, hx⟩ : ∃ x, L[j]? = some x := ⟨_, List.getElem?_eq_getElem (by rw [HN.out]; exact hlt)⟩
   obtain ⟨b, off, ha, hb, hcell⟩ := (HR.out.keep hB) (by rw [HN.out]; omega)
   have c0 : wr.cell? ⟨b, off + j * 4, none⟩ = some (.string x.name) := hcell j x hx 0 (.string x.name) rfl
   have c1 : wr.cell? ⟨b, off + j * 4 + 1, none⟩ = some (.int .i64 x.room) := hcell j x hx 1 (.int .i64 x.room) rfl
   have c2 : wr.cell? ⟨b, off + j * 4 + 2, none⟩ = some (.int .i64 x.cost) := hcell j x hx 2 (.int .i64 x.cost) rfl
   have c3 : wr.cell? ⟨b, off + j * 4 + 3, none⟩ = some (.bool x.away) := hcell j x hx 3 (.bool x.away) rfl
   clear hcell
   have HX := Lib.hid hx
   have HC := Lib.hid (tierEq_is x z bk t wr (HS.out.keep hB))
   have hj0 : (0 : Int) ≤ (j : Int) := by omega
   have hj1 : (j : Int) < (n : Int) := by omega
   obtain ⟨bq, hbq⟩ : ∃ bq, (x.name.toList == z.toList) = bq := ⟨_, rfl⟩
   rw [hbq] at HC
   have HBQ := Lib.hid hbq
   rw [ha]
   cases bq
   ·have HE := Lib.hid (St.idx_next HSC.out HX.out HBQ.out)
    clear hx hbq
    go_wp2_with (go_at_fn 164; refine HC.out.mono ?_; rintro e w4 ⟨rfl, hB4⟩)
    rw [← ha]
    go_roundg (n - (j + 1))
    case rel => exact ⟨j + 1, by omega, rfl, by go_num, HE.out, below_up hB hB4⟩
    case measure => omega
   ·have HE := Lib.hid (St.idx_here HSC.out HX.out HBQ.out)
    clear hx hbq
    go_wp2_with (go_at_fn 164; refine HC.out.mono ?_; rintro e w4 ⟨rfl, hB4⟩)
    go_ret
    exact ⟨ret_int HE.out, below_up hB hB4⟩
  ·obtain rfl : j = n := by omega
   have HE := HSC.out
   rw [← HN.out] at HE
   have HE2 := Lib.hid (St.idx_end HE)
   clear HE
   go_wp2_with fail
   go_ret
   exact ⟨ret_int HE2.out, hB⟩
theorem tierAt_is (s : Sto) (a : StA) (name : ByteArray) (w : World) (hI : StIn w s a) :
  Calls Tryz.prog 91 #[.agg #[.int .i64 s.least, .int .i64 s.wait, .slice a.ta s.tiers.length a.tc, .slice a.fa s.files.length a.fc, .slice a.ca s.copies.length a.cc, .slice a.ha s.held.length a.hc, .slice a.ba s.bin.length a.bc], .string name] w fun e w' => e = .returned (.int .i64 (St.tierAt s.tiers name)) ∧ Below w.heap.size w w' := by
 obtain ⟨W1, hW1, hP, hz1, hB1⟩ := box w #[.int .i64 s.least, .int .i64 s.wait, .slice a.ta s.tiers.length a.tc, .slice a.fa s.files.length a.fc, .slice a.ca s.copies.length a.cc, .slice a.ha s.held.length a.hc, .slice a.ba s.bin.length a.bc] 28
 have HW1 := Lib.hid hW1
 have HI1 := Lib.hid (hI.keep hB1)
 obtain ⟨q0, q1, q2, q3, q4, q5, q6⟩ := hP.sv7
 have HP := Lib.hid hP; have HB1 := Lib.hid hB1
 clear hW1 hP
 obtain ⟨W2, hW2, hX2, hz2, hB2⟩ := box W1 #[.string name] 9
 have HW2 := Lib.hid hW2
 have p2 : W2.cell? ⟨w.heap.size, 2, none⟩ = some (.slice a.ta s.tiers.length a.tc) := ((HP.out.keep hB2).cell 2).trans rfl
 have HC := Lib.hid (idxTier_is s.tiers a.ta a.tc name W1.heap.size 9 W2 ((HI1.out.keep hB2).ti) hI.tl hX2)
 rw [hz1] at HC
 have HBB := Lib.hid (below_up HB1.out hB2)
 generalize s.tiers.length = n at *
 generalize St.tierAt s.tiers name = q at *
 clear q0 q1 q2 q3 q4 q5 q6 hI hW2 hX2 hz1 hz2
 go_enter Tryz.func91, Tryz.ntmps91
 go_wp2_with fail
 rw [HW1.out, HW2.out]
 go_wp2_with (go_at_call 95; (with_reducible refine HC.out.mono ?_); rintro e w4 ⟨rfl, hB4⟩)
 go_ret
 exact ⟨rfl, below_up HBB.out hB4⟩
end Go.Proofs.YthdiccdnggloiaaGreatDoor
