/- Parts of the proof, no condition: DigLays, StDig, StIdx, Events0, FdStr, FdStr2, FdStr3, StSmall, StRight, StSet, StHeld, StImp, StGood. -/
import Derived.Shelf.Strings.SlTrimAscii
import Derived.Test.YthdiccdnggloiaaGreatDoorProg
import Derived.Test.YthdiccdnggloiaaGreatDoorKp1
import Derived.Test.YthdiccdnggloiaaGreatDoorKp3
import Derived.Shelf.Abstract
import Derived.Test.YthdiccdnggloiaaGreatDoorKp2
import Derived.Below
import Derived.Lib.Bytealg
import Derived.WalkLawsBesides
import Derived.Lib.ConvBytes
import Derived.Laws.Closers25
set_option maxRecDepth 100000
set_option maxHeartbeats 4000000
set_option linter.unusedSimpArgs false
set_option linter.unusedVariables false
namespace Go.Proofs.YthdiccdnggloiaaGreatDoor
open Go.Shelf
def Lay.trimS_ren : Go.Shelf.Ren := ⟨fun | 160 => 215 | 232 => 231 | 231 => 230 | 227 => 232 | 234 => 234 | 233 => 233 | 236 => 236 | 235 => 235 | 228 => 242 | 271 => 245 | 151 => 244 | 197 => 243 | 120 => 249 | 152 => 248 | 260 => 247 | 137 => 157 | 119 => 250 | 224 => 251 | 225 => 252 | 217 => 200 | 266 => 218 | n => n, fun | 9 => 9 | 4 => 4 | 3 => 3 | 5 => 5 | 117 => 252 | 116 => 251 | 0 => 0 | 124 => 255 | 21 => 21 | 105 => 260 | 46 => 195 | 119 => 266 | 139 => 269 | 138 => 268 | n => n, fun | 3 => 4 | 4 => 5 | n => n⟩
theorem Lay.trimS : Go.Proofs.Lays.n160 Tryz.prog Lay.trimS_ren := {
 mixed := by kernel_rfl
 f119 := Tryz.func250.trans (congrArg some (by kernel_rfl))
 f120 := Tryz.func249.trans (congrArg some (by kernel_rfl))
 f137 := Tryz.func157.trans (congrArg some (by kernel_rfl))
 f151 := Tryz.func244.trans (congrArg some (by kernel_rfl))
 f152 := Tryz.func248.trans (congrArg some (by kernel_rfl))
 f160 := Tryz.func215.trans (congrArg some (by kernel_rfl))
 f197 := Tryz.func243.trans (congrArg some (by kernel_rfl))
 f217 := Tryz.func200.trans (congrArg some (by kernel_rfl))
 f224 := Tryz.func251.trans (congrArg some (by kernel_rfl))
 f225 := Tryz.func252.trans (congrArg some (by kernel_rfl))
 f227 := Tryz.func232.trans (congrArg some (by kernel_rfl))
 f228 := Tryz.func242.trans (congrArg some (by kernel_rfl))
 f231 := Tryz.func230.trans (congrArg some (by kernel_rfl))
 f232 := Tryz.func231.trans (congrArg some (by kernel_rfl))
 f233 := Tryz.func233.trans (congrArg some (by kernel_rfl))
 f234 := Tryz.func234.trans (congrArg some (by kernel_rfl))
 f235 := Tryz.func235.trans (congrArg some (by kernel_rfl))
 f236 := Tryz.func236.trans (congrArg some (by kernel_rfl))
 f260 := Tryz.func247.trans (congrArg some (by kernel_rfl))
 f266 := Tryz.func218.trans (congrArg some (by kernel_rfl))
 f271 := Tryz.func245.trans (congrArg some (by kernel_rfl))
 t0 := Tryz.underlying0
 a0 := Tryz.isAgg0
 z0 := Tryz.sizeOf0
 v0 := Tryz.zeroValue0
 t3 := Tryz.underlying3
 a3 := Tryz.isAgg3
 z3 := Tryz.sizeOf3
 v3 := Tryz.zeroValue3
 t4 := Tryz.underlying4
 a4 := Tryz.isAgg4
 z4 := Tryz.sizeOf4
 v4 := Tryz.zeroValue4
 t5 := Tryz.underlying5
 a5 := Tryz.isAgg5
 z5 := Tryz.sizeOf5
 v5 := Tryz.zeroValue5
 t9 := Tryz.underlying9
 a9 := Tryz.isAgg9
 z9 := Tryz.sizeOf9
 v9 := Tryz.zeroValue9
 t21 := Tryz.underlying21
 a21 := Tryz.isAgg21
 z21 := Tryz.sizeOf21
 v21 := Tryz.zeroValue21
 t46 := Tryz.underlying195
 a46 := Tryz.isAgg195
 z46 := Tryz.sizeOf195
 v46 := Tryz.zeroValue195
 t105 := Tryz.underlying260
 a105 := Tryz.isAgg260
 z105 := Tryz.sizeOf260
 v105 := Tryz.zeroValue260
 t116 := Tryz.underlying251
 a116 := Tryz.isAgg251
 z116 := Tryz.sizeOf251
 t117 := Tryz.underlying252
 a117 := Tryz.isAgg252
 z117 := Tryz.sizeOf252
 v117 := Tryz.zeroValue252
 t119 := Tryz.underlying266
 a119 := Tryz.isAgg266
 z119 := Tryz.sizeOf266
 t124 := Tryz.underlying255
 a124 := Tryz.isAgg255
 z124 := Tryz.sizeOf255
 v124 := Tryz.zeroValue255
 t138 := Tryz.underlying268
 a138 := Tryz.isAgg268
 z138 := Tryz.sizeOf268
 v138 := Tryz.zeroValue268
 t139 := Tryz.underlying269
 a139 := Tryz.isAgg269
 z139 := Tryz.sizeOf269
 v139 := Tryz.zeroValue269
 g3 := by kernel_rfl
 g4 := by kernel_rfl }
end Go.Proofs.YthdiccdnggloiaaGreatDoor
namespace Go.Proofs.YthdiccdnggloiaaGreatDoor
open Go.RowKit Go.Sort Go.Shelf
namespace Hx
def hexD : List UInt8 := [48, 49, 50, 51, 52, 53, 54, 55, 56, 57, 97, 98, 99, 100, 101, 102]
def isH (b : UInt8) : Bool := Fd.hexN b.toNat
theorem mem_hexD (b : UInt8) : hexD.contains b = isH b := by
 rw [Bool.eq_iff_iff]
 unfold hexD isH Fd.hexN
 rw [decide_eq_true_iff, List.contains_iff_mem]
 simp only [List.mem_cons, List.not_mem_nil, or_false, ← UInt8.toNat_inj]
 simp only [UInt8.reduceToNat]
 omega
theorem trim_nilH (l : List UInt8) : Lib.trimS l hexD = [] ↔ l.all isH = true := by
 have e : (fun x => hexD.contains x) = isH := funext mem_hexD
 unfold Lib.trimS Lib.trimLeftS Lib.trimRightS
 rw [e]
 constructor
 ·intro h
  by_cases c : l.reverse.dropWhile isH = []
  ·have := (Dg.dropWhile_nil isH l.reverse).1 c
   rwa [List.all_reverse] at this
  ·have h1 := Dg.dropWhile_head isH l.reverse c
   have h2 := (Dg.dropWhile_nil isH _).1 h
   rw [List.all_reverse, h1] at h2
   exact absurd h2 (by simp)
 ·intro h
  have : l.reverse.dropWhile isH = [] := (Dg.dropWhile_nil isH l.reverse).2 (by rw [List.all_reverse]; exact h)
  rw [this]; rfl
theorem fileB_all {s : ByteArray} (h : s.size = 16) : Fd.fileB s = s.data.toList.all isH := by
 have hl : s.data.toList.length = s.size := rfl
 rw [Bool.eq_iff_iff, List.all_eq_true]
 unfold Fd.fileB
 rw [decide_eq_true_eq]
 constructor
 ·rintro ⟨_, h2⟩ b hb
  obtain ⟨i, hi⟩ := List.getElem?_of_mem hb
  obtain ⟨hlt, hg⟩ := List.getElem?_eq_some_iff.1 hi
  have h3 := h2 i (by omega)
  have e : s[i] = b := by rw [← hg]; rfl
  rw [e] at h3
  exact h3
 ·intro h2
  refine ⟨h, fun i hi => ?_⟩
  exact h2 _ (show s[i] ∈ s.data.toList from by
   have e : s[i] = s.data.toList[i]'(by rw [hl]; exact hi) := rfl
   rw [e]; exact List.getElem_mem _)
end Hx
theorem trimH_is (s : ByteArray) (h0 : 0 < s.size) (hl : s.size ≤ 9223372036854775807) (w : World) :
  Calls Tryz.prog 215 #[.string s, .string ⟨#[48, 49, 50, 51, 52, 53, 54, 55, 56, 57, 97, 98, 99, 100, 101, 102]⟩] w fun e w' => e = .returned (.string (Tx.mk (Lib.trimS s.data.toList Hx.hexD))) ∧ Below w.heap.size w w' := by
 refine (Any.strings_Trim_set Lay.trimS Tryz.zeroValue251 (by kernel_rfl) s (Tx.mk Hx.hexD) w (by rw [Tx.mk_size]; decide) h0 hl (by rw [Tx.mk_size]; decide) (fun j b hb => ?_)).mono ?_
 ·rw [Tx.mk_toList] at hb
  have hm : b ∈ Hx.hexD := List.mem_of_getElem? hb
  have hd : Hx.isH b = true := by rw [← Hx.mem_hexD]; exact List.contains_iff_mem.2 hm
  have := of_decide_eq_true hd
  omega
 ·rintro e w' ⟨he, q, rfl⟩
  exact ⟨he, below_drewN (((Below.refl _ _).alloc (Nat.le_refl _) _).alloc (by simp) _) q⟩
theorem mkEmptyH_no (l : List UInt8) (h : l ≠ []) : (Tx.mk l).toList.isEmpty = false := by
 have e : (Tx.mk l).toList = l := by rw [ByteArray.toList_eq]
 rw [e]; cases l with | nil => exact absurd rfl h | cons a r => rfl
end Go.Proofs.YthdiccdnggloiaaGreatDoor
namespace Go.Proofs.YthdiccdnggloiaaGreatDoor
open Go.RowKit
namespace St
theorem idx_here {α : Type} {p : α → Bool} {L : List α} {j : Nat} {q : Int} {x : α} (h : idx p (L.drop j) j = q) (hx : L[j]? = some x) (hp : p x = true) : (j : Int) = q := by
 obtain ⟨hlt, hg⟩ := List.getElem?_eq_some_iff.1 hx
 rw [List.drop_eq_getElem_cons hlt, hg, idx, if_pos hp] at h
 exact h
theorem idx_next {α : Type} {p : α → Bool} {L : List α} {j : Nat} {q : Int} {x : α} (h : idx p (L.drop j) j = q) (hx : L[j]? = some x) (hp : p x = false) : idx p (L.drop (j + 1)) (j + 1) = q := by
 obtain ⟨hlt, hg⟩ := List.getElem?_eq_some_iff.1 hx
 rw [List.drop_eq_getElem_cons hlt, hg, idx, if_neg (by rw [hp]; decide)] at h
 exact h
theorem idx_end {α : Type} {p : α → Bool} {L : List α} {q : Int} (h : idx p (L.drop L.length) L.length = q) : (-1 : Int) = q := by
 rw [List.drop_length] at h; exact h
theorem idx_some {α : Type} {p : α → Bool} : ∀ {L : List α} {i : Nat} {n : Int}, idx p L i = n → 0 ≤ n → ∃ (j : Nat) (x : α), n = ((i + j : Nat) : Int) ∧ L[j]? = some x ∧ p x = true ∧ ∀ k y, k < j → L[k]? = some y → p y = false
 | [], i, n, h, h0 => by rw [idx] at h; omega
 | y :: r, i, n, h, h0 => by
   rw [idx] at h
   split at h
   ·rename_i hy
    exact ⟨0, y, h.symm, rfl, hy, fun k z hk => absurd hk (Nat.not_lt_zero _)⟩
   ·rename_i hy
    obtain ⟨j, x, h1, h2, h3, h4⟩ := idx_some h h0
    refine ⟨j + 1, x, by rw [h1]; congr 1; omega, by simpa using h2, h3, fun k z hk hz => ?_⟩
    cases k with
    | zero => simp at hz; subst hz; simpa using hy
    | succ k => exact h4 k z (by omega) (by simpa using hz)
theorem hasTier_idx (L : List Tir) (n : ByteArray) : hasTier L n = decide (0 ≤ tierAt L n) := by
 unfold tierAt
 cases h : hasTier L n with
 | false =>
   have : idx (fun t => eq t.name n) L 0 = -1 := idx_none fun x hx => by
    cases e : eq x.name n with
    | false => rfl
    | true =>
      have : hasTier L n = true := List.any_eq_true.2 ⟨x, hx, e⟩
      rw [h] at this; cases this
   rw [this]; rfl
 | true =>
   symm
   rw [decide_eq_true_eq]
   rcases Int.lt_or_le (idx (fun t => eq t.name n) L 0) 0 with g | g
   ·obtain ⟨x, hx, e⟩ := List.any_eq_true.1 h
    have := (idx_neg.1 g) x hx
    rw [e] at this; cases this
   ·exact g
theorem tier_first {L : List Tir} {j : Nat} {t : Tir} (h : L[j]? = some t) : (tierAt L t.name < (j : Int)) ↔ hasTier (L.take j) t.name = true := by
 unfold tierAt
 constructor
 ·intro hlt
  rcases Int.lt_or_le (idx (fun x => eq x.name t.name) L 0) 0 with g | g
  ·have := (idx_neg.1 g) t (List.mem_of_getElem? h)
   rw [eq_refl] at this; cases this
  ·obtain ⟨k, x, h1, h2, h3, _⟩ := idx_some rfl g
   have hk : k < j := by omega
   refine List.any_eq_true.2 ⟨x, List.mem_of_getElem? (i := k) ?_, h3⟩
   rw [List.getElem?_take, if_pos hk]; exact h2
 ·intro hh
  obtain ⟨x, hx, e⟩ := List.any_eq_true.1 hh
  obtain ⟨k, hk⟩ := List.getElem?_of_mem hx
  rw [List.getElem?_take] at hk
  split at hk
  ·rename_i hkj
   rcases Int.lt_or_le (idx (fun x => eq x.name t.name) L 0) 0 with g | g
   ·omega
   ·obtain ⟨m, y, h1, h2, h3, h4⟩ := idx_some rfl g
    rcases Nat.lt_or_ge k m with hm | hm
    ·have := h4 k x hm hk; rw [e] at this; cases this
    ·omega
  ·cases hk
theorem find_here {α : Type} {p : α → Bool} {L : List α} {j : Nat} {q : Option α} {x : α} (h : (L.drop j).find? p = q) (hx : L[j]? = some x) (hp : p x = true) : some x = q := by
 obtain ⟨hlt, hg⟩ := List.getElem?_eq_some_iff.1 hx
 rw [List.drop_eq_getElem_cons hlt, hg, List.find?_cons, hp] at h
 exact h
theorem find_next {α : Type} {p : α → Bool} {L : List α} {j : Nat} {q : Option α} {x : α} (h : (L.drop j).find? p = q) (hx : L[j]? = some x) (hp : p x = false) : (L.drop (j + 1)).find? p = q := by
 obtain ⟨hlt, hg⟩ := List.getElem?_eq_some_iff.1 hx
 rw [List.drop_eq_getElem_cons hlt, hg, List.find?_cons, hp] at h
 exact h
theorem find_end {α : Type} {p : α → Bool} {L : List α} {q : Option α} (h : (L.drop L.length).find? p = q) : none = q := by
 rw [List.drop_length] at h; exact h
end St
end Go.Proofs.YthdiccdnggloiaaGreatDoor
namespace Go.Proofs.YthdiccdnggloiaaGreatDoor
open Go.RowKit Go.Sort Go.Shelf
theorem below_allocs {a b : World} (h : Below a.heap.size a b) (o : Obj) : Below a.heap.size a (b.alloc o) := h.alloc h.size o
theorem moment_is (n : Int) (b : Bool) (h : Ev.mom n = b) (w : World) : Calls Tryz.prog 78 #[.int .i64 n] w fun e w' => e = .returned (.bool b) ∧ w = w' := by
 cases b
 ·have h' := (Ev.mom_no n).1 h
  clear h
  by_cases c : 0 ≤ n
  ·go_enter Tryz.func78, Tryz.ntmps78
   go_wp2_with fail
   go_ret
   exact ⟨ret_bool (by simp <;> omega), rfl⟩
  ·go_enter Tryz.func78, Tryz.ntmps78
   go_wp2_with fail
   go_ret
   exact ⟨ret_bool (by simp <;> omega), rfl⟩
 ·have h' := (Ev.mom_iff n).1 h
  clear h
  go_enter Tryz.func78, Tryz.ntmps78
  go_wp2_with fail
  go_ret
  exact ⟨ret_bool (by simp <;> omega), rfl⟩
def Row (w : World) (a : Option Addr) (len : Nat) (f : Nat → Value) : Prop :=
 0 < len → ∃ b off, a = some ⟨b, off, none⟩ ∧ b < w.heap.size ∧ ∀ i, i < len → w.cell? ⟨b, off + i, none⟩ = some (f i)
theorem Row.keep {w w' : World} {a : Option Addr} {len : Nat} {f : Nat → Value} (h : Row w a len f) (hb : Below w.heap.size w w') : Row w' a len f := by
 intro hl
 obtain ⟨b, off, rfl, hlt, hc⟩ := h hl
 exact ⟨b, off, rfl, Nat.lt_of_lt_of_le hlt hb.size, fun i hi => (hb.cell (p := ⟨b, off + i, none⟩) hlt).trans (hc i hi)⟩
theorem in_is (n lo hi : Int) (b : Bool) (h : decide (lo ≤ n ∧ n ≤ hi) = b) (w : World) : Calls Tryz.prog 70 #[.int .i64 n, .int .i64 lo, .int .i64 hi] w fun e w' => e = .returned (.bool b) ∧ w = w' := by
 cases b
 ·rw [decide_eq_false_iff_not] at h
  by_cases c : lo ≤ n
  ·have d : hi < n := by omega
   clear h
   go_enter Tryz.func70, Tryz.ntmps70
   go_wp2
   go_ret
   exact ⟨ret_bool (by simp <;> omega), rfl⟩
  ·clear h
   go_enter Tryz.func70, Tryz.ntmps70
   go_wp2
   go_ret
   exact ⟨ret_bool (by simp <;> omega), rfl⟩
 ·obtain ⟨h1, h2⟩ := of_decide_eq_true h
  clear h
  go_enter Tryz.func70, Tryz.ntmps70
  go_wp2
  go_ret
  exact ⟨ret_bool (by simp <;> omega), rfl⟩
theorem indexByteS (s : ByteArray) (c : Int) (w : World) : Calls Tryz.prog 157 #[.string s, .int .u8 c] w fun e w' => e = .returned (.int .i64 (Lib.indexByte s.data.toList c.toNat.toUInt8)) ∧ w = w' := by
 go_enter Tryz.func157, Tryz.ntmps157
 go_wp2
 rw [run_callFunc_extern Tryz.func218 (by kernel_rfl) (by kernel_rfl) (by kernel_rfl) (e := Extern.BytealgIndexByte.indexByte) (by kernel_rfl), Lib.run_indexByteString]
 simp only [Result.andThen]
 rw [Oper.upon_value]
 go_wp2
 go_ret
 exact ⟨rfl, rfl⟩
theorem hex_all : ∀ n, n < 256 → decide (Lib.indexByte [48, 49, 50, 51, 52, 53, 54, 55, 56, 57, 97, 98, 99, 100, 101, 102] n.toUInt8 < 0) = !Fd.hexN n := by decide +kernel
theorem hexIdx (c : UInt8) (b : Bool) (h : Fd.hexN c.toNat = b) (W : World) : Calls Tryz.prog 157 #[.string ⟨#[48, 49, 50, 51, 52, 53, 54, 55, 56, 57, 97, 98, 99, 100, 101, 102]⟩, .int .u8 c.toNat] W fun e w' => ∃ r : Int, e = .returned (.int .i64 r) ∧ decide (r < 0) = !b ∧ W = w' := by
 refine (indexByteS _ _ W).mono fun e w' h' => ⟨_, h'.1, ?_, h'.2⟩
 have := hex_all c.toNat c.toNat_lt
 rw [h] at this
 rw [Int.toNat_natCast]
 exact this
theorem isDigest_is (s : ByteArray) (hs : s.size ≤ 9223372036854775807) (b : Bool) (h : Fd.fileB s = b) (w : World) : Calls Tryz.prog 73 #[.string s] w fun e w' => e = .returned (.bool b) ∧ w = w' := by
 have HB := Lib.hid h; clear h
 go_enter Tryz.func73, Tryz.ntmps73
 go_wp2_with fail
 go_loopg [6] s.size (fun gk i wr => ∃ j : Nat, j ≤ s.size ∧ gk = s.size - j ∧ i = .int .i64 j ∧ (∀ i, (h : i < s.size) → i < j → Fd.hexN s[i].toNat = true) ∧ w = wr)
 case atStart => exact ⟨0, by omega, rfl, rfl, fun i _ hi => by omega, rfl⟩
 case round =>
  obtain ⟨j, hj, rfl, rfl, hall, rfl⟩ := hrel
  have HALL := Lib.hid hall; clear hall
  by_cases hlt : j < s.size
  ·by_cases hx : Fd.hexN s[j].toNat = true
   ·have HN := Lib.hid (Fd.upto_next (P := fun _ c => Fd.hexN c = true) HALL.out hlt hx)
    have HX := Lib.hid (fun W => hexIdx s[j] true hx W)
    clear hx
    go_wp2_with (go_at_call 157; refine (HX.out _).mono ?_; rintro e w' ⟨r, rfl, hr, rfl⟩; simp only [Bool.not_true] at hr; have hr2 : ¬ r < 0 := of_decide_eq_false hr)
    go_roundg (s.size - (j + 1))
    case rel => exact ⟨j + 1, by omega, rfl, by go_num, HN.out, rfl⟩
    case measure => omega
   ·have hx' : Fd.hexN s[j].toNat = false := by simpa using hx
    have HX := Lib.hid (fun W => hexIdx s[j] false hx' W)
    have HB2 : Hid (b = false) := by have h1 := HB.out; rw [Fd.fileB_at j hlt hx'] at h1; exact Lib.hid h1.symm
    clear hx'
    clear hx
    go_wp2_with (go_at_call 157; refine (HX.out _).mono ?_; rintro e w' ⟨r, rfl, hr, rfl⟩; simp only [Bool.not_false] at hr; have hr2 : r < 0 := of_decide_eq_true hr)
    go_ret
    exact ⟨ret_bool HB2.out.symm, rfl⟩
  ·obtain rfl : j = s.size := by omega
   by_cases hz : s.size = 16
   ·have hz1 : ((s.size : Int) == 16) = true := by simp; omega
    have HB2 : Hid (b = true) := by have h1 := HB.out; rw [Fd.fileB_yes hz (fun i hi => HALL.out i hi hi)] at h1; exact Lib.hid h1.symm
    have HZ := Lib.hid hz; clear hz
    go_wp2_with fail
    go_ret
    exact ⟨ret_bool HB2.out.symm, rfl⟩
   ·have hz1 : ((s.size : Int) == 16) = false := by simp; omega
    have HB2 : Hid (b = false) := by have h1 := HB.out; rw [Fd.fileB_size hz] at h1; exact Lib.hid h1.symm
    clear hz
    go_wp2_with fail
    go_ret
    exact ⟨ret_bool HB2.out.symm, rfl⟩
theorem isNameR_is (s : ByteArray) (hs : s.size ≤ 9223372036854775807) (b : Bool) (h : Fd.nameB s = b) (w : World) : Calls Tryz.prog 71 #[.string s] w fun e w' => e = .returned (.bool b) ∧ w = w' := by
 have HB := Lib.hid h; clear h
 go_enter Tryz.func71, Tryz.ntmps71
 go_wp2_with fail
 go_loopg [6] s.size (fun gk i wr => ∃ j : Nat, j ≤ s.size ∧ gk = s.size - j ∧ i = .int .i64 j ∧ (∀ i, (h : i < s.size) → i < j → Fd.nmN i s[i].toNat = true) ∧ w = wr)
 case atStart => exact ⟨0, by omega, rfl, rfl, fun i _ hi => by omega, rfl⟩
 case round =>
  obtain ⟨j, hj, rfl, rfl, hall, rfl⟩ := hrel
  have HALL := Lib.hid hall; clear hall
  by_cases hlt : j < s.size
  ·by_cases hx : Fd.nmN j s[j].toNat = true
   ·have HN := Lib.hid (Fd.upto_next (P := fun i c => Fd.nmN i c = true) HALL.out hlt hx)
    have ht := (Fd.tailN_iff _).1 (Fd.nmN_tail _ _ hx)
    by_cases i1 : (97 : Int) ≤ (s[j].toNat : Int) ∧ (s[j].toNat : Int) ≤ 122
    ·obtain ⟨i1, i2⟩ := i1
     clear hx ht
     go_wp2_with fail
     go_roundg (s.size - (j + 1))
     case rel => exact ⟨j + 1, by omega, rfl, by go_num, HN.out, rfl⟩
     case measure => omega
    ·have hj0 : j ≠ 0 := by
      rintro rfl
      rw [Fd.nmN_zero, Fd.letN_iff] at hx; omega
     have hj1 : ((j : Int) == 0) = false := by simpa using hj0
     clear hx
     by_cases i3 : s[j].toNat = 45
     ·have i4 : ((s[j].toNat : Int) == 45) = true := by simp; omega
      have i5 : ((s[j].toNat : Int) != 45) = false := by simp; omega
      have i6 : (s[j].toNat : Int) < 97 := by omega
      clear i1 ht i3
      go_wp2_with fail
      go_roundg (s.size - (j + 1))
      case rel => exact ⟨j + 1, by omega, rfl, by go_num, HN.out, rfl⟩
      case measure => omega
     ·have i4 : ((s[j].toNat : Int) == 45) = false := by simp; omega
      have i5 : ((s[j].toNat : Int) != 45) = true := by simp; omega
      have i6 : (s[j].toNat : Int) < 97 := by omega
      have i7 : (48 : Int) ≤ (s[j].toNat : Int) := by omega
      have i8 : (s[j].toNat : Int) ≤ 57 := by omega
      clear i1 ht i3
      go_wp2_with fail
      go_roundg (s.size - (j + 1))
      case rel => exact ⟨j + 1, by omega, rfl, by go_num, HN.out, rfl⟩
      case measure => omega
   ·have hx' : Fd.nmN j s[j].toNat = false := by simpa using hx
    have HB2 : Hid (b = false) := by have h1 := HB.out; rw [Fd.nameB_at j hlt hx'] at h1; exact Lib.hid h1.symm
    by_cases hj0 : j = 0
    ·have hj1 : ((j : Int) == 0) = true := by simpa using hj0
     have hl : ¬ (97 ≤ s[j].toNat ∧ s[j].toNat ≤ 122) := by
      have hx2 := hx'
      unfold Fd.nmN at hx2; rw [if_pos hj0] at hx2
      rw [← Fd.letN_iff, hx2]; simp
     have HJ := Lib.hid hj0; clear hj0 hx'
     by_cases i1 : (s[j].toNat : Int) < 97
     ·clear hl
      clear hx
      go_wp2_with fail
      go_ret
      exact ⟨ret_bool HB2.out.symm, rfl⟩
     ·have i2 : (122 : Int) < (s[j].toNat : Int) := by omega
      clear hl
      clear hx
      go_wp2_with fail
      go_ret
      exact ⟨ret_bool HB2.out.symm, rfl⟩
    ·have hj1 : ((j : Int) == 0) = false := by simpa using hj0
     have hl : ¬ (97 ≤ s[j].toNat ∧ s[j].toNat ≤ 122 ∨ 48 ≤ s[j].toNat ∧ s[j].toNat ≤ 57 ∨ s[j].toNat = 45) := by rw [← Fd.tailN_iff]; rw [Fd.nmN_pos _ _ hj0] at hx'; rw [hx']; simp
     have i4 : ((s[j].toNat : Int) == 45) = false := by simp; omega
     have i5 : ((s[j].toNat : Int) != 45) = true := by simp; omega
     clear hx' hj0
     by_cases i1 : (s[j].toNat : Int) < 97
     ·by_cases i2 : (s[j].toNat : Int) < 48
      ·clear hl
       clear hx
       go_wp2_with fail
       go_ret
       exact ⟨ret_bool HB2.out.symm, rfl⟩
      ·have i3 : (57 : Int) < (s[j].toNat : Int) := by omega
       clear hl
       clear hx
       go_wp2_with fail
       go_ret
       exact ⟨ret_bool HB2.out.symm, rfl⟩
     ·have i2 : (122 : Int) < (s[j].toNat : Int) := by omega
      have i3 : (57 : Int) < (s[j].toNat : Int) := by omega
      have i6 : (48 : Int) ≤ (s[j].toNat : Int) := by omega
      clear hl
      clear hx
      go_wp2_with fail
      go_ret
      exact ⟨ret_bool HB2.out.symm, rfl⟩
  ·obtain rfl : j = s.size := by omega
   by_cases hz : 1 ≤ s.size ∧ s.size ≤ 40
   ·have HB2 : Hid (b = true) := by have h1 := HB.out; rw [Fd.nameB_yes hz (fun i hi => HALL.out i hi hi)] at h1; exact Lib.hid h1.symm
    obtain ⟨z1, z2⟩ := hz
    have z3 : (1 : Int) ≤ (s.size : Int) := by omega
    have z4 : (s.size : Int) ≤ 40 := by omega
    go_wp2_with fail
    go_ret
    exact ⟨ret_bool (by first | exact HB2.out.symm | (rw [HB2.out]; simp <;> omega)), rfl⟩
   ·have HB2 : Hid (b = false) := by have h1 := HB.out; rw [Fd.nameB_size hz] at h1; exact Lib.hid h1.symm
    by_cases z3 : (1 : Int) ≤ (s.size : Int)
    ·have z4 : (40 : Int) < (s.size : Int) := by omega
     clear hz
     go_wp2_with fail
     go_ret
     exact ⟨ret_bool (by first | exact HB2.out.symm | (rw [HB2.out]; simp <;> omega)), rfl⟩
    ·clear hz
     go_wp2_with fail
     go_ret
     exact ⟨ret_bool (by first | exact HB2.out.symm | (rw [HB2.out]; simp <;> omega)), rfl⟩
theorem strEmpty_no (s : ByteArray) (h : s.size ≠ 0) : s.toList.isEmpty = false := by
 rw [← decide_eq_emptyBytes]; exact decide_eq_false fun e => h (by rw [e]; rfl)
theorem strEmpty_yes (s : ByteArray) (h : s.size = 0) : s.toList.isEmpty = true := by
 rw [← decide_eq_emptyBytes]
 refine decide_eq_true ?_
 obtain ⟨d⟩ := s
 have : d = #[] := Array.eq_empty_of_size_eq_zero h
 subst this; rfl
theorem isNameW_is (s : ByteArray) (hs : s.size ≤ 9223372036854775807) (b : Bool) (h : Fd.nameB s = b) (w : World) : Calls Tryz.prog 180 #[.string s] w fun e w' => e = .returned (.bool b) ∧ w = w' := by
 have HB := Lib.hid h; clear h
 by_cases z0 : s.size = 0
 ·have HB2 : Hid (b = false) := by have h1 := HB.out; rw [Fd.nameB_size (by omega)] at h1; exact Lib.hid h1.symm
  have e1 := strEmpty_yes s z0
  have e2 : s.toList = [] := by simpa using e1
  have HZ := Lib.hid z0; clear z0
  go_enter Tryz.func180, Tryz.ntmps180
  go_wp2_with fail
  go_ret
  exact ⟨ret_bool (by first | exact HB2.out.symm | (rw [HB2.out]; simp)), rfl⟩
 ·have z1 : (0 : Int) < (s.size : Int) := by omega
  have z2 : 0 < s.size := by omega
  have e1 := strEmpty_no s z0
  have e2 : ¬ s.toList = [] := by simpa using e1
  clear z0
  by_cases z3 : (40 : Int) < (s.size : Int)
  ·have HB2 : Hid (b = false) := by have h1 := HB.out; rw [Fd.nameB_size (by omega)] at h1; exact Lib.hid h1.symm
   go_enter Tryz.func180, Tryz.ntmps180
   go_wp2_with fail
   go_ret
   exact ⟨ret_bool (by first | exact HB2.out.symm | (rw [HB2.out]; simp)), rfl⟩
  ·have hz : 1 ≤ s.size ∧ s.size ≤ 40 := by omega
   have HZ := Lib.hid hz; clear hz
   by_cases hl : Fd.letN (s[0]'z2).toNat = true
   ·have hl2 := (Fd.letN_iff _).1 hl
    have HL := Lib.hid hl
    have i1 : ¬ ((s[0]'z2).toNat : Int) < 97 := by omega
    have i2 : ¬ (122 : Int) < ((s[0]'z2).toNat : Int) := by omega
    clear hl hl2
    go_enter Tryz.func180, Tryz.ntmps180
    go_wp2_with fail
    clear i1 i2
    go_loopg [24] s.size (fun gk i wr => ∃ j : Nat, j ≤ s.size ∧ gk = s.size - j ∧ i = .int .i64 j ∧ (∀ i, (h : i < s.size) → i < j → Fd.nmN i s[i].toNat = true) ∧ w = wr)
    case atStart => exact ⟨0, by omega, rfl, rfl, fun i _ hi => by omega, rfl⟩
    case round =>
     obtain ⟨j, hj, rfl, rfl, hall, rfl⟩ := hrel
     have HALL := Lib.hid hall; clear hall
     by_cases hlt : j < s.size
     ·by_cases hx : Fd.tailN s[j].toNat = true
      ·have hnm : Fd.nmN j s[j].toNat = true := by
        by_cases e : j = 0
        ·subst e; exact HL.out
        ·rw [Fd.nmN_pos _ _ e]; exact hx
       have HN := Lib.hid (Fd.upto_next (P := fun i c => Fd.nmN i c = true) HALL.out hlt hnm)
       have ht := (Fd.tailN_iff _).1 hx
       clear hx hnm
       by_cases i1 : (97 : Int) ≤ (s[j].toNat : Int) ∧ (s[j].toNat : Int) ≤ 122
       ·obtain ⟨i1, i2⟩ := i1
        clear ht
        go_wp2_with fail
        go_roundg (s.size - (j + 1))
        case rel => exact ⟨j + 1, by omega, rfl, by go_num, HN.out, rfl⟩
        case measure => omega
       ·by_cases i3 : s[j].toNat = 45
        ·have i4 : ((s[j].toNat : Int) == 45) = true := by simp; omega
         have i6 : ¬ (97 : Int) ≤ (s[j].toNat : Int) := by omega
         have i7 : ¬ (48 : Int) ≤ (s[j].toNat : Int) := by omega
         clear i1 ht i3
         go_wp2_with fail
         go_roundg (s.size - (j + 1))
         case rel => exact ⟨j + 1, by omega, rfl, by go_num, HN.out, rfl⟩
         case measure => omega
        ·have i6 : ¬ (97 : Int) ≤ (s[j].toNat : Int) := by omega
         have i7 : (48 : Int) ≤ (s[j].toNat : Int) := by omega
         have i8 : (s[j].toNat : Int) ≤ 57 := by omega
         clear i1 ht i3
         go_wp2_with fail
         go_roundg (s.size - (j + 1))
         case rel => exact ⟨j + 1, by omega, rfl, by go_num, HN.out, rfl⟩
         case measure => omega
      ·have hx' : Fd.nmN j s[j].toNat = false := by
        cases hc : Fd.nmN j s[j].toNat
        ·rfl
        ·exact absurd (Fd.nmN_tail _ _ hc) hx
       have HB2 : Hid (b = false) := by have h1 := HB.out; rw [Fd.nameB_at j hlt hx'] at h1; exact Lib.hid h1.symm
       have ht : ¬ (97 ≤ s[j].toNat ∧ s[j].toNat ≤ 122 ∨ 48 ≤ s[j].toNat ∧ s[j].toNat ≤ 57 ∨ s[j].toNat = 45) := fun g => hx ((Fd.tailN_iff _).2 g)
       have i4 : ((s[j].toNat : Int) == 45) = false := by simp; omega
       clear hx hx'
       by_cases i1 : (97 : Int) ≤ (s[j].toNat : Int)
       ·have i2 : ¬ (s[j].toNat : Int) ≤ 122 := by omega
        have i3 : (48 : Int) ≤ (s[j].toNat : Int) := by omega
        have i5 : ¬ (s[j].toNat : Int) ≤ 57 := by omega
        clear ht
        go_wp2_with fail
        go_ret
        exact ⟨ret_bool HB2.out.symm, rfl⟩
       ·by_cases i3 : (48 : Int) ≤ (s[j].toNat : Int)
        ·have i5 : ¬ (s[j].toNat : Int) ≤ 57 := by omega
         clear ht
         go_wp2_with fail
         go_ret
         exact ⟨ret_bool HB2.out.symm, rfl⟩
        ·clear ht
         go_wp2_with fail
         go_ret
         exact ⟨ret_bool HB2.out.symm, rfl⟩
     ·obtain rfl : j = s.size := by omega
      have HB2 : Hid (b = true) := by have h1 := HB.out; rw [Fd.nameB_yes HZ.out (fun i hi => HALL.out i hi hi)] at h1; exact Lib.hid h1.symm
      go_wp2_with fail
      go_ret
      exact ⟨ret_bool HB2.out.symm, rfl⟩
   ·have HB2 : Hid (b = false) := by have h1 := HB.out; rw [Fd.nameB_at 0 z2 (by rw [Fd.nmN_zero]; simpa using hl)] at h1; exact Lib.hid h1.symm
    rw [Fd.letN_iff] at hl
    by_cases i1 : ((s[0]'z2).toNat : Int) < 97
    ·clear hl
     go_enter Tryz.func180, Tryz.ntmps180
     go_wp2_with fail
     go_ret
     exact ⟨ret_bool (by first | exact HB2.out.symm | (rw [HB2.out]; simp)), rfl⟩
    ·have i2 : (122 : Int) < ((s[0]'z2).toNat : Int) := by omega
     clear hl
     go_enter Tryz.func180, Tryz.ntmps180
     go_wp2_with fail
     go_ret
     exact ⟨ret_bool (by first | exact HB2.out.symm | (rw [HB2.out]; simp)), rfl⟩
theorem outsideS_is (n lo hi : Int) (w : World) : Calls Tryz.prog 92 #[.int .i64 n, .int .i64 lo, .int .i64 hi] w fun e w' => e = .returned (.bool (!St.inB n lo hi)) ∧ w = w' := by
 by_cases h : lo ≤ n ∧ n ≤ hi
 ·rw [show St.inB n lo hi = true from decide_eq_true h]
  obtain ⟨h1, h2⟩ := h
  go_enter Tryz.func92, Tryz.ntmps92
  go_wp2
  go_ret
  exact ⟨ret_bool (by simp <;> omega), rfl⟩
 ·rw [show St.inB n lo hi = false from decide_eq_false h]
  by_cases c : n < lo
  ·clear h
   go_enter Tryz.func92, Tryz.ntmps92
   go_wp2
   go_ret
   exact ⟨ret_bool (by simp <;> omega), rfl⟩
  ·have d : hi < n := by omega
   clear h
   go_enter Tryz.func92, Tryz.ntmps92
   go_wp2
   go_ret
   exact ⟨ret_bool (by simp <;> omega), rfl⟩
theorem isMomentS_is (n : Int) (w : World) : Calls Tryz.prog 132 #[.int .i64 n] w fun e w' => e = .returned (.bool (St.isMom n)) ∧ w = w' := by
 have h := Lib.hid (fun W => outsideS_is n 0 6311433599 W)
 rw [show St.isMom n = St.inB n 0 6311433599 from rfl]
 generalize St.inB n 0 6311433599 = b at *
 cases b
 ·go_enter Tryz.func132, Tryz.ntmps132
  go_wp2_with (go_at_call 92; (with_reducible refine (h.out _).mono ?_); rintro e w2 ⟨rfl, rfl⟩)
  go_ret
  exact ⟨rfl, rfl⟩
 ·go_enter Tryz.func132, Tryz.ntmps132
  go_wp2_with (go_at_call 92; (with_reducible refine (h.out _).mono ?_); rintro e w2 ⟨rfl, rfl⟩)
  go_ret
  exact ⟨rfl, rfl⟩
theorem isDayS_is (n : Int) (w : World) : Calls Tryz.prog 64 #[.int .i64 n] w fun e w' => e = .returned (.bool (St.inB n 0 73048)) ∧ w = w' := by
 have h := Lib.hid (fun W => outsideS_is n 0 73048 W)
 generalize St.inB n 0 73048 = b at *
 cases b
 ·go_enter Tryz.func64, Tryz.ntmps64
  go_wp2_with (go_at_call 92; (with_reducible refine (h.out _).mono ?_); rintro e w2 ⟨rfl, rfl⟩)
  go_ret
  exact ⟨rfl, rfl⟩
 ·go_enter Tryz.func64, Tryz.ntmps64
  go_wp2_with (go_at_call 92; (with_reducible refine (h.out _).mono ?_); rintro e w2 ⟨rfl, rfl⟩)
  go_ret
  exact ⟨rfl, rfl⟩
theorem inS_is (n lo hi : Int) (w : World) : Calls Tryz.prog 70 #[.int .i64 n, .int .i64 lo, .int .i64 hi] w fun e w' => e = .returned (.bool (St.inB n lo hi)) ∧ w = w' := in_is n lo hi _ rfl w
theorem momentS_is (n : Int) (w : World) : Calls Tryz.prog 78 #[.int .i64 n] w fun e w' => e = .returned (.bool (St.isMom n)) ∧ w = w' := moment_is n _ rfl w
theorem isDigestS_is (d : ByteArray) (hd : d.size ≤ 9223372036854775807) (w : World) : Calls Tryz.prog 188 #[.string d] w fun e w' => e = .returned (.bool (Fd.fileB d)) ∧ Below w.heap.size w w' := by
 by_cases h : d.size = 16
 ·have HT := Lib.hid (trimH_is d (by omega) hd w)
  have h16 : ((d.size : Int) == 16) = true := by rw [h]; rfl
  rw [Hx.fileB_all h]
  by_cases h1 : d.data.toList.all Hx.isH = true
  ·rw [(Hx.trim_nilH _).2 h1] at HT
   rw [h1]
   clear h1
   go_enter Tryz.func188, Tryz.ntmps188
   go_wp2_with (go_at_call 215; refine HT.out.mono ?_; rintro e w2 ⟨rfl, hB2⟩)
   go_ret
   exact ⟨rfl, hB2⟩
  ·have e1 := mkEmptyH_no (Lib.trimS d.data.toList Hx.hexD) (fun h => h1 ((Hx.trim_nilH _).1 h))
   rw [show d.data.toList.all Hx.isH = false by simpa using h1]
   generalize Tx.mk (Lib.trimS d.data.toList Hx.hexD) = t at *
   clear h1
   go_enter Tryz.func188, Tryz.ntmps188
   go_wp2_with (go_at_call 215; refine HT.out.mono ?_; rintro e w2 ⟨rfl, hB2⟩)
   go_ret
   exact ⟨rfl, hB2⟩
 ·have h16 : ((d.size : Int) == 16) = false := by rw [beq_eq_false_iff_ne]; omega
  have h16' : ¬ ((d.size : Int) = 16) := by omega
  rw [Fd.fileB_size h]
  go_enter Tryz.func188, Tryz.ntmps188
  go_wp2_with fail
  go_ret
  exact ⟨rfl, Below.refl _ _⟩
end Go.Proofs.YthdiccdnggloiaaGreatDoor
namespace Go.Proofs.YthdiccdnggloiaaGreatDoor
open Go.RowKit
namespace St
theorem scan_all {α : Type} {bad : List α → α → Int} {L : List α} : ∀ {pre : List α}, (∀ i x, L[i]? = some x → bad (pre ++ L.take i) x = 0) → scan bad pre L = 0 := by
 induction L with
 | nil => intro pre _; rfl
 | cons y r ih =>
   intro pre h
   have h0 := h 0 y rfl
   rw [List.take_zero, List.append_nil] at h0
   rw [scan_ok h0]
   refine ih fun i x hx => ?_
   have := h (i + 1) x (by simpa using hx)
   rwa [List.take_succ_cons, List.append_cons] at this
theorem scan_iff {α : Type} {bad : List α → α → Int} {L : List α} : scan bad [] L = 0 ↔ ∀ i x, L[i]? = some x → bad (L.take i) x = 0 := by
 constructor
 ·intro h i x hx
  obtain ⟨hlt, hg⟩ := List.getElem?_eq_some_iff.1 hx
  have h1 := scan_0 h (L.take i) (L.drop (i + 1)) x (by
   conv => lhs; rw [← List.take_append_drop i L]
   rw [List.drop_eq_getElem_cons hlt, hg])
  rwa [List.nil_append] at h1
 ·intro h
  exact scan_all fun i x hx => by rw [List.nil_append]; exact h i x hx
theorem rise_iff {α : Type} {bad : List α → α → Int} {L : List α} (good : α → Prop) (before : α → α → Bool) (tr : ∀ a b c, a ∈ L → b ∈ L → c ∈ L → before a b = true → before b c = true → before a c = true)
  (hb : ∀ pre x, x ∈ L → (bad pre x = 0 ↔ good x ∧ ∀ p, pre.getLast? = some p → before p x = true)) :
  scan bad [] L = 0 ↔ (∀ x ∈ L, good x) ∧ L.Pairwise (fun x y => before x y = true) := by
 rw [scan_iff]
 constructor
 ·intro h
  refine ⟨fun x hx => ?_, ?_⟩
  ·obtain ⟨i, hi⟩ := List.getElem?_of_mem hx
   exact ((hb _ _ hx).1 (h i x hi)).1
  ·rw [List.pairwise_iff_getElem]
   have step : ∀ k, (hk : k + 1 < L.length) → before L[k] L[k + 1] = true := by
    intro k hk
    exact ((hb _ _ (List.getElem_mem hk)).1 (h (k + 1) _ (List.getElem?_eq_getElem hk))).2 _ (last_take (List.getElem?_eq_getElem (by omega)))
   intro i j hi hj hij
   induction j with
   | zero => omega
   | succ j ih =>
     by_cases e : i = j
     ·subst e; exact step i hj
     ·exact tr _ _ _ (List.getElem_mem hi) (List.getElem_mem _) (List.getElem_mem hj) (ih (by omega) (by omega)) (step j hj)
 ·rintro ⟨h1, h2⟩ i x hx
  have hm := List.mem_of_getElem? hx
  refine (hb _ _ hm).2 ⟨h1 x hm, fun p hp => ?_⟩
  obtain ⟨hlt, hg⟩ := List.getElem?_eq_some_iff.1 hx
  by_cases h0 : i = 0
  ·subst h0; rw [last_zero] at hp; cases hp
  ·obtain ⟨q, hq, hl⟩ := last_at hlt (by omega)
   rw [hl] at hp
   obtain rfl := Option.some.inj hp
   obtain ⟨hlt2, hg2⟩ := List.getElem?_eq_some_iff.1 hq
   have := List.pairwise_iff_getElem.1 h2 (i - 1) i (by omega) hlt (by omega)
   rwa [hg, hg2] at this
theorem held_iff {F : List Fil} {H : List ByteArray} : scan (heldE F) [] H = 0 ↔ (∀ d ∈ H, kindOf F d = 1) ∧ Up id H := by
 refine rise_iff (fun d => kindOf F d = 1) (fun a b => lt a b) (fun a b c _ _ _ => lt_trans) fun pre x _ => ?_
 unfold heldE
 by_cases hk : kindOf F x = 1
 ·rw [if_pos hk]
  cases hp : pre.getLast? with
  | none => simp [hk]
  | some p =>
    simp only
    rw [le_not]
    cases hl : lt p x <;> simp [hk, hl]
 ·rw [if_neg hk]; simp [hk]
theorem bin_iff {F : List Fil} {H : List ByteArray} {B : List Gon} : scan (binE F H) [] B = 0 ↔ (∀ g ∈ B, kindOf F g.dig = 1 ∧ binR H g = 0) ∧ Up (·.dig) B := by
 refine rise_iff (fun g => kindOf F g.dig = 1 ∧ binR H g = 0) (fun a b => lt a.dig b.dig) (fun a b c _ _ _ => lt_trans) fun pre x _ => ?_
 unfold binE
 by_cases hk : kindOf F x.dig = 1
 ·rw [if_pos hk]
  cases hp : pre.getLast? with
  | none => simp [hk]
  | some p =>
    simp only
    rw [le_not]
    cases hl : lt p.dig x.dig <;> simp [hk, hl]
 ·rw [if_neg hk]; simp [hk]
theorem files_iff {F : List Fil} : scan fileE [] F = 0 ↔ (∀ f ∈ F, Fd.fileB f.dig = true ∧ fileR f = 0) ∧ Up (·.dig) F := by
 refine rise_iff (fun f => Fd.fileB f.dig = true ∧ fileR f = 0) (fun a b => lt a.dig b.dig) (fun a b c _ _ _ => lt_trans) fun pre x _ => ?_
 unfold fileE
 by_cases hk : Fd.fileB x.dig = true
 ·rw [if_pos hk]
  cases hp : pre.getLast? with
  | none => simp [hk]
  | some p =>
    simp only
    rw [le_not]
    cases hl : lt p.dig x.dig <;> simp [hk, hl]
 ·rw [if_neg hk]; simp [hk]
theorem ahead_trans {a b c : Cop} (h1 : ahead a b = true) (h2 : ahead b c = true) : ahead a c = true := by
 unfold ahead at *
 simp only [Bool.or_eq_true, Bool.and_eq_true] at *
 rcases h1 with h1 | ⟨h1, h1'⟩
 ·rcases h2 with h2 | ⟨h2, h2'⟩
  ·exact .inl (lt_trans h1 h2)
  ·rw [← eq_iff.1 h2]; exact .inl h1
 ·rcases h2 with h2 | ⟨h2, h2'⟩
  ·rw [eq_iff.1 h1]; exact .inl h2
  ·exact .inr ⟨eq_iff.2 ((eq_iff.1 h1).trans (eq_iff.1 h2)), lt_trans h1' h2'⟩
theorem copies_iff {T : List Tir} {F : List Fil} {C : List Cop} : scan (copyE T F) [] C = 0 ↔ (∀ c ∈ C, (fileOf F c.dig).isSome = true ∧ hasTier T c.tier = true ∧ isMom c.asked = true) ∧ C.Pairwise (fun a b => ahead a b = true) := by
 refine rise_iff (fun c => (fileOf F c.dig).isSome = true ∧ hasTier T c.tier = true ∧ isMom c.asked = true) ahead (fun a b c _ _ _ => ahead_trans) fun pre x _ => ?_
 unfold copyE
 by_cases hk : (fileOf F x.dig).isSome = true ∧ hasTier T x.tier = true
 ·rw [if_pos hk]
  obtain ⟨hk1, hk2⟩ := hk
  cases hp : pre.getLast? with
  | none => cases hm : isMom x.asked <;> simp [hk1, hk2, hm]
  | some p =>
    simp only
    cases hl : ahead p x <;> cases hm : isMom x.asked <;> simp [hk1, hk2, hl, hm]
 ·rw [if_neg hk]
  constructor
  ·intro h; cases h
  ·rintro ⟨⟨g1, g2, _⟩, _⟩; exact absurd ⟨g1, g2⟩ hk
structure Right (s : Sto) : Prop where
 sizes : sizesE s = 0
 tiers : scan tierE [] s.tiers = 0
 dig : ∀ f ∈ s.files, Fd.fileB f.dig = true ∧ fileR f = 0
 fup : Up (·.dig) s.files
 frm : ∀ f ∈ s.files, f.kind ≠ 1 → kindOf s.files f.frm = 1
 cop : ∀ c ∈ s.copies, (fileOf s.files c.dig).isSome = true ∧ hasTier s.tiers c.tier = true ∧ isMom c.asked = true
 cup : s.copies.Pairwise (fun a b => ahead a b = true)
 room : ∀ t ∈ s.tiers, 0 ≤ t.room - used s.files t.name s.copies
 held : ∀ d ∈ s.held, kindOf s.files d = 1
 hup : Up id s.held
 bin : ∀ g ∈ s.bin, kindOf s.files g.dig = 1 ∧ binR s.held g = 0
 bup : Up (·.dig) s.bin
theorem from_iff {L M : List Fil} : scan (fromE L) [] M = 0 ↔ ∀ f ∈ M, f.kind ≠ 1 → kindOf L f.frm = 1 := by
 rw [scan_iff]
 constructor
 ·intro h f hf hk
  obtain ⟨i, hi⟩ := List.getElem?_of_mem hf
  have := h i f hi
  unfold fromE at this
  by_cases g : kindOf L f.frm = 1
  ·exact g
  ·rw [if_pos ⟨hk, g⟩] at this; cases this
 ·intro h i f hi
  unfold fromE
  rw [if_neg]
  rintro ⟨h1, h2⟩
  exact h2 (h f (List.mem_of_getElem? hi) h1)
theorem full_iff {F : List Fil} {C : List Cop} {T : List Tir} : scan (fullE F C) [] T = 0 ↔ ∀ t ∈ T, 0 ≤ t.room - used F t.name C := by
 rw [scan_iff]
 constructor
 ·intro h t ht
  obtain ⟨i, hi⟩ := List.getElem?_of_mem ht
  have := h i t hi
  unfold fullE at this
  by_cases g : t.room - used F t.name C < 0
  ·rw [if_pos g] at this; cases this
  ·omega
 ·intro h i t hi
  unfold fullE
  rw [if_neg]
  have := h t (List.mem_of_getElem? hi)
  omega
theorem err_iff {s : Sto} : err s = 0 ↔ Right s := by
 unfold err
 constructor
 ·intro h
  by_cases h1 : sizesE s = 0
  ·rw [if_pos h1] at h
   by_cases h2 : scan tierE [] s.tiers = 0
   ·rw [if_pos h2] at h
    by_cases h3 : filesE s.files = 0
    ·rw [if_pos h3] at h
     by_cases h4 : copiesE s = 0
     ·rw [if_pos h4] at h
      unfold filesE at h3
      by_cases h5 : scan fileE [] s.files = 0
      ·rw [if_pos h5] at h3
       unfold copiesE at h4
       by_cases h6 : scan (copyE s.tiers s.files) [] s.copies = 0
       ·rw [if_pos h6] at h4
        unfold keptE at h
        by_cases h7 : scan (heldE s.files) [] s.held = 0
        ·rw [if_pos h7] at h
         exact ⟨h1, h2, (files_iff.1 h5).1, (files_iff.1 h5).2, from_iff.1 h3, (copies_iff.1 h6).1, (copies_iff.1 h6).2, full_iff.1 h4, (held_iff.1 h7).1, (held_iff.1 h7).2, (bin_iff.1 h).1, (bin_iff.1 h).2⟩
        ·rw [if_neg h7] at h; exact absurd h h7
       ·rw [if_neg h6] at h4; exact absurd h4 h6
      ·rw [if_neg h5] at h3; exact absurd h3 h5
     ·rw [if_neg h4] at h; exact absurd h h4
    ·rw [if_neg h3] at h; exact absurd h h3
   ·rw [if_neg h2] at h; exact absurd h h2
  ·rw [if_neg h1] at h; exact absurd h h1
 ·intro r
  have h5 := files_iff.2 ⟨r.dig, r.fup⟩
  have h3 : filesE s.files = 0 := by unfold filesE; rw [if_pos h5]; exact from_iff.2 r.frm
  have h6 := copies_iff.2 ⟨r.cop, r.cup⟩
  have h4 : copiesE s = 0 := by unfold copiesE; rw [if_pos h6]; exact full_iff.2 r.room
  have h7 := held_iff.2 ⟨r.held, r.hup⟩
  rw [if_pos r.sizes, if_pos r.tiers, if_pos h3, if_pos h4]
  unfold keptE
  rw [if_pos h7]
  exact bin_iff.2 ⟨r.bin, r.bup⟩
end St
namespace St
theorem up_ext {α : Type} {key : α → ByteArray} : ∀ {L M : List α}, Up key L → Up key M → (∀ x, x ∈ L ↔ x ∈ M) → L = M
 | [], M, _, _, h => by
   cases M with
   | nil => rfl
   | cons y M => have := (h y).2 (by simp); cases this
 | x :: L, [], _, _, h => by have := (h x).1 (by simp); cases this
 | x :: L, y :: M, hL, hM, h => by
   obtain ⟨l1, l2⟩ := List.pairwise_cons.1 hL
   obtain ⟨m1, m2⟩ := List.pairwise_cons.1 hM
   have hxy : x = y := by
    rcases List.mem_cons.1 ((h x).1 (by simp)) with e | hx
    ·exact e
    ·rcases List.mem_cons.1 ((h y).2 (by simp)) with e | hy
     ·exact e.symm
     ·have := lt_trans (l1 y hy) (m1 x hx)
      rw [lt_irr] at this; cases this
   subst hxy
   have : L = M := up_ext l2 m2 fun z => by
    constructor
    ·intro hz
     rcases List.mem_cons.1 ((h z).1 (by simp [hz])) with e | g
     ·subst e; have := l1 z hz; rw [lt_irr] at this; cases this
     ·exact g
    ·intro hz
     rcases List.mem_cons.1 ((h z).2 (by simp [hz])) with e | g
     ·subst e; have := m1 z hz; rw [lt_irr] at this; cases this
     ·exact g
   rw [this]
theorem Up.sub {α : Type} {key : α → ByteArray} {L M : List α} (h : Up key M) (hs : L.Sublist M) : Up key L := List.Pairwise.sublist hs h
theorem hasK_iff {α : Type} {key : α → ByteArray} {L : List α} {k : ByteArray} : hasK key L k = true ↔ ∃ x ∈ L, key x = k := by
 unfold hasK
 rw [List.any_eq_true]
 exact ⟨fun ⟨x, h1, h2⟩ => ⟨x, h1, eq_iff.1 h2⟩, fun ⟨x, h1, h2⟩ => ⟨x, h1, eq_iff.2 h2⟩⟩
theorem hasK_at {α : Type} {key : α → ByteArray} {L : List α} {k : ByteArray} (h : Up key L) (hk : hasK key L k = true) : ∃ x, L[pos key k L]? = some x ∧ key x = k := by
 rw [has_pos h] at hk
 cases hx : L[pos key k L]? with
 | none => rw [hx] at hk; cases hk
 | some x => rw [hx] at hk; exact ⟨x, rfl, eq_iff.1 hk⟩
theorem split_pos {α : Type} {key : α → ByteArray} {L : List α} (h : Up key L) (k : ByteArray) (hk : hasK key L k = false) : (∀ x ∈ L.take (pos key k L), lt (key x) k = true) ∧ (∀ x ∈ L.drop (pos key k L), lt k (key x) = true) := by
 constructor
 ·intro x hx
  obtain ⟨i, hi⟩ := List.getElem?_of_mem hx
  rw [List.getElem?_take] at hi
  split at hi
  ·rename_i hlt; exact pos_before hi hlt
  ·cases hi
 ·intro x hx
  obtain ⟨i, hi⟩ := List.getElem?_of_mem hx
  rw [List.getElem?_drop] at hi
  have h1 := pos_from (k := k) h hi (by omega)
  have h2 : eq (key x) k = false := by
   cases he : eq (key x) k with
   | false => rfl
   | true => rw [hasK_iff.2 ⟨x, List.mem_of_getElem? hi, eq_iff.1 he⟩] at hk; cases hk
  cases h3 : lt k (key x) with
  | true => rfl
  | false =>
    have := Sx.less_tri _ _ h1 h3
    unfold eq at h2
    rw [this] at h2; simp at h2
theorem up_wth {α : Type} {key : α → ByteArray} {L : List α} (h : Up key L) (x : α) : Up key (wth key x L) := by
 unfold wth
 split
 ·rename_i hk
  obtain ⟨y, hy, hyk⟩ := hasK_at h hk
  unfold Up
  rw [List.pairwise_iff_getElem]
  intro i j hi hj hij
  rw [List.length_set] at hi hj
  have hp := List.pairwise_iff_getElem.1 h i j hi hj hij
  obtain ⟨hlt, hg⟩ := List.getElem?_eq_some_iff.1 hy
  rw [List.getElem_set, List.getElem_set]
  split
  ·rename_i e
   split
   ·omega
   ·subst e; rw [hg, hyk] at hp; exact hp
  ·split
   ·rename_i e; subst e; rw [hg, hyk] at hp; exact hp
   ·exact hp
 ·rename_i hk
  obtain ⟨h1, h2⟩ := split_pos h (key x) (by simpa using hk)
  unfold Up
  rw [List.pairwise_append]
  refine ⟨h.sub (List.take_sublist _ _), List.pairwise_cons.2 ⟨fun y hy => h2 y hy, h.sub (List.drop_sublist _ _)⟩, fun a ha b hb => ?_⟩
  rcases List.mem_cons.1 hb with rfl | hb
  ·exact h1 a ha
  ·exact lt_trans (h1 a ha) (h2 b hb)
theorem mem_wth {α : Type} {key : α → ByteArray} {L : List α} (h : Up key L) (x y : α) : y ∈ wth key x L ↔ y = x ∨ (y ∈ L ∧ key y ≠ key x) := by
 unfold wth
 split
 ·rename_i hk
  obtain ⟨z, hz, hzk⟩ := hasK_at h hk
  obtain ⟨hlt, hg⟩ := List.getElem?_eq_some_iff.1 hz
  constructor
  ·intro hy
   obtain ⟨i, hi⟩ := List.getElem?_of_mem hy
   rw [List.getElem?_set] at hi
   split at hi
   ·first | exact .inl (Option.some.inj hi).symm | (rw [if_pos hlt] at hi; exact .inl (Option.some.inj hi).symm)
   ·rename_i hne
    refine .inr ⟨List.mem_of_getElem? hi, fun e => ?_⟩
    rcases Nat.lt_trichotomy i (pos key (key x) L) with h1 | h1 | h1
    ·have := h.lt hi hz h1; rw [e, hzk, lt_irr] at this; cases this
    ·exact hne h1.symm
    ·have := h.lt hz hi h1; rw [e, hzk, lt_irr] at this; cases this
  ·rintro (rfl | ⟨hy, hne⟩)
   ·refine List.mem_of_getElem? (i := pos key (key y) L) ?_
    rw [List.getElem?_set, if_pos rfl]
    first | rfl | exact if_pos hlt | (simp [hlt])
   ·obtain ⟨i, hi⟩ := List.getElem?_of_mem hy
    refine List.mem_of_getElem? (i := i) ?_
    rw [List.getElem?_set, if_neg]
    ·exact hi
    ·intro e; subst e; rw [hz] at hi; obtain rfl := Option.some.inj hi; exact hne hzk
 ·rename_i hk
  have hno : ∀ z ∈ L, key z ≠ key x := fun z hz e => hk (hasK_iff.2 ⟨z, hz, e⟩)
  rw [List.mem_append, List.mem_cons]
  constructor
  ·rintro (hy | rfl | hy)
   ·exact .inr ⟨List.mem_of_mem_take hy, hno y (List.mem_of_mem_take hy)⟩
   ·exact .inl rfl
   ·exact .inr ⟨List.mem_of_mem_drop hy, hno y (List.mem_of_mem_drop hy)⟩
  ·rintro (rfl | ⟨hy, _⟩)
   ·exact .inr (.inl rfl)
   ·have : y ∈ L.take (pos key (key x) L) ++ L.drop (pos key (key x) L) := by rw [List.take_append_drop]; exact hy
    rcases List.mem_append.1 this with g | g
    ·exact .inl g
    ·exact .inr (.inr g)
theorem up_wo {α : Type} {key : α → ByteArray} {L : List α} (h : Up key L) (k : ByteArray) : Up key (wo key k L) := by
 unfold wo
 split
 ·exact h.sub (List.eraseIdx_sublist _ _)
 ·exact h
theorem mem_wo {α : Type} {key : α → ByteArray} {L : List α} (h : Up key L) (k : ByteArray) (y : α) : y ∈ wo key k L ↔ y ∈ L ∧ key y ≠ k := by
 unfold wo
 split
 ·rename_i hk
  obtain ⟨z, hz, hzk⟩ := hasK_at h hk
  rw [List.mem_eraseIdx_iff_getElem?]
  constructor
  ·rintro ⟨i, hne, hi⟩
   refine ⟨List.mem_of_getElem? hi, fun e => ?_⟩
   rcases Nat.lt_trichotomy i (pos key k L) with h1 | h1 | h1
   ·have := h.lt hi hz h1; rw [e, hzk, lt_irr] at this; cases this
   ·exact hne h1
   ·have := h.lt hz hi h1; rw [e, hzk, lt_irr] at this; cases this
  ·rintro ⟨hy, hne⟩
   obtain ⟨i, hi⟩ := List.getElem?_of_mem hy
   exact ⟨i, fun e => by subst e; rw [hz] at hi; obtain rfl := Option.some.inj hi; exact hne hzk, hi⟩
 ·rename_i hk
  exact ⟨fun hy => ⟨hy, fun e => hk (hasK_iff.2 ⟨y, hy, e⟩)⟩, fun hy => hy.1⟩
theorem wo_filter {α : Type} {key : α → ByteArray} {L : List α} (h : Up key L) (k : ByteArray) : wo key k L = L.filter fun x => !eq (key x) k := by
 refine up_ext (up_wo h k) (h.sub List.filter_sublist) fun y => ?_
 rw [mem_wo h, List.mem_filter]
 constructor
 ·rintro ⟨h1, h2⟩
  exact ⟨h1, by cases he : eq (key y) k with
   | false => rfl
   | true => exact absurd (eq_iff.1 he) h2⟩
 ·rintro ⟨h1, h2⟩
  exact ⟨h1, fun e => by rw [eq_iff.2 e] at h2; cases h2⟩
theorem up_nodup {α : Type} {key : α → ByteArray} {L : List α} (h : Up key L) : (L.map key).Nodup := by
 unfold List.Nodup
 rw [List.pairwise_map]
 exact h.imp fun {a b} hab e => by rw [e, lt_irr] at hab; cases hab
end St
namespace St
def gdig (g : Gon) : ByteArray := g.dig
def kept (s : Sto) (d : ByteArray) : Bool := hasK id s.held d || hasK gdig s.bin d
def release (s : Sto) (d : ByteArray) (day : Int) : Sto := { s with held := wo id d s.held, bin := wth gdig ⟨d, day⟩ s.bin }
def stays (s : Sto) (day : Int) (g : Gon) : Bool := !decide (g.day + s.wait ≤ day)
def empty (s : Sto) (day : Int) : Sto := { s with bin := s.bin.filter (stays s day) }
def hold (s : Sto) (d : ByteArray) : Sto := { s with held := wth id d s.held, bin := wo gdig d s.bin }
theorem few_of_sub {α : Type} : ∀ {l m : List α}, l.Nodup → (∀ x ∈ l, x ∈ m) → l.length ≤ m.length
 | [], m, _, _ => by simp
 | x :: l, m, hn, hs => by
   obtain ⟨h1, h2⟩ := List.nodup_cons.1 hn
   obtain ⟨a, b, rfl⟩ := List.append_of_mem (hs x (by simp))
   have := few_of_sub (l := l) (m := a ++ b) h2 fun y hy => by
    have hy2 := hs y (by simp [hy])
    have hne : y ≠ x := fun e => h1 (e ▸ hy)
    simp only [List.mem_append, List.mem_cons] at hy2 ⊢
    rcases hy2 with g | g | g
    ·exact .inl g
    ·exact absurd g hne
    ·exact .inr g
   simp only [List.length_append, List.length_cons] at this ⊢
   omega
theorem kind_mem {F : List Fil} {d : ByteArray} (h : kindOf F d = 1) : ∃ f, fileOf F d = some f ∧ f ∈ F ∧ f.dig = d ∧ f.kind = 1 := by
 unfold kindOf at h
 cases hf : fileOf F d with
 | none => rw [hf] at h; cases h
 | some f =>
   rw [hf] at h
   obtain ⟨h1, h2⟩ := find_mem hf
   exact ⟨f, rfl, h1, eq_iff.1 h2, h⟩
theorem kind_dig {F : List Fil} {d : ByteArray} (h : kindOf F d = 1) : d ∈ F.map (·.dig) := by
 obtain ⟨f, _, h1, h2, _⟩ := kind_mem h
 exact List.mem_map.2 ⟨f, h1, h2⟩
theorem few_keys {α : Type} {key : α → ByteArray} {F : List Fil} {L : List α} (h : Up key L) (hk : ∀ x ∈ L, kindOf F (key x) = 1) : L.length ≤ F.length := by
 have := few_of_sub (m := F.map (·.dig)) (up_nodup h) fun y hy => by
  obtain ⟨x, hx, rfl⟩ := List.mem_map.1 hy
  exact kind_dig (hk x hx)
 simpa using this
theorem sizes_iff {s : Sto} : sizesE s = 0 ↔ (inB s.least 1 8 = true ∧ inB s.wait 0 1000 = true) ∧ s.tiers.length ≤ 8 ∧ s.files.length ≤ 500 ∧ s.copies.length ≤ 4000 ∧ s.held.length ≤ 500 ∧ s.bin.length ≤ 500 := by
 unfold sizesE
 split
 ·rename_i h
  split
  ·rename_i g
   constructor
   ·intro e; cases e
   ·rintro ⟨_, h1, h2, h3, h4, h5⟩; omega
  ·rename_i g
   constructor
   ·intro _; exact ⟨h, by omega, by omega, by omega, by omega, by omega⟩
   ·intro _; rfl
 ·rename_i h
  constructor
  ·intro e; cases e
  ·intro e; exact absurd e.1 h
theorem binR_iff {H : List ByteArray} {g : Gon} : binR H g = 0 ↔ inB g.day 0 73048 = true ∧ hasK id H g.dig = false := by
 have e : hasS H g.dig = hasK id H g.dig := rfl
 unfold binR
 rw [e]
 cases inB g.day 0 73048 <;> cases hasK id H g.dig <;> simp
theorem Right.kept {s : Sto} (r : Right s) {H : List ByteArray} {B : List Gon} (h1 : ∀ d ∈ H, kindOf s.files d = 1) (h2 : Up id H) (h3 : ∀ g ∈ B, kindOf s.files g.dig = 1 ∧ binR H g = 0) (h4 : Up gdig B) : Right { s with held := H, bin := B } := by
 obtain ⟨z1, z2, z3, z4, z5, z6⟩ := sizes_iff.1 r.sizes
 have e1 := few_keys (F := s.files) h2 h1
 have e2 := few_keys (F := s.files) h4 fun g hg => (h3 g hg).1
 exact ⟨sizes_iff.2 ⟨z1, z2, z3, z4, by show H.length ≤ 500; omega, by show B.length ≤ 500; omega⟩, r.tiers, r.dig, r.fup, r.frm, r.cop, r.cup, r.room, h1, h2, h3, h4⟩
theorem hasK_sub {H H' : List ByteArray} {d : ByteArray} (h : ∀ x ∈ H', x ∈ H) (hk : hasK id H d = false) : hasK id H' d = false := by
 cases e : hasK id H' d with
 | false => rfl
 | true =>
   obtain ⟨x, hx, rfl⟩ := hasK_iff.1 e
   rw [hasK_iff.2 ⟨x, h x hx, rfl⟩] at hk; cases hk
theorem right_release {s : Sto} (r : Right s) {d : ByteArray} {day : Int} (hd : hasK id s.held d = true) (hday : inB day 0 73048 = true) : Right (release s d day) := by
 obtain ⟨x, hx, hxd⟩ := hasK_iff.1 hd
 have hkd : kindOf s.files d = 1 := by rw [← hxd]; exact r.held x hx
 have hnd : hasK id (wo id d s.held) d = false := by
  cases e : hasK id (wo id d s.held) d with
  | false => rfl
  | true =>
    obtain ⟨y, hy, hyd⟩ := hasK_iff.1 e
    exact absurd hyd ((mem_wo r.hup d y).1 hy).2
 refine r.kept (fun y hy => r.held y ((mem_wo r.hup d y).1 hy).1) (up_wo r.hup d) (fun g hg => ?_) (up_wth r.bup _)
 rcases (mem_wth (key := gdig) r.bup ⟨d, day⟩ g).1 hg with rfl | ⟨hg, _⟩
 ·exact ⟨hkd, binR_iff.2 ⟨hday, hnd⟩⟩
 ·obtain ⟨h1, h2⟩ := r.bin g hg
  obtain ⟨h3, h4⟩ := binR_iff.1 h2
  exact ⟨h1, binR_iff.2 ⟨h3, hasK_sub (fun y hy => ((mem_wo r.hup d y).1 hy).1) h4⟩⟩
theorem right_hold {s : Sto} (r : Right s) {d : ByteArray} (hd : hasK gdig s.bin d = true) : Right (hold s d) := by
 obtain ⟨x, hx, hxd⟩ := hasK_iff.1 hd
 have hkd : kindOf s.files d = 1 := by rw [← hxd]; exact (r.bin x hx).1
 refine r.kept (fun y hy => ?_) (up_wth r.hup d) (fun g hg => ?_) (up_wo r.bup d)
 ·rcases (mem_wth (key := id) r.hup d y).1 hy with rfl | ⟨hy, _⟩
  ·exact hkd
  ·exact r.held y hy
 ·obtain ⟨hg1, hg2⟩ := (mem_wo (key := gdig) r.bup d g).1 hg
  obtain ⟨h1, h2⟩ := r.bin g hg1
  obtain ⟨h3, h4⟩ := binR_iff.1 h2
  refine ⟨h1, binR_iff.2 ⟨h3, ?_⟩⟩
  cases e : hasK id (wth id d s.held) g.dig with
  | false => rfl
  | true =>
    obtain ⟨y, hy, hyg⟩ := hasK_iff.1 e
    rcases (mem_wth (key := id) r.hup d y).1 hy with rfl | ⟨hy, _⟩
    ·exact absurd hyg.symm hg2
    ·rw [hasK_iff.2 ⟨y, hy, hyg⟩] at h4; cases h4
end St
namespace St
def fdig (f : Fil) : ByteArray := f.dig
def ckey (c : Cop) : ByteArray := key c.dig c.tier
def hasCopy (s : Sto) (d t : ByteArray) : Bool := s.copies.any fun c => eq c.dig d && eq c.tier t
def askedOf (s : Sto) (d t : ByteArray) (now : Int) : Int := match s.copies.find? (fun c => eq c.dig d && eq c.tier t) with | some c => c.asked | none => now
def roomOf (L : List Tir) (n : ByteArray) : Int := match L.find? (fun t => eq t.name n) with | some t => t.room | none => 0
def freeIn (s : Sto) (n : ByteArray) : Int := roomOf s.tiers n - used s.files n s.copies
def impE (s : Sto) (f : Fil) (tier : ByteArray) (now : Int) : Int :=
 if fileE [] f = 0 then
  (if f.kind ≠ 1 ∧ kindOf s.files f.frm ≠ 1 then 7 else
   if (match fileOf s.files f.dig with | some o => !(eq o.dig f.dig && o.size == f.size && o.kind == f.kind && eq o.frm f.frm) | none => false) = true then 1 else
   if hasTier s.tiers tier = true then
    (if isMom now = true then
     (if hasCopy s f.dig tier = false ∧ freeIn s tier < f.size then 12 else
      if (fileOf s.files f.dig).isSome = false ∧ 500 ≤ s.files.length then 4 else 0) else 2) else 7)
 else fileE [] f
def imp (s : Sto) (f : Fil) (tier : ByteArray) (now : Int) : Sto :=
 { s with files := wth fdig f s.files, copies := wth ckey ⟨f.dig, tier, true, askedOf s f.dig tier now⟩ s.copies, held := if f.kind = 1 then wth id f.dig s.held else s.held, bin := if f.kind = 1 then wo gdig f.dig s.bin else s.bin }
theorem dig16 {d : ByteArray} (h : Fd.fileB d = true) : d.size = 16 := by
 unfold Fd.fileB at h
 exact (of_decide_eq_true h).1
theorem cop_dig {s : Sto} (r : Right s) {c : Cop} (hc : c ∈ s.copies) : c.dig.size = 16 := by
 obtain ⟨h1, _⟩ := r.cop c hc
 cases hf : fileOf s.files c.dig with
 | none => rw [hf] at h1; cases h1
 | some f =>
   obtain ⟨h2, h3⟩ := find_mem hf
   rw [← eq_iff.1 h3]
   exact dig16 (r.dig f h2).1
theorem ahead_key {a b : Cop} (h : a.dig.size = b.dig.size) : ahead a b = lt (ckey a) (ckey b) := by
 unfold ahead ckey
 rw [lt_key h]
theorem cop_up {s : Sto} (r : Right s) : Up ckey s.copies := by
 unfold Up
 refine List.Pairwise.imp_of_mem (fun {a b} ha hb h => ?_) r.cup
 rwa [← ahead_key ((cop_dig r ha).trans (cop_dig r hb).symm)]
theorem hasCopy_key {s : Sto} (r : Right s) {d t : ByteArray} (hd : d.size = 16) : hasCopy s d t = hasK ckey s.copies (key d t) := by
 unfold hasCopy hasK
 rw [Bool.eq_iff_iff, List.any_eq_true, List.any_eq_true]
 constructor
 ·rintro ⟨c, hc, h⟩
  exact ⟨c, hc, by unfold ckey; rw [eq_key ((cop_dig r hc).trans hd.symm)]; exact h⟩
 ·rintro ⟨c, hc, h⟩
  refine ⟨c, hc, ?_⟩
  unfold ckey at h
  rwa [eq_key ((cop_dig r hc).trans hd.symm)] at h
theorem wth_same {α : Type} {key : α → ByteArray} {L : List α} (h : Up key L) {x : α} (hx : x ∈ L) : wth key x L = L := by
 refine up_ext (up_wth h x) h fun y => ?_
 rw [mem_wth h]
 constructor
 ·rintro (rfl | ⟨hy, _⟩)
  ·exact hx
  ·exact hy
 ·intro hy
  by_cases e : key y = key x
  ·exact .inl (h.one hy hx e)
  ·exact .inr ⟨hy, e⟩
theorem hasK_not {α : Type} {key : α → ByteArray} {L : List α} {k : ByteArray} (h : hasK key L k = false) (x : α) (hx : x ∈ L) : key x ≠ k := fun e => by rw [hasK_iff.2 ⟨x, hx, e⟩] at h; cases h
theorem wth_new {α : Type} {key : α → ByteArray} {L : List α} {x : α} (h : hasK key L (key x) = false) : wth key x L = L.take (pos key (key x) L) ++ x :: L.drop (pos key (key x) L) := by unfold wth; rw [if_neg (by rw [h]; decide)]
theorem wth_old {α : Type} {key : α → ByteArray} {L : List α} {x : α} (h : hasK key L (key x) = true) : wth key x L = L.set (pos key (key x) L) x := by unfold wth; rw [if_pos h]
theorem file_has {L : List Fil} {d : ByteArray} : (fileOf L d).isSome = hasK fdig L d := by
 rw [Bool.eq_iff_iff, hasK_iff]
 constructor
 ·intro h
  obtain ⟨f, hf⟩ := Option.isSome_iff_exists.1 h
  obtain ⟨h1, h2⟩ := find_mem hf
  exact ⟨f, h1, eq_iff.1 h2⟩
 ·rintro ⟨f, hf, hd⟩
  cases hg : fileOf L d with
  | some g => rfl
  | none =>
    unfold fileOf at hg
    rw [List.find?_eq_none] at hg
    exact absurd (eq_iff.2 hd) (hg f hf)
end St
namespace St
def goodAt (s : Sto) (d t : ByteArray) : Bool := match s.copies.find? (fun c => eq c.dig d && eq c.tier t) with | some c => c.good | none => false
def goodL (s : Sto) (d : ByteArray) : List Tir := s.tiers.filter fun t => goodAt s d t.name
def awayN (L : List Tir) : Nat := L.countP fun t => t.away
def short (s : Sto) (d : ByteArray) : Bool := decide (((goodL s d).length : Int) < s.least) || (awayN (goodL s d) == 0 && decide (0 < awayN s.tiers))
end St
end Go.Proofs.YthdiccdnggloiaaGreatDoor
