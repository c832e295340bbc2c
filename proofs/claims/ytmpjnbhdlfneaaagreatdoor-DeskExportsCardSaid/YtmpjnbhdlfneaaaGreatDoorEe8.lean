/- Parts of the proof, no condition: TxLays, TxTab, DaysMath, CxSmall, JoinLays, StrV, JoinC, FdMath, FdStr, FdStr2, FdStr3. -/
import Derived.Shelf.Strconv.Itoa3
import Derived.Test.YtmpjnbhdlfneaaaGreatDoorProg
import Derived.Test.YtmpjnbhdlfneaaaGreatDoorEe7
import Derived.Lib.LaidTab
import Derived.LaidMore
import Derived.Stop.LaidErr
import Derived.Shelf.Unicode.PredsPay
import Derived.Test.YtmpjnbhdlfneaaaGreatDoorEe1
import Derived.BigRegion
import Derived.Lib.QuietBelow
import Derived.Shelf.Strings.OnBuilder
import Derived.Lib.Join
import Derived.Test.YtmpjnbhdlfneaaaGreatDoorEe3
import Derived.Lib.Bytealg
import Derived.WalkLawsBesides
import Derived.Lib.ConvBytes
import Derived.Laws.Closers25
set_option maxRecDepth 100000
set_option maxHeartbeats 4000000
set_option linter.unusedSimpArgs false
set_option linter.unusedVariables false
namespace Go.Proofs.YtmpjnbhdlfneaaaGreatDoor
open Go.Shelf
def Lay.itoaM_ren : Go.Shelf.Ren := ⟨fun | 171 => 27 | 243 => 64 | 246 => 87 | 283 => 115 | 284 => 116 | 285 => 117 | 286 => 118 | 129 => 136 | 317 => 135 | 318 => 137 | 319 => 138 | 320 => 139 | 337 => 151 | 338 => 152 | n => n, fun | 3 => 3 | 9 => 9 | 2 => 2 | 4 => 4 | 171 => 145 | 0 => 0 | 53 => 146 | 37 => 34 | 5 => 5 | 173 => 149 | 212 => 166 | 51 => 114 | 20 => 20 | 213 => 167 | 46 => 129 | 232 => 213 | 233 => 214 | n => n, fun | 17 => 1 | 18 => 6 | 19 => 7 | n => n⟩
theorem Lay.itoaM : Go.Proofs.LaysM.n171 Tryz.prog Lay.itoaM_ren := {
 mixed := by kernel_rfl
 f129 := Tryz.func136.trans (congrArg some (by kernel_rfl))
 f171 := Tryz.func27.trans (congrArg some (by kernel_rfl))
 f243 := Tryz.func64.trans (congrArg some (by kernel_rfl))
 f246 := Tryz.func87.trans (congrArg some (by kernel_rfl))
 f283 := Tryz.func115.trans (congrArg some (by kernel_rfl))
 f284 := Tryz.func116.trans (congrArg some (by kernel_rfl))
 f285 := Tryz.func117.trans (congrArg some (by kernel_rfl))
 f286 := Tryz.func118.trans (congrArg some (by kernel_rfl))
 f317 := Tryz.func135.trans (congrArg some (by kernel_rfl))
 f318 := Tryz.func137.trans (congrArg some (by kernel_rfl))
 f319 := Tryz.func138.trans (congrArg some (by kernel_rfl))
 f320 := Tryz.func139.trans (congrArg some (by kernel_rfl))
 f337 := Tryz.func151.trans (congrArg some (by kernel_rfl))
 f338 := Tryz.func152.trans (congrArg some (by kernel_rfl))
 t0 := Tryz.underlying0
 a0 := Tryz.isAgg0
 z0 := Tryz.sizeOf0
 v0 := Tryz.zeroValue0
 t2 := Tryz.underlying2
 a2 := Tryz.isAgg2
 z2 := Tryz.sizeOf2
 v2 := Tryz.zeroValue2
 t3 := Tryz.underlying3
 a3 := Tryz.isAgg3
 z3 := Tryz.sizeOf3
 v3 := Tryz.zeroValue3
 t4 := Tryz.underlying4
 a4 := Tryz.isAgg4
 z4 := Tryz.sizeOf4
 v4 := Tryz.zeroValue4
 t5 := Tryz.underlying5
 a5 := Tryz.isAgg5
 z5 := Tryz.sizeOf5
 v5 := Tryz.zeroValue5
 t9 := Tryz.underlying9
 a9 := Tryz.isAgg9
 z9 := Tryz.sizeOf9
 v9 := Tryz.zeroValue9
 t20 := Tryz.underlying20
 a20 := Tryz.isAgg20
 z20 := Tryz.sizeOf20
 v20 := Tryz.zeroValue20
 t37 := Tryz.underlying34
 a37 := Tryz.isAgg34
 z37 := Tryz.sizeOf34
 v37 := Tryz.zeroValue34
 t46 := Tryz.underlying129
 a46 := Tryz.isAgg129
 z46 := Tryz.sizeOf129
 v46 := Tryz.zeroValue129
 t51 := Tryz.underlying114
 a51 := Tryz.isAgg114
 z51 := Tryz.sizeOf114
 v51 := Tryz.zeroValue114
 t53 := Tryz.underlying146
 a53 := Tryz.isAgg146
 z53 := Tryz.sizeOf146
 v53 := Tryz.zeroValue146
 t171 := Tryz.underlying145
 a171 := Tryz.isAgg145
 z171 := Tryz.sizeOf145
 v171 := Tryz.zeroValue145
 t173 := Tryz.underlying149
 a173 := Tryz.isAgg149
 z173 := Tryz.sizeOf149
 v173 := Tryz.zeroValue149
 t212 := Tryz.underlying166
 a212 := Tryz.isAgg166
 z212 := Tryz.sizeOf166
 v212 := Tryz.zeroValue166
 t213 := Tryz.underlying167
 a213 := Tryz.isAgg167
 z213 := Tryz.sizeOf167
 t232 := Tryz.underlying213
 a232 := Tryz.isAgg213
 z232 := Tryz.sizeOf213
 v232 := Tryz.zeroValue213
 t233 := Tryz.underlying214
 a233 := Tryz.isAgg214
 z233 := Tryz.sizeOf214
 v233 := Tryz.zeroValue214
 g17 := by kernel_rfl
 g18 := by kernel_rfl
 g19 := by kernel_rfl
 i0 := by kernel_rfl
 i2 := by kernel_rfl
 i3 := by kernel_rfl
 i4 := by kernel_rfl
 i5 := by kernel_rfl
 i9 := by kernel_rfl
 i20 := by kernel_rfl
 i37 := by kernel_rfl
 i46 := by kernel_rfl
 i51 := by kernel_rfl
 i53 := by kernel_rfl
 i171 := by kernel_rfl
 i173 := by kernel_rfl
 i212 := by kernel_rfl
 i232 := by kernel_rfl
 i233 := by kernel_rfl
 m17 := by kernel_rfl
 m18 := by kernel_rfl
 m19 := by kernel_rfl }
end Go.Proofs.YtmpjnbhdlfneaaaGreatDoor
namespace Go.Proofs.YtmpjnbhdlfneaaaGreatDoor
open Go.RowKit Go.Sort Go.Shelf
namespace Tx
abbrev Tab (w : World) : Prop := Lib.TabIs Tryz.prog w "internal/strconv.uint64pow10" .u64 Lib.pow10Tab
theorem tab_global : Tryz.prog.globalNamed "internal/strconv.uint64pow10" = some 1 := by kernel_rfl
theorem tab_below {w w' : World} (h : Tab w) (hb : Below w.heap.size w w') : Tab w' := TabIs_below tab_global h hb
theorem tab_of_laid {W : World} {x y : String × DataW Unit} {rest : List (String × DataW Unit)} (h : laidMet Tryz.prog (x :: y :: ("internal/strconv.uint64pow10", Lib.tabData .u64 Lib.pow10Tab) :: rest) W) : Tab W :=
 Lib.tabIs_of_head (t := 166) (e := 146) (n := 20) tab_global (by kernel_rfl) (by kernel_rfl) (by kernel_rfl) (by kernel_rfl) (by kernel_rfl) h.tail.tail
end Tx
theorem itoa_any (n : Int) (h0 : -9223372036854775808 ≤ n) (h1 : n ≤ 9223372036854775807) (w : World) (ht : Tx.Tab w) : Calls Tryz.prog 27 #[.int .i64 n] w fun e w' => e = .returned (.string ⟨(Lib.itoa n).toArray⟩) ∧ ∃ k os, w' = grow (w.drewN k) os := Any.strconv_Itoa Lay.itoaM n h0 h1 w ht
end Go.Proofs.YtmpjnbhdlfneaaaGreatDoor
namespace Go.Proofs.YtmpjnbhdlfneaaaGreatDoor.Cal
def leapB (y : Int) : Bool := y % 4 == 0 && (y % 100 != 0 || y % 400 == 0)
def lp (y : Int) : Int := if leapB y then 1 else 0
def len (y m : Int) : Int := if m = 2 then 28 + lp y else if m = 4 ∨ m = 6 ∨ m = 9 ∨ m = 11 then 30 else 31
def bef (y : Int) : Int := 365 * (y - 1900) + (y - 1) / 4 - 474 - (y - 1) / 100 + 18 + (y - 1) / 400 - 4
def cum (y m : Int) : Int := if m ≤ 1 then 0 else if m ≤ 2 then 31 else (if m ≤ 3 then 59 else if m ≤ 4 then 90 else if m ≤ 5 then 120 else if m ≤ 6 then 151 else if m ≤ 7 then 181 else if m ≤ 8 then 212 else if m ≤ 9 then 243 else if m ≤ 10 then 273 else if m ≤ 11 then 304 else if m ≤ 12 then 334 else 365) + lp y
def num (y m d : Int) : Int := bef y + cum y m + d - 1
end Go.Proofs.YtmpjnbhdlfneaaaGreatDoor.Cal
namespace Go.Proofs.YtmpjnbhdlfneaaaGreatDoor
open Go.RowKit Go.Sort Go.Shelf
namespace Cx
def num (n : Int) : ByteArray := Tx.mk (Lib.itoa n)
def plc (a o : Int) : ByteArray := num a ++ ⟨#[32]⟩ ++ num o
end Cx
theorem itoaC (n : Int) (h : -9223372036854775808 ≤ n ∧ n ≤ 9223372036854775807) (V : World) (ht : Tx.Tab V) : Calls Tryz.prog 27 #[.int .i64 n] V fun e w' => e = .returned (.string (Cx.num n)) ∧ Below V.heap.size V w' := by
 refine (itoa_any n h.1 h.2 V ht).mono ?_
 rintro e w' ⟨rfl, k, os, rfl⟩
 exact ⟨rfl, rfl, rfl, rfl, by simp [grow], fun j hj => by simp [grow, Array.getElem?_append, hj]⟩
theorem toldC (n : Int) (h : -1000000000000 ≤ n ∧ n ≤ 1000000000000) (V : World) : Calls Tryz.prog 39 #[.int .i64 n] V fun e w' => e = .returned (.string (Cx.num n)) ∧ Below V.heap.size V w' := told_any n h V
def Cx.escB (s : ByteArray) : ByteArray := Tx.mk (Rep.esc s.data.toList)
theorem Cx.escB_size {s : ByteArray} (hs : s.size ≤ 1000) : (Cx.escB s).size ≤ 2000 := by
 have h1 := Cx.esc_le s.data.toList
 have h2 : s.data.toList.length = s.size := rfl
 unfold Cx.escB
 rw [Tx.mk_size]; omega
theorem Cx.qt_escB (s : ByteArray) : Tx.mk (Cx.qt s.data.toList) = ⟨#[34]⟩ ++ Cx.escB s ++ ⟨#[34]⟩ := by
 unfold Cx.qt Cx.escB; rw [← Tx.mk_append, ← Tx.mk_append]
theorem replaceC_is (s : ByteArray) (hs : s.size ≤ 1000) (b o cp : Nat) (w : World) (hB : Blk w b #[.int .u32 0, .int .i32 0, .int .u32 0, .nilIface, .slice (some ⟨o, 0, none⟩) 4 cp] 126)
  (s0 : w.cell? ⟨o, 0, none⟩ = some (.string ⟨#[34]⟩)) (s1 : w.cell? ⟨o, 1, none⟩ = some (.string ⟨#[92, 34]⟩)) (s2 : w.cell? ⟨o, 2, none⟩ = some (.string ⟨#[92]⟩)) (s3 : w.cell? ⟨o, 3, none⟩ = some (.string ⟨#[92, 92]⟩)) (ho : o < w.heap.size) (hob : o ≠ b) :
  Calls Tryz.prog 66 #[.pointer (some ⟨b, 0, none⟩), .string s] w fun e w' => e = .returned (.string (Cx.escB s)) ∧ Below b w w' :=
 replace_is b o s w (by omega) hB s0 s1 s2 s3 ho hob
theorem quotedR_is (s : List UInt8) (hs : s.length ≤ 1000) (w : World) : Calls Tryz.prog 42 #[.string (Tx.mk s)] w fun e w' => e = .returned (.string (Tx.mk (Cx.qt s))) ∧ Below w.heap.size w w' := by
 have hsz : (Tx.mk s).size = s.length := Tx.mk_size s
 have HSZ := Lib.hid hsz
 obtain ⟨N, hN⟩ : ∃ N, s.length = N := ⟨_, rfl⟩
 have HN := Lib.hid hN
 rw [hN] at hsz hs
 have hidx : ∀ (j : Nat) (b : UInt8), s[j]? = some b → ∀ V, (Instr.index 9 (.string (Tx.mk s)) (.int .i64 (j : Int))).run Tryz.prog V = .ok (.int .u8 (b.toNat : Int)) V := fun j b hb V => strIdx s j b hb V
 have HIX := Lib.hid hidx
 have hext : ∀ (j : Nat) (b : UInt8), s[j]? = some b → (Tx.mk s).extract j (j + 1) = ⟨#[b]⟩ := by
  intro j b hb
  obtain ⟨hj, he⟩ := List.getElem?_eq_some_iff.1 hb
  apply ByteArray.ext
  rw [ByteArray.data_extract]
  apply Array.toList_inj.1
  rw [Array.toList_extract, List.extract_eq_take_drop]
  show List.take (j + 1 - j) (List.drop j s.toArray.toList) = [b]
  rw [List.toList_toArray, List.drop_eq_getElem_cons hj, he, show j + 1 - j = 1 by omega]; rfl
 have HEX := Lib.hid hext
 clear hidx hext hN
 generalize Tx.mk s = S at *
 go_enter Tryz.func42, Tryz.ntmps42
 go_wp2_with fail
 go_loopg [3, 7] N (fun gk x i wr => ∃ j : Nat, j ≤ N ∧ gk = N - j ∧ i = .int .i64 j ∧ x = .string (Tx.mk ([34] ++ Rep.esc (s.take j))) ∧ wr = w)
 case atStart => exact ⟨0, by omega, rfl, rfl, rfl, rfl⟩
 case round =>
  obtain ⟨j, hj, rfl, rfl, rfl, rfl⟩ := hrel
  have hel : (Rep.esc (s.take j)).length ≤ 2000 := by
   have h1 := Cx.esc_le (s.take j)
   rw [List.length_take] at h1; omega
  have hml : (Tx.mk ([34] ++ Rep.esc (s.take j))).size ≤ 2001 := by rw [Tx.mk_size]; simp; omega
  by_cases hlt : j < N
  ·obtain ⟨b, hb⟩ : ∃ b, s[j]? = some b := ⟨_, List.getElem?_eq_getElem (by rw [HN.out]; exact hlt)⟩
   have htk : s.take (j + 1) = s.take j ++ [b] := by rw [List.take_add_one, hb]; rfl
   have hix := HIX.out j b hb
   have hex := HEX.out j b hb
   have hsn : Tx.mk ([34] ++ Rep.esc (s.take (j + 1))) = if Rep.sp b = true then Tx.mk ([34] ++ Rep.esc (s.take j)) ++ ⟨#[92]⟩ ++ ⟨#[b]⟩ else Tx.mk ([34] ++ Rep.esc (s.take j)) ++ ⟨#[b]⟩ := by
    rw [htk, Rep.esc_snoc]
    split
    ·rw [show ([92, b] : List UInt8) = [92] ++ [b] from rfl, ← List.append_assoc, ← List.append_assoc, ← Tx.mk_append, ← Tx.mk_append]
    ·rw [← List.append_assoc, ← Tx.mk_append]
   have HSN := Lib.hid hsn
   have hj0 : (0 : Int) ≤ (j : Int) := by omega
   have hj1 : (j : Int) < (N : Int) := by omega
   have hb255 : b.toNat ≤ 255 := by have := b.toNat_lt; omega
   generalize Tx.mk ([34] ++ Rep.esc (s.take j)) = M at *
   clear hsn htk hb
   by_cases h34 : b = 34
   ·subst h34
    have HS2 : Hid (Tx.mk ([34] ++ Rep.esc (s.take (j + 1))) = M ++ ⟨#[92]⟩ ++ ⟨#[34]⟩) := Lib.hid (by rw [HSN.out, if_pos (by decide)])
    go_wp2_with fail
    go_roundg (N - (j + 1))
    case rel => exact ⟨j + 1, by omega, rfl, by go_num, by rw [HS2.out], rfl⟩
    case measure => omega
   ·by_cases h92 : b = 92
    ·subst h92
     have HS2 : Hid (Tx.mk ([34] ++ Rep.esc (s.take (j + 1))) = M ++ ⟨#[92]⟩ ++ ⟨#[92]⟩) := Lib.hid (by rw [HSN.out, if_pos (by decide)])
     go_wp2_with fail
     go_roundg (N - (j + 1))
     case rel => exact ⟨j + 1, by omega, rfl, by go_num, by rw [HS2.out], rfl⟩
     case measure => omega
    ·have hn1 : ¬ ((b.toNat : Int) = 34) := fun e => h34 (UInt8.toNat_inj.1 (by have : b.toNat = 34 := by omega
                                                                                rw [this]; rfl))
     have hn2 : ¬ ((b.toNat : Int) = 92) := fun e => h92 (UInt8.toNat_inj.1 (by have : b.toNat = 92 := by omega
                                                                                rw [this]; rfl))
     have HS2 : Hid (Tx.mk ([34] ++ Rep.esc (s.take (j + 1))) = M ++ ⟨#[b]⟩) := Lib.hid (by rw [HSN.out, if_neg (by unfold Rep.sp; simp [h34, h92])])
     have hn3 : ¬ (b.toNat = 34) := by omega
     have hq1 : ((b.toNat : Int) == 34) = false := beq_eq_false_iff_ne.2 hn1
     have hn4 : ¬ (b.toNat = 92) := by omega
     have hq2 : ((b.toNat : Int) == 92) = false := beq_eq_false_iff_ne.2 hn2
     clear h34 h92
     go_wp2_with fail
     go_roundg (N - (j + 1))
     case rel => exact ⟨j + 1, by omega, rfl, by go_num, by rw [HS2.out], rfl⟩
     case measure => omega
  ·obtain rfl : j = N := by omega
   have HQ : Hid (Tx.mk (Cx.qt s) = Tx.mk ([34] ++ Rep.esc (s.take j)) ++ ⟨#[34]⟩) := Lib.hid (by rw [← HN.out, List.take_length]; unfold Cx.qt; rw [← Tx.mk_append])
   generalize Tx.mk ([34] ++ Rep.esc (s.take j)) = M at *
   go_wp2_with fail
   go_ret
   exact ⟨by rw [HQ.out]; rfl, Below.refl _ _⟩
end Go.Proofs.YtmpjnbhdlfneaaaGreatDoor
namespace Go.Proofs.YtmpjnbhdlfneaaaGreatDoor
open Go.Shelf
def Lay.joinS_ren : Go.Shelf.Ren := ⟨fun | 156 => 31 | 165 => 67 | 166 => 12 | 169 => 15 | 240 => 26 | 241 => 90 | 276 => 63 | 277 => 122 | n => n, fun | 31 => 38 | 9 => 9 | 3 => 3 | 4 => 4 | 0 => 0 | 20 => 20 | 72 => 36 | 76 => 44 | 70 => 33 | 37 => 34 | 75 => 43 | 127 => 65 | 164 => 93 | 5 => 5 | 80 => 48 | n => n, fun | n => n⟩
theorem Lay.joinS : Go.Proofs.Lays.n156 Tryz.prog Lay.joinS_ren := {
 mixed := by kernel_rfl
 f156 := Tryz.func31.trans (congrArg some (by kernel_rfl))
 f165 := Tryz.func67.trans (congrArg some (by kernel_rfl))
 f166 := Tryz.func12.trans (congrArg some (by kernel_rfl))
 f169 := Tryz.func15.trans (congrArg some (by kernel_rfl))
 f240 := Tryz.func26.trans (congrArg some (by kernel_rfl))
 f241 := Tryz.func90.trans (congrArg some (by kernel_rfl))
 f276 := Tryz.func63.trans (congrArg some (by kernel_rfl))
 f277 := Tryz.func122.trans (congrArg some (by kernel_rfl))
 t0 := Tryz.underlying0
 a0 := Tryz.isAgg0
 z0 := Tryz.sizeOf0
 v0 := Tryz.zeroValue0
 t3 := Tryz.underlying3
 a3 := Tryz.isAgg3
 z3 := Tryz.sizeOf3
 v3 := Tryz.zeroValue3
 t4 := Tryz.underlying4
 a4 := Tryz.isAgg4
 z4 := Tryz.sizeOf4
 v4 := Tryz.zeroValue4
 t9 := Tryz.underlying9
 a9 := Tryz.isAgg9
 z9 := Tryz.sizeOf9
 v9 := Tryz.zeroValue9
 t20 := Tryz.underlying20
 a20 := Tryz.isAgg20
 z20 := Tryz.sizeOf20
 v20 := Tryz.zeroValue20
 t31 := Tryz.underlying38
 a31 := Tryz.isAgg38
 z31 := Tryz.sizeOf38
 v31 := Tryz.zeroValue38
 t37 := Tryz.underlying34
 a37 := Tryz.isAgg34
 z37 := Tryz.sizeOf34
 v37 := Tryz.zeroValue34
 t70 := Tryz.underlying33
 a70 := Tryz.isAgg33
 z70 := Tryz.sizeOf33
 v70 := Tryz.zeroValue33
 t72 := Tryz.underlying36
 a72 := Tryz.isAgg36
 z72 := Tryz.sizeOf36
 v72 := Tryz.zeroValue36
 t75 := Tryz.underlying43
 a75 := Tryz.isAgg43
 z75 := Tryz.sizeOf43
 v75 := Tryz.zeroValue43
 t76 := Tryz.underlying44
 a76 := Tryz.isAgg44
 z76 := Tryz.sizeOf44
 v76 := Tryz.zeroValue44
 t127 := Tryz.underlying65
 a127 := Tryz.isAgg65
 z127 := Tryz.sizeOf65
 v127 := Tryz.zeroValue65
 t164 := Tryz.underlying93
 a164 := Tryz.isAgg93
 z164 := Tryz.sizeOf93
 v164 := Tryz.zeroValue93 }
end Go.Proofs.YtmpjnbhdlfneaaaGreatDoor
namespace Go.Proofs.YtmpjnbhdlfneaaaGreatDoor
open Go.RowKit Go.Sort
theorem infoStr : (Tryz.prog.info? 9).map (fun i => (i.zero, i.size, i.bytes)) = some (some (.string ByteArray.empty), 1, 16) := by kernel_rfl
def strV (s : List UInt8) : Value := .string (Tx.mk s)
end Go.Proofs.YtmpjnbhdlfneaaaGreatDoor
namespace Go.Proofs.YtmpjnbhdlfneaaaGreatDoor
open Go.RowKit Go.Sort Go.Shelf
theorem Lay.extJoin : Builder.Extra Tryz.prog Lay.joinS_ren := {
 sizeBuilder := by kernel_rfl
 liesBuilder := by kernel_rfl
 t5 := Tryz.underlying5
 a5 := Tryz.isAgg5
 z5 := Tryz.sizeOf5
 v5 := Tryz.zeroValue5
 infoByte := by kernel_rfl
 cellsByte := by kernel_rfl
 sizeByte := by kernel_rfl
 neB5 := by decide }
theorem join_is (xs : List (List UInt8)) (sep : List UInt8) (B : Nat) (v : Value) (n : Nat) (w : World) (h : w.ownsRow B 9 1 v n (xs.map strV)) (hn : n ≤ 1000000) (hlen : (Lib.join xs sep).length ≤ 100000000) :
  Calls Tryz.prog 31 #[v, .string (Tx.mk sep)] w fun e w' => e = .returned (.string (Tx.mk (Lib.join xs sep))) ∧ Below w.heap.size w w' := by
 have hl := h.1
 rw [List.length_map, Nat.mul_one] at hl
 rcases h.2 with ⟨rfl, h0⟩ | ⟨g, cap, cur, rfl, hg, hc, hk, hm, _⟩
 ·rw [h0] at hl
  obtain rfl : xs = [] := List.length_eq_zero_iff.1 hl
  exact (Any.strings_Join_none Lay.joinS Lay.extJoin none 0 (Tx.mk sep) w).mono fun e w' hh => ⟨hh.1, hh.2 ▸ Below.refl _ _⟩
 ·have hmap : (xs.map Tx.mk).map (fun x => x.data.toList) = xs := by
   rw [List.map_map]
   have : ((fun x : ByteArray => x.data.toList) ∘ Tx.mk) = id := by funext x; simp
   rw [this, List.map_id]
  have hxl : (xs.map Tx.mk).length = n := by rw [List.length_map]; exact hl
  have := Any.strings_Join Lay.joinS Lay.extJoin g 0 cap (xs.map Tx.mk) (Tx.mk sep) w (fun j x hj => by
   rw [List.getElem?_map] at hj
   obtain ⟨y, hy, rfl⟩ := Option.map_eq_some_iff.1 hj
   rw [Nat.zero_add, h.cellAt j (by have := (List.getElem?_eq_some_iff.1 hy).1; omega), List.getElem?_map, hy]; rfl) (h.lt g rfl).2 (by rw [hxl]; omega) (by rw [hxl]; exact hk) (by rw [hmap, Tx.mk_toList]; omega)
  rw [hxl, hmap, Tx.mk_toList] at this
  exact this
end Go.Proofs.YtmpjnbhdlfneaaaGreatDoor
namespace Go.Proofs.YtmpjnbhdlfneaaaGreatDoor.Fd
def hexN (c : Nat) : Bool := decide (48 ≤ c ∧ c ≤ 57 ∨ 97 ≤ c ∧ c ≤ 102)
def letN (c : Nat) : Bool := decide (97 ≤ c ∧ c ≤ 122)
def tailN (c : Nat) : Bool := decide (97 ≤ c ∧ c ≤ 122 ∨ 48 ≤ c ∧ c ≤ 57 ∨ c = 45)
def nmN (i c : Nat) : Bool := if i = 0 then letN c else tailN c
theorem hexN_iff (c : Nat) : hexN c = true ↔ 48 ≤ c ∧ c ≤ 57 ∨ 97 ≤ c ∧ c ≤ 102 := by simp [hexN]
theorem letN_iff (c : Nat) : letN c = true ↔ 97 ≤ c ∧ c ≤ 122 := by simp [letN]
theorem tailN_iff (c : Nat) : tailN c = true ↔ 97 ≤ c ∧ c ≤ 122 ∨ 48 ≤ c ∧ c ≤ 57 ∨ c = 45 := by simp [tailN]
theorem nmN_zero (c : Nat) : nmN 0 c = letN c := rfl
theorem nmN_pos (i c : Nat) (h : i ≠ 0) : nmN i c = tailN c := by unfold nmN; rw [if_neg h]
theorem nmN_tail (i c : Nat) (h : nmN i c = true) : tailN c = true := by
 unfold nmN at h; split at h
 ·rw [letN_iff] at h; rw [tailN_iff]; omega
 ·exact h
def fileB (s : ByteArray) : Bool := decide (s.size = 16 ∧ ∀ i, (h : i < s.size) → hexN s[i].toNat = true)
def nameB (s : ByteArray) : Bool := decide ((1 ≤ s.size ∧ s.size ≤ 40) ∧ ∀ i, (h : i < s.size) → nmN i s[i].toNat = true)
def plainB (s : ByteArray) : Bool := decide (∀ i, (h : i < s.size) → 32 ≤ s[i].toNat)
theorem fileB_yes {s : ByteArray} (h : s.size = 16) (g : ∀ i, (h : i < s.size) → hexN s[i].toNat = true) : fileB s = true := decide_eq_true ⟨h, g⟩
theorem fileB_size {s : ByteArray} (h : s.size ≠ 16) : fileB s = false := decide_eq_false fun g => h g.1
theorem fileB_at {s : ByteArray} (i : Nat) (h : i < s.size) (g : hexN s[i].toNat = false) : fileB s = false := decide_eq_false fun k => by have := k.2 i h; rw [g] at this; cases this
theorem nameB_yes {s : ByteArray} (h : 1 ≤ s.size ∧ s.size ≤ 40) (g : ∀ i, (h : i < s.size) → nmN i s[i].toNat = true) : nameB s = true := decide_eq_true ⟨h, g⟩
theorem nameB_size {s : ByteArray} (h : ¬ (1 ≤ s.size ∧ s.size ≤ 40)) : nameB s = false := decide_eq_false fun g => h g.1
theorem nameB_at {s : ByteArray} (i : Nat) (h : i < s.size) (g : nmN i s[i].toNat = false) : nameB s = false := decide_eq_false fun k => by have := k.2 i h; rw [g] at this; cases this
theorem plainB_yes {s : ByteArray} (g : ∀ i, (h : i < s.size) → 32 ≤ s[i].toNat) : plainB s = true := decide_eq_true g
theorem plainB_at {s : ByteArray} (i : Nat) (h : i < s.size) (g : s[i].toNat < 32) : plainB s = false := decide_eq_false fun k => by have := k i h; omega
theorem upto_next {s : ByteArray} {P : Nat → Nat → Prop} {j : Nat} (h : ∀ i, (h : i < s.size) → i < j → P i s[i].toNat) (hj : j < s.size) (g : P j s[j].toNat) : ∀ i, (h : i < s.size) → i < j + 1 → P i s[i].toNat := by
 intro i hi hij
 by_cases e : i = j
 ·subst e; exact g
 ·exact h i hi (by omega)
end Go.Proofs.YtmpjnbhdlfneaaaGreatDoor.Fd
namespace Go.Proofs.YtmpjnbhdlfneaaaGreatDoor
open Go.RowKit Go.Sort Go.Shelf
theorem outsideF_yes (n lo hi : Int) (w : World) (h : n < lo ∨ hi < n) : Calls Tryz.prog 58 #[.int .i64 n, .int .i64 lo, .int .i64 hi] w fun e w' => e = .returned (.bool true) ∧ w = w' := by
 by_cases c : n < lo
 ·go_enter Tryz.func58, Tryz.ntmps58
  go_wp2
  go_ret
  exact ⟨rfl, rfl⟩
 ·have d : hi < n := by omega
  go_enter Tryz.func58, Tryz.ntmps58
  go_wp2
  go_ret
  exact ⟨rfl, rfl⟩
theorem outsideF_no (n lo hi : Int) (w : World) (h : lo ≤ n ∧ n ≤ hi) : Calls Tryz.prog 58 #[.int .i64 n, .int .i64 lo, .int .i64 hi] w fun e w' => e = .returned (.bool false) ∧ w = w' := by
 obtain ⟨h1, h2⟩ := h
 go_enter Tryz.func58, Tryz.ntmps58
 go_wp2
 go_ret
 exact ⟨ret_bool (by simp <;> omega), rfl⟩
theorem outsideF_is (n lo hi : Int) (b : Bool) (h : decide (lo ≤ n ∧ n ≤ hi) = b) (w : World) : Calls Tryz.prog 58 #[.int .i64 n, .int .i64 lo, .int .i64 hi] w fun e w' => e = .returned (.bool (!b)) ∧ w = w' := by
 cases b
 ·exact outsideF_yes _ _ _ _ (by rw [decide_eq_false_iff_not] at h; omega)
 ·exact outsideF_no _ _ _ _ (of_decide_eq_true h)
theorem in_is (n lo hi : Int) (b : Bool) (h : decide (lo ≤ n ∧ n ≤ hi) = b) (w : World) : Calls Tryz.prog 32 #[.int .i64 n, .int .i64 lo, .int .i64 hi] w fun e w' => e = .returned (.bool b) ∧ w = w' := by
 cases b
 ·rw [decide_eq_false_iff_not] at h
  by_cases c : lo ≤ n
  ·have d : hi < n := by omega
   clear h
   go_enter Tryz.func32, Tryz.ntmps32
   go_wp2
   go_ret
   exact ⟨ret_bool (by simp <;> omega), rfl⟩
  ·clear h
   go_enter Tryz.func32, Tryz.ntmps32
   go_wp2
   go_ret
   exact ⟨ret_bool (by simp <;> omega), rfl⟩
 ·obtain ⟨h1, h2⟩ := of_decide_eq_true h
  clear h
  go_enter Tryz.func32, Tryz.ntmps32
  go_wp2
  go_ret
  exact ⟨ret_bool (by simp <;> omega), rfl⟩
theorem isFile_is (s : ByteArray) (hs : s.size ≤ 9223372036854775807) (b : Bool) (h : Fd.fileB s = b) (w : World) : Calls Tryz.prog 59 #[.string s] w fun e w' => e = .returned (.bool b) ∧ w = w' := by
 by_cases hz : s.size = 16
 ·have hz1 : ((s.size : Int) == 16) = true := by simp; omega
  have hz2 : ((s.size : Int) != 16) = false := by simp; omega
  have HZ := Lib.hid hz; have HB := Lib.hid h; clear hz h
  go_enter Tryz.func59, Tryz.ntmps59
  go_wp2_with fail
  go_loopg [10] s.size (fun gk i wr => ∃ j : Nat, j ≤ s.size ∧ gk = s.size - j ∧ i = .int .i64 j ∧ (∀ i, (h : i < s.size) → i < j → Fd.hexN s[i].toNat = true) ∧ w = wr)
  case atStart => exact ⟨0, by omega, rfl, rfl, fun i _ hi => by omega, rfl⟩
  case round =>
   obtain ⟨j, hj, rfl, rfl, hall, rfl⟩ := hrel
   have HALL := Lib.hid hall; clear hall
   by_cases hlt : j < s.size
   ·by_cases hx : Fd.hexN s[j].toNat = true
    ·have HN := Lib.hid (Fd.upto_next (P := fun _ c => Fd.hexN c = true) HALL.out hlt hx)
     rcases (Fd.hexN_iff _).1 hx with ⟨h1, h2⟩ | ⟨h1, h2⟩
     ·have i1 : (48 : Int) ≤ (s[j].toNat : Int) := by omega
      have i2 : (s[j].toNat : Int) ≤ 57 := by omega
      clear hx h1 h2
      go_wp2_with fail
      go_roundg (s.size - (j + 1))
      case rel => exact ⟨j + 1, by omega, rfl, by go_num, HN.out, rfl⟩
      case measure => omega
     ·have i1 : (48 : Int) ≤ (s[j].toNat : Int) := by omega
      have i2 : ¬ (s[j].toNat : Int) ≤ 57 := by omega
      have i3 : (97 : Int) ≤ (s[j].toNat : Int) := by omega
      have i4 : (s[j].toNat : Int) ≤ 102 := by omega
      clear hx h1 h2
      go_wp2_with fail
      go_roundg (s.size - (j + 1))
      case rel => exact ⟨j + 1, by omega, rfl, by go_num, HN.out, rfl⟩
      case measure => omega
    ·have hx' : Fd.hexN s[j].toNat = false := by simpa using hx
     have HB2 : Hid (b = false) := by have h1 := HB.out; rw [Fd.fileB_at j hlt hx'] at h1; exact Lib.hid h1.symm
     rw [Fd.hexN_iff] at hx
     clear hx'
     by_cases i1 : (48 : Int) ≤ (s[j].toNat : Int)
     ·have i2 : ¬ (s[j].toNat : Int) ≤ 57 := by omega
      by_cases i3 : (97 : Int) ≤ (s[j].toNat : Int)
      ·have i4 : ¬ (s[j].toNat : Int) ≤ 102 := by omega
       clear hx
       go_wp2_with fail
       go_ret
       exact ⟨ret_bool HB2.out.symm, rfl⟩
      ·clear hx
       go_wp2_with fail
       go_ret
       exact ⟨ret_bool HB2.out.symm, rfl⟩
     ·have i3 : ¬ (97 : Int) ≤ (s[j].toNat : Int) := by omega
      clear hx
      go_wp2_with fail
      go_ret
      exact ⟨ret_bool HB2.out.symm, rfl⟩
   ·obtain rfl : j = s.size := by omega
    have HB2 : Hid (b = true) := by have h1 := HB.out; rw [Fd.fileB_yes HZ.out (fun i hi => HALL.out i hi hi)] at h1; exact Lib.hid h1.symm
    go_wp2_with fail
    go_ret
    exact ⟨ret_bool HB2.out.symm, rfl⟩
 ·have hz1 : ((s.size : Int) == 16) = false := by simp; omega
  have hz2 : ((s.size : Int) != 16) = true := by simp; omega
  rw [Fd.fileB_size hz] at h
  subst h
  clear hz
  go_enter Tryz.func59, Tryz.ntmps59
  go_wp2_with fail
  go_ret
  exact ⟨rfl, rfl⟩
theorem indexByteS (s : ByteArray) (c : Int) (w : World) : Calls Tryz.prog 68 #[.string s, .int .u8 c] w fun e w' => e = .returned (.int .i64 (Lib.indexByte s.data.toList c.toNat.toUInt8)) ∧ w = w' := by
 go_enter Tryz.func68, Tryz.ntmps68
 go_wp2
 rw [run_callFunc_extern Tryz.func123 (by kernel_rfl) (by kernel_rfl) (by kernel_rfl) (e := Extern.BytealgIndexByte.indexByte) (by kernel_rfl), Lib.run_indexByteString]
 simp only [Result.andThen]
 rw [Oper.upon_value]
 go_wp2
 go_ret
 exact ⟨rfl, rfl⟩
theorem hex_all : ∀ n, n < 256 → decide (Lib.indexByte [48, 49, 50, 51, 52, 53, 54, 55, 56, 57, 97, 98, 99, 100, 101, 102] n.toUInt8 < 0) = !Fd.hexN n := by decide +kernel
theorem hexIdx (c : UInt8) (b : Bool) (h : Fd.hexN c.toNat = b) (W : World) : Calls Tryz.prog 68 #[.string ⟨#[48, 49, 50, 51, 52, 53, 54, 55, 56, 57, 97, 98, 99, 100, 101, 102]⟩, .int .u8 c.toNat] W fun e w' => ∃ r : Int, e = .returned (.int .i64 r) ∧ decide (r < 0) = !b ∧ W = w' := by
 refine (indexByteS _ _ W).mono fun e w' h' => ⟨_, h'.1, ?_, h'.2⟩
 have := hex_all c.toNat c.toNat_lt
 rw [h] at this
 rw [Int.toNat_natCast]
 exact this
theorem isDigest_is (s : ByteArray) (hs : s.size ≤ 9223372036854775807) (b : Bool) (h : Fd.fileB s = b) (w : World) : Calls Tryz.prog 33 #[.string s] w fun e w' => e = .returned (.bool b) ∧ w = w' := by
 have HB := Lib.hid h; clear h
 go_enter Tryz.func33, Tryz.ntmps33
 go_wp2_with fail
 go_loopg [6] s.size (fun gk i wr => ∃ j : Nat, j ≤ s.size ∧ gk = s.size - j ∧ i = .int .i64 j ∧ (∀ i, (h : i < s.size) → i < j → Fd.hexN s[i].toNat = true) ∧ w = wr)
 case atStart => exact ⟨0, by omega, rfl, rfl, fun i _ hi => by omega, rfl⟩
 case round =>
  obtain ⟨j, hj, rfl, rfl, hall, rfl⟩ := hrel
  have HALL := Lib.hid hall; clear hall
  by_cases hlt : j < s.size
  ·by_cases hx : Fd.hexN s[j].toNat = true
   ·have HN := Lib.hid (Fd.upto_next (P := fun _ c => Fd.hexN c = true) HALL.out hlt hx)
    have HX := Lib.hid (fun W => hexIdx s[j] true hx W)
    clear hx
    go_wp2_with (go_at_call 68; refine (HX.out _).mono ?_; rintro e w' ⟨r, rfl, hr, rfl⟩; simp only [Bool.not_true] at hr; have hr2 : ¬ r < 0 := of_decide_eq_false hr)
    go_roundg (s.size - (j + 1))
    case rel => exact ⟨j + 1, by omega, rfl, by go_num, HN.out, rfl⟩
    case measure => omega
   ·have hx' : Fd.hexN s[j].toNat = false := by simpa using hx
    have HX := Lib.hid (fun W => hexIdx s[j] false hx' W)
    have HB2 : Hid (b = false) := by have h1 := HB.out; rw [Fd.fileB_at j hlt hx'] at h1; exact Lib.hid h1.symm
    clear hx'
    clear hx
    go_wp2_with (go_at_call 68; refine (HX.out _).mono ?_; rintro e w' ⟨r, rfl, hr, rfl⟩; simp only [Bool.not_false] at hr; have hr2 : r < 0 := of_decide_eq_true hr)
    go_ret
    exact ⟨ret_bool HB2.out.symm, rfl⟩
  ·obtain rfl : j = s.size := by omega
   by_cases hz : s.size = 16
   ·have hz1 : ((s.size : Int) == 16) = true := by simp; omega
    have HB2 : Hid (b = true) := by have h1 := HB.out; rw [Fd.fileB_yes hz (fun i hi => HALL.out i hi hi)] at h1; exact Lib.hid h1.symm
    have HZ := Lib.hid hz; clear hz
    go_wp2_with fail
    go_ret
    exact ⟨ret_bool HB2.out.symm, rfl⟩
   ·have hz1 : ((s.size : Int) == 16) = false := by simp; omega
    have HB2 : Hid (b = false) := by have h1 := HB.out; rw [Fd.fileB_size hz] at h1; exact Lib.hid h1.symm
    clear hz
    go_wp2_with fail
    go_ret
    exact ⟨ret_bool HB2.out.symm, rfl⟩
theorem plain_is (s : ByteArray) (hs : s.size ≤ 9223372036854775807) (b : Bool) (h : Fd.plainB s = b) (w : World) : Calls Tryz.prog 38 #[.string s] w fun e w' => e = .returned (.bool b) ∧ w = w' := by
 have HB := Lib.hid h; clear h
 go_enter Tryz.func38, Tryz.ntmps38
 go_wp2_with fail
 go_loopg [6] s.size (fun gk i wr => ∃ j : Nat, j ≤ s.size ∧ gk = s.size - j ∧ i = .int .i64 j ∧ (∀ i, (h : i < s.size) → i < j → 32 ≤ s[i].toNat) ∧ w = wr)
 case atStart => exact ⟨0, by omega, rfl, rfl, fun i _ hi => by omega, rfl⟩
 case round =>
  obtain ⟨j, hj, rfl, rfl, hall, rfl⟩ := hrel
  have HALL := Lib.hid hall; clear hall
  by_cases hlt : j < s.size
  ·by_cases hx : 32 ≤ s[j].toNat
   ·have HN := Lib.hid (Fd.upto_next (P := fun _ c => 32 ≤ c) HALL.out hlt hx)
    have i1 : ¬ (s[j].toNat : Int) < 32 := by omega
    clear hx
    go_wp2_with fail
    go_roundg (s.size - (j + 1))
    case rel => exact ⟨j + 1, by omega, rfl, by go_num, HN.out, rfl⟩
    case measure => omega
   ·have i1 : (s[j].toNat : Int) < 32 := by omega
    have HB2 : Hid (b = false) := by have h1 := HB.out; rw [Fd.plainB_at j hlt (by omega)] at h1; exact Lib.hid h1.symm
    clear hx
    go_wp2_with fail
    go_ret
    exact ⟨ret_bool HB2.out.symm, rfl⟩
  ·obtain rfl : j = s.size := by omega
   have HB2 : Hid (b = true) := by have h1 := HB.out; rw [Fd.plainB_yes (fun i hi => HALL.out i hi hi)] at h1; exact Lib.hid h1.symm
   go_wp2_with fail
   go_ret
   exact ⟨ret_bool HB2.out.symm, rfl⟩
theorem isNameR_is (s : ByteArray) (hs : s.size ≤ 9223372036854775807) (b : Bool) (h : Fd.nameB s = b) (w : World) : Calls Tryz.prog 37 #[.string s] w fun e w' => e = .returned (.bool b) ∧ w = w' := by
 have HB := Lib.hid h; clear h
 go_enter Tryz.func37, Tryz.ntmps37
 go_wp2_with fail
 go_loopg [6] s.size (fun gk i wr => ∃ j : Nat, j ≤ s.size ∧ gk = s.size - j ∧ i = .int .i64 j ∧ (∀ i, (h : i < s.size) → i < j → Fd.nmN i s[i].toNat = true) ∧ w = wr)
 case atStart => exact ⟨0, by omega, rfl, rfl, fun i _ hi => by omega, rfl⟩
 case round =>
  obtain ⟨j, hj, rfl, rfl, hall, rfl⟩ := hrel
  have HALL := Lib.hid hall; clear hall
  by_cases hlt : j < s.size
  ·by_cases hx : Fd.nmN j s[j].toNat = true
   ·have HN := Lib.hid (Fd.upto_next (P := fun i c => Fd.nmN i c = true) HALL.out hlt hx)
    have ht := (Fd.tailN_iff _).1 (Fd.nmN_tail _ _ hx)
    by_cases i1 : (97 : Int) ≤ (s[j].toNat : Int) ∧ (s[j].toNat : Int) ≤ 122
    ·obtain ⟨i1, i2⟩ := i1
     clear hx ht
     go_wp2_with fail
     go_roundg (s.size - (j + 1))
     case rel => exact ⟨j + 1, by omega, rfl, by go_num, HN.out, rfl⟩
     case measure => omega
    ·have hj0 : j ≠ 0 := by
      rintro rfl
      rw [Fd.nmN_zero, Fd.letN_iff] at hx; omega
     have hj1 : ((j : Int) == 0) = false := by simpa using hj0
     clear hx
     by_cases i3 : s[j].toNat = 45
     ·have i4 : ((s[j].toNat : Int) == 45) = true := by simp; omega
      have i5 : ((s[j].toNat : Int) != 45) = false := by simp; omega
      have i6 : (s[j].toNat : Int) < 97 := by omega
      clear i1 ht i3
      go_wp2_with fail
      go_roundg (s.size - (j + 1))
      case rel => exact ⟨j + 1, by omega, rfl, by go_num, HN.out, rfl⟩
      case measure => omega
     ·have i4 : ((s[j].toNat : Int) == 45) = false := by simp; omega
      have i5 : ((s[j].toNat : Int) != 45) = true := by simp; omega
      have i6 : (s[j].toNat : Int) < 97 := by omega
      have i7 : (48 : Int) ≤ (s[j].toNat : Int) := by omega
      have i8 : (s[j].toNat : Int) ≤ 57 := by omega
      clear i1 ht i3
      go_wp2_with fail
      go_roundg (s.size - (j + 1))
      case rel => exact ⟨j + 1, by omega, rfl, by go_num, HN.out, rfl⟩
      case measure => omega
   ·have hx' : Fd.nmN j s[j].toNat = false := by simpa using hx
    have HB2 : Hid (b = false) := by have h1 := HB.out; rw [Fd.nameB_at j hlt hx'] at h1; exact Lib.hid h1.symm
    by_cases hj0 : j = 0
    ·have hj1 : ((j : Int) == 0) = true := by simpa using hj0
     have hl : ¬ (97 ≤ s[j].toNat ∧ s[j].toNat ≤ 122) := by
      have hx2 := hx'
      unfold Fd.nmN at hx2; rw [if_pos hj0] at hx2
      rw [← Fd.letN_iff, hx2]; simp
     have HJ := Lib.hid hj0; clear hj0 hx'
     by_cases i1 : (s[j].toNat : Int) < 97
     ·clear hl
      clear hx
      go_wp2_with fail
      go_ret
      exact ⟨ret_bool HB2.out.symm, rfl⟩
     ·have i2 : (122 : Int) < (s[j].toNat : Int) := by omega
      clear hl
      clear hx
      go_wp2_with fail
      go_ret
      exact ⟨ret_bool HB2.out.symm, rfl⟩
    ·have hj1 : ((j : Int) == 0) = false := by simpa using hj0
     have hl : ¬ (97 ≤ s[j].toNat ∧ s[j].toNat ≤ 122 ∨ 48 ≤ s[j].toNat ∧ s[j].toNat ≤ 57 ∨ s[j].toNat = 45) := by rw [← Fd.tailN_iff]; rw [Fd.nmN_pos _ _ hj0] at hx'; rw [hx']; simp
     have i4 : ((s[j].toNat : Int) == 45) = false := by simp; omega
     have i5 : ((s[j].toNat : Int) != 45) = true := by simp; omega
     clear hx' hj0
     by_cases i1 : (s[j].toNat : Int) < 97
     ·by_cases i2 : (s[j].toNat : Int) < 48
      ·clear hl
       clear hx
       go_wp2_with fail
       go_ret
       exact ⟨ret_bool HB2.out.symm, rfl⟩
      ·have i3 : (57 : Int) < (s[j].toNat : Int) := by omega
       clear hl
       clear hx
       go_wp2_with fail
       go_ret
       exact ⟨ret_bool HB2.out.symm, rfl⟩
     ·have i2 : (122 : Int) < (s[j].toNat : Int) := by omega
      have i3 : (57 : Int) < (s[j].toNat : Int) := by omega
      have i6 : (48 : Int) ≤ (s[j].toNat : Int) := by omega
      clear hl
      clear hx
      go_wp2_with fail
      go_ret
      exact ⟨ret_bool HB2.out.symm, rfl⟩
  ·obtain rfl : j = s.size := by omega
   by_cases hz : 1 ≤ s.size ∧ s.size ≤ 40
   ·have HB2 : Hid (b = true) := by have h1 := HB.out; rw [Fd.nameB_yes hz (fun i hi => HALL.out i hi hi)] at h1; exact Lib.hid h1.symm
    obtain ⟨z1, z2⟩ := hz
    have z3 : (1 : Int) ≤ (s.size : Int) := by omega
    have z4 : (s.size : Int) ≤ 40 := by omega
    go_wp2_with fail
    go_ret
    exact ⟨ret_bool (by first | exact HB2.out.symm | (rw [HB2.out]; simp <;> omega)), rfl⟩
   ·have HB2 : Hid (b = false) := by have h1 := HB.out; rw [Fd.nameB_size hz] at h1; exact Lib.hid h1.symm
    by_cases z3 : (1 : Int) ≤ (s.size : Int)
    ·have z4 : (40 : Int) < (s.size : Int) := by omega
     clear hz
     go_wp2_with fail
     go_ret
     exact ⟨ret_bool (by first | exact HB2.out.symm | (rw [HB2.out]; simp <;> omega)), rfl⟩
    ·clear hz
     go_wp2_with fail
     go_ret
     exact ⟨ret_bool (by first | exact HB2.out.symm | (rw [HB2.out]; simp <;> omega)), rfl⟩
theorem strEmpty_no (s : ByteArray) (h : s.size ≠ 0) : s.toList.isEmpty = false := by
 rw [← decide_eq_emptyBytes]; exact decide_eq_false fun e => h (by rw [e]; rfl)
theorem strEmpty_yes (s : ByteArray) (h : s.size = 0) : s.toList.isEmpty = true := by
 rw [← decide_eq_emptyBytes]
 refine decide_eq_true ?_
 obtain ⟨d⟩ := s
 have : d = #[] := Array.eq_empty_of_size_eq_zero h
 subst this; rfl
theorem isNameW_is (s : ByteArray) (hs : s.size ≤ 9223372036854775807) (b : Bool) (h : Fd.nameB s = b) (w : World) : Calls Tryz.prog 84 #[.string s] w fun e w' => e = .returned (.bool b) ∧ w = w' := by
 have HB := Lib.hid h; clear h
 by_cases z0 : s.size = 0
 ·have HB2 : Hid (b = false) := by have h1 := HB.out; rw [Fd.nameB_size (by omega)] at h1; exact Lib.hid h1.symm
  have e1 := strEmpty_yes s z0
  have e2 : s.toList = [] := by simpa using e1
  have HZ := Lib.hid z0; clear z0
  go_enter Tryz.func84, Tryz.ntmps84
  go_wp2_with fail
  go_ret
  exact ⟨ret_bool (by first | exact HB2.out.symm | (rw [HB2.out]; simp)), rfl⟩
 ·have z1 : (0 : Int) < (s.size : Int) := by omega
  have z2 : 0 < s.size := by omega
  have e1 := strEmpty_no s z0
  have e2 : ¬ s.toList = [] := by simpa using e1
  clear z0
  by_cases z3 : (40 : Int) < (s.size : Int)
  ·have HB2 : Hid (b = false) := by have h1 := HB.out; rw [Fd.nameB_size (by omega)] at h1; exact Lib.hid h1.symm
   go_enter Tryz.func84, Tryz.ntmps84
   go_wp2_with fail
   go_ret
   exact ⟨ret_bool (by first | exact HB2.out.symm | (rw [HB2.out]; simp)), rfl⟩
  ·have hz : 1 ≤ s.size ∧ s.size ≤ 40 := by omega
   have HZ := Lib.hid hz; clear hz
   by_cases hl : Fd.letN (s[0]'z2).toNat = true
   ·have hl2 := (Fd.letN_iff _).1 hl
    have HL := Lib.hid hl
    have i1 : ¬ ((s[0]'z2).toNat : Int) < 97 := by omega
    have i2 : ¬ (122 : Int) < ((s[0]'z2).toNat : Int) := by omega
    clear hl hl2
    go_enter Tryz.func84, Tryz.ntmps84
    go_wp2_with fail
    clear i1 i2
    go_loopg [24] s.size (fun gk i wr => ∃ j : Nat, j ≤ s.size ∧ gk = s.size - j ∧ i = .int .i64 j ∧ (∀ i, (h : i < s.size) → i < j → Fd.nmN i s[i].toNat = true) ∧ w = wr)
    case atStart => exact ⟨0, by omega, rfl, rfl, fun i _ hi => by omega, rfl⟩
    case round =>
     obtain ⟨j, hj, rfl, rfl, hall, rfl⟩ := hrel
     have HALL := Lib.hid hall; clear hall
     by_cases hlt : j < s.size
     ·by_cases hx : Fd.tailN s[j].toNat = true
      ·have hnm : Fd.nmN j s[j].toNat = true := by
        by_cases e : j = 0
        ·subst e; exact HL.out
        ·rw [Fd.nmN_pos _ _ e]; exact hx
       have HN := Lib.hid (Fd.upto_next (P := fun i c => Fd.nmN i c = true) HALL.out hlt hnm)
       have ht := (Fd.tailN_iff _).1 hx
       clear hx hnm
       by_cases i1 : (97 : Int) ≤ (s[j].toNat : Int) ∧ (s[j].toNat : Int) ≤ 122
       ·obtain ⟨i1, i2⟩ := i1
        clear ht
        go_wp2_with fail
        go_roundg (s.size - (j + 1))
        case rel => exact ⟨j + 1, by omega, rfl, by go_num, HN.out, rfl⟩
        case measure => omega
       ·by_cases i3 : s[j].toNat = 45
        ·have i4 : ((s[j].toNat : Int) == 45) = true := by simp; omega
         have i6 : ¬ (97 : Int) ≤ (s[j].toNat : Int) := by omega
         have i7 : ¬ (48 : Int) ≤ (s[j].toNat : Int) := by omega
         clear i1 ht i3
         go_wp2_with fail
         go_roundg (s.size - (j + 1))
         case rel => exact ⟨j + 1, by omega, rfl, by go_num, HN.out, rfl⟩
         case measure => omega
        ·have i6 : ¬ (97 : Int) ≤ (s[j].toNat : Int) := by omega
         have i7 : (48 : Int) ≤ (s[j].toNat : Int) := by omega
         have i8 : (s[j].toNat : Int) ≤ 57 := by omega
         clear i1 ht i3
         go_wp2_with fail
         go_roundg (s.size - (j + 1))
         case rel => exact ⟨j + 1, by omega, rfl, by go_num, HN.out, rfl⟩
         case measure => omega
      ·have hx' : Fd.nmN j s[j].toNat = false := by
        cases hc : Fd.nmN j s[j].toNat
        ·rfl
        ·exact absurd (Fd.nmN_tail _ _ hc) hx
       have HB2 : Hid (b = false) := by have h1 := HB.out; rw [Fd.nameB_at j hlt hx'] at h1; exact Lib.hid h1.symm
       have ht : ¬ (97 ≤ s[j].toNat ∧ s[j].toNat ≤ 122 ∨ 48 ≤ s[j].toNat ∧ s[j].toNat ≤ 57 ∨ s[j].toNat = 45) := fun g => hx ((Fd.tailN_iff _).2 g)
       have i4 : ((s[j].toNat : Int) == 45) = false := by simp; omega
       clear hx hx'
       by_cases i1 : (97 : Int) ≤ (s[j].toNat : Int)
       ·have i2 : ¬ (s[j].toNat : Int) ≤ 122 := by omega
        have i3 : (48 : Int) ≤ (s[j].toNat : Int) := by omega
        have i5 : ¬ (s[j].toNat : Int) ≤ 57 := by omega
        clear ht
        go_wp2_with fail
        go_ret
        exact ⟨ret_bool HB2.out.symm, rfl⟩
       ·by_cases i3 : (48 : Int) ≤ (s[j].toNat : Int)
        ·have i5 : ¬ (s[j].toNat : Int) ≤ 57 := by omega
         clear ht
         go_wp2_with fail
         go_ret
         exact ⟨ret_bool HB2.out.symm, rfl⟩
        ·clear ht
         go_wp2_with fail
         go_ret
         exact ⟨ret_bool HB2.out.symm, rfl⟩
     ·obtain rfl : j = s.size := by omega
      have HB2 : Hid (b = true) := by have h1 := HB.out; rw [Fd.nameB_yes HZ.out (fun i hi => HALL.out i hi hi)] at h1; exact Lib.hid h1.symm
      go_wp2_with fail
      go_ret
      exact ⟨ret_bool HB2.out.symm, rfl⟩
   ·have HB2 : Hid (b = false) := by have h1 := HB.out; rw [Fd.nameB_at 0 z2 (by rw [Fd.nmN_zero]; simpa using hl)] at h1; exact Lib.hid h1.symm
    rw [Fd.letN_iff] at hl
    by_cases i1 : ((s[0]'z2).toNat : Int) < 97
    ·clear hl
     go_enter Tryz.func84, Tryz.ntmps84
     go_wp2_with fail
     go_ret
     exact ⟨ret_bool (by first | exact HB2.out.symm | (rw [HB2.out]; simp)), rfl⟩
    ·have i2 : (122 : Int) < ((s[0]'z2).toNat : Int) := by omega
     clear hl
     go_enter Tryz.func84, Tryz.ntmps84
     go_wp2_with fail
     go_ret
     exact ⟨ret_bool (by first | exact HB2.out.symm | (rw [HB2.out]; simp)), rfl⟩
theorem bytesWorld_below (w : World) (e : TypeId) (s : ByteArray) : Below w.heap.size w (Lib.bytesWorld w e s) := by
 refine ⟨rfl, rfl, rfl, by rw [Lib.bytesWorld_size]; omega, fun b hb => Lib.bytesWorld_at_old w e s b hb⟩
end Go.Proofs.YtmpjnbhdlfneaaaGreatDoor
