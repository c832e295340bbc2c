/- Parts of the proof, no condition: JoinLays, JoinC, CxPlc. -/
import Derived.Shelf.Strings.OnBuilder
import Derived.Test.YtimjmjmpaicdbaaGreatDoorProg
import Derived.Test.YtimjmjmpaicdbaaGreatDoorPc12
import Derived.Lib.Join
import Derived.Test.YtimjmjmpaicdbaaGreatDoorPc14
import Derived.Deep.AppendLies
import Derived.Deep.RegionHeld3
import Derived.Deep.DeepCutAuto
set_option maxRecDepth 100000
set_option maxHeartbeats 4000000
set_option linter.unusedSimpArgs false
set_option linter.unusedVariables false
namespace Go.Proofs.YtimjmjmpaicdbaaGreatDoor
open Go.Shelf
def Lay.joinS_ren : Go.Shelf.Ren := ⟨fun | 156 => 57 | 165 => 97 | 166 => 26 | 169 => 30 | 240 => 73 | 241 => 153 | 276 => 111 | 277 => 187 | n => n, fun | 31 => 83 | 9 => 9 | 3 => 3 | 4 => 4 | 0 => 0 | 20 => 20 | 72 => 64 | 76 => 67 | 70 => 61 | 37 => 62 | 75 => 66 | 127 => 117 | 164 => 156 | 5 => 5 | 80 => 74 | n => n, fun | n => n⟩
theorem Lay.joinS : Go.Proofs.Lays.n156 Tryz.prog Lay.joinS_ren := {
 mixed := by kernel_rfl
 f156 := Tryz.func57.trans (congrArg some (by kernel_rfl))
 f165 := Tryz.func97.trans (congrArg some (by kernel_rfl))
 f166 := Tryz.func26.trans (congrArg some (by kernel_rfl))
 f169 := Tryz.func30.trans (congrArg some (by kernel_rfl))
 f240 := Tryz.func73.trans (congrArg some (by kernel_rfl))
 f241 := Tryz.func153.trans (congrArg some (by kernel_rfl))
 f276 := Tryz.func111.trans (congrArg some (by kernel_rfl))
 f277 := Tryz.func187.trans (congrArg some (by kernel_rfl))
 t0 := Tryz.underlying0
 a0 := Tryz.isAgg0
 z0 := Tryz.sizeOf0
 v0 := Tryz.zeroValue0
 t3 := Tryz.underlying3
 a3 := Tryz.isAgg3
 z3 := Tryz.sizeOf3
 v3 := Tryz.zeroValue3
 t4 := Tryz.underlying4
 a4 := Tryz.isAgg4
 z4 := Tryz.sizeOf4
 v4 := Tryz.zeroValue4
 t9 := Tryz.underlying9
 a9 := Tryz.isAgg9
 z9 := Tryz.sizeOf9
 v9 := Tryz.zeroValue9
 t20 := Tryz.underlying20
 a20 := Tryz.isAgg20
 z20 := Tryz.sizeOf20
 v20 := Tryz.zeroValue20
 t31 := Tryz.underlying83
 a31 := Tryz.isAgg83
 z31 := Tryz.sizeOf83
 v31 := Tryz.zeroValue83
 t37 := Tryz.underlying62
 a37 := Tryz.isAgg62
 z37 := Tryz.sizeOf62
 v37 := Tryz.zeroValue62
 t70 := Tryz.underlying61
 a70 := Tryz.isAgg61
 z70 := Tryz.sizeOf61
 v70 := Tryz.zeroValue61
 t72 := Tryz.underlying64
 a72 := Tryz.isAgg64
 z72 := Tryz.sizeOf64
 v72 := Tryz.zeroValue64
 t75 := Tryz.underlying66
 a75 := Tryz.isAgg66
 z75 := Tryz.sizeOf66
 v75 := Tryz.zeroValue66
 t76 := Tryz.underlying67
 a76 := Tryz.isAgg67
 z76 := Tryz.sizeOf67
 v76 := Tryz.zeroValue67
 t127 := Tryz.underlying117
 a127 := Tryz.isAgg117
 z127 := Tryz.sizeOf117
 v127 := Tryz.zeroValue117
 t164 := Tryz.underlying156
 a164 := Tryz.isAgg156
 z164 := Tryz.sizeOf156
 v164 := Tryz.zeroValue156 }
end Go.Proofs.YtimjmjmpaicdbaaGreatDoor
namespace Go.Proofs.YtimjmjmpaicdbaaGreatDoor
open Go.RowKit Go.Sort Go.Shelf
theorem Lay.extJoin : Builder.Extra Tryz.prog Lay.joinS_ren := {
 sizeBuilder := by kernel_rfl
 liesBuilder := by kernel_rfl
 t5 := Tryz.underlying5
 a5 := Tryz.isAgg5
 z5 := Tryz.sizeOf5
 v5 := Tryz.zeroValue5
 infoByte := by kernel_rfl
 cellsByte := by kernel_rfl
 sizeByte := by kernel_rfl
 neB5 := by decide }
theorem join_is (xs : List (List UInt8)) (sep : List UInt8) (B : Nat) (v : Value) (n : Nat) (w : World) (h : w.ownsRow B 9 1 v n (xs.map strV)) (hn : n ≤ 1000000) (hlen : (Lib.join xs sep).length ≤ 100000000) :
  Calls Tryz.prog 57 #[v, .string (Tx.mk sep)] w fun e w' => e = .returned (.string (Tx.mk (Lib.join xs sep))) ∧ Below w.heap.size w w' := by
 have hl := h.1
 rw [List.length_map, Nat.mul_one] at hl
 rcases h.2 with ⟨rfl, h0⟩ | ⟨g, cap, cur, rfl, hg, hc, hk, hm, _⟩
 ·rw [h0] at hl
  obtain rfl : xs = [] := List.length_eq_zero_iff.1 hl
  exact (Any.strings_Join_none Lay.joinS Lay.extJoin none 0 (Tx.mk sep) w).mono fun e w' hh => ⟨hh.1, hh.2 ▸ Below.refl _ _⟩
 ·have hmap : (xs.map Tx.mk).map (fun x => x.data.toList) = xs := by
   rw [List.map_map]
   have : ((fun x : ByteArray => x.data.toList) ∘ Tx.mk) = id := by funext x; simp [Tx.mk]
   rw [this, List.map_id]
  have hxl : (xs.map Tx.mk).length = n := by rw [List.length_map]; exact hl
  have := Any.strings_Join Lay.joinS Lay.extJoin g 0 cap (xs.map Tx.mk) (Tx.mk sep) w (fun j x hj => by
   rw [List.getElem?_map] at hj
   obtain ⟨y, hy, rfl⟩ := Option.map_eq_some_iff.1 hj
   rw [Nat.zero_add, h.cellAt j (by have := (List.getElem?_eq_some_iff.1 hy).1; omega), List.getElem?_map, hy]; rfl) (h.lt g rfl).2 (by rw [hxl]; omega) (by rw [hxl]; exact hk) (by rw [hmap, Tx.mk_toList]; omega)
  rw [hxl, hmap, Tx.mk_toList] at this
  exact this
namespace Cx
def strs (lat lon : Nat → Int) : Nat → List (List UInt8)
 | 0 => []
 | n + 1 => strs lat lon n ++ [Lib.itoa (lat n), Lib.itoa (lon n)]
theorem strs_one (lat lon : Nat → Int) : Lib.join (strs lat lon 1) [32] = pl (lat 0) (lon 0) := by
 show Lib.join [Lib.itoa (lat 0), Lib.itoa (lon 0)] [32] = _
 rw [Lib.join_cons]; simp [Lib.joinTail, pl]
theorem strs_two (lat lon : Nat → Int) : Lib.join (strs lat lon 2) [32] = pl (lat 0) (lon 0) ++ [32] ++ pl (lat 1) (lon 1) := by
 show Lib.join [Lib.itoa (lat 0), Lib.itoa (lon 0), Lib.itoa (lat 1), Lib.itoa (lon 1)] [32] = _
 rw [Lib.join_cons]; simp [Lib.joinTail, pl]
end Cx
theorem own_heapC {w w' : World} {B : Nat} {e : TypeId} {k : Nat} {v : Value} {n : Nat} {xs : List Value} (h : w.ownsRow B e k v n xs) (e1 : w'.heap = w.heap) : w'.ownsRow B e k v n xs := by
 unfold World.ownsRow at h ⊢; rw [e1]; exact h
theorem own_keepC {w w' : World} {B : Nat} {e : TypeId} {k : Nat} {v : Value} {n : Nat} {xs : List Value} (h : w.ownsRow B e k v n xs) (hb : Below w.heap.size w w') : w'.ownsRow B e k v n xs :=
 h.kept (row := none) ⟨hb.os, hb.tape, hb.output, hb.size, fun k hk _ => hb.block k hk⟩ (by cases hv : v.ownBlock; exact .inl rfl; exact .inr (by simp))
theorem below_grownC {B : Nat} {a w w' : World} {v : Value} {n k : Nat} {e : TypeId} {xs : List Value} (h : Below B a w) (ho : w.ownsRow B e k v n xs) (hg : w.grownBy w' v.ownBlock) (hB : B ≤ w.heap.size) : Below B a w' := by
 refine h.trans ⟨hg.os, hg.tape, hg.output, hg.size, fun j hj => ?_⟩
 refine hg.block j (by omega) fun e2 => ?_
 have h1 := (ho.lt j e2.symm).1
 omega
theorem placeText_is (a : Option Addr) (n ca : Nat) (lat lon : Nat → Int) (w : World) (hr : Row2 w a n (fun i => .int .i64 (lat i)) (fun i => .int .i64 (lon i))) (hn : n ≤ 1000) (hp : ∀ k, k < n → (-90000000 ≤ lat k ∧ lat k ≤ 90000000) ∧ (-180000000 ≤ lon k ∧ lon k ≤ 180000000)) (ht : Tx.Tab w) (hlen : (Lib.join (Cx.strs lat lon n) [32]).length ≤ 100000000) :
  Calls Tryz.prog 60 #[.slice a n ca] w fun e w' => e = .returned (.string (Tx.mk (Lib.join (Cx.strs lat lon n) [32]))) ∧ Below w.heap.size w w' := by
 obtain ⟨i0, hi, hz0, hz1', hz2⟩ := info_parts infoStr
 have HI0 := Lib.hid hi; have HI1 := Lib.hid hz0; have HI2 := Lib.hid hz1'; have HI3 := Lib.hid hz2
 have HR := Lib.hid hr; have HP := Lib.hid hp; have HT := Lib.hid ht; have HLN := Lib.hid hlen
 clear hi hz0 hz1' hz2 hr hp ht hlen
 go_enter Tryz.func60, Tryz.ntmps60
 go_wp2_with fail
 go_loopg [3, 8] n (fun gk v i wr => ∃ j : Nat, j ≤ n ∧ gk = n - j ∧ i = .int .i64 j ∧ wr.ownsRow w.heap.size 9 1 v (2 * j) ((Cx.strs lat lon j).map strV) ∧ Below w.heap.size w wr)
 case atStart => exact ⟨0, by omega, rfl, rfl, World.ownsRow_nil _ _ _ _, Below.refl _ _⟩
 case round =>
  obtain ⟨j, hj, rfl, rfl, hown, hB⟩ := hrel
  by_cases hlt : j < n
  ·obtain ⟨b1, o1, ha1, hb1, hc1⟩ := HR.out.keep hB (by omega)
   have x0 : wr.cell? ⟨b1, o1 + j * 2, none⟩ = some (.int .i64 (lat j)) := (hc1 j hlt).1
   have x1 : wr.cell? ⟨b1, o1 + j * 2 + 1, none⟩ = some (.int .i64 (lon j)) := (hc1 j hlt).2
   obtain ⟨⟨p1, p2⟩, p3, p4⟩ := HP.out j hlt
   have htw := Tx.tab_below HT.out hB
   obtain ⟨W3, hW3, hX3, hz3, hB3⟩ := box wr #[.int .i64 (lat j), .int .i64 (lon j)] 112
   have HW3 := Lib.hid hW3
   obtain ⟨y0, y1⟩ := hX3.two
   have hB3d := hB3.drew
   have ht3 : Tx.Tab W3.drew := Tx.tab_below htw hB3d
   have hown3 := own_keepC hown hB3d
   have hB03 := below_up hB hB3d
   have z0 : W3.drew.cell? ⟨wr.heap.size, 0, none⟩ = some (.int .i64 (lat j)) := y0
   have z1 : W3.drew.cell? ⟨wr.heap.size, 1, none⟩ = some (.int .i64 (lon j)) := y1
   have HA := Lib.hid (fun V hV => itoaC (lat j) (by omega) V hV)
   have HO := Lib.hid (fun V hV => itoaC (lon j) (by omega) V hV)
   have hst : (Cx.strs lat lon (j + 1)).map strV = (Cx.strs lat lon j).map strV ++ [.string (Cx.num (lat j)), .string (Cx.num (lon j))] := by
    rw [Cx.strs, List.map_append]; rfl
   have HST := Lib.hid hst
   have hj0 : (0 : Int) ≤ (j : Int) := by omega
   have hj1 : (j : Int) < (n : Int) := by omega
   have hws := hB.size
   have HXO : Hid (some wr.heap.size ≠ u3.ownBlock) := Lib.hid (fun e => by have := (hown.lt _ e.symm).2; omega)
   generalize (Cx.strs lat lon j).map strV = XS at *
   generalize Cx.num (lat j) = A at *
   generalize Cx.num (lon j) = O at *
   generalize lat j = la at *
   generalize lon j = lo at *
   clear hst hc1 hW3
   rw [ha1]
   go_wp2_with fail
   rw [HW3.out]
   clear x0 x1
   go_region_held3 (fun w' => w'.cell? ⟨wr.heap.size, 0, none⟩ = some (.int .i64 la) ∧ w'.cell? ⟨wr.heap.size, 1, none⟩ = some (.int .i64 lo))
    (first | (with_reducible exact ⟨y0, y1⟩) | (with_reducible exact ⟨z0, z1⟩) | (with_reducible exact ⟨q0, q1⟩) | (with_reducible exact ⟨r0, r1⟩) | go_keep | (go_split_ands; refine ⟨?_, ?_⟩; (rw [hgrow8.cell_far _ (by simp; omega) HXO.out]; first | assumption | (rw [World.cell?_of_block (Below.heap_alloc _ _ _ (by simp; omega))]; assumption)); (rw [hgrow8.cell_far _ (by simp; omega) HXO.out]; first | assumption | (rw [World.cell?_of_block (Below.heap_alloc _ _ _ (by simp; omega))]; assumption))))
    (first
     | (go_at_call 28; first
       | ((with_reducible refine (HA.out _ ht3).mono ?_); rintro e w4 ⟨rfl, hB4⟩; have q0 := cell_below hB4 z0; have q1 := cell_below hB4 z1; have ht4 := Tx.tab_below ht3 hB4; have hown4 := own_keepC hown3 hB4; have hB04 := below_up hB03 hB4; have hs4 : W3.heap.size ≤ w4.heap.size := hB4.size)
       | ((with_reducible refine (HO.out _ ht3).mono ?_); rintro e w4 ⟨rfl, hB4⟩; have q0 := cell_below hB4 z0; have q1 := cell_below hB4 z1; have ht4 := Tx.tab_below ht3 hB4; have hown4 := own_keepC hown3 hB4; have hB04 := below_up hB03 hB4; have hs4 : W3.heap.size ≤ w4.heap.size := hB4.size)
       | ((with_reducible refine (HA.out _ ht4).mono ?_); rintro e w5 ⟨rfl, hB5⟩; have r0 := cell_below hB5 q0; have r1 := cell_below hB5 q1; have hown5 := own_keepC hown4 hB5; have hB05 := below_up hB04 hB5; have hs5 := hB05.size; have hs45 := hB5.size)
       | ((with_reducible refine (HO.out _ ht4).mono ?_); rintro e w5 ⟨rfl, hB5⟩; have r0 := cell_below hB5 q0; have r1 := cell_below hB5 q1; have hown5 := own_keepC hown4 hB5; have hB05 := below_up hB04 hB5; have hs5 := hB05.size; have hs45 := hB5.size))
     | (refine step_append_lies _ (by rfl) _ _ _ (by rfl) w.heap.size 9 i0 (.string ByteArray.empty) 1 16 Tryz.underlying83 HI0.out HI1.out HI2.out HI3.out rfl (by decide) _ (2 * j) XS (by rfl) (own_heapC (hown5.alloc (.cells #[.string A, .string O] 9)) rfl) _ 2 2 [.string A, .string O] (by rfl) (by rfl) (World.news_of_block (cs := #[.string A, .string O]) (t := 9) (fr := (0, 0)) (Blk.new w5 #[.string A, .string O] 9)) (by simp [Value.oneCell']) (by decide) (by unfold maxLen; omega) (by omega) (by simp; omega) _ rfl ?_; intro g8 cap8 w8 hown8 hgrow8 hor8 hlt8))
   all_goals
    have hBA := hB05.alloc hs5 (.cells #[.string A, .string O] 9)
    have HB8 := Lib.hid (below_grownC hBA (hown5.alloc (.cells #[.string A, .string O] 9)) hgrow8 (by simp; omega))
    have HO8 := Lib.hid hown8
    go_wp2_with fail
    rw [← ha1]
    go_roundg (n - (j + 1))
    case rel => exact ⟨j + 1, by omega, rfl, by go_num, by rw [HST.out]; exact HO8.out, HB8.out⟩
    case measure => omega
  ·obtain rfl : j = n := by omega
   have HJ := Lib.hid (join_is (Cx.strs lat lon j) [32] w.heap.size _ (2 * j) wr hown (by omega) HLN.out)
   go_wp2_with (go_at_call 57; refine HJ.out.mono ?_; rintro e w4 ⟨rfl, hB4⟩)
   go_ret
   exact ⟨rfl, below_up hB hB4⟩
end Go.Proofs.YtimjmjmpaicdbaaGreatDoor
