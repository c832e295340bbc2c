/- Parts of the proof, no condition: ExSmall, CxPlc, ExDig, ExMath, ExLine. -/
import Derived.Test.YtmpjnbhdlfneaaaGreatDoorEe8
import Derived.Test.YtmpjnbhdlfneaaaGreatDoorEe16
import Derived.Deep.AppendLies
import Derived.Deep.RegionHeld3
import Derived.Deep.DeepCutAuto
import Derived.Test.YtmpjnbhdlfneaaaGreatDoorEe4
set_option maxRecDepth 100000
set_option maxHeartbeats 4000000
set_option linter.unusedSimpArgs false
set_option linter.unusedVariables false
namespace Go.Proofs.YtmpjnbhdlfneaaaGreatDoor
open Go.RowKit Go.Sort Go.Shelf
def Ph.Room (p : Ph) : Prop := p.tn ≤ p.tc ∧ p.tc ≤ 9223372036854775807
namespace Ex
def lst (L : List (List UInt8)) : List UInt8 := if L.length = 0 then [45] else Lib.join L [44]
def plc (p : Ph) : List Int := if p.wn = 0 then [] else [p.lat 0, p.lon 0]
def who (p : Ph) : List Int := (List.range p.pn).map p.who
def tags (p : Ph) : List (List UInt8) := (List.range p.tn).map fun i => (p.tag i).data.toList
def head (p : Ph) : List (List UInt8) := [[112, 104, 111, 116, 111], Lib.itoa p.id, p.file.data.toList]
def six (p : Ph) : List Int := [p.mom, p.zone, p.W, p.H, p.turn, p.stars]
def seen (p : Ph) : List UInt8 := if p.hid = true then [104, 105, 100, 100, 101, 110] else [115, 104, 111, 119, 110]
def tail (p : Ph) : List (List UInt8) := [seen p, lst ((plc p).map Lib.itoa), lst ((who p).map Lib.itoa), lst (tags p), Cx.qt p.cap.data.toList]
def words (p : Ph) : List (List UInt8) := head p ++ (six p).map Lib.itoa ++ tail p
def line (p : Ph) : List UInt8 := Lib.join (words p) [32]
end Ex
def SR (w : World) (a : Option Addr) (L : List (List UInt8)) : Prop := Row w a L.length (fun i => .string (Tx.mk (L.getD i [])))
theorem SR.keep {w w' : World} {a : Option Addr} {L : List (List UInt8)} (h : SR w a L) (hb : Below w.heap.size w w') : SR w' a L := Row.keep h hb
theorem SR.of_own {w : World} {B g n cap : Nat} {L : List (List UInt8)} (h : w.ownsRow B 9 1 (.slice (some ⟨g, 0, none⟩) n cap) n (L.map strV)) : SR w (some ⟨g, 0, none⟩) L := by
 intro h0
 have hl := h.1
 rw [List.length_map, Nat.mul_one] at hl
 refine ⟨g, 0, rfl, (h.lt g rfl).2, fun i hi => ?_⟩
 rw [Nat.zero_add, h.cellAt i (by omega), List.getElem?_map, List.getElem?_eq_getElem hi]
 show _ = some (Value.string (Tx.mk (L.getD i [])))
 rw [List.getD_eq_getElem?_getD, List.getElem?_eq_getElem hi]; rfl
theorem joinSR_is (L : List (List UInt8)) (sep : List UInt8) (a : Option Addr) (cap : Nat) (w : World) (h : SR w a L) (hc : L.length ≤ cap) (hn : L.length ≤ 1000000) (hlen : (Lib.join L sep).length ≤ 100000000) :
  Calls Tryz.prog 31 #[.slice a L.length cap, .string (Tx.mk sep)] w fun e w' => e = .returned (.string (Tx.mk (Lib.join L sep))) ∧ Below w.heap.size w w' := by
 rcases Nat.eq_zero_or_pos L.length with h0 | h0
 ·obtain rfl : L = [] := List.length_eq_zero_iff.1 h0
  exact (Any.strings_Join_none Lay.joinS Lay.extJoin a cap (Tx.mk sep) w).mono fun e w' hh => ⟨hh.1, hh.2 ▸ Below.refl _ _⟩
 ·obtain ⟨b, off, rfl, hb, hcell⟩ := h h0
  have hmap : (L.map Tx.mk).map (fun x => x.data.toList) = L := by
   rw [List.map_map]
   have : ((fun x : ByteArray => x.data.toList) ∘ Tx.mk) = id := by funext x; simp
   rw [this, List.map_id]
  have hxl : (L.map Tx.mk).length = L.length := by rw [List.length_map]
  have := Any.strings_Join Lay.joinS Lay.extJoin b off cap (L.map Tx.mk) (Tx.mk sep) w (fun j x hj => by
   rw [List.getElem?_map] at hj
   obtain ⟨y, hy, rfl⟩ := Option.map_eq_some_iff.1 hj
   have hi := (List.getElem?_eq_some_iff.1 hy).1
   rw [hcell j hi]
   show some (Value.string (Tx.mk (L.getD j []))) = _
   rw [List.getD_eq_getElem?_getD, hy]; rfl) hb (by rw [hxl]; omega) (by rw [hxl]; exact hc) (by rw [hmap, Tx.mk_toList]; omega)
  rw [hxl, hmap, Tx.mk_toList] at this
  exact this
set_option maxHeartbeats 1000000 in
theorem list_is (L : List (List UInt8)) (a : Option Addr) (cap : Nat) (w : World) (h : SR w a L) (hc : L.length ≤ cap) (hn : L.length ≤ 1000) (hlen : (Lib.join L [44]).length ≤ 100000) :
  Calls Tryz.prog 29 #[.slice a L.length cap] w fun e w' => e = .returned (.string (Tx.mk (Ex.lst L))) ∧ Below w.heap.size w w' := by
 have HJ : Hid (Calls Tryz.prog 31 #[.slice a L.length cap, .string ⟨#[44]⟩] w fun e w' => e = .returned (.string (Tx.mk (Lib.join L [44]))) ∧ Below w.heap.size w w') := Lib.hid (joinSR_is L [44] a cap w h hc (by omega) (by omega))
 by_cases h0 : L.length = 0
 ·have hl : Ex.lst L = [45] := by unfold Ex.lst; rw [if_pos h0]
  rw [hl, h0]
  go_enter Tryz.func29, Tryz.ntmps29
  go_wp2_with fail
  go_ret
  exact ⟨rfl, Below.refl _ _⟩
 ·have hl : Ex.lst L = Lib.join L [44] := by unfold Ex.lst; rw [if_neg h0]
  rw [hl]
  generalize Tx.mk (Lib.join L [44]) = J at *
  obtain ⟨n, hn2⟩ : ∃ n, L.length = n := ⟨_, rfl⟩
  rw [hn2] at HJ h0 ⊢
  have h1 : ((n : Int) == 0) = false := by simp; omega
  have h2 : ¬ (n : Int) = 0 := by omega
  clear h hc hn hlen hl hn2
  go_enter Tryz.func29, Tryz.ntmps29
  go_wp2_with (go_at_call 31; (with_reducible refine HJ.out.mono ?_); rintro e w4 ⟨rfl, hB4⟩)
  go_ret
  exact ⟨rfl, hB4⟩
set_option maxHeartbeats 1000000 in
theorem listedR_is (L : List (List UInt8)) (a : Option Addr) (cap : Nat) (w : World) (h : SR w a L) (hc : L.length ≤ cap) (hn : L.length ≤ 1000) (hlen : (Lib.join L [44]).length ≤ 100000) :
  Calls Tryz.prog 41 #[.slice a L.length cap] w fun e w' => e = .returned (.string (Tx.mk (Ex.lst L))) ∧ Below w.heap.size w w' := by
 have HJ : Hid (Calls Tryz.prog 31 #[.slice a L.length cap, .string ⟨#[44]⟩] w fun e w' => e = .returned (.string (Tx.mk (Lib.join L [44]))) ∧ Below w.heap.size w w') := Lib.hid (joinSR_is L [44] a cap w h hc (by omega) (by omega))
 by_cases h0 : L.length = 0
 ·have hl : Ex.lst L = [45] := by unfold Ex.lst; rw [if_pos h0]
  rw [hl, h0]
  go_enter Tryz.func41, Tryz.ntmps41
  go_wp2_with fail
  go_ret
  exact ⟨rfl, Below.refl _ _⟩
 ·have hl : Ex.lst L = Lib.join L [44] := by unfold Ex.lst; rw [if_neg h0]
  rw [hl]
  generalize Tx.mk (Lib.join L [44]) = J at *
  obtain ⟨n, hn2⟩ : ∃ n, L.length = n := ⟨_, rfl⟩
  rw [hn2] at HJ h0 ⊢
  have h1 : ((n : Int) == 0) = false := by simp; omega
  have h2 : ¬ (n : Int) = 0 := by omega
  clear h hc hn hlen hl hn2
  go_enter Tryz.func41, Tryz.ntmps41
  go_wp2_with (go_at_call 31; (with_reducible refine HJ.out.mono ?_); rintro e w4 ⟨rfl, hB4⟩)
  go_ret
  exact ⟨rfl, hB4⟩
theorem eitherD_is (b : Bool) (x y : ByteArray) (w : World) : Calls Tryz.prog 40 #[.bool b, .string x, .string y] w fun e w' => e = .returned (.string (if b = true then x else y)) ∧ w = w' := by
 cases b
 ·go_enter Tryz.func40, Tryz.ntmps40
  go_wp2_with fail
  go_ret
  exact ⟨rfl, rfl⟩
 ·go_enter Tryz.func40, Tryz.ntmps40
  go_wp2_with fail
  go_ret
  exact ⟨rfl, rfl⟩
theorem quotedD_is (s : ByteArray) (hs : s.size ≤ 1000) (w : World) : Calls Tryz.prog 30 #[.string s] w fun e w' => e = .returned (.string (Tx.mk (Cx.qt s.data.toList))) ∧ Below w.heap.size w w' := by
 rw [Cx.qt_escB]
 obtain ⟨W1, hW1, hX1, hz1, hB1⟩ := box w #[.string ⟨#[34]⟩, .string ⟨#[92, 34]⟩, .string ⟨#[92]⟩, .string ⟨#[92, 92]⟩] 9
 have HW1 := Lib.hid hW1
 have s0 : W1.cell? ⟨w.heap.size, 0, none⟩ = some (.string ⟨#[34]⟩) := (hX1.cell 0).trans rfl
 have s1 : W1.cell? ⟨w.heap.size, 1, none⟩ = some (.string ⟨#[92, 34]⟩) := (hX1.cell 1).trans rfl
 have s2 : W1.cell? ⟨w.heap.size, 2, none⟩ = some (.string ⟨#[92]⟩) := (hX1.cell 2).trans rfl
 have s3 : W1.cell? ⟨w.heap.size, 3, none⟩ = some (.string ⟨#[92, 92]⟩) := (hX1.cell 3).trans rfl
 have HN := Lib.hid (newReplacer_is w.heap.size W1 s0 s1 s2 s3 hX1.lt)
 have hE := Cx.escB_size hs
 have HR := Lib.hid (replaceC_is s hs)
 have HB1 := Lib.hid hB1
 have HZ1 := Lib.hid hz1
 generalize Cx.escB s = E at *
 clear hW1 hX1 s0 s1 s2 s3 hB1 hz1
 go_enter Tryz.func30, Tryz.ntmps30
 go_wp2_with fail
 rw [HW1.out]
 go_wp2_with (first
  | (go_at_call 65; (with_reducible refine HN.out.mono ?_); rintro e w2 ⟨rfl, hB2, hlt2, cp2, hBk2, d0, d1, d2, d3⟩; have HR2 := Lib.hid (HR.out _ _ _ w2 hBk2 d0 d1 d2 d3 (by omega) (by omega)); have HB2 := Lib.hid hB2; clear hB2 hBk2 d0 d1 d2 d3)
  | (go_at_call 66; (with_reducible refine HR2.out.mono ?_); rintro e w3 ⟨rfl, hB3⟩))
 go_ret
 have hz1 := HZ1.out
 exact ⟨rfl, HB1.out.trans ((HB2.out.mono (by omega)).trans (hB3.mono (by omega)))⟩
namespace Cx
end Cx
theorem own_heapC {w w' : World} {B : Nat} {e : TypeId} {k : Nat} {v : Value} {n : Nat} {xs : List Value} (h : w.ownsRow B e k v n xs) (e1 : w'.heap = w.heap) : w'.ownsRow B e k v n xs := by
 unfold World.ownsRow at h ⊢; rw [e1]; exact h
theorem own_keepC {w w' : World} {B : Nat} {e : TypeId} {k : Nat} {v : Value} {n : Nat} {xs : List Value} (h : w.ownsRow B e k v n xs) (hb : Below w.heap.size w w') : w'.ownsRow B e k v n xs :=
 h.kept (row := none) ⟨hb.os, hb.tape, hb.output, hb.size, fun k hk _ => hb.block k hk⟩ (by cases hv : v.ownBlock; exact .inl rfl; exact .inr (by simp))
theorem below_grownC {B : Nat} {a w w' : World} {v : Value} {n k : Nat} {e : TypeId} {xs : List Value} (h : Below B a w) (ho : w.ownsRow B e k v n xs) (hg : w.grownBy w' v.ownBlock) (hB : B ≤ w.heap.size) : Below B a w' := by
 refine h.trans ⟨hg.os, hg.tape, hg.output, hg.size, fun j hj => ?_⟩
 refine hg.block j (by omega) fun e2 => ?_
 have h1 := (ho.lt j e2.symm).1
 omega
theorem list_appZ {ops : Array Oper} {rest : List Oper} {o : Oper} {a : Act} {V : World} {cs : Array Value} {Q : Exit → Act → World → Prop} (hgd : o.guard = none) (s x : Operand)
  (ho : o.op = .call { callee := .builtin .append, args := #[s, x], argTypes := #[38, 38] }) (base : Nat) (v : Value) (n : Nat) (xs : List Value) (hs : a.eval s = v) (hx : a.eval x = .slice (some ⟨V.heap.size, 0, none⟩) 1 1)
  (hown : V.ownsRow base 9 1 v n xs) (hn : n ≤ 1000000) (hb : base ≤ V.heap.size) (hcs : cs.toList.length = 1 * 1) (h1 : ∀ u ∈ cs.toList, u.oneCell' = true)
  (h : ∀ g cap w', w'.ownsRow base 9 1 (.slice (some ⟨g, 0, none⟩) (n + 1) cap) (n + 1) (xs ++ cs.toList) → (V.alloc (.cells cs 9)).grownBy w' v.ownBlock → wpList Tryz.prog ops Q rest (a.put o.dst (.slice (some ⟨g, 0, none⟩) (n + 1) cap)) w') :
  wpList Tryz.prog ops Q (o :: rest) a (V.alloc (.cells cs 9)) := by
 obtain ⟨i0, hi0, hi1, hi2, hi3⟩ := info_parts infoStr
 exact wpList_append_own2 _ hgd s x _ ho base 9 i0 (.string ByteArray.empty) 1 16 Tryz.underlying38 hi0 hi1 hi2 hi3 rfl (by decide) v n xs hs (hown.alloc _) ⟨V.heap.size, 0, none⟩ 1 1 cs.toList hx (by decide) hcs
  (World.news_of_block (cs := cs) (t := 9) (fr := (0, 0)) (Blk.new V cs 9)) h1 (by unfold maxLen; omega) (by omega) (by simp; omega) (fun g cap w' h1 h2 _ => h g cap w' h1 h2)
theorem own_formZ {w : World} {B n : Nat} {e : TypeId} {v : Value} {xs : List Value} (h : w.ownsRow B e 1 v n xs) : (v = .slice none 0 0 ∧ n = 0) ∨ ∃ g c, v = .slice (some ⟨g, 0, none⟩) n c ∧ n ≤ c ∧ c ≤ 9223372036854775807 := by
 rcases OwnV.of_own h with ⟨h1, h2, _⟩ | ⟨g, c, h1, h2⟩
 ·exact .inl ⟨h1, h2⟩
 ·obtain ⟨a, ca, e1, h3, h4⟩ := (OwnV.of_own h).form
  rw [h1] at e1
  injection e1 with e2 e3 e4
  subst e4
  exact .inr ⟨g, c, h1, h3, h4⟩
def SRPost (w : World) (L : List (List UInt8)) (e : Ending) (w' : World) : Prop := ∃ g c, e = .returned (.slice g L.length c) ∧ SR w' g L ∧ (L.length ≤ c ∧ c ≤ 9223372036854775807) ∧ Below w.heap.size w w'
theorem digits_is (v : List Int) (a : Option Addr) (cap : Nat) (w : World) (ht : Tx.Tab w) (hr : Row w a v.length (fun i => .int .i64 (v.getD i 0))) (hb : ∀ x ∈ v, -1000000000000 ≤ x ∧ x ≤ 1000000000000) (hn : v.length ≤ 1000) :
  Calls Tryz.prog 28 #[.slice a v.length cap] w (SRPost w (v.map Lib.itoa)) := by
 have HR := Lib.hid hr; have HB := Lib.hid hb; have HT := Lib.hid ht
 obtain ⟨n, hnn⟩ : ∃ n, v.length = n := ⟨_, rfl⟩
 have HN := Lib.hid hnn
 rw [hnn] at hn ⊢
 clear hr hb ht hnn
 go_enter Tryz.func28, Tryz.ntmps28
 go_wp2_with fail
 go_loopg [3, 8] n (fun gk s3 i wr => ∃ j : Nat, j ≤ n ∧ gk = n - j ∧ i = .int .i64 j ∧ wr.ownsRow w.heap.size 9 1 s3 j ((v.take j).map fun x => .string (Cx.num x)) ∧ Below w.heap.size w wr)
 case atStart => exact ⟨0, by omega, rfl, rfl, World.ownsRow_nil _ _ _ _, Below.refl _ _⟩
 case round =>
  obtain ⟨j, hj, rfl, rfl, hown, hB⟩ := hrel
  by_cases hlt : j < n
  ·obtain ⟨x, hx⟩ : ∃ x, v[j]? = some x := ⟨_, List.getElem?_eq_getElem (by rw [HN.out]; exact hlt)⟩
   obtain ⟨b1, o1, ha1, hb1, hc1⟩ := HR.out.keep hB (by rw [HN.out]; omega)
   have x0 : wr.cell? ⟨b1, o1 + j, none⟩ = some (.int .i64 x) := by
    rw [hc1 j (by rw [HN.out]; exact hlt)]
    show some (Value.int .i64 (v.getD j 0)) = _
    rw [List.getD_eq_getElem?_getD, hx]; rfl
   have hxb := HB.out x (List.mem_of_getElem? hx)
   have HI := Lib.hid (itoaC x (by omega) wr (Tx.tab_below HT.out hB))
   obtain ⟨XS, hXS⟩ : ∃ XS, ((v.take j).map fun x => Value.string (Cx.num x)) = XS := ⟨_, rfl⟩
   have HST : Hid (((v.take (j + 1)).map fun x => Value.string (Cx.num x)) = XS ++ [.string (Cx.num x)]) := Lib.hid (by rw [List.take_add_one, hx, List.map_append, hXS]; rfl)
   rw [hXS] at hown
   have HO := Lib.hid hown; have HBW := Lib.hid hB
   have hj0 : (0 : Int) ≤ (j : Int) := by omega
   have hj1 : (j : Int) < (n : Int) := by omega
   generalize Cx.num x = A at *
   clear hx hc1 hXS hown hxb hB
   rw [ha1]
   go_wp2_with (first
    | (go_at_call 27; (with_reducible refine HI.out.mono ?_); rintro e w4 ⟨rfl, hB4⟩; have hown4 := own_keepC HO.out hB4; have hB04 := below_up HBW.out hB4; have hs4 := hB04.size)
    | (at_builtin; refine list_appZ rfl _ _ rfl _ _ j XS (by rfl) (by rfl) hown4 (by omega) (by omega) (by rfl) (by simp [Value.oneCell']) ?_; intro g8 cap8 w8 hown8 hgrow8; have hB8 := below_grownC (below_allocs hB04 _) (hown4.alloc _) hgrow8 (by simp; omega)))
   rw [← ha1]
   go_roundg (n - (j + 1))
   case rel => exact ⟨j + 1, by omega, rfl, by go_num, by rw [HST.out]; exact hown8, hB8⟩
   case measure => omega
  ·obtain rfl : n = j := by omega
   have e0 : (v.take n).map (fun x => Value.string (Cx.num x)) = (v.map Lib.itoa).map strV := by
    rw [List.take_of_length_le (by rw [HN.out]; exact Nat.le_refl _), List.map_map]; rfl
   rw [e0] at hown
   have HO := Lib.hid hown
   have HL : Hid ((v.map Lib.itoa).length = n) := Lib.hid (by rw [List.length_map, HN.out])
   clear e0
   rcases own_formZ hown with ⟨rfl, h0⟩ | ⟨g, c, rfl, h1, h2⟩
   ·subst h0
    go_wp2_with fail
    go_ret
    refine ⟨none, 0, by rw [HL.out]; rfl, fun h => by rw [HL.out] at h; omega, ⟨by rw [HL.out]; omega, by omega⟩, hB⟩
   ·go_wp2_with fail
    go_ret
    exact ⟨some ⟨g, 0, none⟩, c, by rw [HL.out]; rfl, SR.of_own HO.out, ⟨by rw [HL.out]; exact h1, h2⟩, hB⟩
end Go.Proofs.YtmpjnbhdlfneaaaGreatDoor
namespace Go.Proofs.YtmpjnbhdlfneaaaGreatDoor
open Go.RowKit
theorem Fd.scan_allX {bad : Nat → Int} : ∀ (n i : Nat), Fd.scan bad i n = 0 → ∀ k, i ≤ k → k < i + n → bad k = 0
 | 0, i, _, k, h1, h2 => by omega
 | n + 1, i, h, k, h1, h2 => by
   rw [Fd.scan] at h
   split at h
   ·rename_i h0
    by_cases e : k = i
    ·rw [e]; exact h0
    ·exact Fd.scan_allX n (i + 1) h k (by omega) (by omega)
   ·rename_i h0; exact absurd h h0
structure Ex.Ok (p : Ph) : Prop where
 id : 1 ≤ p.id ∧ p.id ≤ 1000000
 file : p.file.size = 16
 mom : -1 ≤ p.mom ∧ p.mom ≤ 6311433599
 zone : -840 ≤ p.zone ∧ p.zone ≤ 840
 wn : p.wn ≤ 1
 plc : p.wn = 1 → (-90000000 ≤ p.lat 0 ∧ p.lat 0 ≤ 90000000) ∧ (-180000000 ≤ p.lon 0 ∧ p.lon 0 ≤ 179999999)
 shp : (1 ≤ p.W ∧ p.W ≤ 100000) ∧ (1 ≤ p.H ∧ p.H ≤ 100000) ∧ (1 ≤ p.turn ∧ p.turn ≤ 8) ∧ (0 ≤ p.stars ∧ p.stars ≤ 5)
 tn : p.tn ≤ 20
 tag : ∀ i, i < p.tn → Fd.nameB (p.tag i) = true
 cap : p.cap.size ≤ 200
 pn : p.pn ≤ 20
 who : ∀ i, i < p.pn → 1 ≤ p.who i ∧ p.who i ≤ 1000000
theorem Ex.ok_of {p : Ph} (h : p.err = 0) : Ex.Ok p := by
 unfold Ph.err at h
 split at h
 ·rename_i hid
  have hid := of_decide_eq_true hid
  split at h
  ·rename_i hf
   unfold Fd.fileB at hf
   have hf := of_decide_eq_true hf
   split at h
   ·rename_i hw
    unfold Fd.whenB at hw
    have hw := of_decide_eq_true hw
    split at h
    ·omega
    ·rename_i h1
     split at h
     ·omega
     ·rename_i h2
      split at h
      ·rename_i hs
       unfold Fd.shapeB at hs
       have hs := of_decide_eq_true hs
       unfold Ph.words at h
       split at h
       ·omega
       ·rename_i ht
        split at h
        ·rename_i hsc
         split at h
         ·omega
         ·rename_i hc
          split at h
          ·split at h
           ·omega
           ·rename_i hp
            refine ⟨hid, hf.1, hw.1, hw.2.1, by omega, fun e => ?_, hs, by omega, fun i hi => ?_, by omega, by omega, fun i hi => ?_⟩
            ·have h3 : Fd.placeB (p.lat 0) (p.lon 0) = true := by
              cases hb : Fd.placeB (p.lat 0) (p.lon 0) with
              | true => rfl
              | false => exact absurd ⟨e, hb⟩ h2
             unfold Fd.placeB at h3
             exact of_decide_eq_true h3
            ·have g := Fd.scan_allX _ 0 hsc i (by omega) (by omega)
             unfold Fd.tbad at g
             split at g
             ·assumption
             ·cases g
            ·have g := Fd.scan_allX _ 0 h i (by omega) (by omega)
             unfold Fd.pbad at g
             split at g
             ·assumption
             ·cases g
          ·omega
        ·rename_i hne; exact absurd h hne
      ·omega
   ·omega
  ·omega
 ·omega
namespace Ex
theorem tag_size {p : Ph} (k : Ok p) {i : Nat} (hi : i < p.tn) : 1 ≤ (p.tag i).size ∧ (p.tag i).size ≤ 40 := by
 have h := k.tag i hi
 unfold Fd.nameB at h
 exact (of_decide_eq_true h).1
theorem join_le (L : List (List UInt8)) (c : UInt8) (k : Nat) (h : ∀ x ∈ L, x.length ≤ k) : (Lib.join L [c]).length ≤ L.length * (k + 1) := by
 cases L with
 | nil => simp [Lib.join_nil]
 | cons x r =>
   rw [Lib.join_length]
   have hl : ∀ r : List (List UInt8), (∀ y ∈ r, y.length ≤ k) → Lib.lens r ≤ r.length * k := by
    intro r
    induction r with
    | nil => intro _; simp [Lib.lens]
    | cons y r ih =>
      intro hr
      have h1 := ih fun z hz => hr z (by simp [hz])
      have h2 := hr y (by simp)
      simp only [Lib.lens, List.map_cons, List.sum_cons, List.length_cons, Nat.add_mul] at h1 ⊢
      omega
   have h3 := hl (x :: r) h
   simp only [List.length_cons, List.length_nil, Nat.add_mul, Nat.mul_add] at h3 ⊢
   omega
theorem lst_le {L : List (List UInt8)} {n k : Nat} (hn : L.length ≤ n) (h : ∀ x ∈ L, x.length ≤ k) : (Lib.join L [44]).length ≤ n * (k + 1) ∧ (lst L).length ≤ n * (k + 1) + 1 := by
 have h1 := join_le L 44 k h
 have h2 : L.length * (k + 1) ≤ n * (k + 1) := Nat.mul_le_mul_right _ hn
 refine ⟨by omega, ?_⟩
 unfold lst
 split
 ·simp
 ·omega
theorem num_le {x : Int} (h : -180000000 ≤ x ∧ x ≤ 6311433599) : (Lib.itoa x).length ≤ 21 := Cx.itoa_len h
theorem plc_len (p : Ph) : (plc p).length ≤ 2 := by unfold plc; split <;> simp
theorem plc_bd {p : Ph} (k : Ok p) : ∀ x ∈ plc p, -180000000 ≤ x ∧ x ≤ 180000000 := by
 intro x hx
 unfold plc at hx
 split at hx
 ·cases hx
 ·have h1 : p.wn = 1 := by have := k.wn; omega
  have := k.plc h1
  simp at hx
  rcases hx with rfl | rfl <;> omega
theorem who_len (p : Ph) : (who p).length = p.pn := by unfold who; simp
theorem who_bd {p : Ph} (k : Ok p) : ∀ x ∈ who p, 1 ≤ x ∧ x ≤ 1000000 := by
 intro x hx
 unfold who at hx
 obtain ⟨i, hi, rfl⟩ := List.mem_map.1 hx
 exact k.who i (List.mem_range.1 hi)
theorem tags_len (p : Ph) : (tags p).length = p.tn := by unfold tags; simp
theorem tags_bd {p : Ph} (k : Ok p) : ∀ x ∈ tags p, x.length ≤ 40 := by
 intro x hx
 unfold tags at hx
 obtain ⟨i, hi, rfl⟩ := List.mem_map.1 hx
 have := (tag_size k (List.mem_range.1 hi)).2
 show (p.tag i).size ≤ 40
 exact this
theorem six_bd {p : Ph} (k : Ok p) : ∀ x ∈ six p, -180000000 ≤ x ∧ x ≤ 6311433599 := by
 intro x hx
 have h1 := k.mom; have h2 := k.zone; have h3 := k.shp
 unfold six at hx
 simp at hx
 rcases hx with rfl | rfl | rfl | rfl | rfl | rfl <;> omega
theorem map_le {L : List Int} {k : Nat} (h : ∀ x ∈ L, -180000000 ≤ x ∧ x ≤ 6311433599) : ∀ y ∈ L.map Lib.itoa, y.length ≤ 21 := by
 intro y hy
 obtain ⟨x, hx, rfl⟩ := List.mem_map.1 hy
 exact num_le (h x hx)
theorem seen_le (p : Ph) : (seen p).length ≤ 6 := by unfold seen; split <;> simp
theorem qt_le {s : List UInt8} {n : Nat} (h : s.length ≤ n) : (Cx.qt s).length ≤ 2 * n + 2 := by
 have := Cx.esc_le s
 unfold Cx.qt
 simp; omega
theorem words_le {p : Ph} (k : Ok p) : ∀ x ∈ words p, x.length ≤ 900 := by
 intro x hx
 unfold words at hx
 rcases List.mem_append.1 hx with hx | hx
 ·rcases List.mem_append.1 hx with hx | hx
  ·unfold head at hx
   simp only [List.mem_cons, List.not_mem_nil, or_false] at hx
   rcases hx with rfl | rfl | rfl
   ·simp
   ·have := num_le (x := p.id) (by have := k.id; omega); omega
   ·have : p.file.data.toList.length = p.file.size := rfl
    have := k.file; omega
  ·have := map_le (k := 0) (six_bd k) x hx; omega
 ·unfold tail at hx
  simp only [List.mem_cons, List.not_mem_nil, or_false] at hx
  rcases hx with rfl | rfl | rfl | rfl | rfl
  ·have := seen_le p; omega
  ·have := (lst_le (n := 2) (k := 21) (by rw [List.length_map]; exact plc_len p) (map_le (k := 0) (fun y hy => by have := plc_bd k y hy; omega))).2; omega
  ·have := (lst_le (n := 20) (k := 21) (by rw [List.length_map, who_len]; exact k.pn) (map_le (k := 0) (fun y hy => by have := who_bd k y hy; omega))).2; omega
  ·have := (lst_le (n := 20) (k := 40) (by rw [tags_len]; exact k.tn) (tags_bd k)).2; omega
  ·have h1 : p.cap.data.toList.length = p.cap.size := rfl
   have := qt_le (s := p.cap.data.toList) (n := 200) (by have := k.cap; omega); omega
theorem words_len (p : Ph) : (words p).length = 14 := by unfold words head six tail; simp
theorem line_le {p : Ph} (k : Ok p) : (line p).length ≤ 12614 := by
 unfold line
 have := join_le (words p) 32 900 (words_le k)
 rw [words_len] at this
 omega
end Ex
end Go.Proofs.YtmpjnbhdlfneaaaGreatDoor
namespace Go.Proofs.YtmpjnbhdlfneaaaGreatDoor
open Go.RowKit Go.Sort Go.Shelf
theorem infoIntZ : (Tryz.prog.info? 3).map (fun i => (i.zero, i.size, i.bytes)) = some (some (.int .i64 0), 1, 8) := by kernel_rfl
theorem list_appI2 {ops : Array Oper} {rest : List Oper} {o : Oper} {a : Act} {V : World} {cs : Array Value} {Q : Exit → Act → World → Prop} (hgd : o.guard = none) (s x : Operand)
  (ho : o.op = .call { callee := .builtin .append, args := #[s, x], argTypes := #[39, 39] }) (base : Nat) (v : Value) (n : Nat) (xs : List Value) (hs : a.eval s = v) (hx : a.eval x = .slice (some ⟨V.heap.size, 0, none⟩) 2 2)
  (hown : V.ownsRow base 3 1 v n xs) (hn : n ≤ 1000000) (hb : base ≤ V.heap.size) (hcs : cs.toList.length = 2 * 1) (h1 : ∀ u ∈ cs.toList, u.oneCell' = true)
  (h : ∀ g cap w', w'.ownsRow base 3 1 (.slice (some ⟨g, 0, none⟩) (n + 2) cap) (n + 2) (xs ++ cs.toList) → (V.alloc (.cells cs 3)).grownBy w' v.ownBlock → wpList Tryz.prog ops Q rest (a.put o.dst (.slice (some ⟨g, 0, none⟩) (n + 2) cap)) w') :
  wpList Tryz.prog ops Q (o :: rest) a (V.alloc (.cells cs 3)) := by
 obtain ⟨i0, hi0, hi1, hi2, hi3⟩ := info_parts infoIntZ
 exact wpList_append_own2 _ hgd s x _ ho base 3 i0 (.int .i64 0) 1 8 Tryz.underlying39 hi0 hi1 hi2 hi3 rfl (by decide) v n xs hs (hown.alloc _) ⟨V.heap.size, 0, none⟩ 2 2 cs.toList hx (by decide) hcs
  (World.news_of_block (cs := cs) (t := 3) (fr := (0, 0)) (Blk.new V cs 3)) h1 (by unfold maxLen; omega) (by omega) (by simp; omega) (fun g cap w' h1 h2 _ => h g cap w' h1 h2)
namespace Ex
def fl (lat lon : Nat → Int) : Nat → List Int
 | 0 => []
 | n + 1 => fl lat lon n ++ [lat n, lon n]
theorem fl_len (lat lon : Nat → Int) : ∀ n, (fl lat lon n).length = 2 * n
 | 0 => rfl
 | n + 1 => by rw [fl, List.length_append, fl_len lat lon n]; rfl
theorem fl_plc {p : Ph} (h : p.wn ≤ 1) : fl p.lat p.lon p.wn = plc p := by
 unfold plc
 rcases Nat.eq_zero_or_pos p.wn with h0 | h0
 ·rw [if_pos h0, h0]; rfl
 ·have h1 : p.wn = 1 := by omega
  rw [if_neg (by omega), h1]; rfl
end Ex
theorem own_rowInt {w : World} {B n : Nat} {v : Value} {L : List Int} (h : w.ownsRow B 3 1 v n (L.map (Value.int .i64))) : ∃ g c, v = .slice g n c ∧ Row w g L.length (fun i => .int .i64 (L.getD i 0)) := by
 have hl := h.1
 rw [List.length_map, Nat.mul_one] at hl
 rcases own_formZ h with ⟨rfl, rfl⟩ | ⟨g, c, rfl, h1, h2⟩
 ·exact ⟨none, 0, rfl, fun h => by omega⟩
 ·refine ⟨some ⟨g, 0, none⟩, c, rfl, fun h0 => ⟨g, 0, rfl, (h.lt g rfl).2, fun i hi => ?_⟩⟩
  rw [Nat.zero_add, h.cellAt i (by omega), List.getElem?_map, List.getElem?_eq_getElem hi]
  show _ = some (Value.int .i64 (L.getD i 0))
  rw [List.getD_eq_getElem?_getD, List.getElem?_eq_getElem hi]; rfl
theorem Ex.tags_sr {p : Ph} {w : World} (h : p.In w) : SR w p.ta (Ex.tags p) := by
 unfold SR
 rw [Ex.tags_len]
 intro h0
 obtain ⟨b, o, e1, e2, e3⟩ := h.tags h0
 refine ⟨b, o, e1, e2, fun i hi => ?_⟩
 rw [e3 i hi]
 show _ = some (Value.string (Tx.mk ((Ex.tags p).getD i [])))
 unfold Ex.tags
 rw [List.getD_eq_getElem?_getD, List.getElem?_map, List.getElem?_range hi]; rfl
theorem rowSix (p : Ph) (V : World) (g : Nat) (hg : g = V.heap.size) : Row (V.alloc (.cells #[.int .i64 p.mom, .int .i64 p.zone, .int .i64 p.W, .int .i64 p.H, .int .i64 p.turn, .int .i64 p.stars] 3)) (some ⟨g, 0, none⟩) (Ex.six p).length (fun i => .int .i64 ((Ex.six p).getD i 0)) := by
 subst hg
 intro _
 refine ⟨V.heap.size, 0, rfl, by simp, fun i hi => ?_⟩
 rw [Nat.zero_add, (Blk.new V _ _).cell]
 have hi : i < 6 := hi
 have : i = 0 ∨ i = 1 ∨ i = 2 ∨ i = 3 ∨ i = 4 ∨ i = 5 := by omega
 rcases this with rfl | rfl | rfl | rfl | rfl | rfl <;> rfl
theorem news_sr {w : World} {b o : Nat} {L : List (List UInt8)} (h : ∀ i, i < L.length → w.cell? ⟨b, o + i, none⟩ = some ((fun i => Value.string (Tx.mk (L.getD i []))) i)) : ∀ j u, (L.map strV)[j]? = some u → w.cell? ((⟨b, o, none⟩ : Addr).add j) = some u := by
 intro j u hu
 rw [List.getElem?_map] at hu
 obtain ⟨x, hx, rfl⟩ := Option.map_eq_some_iff.1 hu
 have hj := (List.getElem?_eq_some_iff.1 hx).1
 have e : (⟨b, o, none⟩ : Addr).add j = ⟨b, o + j, none⟩ := by unfold Addr.add; split <;> simp_all
 rw [e, h j hj]
 show some (Value.string (Tx.mk (L.getD j []))) = _
 rw [List.getD_eq_getElem?_getD, hx]; rfl
end Go.Proofs.YtmpjnbhdlfneaaaGreatDoor
