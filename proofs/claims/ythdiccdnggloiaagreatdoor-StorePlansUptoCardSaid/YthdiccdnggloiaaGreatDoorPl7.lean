/- Parts of the proof, no condition: StGd, StApp, StText, StTextB, StGd2, StChp, StMkb, StEvM, StInsC, StIns4, StMem. -/
import Derived.Test.YthdiccdnggloiaaGreatDoorPl5
import Derived.Test.YthdiccdnggloiaaGreatDoorPl6
import Derived.Deep.RegionHeld3
import Derived.Deep.AppendLies
import Derived.Test.YthdiccdnggloiaaGreatDoorPl3
import Derived.Lib.Join
import Derived.Lib.ItoaLen
import Derived.Test.YthdiccdnggloiaaGreatDoorPl2
import Derived.Lib.Overlaps
import Derived.Lib.AppendZerosOnto
set_option maxRecDepth 100000
set_option maxHeartbeats 8000000
set_option linter.unusedSimpArgs false
set_option linter.unusedVariables false
namespace Go.Proofs.YthdiccdnggloiaaGreatDoor
open Go.RowKit Go.Sort Go.Shelf Go.Maps
theorem Blk.eight {w : World} {b : Nat} {t : TypeId} {x0 x1 x2 x3 x4 x5 x6 x7 : Value} (h : Blk w b #[x0, x1, x2, x3, x4, x5, x6, x7] t) : w.cell? ⟨b, 0, none⟩ = some x0 ∧ w.cell? ⟨b, 1, none⟩ = some x1 ∧ w.cell? ⟨b, 2, none⟩ = some x2 ∧ w.cell? ⟨b, 3, none⟩ = some x3 ∧ w.cell? ⟨b, 4, none⟩ = some x4 ∧ w.cell? ⟨b, 5, none⟩ = some x5 ∧ w.cell? ⟨b, 6, none⟩ = some x6 ∧ w.cell? ⟨b, 7, none⟩ = some x7 :=
 ⟨by rw [h.cell]; rfl, by rw [h.cell]; rfl, by rw [h.cell]; rfl, by rw [h.cell]; rfl, by rw [h.cell]; rfl, by rw [h.cell]; rfl, by rw [h.cell]; rfl, by rw [h.cell]; rfl⟩
theorem grown_self (w : World) (b : Nat) : w.grownBy w (some b) := ⟨rfl, rfl, rfl, Nat.le_refl _, fun _ _ _ => rfl⟩
theorem grown_set {w w' : World} {b : Nat} (h : w.grownBy w' (some b)) (i : Nat) (v : Value) : w.grownBy (w'.setCell ⟨b, i, none⟩ v) (some b) :=
 ⟨h.os, h.tape, h.output, by have := h.size; simp; omega, fun k hk hne => (Below.heap_setCell w' _ v k (by intro e; exact hne (by rw [e]))).trans (h.block k hk hne)⟩
theorem infoView : (Tryz.prog.info? 135).map (·.size) = some 8 := by kernel_rfl
theorem look_is (s : Sto) (a : StA) (w : World) (hI : StIn w s a) (hn500 : s.files.length ≤ 500) :
  Calls Tryz.prog 93 #[.agg #[.int .i64 s.least, .int .i64 s.wait, .slice a.ta s.tiers.length a.tc, .slice a.fa s.files.length a.fc, .slice a.ca s.copies.length a.cc, .slice a.ha s.held.length a.hc, .slice a.ba s.bin.length a.bc]] w fun e w' => ∃ mb, e = .returned (.agg #[.int .i64 s.least, .int .i64 s.wait, .slice a.ta s.tiers.length a.tc, .slice a.fa s.files.length a.fc, .slice a.ca s.copies.length a.cc, .slice a.ha s.held.length a.hc, .slice a.ba s.bin.length a.bc, .map (some mb)]) ∧ w.heap.size ≤ mb ∧ FMap w' mb s.files ∧ Below w.heap.size w w' := by
 obtain ⟨W1, hW1, hP, hz1, hB1⟩ := box w #[.int .i64 s.least, .int .i64 s.wait, .slice a.ta s.tiers.length a.tc, .slice a.fa s.files.length a.fc, .slice a.ca s.copies.length a.cc, .slice a.ha s.held.length a.hc, .slice a.ba s.bin.length a.bc] 28
 obtain ⟨W2, hW2, hQ, hz2, hB2⟩ := box W1 #[.int .i64 0, .int .i64 0, .slice none 0 0, .slice none 0 0, .slice none 0 0, .slice none 0 0, .slice none 0 0, .map none] 135
 have HW1 := Lib.hid hW1; have HW2 := Lib.hid hW2
 have hP := hP.keep hB2
 rw [hz1] at hQ hz2
 have hB := below_up hB1 hB2
 have HB := Lib.hid hB
 have HP := Lib.hid hP; have HQ := Lib.hid hQ
 have HC := Lib.hid (byDigest_is s a W2.drew (hI.keep hB.drew) hn500)
 obtain ⟨d0, d1, d2, d3, d4, d5, d6⟩ := hP.drew.seven
 have hv : Below W2.heap.size W2 W2.drew := (Below.refl _ _).drew
 have hs2 : w.heap.size + 2 ≤ W2.heap.size := by omega
 clear hI hW1 hW2 hz1 hz2 hB1 hB2 hB hP hQ
 go_enter Tryz.func93, Tryz.ntmps93
 go_upto_region 1 with fail
 rw [HW1.out, HW2.out]
 go_region_held3 (fun w' => w'.cell? ⟨w.heap.size, 0, none⟩ = some (.int .i64 s.least) ∧ w'.cell? ⟨w.heap.size, 1, none⟩ = some (.int .i64 s.wait) ∧ w'.cell? ⟨w.heap.size, 2, none⟩ = some (.slice a.ta s.tiers.length a.tc) ∧ w'.cell? ⟨w.heap.size, 3, none⟩ = some (.slice a.fa s.files.length a.fc) ∧ w'.cell? ⟨w.heap.size, 4, none⟩ = some (.slice a.ca s.copies.length a.cc) ∧ w'.cell? ⟨w.heap.size, 5, none⟩ = some (.slice a.ha s.held.length a.hc) ∧ w'.cell? ⟨w.heap.size, 6, none⟩ = some (.slice a.ba s.bin.length a.bc))
  (first | (with_reducible exact ⟨d0, d1, d2, d3, d4, d5, d6⟩) | go_keep)
  (first
   | (go_at_call 98; (with_reducible refine HC.out.mono ?_); rintro e w3 ⟨mb, rfl, hmb, hM, hq⟩; have hv := below_up hv hq; obtain ⟨d0, d1, d2, d3, d4, d5, d6⟩ := (HP.out.keep hv).seven; obtain ⟨z0, z1, z2, z3, z4, z5, z6, z7⟩ := (HQ.out.keep hv).eight; have zf := (HQ.out.keep hv).free)
   | fail)
 have hZ := (((((((((HQ.out.keep hv).set 0 (.int .i64 s.least)).set 1 (.int .i64 s.wait)).set 2 (.slice a.ta s.tiers.length a.tc)).set 3 (.slice a.fa s.files.length a.fc)).set 4 (.slice a.ca s.copies.length a.cc)).set 5 (.slice a.ha s.held.length a.hc)).set 6 (.slice a.ba s.bin.length a.bc)).set 7 (.map (some mb)))
 have hBz := (((((((((below_up HB.out hv).setCell (p := ⟨w.heap.size + 1, 0, none⟩) (by simp) (.int .i64 s.least)).setCell (p := ⟨w.heap.size + 1, 1, none⟩) (by simp) (.int .i64 s.wait)).setCell (p := ⟨w.heap.size + 1, 2, none⟩) (by simp) (.slice a.ta s.tiers.length a.tc)).setCell (p := ⟨w.heap.size + 1, 3, none⟩) (by simp) (.slice a.fa s.files.length a.fc)).setCell (p := ⟨w.heap.size + 1, 4, none⟩) (by simp) (.slice a.ca s.copies.length a.cc)).setCell (p := ⟨w.heap.size + 1, 5, none⟩) (by simp) (.slice a.ha s.held.length a.hc)).setCell (p := ⟨w.heap.size + 1, 6, none⟩) (by simp) (.slice a.ba s.bin.length a.bc)).setCell (p := ⟨w.heap.size + 1, 7, none⟩) (by simp) (.map (some mb)))
 have hGz := (grown_set (grown_set (grown_set (grown_set (grown_set (grown_set (grown_set (grown_set (grown_self w3 (w.heap.size + 1)) 0 (.int .i64 s.least)) 1 (.int .i64 s.wait)) 2 (.slice a.ta s.tiers.length a.tc)) 3 (.slice a.fa s.files.length a.fc)) 4 (.slice a.ca s.copies.length a.cc)) 5 (.slice a.ha s.held.length a.hc)) 6 (.slice a.ba s.bin.length a.bc)) 7 (.map (some mb)))
 obtain ⟨V, hV⟩ : ∃ V, ((((((((w3.setCell ⟨w.heap.size + 1, 0, none⟩ (.int .i64 s.least)).setCell ⟨w.heap.size + 1, 1, none⟩ (.int .i64 s.wait)).setCell ⟨w.heap.size + 1, 2, none⟩ (.slice a.ta s.tiers.length a.tc)).setCell ⟨w.heap.size + 1, 3, none⟩ (.slice a.fa s.files.length a.fc)).setCell ⟨w.heap.size + 1, 4, none⟩ (.slice a.ca s.copies.length a.cc)).setCell ⟨w.heap.size + 1, 5, none⟩ (.slice a.ha s.held.length a.hc)).setCell ⟨w.heap.size + 1, 6, none⟩ (.slice a.ba s.bin.length a.bc)).setCell ⟨w.heap.size + 1, 7, none⟩ (.map (some mb))) = V := ⟨_, rfl⟩
 rw [hV] at hZ hBz hGz ⊢
 have hZ : Blk V (w.heap.size + 1) #[.int .i64 s.least, .int .i64 s.wait, .slice a.ta s.tiers.length a.tc, .slice a.fa s.files.length a.fc, .slice a.ca s.copies.length a.cc, .slice a.ha s.held.length a.hc, .slice a.ba s.bin.length a.bc, .map (some mb)] 135 := hZ
 obtain ⟨g0, g1, g2, g3, g4, g5, g6, g7⟩ := hZ.eight
 have hmb2 : W2.heap.size ≤ mb := hmb
 go_wp2_with fail
 refine bodyPost_ret (v := .agg #[.int .i64 s.least, .int .i64 s.wait, .slice a.ta s.tiers.length a.tc, .slice a.fa s.files.length a.fc, .slice a.ca s.copies.length a.cc, .slice a.ha s.held.length a.hc, .slice a.ba s.bin.length a.bc, .map (some mb)]) (by simp [results, Tryz.results93, go_sem, g0, g1, g2, g3, g4, g5, g6, g7]) rfl ⟨mb, rfl, by omega, hM.kept hGz (by simp; omega), hBz⟩
theorem own_keepE {w w' : World} {B : Nat} {e : TypeId} {k : Nat} {v : Value} {n : Nat} {xs : List Value} (h : w.ownsRow B e k v n xs) (hb : Below w.heap.size w w') : w'.ownsRow B e k v n xs :=
 h.kept (row := none) ⟨hb.os, hb.tape, hb.output, hb.size, fun k hk _ => hb.block k hk⟩ (by cases hv : v.ownBlock; exact .inl rfl; exact .inr (by simp))
theorem below_grownE {B : Nat} {a w w' : World} {v : Value} {n k : Nat} {e : TypeId} {xs : List Value} (h : Below B a w) (ho : w.ownsRow B e k v n xs) (hg : w.grownBy w' v.ownBlock) (hB : B ≤ w.heap.size) : Below B a w' := by
 refine h.trans ⟨hg.os, hg.tape, hg.output, hg.size, fun j hj => ?_⟩
 refine hg.block j (by omega) fun e2 => ?_
 have h1 := (ho.lt j e2.symm).1
 omega

theorem list_appT {ops : Array Oper} {rest : List Oper} {o : Oper} {a : Act} {V : World} {cs : Array Value} {Q : Exit → Act → World → Prop} (hgd : o.guard = none) (s x : Operand)
  (ho : o.op = .call { callee := .builtin .append, args := #[s, x], argTypes := #[22, 22] }) (base : Nat) (v : Value) (n : Nat) (xs : List Value) (hs : a.eval s = v) (hx : a.eval x = .slice (some ⟨V.heap.size, 0, none⟩) 1 1)
  (hown : V.ownsRow base 46 4 v n xs) (hn : n ≤ 1000000) (hb : base ≤ V.heap.size) (hcs : cs.toList.length = 1 * 4) (h1 : ∀ u ∈ cs.toList, u.oneCell' = true)
  (h : ∀ g cap w', w'.ownsRow base 46 4 (.slice (some ⟨g, 0, none⟩) (n + 1) cap) (n + 1) (xs ++ cs.toList) → (V.alloc (.cells cs 46)).grownBy w' v.ownBlock → wpList Tryz.prog ops Q rest (a.put o.dst (.slice (some ⟨g, 0, none⟩) (n + 1) cap)) w') :
  wpList Tryz.prog ops Q (o :: rest) a (V.alloc (.cells cs 46)) := by
 obtain ⟨i0, hi0, hi1, hi2, hi3⟩ := info_parts infoTir
 exact wpList_append_own2 _ hgd s x _ ho base 46 i0 (.agg #[.string ByteArray.empty, .int .i64 0, .int .i64 0, .bool false]) 4 40 Tryz.underlying22 hi0 hi1 hi2 hi3 rfl (by decide) v n xs hs (hown.alloc _) ⟨V.heap.size, 0, none⟩ 1 1 cs.toList hx (by decide) hcs
  (World.news_of_block (cs := cs) (t := 46) (fr := (0, 0)) (Blk.new V cs 46)) h1 (by unfold maxLen; omega) (by omega) (by simp; omega) (fun g cap w' h1 h2 _ => h g cap w' h1 h2)

theorem list_appC {ops : Array Oper} {rest : List Oper} {o : Oper} {a : Act} {V : World} {cs : Array Value} {Q : Exit → Act → World → Prop} (hgd : o.guard = none) (s x : Operand)
  (ho : o.op = .call { callee := .builtin .append, args := #[s, x], argTypes := #[24, 24] }) (base : Nat) (v : Value) (n : Nat) (xs : List Value) (hs : a.eval s = v) (hx : a.eval x = .slice (some ⟨V.heap.size, 0, none⟩) 1 1)
  (hown : V.ownsRow base 74 4 v n xs) (hn : n ≤ 1000000) (hb : base ≤ V.heap.size) (hcs : cs.toList.length = 1 * 4) (h1 : ∀ u ∈ cs.toList, u.oneCell' = true)
  (h : ∀ g cap w', w'.ownsRow base 74 4 (.slice (some ⟨g, 0, none⟩) (n + 1) cap) (n + 1) (xs ++ cs.toList) → (V.alloc (.cells cs 74)).grownBy w' v.ownBlock → wpList Tryz.prog ops Q rest (a.put o.dst (.slice (some ⟨g, 0, none⟩) (n + 1) cap)) w') :
  wpList Tryz.prog ops Q (o :: rest) a (V.alloc (.cells cs 74)) := by
 obtain ⟨i0, hi0, hi1, hi2, hi3⟩ := info_parts infoCop
 exact wpList_append_own2 _ hgd s x _ ho base 74 i0 (.agg #[.string ByteArray.empty, .string ByteArray.empty, .bool false, .int .i64 0]) 4 48 Tryz.underlying24 hi0 hi1 hi2 hi3 rfl (by decide) v n xs hs (hown.alloc _) ⟨V.heap.size, 0, none⟩ 1 1 cs.toList hx (by decide) hcs
  (World.news_of_block (cs := cs) (t := 74) (fr := (0, 0)) (Blk.new V cs 74)) h1 (by unfold maxLen; omega) (by omega) (by simp; omega) (fun g cap w' h1 h2 _ => h g cap w' h1 h2)

theorem list_appS {ops : Array Oper} {rest : List Oper} {o : Oper} {a : Act} {V : World} {cs : Array Value} {Q : Exit → Act → World → Prop} (hgd : o.guard = none) (s x : Operand)
  (ho : o.op = .call { callee := .builtin .append, args := #[s, x], argTypes := #[25, 25] }) (base : Nat) (v : Value) (n : Nat) (xs : List Value) (hs : a.eval s = v) (hx : a.eval x = .slice (some ⟨V.heap.size, 0, none⟩) 1 1)
  (hown : V.ownsRow base 9 1 v n xs) (hn : n ≤ 1000000) (hb : base ≤ V.heap.size) (hcs : cs.toList.length = 1 * 1) (h1 : ∀ u ∈ cs.toList, u.oneCell' = true)
  (h : ∀ g cap w', w'.ownsRow base 9 1 (.slice (some ⟨g, 0, none⟩) (n + 1) cap) (n + 1) (xs ++ cs.toList) → (V.alloc (.cells cs 9)).grownBy w' v.ownBlock → wpList Tryz.prog ops Q rest (a.put o.dst (.slice (some ⟨g, 0, none⟩) (n + 1) cap)) w') :
  wpList Tryz.prog ops Q (o :: rest) a (V.alloc (.cells cs 9)) := by
 obtain ⟨i0, hi0, hi1, hi2, hi3⟩ := info_parts infoStS
 exact wpList_append_own2 _ hgd s x _ ho base 9 i0 (.string ByteArray.empty) 1 16 Tryz.underlying25 hi0 hi1 hi2 hi3 rfl (by decide) v n xs hs (hown.alloc _) ⟨V.heap.size, 0, none⟩ 1 1 cs.toList hx (by decide) hcs
  (World.news_of_block (cs := cs) (t := 9) (fr := (0, 0)) (Blk.new V cs 9)) h1 (by unfold maxLen; omega) (by omega) (by simp; omega) (fun g cap w' h1 h2 _ => h g cap w' h1 h2)
end Go.Proofs.YthdiccdnggloiaaGreatDoor
namespace Go.Proofs.YthdiccdnggloiaaGreatDoor
open Go.RowKit
namespace St
def tow (b : Bool) (x y : List UInt8) : List UInt8 := if b = true then x else y
def kindT (k : Int) : List UInt8 := if k = 1 then [111, 114, 105, 103, 105, 110, 97, 108] else if k = 2 then [115, 105, 100, 101, 99, 97, 114] else [100, 101, 114, 105, 118, 101, 100]
def w0 (s : Sto) : List (List UInt8) := [[115, 116, 111, 114, 101], Lib.itoa s.least, Lib.itoa s.wait]
def wT (t : Tir) : List (List UInt8) := [[116, 105, 101, 114], t.name.data.toList, Lib.itoa t.room, Lib.itoa t.cost, tow t.away [97, 119, 97, 121] [104, 101, 114, 101]]
def wF (f : Fil) : List (List UInt8) := [[102, 105, 108, 101], f.dig.data.toList, Lib.itoa f.size, kindT f.kind] ++ (if f.kind = 1 then [] else [f.frm.data.toList])
def wC (c : Cop) : List (List UInt8) := [[99, 111, 112, 121], c.dig.data.toList, c.tier.data.toList, tow c.good [103, 111, 111, 100] [98, 97, 100], Lib.itoa c.asked]
def wH (d : ByteArray) : List (List UInt8) := [[104, 101, 108, 100], d.data.toList]
def wB (g : Gon) : List (List UInt8) := [[98, 105, 110], g.dig.data.toList, Lib.itoa g.day]
def ln (w : List (List UInt8)) : List UInt8 := Lib.join w [32]
def linesT (L : List (List UInt8)) : List UInt8 := L.flatMap fun l => l ++ [10]
def all (s : Sto) : List (List UInt8) := [ln (w0 s)] ++ s.tiers.map (fun t => ln (wT t)) ++ s.files.map (fun f => ln (wF f)) ++ s.copies.map (fun c => ln (wC c)) ++ s.held.map (fun d => ln (wH d)) ++ s.bin.map (fun g => ln (wB g))
def text (s : Sto) : List UInt8 := linesT (all s)
end St
namespace St
theorem inB_iff {n lo hi : Int} : inB n lo hi = true ↔ lo ≤ n ∧ n ≤ hi := by unfold inB; exact decide_eq_true_iff
theorem tier_good {s : Sto} (r : Right s) {t : Tir} (ht : t ∈ s.tiers) : Fd.nameB t.name = true ∧ (0 ≤ t.room ∧ t.room ≤ 1000000000000) ∧ (0 ≤ t.cost ∧ t.cost ≤ 1000000) := by
 obtain ⟨i, hi⟩ := List.getElem?_of_mem ht
 have h := scan_iff.1 r.tiers i t hi
 unfold tierE at h
 split at h
 ·rename_i h1
  split at h
  ·cases h
  ·split at h
   ·rename_i h2
    exact ⟨h1, inB_iff.1 h2.1, inB_iff.1 h2.2⟩
   ·cases h
 ·cases h
theorem name40 {n : ByteArray} (h : Fd.nameB n = true) : n.size ≤ 40 := by
 unfold Fd.nameB at h
 exact (of_decide_eq_true h).1.2
theorem hasTier_mem {L : List Tir} {n : ByteArray} (h : hasTier L n = true) : ∃ t ∈ L, t.name = n := by
 unfold hasTier at h
 obtain ⟨t, h1, h2⟩ := List.any_eq_true.1 h
 exact ⟨t, h1, eq_iff.1 h2⟩
theorem cop_good {s : Sto} (r : Right s) {c : Cop} (hc : c ∈ s.copies) : c.dig.size = 16 ∧ c.tier.size ≤ 40 ∧ (0 ≤ c.asked ∧ c.asked ≤ 6311433599) := by
 obtain ⟨h1, h2, h3⟩ := r.cop c hc
 obtain ⟨t, ht, hn⟩ := hasTier_mem h2
 refine ⟨cop_dig r hc, by rw [← hn]; exact name40 (tier_good r ht).1, ?_⟩
 unfold isMom at h3
 exact of_decide_eq_true h3
theorem kind16 {s : Sto} (r : Right s) {d : ByteArray} (h : kindOf s.files d = 1) : d.size = 16 := by
 obtain ⟨g, _, hg, hd, _⟩ := kind_mem h
 rw [← hd]
 exact dig16 (r.dig g hg).1
theorem dl (d : ByteArray) : d.data.toList.length = d.size := rfl
end St
end Go.Proofs.YthdiccdnggloiaaGreatDoor
namespace Go.Proofs.YthdiccdnggloiaaGreatDoor
open Go.RowKit Go.Sort Go.Shelf Go.Maps
namespace St
theorem filter_take {α : Type} {p : α → Bool} {L : List α} {j : Nat} {x : α} (h : L[j]? = some x) : (L.take (j + 1)).filter p = (L.take j).filter p ++ (if p x = true then [x] else []) := by
 rw [List.take_add_one, h, Option.toList_some, List.filter_append]
 congr 1
 cases hp : p x <;> simp [hp]
theorem filter_len {α : Type} {p : α → Bool} {L : List α} (j : Nat) : ((L.take j).filter p).length ≤ L.length := by
 refine Nat.le_trans (List.length_filter_le _ _) ?_
 rw [List.length_take]; omega
end St
def TirPost (w : World) (L : List Tir) (e : Ending) (w' : World) : Prop := ∃ g cap, e = .returned (.slice g L.length cap) ∧ OwnV w' w.heap.size 46 4 (.slice g L.length cap) L.length (St.eT.flat L) ∧ Below w.heap.size w w'
theorem ownV_slice {w : World} {B k n : Nat} {e : TypeId} {v : Value} {xs : List Value} (h : OwnV w B e k v n xs) : ∃ g cap, v = .slice g n cap := by
 obtain ⟨a, ca, rfl, _⟩ := h.form
 exact ⟨a, ca, rfl⟩
theorem good_is (s : Sto) (a : StA) (mb : Nat) (d : ByteArray) (w : World) (hI : StIn w s a) (r : St.Right s) (hd : d.size = 16) :
  Calls Tryz.prog 103 #[.agg #[.int .i64 s.least, .int .i64 s.wait, .slice a.ta s.tiers.length a.tc, .slice a.fa s.files.length a.fc, .slice a.ca s.copies.length a.cc, .slice a.ha s.held.length a.hc, .slice a.ba s.bin.length a.bc, .map (some mb)], .string d] w (TirPost w (St.goodL s d)) := by
 obtain ⟨W1, hW1, hP, hz1, hB1⟩ := box w #[.int .i64 s.least, .int .i64 s.wait, .slice a.ta s.tiers.length a.tc, .slice a.fa s.files.length a.fc, .slice a.ca s.copies.length a.cc, .slice a.ha s.held.length a.hc, .slice a.ba s.bin.length a.bc, .map (some mb)] 135
 have HW1 := Lib.hid hW1; have HB1 := Lib.hid hB1
 obtain ⟨_, y1, y2, y3, y4, y5⟩ := St.sizes_iff.1 r.sizes
 have hcz : ∀ x ∈ s.copies, x.dig.size ≤ 100 ∧ x.tier.size ≤ 100 := fun x hx => by
  obtain ⟨g1, g2, _⟩ := St.cop_good r hx
  omega
 have HCR := Lib.hid (fun V => copiesRow_is s a V)
 have HPL := Lib.hid (fun V (hV : Below w.heap.size w V) k => placeC_is s.copies (St.cop_up r) hcz (by omega) k a.ca a.cc V hI.cl (hI.co.keep hV))
 have HCK := Lib.hid (fun V (t : ByteArray) (ht : t.size ≤ 100) => copyKey_is d t (by omega) ht V)
 have HGP := Lib.hid (fun t => St.good_pos (t := t) r hd)
 have HTG := Lib.hid (fun (x : Tir) (hx : x ∈ s.tiers) => St.name40 (St.tier_good r hx).1)
 have HI := Lib.hid hI
 have htl := hI.tl; have hcl := hI.cl
 have HCL : Hid (∀ V, Below W1.heap.size W1 V → V.cell? ⟨w.heap.size, 0, none⟩ = some (.int .i64 s.least) ∧ V.cell? ⟨w.heap.size, 1, none⟩ = some (.int .i64 s.wait) ∧ V.cell? ⟨w.heap.size, 2, none⟩ = some (.slice a.ta s.tiers.length a.tc) ∧ V.cell? ⟨w.heap.size, 3, none⟩ = some (.slice a.fa s.files.length a.fc) ∧ V.cell? ⟨w.heap.size, 4, none⟩ = some (.slice a.ca s.copies.length a.cc) ∧ V.cell? ⟨w.heap.size, 5, none⟩ = some (.slice a.ha s.held.length a.hc) ∧ V.cell? ⟨w.heap.size, 6, none⟩ = some (.slice a.ba s.bin.length a.bc)) := Lib.hid fun V hv =>
  have k := (hP.keep hv).eight
  ⟨k.1, k.2.1, k.2.2.1, k.2.2.2.1, k.2.2.2.2.1, k.2.2.2.2.2.1, k.2.2.2.2.2.2.1⟩
 have HGL : Hid (St.goodL s d = s.tiers.filter (fun t => St.goodAt s d t.name)) := Lib.hid rfl
 obtain ⟨m0, m1, m2, m3, m4, m5, m6⟩ := HCL.out _ (Below.refl _ _)
 have hs1 : W1.heap.size = w.heap.size + 1 := hz1
 have HS1 := Lib.hid hs1
 clear hI r hcz hW1 hP hz1 hB1 hs1 m0 m1 m3 m4 m5 m6
 obtain ⟨nt, hnt⟩ : ∃ nt, s.tiers.length = nt := ⟨_, rfl⟩
 obtain ⟨nc, hnc⟩ : ∃ nc, s.copies.length = nc := ⟨_, rfl⟩
 have HNT := Lib.hid hnt; have HNC := Lib.hid hnc
 rw [hnt] at htl y1 HCL m2 HW1 HCR ⊢
 rw [hnc] at hcl y3 HCL HW1 HCR HPL ⊢
 clear hnt hnc
 go_enter Tryz.func103, Tryz.ntmps103
 go_wp2_with fail
 rw [HW1.out]
 go_wp2_with fail
 clear m2
 go_loopg [5, 14] nt (fun gk v i wr => ∃ j : Nat, j ≤ nt ∧ gk = nt - j ∧ i = .int .i64 j ∧ wr.ownsRow W1.heap.size 46 4 v ((s.tiers.take j).filter (fun t => St.goodAt s d t.name)).length (St.eT.flat ((s.tiers.take j).filter (fun t => St.goodAt s d t.name))) ∧ Below W1.heap.size W1 wr)
 case atStart => exact ⟨0, by omega, rfl, rfl, World.ownsRow_nil _ _ _ _, Below.refl _ _⟩
 case round =>
  obtain ⟨j, hj, rfl, rfl, hown, hB⟩ := hrel
  by_cases hlt : j < nt
  ·obtain ⟨x, hx⟩ : ∃ x, s.tiers[j]? = some x := ⟨_, List.getElem?_eq_getElem (by rw [HNT.out]; exact hlt)⟩
   obtain ⟨b, off, ha, hb, hcell⟩ := ((HI.out.keep (below_up HB1.out hB)).ti) (by rw [HNT.out]; omega)
   have c0 : wr.cell? ⟨b, off + j * 4, none⟩ = some (.string x.name) := hcell j x hx 0 (.string x.name) rfl
   have c1 : wr.cell? ⟨b, off + j * 4 + 1, none⟩ = some (.int .i64 x.room) := hcell j x hx 1 (.int .i64 x.room) rfl
   have c2 : wr.cell? ⟨b, off + j * 4 + 2, none⟩ = some (.int .i64 x.cost) := hcell j x hx 2 (.int .i64 x.cost) rfl
   have c3 : wr.cell? ⟨b, off + j * 4 + 3, none⟩ = some (.bool x.away) := hcell j x hx 3 (.bool x.away) rfl
   clear hcell
   have hft := St.filter_take (p := fun t => St.goodAt s d t.name) hx
   have hfl := St.filter_len (p := fun t => St.goodAt s d t.name) (L := s.tiers) j
   rw [HNT.out] at hfl
   have hnm := HTG.out x (List.mem_of_getElem? hx)
   obtain ⟨W3, hW3, hX3, hz3, hB3⟩ := box wr #[.string x.name, .int .i64 x.room, .int .i64 x.cost, .bool x.away] 46
   have HW3 := Lib.hid hW3
   have HAW := Lib.hid (below_up hB hB3)
   have hsz1 := hB.size
   have hsz3 := hB3.size
   have hown3 := own_keepE hown hB3
   have hne : some wr.heap.size ≠ u5.ownBlock := fun e => by have := (hown.lt _ e.symm).2; omega
   have HX : Hid (∀ V, Below W3.heap.size W3 V → V.cell? ⟨wr.heap.size, 0, none⟩ = some (.string x.name) ∧ V.cell? ⟨wr.heap.size, 1, none⟩ = some (.int .i64 x.room) ∧ V.cell? ⟨wr.heap.size, 2, none⟩ = some (.int .i64 x.cost) ∧ V.cell? ⟨wr.heap.size, 3, none⟩ = some (.bool x.away)) := Lib.hid fun V hv =>
    have k := hX3.keep hv
    ⟨(k.cell 0).trans rfl, (k.cell 1).trans rfl, (k.cell 2).trans rfl, (k.cell 3).trans rfl⟩
   have HKY := Lib.hid (fun V => HCK.out V x.name (by omega))
   obtain ⟨gp1, gp2⟩ := HGP.out x.name
   obtain ⟨key, hkey⟩ : ∃ key, St.key d x.name = key := ⟨_, rfl⟩
   rw [hkey] at HKY gp1 gp2
   have HPK := Lib.hid (fun V hV => HPL.out V hV key)
   have hj0 : (0 : Int) ≤ (j : Int) := by omega
   have hj1 : (j : Int) < (nt : Int) := by omega
   have HFT := Lib.hid hft
   obtain ⟨ps, hps⟩ : ∃ ps, St.pos St.ckey key s.copies = ps := ⟨_, rfl⟩
   rw [hps] at HPK gp2
   generalize ((s.tiers.take j).filter (fun t => St.goodAt s d t.name)) = G at *
   generalize hgd : St.goodAt s d x.name = gd at *
   clear hx hB hX3 hz3 hB3 hW3 hown hft hkey hps
   have hv : Below W3.heap.size W3 W3.drew := (Below.refl _ _).drew
   obtain ⟨e0, e1, e2, e3⟩ := HX.out _ hv
   obtain ⟨n0, n1, n2, n3, n4, n5, n6⟩ := HCL.out _ (below_up HAW.out hv)
   have hownd := own_keepE hown3 hv
   rw [ha] at HCR HCL n2 ⊢
   go_upto_region 5 with fail
   rw [HW3.out]
   clear c0 c1 c2 c3
   cases hk : St.hasK St.ckey s.copies key with
   | false =>
     have hgf := gp1 hk
     subst hgf
     rw [hk] at HPK
     go_region_held3 (fun w' => w'.cell? ⟨w.heap.size, 0, none⟩ = some (.int .i64 s.least) ∧ w'.cell? ⟨w.heap.size, 1, none⟩ = some (.int .i64 s.wait) ∧ w'.cell? ⟨w.heap.size, 2, none⟩ = some (.slice (some ⟨b, off, none⟩) nt a.tc) ∧ w'.cell? ⟨w.heap.size, 3, none⟩ = some (.slice a.fa s.files.length a.fc) ∧ w'.cell? ⟨w.heap.size, 4, none⟩ = some (.slice a.ca nc a.cc) ∧ w'.cell? ⟨w.heap.size, 5, none⟩ = some (.slice a.ha s.held.length a.hc) ∧ w'.cell? ⟨w.heap.size, 6, none⟩ = some (.slice a.ba s.bin.length a.bc) ∧ w'.cell? ⟨wr.heap.size, 0, none⟩ = some (.string x.name))
      (first | (with_reducible exact ⟨n0, n1, n2, n3, n4, n5, n6, e0⟩) | go_keep)
      (first
       | (go_at_call 54; (with_reducible refine (HCR.out _).mono ?_); rintro e wq ⟨rfl, hq⟩; have hv := below_up hv hq; obtain ⟨n0, n1, n2, n3, n4, n5, n6⟩ := HCL.out _ (below_up HAW.out hv); obtain ⟨e0, e1, e2, e3⟩ := HX.out _ hv)
       | (go_at_call 56; (with_reducible refine (HKY.out _).mono ?_); rintro e wo ⟨rfl, rfl⟩)
       | (go_at_call 55; (with_reducible refine (HPK.out _ (below_up HB1.out (below_up HAW.out hv))).mono ?_); rintro e wp ⟨rfl, hq⟩; have hv := below_up hv hq; obtain ⟨n0, n1, n2, n3, n4, n5, n6⟩ := HCL.out _ (below_up HAW.out hv); obtain ⟨e0, e1, e2, e3⟩ := HX.out _ hv)
       | fail)
     go_wp2_with fail
     have hownp := own_keepE hown3 hv
     have hBp := below_up HAW.out hv
     rw [← ha]
     go_roundg (nt - (j + 1))
     case rel => exact ⟨j + 1, by omega, rfl, by go_num, by rw [HFT.out, if_neg (by decide), List.append_nil]; exact hownp, hBp⟩
     case measure => omega
   | true =>
     obtain ⟨c, hc, _, hgc⟩ := gp2 hk
     rw [hk] at HPK
     have hpc : ps < nc := by have := (List.getElem?_eq_some_iff.1 hc).1; rw [HNC.out] at this; exact this
     go_region_held3 (fun w' => w'.cell? ⟨w.heap.size, 0, none⟩ = some (.int .i64 s.least) ∧ w'.cell? ⟨w.heap.size, 1, none⟩ = some (.int .i64 s.wait) ∧ w'.cell? ⟨w.heap.size, 2, none⟩ = some (.slice (some ⟨b, off, none⟩) nt a.tc) ∧ w'.cell? ⟨w.heap.size, 3, none⟩ = some (.slice a.fa s.files.length a.fc) ∧ w'.cell? ⟨w.heap.size, 4, none⟩ = some (.slice a.ca nc a.cc) ∧ w'.cell? ⟨w.heap.size, 5, none⟩ = some (.slice a.ha s.held.length a.hc) ∧ w'.cell? ⟨w.heap.size, 6, none⟩ = some (.slice a.ba s.bin.length a.bc) ∧ w'.cell? ⟨wr.heap.size, 0, none⟩ = some (.string x.name))
      (first | (with_reducible exact ⟨n0, n1, n2, n3, n4, n5, n6, e0⟩) | go_keep)
      (first
       | (go_at_call 54; (with_reducible refine (HCR.out _).mono ?_); rintro e wq ⟨rfl, hq⟩; have hv := below_up hv hq; obtain ⟨n0, n1, n2, n3, n4, n5, n6⟩ := HCL.out _ (below_up HAW.out hv); obtain ⟨e0, e1, e2, e3⟩ := HX.out _ hv)
       | (go_at_call 56; (with_reducible refine (HKY.out _).mono ?_); rintro e wo ⟨rfl, rfl⟩)
       | (go_at_call 55; (with_reducible refine (HPK.out _ (below_up HB1.out (below_up HAW.out hv))).mono ?_); rintro e wp ⟨rfl, hq⟩; have hv := below_up hv hq; obtain ⟨n0, n1, n2, n3, n4, n5, n6⟩ := HCL.out _ (below_up HAW.out hv); obtain ⟨e0, e1, e2, e3⟩ := HX.out _ hv)
       | fail)
     obtain ⟨b2, o2, ha2, hb2, hcell2⟩ := (HI.out.keep (below_up HB1.out (below_up HAW.out hv))).co (by rw [HNC.out]; omega)
     have f0 : wp.cell? ⟨b2, o2 + ps * 4 + 2, none⟩ = some (.bool c.good) := hcell2 ps c hc 2 (.bool c.good) rfl
     have hps0 : (0 : Int) ≤ (ps : Int) := by omega
     have hps1 : (ps : Int) < (nc : Int) := by omega
     clear hcell2 hc
     rw [ha2] at n4 ⊢
     have hownp := own_keepE hown3 hv
     have hBp := below_up HAW.out hv
     have hvs := hv.size
     rw [← hgc] at f0
     clear hgc
     cases gd
     ·go_wp2_with fail
      rw [← ha, ← ha2]
      go_roundg (nt - (j + 1))
      case rel => exact ⟨j + 1, by omega, rfl, by go_num, by rw [HFT.out, if_neg (by decide), List.append_nil]; exact hownp, hBp⟩
      case measure => omega
     ·obtain ⟨FL, hFL⟩ : ∃ FL, St.eT.flat G = FL := ⟨_, rfl⟩
      obtain ⟨m, hm⟩ : ∃ m, G.length = m := ⟨_, rfl⟩
      have HFL : Hid (St.eT.flat (G ++ [x]) = FL ++ [.string x.name, .int .i64 x.room, .int .i64 x.cost, .bool x.away]) := Lib.hid (by rw [Enc.flat_snoc, hFL]; rfl)
      have HM : Hid ((G ++ [x]).length = m + 1) := Lib.hid (by rw [List.length_append, hm]; rfl)
      rw [hFL, hm] at hownp
      rw [hm] at hfl
      clear hFL hm hown3 hownd
      go_wp2_with (at_builtin; refine list_appT rfl _ _ rfl _ _ m FL (by rfl) (by rfl) hownp (by omega) (by omega) (by rfl) (by simp [Value.oneCell']) ?_; intro g8 cap8 w8 hown8 hgrow8; have hB8 := below_grownE (below_allocs hBp _) (hownp.alloc _) hgrow8 (by simp; omega))
      rw [← ha, ← ha2]
      go_roundg (nt - (j + 1))
      case rel => exact ⟨j + 1, by omega, rfl, by go_num, by rw [HFT.out, if_pos (by first | rfl | trivial), HFL.out, HM.out]; exact hown8, hB8⟩
      case measure => omega
  ·obtain rfl : nt = j := by omega
   rw [← HNT.out, List.take_length, ← HGL.out] at hown
   have HO := Lib.hid ((OwnV.of_own hown).down (show w.heap.size ≤ W1.heap.size by have := HS1.out; omega))
   obtain ⟨g, cap, rfl⟩ := ownV_slice (OwnV.of_own hown)
   clear hown
   go_wp2_with fail
   go_ret
   exact ⟨g, cap, rfl, HO.out, below_up HB1.out hB⟩
theorem infoTirS : (Tryz.prog.info? 46).map (·.size) = some 4 := by kernel_rfl
theorem Blk.four {w : World} {b : Nat} {t : TypeId} {x0 x1 x2 x3 : Value} (h : Blk w b #[x0, x1, x2, x3] t) : w.cell? ⟨b, 0, none⟩ = some x0 ∧ w.cell? ⟨b, 1, none⟩ = some x1 ∧ w.cell? ⟨b, 2, none⟩ = some x2 ∧ w.cell? ⟨b, 3, none⟩ = some x3 :=
 ⟨by rw [h.cell]; rfl, by rw [h.cell]; rfl, by rw [h.cell]; rfl, by rw [h.cell]; rfl⟩
theorem Blk.setRowAt {w : World} {b : Nat} {c : Array Value} {t : TypeId} (h : Blk w b c t) (cs : Array Value) : Blk (w.setRow b cs) b cs t := setRow_heap w b c cs t (0, 0) h
theorem Blk.setRowOther {w : World} {b b' : Nat} {c : Array Value} {t : TypeId} (h : Blk w b c t) (hb : b ≠ b') (cs : Array Value) : Blk (w.setRow b' cs) b c t := h.of_block (setRow_other w b' b cs hb)
theorem St.cheap_at {L : List Tir} {t0 : Tir} (h : L[0]? = some t0) : St.cheap L = St.best t0 L := by
 cases L with
 | nil => simp at h
 | cons t r =>
   obtain rfl : t = t0 := by simpa using h
   rfl
theorem cheapest_is (L : List Tir) (hL : 0 < L.length) (hL8 : L.length ≤ 1000) (ad : Option Addr) (ca : Nat) (w : World) (hr : RowE St.eT w ad L) :
  Calls Tryz.prog 185 #[.slice ad L.length ca] w fun e w' => e = .returned (.agg #[.string (St.cheap L).name, .int .i64 (St.cheap L).room, .int .i64 (St.cheap L).cost, .bool (St.cheap L).away]) ∧ Below w.heap.size w w' := by
 obtain ⟨t0, ht0⟩ : ∃ t0, L[0]? = some t0 := ⟨_, List.getElem?_eq_getElem hL⟩
 have HCH := Lib.hid (St.cheap_at ht0)
 have HR := Lib.hid hr
 obtain ⟨W1, hW1, hP, hz1, hB1⟩ := box w #[.string ⟨#[]⟩, .int .i64 0, .int .i64 0, .bool false] 46
 obtain ⟨W2, hW2, hQ, hz2, hB2⟩ := box W1 #[.string t0.name, .int .i64 t0.room, .int .i64 t0.cost, .bool t0.away] 46
 have HW1 := Lib.hid hW1; have HW2 := Lib.hid hW2
 have HP := Lib.hid (hP.keep hB2)
 have hlt1 : w.heap.size < W1.heap.size := by omega
 have HQ := Lib.hid hQ
 have HBB := Lib.hid (below_up hB1 hB2)
 have HBS : Hid (∀ j x, L[j]? = some x → St.best t0 (L.take (j + 1)) = if x.cost < (St.best t0 (L.take j)).cost then x else St.best t0 (L.take j)) := Lib.hid fun j x h => St.best_snoc h
 obtain ⟨b, off, ha, hb, hcell⟩ := hr.keep hB1 hL
 have c0 : W1.cell? ⟨b, off, none⟩ = some (.string t0.name) := by have := hcell 0 t0 ht0 0 (.string t0.name) rfl; simpa using this
 have c1 : W1.cell? ⟨b, off + 1, none⟩ = some (.int .i64 t0.room) := by have := hcell 0 t0 ht0 1 (.int .i64 t0.room) rfl; simpa using this
 have c2 : W1.cell? ⟨b, off + 2, none⟩ = some (.int .i64 t0.cost) := by have := hcell 0 t0 ht0 2 (.int .i64 t0.cost) rfl; simpa using this
 have c3 : W1.cell? ⟨b, off + 3, none⟩ = some (.bool t0.away) := by have := hcell 0 t0 ht0 3 (.bool t0.away) rfl; simpa using this
 obtain ⟨n, hn⟩ : ∃ n, L.length = n := ⟨_, rfl⟩
 have HN := Lib.hid hn
 rw [hn] at hL hL8 ⊢
 have hn0 : (0 : Int) < (n : Int) := by omega
 clear hr hcell hn hW1 hW2 hP hQ hz1 hz2 hB1 hB2
 rw [ha]
 go_enter Tryz.func185, Tryz.ntmps185
 go_upto_region 1 with fail
 rw [HW1.out]
 go_wp2_with fail
 rw [HW2.out]
 clear c0 c1 c2 c3
 go_loopg [11] n (fun gk i wr => ∃ j : Nat, j ≤ n ∧ gk = n - j ∧ i = .int .i64 j ∧ Blk wr W1.heap.size #[.string (St.best t0 (L.take j)).name, .int .i64 (St.best t0 (L.take j)).room, .int .i64 (St.best t0 (L.take j)).cost, .bool (St.best t0 (L.take j)).away] 46 ∧ Blk wr w.heap.size #[.string ⟨#[]⟩, .int .i64 0, .int .i64 0, .bool false] 46 ∧ Below w.heap.size w wr)
 case atStart => exact ⟨0, by omega, rfl, rfl, HQ.out, HP.out, HBB.out⟩
 case round =>
  obtain ⟨j, hj, rfl, rfl, hQ, hP, hB⟩ := hrel
  by_cases hlt : j < n
  ·obtain ⟨x, hx⟩ : ∃ x, L[j]? = some x := ⟨_, List.getElem?_eq_getElem (by rw [HN.out]; exact hlt)⟩
   obtain ⟨b', off', ha', hb', hcell⟩ := HR.out.keep hB (by rw [HN.out]; omega)
   rw [ha] at ha'
   injection ha' with ha'
   injection ha' with e1 e2
   subst e1 e2
   have c0 : wr.cell? ⟨b, off + j * 4, none⟩ = some (.string x.name) := hcell j x hx 0 (.string x.name) rfl
   have c1 : wr.cell? ⟨b, off + j * 4 + 1, none⟩ = some (.int .i64 x.room) := hcell j x hx 1 (.int .i64 x.room) rfl
   have c2 : wr.cell? ⟨b, off + j * 4 + 2, none⟩ = some (.int .i64 x.cost) := hcell j x hx 2 (.int .i64 x.cost) rfl
   have c3 : wr.cell? ⟨b, off + j * 4 + 3, none⟩ = some (.bool x.away) := hcell j x hx 3 (.bool x.away) rfl
   obtain ⟨W3, hW3, hX3, hz3, hB3⟩ := box wr #[.string x.name, .int .i64 x.room, .int .i64 x.cost, .bool x.away] 46
   have HW3 := Lib.hid hW3
   have HQ3 := Lib.hid (hQ.keep hB3); have HP3 := Lib.hid (hP.keep hB3); have HB3 := Lib.hid (below_up hB hB3)
   obtain ⟨d0, d1, d2, d3⟩ := hX3.four
   have hbs := HBS.out j x hx
   obtain ⟨z0, z1, z2, z3⟩ := (hQ.keep hB3).four
   generalize St.best t0 (L.take j) = y at *
   have HS := Lib.hid hbs
   have hj0 : (0 : Int) ≤ (j : Int) := by omega
   have hj1 : (j : Int) < (n : Int) := by omega
   clear hx hcell hW3 hX3 hz3 hB3 hB hQ hP hbs
   go_upto_region 5 with fail
   rw [HW3.out]
   clear c0 c1 c2 c3
   by_cases hc : x.cost < y.cost
   ·have hE := HS.out
    rw [if_pos hc] at hE
    go_wp2_with (refine wpList_store_row rfl 46 _ _ rfl W1.heap.size #[.string x.name, .int .i64 x.room, .int .i64 x.cost, .bool x.away] rfl rfl 46 _ HQ3.out infoTirS rfl (by simp [Value.oneCell']) ?_)
    go_roundg (n - (j + 1))
    case rel => exact ⟨j + 1, by omega, rfl, by go_num, by rw [hE]; exact HQ3.out.setRowAt _, HP3.out.setRowOther (by omega) _, below_setRow HB3.out (by omega) _⟩
    case measure => omega
   ·have hE := HS.out
    rw [if_neg hc] at hE
    go_wp2_with fail
    go_roundg (n - (j + 1))
    case rel => exact ⟨j + 1, by omega, rfl, by go_num, by rw [hE]; exact HQ3.out, HP3.out, HB3.out⟩
    case measure => omega
  ·obtain rfl : n = j := by omega
   rw [← HN.out, List.take_length, ← HCH.out] at hQ
   obtain ⟨z0, z1, z2, z3⟩ := hQ.four
   go_wp2_with (refine wpList_store_row rfl 46 _ _ rfl w.heap.size #[.string (St.cheap L).name, .int .i64 (St.cheap L).room, .int .i64 (St.cheap L).cost, .bool (St.cheap L).away] rfl rfl 46 _ hP infoTirS rfl (by simp [Value.oneCell']) ?_)
   have hrow := setRow_heap wr w.heap.size _ #[.string (St.cheap L).name, .int .i64 (St.cheap L).room, .int .i64 (St.cheap L).cost, .bool (St.cheap L).away] 46 (0, 0) hP
   refine bodyPost_ret (v := .agg #[.string (St.cheap L).name, .int .i64 (St.cheap L).room, .int .i64 (St.cheap L).cost, .bool (St.cheap L).away]) (results_cell_row rfl _ _ w.heap.size 46 _ (0, 0) _ rfl hrow Tryz.underlying46 rfl infoTirS) rfl ⟨rfl, below_setRow hB (by omega) _⟩
namespace St
def mkb (s : Sto) (d : ByteArray) : Bool := decide ((filD s.files d).kind = 3) && decide (0 < (goodL s (filD s.files d).frm).length)
theorem frm16 {s : Sto} (r : Right s) {d : ByteArray} (h : (filD s.files d).kind = 3 ∨ (filD s.files d).kind = 2) : (filD s.files d).frm.size = 16 ∧ kindOf s.files (filD s.files d).frm = 1 := by
 cases hf : fileOf s.files d with
 | none =>
   have : (filD s.files d).kind = 0 := by unfold filD; rw [hf]; rfl
   omega
 | some f =>
   have e : filD s.files d = f := by unfold filD; rw [hf]; rfl
   rw [e] at h ⊢
   have h1 := r.frm f (find_mem hf).1 (by omega)
   exact ⟨kind16 r h1, h1⟩
end St
theorem makeable_is (s : Sto) (a : StA) (mb : Nat) (d : ByteArray) (w : World) (hI : StIn w s a) (hM : FMap w mb s.files) (r : St.Right s) (hd : d.size ≤ 9223372036854775807) :
  Calls Tryz.prog 166 #[.agg #[.int .i64 s.least, .int .i64 s.wait, .slice a.ta s.tiers.length a.tc, .slice a.fa s.files.length a.fc, .slice a.ca s.copies.length a.cc, .slice a.ha s.held.length a.hc, .slice a.ba s.bin.length a.bc, .map (some mb)], .string d] w fun e w' => e = .returned (.bool (St.mkb s d)) ∧ Below w.heap.size w w' := by
 obtain ⟨W1, hW1, hP, hz1, hB1⟩ := box w #[.int .i64 s.least, .int .i64 s.wait, .slice a.ta s.tiers.length a.tc, .slice a.fa s.files.length a.fc, .slice a.ca s.copies.length a.cc, .slice a.ha s.held.length a.hc, .slice a.ba s.bin.length a.bc, .map (some mb)] 135
 have HW1 := Lib.hid hW1; have HB1 := Lib.hid hB1
 have q7 : W1.cell? ⟨w.heap.size, 7, none⟩ = some (.map (some mb)) := hP.eight.2.2.2.2.2.2.2
 obtain ⟨f, hlk, hf⟩ := FMap.kind (hM.keep hB1) r.fup hd
 obtain ⟨W2, hW2, hX, hz2, hB2⟩ := box W1 #[.string f.dig, .int .i64 f.size, .int .i64 f.kind, .string f.frm] 30
 have HW2 := Lib.hid hW2
 have HBB := Lib.hid (below_up hB1 hB2)
 have h16 : f.kind = 3 → f.frm.size = 16 := fun h => by rw [hf] at h ⊢; exact (St.frm16 r (.inl h)).1
 have hmk : St.mkb s d = (decide (f.kind = 3) && decide (0 < (St.goodL s f.frm).length)) := by rw [hf]; rfl
 have HGD := Lib.hid (fun h => good_is s a mb f.frm W2 (hI.keep HBB.out) r (h16 h))
 have HMK := Lib.hid hmk
 obtain ⟨p0, p1, p2, p3, p4, p5, p6, p7⟩ := (hP.keep hB2).eight
 obtain ⟨x0, x1, x2, x3⟩ := hX.four
 clear hI hM r hW1 hP hz1 hB1 hW2 hX hz2 hB2 hf h16 hmk
 go_enter Tryz.func166, Tryz.ntmps166
 go_wp2_with fail
 rw [HW1.out]
 go_upto_region 2 with fail
 rw [hlk]
 go_upto_region 2 with fail
 rw [HW2.out]
 clear q7
 by_cases hk : f.kind = 3
 ·have HG := Lib.hid (HGD.out hk)
  have hmk := HMK.out
  rw [hk] at hmk
  have hkb : (f.kind == 3) = true := by simpa using hk
  generalize f.kind = kd at *
  subst hk
  have HMZ := Lib.hid hmk
  clear hmk hlk
  generalize St.goodL s f.frm = GL at *
  obtain ⟨m, hm⟩ : ∃ m, GL.length = m := ⟨_, rfl⟩
  have hmz := HMZ.out
  unfold TirPost at HG
  rw [hm] at hmz HG
  have HMY := Lib.hid hmz
  clear hmz HMZ hm
  go_wp2_with (go_at_call 103; (with_reducible refine HG.out.mono ?_); rintro e w4 ⟨g, cap, rfl, ho, hB4⟩)
  go_ret
  exact ⟨ret_bool (by rw [HMY.out]; simp), below_up HBB.out hB4⟩
 ·have hkb : (f.kind == 3) = false := by simpa using hk
  have hmk : St.mkb s d = false := by rw [HMK.out]; simp [hk]
  have HMY := Lib.hid hmk
  clear hmk hlk
  go_wp2_with fail
  go_ret
  exact ⟨ret_bool HMY.out.symm, HBB.out⟩
end Go.Proofs.YthdiccdnggloiaaGreatDoor
namespace Go.Proofs.YthdiccdnggloiaaGreatDoor
open Go.RowKit
structure Mov where
 kind : Int
 dig : ByteArray
 frm : ByteArray
 dst : ByteArray
namespace St
def eM : Enc Mov := ⟨4, fun m => [.int .i64 m.kind, .string m.dig, .string m.frm, .string m.dst], fun _ => rfl, fun t u h => by simp only [List.mem_cons, List.not_mem_nil, or_false] at h; rcases h with rfl | rfl | rfl | rfl <;> rfl⟩
def evLt (a b : Cop) : Prop := a.asked < b.asked ∨ (a.asked = b.asked ∧ lt (ckey a) (ckey b) = true)
def evNeg (a b : Cop) : Bool := decide (a.asked < b.asked)
theorem ev_ord : Stb.Ord evLt := by
 refine ⟨fun x y z h1 h2 => ?_, fun x y h1 h2 => ?_⟩
 ·rcases h1 with h1 | ⟨h1, k1⟩ <;> rcases h2 with h2 | ⟨h2, k2⟩
  ·exact .inl (by omega)
  ·exact .inl (by omega)
  ·exact .inl (by omega)
  ·exact .inr ⟨by omega, lt_trans k1 k2⟩
 ·rcases h1 with h1 | ⟨h1, k1⟩ <;> rcases h2 with h2 | ⟨h2, k2⟩
  ·omega
  ·omega
  ·omega
  ·have := lt_trans k1 k2
   rw [lt_irr] at this; cases this
theorem ev_fit {L : List Cop} (h : Up ckey L) : L.Pairwise (Stb.Fit evLt evNeg) := by
 refine List.Pairwise.imp ?_ h
 intro x y hxy
 refine ⟨fun g => .inl (of_decide_eq_true g), fun g => ?_⟩
 have g := of_decide_eq_false g
 by_cases e : x.asked = y.asked
 ·exact .inr ⟨e, hxy⟩
 ·exact .inl (by omega)
def evA (s : Sto) (t : ByteArray) (c : Cop) : Bool := eq c.tier t && garbage s c
def evB (s : Sto) (t : ByteArray) (c : Cop) : Bool := eq c.tier t && (!garbage s c && mkb s c.dig)
def evG (s : Sto) (t : ByteArray) : List Cop := s.copies.filter (evA s t)
def evK (s : Sto) (t : ByteArray) : List Cop := s.copies.filter (evB s t)
def Goers (s : Sto) (t : ByteArray) (L : List Cop) : Prop := ∃ M, L = evG s t ++ M ∧ List.Perm M (evK s t) ∧ M.Pairwise evLt
theorem Goers.one {s : Sto} {t : ByteArray} {L L' : List Cop} (h : Goers s t L) (h' : Goers s t L') : L = L' := by
 obtain ⟨M, rfl, p, q⟩ := h
 obtain ⟨M', rfl, p', q'⟩ := h'
 rw [Stb.unique ev_ord (p.trans p'.symm) q q']
def run (F : List Fil) (b : Int) : List Cop → Int → List Cop × Int
 | [], f => ([], f)
 | c :: r, f => if b ≤ f then ([], f) else (c :: (run F b r (f + sizeOf F c.dig)).1, (run F b r (f + sizeOf F c.dig)).2)
theorem run_stop {F : List Fil} {b : Int} {L : List Cop} {f : Int} (h : b ≤ f) : run F b L f = ([], f) := by
 cases L with
 | nil => rfl
 | cons c r => rw [run, if_pos h]
theorem run_next {F : List Fil} {b : Int} {c : Cop} {r : List Cop} {f : Int} (h : ¬ b ≤ f) : run F b (c :: r) f = (c :: (run F b r (f + sizeOf F c.dig)).1, (run F b r (f + sizeOf F c.dig)).2) := by rw [run, if_neg h]
def drop_ (t : ByteArray) (c : Cop) : Mov := ⟨2, c.dig, t, ByteArray.empty⟩
end St
end Go.Proofs.YthdiccdnggloiaaGreatDoor
namespace Go.Proofs.YthdiccdnggloiaaGreatDoor
open Go.RowKit Go.Sort Go.Shelf

theorem cp_ins_grown (B n ca : Nat) (a : Option Addr) (xs ys : List Value) (w : World) (hnone : a = none → n = 0 ∧ ca = 0) (hlo : xs.length = n * 4) (holds : ∀ b, a = some b → ∀ j u, xs[j]? = some u → w.cell? (b.add j) = some u) (hcm : ca ≤ 9223372036854775807) (hfull : ca < n + 1) (hnc : n ≤ ca) (hB : B ≤ w.heap.size) (hn : n ≤ 1000000) (bv : Nat) (cv : Array Value) (tv : TypeId) (hbv : w.heap[bv]? = some (.cells cv tv (0, 0))) (hys : cv.toList = ys) (hy : ys.length = 4) (h1 : ∀ v ∈ ys, v.oneCell' = true) :
  Calls Tryz.prog 148 #[.slice a n ca, .int .i64 n, .slice (some ⟨bv, 0, none⟩) 1 1] w (OwnPost w B 74 4 (.slice a n ca) (n + 1) (xs ++ ys)) := by
 obtain ⟨i0, hi0, hz0, hz1, hz2⟩ := info_parts infoCop
 have HI0 := Lib.hid hi0; have HI1 := Lib.hid hz0; have HI2 := Lib.hid hz1; have HI3 := Lib.hid hz2
 have hsrc : ∀ j u, ys[j]? = some u → w.cell? ((⟨bv, 0, none⟩ : Addr).add j) = some u := by
  intro j u hj
  rw [show (⟨bv, 0, none⟩ : Addr).add j = ⟨bv, j, none⟩ from by unfold Addr.add; split <;> simp_all, World.cell?]
  simp only [hbv]
  rw [← hys] at hj
  simpa using hj
 have HS := Lib.hid hsrc; have HO := Lib.hid holds; have HL := Lib.hid hy; have H1 := Lib.hid h1; have HBB := Lib.hid hB; have HNN := Lib.hid hnone; have HLO := Lib.hid hlo
 obtain rfl : ca = n := by omega
 clear hi0 hz0 hz1 hz2 hsrc holds hy h1 hB hbv hys hnone hlo
 go_enter Tryz.func148, Tryz.ntmps148
 go_wp2_with (at_builtin; refine wpList_append_grows _ rfl _ _ 24 rfl 74 i0 (.agg #[.string ByteArray.empty, .string ByteArray.empty, .bool false, .int .i64 0]) 4 48 Tryz.underlying24 HI0.out HI1.out HI2.out HI3.out rfl (by decide) a ca ca xs rfl HNN.out HLO.out HO.out ⟨bv, 0, none⟩ 1 1 ys rfl HL.out HS.out H1.out hfull (by unfold maxLen; omega) (by omega) ?_; intro v8 w8 hown8 hgrow8; obtain ⟨g8, cap8, rfl, hoc8⟩ : ∃ g8 cap8, v8 = .slice (some ⟨g8, 0, none⟩) (ca + 1) cap8 ∧ OwnC w8 w.heap.size 74 4 g8 (ca + 1) cap8 (xs ++ ys) := by { rcases OwnV.of_own hown8 with ⟨_, h0, _⟩ | h; exact absurd h0 (by omega); exact h })
 go_ret
 exact ⟨g8, cap8, rfl, hoc8.down HBB.out, ⟨hgrow8.os, hgrow8.tape, hgrow8.output, hgrow8.size, fun j hj _ => hgrow8.block j hj (by simp)⟩, .inr hoc8.lt.1⟩
theorem cp_ins_last (B g n cap : Nat) (xs ys : List Value) (w : World) (h : OwnC w B 74 4 g n cap xs) (hroom : n + 1 ≤ cap) (hn : n ≤ 1000000) (bv : Nat) (cv : Array Value) (tv : TypeId) (hbv : w.heap[bv]? = some (.cells cv tv (0, 0))) (hys : cv.toList = ys) (hy : ys.length = 4) (h1 : ∀ v ∈ ys, v.oneCell' = true) :
  Calls Tryz.prog 148 #[.slice (some ⟨g, 0, none⟩) n cap, .int .i64 n, .slice (some ⟨bv, 0, none⟩) 1 1] w (OwnPost w B 74 4 (.slice (some ⟨g, 0, none⟩) n cap) (n + 1) (xs ++ ys)) := by
 obtain ⟨i0, hi0, hz0, hz1, hz2⟩ := info_parts infoCop
 have hsrc : ∀ j u, ys[j]? = some u → w.cell? ((⟨bv, 0, none⟩ : Addr).add j) = some u := by
  intro j u hj
  rw [show (⟨bv, 0, none⟩ : Addr).add j = ⟨bv, j, none⟩ from by unfold Addr.add; split <;> simp_all, World.cell?]
  simp only [hbv]
  rw [← hys] at hj
  simpa using hj
 obtain ⟨w1, hr1, ho1, hg1⟩ := own_append (P := Tryz.prog) h 24 i0 Tryz.underlying24 hi0 hz1 ⟨bv, 0, none⟩ 1 ys (by rw [hy]) hsrc h1 hroom
 obtain ⟨_, _, _, hnc, hcm, _⟩ := h
 have hcm2 : cap ≤ 9223372036854775807 := hcm
 have hcn : ¬ cap = n := by omega
 have HO := Lib.hid ho1; have HG := Lib.hid hg1
 clear hi0 hz0 hz1 hz2 hsrc hy h1 hbv hys ho1 hg1
 go_enter Tryz.func148, Tryz.ntmps148
 go_wp2_with (at_builtin; refine Lib.wpList_append_run _ rfl _ _ _ _ rfl _ _ rfl rfl _ _ (hr1 _ _) ?_)
 go_ret
 exact ⟨g, cap, rfl, HO.out, HG.out, .inl rfl⟩
theorem cp_ins_room (B g n cap i : Nat) (xs ys : List Value) (w : World) (h : OwnC w B 74 4 g n cap xs) (hi : i < n) (hroom : n + 1 ≤ cap) (hn : n ≤ 1000000) (hx1 : ∀ v ∈ xs, v.oneCell' = true) (bv : Nat) (cv : Array Value) (tv : TypeId) (hbv : w.heap[bv]? = some (.cells cv tv (0, 0))) (hbg : bv ≠ g) (hys : cv.toList = ys) (hy : ys.length = 4) (h1 : ∀ v ∈ ys, v.oneCell' = true) :
  Calls Tryz.prog 148 #[.slice (some ⟨g, 0, none⟩) n cap, .int .i64 i, .slice (some ⟨bv, 0, none⟩) 1 1] w (OwnPost w B 74 4 (.slice (some ⟨g, 0, none⟩) n cap) (n + 1) (xs.take (i * 4) ++ ys ++ xs.drop (i * 4))) := by
 have HH0 := h
 obtain ⟨cur, hB, hc, hnc, hcm, hcs, htk, hl⟩ := HH0
 obtain ⟨i0, hi0, hz0, hz1, hz2⟩ := info_parts infoCop
 have hcm2 : cap ≤ 9223372036854775807 := hcm
 have hsz : (Tryz.prog.info? 74).map (·.size) = some 4 := by rw [hi0]; simp [hz1]
 obtain ⟨tail, htl, ho0⟩ := own_more h hroom
 have hdl : (xs.drop (i * 4)).length = (n - i) * 4 := by rw [List.length_drop, hl]; omega
 obtain ⟨w1, hr1, ho1, hg1⟩ := own_copy (P := Tryz.prog) (w := w.drew) ho0 24 24 Tryz.underlying24 hsz ((i + 1) * 4) (n - i) (cap - (i + 1)) ⟨g, i * 4, none⟩ (n + 1 - i) (cap - i) (xs.drop (i * 4)) (by rw [hdl]; congr 1; exact (Nat.min_eq_right (by omega)).symm)
  (fun j u hj => by
   rw [List.getElem?_drop] at hj
   have hjl := (List.getElem?_eq_some_iff.1 hj).1
   rw [show (⟨g, i * 4, none⟩ : Addr).add j = ⟨g, i * 4 + j, none⟩ from by unfold Addr.add; split <;> simp_all]
   exact (h.cellAt (i * 4 + j) (by omega)).trans hj)
  (by rw [hdl]; omega) (fun v hv => hx1 v (List.mem_of_mem_drop hv))
 have hbv1 : w1.heap[bv]? = some (.cells cv tv (0, 0)) := by
  rw [hg1.block bv (Array.getElem?_eq_some_iff.1 hbv).1 (by simpa using hbg)]; exact hbv
 obtain ⟨w2, hr2, ho2, hg2⟩ := own_copy (P := Tryz.prog) (w := w1) ho1 24 24 Tryz.underlying24 hsz (i * 4) (n + 1 - i) (cap - i) ⟨bv, 0, none⟩ 1 1 ys (by rw [hy, show Nat.min 1 (n + 1 - i) = 1 from Nat.min_eq_left (by omega)])
  (fun j u hj => by
   rw [show (⟨bv, 0, none⟩ : Addr).add j = ⟨bv, j, none⟩ from by unfold Addr.add; split <;> simp_all, World.cell?]
   simp only [hbv1]
   rw [← hys] at hj
   simpa using hj)
  (by rw [hy]; omega) h1
 rw [show (i + 1) * 4 = i * 4 + 4 by omega, ins_shift hl htl hy (by omega)] at ho2
 have hov : ∀ lb cb, (callFunc 192 #[.slice (some ⟨bv, 0, none⟩) 1 1, .slice (some ⟨g, (i + 1) * 4, none⟩) lb cb]).run Tryz.prog w = .ok (.value (.bool false)) w := fun lb cb => by
  rw [run_callFunc_extern Tryz.func192 (by kernel_rfl) (by kernel_rfl) (by kernel_rfl) (e := Extern.SlicesOverlaps.overlaps #[24, 24] #[4]) (by kernel_rfl),
   Lib.run_overlaps_apart w 24 4 74 Tryz.underlying24 4 (fun w => by kernel_rfl) ⟨bv, 0, none⟩ ⟨g, (i + 1) * 4, none⟩ 1 1 lb cb hbg tv 74 cv.size cur.size (shape_of hbv) (shape_of hc) (by omega) (frozen_of hbv 0) (frozen_of hbv cv.size)]
  rfl
 have HO := Lib.hid ho2
 have HG := Lib.hid (grown_up hg1 hg2)
 have hz2' : ¬ ((i : Int) = (n : Int)) := by omega
 have hz2b : ((i : Int) == (n : Int)) = false := by simpa using hz2'
 have hw1 : IntKind.i64.wrap ((n : Int) + 1) = (n : Int) + 1 := by rw [IntKind.wrap_i64]; omega
 have hw2 : IntKind.i64.wrap ((i : Int) + 1) = (i : Int) + 1 := by rw [IntKind.wrap_i64]; omega
 have hb0 : ¬ ((cap : Int) < (n : Int) + 1) := by omega
 have hb0' : ((n : Int) + 1 ≤ (cap : Int)) := by omega
 have hb1 : (0 : Int) ≤ (i : Int) + 1 := by omega
 have hb2 : (0 : Int) ≤ (n : Int) + 1 := by omega
 have hb3 : (i : Int) ≤ (n : Int) + 1 := by omega
 have hb4 : (i : Int) + 1 ≤ (n : Int) + 1 := by omega
 have hb5 : ¬ cap = i := by omega
 have hb6 : ¬ cap = i + 1 := by omega
 have hin : i ≤ n := by omega
 clear ho2 ho1 ho0 hg1 hg2 h1 hx1 hbv hbv1 hc hcs htk hl hdl htl hys hy h
 go_enter Tryz.func148, Tryz.ntmps148
 go_wp2_with (simp only [hov])
 go_region_law (refine step_copy_run rfl _ _ _ _ rfl (.slice (some ⟨g, (i + 1) * 4, none⟩) (n - i) (cap - (i + 1))) (.slice (some ⟨g, i * 4, none⟩) (n + 1 - i) (cap - i)) (by simp [Act.eval, Act.put]) (by simp [Act.eval, Act.put]) (hr1 _) ?_)
 go_wp2_with (at_builtin; refine wpList_copy_run _ rfl _ _ _ _ rfl _ _ rfl rfl (hr2 _) ?_)
 go_ret
 exact ⟨g, cap, rfl, HO.out, HG.out, .inl rfl⟩

theorem cp_ins_grow (B g n i : Nat) (xs ys : List Value) (w : World) (h : OwnC w B 74 4 g n n xs) (hi : i < n) (hn : n ≤ 1000000) (hx1 : ∀ v ∈ xs, v.oneCell' = true) (bv : Nat) (cv : Array Value) (tv : TypeId) (hbv : w.heap[bv]? = some (.cells cv tv (0, 0))) (hys : cv.toList = ys) (hy : ys.length = 4) (h1 : ∀ v ∈ ys, v.oneCell' = true) :
  Calls Tryz.prog 148 #[.slice (some ⟨g, 0, none⟩) n n, .int .i64 i, .slice (some ⟨bv, 0, none⟩) 1 1] w (OwnPost w B 74 4 (.slice (some ⟨g, 0, none⟩) n n) (n + 1) (xs.take (i * 4) ++ ys ++ xs.drop (i * 4))) := by
 have HH0 := h
 obtain ⟨cur, hB, hc, hnc, hcm, hcs, htk, hl⟩ := HH0
 obtain ⟨i0, hi0, hz0, hz1, hz2⟩ := info_parts infoCop
 have hgw := (Array.getElem?_eq_some_iff.1 hc).1
 have hbw := (Array.getElem?_eq_some_iff.1 hbv).1
 have hsz : (Tryz.prog.info? 74).map (·.size) = some 4 := by rw [hi0]; simp [hz1]
 have hcl : ∀ j u, xs[j]? = some u → w.cell? ⟨g, j, none⟩ = some u := fun j u hj => (h.cellAt j (by have := (List.getElem?_eq_some_iff.1 hj).1; omega)).trans hj
 have hik : i + (n + 1 - i) = n + 1 := by omega
 have hkk : (n : Int) + 1 - (i : Int) = ((n + 1 - i : Nat) : Int) := by omega
 have htl : (xs.take (i * 4)).length = i * 4 := by rw [List.length_take, hl]; omega
 have hold : (Builtin.firstCells i0.size i (.slice (some ⟨g, 0, none⟩) i n)).run Tryz.prog w.drew = .ok (xs.take (i * 4)).toArray w.drew := by
  rw [hz1]
  exact run_firstCells_some w.drew 4 i ⟨g, 0, none⟩ i n (xs.take (i * 4)) htl (fun j u hj => by
   rw [show (⟨g, 0, none⟩ : Addr).add j = ⟨g, j, none⟩ from by unfold Addr.add; split <;> simp_all]
   rw [List.getElem?_take] at hj
   split at hj
   ·exact hcl j u hj
   ·cases hj)
 have hrz := fun ty => Lib.run_append_grow_zeros w 24 3 ty 74 i0 (.agg #[.string ByteArray.empty, .string ByteArray.empty, .bool false, .int .i64 0]) .i64 .i64 Tryz.underlying24 Tryz.underlying3 hi0 hz0 (some ⟨g, 0, none⟩) i n (xs.take (i * 4)) hold (n + 1 - i) (by omega) (by omega) (by omega) (by omega) (by rw [hz2]; omega) (by rw [hz2, hik]; exact growslice_fits (by omega) (by omega))
 rw [hik, ← hkk] at hrz
 have hGn : n + 1 ≤ grownCap w (n + 1) n 74 := grownCap_ge w _ _ _
 have hGm : grownCap w (n + 1) n 74 ≤ maxLen := grownCap_le_maxLen w _ _ _ (by unfold maxLen; omega)
 generalize grownCap w (n + 1) n 74 = G at hrz hGn hGm
 have hzl : (Builtin.zeroCells (Value.cells (.agg #[.string ByteArray.empty, .string ByteArray.empty, .bool false, .int .i64 0])) (n + 1 - i)).toList.length = (n + 1 - i) * 4 := by
  rw [Array.length_toList]; simp [Builtin.zeroCells] <;> (first | rfl | exact Or.inl rfl)
 have hzl2 : (Builtin.zeroCells (Value.cells (.agg #[.string ByteArray.empty, .string ByteArray.empty, .bool false, .int .i64 0])) (G - (n + 1))).toList.length = (G - (n + 1)) * 4 := by
  rw [Array.length_toList]; simp [Builtin.zeroCells] <;> (first | rfl | exact Or.inl rfl)
 obtain ⟨ROW, hROW⟩ : ∃ ROW : Array Value, (xs.take (i * 4)).toArray ++ Builtin.zeroCells (Value.cells (.agg #[.string ByteArray.empty, .string ByteArray.empty, .bool false, .int .i64 0])) (n + 1 - i) ++ Builtin.zeroCells (Value.cells (.agg #[.string ByteArray.empty, .string ByteArray.empty, .bool false, .int .i64 0])) (G - (n + 1)) = ROW := ⟨_, rfl⟩
 rw [hROW] at hrz
 have hRl : ROW.toList = xs.take (i * 4) ++ (Builtin.zeroCells (Value.cells (.agg #[.string ByteArray.empty, .string ByteArray.empty, .bool false, .int .i64 0])) (n + 1 - i)).toList ++ (Builtin.zeroCells (Value.cells (.agg #[.string ByteArray.empty, .string ByteArray.empty, .bool false, .int .i64 0])) (G - (n + 1))).toList := by rw [← hROW]; simp
 generalize (Builtin.zeroCells (Value.cells (.agg #[.string ByteArray.empty, .string ByteArray.empty, .bool false, .int .i64 0])) (n + 1 - i)).toList = zs at hzl hRl
 generalize (Builtin.zeroCells (Value.cells (.agg #[.string ByteArray.empty, .string ByteArray.empty, .bool false, .int .i64 0])) (G - (n + 1))).toList = zs2 at hzl2 hRl
 clear hROW
 obtain ⟨W1, hW1⟩ : ∃ W1, w.drew.alloc (.cells ROW 74) = W1 := ⟨_, rfl⟩
 rw [hW1] at hrz
 have hnew : W1.heap[w.heap.size]? = some (.cells ROW 74 (0, 0)) := by rw [← hW1]; exact heap_alloc_new w.drew _
 have hbl : ∀ b, b < w.heap.size → W1.heap[b]? = w.heap[b]? := fun b hb => by rw [← hW1]; exact Below.heap_alloc w.drew _ b hb
 have hs1 : W1.heap.size = w.heap.size + 1 := by rw [← hW1]; simp
 have hbs : W1.os = w.os ∧ W1.tape = w.tape ∧ W1.output = w.output := by rw [← hW1]; exact ⟨rfl, rfl, rfl⟩
 have ho0 : OwnC W1 B 74 4 w.heap.size (n + 1) G (xs.take (i * 4) ++ zs) := own_make (by omega) hnew hGn hGm (by rw [← Array.length_toList, hRl, List.length_append, List.length_append, htl, hzl, hzl2]; omega)
  (by rw [hRl]; exact List.take_left' (by rw [List.length_append, htl, hzl]; omega))
 obtain ⟨w2, hr1, ho1, hg1⟩ := own_copy (P := Tryz.prog) (w := W1) ho0 24 24 Tryz.underlying24 hsz (i * 4) (n + 1 - i) (G - i) ⟨bv, 0, none⟩ 1 1 ys (by rw [hy, show Nat.min 1 (n + 1 - i) = 1 from Nat.min_eq_left (by omega)])
  (fun j u hj => by
   rw [show (⟨bv, 0, none⟩ : Addr).add j = ⟨bv, j, none⟩ from by unfold Addr.add; split <;> simp_all, World.cell?]
   simp only [hbl bv hbw, hbv]
   rw [← hys] at hj
   simpa using hj)
  (by rw [hy]; omega) h1
 have hdl : (xs.drop (i * 4)).length = (n - i) * 4 := by rw [List.length_drop, hl]; omega
 have hg2w : w2.heap[g]? = w.heap[g]? := (hg1.block g (by omega) (by simp; omega)).trans (hbl g hgw)
 obtain ⟨w3, hr2, ho2, hg2⟩ := own_copy (P := Tryz.prog) (w := w2.drew) ho1 24 24 Tryz.underlying24 hsz ((i + 1) * 4) (n - i) (G - (i + 1)) ⟨g, i * 4, none⟩ (n - i) (n - i) (xs.drop (i * 4)) (by rw [hdl]; congr 1; exact (Nat.min_eq_left (Nat.le_refl _)).symm)
  (fun j u hj => by
   rw [List.getElem?_drop] at hj
   rw [show (⟨g, i * 4, none⟩ : Addr).add j = ⟨g, i * 4 + j, none⟩ from by unfold Addr.add; split <;> simp_all]
   have := hcl _ _ hj
   unfold World.cell? at this ⊢
   rw [show w2.drew.heap[g]? = w.heap[g]? from hg2w]
   exact this)
  (by rw [hdl]; omega) (fun v hv => hx1 v (List.mem_of_mem_drop hv))
 rw [show (i + 1) * 4 = i * 4 + 4 by omega, ins_grow (N := n * 4) hl (by rw [hzl]; omega) hy (by omega)] at ho2
 have HO := Lib.hid ho2
 have HG : Hid (w.grownBy w3 (some g)) := Lib.hid ⟨hg2.os.trans (hg1.os.trans hbs.1), hg2.tape.trans (hg1.tape.trans hbs.2.1), hg2.output.trans (hg1.output.trans hbs.2.2), by have := hg2.size; have h3 : w2.drew.heap.size = w2.heap.size := rfl; have := hg1.size; omega, fun b hb _ => (hg2.block b (by have h3 : w2.drew.heap.size = w2.heap.size := rfl; have := hg1.size; omega) (by simp; omega)).trans ((hg1.block b (by omega) (by simp; omega)).trans (hbl b hb))⟩
 have hGm2 : G ≤ 9223372036854775807 := hGm
 have hz2' : ¬ ((i : Int) = (n : Int)) := by omega
 have hz2b : ((i : Int) == (n : Int)) = false := by simpa using hz2'
 have hw1 : IntKind.i64.wrap ((n : Int) + 1) = (n : Int) + 1 := by rw [IntKind.wrap_i64]; omega
 have hw2 : IntKind.i64.wrap ((i : Int) + 1) = (i : Int) + 1 := by rw [IntKind.wrap_i64]; omega
 have hw3 : IntKind.i64.wrap ((n : Int) + 1 - (i : Int)) = (n : Int) + 1 - (i : Int) := by rw [IntKind.wrap_i64]; omega
 have hb1 : (0 : Int) ≤ (i : Int) + 1 := by omega
 have hb3 : (i : Int) ≤ (n : Int) + 1 := by omega
 have hb3' : (i : Int) ≤ (n : Int) := by omega
 have hb4 : (i : Int) + 1 ≤ (n : Int) + 1 := by omega
 have hb5 : ¬ G = i := by omega
 have hb6 : ¬ G = i + 1 := by omega
 have hb7 : ¬ n = i := by omega
 have hin : i ≤ n := by omega
 clear ho2 ho1 ho0 hg1 hg2 h1 hx1 hbv hc hcs htk hl hdl htl hys hy h hcl hold hkk hik hW1 hnew hbl hRl hzl hzl2 hs1 hbs hg2w
 go_enter Tryz.func148, Tryz.ntmps148
 go_wp2_with (first
  | (at_builtin; refine Lib.wpList_append_run _ rfl _ _ _ _ rfl _ _ rfl rfl _ _ (hrz _) ?_)
  | (at_builtin; refine wpList_copy_run _ rfl _ _ _ _ rfl _ _ rfl rfl (hr1 _) ?_))
 go_region_law (refine step_copy_run rfl _ _ _ _ rfl (.slice (some ⟨w.heap.size, (i + 1) * 4, none⟩) (n - i) (G - (i + 1))) (.slice (some ⟨g, i * 4, none⟩) (n - i) (n - i)) (by simp [Act.eval, Act.put]) (by simp [Act.eval, Act.put]) (hr2 _) ?_)
 go_wp2_with fail
 go_ret
 exact ⟨w.heap.size, G, rfl, HO.out, HG.out, .inr (Nat.le_refl _)⟩
theorem cp_ins (B n i : Nat) (v : Value) (xs ys : List Value) (w : World) (h : OwnV w B 74 4 v n xs) (hB : B ≤ w.heap.size) (hi : i ≤ n) (hn : n ≤ 1000000) (hx1 : ∀ v ∈ xs, v.oneCell' = true) (bv : Nat) (cv : Array Value) (tv : TypeId) (hbv : w.heap[bv]? = some (.cells cv tv (0, 0))) (hbg : v.ownBlock ≠ some bv) (hys : cv.toList = ys) (hy : ys.length = 4) (h1 : ∀ v ∈ ys, v.oneCell' = true) :
  Calls Tryz.prog 148 #[v, .int .i64 i, .slice (some ⟨bv, 0, none⟩) 1 1] w (OwnPost w B 74 4 v (n + 1) (xs.take (i * 4) ++ ys ++ xs.drop (i * 4))) := by
 have hl := h.len
 rcases Nat.eq_or_lt_of_le hi with rfl | hi
 ·rw [List.take_of_length_le (by omega), List.drop_eq_nil_of_le (by omega), List.append_nil]
  rcases h with ⟨rfl, rfl, rfl⟩ | ⟨g, cap, rfl, hc⟩
  ·exact cp_ins_grown B 0 0 none [] ys w (fun _ => ⟨rfl, rfl⟩) hl (fun b h => by cases h) (by omega) (by omega) (by omega) hB hn bv cv tv hbv hys hy h1
  ·by_cases hr : i + 1 ≤ cap
   ·exact cp_ins_last B g i cap xs ys w hc hr hn bv cv tv hbv hys hy h1
   ·have hc2 := hc
    obtain ⟨_, _, _, hnc, hcm, _⟩ := hc2
    exact cp_ins_grown B i cap (some ⟨g, 0, none⟩) xs ys w (fun h => by cases h) hl (fun b h j u hj => by
     cases h
     rw [show (⟨g, 0, none⟩ : Addr).add j = ⟨g, j, none⟩ from by unfold Addr.add; split <;> simp_all]
     exact (hc.cellAt j (by have := (List.getElem?_eq_some_iff.1 hj).1; omega)).trans hj) hcm (by omega) hnc hB hn bv cv tv hbv hys hy h1
 ·rcases h with ⟨_, h0, _⟩ | ⟨g, cap, rfl, hc⟩
  ·omega
  ·by_cases hr : n + 1 ≤ cap
   ·exact cp_ins_room B g n cap i xs ys w hc hi hr hn hx1 bv cv tv hbv (fun e => hbg (by rw [e]; rfl)) hys hy h1
   ·have hc2 := hc
    obtain ⟨_, _, _, hnc, _⟩ := hc2
    obtain rfl : cap = n := by omega
    exact cp_ins_grow B g cap i xs ys w hc hi hn hx1 bv cv tv hbv hys hy h1
theorem below_ownI {B : Nat} {a w w' : World} {v : Value} {n k : Nat} {e : TypeId} {xs : List Value} (h : Below B a w) (ho : OwnV w B e k v n xs) (hg : w.grownBy w' v.ownBlock) (hB : B ≤ w.heap.size) : Below B a w' := by
 refine h.trans ⟨hg.os, hg.tape, hg.output, hg.size, fun j hj => ?_⟩
 refine hg.block j (by omega) fun e2 => ?_
 have h1 := (ho.lt j e2.symm).1
 omega









theorem cp_del (B g m cap i : Nat) (xs : List Value) (w : World) (h : OwnC w B 74 4 g (m + 1) cap xs) (hi : i ≤ m) (hn : m ≤ 1000000) (h1 : ∀ v ∈ xs, v.oneCell' = true) :
  Calls Tryz.prog 187 #[.slice (some ⟨g, 0, none⟩) (m + 1) cap, .int .i64 i, .int .i64 ((i : Int) + 1)] w fun e w' => e = .returned (.slice (some ⟨g, 0, none⟩) m cap) ∧ OwnC w' B 74 4 g m cap (xs.take (i * 4) ++ xs.drop ((i + 1) * 4)) ∧ w.grownBy w' (some g) := by
 have HH0 := h
 obtain ⟨cur, hB, hc, hnc, hcm, hcs, htk, hl⟩ := HH0
 obtain ⟨i0, hi0, hz0, hz1, hz2⟩ := info_parts infoCop
 have hcm2 : cap ≤ 9223372036854775807 := hcm
 have hlt := h.lt.2
 have hne0 : ¬ ((i : Int) = (i : Int) + 1) := by omega
 have hne1 : ((i : Int) == (i : Int) + 1) = false := by simpa using hne0
 have hic : i ≤ cap := by omega
 have hb1 : (0 : Int) ≤ (i : Int) + 1 := by omega
 have hb2 : (i : Int) ≤ (i : Int) + 1 := by omega
 have hb3 : (i : Int) + 1 ≤ (m : Int) + 1 := by omega
 by_cases hce : cap = i + 1
 ·obtain rfl : m = i := by omega
  subst hce
  have hsrc : ∀ j u, (xs.drop ((m + 1) * 4))[j]? = some u → w.drew.cell? ((⟨g, 0, none⟩ : Addr).add j) = some u := by
   intro j u hj
   rw [List.getElem?_drop] at hj
   have hjl := (List.getElem?_eq_some_iff.1 hj).1
   first
    | (exfalso; omega)
    | (rw [show (⟨g, (m + 1) * 4, none⟩ : Addr).add j = ⟨g, (m + 1) * 4 + j, none⟩ from by unfold Addr.add; split <;> simp_all]; exact (h.cellAt ((m + 1) * 4 + j) (by omega)).trans hj)
  obtain ⟨w1, hr1, ho1, hg1⟩ := own_append (P := Tryz.prog) (w := w.drew) (own_less h (m := m) (by omega)) 24 i0 Tryz.underlying24 hi0 hz1 ⟨g, 0, none⟩ 0 (xs.drop ((m + 1) * 4)) (by rw [List.length_drop, hl]; omega) hsrc (fun v hv => h1 v (List.mem_of_mem_drop hv)) (by omega)
  have hn1 : m + 0 = m := by omega
  rw [hn1] at ho1 hr1
  obtain ⟨tl, htl, ho2⟩ := own_more ho1 (by omega)
  obtain ⟨w2, hr2, ⟨zs, ho3⟩, hg2⟩ := own_clear (P := Tryz.prog) ho2 24 Tryz.underlying24 (.agg #[.string ByteArray.empty, .string ByteArray.empty, .bool false, .int .i64 0]) (fun w => by kernel_rfl) rfl (by decide) (m * 4) 1 (by omega) (by omega)
  have hl4 : (xs.take (m * 4) ++ xs.drop ((m + 1) * 4)).length = m * 4 := by obtain ⟨_, _, _, _, _, _, _, hq⟩ := ho1; exact hq
  rw [List.take_left' hl4] at ho3
  have ho4 := own_less ho3 (m := m) (by omega)
  rw [List.take_left' hl4] at ho4
  have HO := Lib.hid ho4
  have HG : Hid (w.grownBy w2 (some g)) := Lib.hid ⟨(hg1.trans hg2).os, (hg1.trans hg2).tape, (hg1.trans hg2).output, (hg1.trans hg2).size, (hg1.trans hg2).block⟩
  clear ho4 ho3 ho2 ho1 hg1 hg2 hsrc h1 hl4 hl htk hcs
  go_enter Tryz.func187, Tryz.ntmps187
  go_wp2_with fail
  go_region_law (refine step_append_run rfl _ _ _ _ rfl (.slice (some ⟨g, 0, none⟩) m _) (.slice (some ⟨g, 0, none⟩) 0 0) (by simp [Act.eval, Act.put]) (by simp [Act.eval, Act.put]) (hr1 _ _) ?_)
  go_wp2_with (at_builtin; refine wpList_clear_run _ rfl _ _ rfl _ rfl (hr2 _ _) ?_)
  go_ret
  exact ⟨rfl, HO.out, HG.out⟩
 ·-- [[]tintype/store.Copy,tintype/store.Copy]: type arguments; []store.Copy: the slice's type; store.Copy: the element's; .agg #[.string ByteArray.empty, .string ByteArray.empty, .bool false, .int .i64 0]: zero; 4: cells; ⟨g, (i + 1) * 4, none⟩: the source's place; (m - i): its elements; (cap - (i + 1)): its room; i: the place that goes
  have hsrc : ∀ j u, (xs.drop ((i + 1) * 4))[j]? = some u → w.drew.cell? ((⟨g, (i + 1) * 4, none⟩ : Addr).add j) = some u := by
   intro j u hj
   rw [List.getElem?_drop] at hj
   have hjl := (List.getElem?_eq_some_iff.1 hj).1
   first
    | (exfalso; omega)
    | (rw [show (⟨g, (i + 1) * 4, none⟩ : Addr).add j = ⟨g, (i + 1) * 4 + j, none⟩ from by unfold Addr.add; split <;> simp_all]; exact (h.cellAt ((i + 1) * 4 + j) (by omega)).trans hj)
  obtain ⟨w1, hr1, ho1, hg1⟩ := own_append (P := Tryz.prog) (w := w.drew) (own_less h (m := i) (by omega)) 24 i0 Tryz.underlying24 hi0 hz1 ⟨g, (i + 1) * 4, none⟩ (m - i) (xs.drop ((i + 1) * 4)) (by rw [List.length_drop, hl]; omega) hsrc (fun v hv => h1 v (List.mem_of_mem_drop hv)) (by omega)
  have hn1 : i + (m - i) = m := by omega
  rw [hn1] at ho1 hr1
  obtain ⟨tl, htl, ho2⟩ := own_more ho1 (by omega)
  obtain ⟨w2, hr2, ⟨zs, ho3⟩, hg2⟩ := own_clear (P := Tryz.prog) ho2 24 Tryz.underlying24 (.agg #[.string ByteArray.empty, .string ByteArray.empty, .bool false, .int .i64 0]) (fun w => by kernel_rfl) rfl (by decide) (m * 4) 1 (by omega) (by omega)
  have hl4 : (xs.take (i * 4) ++ xs.drop ((i + 1) * 4)).length = m * 4 := by obtain ⟨_, _, _, _, _, _, _, hq⟩ := ho1; exact hq
  rw [List.take_left' hl4] at ho3
  have ho4 := own_less ho3 (m := m) (by omega)
  rw [List.take_left' hl4] at ho4
  have HO := Lib.hid ho4
  have HG : Hid (w.grownBy w2 (some g)) := Lib.hid ⟨(hg1.trans hg2).os, (hg1.trans hg2).tape, (hg1.trans hg2).output, (hg1.trans hg2).size, (hg1.trans hg2).block⟩
  clear ho4 ho3 ho2 ho1 hg1 hg2 hsrc h1 hl4 hl htk hcs
  go_enter Tryz.func187, Tryz.ntmps187
  go_wp2_with fail
  go_region_law (refine step_append_run rfl _ _ _ _ rfl (.slice (some ⟨g, 0, none⟩) i _) (.slice (some ⟨g, (i + 1) * 4, none⟩) (m - i) (cap - (i + 1))) (by simp [Act.eval, Act.put]) (by simp [Act.eval, Act.put]) (hr1 _ _) ?_)
  go_wp2_with (at_builtin; refine wpList_clear_run _ rfl _ _ rfl _ rfl (hr2 _ _) ?_)
  go_ret
  exact ⟨rfl, HO.out, HG.out⟩
end Go.Proofs.YthdiccdnggloiaaGreatDoor
namespace Go.Proofs.YthdiccdnggloiaaGreatDoor
open Go.RowKit Go.Sort Go.Shelf Go.Maps
theorem OwnC.setCell {w : World} {B k g n cap : Nat} {e : TypeId} {xs : List Value} (h : OwnC w B e k g n cap xs) {p : Nat} (hp : p < n * k) (v : Value) : OwnC (w.setCell ⟨g, p, none⟩ v) B e k g n cap (xs.set p v) := by
 obtain ⟨cur, hB, hc, hn, hm, hs, ht, hl⟩ := h
 have hb : Blk w g cur e := hc
 refine ⟨cur.setIfInBounds p v, hB, hb.set p v, hn, hm, by simpa using hs, ?_, by simpa using hl⟩
 rw [← ht, Array.toList_setIfInBounds, List.take_set]
theorem Enc.flat_set1 {α : Type} (E : Enc α) (v : Value) (j : Nat) (hj : j < E.k) (x x' : α) (hx : E.cells x' = (E.cells x).set j v) : ∀ (L : List α) (i : Nat), L[i]? = some x → E.flat (L.set i x') = (E.flat L).set (i * E.k + j) v
 | [], i, h => by simp at h
 | y :: L, 0, h => by
   obtain rfl : y = x := by simpa using h
   rw [List.set_cons_zero, flat_cons, flat_cons, hx, Nat.zero_mul, Nat.zero_add, List.set_append_left _ _ (by rw [E.len]; exact hj)]
 | y :: L, i + 1, h => by
   rw [List.getElem?_cons_succ] at h
   have ih := Enc.flat_set1 E v j hj x x' hx L i h
   rw [List.set_cons_succ, flat_cons, flat_cons, ih, List.set_append_right _ _ (by rw [E.len, Nat.succ_mul]; omega), E.len, show (i + 1) * E.k + j - E.k = i * E.k + j by rw [Nat.succ_mul]; omega]
end Go.Proofs.YthdiccdnggloiaaGreatDoor
