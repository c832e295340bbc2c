/- Parts of the proof, no condition: StGd, StApp, StText, StTextB, StGd2, StChp, StMkb, StMem, StEq. -/
import Derived.Test.YthdiccdnggloiaaDoorRk5
import Derived.Test.YthdiccdnggloiaaDoorRk6
import Derived.Deep.RegionHeld3
import Derived.Deep.AppendLies
import Derived.Test.YthdiccdnggloiaaDoorRk3
import Derived.Lib.Join
import Derived.Lib.ItoaLen
import Derived.Deep.QuietTactic
import Derived.BigQuiet
set_option maxRecDepth 100000
set_option maxHeartbeats 8000000
set_option linter.unusedSimpArgs false
set_option linter.unusedVariables false
namespace Go.Proofs.YthdiccdnggloiaaDoor
open Go.RowKit Go.Sort Go.Shelf Go.Maps
theorem Blk.eight {w : World} {b : Nat} {t : TypeId} {x0 x1 x2 x3 x4 x5 x6 x7 : Value} (h : Blk w b #[x0, x1, x2, x3, x4, x5, x6, x7] t) : w.cell? ⟨b, 0, none⟩ = some x0 ∧ w.cell? ⟨b, 1, none⟩ = some x1 ∧ w.cell? ⟨b, 2, none⟩ = some x2 ∧ w.cell? ⟨b, 3, none⟩ = some x3 ∧ w.cell? ⟨b, 4, none⟩ = some x4 ∧ w.cell? ⟨b, 5, none⟩ = some x5 ∧ w.cell? ⟨b, 6, none⟩ = some x6 ∧ w.cell? ⟨b, 7, none⟩ = some x7 :=
 ⟨by rw [h.cell]; rfl, by rw [h.cell]; rfl, by rw [h.cell]; rfl, by rw [h.cell]; rfl, by rw [h.cell]; rfl, by rw [h.cell]; rfl, by rw [h.cell]; rfl, by rw [h.cell]; rfl⟩
theorem grown_self (w : World) (b : Nat) : w.grownBy w (some b) := ⟨rfl, rfl, rfl, Nat.le_refl _, fun _ _ _ => rfl⟩
theorem grown_set {w w' : World} {b : Nat} (h : w.grownBy w' (some b)) (i : Nat) (v : Value) : w.grownBy (w'.setCell ⟨b, i, none⟩ v) (some b) :=
 ⟨h.os, h.tape, h.output, by have := h.size; simp; omega, fun k hk hne => (Below.heap_setCell w' _ v k (by intro e; exact hne (by rw [e]))).trans (h.block k hk hne)⟩
theorem look_is (s : Sto) (a : StA) (w : World) (hI : StIn w s a) (hn500 : s.files.length ≤ 500) :
  Calls Tryd.prog 14 #[.agg #[.int .i64 s.least, .int .i64 s.wait, .slice a.ta s.tiers.length a.tc, .slice a.fa s.files.length a.fc, .slice a.ca s.copies.length a.cc, .slice a.ha s.held.length a.hc, .slice a.ba s.bin.length a.bc]] w fun e w' => ∃ mb, e = .returned (.agg #[.int .i64 s.least, .int .i64 s.wait, .slice a.ta s.tiers.length a.tc, .slice a.fa s.files.length a.fc, .slice a.ca s.copies.length a.cc, .slice a.ha s.held.length a.hc, .slice a.ba s.bin.length a.bc, .map (some mb)]) ∧ w.heap.size ≤ mb ∧ FMap w' mb s.files ∧ Below w.heap.size w w' := by
 obtain ⟨W1, hW1, hP, hz1, hB1⟩ := box w #[.int .i64 s.least, .int .i64 s.wait, .slice a.ta s.tiers.length a.tc, .slice a.fa s.files.length a.fc, .slice a.ca s.copies.length a.cc, .slice a.ha s.held.length a.hc, .slice a.ba s.bin.length a.bc] 28
 obtain ⟨W2, hW2, hQ, hz2, hB2⟩ := box W1 #[.int .i64 0, .int .i64 0, .slice none 0 0, .slice none 0 0, .slice none 0 0, .slice none 0 0, .slice none 0 0, .map none] 43
 have HW1 := Lib.hid hW1; have HW2 := Lib.hid hW2
 have hP := hP.keep hB2
 rw [hz1] at hQ hz2
 have hB := below_up hB1 hB2
 have HB := Lib.hid hB
 have HP := Lib.hid hP; have HQ := Lib.hid hQ
 have HC := Lib.hid (byDigest_is s a W2.drew (hI.keep hB.drew) hn500)
 obtain ⟨d0, d1, d2, d3, d4, d5, d6⟩ := hP.drew.seven
 have hv : Below W2.heap.size W2 W2.drew := (Below.refl _ _).drew
 have hs2 : w.heap.size + 2 ≤ W2.heap.size := by omega
 clear hI hW1 hW2 hz1 hz2 hB1 hB2 hB hP hQ
 go_enter Tryd.func14, Tryd.ntmps14
 go_upto_region 1 with fail
 rw [HW1.out, HW2.out]
 go_region_held3 (fun w' => w'.cell? ⟨w.heap.size, 0, none⟩ = some (.int .i64 s.least) ∧ w'.cell? ⟨w.heap.size, 1, none⟩ = some (.int .i64 s.wait) ∧ w'.cell? ⟨w.heap.size, 2, none⟩ = some (.slice a.ta s.tiers.length a.tc) ∧ w'.cell? ⟨w.heap.size, 3, none⟩ = some (.slice a.fa s.files.length a.fc) ∧ w'.cell? ⟨w.heap.size, 4, none⟩ = some (.slice a.ca s.copies.length a.cc) ∧ w'.cell? ⟨w.heap.size, 5, none⟩ = some (.slice a.ha s.held.length a.hc) ∧ w'.cell? ⟨w.heap.size, 6, none⟩ = some (.slice a.ba s.bin.length a.bc))
  (first | (with_reducible exact ⟨d0, d1, d2, d3, d4, d5, d6⟩) | go_keep)
  (first
   | (go_at_call 56; (with_reducible refine HC.out.mono ?_); rintro e w3 ⟨mb, rfl, hmb, hM, hq⟩; have hv := below_up hv hq; obtain ⟨d0, d1, d2, d3, d4, d5, d6⟩ := (HP.out.keep hv).seven; obtain ⟨z0, z1, z2, z3, z4, z5, z6, z7⟩ := (HQ.out.keep hv).eight; have zf := (HQ.out.keep hv).free)
   | fail)
 have hZ := (((((((((HQ.out.keep hv).set 0 (.int .i64 s.least)).set 1 (.int .i64 s.wait)).set 2 (.slice a.ta s.tiers.length a.tc)).set 3 (.slice a.fa s.files.length a.fc)).set 4 (.slice a.ca s.copies.length a.cc)).set 5 (.slice a.ha s.held.length a.hc)).set 6 (.slice a.ba s.bin.length a.bc)).set 7 (.map (some mb)))
 have hBz := (((((((((below_up HB.out hv).setCell (p := ⟨w.heap.size + 1, 0, none⟩) (by simp) (.int .i64 s.least)).setCell (p := ⟨w.heap.size + 1, 1, none⟩) (by simp) (.int .i64 s.wait)).setCell (p := ⟨w.heap.size + 1, 2, none⟩) (by simp) (.slice a.ta s.tiers.length a.tc)).setCell (p := ⟨w.heap.size + 1, 3, none⟩) (by simp) (.slice a.fa s.files.length a.fc)).setCell (p := ⟨w.heap.size + 1, 4, none⟩) (by simp) (.slice a.ca s.copies.length a.cc)).setCell (p := ⟨w.heap.size + 1, 5, none⟩) (by simp) (.slice a.ha s.held.length a.hc)).setCell (p := ⟨w.heap.size + 1, 6, none⟩) (by simp) (.slice a.ba s.bin.length a.bc)).setCell (p := ⟨w.heap.size + 1, 7, none⟩) (by simp) (.map (some mb)))
 have hGz := (grown_set (grown_set (grown_set (grown_set (grown_set (grown_set (grown_set (grown_set (grown_self w3 (w.heap.size + 1)) 0 (.int .i64 s.least)) 1 (.int .i64 s.wait)) 2 (.slice a.ta s.tiers.length a.tc)) 3 (.slice a.fa s.files.length a.fc)) 4 (.slice a.ca s.copies.length a.cc)) 5 (.slice a.ha s.held.length a.hc)) 6 (.slice a.ba s.bin.length a.bc)) 7 (.map (some mb)))
 obtain ⟨V, hV⟩ : ∃ V, ((((((((w3.setCell ⟨w.heap.size + 1, 0, none⟩ (.int .i64 s.least)).setCell ⟨w.heap.size + 1, 1, none⟩ (.int .i64 s.wait)).setCell ⟨w.heap.size + 1, 2, none⟩ (.slice a.ta s.tiers.length a.tc)).setCell ⟨w.heap.size + 1, 3, none⟩ (.slice a.fa s.files.length a.fc)).setCell ⟨w.heap.size + 1, 4, none⟩ (.slice a.ca s.copies.length a.cc)).setCell ⟨w.heap.size + 1, 5, none⟩ (.slice a.ha s.held.length a.hc)).setCell ⟨w.heap.size + 1, 6, none⟩ (.slice a.ba s.bin.length a.bc)).setCell ⟨w.heap.size + 1, 7, none⟩ (.map (some mb))) = V := ⟨_, rfl⟩
 rw [hV] at hZ hBz hGz ⊢
 have hZ : Blk V (w.heap.size + 1) #[.int .i64 s.least, .int .i64 s.wait, .slice a.ta s.tiers.length a.tc, .slice a.fa s.files.length a.fc, .slice a.ca s.copies.length a.cc, .slice a.ha s.held.length a.hc, .slice a.ba s.bin.length a.bc, .map (some mb)] 43 := hZ
 obtain ⟨g0, g1, g2, g3, g4, g5, g6, g7⟩ := hZ.eight
 have hmb2 : W2.heap.size ≤ mb := hmb
 go_wp2_with fail
 refine bodyPost_ret (v := .agg #[.int .i64 s.least, .int .i64 s.wait, .slice a.ta s.tiers.length a.tc, .slice a.fa s.files.length a.fc, .slice a.ca s.copies.length a.cc, .slice a.ha s.held.length a.hc, .slice a.ba s.bin.length a.bc, .map (some mb)]) (by simp [results, Tryd.results14, go_sem, g0, g1, g2, g3, g4, g5, g6, g7]) rfl ⟨mb, rfl, by omega, hM.kept hGz (by simp; omega), hBz⟩
theorem own_keepE {w w' : World} {B : Nat} {e : TypeId} {k : Nat} {v : Value} {n : Nat} {xs : List Value} (h : w.ownsRow B e k v n xs) (hb : Below w.heap.size w w') : w'.ownsRow B e k v n xs :=
 h.kept (row := none) ⟨hb.os, hb.tape, hb.output, hb.size, fun k hk _ => hb.block k hk⟩ (by cases hv : v.ownBlock; exact .inl rfl; exact .inr (by simp))
theorem below_grownE {B : Nat} {a w w' : World} {v : Value} {n k : Nat} {e : TypeId} {xs : List Value} (h : Below B a w) (ho : w.ownsRow B e k v n xs) (hg : w.grownBy w' v.ownBlock) (hB : B ≤ w.heap.size) : Below B a w' := by
 refine h.trans ⟨hg.os, hg.tape, hg.output, hg.size, fun j hj => ?_⟩
 refine hg.block j (by omega) fun e2 => ?_
 have h1 := (ho.lt j e2.symm).1
 omega

theorem list_appT {ops : Array Oper} {rest : List Oper} {o : Oper} {a : Act} {V : World} {cs : Array Value} {Q : Exit → Act → World → Prop} (hgd : o.guard = none) (s x : Operand)
  (ho : o.op = .call { callee := .builtin .append, args := #[s, x], argTypes := #[22, 22] }) (base : Nat) (v : Value) (n : Nat) (xs : List Value) (hs : a.eval s = v) (hx : a.eval x = .slice (some ⟨V.heap.size, 0, none⟩) 1 1)
  (hown : V.ownsRow base 53 4 v n xs) (hn : n ≤ 1000000) (hb : base ≤ V.heap.size) (hcs : cs.toList.length = 1 * 4) (h1 : ∀ u ∈ cs.toList, u.oneCell' = true)
  (h : ∀ g cap w', w'.ownsRow base 53 4 (.slice (some ⟨g, 0, none⟩) (n + 1) cap) (n + 1) (xs ++ cs.toList) → (V.alloc (.cells cs 53)).grownBy w' v.ownBlock → wpList Tryd.prog ops Q rest (a.put o.dst (.slice (some ⟨g, 0, none⟩) (n + 1) cap)) w') :
  wpList Tryd.prog ops Q (o :: rest) a (V.alloc (.cells cs 53)) := by
 obtain ⟨i0, hi0, hi1, hi2, hi3⟩ := info_parts infoTir
 exact wpList_append_own2 _ hgd s x _ ho base 53 i0 (.agg #[.string ByteArray.empty, .int .i64 0, .int .i64 0, .bool false]) 4 40 Tryd.underlying22 hi0 hi1 hi2 hi3 rfl (by decide) v n xs hs (hown.alloc _) ⟨V.heap.size, 0, none⟩ 1 1 cs.toList hx (by decide) hcs
  (World.news_of_block (cs := cs) (t := 53) (fr := (0, 0)) (Blk.new V cs 53)) h1 (by unfold maxLen; omega) (by omega) (by simp; omega) (fun g cap w' h1 h2 _ => h g cap w' h1 h2)


end Go.Proofs.YthdiccdnggloiaaDoor
namespace Go.Proofs.YthdiccdnggloiaaDoor
open Go.RowKit
namespace St
def tow (b : Bool) (x y : List UInt8) : List UInt8 := if b = true then x else y
def kindT (k : Int) : List UInt8 := if k = 1 then [111, 114, 105, 103, 105, 110, 97, 108] else if k = 2 then [115, 105, 100, 101, 99, 97, 114] else [100, 101, 114, 105, 118, 101, 100]
def w0 (s : Sto) : List (List UInt8) := [[115, 116, 111, 114, 101], Lib.itoa s.least, Lib.itoa s.wait]
def wT (t : Tir) : List (List UInt8) := [[116, 105, 101, 114], t.name.data.toList, Lib.itoa t.room, Lib.itoa t.cost, tow t.away [97, 119, 97, 121] [104, 101, 114, 101]]
def wF (f : Fil) : List (List UInt8) := [[102, 105, 108, 101], f.dig.data.toList, Lib.itoa f.size, kindT f.kind] ++ (if f.kind = 1 then [] else [f.frm.data.toList])
def wC (c : Cop) : List (List UInt8) := [[99, 111, 112, 121], c.dig.data.toList, c.tier.data.toList, tow c.good [103, 111, 111, 100] [98, 97, 100], Lib.itoa c.asked]
def wH (d : ByteArray) : List (List UInt8) := [[104, 101, 108, 100], d.data.toList]
def wB (g : Gon) : List (List UInt8) := [[98, 105, 110], g.dig.data.toList, Lib.itoa g.day]
def ln (w : List (List UInt8)) : List UInt8 := Lib.join w [32]
def linesT (L : List (List UInt8)) : List UInt8 := L.flatMap fun l => l ++ [10]
def all (s : Sto) : List (List UInt8) := [ln (w0 s)] ++ s.tiers.map (fun t => ln (wT t)) ++ s.files.map (fun f => ln (wF f)) ++ s.copies.map (fun c => ln (wC c)) ++ s.held.map (fun d => ln (wH d)) ++ s.bin.map (fun g => ln (wB g))
def text (s : Sto) : List UInt8 := linesT (all s)
end St
namespace St
theorem inB_iff {n lo hi : Int} : inB n lo hi = true ↔ lo ≤ n ∧ n ≤ hi := by unfold inB; exact decide_eq_true_iff
theorem tier_good {s : Sto} (r : Right s) {t : Tir} (ht : t ∈ s.tiers) : Fd.nameB t.name = true ∧ (0 ≤ t.room ∧ t.room ≤ 1000000000000) ∧ (0 ≤ t.cost ∧ t.cost ≤ 1000000) := by
 obtain ⟨i, hi⟩ := List.getElem?_of_mem ht
 have h := scan_iff.1 r.tiers i t hi
 unfold tierE at h
 split at h
 ·rename_i h1
  split at h
  ·cases h
  ·split at h
   ·rename_i h2
    exact ⟨h1, inB_iff.1 h2.1, inB_iff.1 h2.2⟩
   ·cases h
 ·cases h
theorem name40 {n : ByteArray} (h : Fd.nameB n = true) : n.size ≤ 40 := by
 unfold Fd.nameB at h
 exact (of_decide_eq_true h).1.2
theorem hasTier_mem {L : List Tir} {n : ByteArray} (h : hasTier L n = true) : ∃ t ∈ L, t.name = n := by
 unfold hasTier at h
 obtain ⟨t, h1, h2⟩ := List.any_eq_true.1 h
 exact ⟨t, h1, eq_iff.1 h2⟩
theorem cop_good {s : Sto} (r : Right s) {c : Cop} (hc : c ∈ s.copies) : c.dig.size = 16 ∧ c.tier.size ≤ 40 ∧ (0 ≤ c.asked ∧ c.asked ≤ 6311433599) := by
 obtain ⟨h1, h2, h3⟩ := r.cop c hc
 obtain ⟨t, ht, hn⟩ := hasTier_mem h2
 refine ⟨cop_dig r hc, by rw [← hn]; exact name40 (tier_good r ht).1, ?_⟩
 unfold isMom at h3
 exact of_decide_eq_true h3
theorem kind16 {s : Sto} (r : Right s) {d : ByteArray} (h : kindOf s.files d = 1) : d.size = 16 := by
 obtain ⟨g, _, hg, hd, _⟩ := kind_mem h
 rw [← hd]
 exact dig16 (r.dig g hg).1
end St
end Go.Proofs.YthdiccdnggloiaaDoor
namespace Go.Proofs.YthdiccdnggloiaaDoor
open Go.RowKit Go.Sort Go.Shelf Go.Maps
namespace St
theorem filter_take {α : Type} {p : α → Bool} {L : List α} {j : Nat} {x : α} (h : L[j]? = some x) : (L.take (j + 1)).filter p = (L.take j).filter p ++ (if p x = true then [x] else []) := by
 rw [List.take_add_one, h, Option.toList_some, List.filter_append]
 congr 1
 cases hp : p x <;> simp [hp]
theorem filter_len {α : Type} {p : α → Bool} {L : List α} (j : Nat) : ((L.take j).filter p).length ≤ L.length := by
 refine Nat.le_trans (List.length_filter_le _ _) ?_
 rw [List.length_take]; omega
end St
def TirPost (w : World) (L : List Tir) (e : Ending) (w' : World) : Prop := ∃ g cap, e = .returned (.slice g L.length cap) ∧ OwnV w' w.heap.size 53 4 (.slice g L.length cap) L.length (St.eT.flat L) ∧ Below w.heap.size w w'
theorem ownV_slice {w : World} {B k n : Nat} {e : TypeId} {v : Value} {xs : List Value} (h : OwnV w B e k v n xs) : ∃ g cap, v = .slice g n cap := by
 obtain ⟨a, ca, rfl, _⟩ := h.form
 exact ⟨a, ca, rfl⟩
theorem good_is (s : Sto) (a : StA) (mb : Nat) (d : ByteArray) (w : World) (hI : StIn w s a) (r : St.Right s) (hd : d.size = 16) :
  Calls Tryd.prog 17 #[.agg #[.int .i64 s.least, .int .i64 s.wait, .slice a.ta s.tiers.length a.tc, .slice a.fa s.files.length a.fc, .slice a.ca s.copies.length a.cc, .slice a.ha s.held.length a.hc, .slice a.ba s.bin.length a.bc, .map (some mb)], .string d] w (TirPost w (St.goodL s d)) := by
 obtain ⟨W1, hW1, hP, hz1, hB1⟩ := box w #[.int .i64 s.least, .int .i64 s.wait, .slice a.ta s.tiers.length a.tc, .slice a.fa s.files.length a.fc, .slice a.ca s.copies.length a.cc, .slice a.ha s.held.length a.hc, .slice a.ba s.bin.length a.bc, .map (some mb)] 43
 have HW1 := Lib.hid hW1; have HB1 := Lib.hid hB1
 obtain ⟨_, y1, y2, y3, y4, y5⟩ := St.sizes_iff.1 r.sizes
 have hcz : ∀ x ∈ s.copies, x.dig.size ≤ 100 ∧ x.tier.size ≤ 100 := fun x hx => by
  obtain ⟨g1, g2, _⟩ := St.cop_good r hx
  omega
 have HCR := Lib.hid (fun V => copiesRow_is s a V)
 have HPL := Lib.hid (fun V (hV : Below w.heap.size w V) k => placeC_is s.copies (St.cop_up r) hcz (by omega) k a.ca a.cc V hI.cl (hI.co.keep hV))
 have HCK := Lib.hid (fun V (t : ByteArray) (ht : t.size ≤ 100) => copyKey_is d t (by omega) ht V)
 have HGP := Lib.hid (fun t => St.good_pos (t := t) r hd)
 have HTG := Lib.hid (fun (x : Tir) (hx : x ∈ s.tiers) => St.name40 (St.tier_good r hx).1)
 have HI := Lib.hid hI
 have htl := hI.tl; have hcl := hI.cl
 have HCL : Hid (∀ V, Below W1.heap.size W1 V → V.cell? ⟨w.heap.size, 0, none⟩ = some (.int .i64 s.least) ∧ V.cell? ⟨w.heap.size, 1, none⟩ = some (.int .i64 s.wait) ∧ V.cell? ⟨w.heap.size, 2, none⟩ = some (.slice a.ta s.tiers.length a.tc) ∧ V.cell? ⟨w.heap.size, 3, none⟩ = some (.slice a.fa s.files.length a.fc) ∧ V.cell? ⟨w.heap.size, 4, none⟩ = some (.slice a.ca s.copies.length a.cc) ∧ V.cell? ⟨w.heap.size, 5, none⟩ = some (.slice a.ha s.held.length a.hc) ∧ V.cell? ⟨w.heap.size, 6, none⟩ = some (.slice a.ba s.bin.length a.bc)) := Lib.hid fun V hv =>
  have k := (hP.keep hv).eight
  ⟨k.1, k.2.1, k.2.2.1, k.2.2.2.1, k.2.2.2.2.1, k.2.2.2.2.2.1, k.2.2.2.2.2.2.1⟩
 have HGL : Hid (St.goodL s d = s.tiers.filter (fun t => St.goodAt s d t.name)) := Lib.hid rfl
 obtain ⟨m0, m1, m2, m3, m4, m5, m6⟩ := HCL.out _ (Below.refl _ _)
 have hs1 : W1.heap.size = w.heap.size + 1 := hz1
 have HS1 := Lib.hid hs1
 clear hI r hcz hW1 hP hz1 hB1 hs1 m0 m1 m3 m4 m5 m6
 obtain ⟨nt, hnt⟩ : ∃ nt, s.tiers.length = nt := ⟨_, rfl⟩
 obtain ⟨nc, hnc⟩ : ∃ nc, s.copies.length = nc := ⟨_, rfl⟩
 have HNT := Lib.hid hnt; have HNC := Lib.hid hnc
 rw [hnt] at htl y1 HCL m2 HW1 HCR ⊢
 rw [hnc] at hcl y3 HCL HW1 HCR HPL ⊢
 clear hnt hnc
 go_enter Tryd.func17, Tryd.ntmps17
 go_wp2_with fail
 rw [HW1.out]
 go_wp2_with fail
 clear m2
 go_loopg [5, 14] nt (fun gk v i wr => ∃ j : Nat, j ≤ nt ∧ gk = nt - j ∧ i = .int .i64 j ∧ wr.ownsRow W1.heap.size 53 4 v ((s.tiers.take j).filter (fun t => St.goodAt s d t.name)).length (St.eT.flat ((s.tiers.take j).filter (fun t => St.goodAt s d t.name))) ∧ Below W1.heap.size W1 wr)
 case atStart => exact ⟨0, by omega, rfl, rfl, World.ownsRow_nil _ _ _ _, Below.refl _ _⟩
 case round =>
  obtain ⟨j, hj, rfl, rfl, hown, hB⟩ := hrel
  by_cases hlt : j < nt
  ·obtain ⟨x, hx⟩ : ∃ x, s.tiers[j]? = some x := ⟨_, List.getElem?_eq_getElem (by rw [HNT.out]; exact hlt)⟩
   obtain ⟨b, off, ha, hb, hcell⟩ := ((HI.out.keep (below_up HB1.out hB)).ti) (by rw [HNT.out]; omega)
   have c0 : wr.cell? ⟨b, off + j * 4, none⟩ = some (.string x.name) := hcell j x hx 0 (.string x.name) rfl
   have c1 : wr.cell? ⟨b, off + j * 4 + 1, none⟩ = some (.int .i64 x.room) := hcell j x hx 1 (.int .i64 x.room) rfl
   have c2 : wr.cell? ⟨b, off + j * 4 + 2, none⟩ = some (.int .i64 x.cost) := hcell j x hx 2 (.int .i64 x.cost) rfl
   have c3 : wr.cell? ⟨b, off + j * 4 + 3, none⟩ = some (.bool x.away) := hcell j x hx 3 (.bool x.away) rfl
   clear hcell
   have hft := St.filter_take (p := fun t => St.goodAt s d t.name) hx
   have hfl := St.filter_len (p := fun t => St.goodAt s d t.name) (L := s.tiers) j
   rw [HNT.out] at hfl
   have hnm := HTG.out x (List.mem_of_getElem? hx)
   obtain ⟨W3, hW3, hX3, hz3, hB3⟩ := box wr #[.string x.name, .int .i64 x.room, .int .i64 x.cost, .bool x.away] 53
   have HW3 := Lib.hid hW3
   have HAW := Lib.hid (below_up hB hB3)
   have hsz1 := hB.size
   have hsz3 := hB3.size
   have hown3 := own_keepE hown hB3
   have hne : some wr.heap.size ≠ u5.ownBlock := fun e => by have := (hown.lt _ e.symm).2; omega
   have HX : Hid (∀ V, Below W3.heap.size W3 V → V.cell? ⟨wr.heap.size, 0, none⟩ = some (.string x.name) ∧ V.cell? ⟨wr.heap.size, 1, none⟩ = some (.int .i64 x.room) ∧ V.cell? ⟨wr.heap.size, 2, none⟩ = some (.int .i64 x.cost) ∧ V.cell? ⟨wr.heap.size, 3, none⟩ = some (.bool x.away)) := Lib.hid fun V hv =>
    have k := hX3.keep hv
    ⟨(k.cell 0).trans rfl, (k.cell 1).trans rfl, (k.cell 2).trans rfl, (k.cell 3).trans rfl⟩
   have HKY := Lib.hid (fun V => HCK.out V x.name (by omega))
   obtain ⟨gp1, gp2⟩ := HGP.out x.name
   obtain ⟨key, hkey⟩ : ∃ key, St.key d x.name = key := ⟨_, rfl⟩
   rw [hkey] at HKY gp1 gp2
   have HPK := Lib.hid (fun V hV => HPL.out V hV key)
   have hj0 : (0 : Int) ≤ (j : Int) := by omega
   have hj1 : (j : Int) < (nt : Int) := by omega
   have HFT := Lib.hid hft
   obtain ⟨ps, hps⟩ : ∃ ps, St.pos St.ckey key s.copies = ps := ⟨_, rfl⟩
   rw [hps] at HPK gp2
   generalize ((s.tiers.take j).filter (fun t => St.goodAt s d t.name)) = G at *
   generalize hgd : St.goodAt s d x.name = gd at *
   clear hx hB hX3 hz3 hB3 hW3 hown hft hkey hps
   have hv : Below W3.heap.size W3 W3.drew := (Below.refl _ _).drew
   obtain ⟨e0, e1, e2, e3⟩ := HX.out _ hv
   obtain ⟨n0, n1, n2, n3, n4, n5, n6⟩ := HCL.out _ (below_up HAW.out hv)
   have hownd := own_keepE hown3 hv
   rw [ha] at HCR HCL n2 ⊢
   go_upto_region 5 with fail
   rw [HW3.out]
   clear c0 c1 c2 c3
   cases hk : St.hasK St.ckey s.copies key with
   | false =>
     have hgf := gp1 hk
     subst hgf
     rw [hk] at HPK
     go_region_held3 (fun w' => w'.cell? ⟨w.heap.size, 0, none⟩ = some (.int .i64 s.least) ∧ w'.cell? ⟨w.heap.size, 1, none⟩ = some (.int .i64 s.wait) ∧ w'.cell? ⟨w.heap.size, 2, none⟩ = some (.slice (some ⟨b, off, none⟩) nt a.tc) ∧ w'.cell? ⟨w.heap.size, 3, none⟩ = some (.slice a.fa s.files.length a.fc) ∧ w'.cell? ⟨w.heap.size, 4, none⟩ = some (.slice a.ca nc a.cc) ∧ w'.cell? ⟨w.heap.size, 5, none⟩ = some (.slice a.ha s.held.length a.hc) ∧ w'.cell? ⟨w.heap.size, 6, none⟩ = some (.slice a.ba s.bin.length a.bc) ∧ w'.cell? ⟨wr.heap.size, 0, none⟩ = some (.string x.name))
      (first | (with_reducible exact ⟨n0, n1, n2, n3, n4, n5, n6, e0⟩) | go_keep)
      (first
       | (go_at_call 20; (with_reducible refine (HCR.out _).mono ?_); rintro e wq ⟨rfl, hq⟩; have hv := below_up hv hq; obtain ⟨n0, n1, n2, n3, n4, n5, n6⟩ := HCL.out _ (below_up HAW.out hv); obtain ⟨e0, e1, e2, e3⟩ := HX.out _ hv)
       | (go_at_call 22; (with_reducible refine (HKY.out _).mono ?_); rintro e wo ⟨rfl, rfl⟩)
       | (go_at_call 21; (with_reducible refine (HPK.out _ (below_up HB1.out (below_up HAW.out hv))).mono ?_); rintro e wp ⟨rfl, hq⟩; have hv := below_up hv hq; obtain ⟨n0, n1, n2, n3, n4, n5, n6⟩ := HCL.out _ (below_up HAW.out hv); obtain ⟨e0, e1, e2, e3⟩ := HX.out _ hv)
       | fail)
     go_wp2_with fail
     have hownp := own_keepE hown3 hv
     have hBp := below_up HAW.out hv
     rw [← ha]
     go_roundg (nt - (j + 1))
     case rel => exact ⟨j + 1, by omega, rfl, by go_num, by rw [HFT.out, if_neg (by decide), List.append_nil]; exact hownp, hBp⟩
     case measure => omega
   | true =>
     obtain ⟨c, hc, _, hgc⟩ := gp2 hk
     rw [hk] at HPK
     have hpc : ps < nc := by have := (List.getElem?_eq_some_iff.1 hc).1; rw [HNC.out] at this; exact this
     go_region_held3 (fun w' => w'.cell? ⟨w.heap.size, 0, none⟩ = some (.int .i64 s.least) ∧ w'.cell? ⟨w.heap.size, 1, none⟩ = some (.int .i64 s.wait) ∧ w'.cell? ⟨w.heap.size, 2, none⟩ = some (.slice (some ⟨b, off, none⟩) nt a.tc) ∧ w'.cell? ⟨w.heap.size, 3, none⟩ = some (.slice a.fa s.files.length a.fc) ∧ w'.cell? ⟨w.heap.size, 4, none⟩ = some (.slice a.ca nc a.cc) ∧ w'.cell? ⟨w.heap.size, 5, none⟩ = some (.slice a.ha s.held.length a.hc) ∧ w'.cell? ⟨w.heap.size, 6, none⟩ = some (.slice a.ba s.bin.length a.bc) ∧ w'.cell? ⟨wr.heap.size, 0, none⟩ = some (.string x.name))
      (first | (with_reducible exact ⟨n0, n1, n2, n3, n4, n5, n6, e0⟩) | go_keep)
      (first
       | (go_at_call 20; (with_reducible refine (HCR.out _).mono ?_); rintro e wq ⟨rfl, hq⟩; have hv := below_up hv hq; obtain ⟨n0, n1, n2, n3, n4, n5, n6⟩ := HCL.out _ (below_up HAW.out hv); obtain ⟨e0, e1, e2, e3⟩ := HX.out _ hv)
       | (go_at_call 22; (with_reducible refine (HKY.out _).mono ?_); rintro e wo ⟨rfl, rfl⟩)
       | (go_at_call 21; (with_reducible refine (HPK.out _ (below_up HB1.out (below_up HAW.out hv))).mono ?_); rintro e wp ⟨rfl, hq⟩; have hv := below_up hv hq; obtain ⟨n0, n1, n2, n3, n4, n5, n6⟩ := HCL.out _ (below_up HAW.out hv); obtain ⟨e0, e1, e2, e3⟩ := HX.out _ hv)
       | fail)
     obtain ⟨b2, o2, ha2, hb2, hcell2⟩ := (HI.out.keep (below_up HB1.out (below_up HAW.out hv))).co (by rw [HNC.out]; omega)
     have f0 : wp.cell? ⟨b2, o2 + ps * 4 + 2, none⟩ = some (.bool c.good) := hcell2 ps c hc 2 (.bool c.good) rfl
     have hps0 : (0 : Int) ≤ (ps : Int) := by omega
     have hps1 : (ps : Int) < (nc : Int) := by omega
     clear hcell2 hc
     rw [ha2] at n4 ⊢
     have hownp := own_keepE hown3 hv
     have hBp := below_up HAW.out hv
     have hvs := hv.size
     rw [← hgc] at f0
     clear hgc
     cases gd
     ·go_wp2_with fail
      rw [← ha, ← ha2]
      go_roundg (nt - (j + 1))
      case rel => exact ⟨j + 1, by omega, rfl, by go_num, by rw [HFT.out, if_neg (by decide), List.append_nil]; exact hownp, hBp⟩
      case measure => omega
     ·obtain ⟨FL, hFL⟩ : ∃ FL, St.eT.flat G = FL := ⟨_, rfl⟩
      obtain ⟨m, hm⟩ : ∃ m, G.length = m := ⟨_, rfl⟩
      have HFL : Hid (St.eT.flat (G ++ [x]) = FL ++ [.string x.name, .int .i64 x.room, .int .i64 x.cost, .bool x.away]) := Lib.hid (by rw [Enc.flat_snoc, hFL]; rfl)
      have HM : Hid ((G ++ [x]).length = m + 1) := Lib.hid (by rw [List.length_append, hm]; rfl)
      rw [hFL, hm] at hownp
      rw [hm] at hfl
      clear hFL hm hown3 hownd
      go_wp2_with (at_builtin; refine list_appT rfl _ _ rfl _ _ m FL (by rfl) (by rfl) hownp (by omega) (by omega) (by rfl) (by simp [Value.oneCell']) ?_; intro g8 cap8 w8 hown8 hgrow8; have hB8 := below_grownE (below_allocs hBp _) (hownp.alloc _) hgrow8 (by simp; omega))
      rw [← ha, ← ha2]
      go_roundg (nt - (j + 1))
      case rel => exact ⟨j + 1, by omega, rfl, by go_num, by rw [HFT.out, if_pos (by first | rfl | trivial), HFL.out, HM.out]; exact hown8, hB8⟩
      case measure => omega
  ·obtain rfl : nt = j := by omega
   rw [← HNT.out, List.take_length, ← HGL.out] at hown
   have HO := Lib.hid ((OwnV.of_own hown).down (show w.heap.size ≤ W1.heap.size by have := HS1.out; omega))
   obtain ⟨g, cap, rfl⟩ := ownV_slice (OwnV.of_own hown)
   clear hown
   go_wp2_with fail
   go_ret
   exact ⟨g, cap, rfl, HO.out, below_up HB1.out hB⟩
theorem infoTirS : (Tryd.prog.info? 53).map (·.size) = some 4 := by kernel_rfl
theorem Blk.four {w : World} {b : Nat} {t : TypeId} {x0 x1 x2 x3 : Value} (h : Blk w b #[x0, x1, x2, x3] t) : w.cell? ⟨b, 0, none⟩ = some x0 ∧ w.cell? ⟨b, 1, none⟩ = some x1 ∧ w.cell? ⟨b, 2, none⟩ = some x2 ∧ w.cell? ⟨b, 3, none⟩ = some x3 :=
 ⟨by rw [h.cell]; rfl, by rw [h.cell]; rfl, by rw [h.cell]; rfl, by rw [h.cell]; rfl⟩
theorem Blk.setRowAt {w : World} {b : Nat} {c : Array Value} {t : TypeId} (h : Blk w b c t) (cs : Array Value) : Blk (w.setRow b cs) b cs t := setRow_heap w b c cs t (0, 0) h
theorem Blk.setRowOther {w : World} {b b' : Nat} {c : Array Value} {t : TypeId} (h : Blk w b c t) (hb : b ≠ b') (cs : Array Value) : Blk (w.setRow b' cs) b c t := h.of_block (setRow_other w b' b cs hb)
theorem St.cheap_at {L : List Tir} {t0 : Tir} (h : L[0]? = some t0) : St.cheap L = St.best t0 L := by
 cases L with
 | nil => simp at h
 | cons t r =>
   obtain rfl : t = t0 := by simpa using h
   rfl
theorem cheapest_is (L : List Tir) (hL : 0 < L.length) (hL8 : L.length ≤ 1000) (ad : Option Addr) (ca : Nat) (w : World) (hr : RowE St.eT w ad L) :
  Calls Tryd.prog 19 #[.slice ad L.length ca] w fun e w' => e = .returned (.agg #[.string (St.cheap L).name, .int .i64 (St.cheap L).room, .int .i64 (St.cheap L).cost, .bool (St.cheap L).away]) ∧ Below w.heap.size w w' := by
 obtain ⟨t0, ht0⟩ : ∃ t0, L[0]? = some t0 := ⟨_, List.getElem?_eq_getElem hL⟩
 have HCH := Lib.hid (St.cheap_at ht0)
 have HR := Lib.hid hr
 obtain ⟨W1, hW1, hP, hz1, hB1⟩ := box w #[.string ⟨#[]⟩, .int .i64 0, .int .i64 0, .bool false] 53
 obtain ⟨W2, hW2, hQ, hz2, hB2⟩ := box W1 #[.string t0.name, .int .i64 t0.room, .int .i64 t0.cost, .bool t0.away] 53
 have HW1 := Lib.hid hW1; have HW2 := Lib.hid hW2
 have HP := Lib.hid (hP.keep hB2)
 have hlt1 : w.heap.size < W1.heap.size := by omega
 have HQ := Lib.hid hQ
 have HBB := Lib.hid (below_up hB1 hB2)
 have HBS : Hid (∀ j x, L[j]? = some x → St.best t0 (L.take (j + 1)) = if x.cost < (St.best t0 (L.take j)).cost then x else St.best t0 (L.take j)) := Lib.hid fun j x h => St.best_snoc h
 obtain ⟨b, off, ha, hb, hcell⟩ := hr.keep hB1 hL
 have c0 : W1.cell? ⟨b, off, none⟩ = some (.string t0.name) := by have := hcell 0 t0 ht0 0 (.string t0.name) rfl; simpa using this
 have c1 : W1.cell? ⟨b, off + 1, none⟩ = some (.int .i64 t0.room) := by have := hcell 0 t0 ht0 1 (.int .i64 t0.room) rfl; simpa using this
 have c2 : W1.cell? ⟨b, off + 2, none⟩ = some (.int .i64 t0.cost) := by have := hcell 0 t0 ht0 2 (.int .i64 t0.cost) rfl; simpa using this
 have c3 : W1.cell? ⟨b, off + 3, none⟩ = some (.bool t0.away) := by have := hcell 0 t0 ht0 3 (.bool t0.away) rfl; simpa using this
 obtain ⟨n, hn⟩ : ∃ n, L.length = n := ⟨_, rfl⟩
 have HN := Lib.hid hn
 rw [hn] at hL hL8 ⊢
 have hn0 : (0 : Int) < (n : Int) := by omega
 clear hr hcell hn hW1 hW2 hP hQ hz1 hz2 hB1 hB2
 rw [ha]
 go_enter Tryd.func19, Tryd.ntmps19
 go_upto_region 1 with fail
 rw [HW1.out]
 go_wp2_with fail
 rw [HW2.out]
 clear c0 c1 c2 c3
 go_loopg [11] n (fun gk i wr => ∃ j : Nat, j ≤ n ∧ gk = n - j ∧ i = .int .i64 j ∧ Blk wr W1.heap.size #[.string (St.best t0 (L.take j)).name, .int .i64 (St.best t0 (L.take j)).room, .int .i64 (St.best t0 (L.take j)).cost, .bool (St.best t0 (L.take j)).away] 53 ∧ Blk wr w.heap.size #[.string ⟨#[]⟩, .int .i64 0, .int .i64 0, .bool false] 53 ∧ Below w.heap.size w wr)
 case atStart => exact ⟨0, by omega, rfl, rfl, HQ.out, HP.out, HBB.out⟩
 case round =>
  obtain ⟨j, hj, rfl, rfl, hQ, hP, hB⟩ := hrel
  by_cases hlt : j < n
  ·obtain ⟨x, hx⟩ : ∃ x, L[j]? = some x := ⟨_, List.getElem?_eq_getElem (by rw [HN.out]; exact hlt)⟩
   obtain ⟨b', off', ha', hb', hcell⟩ := HR.out.keep hB (by rw [HN.out]; omega)
   rw [ha] at ha'
   injection ha' with ha'
   injection ha' with e1 e2
   subst e1 e2
   have c0 : wr.cell? ⟨b, off + j * 4, none⟩ = some (.string x.name) := hcell j x hx 0 (.string x.name) rfl
   have c1 : wr.cell? ⟨b, off + j * 4 + 1, none⟩ = some (.int .i64 x.room) := hcell j x hx 1 (.int .i64 x.room) rfl
   have c2 : wr.cell? ⟨b, off + j * 4 + 2, none⟩ = some (.int .i64 x.cost) := hcell j x hx 2 (.int .i64 x.cost) rfl
   have c3 : wr.cell? ⟨b, off + j * 4 + 3, none⟩ = some (.bool x.away) := hcell j x hx 3 (.bool x.away) rfl
   obtain ⟨W3, hW3, hX3, hz3, hB3⟩ := box wr #[.string x.name, .int .i64 x.room, .int .i64 x.cost, .bool x.away] 53
   have HW3 := Lib.hid hW3
   have HQ3 := Lib.hid (hQ.keep hB3); have HP3 := Lib.hid (hP.keep hB3); have HB3 := Lib.hid (below_up hB hB3)
   obtain ⟨d0, d1, d2, d3⟩ := hX3.four
   have hbs := HBS.out j x hx
   obtain ⟨z0, z1, z2, z3⟩ := (hQ.keep hB3).four
   generalize St.best t0 (L.take j) = y at *
   have HS := Lib.hid hbs
   have hj0 : (0 : Int) ≤ (j : Int) := by omega
   have hj1 : (j : Int) < (n : Int) := by omega
   clear hx hcell hW3 hX3 hz3 hB3 hB hQ hP hbs
   go_upto_region 5 with fail
   rw [HW3.out]
   clear c0 c1 c2 c3
   by_cases hc : x.cost < y.cost
   ·have hE := HS.out
    rw [if_pos hc] at hE
    go_wp2_with (refine wpList_store_row rfl 53 _ _ rfl W1.heap.size #[.string x.name, .int .i64 x.room, .int .i64 x.cost, .bool x.away] rfl rfl 53 _ HQ3.out infoTirS rfl (by simp [Value.oneCell']) ?_)
    go_roundg (n - (j + 1))
    case rel => exact ⟨j + 1, by omega, rfl, by go_num, by rw [hE]; exact HQ3.out.setRowAt _, HP3.out.setRowOther (by omega) _, below_setRow HB3.out (by omega) _⟩
    case measure => omega
   ·have hE := HS.out
    rw [if_neg hc] at hE
    go_wp2_with fail
    go_roundg (n - (j + 1))
    case rel => exact ⟨j + 1, by omega, rfl, by go_num, by rw [hE]; exact HQ3.out, HP3.out, HB3.out⟩
    case measure => omega
  ·obtain rfl : n = j := by omega
   rw [← HN.out, List.take_length, ← HCH.out] at hQ
   obtain ⟨z0, z1, z2, z3⟩ := hQ.four
   go_wp2_with (refine wpList_store_row rfl 53 _ _ rfl w.heap.size #[.string (St.cheap L).name, .int .i64 (St.cheap L).room, .int .i64 (St.cheap L).cost, .bool (St.cheap L).away] rfl rfl 53 _ hP infoTirS rfl (by simp [Value.oneCell']) ?_)
   have hrow := setRow_heap wr w.heap.size _ #[.string (St.cheap L).name, .int .i64 (St.cheap L).room, .int .i64 (St.cheap L).cost, .bool (St.cheap L).away] 53 (0, 0) hP
   refine bodyPost_ret (v := .agg #[.string (St.cheap L).name, .int .i64 (St.cheap L).room, .int .i64 (St.cheap L).cost, .bool (St.cheap L).away]) (results_cell_row rfl _ _ w.heap.size 53 _ (0, 0) _ rfl hrow Tryd.underlying53 rfl infoTirS) rfl ⟨rfl, below_setRow hB (by omega) _⟩
namespace St
def mkb (s : Sto) (d : ByteArray) : Bool := decide ((filD s.files d).kind = 3) && decide (0 < (goodL s (filD s.files d).frm).length)
theorem frm16 {s : Sto} (r : Right s) {d : ByteArray} (h : (filD s.files d).kind = 3 ∨ (filD s.files d).kind = 2) : (filD s.files d).frm.size = 16 ∧ kindOf s.files (filD s.files d).frm = 1 := by
 cases hf : fileOf s.files d with
 | none =>
   have : (filD s.files d).kind = 0 := by unfold filD; rw [hf]; rfl
   omega
 | some f =>
   have e : filD s.files d = f := by unfold filD; rw [hf]; rfl
   rw [e] at h ⊢
   have h1 := r.frm f (find_mem hf).1 (by omega)
   exact ⟨kind16 r h1, h1⟩
end St
theorem makeable_is (s : Sto) (a : StA) (mb : Nat) (d : ByteArray) (w : World) (hI : StIn w s a) (hM : FMap w mb s.files) (r : St.Right s) (hd : d.size ≤ 9223372036854775807) :
  Calls Tryd.prog 18 #[.agg #[.int .i64 s.least, .int .i64 s.wait, .slice a.ta s.tiers.length a.tc, .slice a.fa s.files.length a.fc, .slice a.ca s.copies.length a.cc, .slice a.ha s.held.length a.hc, .slice a.ba s.bin.length a.bc, .map (some mb)], .string d] w fun e w' => e = .returned (.bool (St.mkb s d)) ∧ Below w.heap.size w w' := by
 obtain ⟨W1, hW1, hP, hz1, hB1⟩ := box w #[.int .i64 s.least, .int .i64 s.wait, .slice a.ta s.tiers.length a.tc, .slice a.fa s.files.length a.fc, .slice a.ca s.copies.length a.cc, .slice a.ha s.held.length a.hc, .slice a.ba s.bin.length a.bc, .map (some mb)] 43
 have HW1 := Lib.hid hW1; have HB1 := Lib.hid hB1
 have q7 : W1.cell? ⟨w.heap.size, 7, none⟩ = some (.map (some mb)) := hP.eight.2.2.2.2.2.2.2
 obtain ⟨f, hlk, hf⟩ := FMap.kind (hM.keep hB1) r.fup hd
 obtain ⟨W2, hW2, hX, hz2, hB2⟩ := box W1 #[.string f.dig, .int .i64 f.size, .int .i64 f.kind, .string f.frm] 47
 have HW2 := Lib.hid hW2
 have HBB := Lib.hid (below_up hB1 hB2)
 have h16 : f.kind = 3 → f.frm.size = 16 := fun h => by rw [hf] at h ⊢; exact (St.frm16 r (.inl h)).1
 have hmk : St.mkb s d = (decide (f.kind = 3) && decide (0 < (St.goodL s f.frm).length)) := by rw [hf]; rfl
 have HGD := Lib.hid (fun h => good_is s a mb f.frm W2 (hI.keep HBB.out) r (h16 h))
 have HMK := Lib.hid hmk
 obtain ⟨p0, p1, p2, p3, p4, p5, p6, p7⟩ := (hP.keep hB2).eight
 obtain ⟨x0, x1, x2, x3⟩ := hX.four
 clear hI hM r hW1 hP hz1 hB1 hW2 hX hz2 hB2 hf h16 hmk
 go_enter Tryd.func18, Tryd.ntmps18
 go_wp2_with fail
 rw [HW1.out]
 go_upto_region 2 with fail
 rw [hlk]
 go_upto_region 2 with fail
 rw [HW2.out]
 clear q7
 by_cases hk : f.kind = 3
 ·have HG := Lib.hid (HGD.out hk)
  have hmk := HMK.out
  rw [hk] at hmk
  have hkb : (f.kind == 3) = true := by simpa using hk
  generalize f.kind = kd at *
  subst hk
  have HMZ := Lib.hid hmk
  clear hmk hlk
  generalize St.goodL s f.frm = GL at *
  obtain ⟨m, hm⟩ : ∃ m, GL.length = m := ⟨_, rfl⟩
  have hmz := HMZ.out
  unfold TirPost at HG
  rw [hm] at hmz HG
  have HMY := Lib.hid hmz
  clear hmz HMZ hm
  go_wp2_with (go_at_call 17; (with_reducible refine HG.out.mono ?_); rintro e w4 ⟨g, cap, rfl, ho, hB4⟩)
  go_ret
  exact ⟨ret_bool (by rw [HMY.out]; simp), below_up HBB.out hB4⟩
 ·have hkb : (f.kind == 3) = false := by simpa using hk
  have hmk : St.mkb s d = false := by rw [HMK.out]; simp [hk]
  have HMY := Lib.hid hmk
  clear hmk hlk
  go_wp2_with fail
  go_ret
  exact ⟨ret_bool HMY.out.symm, HBB.out⟩
theorem OwnC.setCell {w : World} {B k g n cap : Nat} {e : TypeId} {xs : List Value} (h : OwnC w B e k g n cap xs) {p : Nat} (hp : p < n * k) (v : Value) : OwnC (w.setCell ⟨g, p, none⟩ v) B e k g n cap (xs.set p v) := by
 obtain ⟨cur, hB, hc, hn, hm, hs, ht, hl⟩ := h
 have hb : Blk w g cur e := hc
 refine ⟨cur.setIfInBounds p v, hB, hb.set p v, hn, hm, by simpa using hs, ?_, by simpa using hl⟩
 rw [← ht, Array.toList_setIfInBounds, List.take_set]
theorem OwnV.setFar {w : World} {B k n g p : Nat} {e e' : TypeId} {v u : Value} {xs : List Value} {cur : Array Value} (h : OwnV w B e k v n xs) (hg : w.heap[g]? = some (.cells cur e' (0, 0))) (hne : e ≠ e') : OwnV (w.setCell ⟨g, p, none⟩ u) B e k v n xs := by
 rcases h with h | ⟨g0, cap, h, hc⟩
 ·exact .inl h
 ·refine .inr ⟨g0, cap, h, hc.of_block (Below.heap_setCell w _ u g0 ?_)⟩
  obtain ⟨cur0, _, h0, _⟩ := hc
  show g0 ≠ g
  rintro rfl
  rw [hg] at h0
  cases h0
  exact hne rfl
theorem Enc.flat_set1 {α : Type} (E : Enc α) (v : Value) (j : Nat) (hj : j < E.k) (x x' : α) (hx : E.cells x' = (E.cells x).set j v) : ∀ (L : List α) (i : Nat), L[i]? = some x → E.flat (L.set i x') = (E.flat L).set (i * E.k + j) v
 | [], i, h => by simp at h
 | y :: L, 0, h => by
   obtain rfl : y = x := by simpa using h
   rw [List.set_cons_zero, flat_cons, flat_cons, hx, Nat.zero_mul, Nat.zero_add, List.set_append_left _ _ (by rw [E.len]; exact hj)]
 | y :: L, i + 1, h => by
   rw [List.getElem?_cons_succ] at h
   have ih := Enc.flat_set1 E v j hj x x' hx L i h
   rw [List.set_cons_succ, flat_cons, flat_cons, ih, List.set_append_right _ _ (by rw [E.len, Nat.succ_mul]; omega), E.len, show (i + 1) * E.k + j - E.k = i * E.k + j by rw [Nat.succ_mul]; omega]
theorem StOwn.setCop {w : World} {B : Nat} {s : Sto} {a : StA} (h : StOwn w B s a) {j : Nat} {c c' : Cop} (hc : s.copies[j]? = some c) {i : Nat} {v : Value} (hi : i < 4) (hv : St.eC.cells c' = (St.eC.cells c).set i v) :
  ∃ g, a.ca = some ⟨g, 0, none⟩ ∧ B ≤ g ∧ g < w.heap.size ∧ w.cell? ⟨g, j * 4 + i, none⟩ = (St.eC.cells c)[i]? ∧ w.frozen? ⟨g, j * 4 + i, none⟩ = false ∧ StOwn (w.setCell ⟨g, j * 4 + i, none⟩ v) B { s with copies := s.copies.set j c' } a := by
 have hlt := (List.getElem?_eq_some_iff.1 hc).1
 obtain ⟨g, cap, hsl, hco⟩ : ∃ g cap, (Value.slice a.ca s.copies.length a.cc) = .slice (some ⟨g, 0, none⟩) s.copies.length cap ∧ OwnC w B 62 4 g s.copies.length cap (St.eC.flat s.copies) := by
  rcases h.co with ⟨h0, h1, _⟩ | h1
  ·omega
  ·exact h1
 have ha : a.ca = some ⟨g, 0, none⟩ := by injection hsl
 have hcap : a.cc = cap := by injection hsl
 have hb : j * 4 + i < s.copies.length * 4 := by omega
 obtain ⟨cur, _, hcur, _⟩ := id hco
 refine ⟨g, ha, hco.lt.1, hco.lt.2, ?_, frozen_of hcur _, h.ti.setFar hcur (by decide), h.fi.setFar hcur (by decide), ?_, h.he.setFar hcur (by decide), h.bi.setFar hcur (by decide)⟩
 ·rw [hco.cellAt _ hb]
  exact St.eC.flat_get s.copies j c hc i hi
 ·have h1 := hco.setCell hb v
  have h2 : St.eC.flat (s.copies.set j c') = (St.eC.flat s.copies).set (j * 4 + i) v := Enc.flat_set1 St.eC v i hi c c' hv s.copies j hc
  rw [← h2] at h1
  show OwnV _ B _ 4 (.slice a.ca (s.copies.set j c').length a.cc) (s.copies.set j c').length _
  rw [List.length_set, ha, hcap]
  exact .inr ⟨g, cap, rfl, h1⟩
theorem StOwn.copAt {w : World} {B : Nat} {s : Sto} {a : StA} (h : StOwn w B s a) {j : Nat} {c : Cop} (hc : s.copies[j]? = some c) :
  ∃ g, a.ca = some ⟨g, 0, none⟩ ∧ B ≤ g ∧ g < w.heap.size ∧ (∀ i, i < 4 → w.cell? ⟨g, j * 4 + i, none⟩ = (St.eC.cells c)[i]? ∧ w.frozen? ⟨g, j * 4 + i, none⟩ = false) ∧
    (∀ (c' : Cop) (i : Nat) (v : Value), i < 4 → St.eC.cells c' = (St.eC.cells c).set i v → StOwn (w.setCell ⟨g, j * 4 + i, none⟩ v) B { s with copies := s.copies.set j c' } a) := by
 obtain ⟨g, hga, h1, h2, h3, h4, h5⟩ := h.setCop hc (c' := { c with good := c.good }) (i := 2) (v := .bool c.good) (by decide) rfl
 have key : ∀ (c' : Cop) (i : Nat) (v : Value), i < 4 → St.eC.cells c' = (St.eC.cells c).set i v → w.cell? ⟨g, j * 4 + i, none⟩ = (St.eC.cells c)[i]? ∧ w.frozen? ⟨g, j * 4 + i, none⟩ = false ∧ StOwn (w.setCell ⟨g, j * 4 + i, none⟩ v) B { s with copies := s.copies.set j c' } a := by
  intro c' i v hi hv
  obtain ⟨g', hga', _, _, k3, k4, k5⟩ := h.setCop hc (c' := c') (i := i) (v := v) hi hv
  rw [hga] at hga'
  injection hga' with e
  injection e with e
  subst e
  exact ⟨k3, k4, k5⟩
 refine ⟨g, hga, h1, h2, fun i hi => ?_, fun c' i v hi hv => (key c' i v hi hv).2.2⟩
 have hz : (St.eC.cells c)[i]? = some ((St.eC.cells c)[i]'(by rw [St.eC.len]; exact hi)) := List.getElem?_eq_getElem _
 have hs : St.eC.cells c = (St.eC.cells c).set i ((St.eC.cells c)[i]'(by rw [St.eC.len]; exact hi)) := by simp
 have := key c i _ hi hs
 exact ⟨this.1, this.2.1⟩

theorem neTir (n : ByteArray) (r c : Int) (y : Bool) (w : World) : Sem.run Tryd.prog (binOp .neq 53 (.agg #[.string n, .int .i64 r, .int .i64 c, .bool y]) (.agg #[.string n, .int .i64 r, .int .i64 c, .bool y])) w = .ok (.bool false) w := by
 have u3 := Tryd.underlying3
 have a3 := Tryd.isAgg3
 have z3 := Tryd.sizeOf3
 have u9 := Tryd.underlying9
 have a9 := Tryd.isAgg9
 have z9 := Tryd.sizeOf9
 have u4 := Tryd.underlying4
 have a4 := Tryd.isAgg4
 have z4 := Tryd.sizeOf4
 have hS : Tryd.prog.underlying 53 = some (.struct (Tryd.prog.fieldsOf 53)) := by kernel_rfl
 have hp : Tryd.prog.stoodInHeld 53 = false := by kernel_rfl
 rw [run_neq_struct, show (10000 : Nat) = 9999 + 1 from rfl, run_equalIn_agg w 9999 53 _ _ hS hp]
 simp only [Program.fieldsOf, Tryd.underlying53]
 go_simp
 try simp

theorem neFil (n : ByteArray) (r c : Int) (y : ByteArray) (w : World) : Sem.run Tryd.prog (binOp .neq 47 (.agg #[.string n, .int .i64 r, .int .i64 c, .string y]) (.agg #[.string n, .int .i64 r, .int .i64 c, .string y])) w = .ok (.bool false) w := by
 have u3 := Tryd.underlying3
 have a3 := Tryd.isAgg3
 have z3 := Tryd.sizeOf3
 have u9 := Tryd.underlying9
 have a9 := Tryd.isAgg9
 have z9 := Tryd.sizeOf9
 have u4 := Tryd.underlying4
 have a4 := Tryd.isAgg4
 have z4 := Tryd.sizeOf4
 have hS : Tryd.prog.underlying 47 = some (.struct (Tryd.prog.fieldsOf 47)) := by kernel_rfl
 have hp : Tryd.prog.stoodInHeld 47 = false := by kernel_rfl
 rw [run_neq_struct, show (10000 : Nat) = 9999 + 1 from rfl, run_equalIn_agg w 9999 47 _ _ hS hp]
 simp only [Program.fieldsOf, Tryd.underlying47]
 go_simp
 try simp

theorem neCop (n r : ByteArray) (c : Bool) (y : Int) (w : World) : Sem.run Tryd.prog (binOp .neq 62 (.agg #[.string n, .string r, .bool c, .int .i64 y]) (.agg #[.string n, .string r, .bool c, .int .i64 y])) w = .ok (.bool false) w := by
 have u3 := Tryd.underlying3
 have a3 := Tryd.isAgg3
 have z3 := Tryd.sizeOf3
 have u9 := Tryd.underlying9
 have a9 := Tryd.isAgg9
 have z9 := Tryd.sizeOf9
 have u4 := Tryd.underlying4
 have a4 := Tryd.isAgg4
 have z4 := Tryd.sizeOf4
 have hS : Tryd.prog.underlying 62 = some (.struct (Tryd.prog.fieldsOf 62)) := by kernel_rfl
 have hp : Tryd.prog.stoodInHeld 62 = false := by kernel_rfl
 rw [run_neq_struct, show (10000 : Nat) = 9999 + 1 from rfl, run_equalIn_agg w 9999 62 _ _ hS hp]
 simp only [Program.fieldsOf, Tryd.underlying62]
 go_simp
 try simp

theorem neGon (n : ByteArray) (c : Int) (w : World) : Sem.run Tryd.prog (binOp .neq 88 (.agg #[.string n, .int .i64 c]) (.agg #[.string n, .int .i64 c])) w = .ok (.bool false) w := by
 have u3 := Tryd.underlying3
 have a3 := Tryd.isAgg3
 have z3 := Tryd.sizeOf3
 have u9 := Tryd.underlying9
 have a9 := Tryd.isAgg9
 have z9 := Tryd.sizeOf9
 have u4 := Tryd.underlying4
 have a4 := Tryd.isAgg4
 have z4 := Tryd.sizeOf4
 have hS : Tryd.prog.underlying 88 = some (.struct (Tryd.prog.fieldsOf 88)) := by kernel_rfl
 have hp : Tryd.prog.stoodInHeld 88 = false := by kernel_rfl
 rw [run_neq_struct, show (10000 : Nat) = 9999 + 1 from rfl, run_equalIn_agg w 9999 88 _ _ hS hp]
 simp only [Program.fieldsOf, Tryd.underlying88]
 go_simp
 try simp
theorem guardTir : Tryd.prog.eqGuardType Tryd.prog.depth 53 = false := by kernel_rfl
theorem guardFil : Tryd.prog.eqGuardType Tryd.prog.depth 47 = false := by kernel_rfl
theorem guardCop : Tryd.prog.eqGuardType Tryd.prog.depth 62 = false := by kernel_rfl
theorem guardGon : Tryd.prog.eqGuardType Tryd.prog.depth 88 = false := by kernel_rfl
theorem eqT_same (O : List Tir) (a b : Option Addr) (ca cb : Nat) (w : World) (hx : RowE St.eT w a O) (hy : RowE St.eT w b O) (hn : O.length ≤ 9223372036854775807) :
  Calls Tryd.prog 76 #[.slice a O.length ca, .slice b O.length cb] w fun e w' => e = .returned (.bool true) ∧ Below w.heap.size w w' := by
 have HX := Lib.hid hx; have HY := Lib.hid hy
 obtain ⟨n, hnn⟩ : ∃ n, O.length = n := ⟨_, rfl⟩
 have HN := Lib.hid hnn
 rw [hnn] at hn ⊢
 have hl' : ((n : Int) == (n : Int)) = true := by simp
 clear hx hy hnn
 go_enter Tryd.func76, Tryd.ntmps76
 go_wp2_with fail
 go_loopg [13] n (fun gk i wr => ∃ j : Nat, j ≤ n ∧ gk = n - j ∧ i = .int .i64 j ∧ Below w.heap.size w wr)
 case atStart => exact ⟨0, by omega, rfl, rfl, Below.refl _ _⟩
 case round =>
  obtain ⟨j, hj, rfl, rfl, hB⟩ := hrel
  by_cases hlt : j < n
  ·obtain ⟨x, hq⟩ : ∃ x, O[j]? = some x := ⟨_, List.getElem?_eq_getElem (by rw [HN.out]; exact hlt)⟩
   obtain ⟨b1, o1, ha1, hb1, hc1⟩ := HX.out.keep hB (by rw [HN.out]; omega)
   obtain ⟨b2, o2, ha2, hb2, hc2⟩ := HY.out.keep hB (by rw [HN.out]; omega)
   have c0 : wr.cell? ⟨b1, o1 + j * 4, none⟩ = some (.string x.name) := hc1 j x hq 0 (.string x.name) rfl
   have c1 : wr.cell? ⟨b1, o1 + j * 4 + 1, none⟩ = some (.int .i64 x.room) := hc1 j x hq 1 (.int .i64 x.room) rfl
   have c2 : wr.cell? ⟨b1, o1 + j * 4 + 2, none⟩ = some (.int .i64 x.cost) := hc1 j x hq 2 (.int .i64 x.cost) rfl
   have c3 : wr.cell? ⟨b1, o1 + j * 4 + 3, none⟩ = some (.bool x.away) := hc1 j x hq 3 (.bool x.away) rfl
   have d0 : wr.cell? ⟨b2, o2 + j * 4, none⟩ = some (.string x.name) := hc2 j x hq 0 (.string x.name) rfl
   have d1 : wr.cell? ⟨b2, o2 + j * 4 + 1, none⟩ = some (.int .i64 x.room) := hc2 j x hq 1 (.int .i64 x.room) rfl
   have d2 : wr.cell? ⟨b2, o2 + j * 4 + 2, none⟩ = some (.int .i64 x.cost) := hc2 j x hq 2 (.int .i64 x.cost) rfl
   have d3 : wr.cell? ⟨b2, o2 + j * 4 + 3, none⟩ = some (.bool x.away) := hc2 j x hq 3 (.bool x.away) rfl
   have hj0 : (0 : Int) ≤ (j : Int) := by omega
   have hj1 : (j : Int) < (n : Int) := by omega
   have hne := neTir x.name x.room x.cost x.away
   have hgd := guardTir
   clear hc1 hc2 hq
   rw [ha1, ha2]
   go_wp2_with fail
   go_quiet (fail)
   go_wp2_with fail
   rw [← ha1, ← ha2]
   go_roundg (n - (j + 1))
   case rel => exact ⟨j + 1, by omega, rfl, by go_num, below_drewN hB _⟩
   case measure => omega
  ·obtain rfl : j = n := by omega
   have hjn : ¬ ((j : Int) < (j : Int)) := by omega
   go_wp2_with fail
   go_ret
   exact ⟨rfl, hB⟩
theorem eqF_same (O : List Fil) (a b : Option Addr) (ca cb : Nat) (w : World) (hx : RowE St.eF w a O) (hy : RowE St.eF w b O) (hn : O.length ≤ 9223372036854775807) :
  Calls Tryd.prog 77 #[.slice a O.length ca, .slice b O.length cb] w fun e w' => e = .returned (.bool true) ∧ Below w.heap.size w w' := by
 have HX := Lib.hid hx; have HY := Lib.hid hy
 obtain ⟨n, hnn⟩ : ∃ n, O.length = n := ⟨_, rfl⟩
 have HN := Lib.hid hnn
 rw [hnn] at hn ⊢
 have hl' : ((n : Int) == (n : Int)) = true := by simp
 clear hx hy hnn
 go_enter Tryd.func77, Tryd.ntmps77
 go_wp2_with fail
 go_loopg [13] n (fun gk i wr => ∃ j : Nat, j ≤ n ∧ gk = n - j ∧ i = .int .i64 j ∧ Below w.heap.size w wr)
 case atStart => exact ⟨0, by omega, rfl, rfl, Below.refl _ _⟩
 case round =>
  obtain ⟨j, hj, rfl, rfl, hB⟩ := hrel
  by_cases hlt : j < n
  ·obtain ⟨x, hq⟩ : ∃ x, O[j]? = some x := ⟨_, List.getElem?_eq_getElem (by rw [HN.out]; exact hlt)⟩
   obtain ⟨b1, o1, ha1, hb1, hc1⟩ := HX.out.keep hB (by rw [HN.out]; omega)
   obtain ⟨b2, o2, ha2, hb2, hc2⟩ := HY.out.keep hB (by rw [HN.out]; omega)
   have c0 : wr.cell? ⟨b1, o1 + j * 4, none⟩ = some (.string x.dig) := hc1 j x hq 0 (.string x.dig) rfl
   have c1 : wr.cell? ⟨b1, o1 + j * 4 + 1, none⟩ = some (.int .i64 x.size) := hc1 j x hq 1 (.int .i64 x.size) rfl
   have c2 : wr.cell? ⟨b1, o1 + j * 4 + 2, none⟩ = some (.int .i64 x.kind) := hc1 j x hq 2 (.int .i64 x.kind) rfl
   have c3 : wr.cell? ⟨b1, o1 + j * 4 + 3, none⟩ = some (.string x.frm) := hc1 j x hq 3 (.string x.frm) rfl
   have d0 : wr.cell? ⟨b2, o2 + j * 4, none⟩ = some (.string x.dig) := hc2 j x hq 0 (.string x.dig) rfl
   have d1 : wr.cell? ⟨b2, o2 + j * 4 + 1, none⟩ = some (.int .i64 x.size) := hc2 j x hq 1 (.int .i64 x.size) rfl
   have d2 : wr.cell? ⟨b2, o2 + j * 4 + 2, none⟩ = some (.int .i64 x.kind) := hc2 j x hq 2 (.int .i64 x.kind) rfl
   have d3 : wr.cell? ⟨b2, o2 + j * 4 + 3, none⟩ = some (.string x.frm) := hc2 j x hq 3 (.string x.frm) rfl
   have hj0 : (0 : Int) ≤ (j : Int) := by omega
   have hj1 : (j : Int) < (n : Int) := by omega
   have hne := neFil x.dig x.size x.kind x.frm
   have hgd := guardFil
   clear hc1 hc2 hq
   rw [ha1, ha2]
   go_wp2_with fail
   go_quiet (fail)
   go_wp2_with fail
   rw [← ha1, ← ha2]
   go_roundg (n - (j + 1))
   case rel => exact ⟨j + 1, by omega, rfl, by go_num, below_drewN hB _⟩
   case measure => omega
  ·obtain rfl : j = n := by omega
   have hjn : ¬ ((j : Int) < (j : Int)) := by omega
   go_wp2_with fail
   go_ret
   exact ⟨rfl, hB⟩
theorem eqC_same (O : List Cop) (a b : Option Addr) (ca cb : Nat) (w : World) (hx : RowE St.eC w a O) (hy : RowE St.eC w b O) (hn : O.length ≤ 9223372036854775807) :
  Calls Tryd.prog 78 #[.slice a O.length ca, .slice b O.length cb] w fun e w' => e = .returned (.bool true) ∧ Below w.heap.size w w' := by
 have HX := Lib.hid hx; have HY := Lib.hid hy
 obtain ⟨n, hnn⟩ : ∃ n, O.length = n := ⟨_, rfl⟩
 have HN := Lib.hid hnn
 rw [hnn] at hn ⊢
 have hl' : ((n : Int) == (n : Int)) = true := by simp
 clear hx hy hnn
 go_enter Tryd.func78, Tryd.ntmps78
 go_wp2_with fail
 go_loopg [13] n (fun gk i wr => ∃ j : Nat, j ≤ n ∧ gk = n - j ∧ i = .int .i64 j ∧ Below w.heap.size w wr)
 case atStart => exact ⟨0, by omega, rfl, rfl, Below.refl _ _⟩
 case round =>
  obtain ⟨j, hj, rfl, rfl, hB⟩ := hrel
  by_cases hlt : j < n
  ·obtain ⟨x, hq⟩ : ∃ x, O[j]? = some x := ⟨_, List.getElem?_eq_getElem (by rw [HN.out]; exact hlt)⟩
   obtain ⟨b1, o1, ha1, hb1, hc1⟩ := HX.out.keep hB (by rw [HN.out]; omega)
   obtain ⟨b2, o2, ha2, hb2, hc2⟩ := HY.out.keep hB (by rw [HN.out]; omega)
   have c0 : wr.cell? ⟨b1, o1 + j * 4, none⟩ = some (.string x.dig) := hc1 j x hq 0 (.string x.dig) rfl
   have c1 : wr.cell? ⟨b1, o1 + j * 4 + 1, none⟩ = some (.string x.tier) := hc1 j x hq 1 (.string x.tier) rfl
   have c2 : wr.cell? ⟨b1, o1 + j * 4 + 2, none⟩ = some (.bool x.good) := hc1 j x hq 2 (.bool x.good) rfl
   have c3 : wr.cell? ⟨b1, o1 + j * 4 + 3, none⟩ = some (.int .i64 x.asked) := hc1 j x hq 3 (.int .i64 x.asked) rfl
   have d0 : wr.cell? ⟨b2, o2 + j * 4, none⟩ = some (.string x.dig) := hc2 j x hq 0 (.string x.dig) rfl
   have d1 : wr.cell? ⟨b2, o2 + j * 4 + 1, none⟩ = some (.string x.tier) := hc2 j x hq 1 (.string x.tier) rfl
   have d2 : wr.cell? ⟨b2, o2 + j * 4 + 2, none⟩ = some (.bool x.good) := hc2 j x hq 2 (.bool x.good) rfl
   have d3 : wr.cell? ⟨b2, o2 + j * 4 + 3, none⟩ = some (.int .i64 x.asked) := hc2 j x hq 3 (.int .i64 x.asked) rfl
   have hj0 : (0 : Int) ≤ (j : Int) := by omega
   have hj1 : (j : Int) < (n : Int) := by omega
   have hne := neCop x.dig x.tier x.good x.asked
   have hgd := guardCop
   clear hc1 hc2 hq
   rw [ha1, ha2]
   go_wp2_with fail
   go_quiet (fail)
   go_wp2_with fail
   rw [← ha1, ← ha2]
   go_roundg (n - (j + 1))
   case rel => exact ⟨j + 1, by omega, rfl, by go_num, below_drewN hB _⟩
   case measure => omega
  ·obtain rfl : j = n := by omega
   have hjn : ¬ ((j : Int) < (j : Int)) := by omega
   go_wp2_with fail
   go_ret
   exact ⟨rfl, hB⟩
theorem eqG_same (O : List Gon) (a b : Option Addr) (ca cb : Nat) (w : World) (hx : RowE St.eG w a O) (hy : RowE St.eG w b O) (hn : O.length ≤ 9223372036854775807) :
  Calls Tryd.prog 80 #[.slice a O.length ca, .slice b O.length cb] w fun e w' => e = .returned (.bool true) ∧ Below w.heap.size w w' := by
 have HX := Lib.hid hx; have HY := Lib.hid hy
 obtain ⟨n, hnn⟩ : ∃ n, O.length = n := ⟨_, rfl⟩
 have HN := Lib.hid hnn
 rw [hnn] at hn ⊢
 have hl' : ((n : Int) == (n : Int)) = true := by simp
 clear hx hy hnn
 go_enter Tryd.func80, Tryd.ntmps80
 go_wp2_with fail
 go_loopg [13] n (fun gk i wr => ∃ j : Nat, j ≤ n ∧ gk = n - j ∧ i = .int .i64 j ∧ Below w.heap.size w wr)
 case atStart => exact ⟨0, by omega, rfl, rfl, Below.refl _ _⟩
 case round =>
  obtain ⟨j, hj, rfl, rfl, hB⟩ := hrel
  by_cases hlt : j < n
  ·obtain ⟨x, hq⟩ : ∃ x, O[j]? = some x := ⟨_, List.getElem?_eq_getElem (by rw [HN.out]; exact hlt)⟩
   obtain ⟨b1, o1, ha1, hb1, hc1⟩ := HX.out.keep hB (by rw [HN.out]; omega)
   obtain ⟨b2, o2, ha2, hb2, hc2⟩ := HY.out.keep hB (by rw [HN.out]; omega)
   have c0 : wr.cell? ⟨b1, o1 + j * 2, none⟩ = some (.string x.dig) := hc1 j x hq 0 (.string x.dig) rfl
   have c1 : wr.cell? ⟨b1, o1 + j * 2 + 1, none⟩ = some (.int .i64 x.day) := hc1 j x hq 1 (.int .i64 x.day) rfl
   have d0 : wr.cell? ⟨b2, o2 + j * 2, none⟩ = some (.string x.dig) := hc2 j x hq 0 (.string x.dig) rfl
   have d1 : wr.cell? ⟨b2, o2 + j * 2 + 1, none⟩ = some (.int .i64 x.day) := hc2 j x hq 1 (.int .i64 x.day) rfl
   have hj0 : (0 : Int) ≤ (j : Int) := by omega
   have hj1 : (j : Int) < (n : Int) := by omega
   have hne := neGon x.dig x.day
   have hgd := guardGon
   clear hc1 hc2 hq
   rw [ha1, ha2]
   go_wp2_with fail
   go_quiet (fail)
   go_wp2_with fail
   rw [← ha1, ← ha2]
   go_roundg (n - (j + 1))
   case rel => exact ⟨j + 1, by omega, rfl, by go_num, below_drewN hB _⟩
   case measure => omega
  ·obtain rfl : j = n := by omega
   have hjn : ¬ ((j : Int) < (j : Int)) := by omega
   go_wp2_with fail
   go_ret
   exact ⟨rfl, hB⟩
theorem eqS_same (O : List ByteArray) (a b : Option Addr) (ca cb : Nat) (w : World) (hx : RowE St.eS w a O) (hy : RowE St.eS w b O) (hn : O.length ≤ 9223372036854775807) :
  Calls Tryd.prog 79 #[.slice a O.length ca, .slice b O.length cb] w fun e w' => e = .returned (.bool true) ∧ Below w.heap.size w w' := by
 have HX := Lib.hid hx; have HY := Lib.hid hy
 obtain ⟨n, hnn⟩ : ∃ n, O.length = n := ⟨_, rfl⟩
 have HN := Lib.hid hnn
 rw [hnn] at hn ⊢
 have hl' : ((n : Int) == (n : Int)) = true := by simp
 clear hx hy hnn
 go_enter Tryd.func79, Tryd.ntmps79
 go_wp2_with fail
 go_loopg [13] n (fun gk i wr => ∃ j : Nat, j ≤ n ∧ gk = n - j ∧ i = .int .i64 j ∧ Below w.heap.size w wr)
 case atStart => exact ⟨0, by omega, rfl, rfl, Below.refl _ _⟩
 case round =>
  obtain ⟨j, hj, rfl, rfl, hB⟩ := hrel
  by_cases hlt : j < n
  ·obtain ⟨x, hq⟩ : ∃ x, O[j]? = some x := ⟨_, List.getElem?_eq_getElem (by rw [HN.out]; exact hlt)⟩
   obtain ⟨b1, o1, ha1, hb1, hc1⟩ := HX.out.keep hB (by rw [HN.out]; omega)
   obtain ⟨b2, o2, ha2, hb2, hc2⟩ := HY.out.keep hB (by rw [HN.out]; omega)
   have c0 : wr.cell? ⟨b1, o1 + j, none⟩ = some (.string x) := by have := hc1 j x hq 0 (.string x) rfl; rw [show o1 + j * St.eS.k + 0 = o1 + j by simp [St.eS]] at this; exact this
   have d0 : wr.cell? ⟨b2, o2 + j, none⟩ = some (.string x) := by have := hc2 j x hq 0 (.string x) rfl; rw [show o2 + j * St.eS.k + 0 = o2 + j by simp [St.eS]] at this; exact this
   have hj0 : (0 : Int) ≤ (j : Int) := by omega
   have hj1 : (j : Int) < (n : Int) := by omega
   clear hc1 hc2 hq
   rw [ha1, ha2]
   go_wp2_with fail
   go_quiet (fail)
   go_wp2_with fail
   rw [← ha1, ← ha2]
   go_roundg (n - (j + 1))
   case rel => exact ⟨j + 1, by omega, rfl, by go_num, below_drewN hB _⟩
   case measure => omega
  ·obtain rfl : j = n := by omega
   have hjn : ¬ ((j : Int) < (j : Int)) := by omega
   go_wp2_with fail
   go_ret
   exact ⟨rfl, hB⟩
theorem sameStore_is (s : Sto) (a b : StA) (w : World) (hA : StIn w s a) (hB : StIn w s b) : Calls Tryd.prog 35 #[.agg #[.int .i64 s.least, .int .i64 s.wait, .slice a.ta s.tiers.length a.tc, .slice a.fa s.files.length a.fc, .slice a.ca s.copies.length a.cc, .slice a.ha s.held.length a.hc, .slice a.ba s.bin.length a.bc], .agg #[.int .i64 s.least, .int .i64 s.wait, .slice b.ta s.tiers.length b.tc, .slice b.fa s.files.length b.fc, .slice b.ca s.copies.length b.cc, .slice b.ha s.held.length b.hc, .slice b.ba s.bin.length b.bc]] w fun e w' => e = .returned (.bool true) ∧ Below w.heap.size w w' := by
 obtain ⟨W1, hW1, hP, hz1, hB1⟩ := box w #[.int .i64 s.least, .int .i64 s.wait, .slice a.ta s.tiers.length a.tc, .slice a.fa s.files.length a.fc, .slice a.ca s.copies.length a.cc, .slice a.ha s.held.length a.hc, .slice a.ba s.bin.length a.bc] 28
 obtain ⟨W2, hW2, hQ, hz2, hB2⟩ := box W1 #[.int .i64 s.least, .int .i64 s.wait, .slice b.ta s.tiers.length b.tc, .slice b.fa s.files.length b.fc, .slice b.ca s.copies.length b.cc, .slice b.ha s.held.length b.hc, .slice b.ba s.bin.length b.bc] 28
 have HW1 := Lib.hid hW1; have HW2 := Lib.hid hW2
 have hP := hP.keep hB2
 rw [hz1] at hQ
 have hBB := below_up hB1 hB2
 have HBB := Lib.hid hBB
 have HCL : Hid (∀ V, Below W2.heap.size W2 V → (V.cell? ⟨w.heap.size, 0, none⟩ = some (.int .i64 s.least) ∧ V.cell? ⟨w.heap.size, 1, none⟩ = some (.int .i64 s.wait) ∧ V.cell? ⟨w.heap.size, 2, none⟩ = some (.slice a.ta s.tiers.length a.tc) ∧ V.cell? ⟨w.heap.size, 3, none⟩ = some (.slice a.fa s.files.length a.fc) ∧ V.cell? ⟨w.heap.size, 4, none⟩ = some (.slice a.ca s.copies.length a.cc) ∧ V.cell? ⟨w.heap.size, 5, none⟩ = some (.slice a.ha s.held.length a.hc) ∧ V.cell? ⟨w.heap.size, 6, none⟩ = some (.slice a.ba s.bin.length a.bc)) ∧ V.cell? ⟨w.heap.size + 1, 0, none⟩ = some (.int .i64 s.least) ∧ V.cell? ⟨w.heap.size + 1, 1, none⟩ = some (.int .i64 s.wait) ∧ V.cell? ⟨w.heap.size + 1, 2, none⟩ = some (.slice b.ta s.tiers.length b.tc) ∧ V.cell? ⟨w.heap.size + 1, 3, none⟩ = some (.slice b.fa s.files.length b.fc) ∧ V.cell? ⟨w.heap.size + 1, 4, none⟩ = some (.slice b.ca s.copies.length b.cc) ∧ V.cell? ⟨w.heap.size + 1, 5, none⟩ = some (.slice b.ha s.held.length b.hc) ∧ V.cell? ⟨w.heap.size + 1, 6, none⟩ = some (.slice b.ba s.bin.length b.bc)) := Lib.hid fun V hv => ⟨(hP.keep hv).seven, (hQ.keep hv).seven⟩
 have IA := Lib.hid (fun V (hv : Below W2.heap.size W2 V) => hA.keep (below_up hBB hv))
 have IB := Lib.hid (fun V (hv : Below W2.heap.size W2 V) => hB.keep (below_up hBB hv))
 have t1 := hA.tl; have t2 := hA.fl; have t3 := hA.cl; have t4 := hA.hl; have t5 := hA.bl
 have HE1 := Lib.hid (fun V hv => eqT_same s.tiers a.ta b.ta a.tc b.tc V (IA.out V hv).ti (IB.out V hv).ti (by omega))
 have HE2 := Lib.hid (fun V hv => eqF_same s.files a.fa b.fa a.fc b.fc V (IA.out V hv).fi (IB.out V hv).fi (by omega))
 have HE3 := Lib.hid (fun V hv => eqC_same s.copies a.ca b.ca a.cc b.cc V (IA.out V hv).co (IB.out V hv).co (by omega))
 have HE4 := Lib.hid (fun V hv => eqS_same s.held a.ha b.ha a.hc b.hc V (IA.out V hv).he (IB.out V hv).he (by omega))
 have HE5 := Lib.hid (fun V hv => eqG_same s.bin a.ba b.ba a.bc b.bc V (IA.out V hv).bi (IB.out V hv).bi (by omega))
 clear hA hB hW1 hW2 hP hQ hz1 hz2 hB1 hB2 hBB t1 t2 t3 t4 t5
 have hv : Below W2.heap.size W2 W2 := Below.refl _ _
 obtain ⟨⟨p0, p1, p2, p3, p4, p5, p6⟩, q0, q1, q2, q3, q4, q5, q6⟩ := HCL.out _ hv
 have e1 : (s.least == s.least) = true := by simp
 have e2 : (s.wait == s.wait) = true := by simp
 go_enter Tryd.func35, Tryd.ntmps35
 go_wp2_with fail
 rw [HW1.out, HW2.out]
 go_wp2_with (first
  | (go_at_call 76; (with_reducible refine (HE1.out _ hv).mono ?_); rintro e wq ⟨rfl, hq⟩; have hv := below_up hv hq; obtain ⟨⟨p0, p1, p2, p3, p4, p5, p6⟩, q0, q1, q2, q3, q4, q5, q6⟩ := HCL.out _ hv)
  | (go_at_call 77; (with_reducible refine (HE2.out _ hv).mono ?_); rintro e wq ⟨rfl, hq⟩; have hv := below_up hv hq; obtain ⟨⟨p0, p1, p2, p3, p4, p5, p6⟩, q0, q1, q2, q3, q4, q5, q6⟩ := HCL.out _ hv)
  | (go_at_call 78; (with_reducible refine (HE3.out _ hv).mono ?_); rintro e wq ⟨rfl, hq⟩; have hv := below_up hv hq; obtain ⟨⟨p0, p1, p2, p3, p4, p5, p6⟩, q0, q1, q2, q3, q4, q5, q6⟩ := HCL.out _ hv)
  | (go_at_call 79; (with_reducible refine (HE4.out _ hv).mono ?_); rintro e wq ⟨rfl, hq⟩; have hv := below_up hv hq; obtain ⟨⟨p0, p1, p2, p3, p4, p5, p6⟩, q0, q1, q2, q3, q4, q5, q6⟩ := HCL.out _ hv)
  | (go_at_call 80; (with_reducible refine (HE5.out _ hv).mono ?_); rintro e wq ⟨rfl, hq⟩; have hv := below_up hv hq))
 go_ret
 exact ⟨rfl, below_up HBB.out hv⟩
def Sto.zero : Sto := ⟨0, 0, [], [], [], [], []⟩
def StA.zero : StA := ⟨none, 0, none, 0, none, 0, none, 0, none, 0⟩
theorem StIn.zero (w : World) : StIn w Sto.zero StA.zero :=
 ⟨RowE.nil _ _ _, RowE.nil _ _ _, RowE.nil _ _ _, RowE.nil _ _ _, RowE.nil _ _ _, ⟨Nat.le_refl _, by decide⟩, ⟨Nat.le_refl _, by decide⟩, ⟨Nat.le_refl _, by decide⟩, ⟨Nat.le_refl _, by decide⟩, ⟨Nat.le_refl _, by decide⟩, fun _ h => (by cases h), fun _ h => (by cases h), fun _ h => (by cases h), fun _ h => (by cases h), fun _ h => (by cases h)⟩
theorem became_ok (s : Sto) (a b : StA) (w : World) (hA : StIn w s a) (hB : StIn w s b) : Calls Tryd.prog 8 #[.agg #[.int .i64 s.least, .int .i64 s.wait, .slice a.ta s.tiers.length a.tc, .slice a.fa s.files.length a.fc, .slice a.ca s.copies.length a.cc, .slice a.ha s.held.length a.hc, .slice a.ba s.bin.length a.bc], .int .i64 0, .agg #[.int .i64 s.least, .int .i64 s.wait, .slice b.ta s.tiers.length b.tc, .slice b.fa s.files.length b.fc, .slice b.ca s.copies.length b.cc, .slice b.ha s.held.length b.hc, .slice b.ba s.bin.length b.bc], .int .i64 0] w fun e w' => e = .returned (.bool true) ∧ Below w.heap.size w w' := by
 obtain ⟨W1, hW1, hP, hz1, hB1⟩ := box w #[.int .i64 s.least, .int .i64 s.wait, .slice a.ta s.tiers.length a.tc, .slice a.fa s.files.length a.fc, .slice a.ca s.copies.length a.cc, .slice a.ha s.held.length a.hc, .slice a.ba s.bin.length a.bc] 28
 obtain ⟨W2, hW2, hQ, hz2, hB2⟩ := box W1 #[.int .i64 s.least, .int .i64 s.wait, .slice b.ta s.tiers.length b.tc, .slice b.fa s.files.length b.fc, .slice b.ca s.copies.length b.cc, .slice b.ha s.held.length b.hc, .slice b.ba s.bin.length b.bc] 28
 have HW1 := Lib.hid hW1; have HW2 := Lib.hid hW2
 have hP := hP.keep hB2
 rw [hz1] at hQ
 have hBB := below_up hB1 hB2
 have HBB := Lib.hid hBB
 have HSS := Lib.hid (sameStore_is s a b W2 (hA.keep hBB) (hB.keep hBB))
 obtain ⟨p0, p1, p2, p3, p4, p5, p6⟩ := hP.seven
 obtain ⟨q0, q1, q2, q3, q4, q5, q6⟩ := hQ.seven
 clear hA hB hW1 hW2 hP hQ hz1 hz2 hB1 hB2 hBB
 go_enter Tryd.func8, Tryd.ntmps8
 go_wp2_with fail
 rw [HW1.out, HW2.out]
 go_wp2_with (go_at_call 35; (with_reducible refine HSS.out.mono ?_); rintro e wq ⟨rfl, hq⟩)
 go_ret
 exact ⟨rfl, below_up HBB.out hq⟩
theorem became_err (t : Sto) (b : StA) (q : Int) (hq : q ≠ 0) (w : World) : Calls Tryd.prog 8 #[.agg #[.int .i64 0, .int .i64 0, .slice none 0 0, .slice none 0 0, .slice none 0 0, .slice none 0 0, .slice none 0 0], .int .i64 q, .agg #[.int .i64 t.least, .int .i64 t.wait, .slice b.ta t.tiers.length b.tc, .slice b.fa t.files.length b.fc, .slice b.ca t.copies.length b.cc, .slice b.ha t.held.length b.hc, .slice b.ba t.bin.length b.bc], .int .i64 q] w fun e w' => e = .returned (.bool true) ∧ Below w.heap.size w w' := by
 obtain ⟨W1, hW1, hP, hz1, hB1⟩ := box w #[.int .i64 0, .int .i64 0, .slice none 0 0, .slice none 0 0, .slice none 0 0, .slice none 0 0, .slice none 0 0] 28
 obtain ⟨W2, hW2, hQ, hz2, hB2⟩ := box W1 #[.int .i64 0, .int .i64 0, .slice none 0 0, .slice none 0 0, .slice none 0 0, .slice none 0 0, .slice none 0 0] 28
 have HW1 := Lib.hid hW1; have HW2 := Lib.hid hW2
 have hBB := below_up hB1 hB2
 have hq1 : (q != 0) = true := by simpa using hq
 have hq2 : (q == q) = true := by simp
 obtain ⟨p0, p1, p2, p3, p4, p5, p6⟩ := hP.seven
 have HBB := Lib.hid hBB
 have HSS := Lib.hid (sameStore_is Sto.zero StA.zero StA.zero W2 (StIn.zero _) (StIn.zero _))
 clear hW1 hW2 hP hQ hz2 hB1 hB2 hBB hq
 go_enter Tryd.func8, Tryd.ntmps8
 go_upto_region 1 with fail
 rw [HW1.out]
 go_wp2_with fail
 rw [HW2.out]
 go_at_call 35
 refine HSS.out.mono ?_
 rintro e wq ⟨rfl, hq⟩
 go_wp2_with fail
 go_ret
 exact ⟨rfl, below_up HBB.out hq⟩
end Go.Proofs.YthdiccdnggloiaaDoor
