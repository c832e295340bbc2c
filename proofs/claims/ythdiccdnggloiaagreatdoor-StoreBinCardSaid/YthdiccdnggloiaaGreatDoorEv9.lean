/- Parts of the proof, no condition: StEvM, StEvR, StInsC, StEq, StCnt. -/
import Derived.Test.YthdiccdnggloiaaGreatDoorEv6
import Derived.Test.YthdiccdnggloiaaGreatDoorEv2
import Derived.Test.YthdiccdnggloiaaGreatDoorEv5
import Derived.Lib.Overlaps
import Derived.Lib.AppendZerosOnto
import Derived.Deep.QuietTactic
import Derived.BigQuiet
set_option maxRecDepth 100000
set_option maxHeartbeats 8000000
set_option linter.unusedSimpArgs false
set_option linter.unusedVariables false
namespace Go.Proofs.YthdiccdnggloiaaGreatDoor
open Go.RowKit
structure Mov where
 kind : Int
 dig : ByteArray
 frm : ByteArray
 dst : ByteArray
namespace St
def eM : Enc Mov := ⟨4, fun m => [.int .i64 m.kind, .string m.dig, .string m.frm, .string m.dst], fun _ => rfl, fun t u h => by simp only [List.mem_cons, List.not_mem_nil, or_false] at h; rcases h with rfl | rfl | rfl | rfl <;> rfl⟩
def evLt (a b : Cop) : Prop := a.asked < b.asked ∨ (a.asked = b.asked ∧ lt (ckey a) (ckey b) = true)
def evNeg (a b : Cop) : Bool := decide (a.asked < b.asked)
theorem ev_ord : Stb.Ord evLt := by
 refine ⟨fun x y z h1 h2 => ?_, fun x y h1 h2 => ?_⟩
 ·rcases h1 with h1 | ⟨h1, k1⟩ <;> rcases h2 with h2 | ⟨h2, k2⟩
  ·exact .inl (by omega)
  ·exact .inl (by omega)
  ·exact .inl (by omega)
  ·exact .inr ⟨by omega, lt_trans k1 k2⟩
 ·rcases h1 with h1 | ⟨h1, k1⟩ <;> rcases h2 with h2 | ⟨h2, k2⟩
  ·omega
  ·omega
  ·omega
  ·have := lt_trans k1 k2
   rw [lt_irr] at this; cases this
theorem ev_fit {L : List Cop} (h : Up ckey L) : L.Pairwise (Stb.Fit evLt evNeg) := by
 refine List.Pairwise.imp ?_ h
 intro x y hxy
 refine ⟨fun g => .inl (of_decide_eq_true g), fun g => ?_⟩
 have g := of_decide_eq_false g
 by_cases e : x.asked = y.asked
 ·exact .inr ⟨e, hxy⟩
 ·exact .inl (by omega)
def evA (s : Sto) (t : ByteArray) (c : Cop) : Bool := eq c.tier t && garbage s c
def evB (s : Sto) (t : ByteArray) (c : Cop) : Bool := eq c.tier t && (!garbage s c && mkb s c.dig)
def evG (s : Sto) (t : ByteArray) : List Cop := s.copies.filter (evA s t)
def evK (s : Sto) (t : ByteArray) : List Cop := s.copies.filter (evB s t)
def Goers (s : Sto) (t : ByteArray) (L : List Cop) : Prop := ∃ M, L = evG s t ++ M ∧ List.Perm M (evK s t) ∧ M.Pairwise evLt
theorem Goers.one {s : Sto} {t : ByteArray} {L L' : List Cop} (h : Goers s t L) (h' : Goers s t L') : L = L' := by
 obtain ⟨M, rfl, p, q⟩ := h
 obtain ⟨M', rfl, p', q'⟩ := h'
 rw [Stb.unique ev_ord (p.trans p'.symm) q q']
def run (F : List Fil) (b : Int) : List Cop → Int → List Cop × Int
 | [], f => ([], f)
 | c :: r, f => if b ≤ f then ([], f) else (c :: (run F b r (f + sizeOf F c.dig)).1, (run F b r (f + sizeOf F c.dig)).2)
theorem run_stop {F : List Fil} {b : Int} {L : List Cop} {f : Int} (h : b ≤ f) : run F b L f = ([], f) := by
 cases L with
 | nil => rfl
 | cons c r => rw [run, if_pos h]
theorem run_next {F : List Fil} {b : Int} {c : Cop} {r : List Cop} {f : Int} (h : ¬ b ≤ f) : run F b (c :: r) f = (c :: (run F b r (f + sizeOf F c.dig)).1, (run F b r (f + sizeOf F c.dig)).2) := by rw [run, if_neg h]
def drop_ (t : ByteArray) (c : Cop) : Mov := ⟨2, c.dig, t, ByteArray.empty⟩
end St
namespace St
theorem ev_ins {M : List Cop} {c : Cop} {p : Nat} (hM : M.Pairwise evLt) (hk : ∀ y ∈ M, lt (ckey y) (ckey c) = true) (hd : ∀ y ∈ M.drop p, c.asked < y.asked) (hp : p = 0 ∨ ∃ y, M[p - 1]? = some y ∧ y.asked ≤ c.asked) : (M.take p ++ c :: M.drop p).Pairwise evLt := by
 refine Stb.put_sorted ev_ord (by rw [List.take_append_drop]; exact hM) (fun y hy => ?_) (fun y hy => .inl (hd y hy))
 have hyM := List.mem_of_mem_take hy
 have hle : y.asked ≤ c.asked := by
  rcases hp with rfl | ⟨x, hx, hxc⟩
  ·simp at hy
  ·obtain ⟨i, hi⟩ := List.getElem?_of_mem hy
   have hip : i < p := by
    have := (List.getElem?_eq_some_iff.1 hi).1
    rw [List.length_take] at this; omega
   rw [List.getElem?_take_of_lt hip] at hi
   by_cases e : i = p - 1
   ·subst e
    rw [hi] at hx
    cases hx
    exact hxc
   ·obtain ⟨h1, h2⟩ := List.getElem?_eq_some_iff.1 hi
    obtain ⟨h3, h4⟩ := List.getElem?_eq_some_iff.1 hx
    have := List.pairwise_iff_getElem.1 hM i (p - 1) h1 h3 (by omega)
    rw [h2, h4] at this
    rcases this with g | ⟨g, _⟩ <;> omega
 by_cases e : y.asked = c.asked
 ·exact .inr ⟨e, hk y hyM⟩
 ·exact .inl (by omega)
theorem ev_perm {M K : List Cop} {c : Cop} {p : Nat} (h : List.Perm M K) : List.Perm (M.take p ++ c :: M.drop p) (K ++ [c]) := by
 refine List.perm_middle.trans ?_
 rw [List.take_append_drop]
 exact (List.Perm.cons c h).trans (List.perm_append_singleton c K).symm
theorem ev_in {s : Sto} (r : Right s) {t : ByteArray} {j : Nat} {c : Cop} (hc : s.copies[j]? = some c) {M : List Cop} (hM : List.Perm M ((s.copies.take j).filter (evB s t))) : c ∈ evG s t ++ M ↔ evA s t c = true := by
 have hmem := List.mem_of_getElem? hc
 rw [List.mem_append]
 constructor
 ·rintro (h | h)
  ·exact (List.mem_filter.1 h).2
  ·exfalso
   have h := (List.mem_filter.1 (hM.mem_iff.1 h)).1
   obtain ⟨i, hi⟩ := List.getElem?_of_mem h
   have hij : i < j := by
    have := (List.getElem?_eq_some_iff.1 hi).1
    rw [List.length_take] at this; omega
   rw [List.getElem?_take_of_lt hij] at hi
   obtain ⟨h1, h2⟩ := List.getElem?_eq_some_iff.1 hi
   obtain ⟨h3, h4⟩ := List.getElem?_eq_some_iff.1 hc
   have := List.pairwise_iff_getElem.1 (cop_up r) i j h1 h3 hij
   rw [h2, h4, lt_irr] at this
   cases this
 ·intro h
  exact .inl (List.mem_filter.2 ⟨hmem, h⟩)
theorem ev_ahead {s : Sto} (r : Right s) {t : ByteArray} {j : Nat} {c : Cop} (hc : s.copies[j]? = some c) {M : List Cop} (hM : List.Perm M ((s.copies.take j).filter (evB s t))) : ∀ y ∈ M, lt (ckey y) (ckey c) = true := by
 intro y hy
 have h := (List.mem_filter.1 (hM.mem_iff.1 hy)).1
 obtain ⟨i, hi⟩ := List.getElem?_of_mem h
 have hij : i < j := by
  have := (List.getElem?_eq_some_iff.1 hi).1
  rw [List.length_take] at this; omega
 rw [List.getElem?_take_of_lt hij] at hi
 obtain ⟨h1, h2⟩ := List.getElem?_eq_some_iff.1 hi
 obtain ⟨h3, h4⟩ := List.getElem?_eq_some_iff.1 hc
 have := List.pairwise_iff_getElem.1 (cop_up r) i j h1 h3 hij
 rwa [h2, h4] at this
theorem evG_eq (s : Sto) (t : ByteArray) : (garbageL s).filter (fun c => eq c.tier t) = evG s t := by
 unfold garbageL evG evA
 rw [List.filter_filter]
end St
end Go.Proofs.YthdiccdnggloiaaGreatDoor
namespace Go.Proofs.YthdiccdnggloiaaGreatDoor
open Go.RowKit Go.Sort Go.Shelf

theorem cp_ins_grown (B n ca : Nat) (a : Option Addr) (xs ys : List Value) (w : World) (hnone : a = none → n = 0 ∧ ca = 0) (hlo : xs.length = n * 4) (holds : ∀ b, a = some b → ∀ j u, xs[j]? = some u → w.cell? (b.add j) = some u) (hcm : ca ≤ 9223372036854775807) (hfull : ca < n + 1) (hnc : n ≤ ca) (hB : B ≤ w.heap.size) (hn : n ≤ 1000000) (bv : Nat) (cv : Array Value) (tv : TypeId) (hbv : w.heap[bv]? = some (.cells cv tv (0, 0))) (hys : cv.toList = ys) (hy : ys.length = 4) (h1 : ∀ v ∈ ys, v.oneCell' = true) :
  Calls Tryz.prog 148 #[.slice a n ca, .int .i64 n, .slice (some ⟨bv, 0, none⟩) 1 1] w (OwnPost w B 74 4 (.slice a n ca) (n + 1) (xs ++ ys)) := by
 obtain ⟨i0, hi0, hz0, hz1, hz2⟩ := info_parts infoCop
 have HI0 := Lib.hid hi0; have HI1 := Lib.hid hz0; have HI2 := Lib.hid hz1; have HI3 := Lib.hid hz2
 have hsrc : ∀ j u, ys[j]? = some u → w.cell? ((⟨bv, 0, none⟩ : Addr).add j) = some u := by
  intro j u hj
  rw [show (⟨bv, 0, none⟩ : Addr).add j = ⟨bv, j, none⟩ from by unfold Addr.add; split <;> simp_all, World.cell?]
  simp only [hbv]
  rw [← hys] at hj
  simpa using hj
 have HS := Lib.hid hsrc; have HO := Lib.hid holds; have HL := Lib.hid hy; have H1 := Lib.hid h1; have HBB := Lib.hid hB; have HNN := Lib.hid hnone; have HLO := Lib.hid hlo
 obtain rfl : ca = n := by omega
 clear hi0 hz0 hz1 hz2 hsrc holds hy h1 hB hbv hys hnone hlo
 go_enter Tryz.func148, Tryz.ntmps148
 go_wp2_with (at_builtin; refine wpList_append_grows _ rfl _ _ 24 rfl 74 i0 (.agg #[.string ByteArray.empty, .string ByteArray.empty, .bool false, .int .i64 0]) 4 48 Tryz.underlying24 HI0.out HI1.out HI2.out HI3.out rfl (by decide) a ca ca xs rfl HNN.out HLO.out HO.out ⟨bv, 0, none⟩ 1 1 ys rfl HL.out HS.out H1.out hfull (by unfold maxLen; omega) (by omega) ?_; intro v8 w8 hown8 hgrow8; obtain ⟨g8, cap8, rfl, hoc8⟩ : ∃ g8 cap8, v8 = .slice (some ⟨g8, 0, none⟩) (ca + 1) cap8 ∧ OwnC w8 w.heap.size 74 4 g8 (ca + 1) cap8 (xs ++ ys) := by { rcases OwnV.of_own hown8 with ⟨_, h0, _⟩ | h; exact absurd h0 (by omega); exact h })
 go_ret
 exact ⟨g8, cap8, rfl, hoc8.down HBB.out, ⟨hgrow8.os, hgrow8.tape, hgrow8.output, hgrow8.size, fun j hj _ => hgrow8.block j hj (by simp)⟩, .inr hoc8.lt.1⟩
theorem cp_ins_last (B g n cap : Nat) (xs ys : List Value) (w : World) (h : OwnC w B 74 4 g n cap xs) (hroom : n + 1 ≤ cap) (hn : n ≤ 1000000) (bv : Nat) (cv : Array Value) (tv : TypeId) (hbv : w.heap[bv]? = some (.cells cv tv (0, 0))) (hys : cv.toList = ys) (hy : ys.length = 4) (h1 : ∀ v ∈ ys, v.oneCell' = true) :
  Calls Tryz.prog 148 #[.slice (some ⟨g, 0, none⟩) n cap, .int .i64 n, .slice (some ⟨bv, 0, none⟩) 1 1] w (OwnPost w B 74 4 (.slice (some ⟨g, 0, none⟩) n cap) (n + 1) (xs ++ ys)) := by
 obtain ⟨i0, hi0, hz0, hz1, hz2⟩ := info_parts infoCop
 have hsrc : ∀ j u, ys[j]? = some u → w.cell? ((⟨bv, 0, none⟩ : Addr).add j) = some u := by
  intro j u hj
  rw [show (⟨bv, 0, none⟩ : Addr).add j = ⟨bv, j, none⟩ from by unfold Addr.add; split <;> simp_all, World.cell?]
  simp only [hbv]
  rw [← hys] at hj
  simpa using hj
 obtain ⟨w1, hr1, ho1, hg1⟩ := own_append (P := Tryz.prog) h 24 i0 Tryz.underlying24 hi0 hz1 ⟨bv, 0, none⟩ 1 ys (by rw [hy]) hsrc h1 hroom
 obtain ⟨_, _, _, hnc, hcm, _⟩ := h
 have hcm2 : cap ≤ 9223372036854775807 := hcm
 have hcn : ¬ cap = n := by omega
 have HO := Lib.hid ho1; have HG := Lib.hid hg1
 clear hi0 hz0 hz1 hz2 hsrc hy h1 hbv hys ho1 hg1
 go_enter Tryz.func148, Tryz.ntmps148
 go_wp2_with (at_builtin; refine Lib.wpList_append_run _ rfl _ _ _ _ rfl _ _ rfl rfl _ _ (hr1 _ _) ?_)
 go_ret
 exact ⟨g, cap, rfl, HO.out, HG.out, .inl rfl⟩
theorem cp_ins_room (B g n cap i : Nat) (xs ys : List Value) (w : World) (h : OwnC w B 74 4 g n cap xs) (hi : i < n) (hroom : n + 1 ≤ cap) (hn : n ≤ 1000000) (hx1 : ∀ v ∈ xs, v.oneCell' = true) (bv : Nat) (cv : Array Value) (tv : TypeId) (hbv : w.heap[bv]? = some (.cells cv tv (0, 0))) (hbg : bv ≠ g) (hys : cv.toList = ys) (hy : ys.length = 4) (h1 : ∀ v ∈ ys, v.oneCell' = true) :
  Calls Tryz.prog 148 #[.slice (some ⟨g, 0, none⟩) n cap, .int .i64 i, .slice (some ⟨bv, 0, none⟩) 1 1] w (OwnPost w B 74 4 (.slice (some ⟨g, 0, none⟩) n cap) (n + 1) (xs.take (i * 4) ++ ys ++ xs.drop (i * 4))) := by
 have HH0 := h
 obtain ⟨cur, hB, hc, hnc, hcm, hcs, htk, hl⟩ := HH0
 obtain ⟨i0, hi0, hz0, hz1, hz2⟩ := info_parts infoCop
 have hcm2 : cap ≤ 9223372036854775807 := hcm
 have hsz : (Tryz.prog.info? 74).map (·.size) = some 4 := by rw [hi0]; simp [hz1]
 obtain ⟨tail, htl, ho0⟩ := own_more h hroom
 have hdl : (xs.drop (i * 4)).length = (n - i) * 4 := by rw [List.length_drop, hl]; omega
 obtain ⟨w1, hr1, ho1, hg1⟩ := own_copy (P := Tryz.prog) (w := w.drew) ho0 24 24 Tryz.underlying24 hsz ((i + 1) * 4) (n - i) (cap - (i + 1)) ⟨g, i * 4, none⟩ (n + 1 - i) (cap - i) (xs.drop (i * 4)) (by rw [hdl]; congr 1; exact (Nat.min_eq_right (by omega)).symm)
  (fun j u hj => by
   rw [List.getElem?_drop] at hj
   have hjl := (List.getElem?_eq_some_iff.1 hj).1
   rw [show (⟨g, i * 4, none⟩ : Addr).add j = ⟨g, i * 4 + j, none⟩ from by unfold Addr.add; split <;> simp_all]
   exact (h.cellAt (i * 4 + j) (by omega)).trans hj)
  (by rw [hdl]; omega) (fun v hv => hx1 v (List.mem_of_mem_drop hv))
 have hbv1 : w1.heap[bv]? = some (.cells cv tv (0, 0)) := by
  rw [hg1.block bv (Array.getElem?_eq_some_iff.1 hbv).1 (by simpa using hbg)]; exact hbv
 obtain ⟨w2, hr2, ho2, hg2⟩ := own_copy (P := Tryz.prog) (w := w1) ho1 24 24 Tryz.underlying24 hsz (i * 4) (n + 1 - i) (cap - i) ⟨bv, 0, none⟩ 1 1 ys (by rw [hy, show Nat.min 1 (n + 1 - i) = 1 from Nat.min_eq_left (by omega)])
  (fun j u hj => by
   rw [show (⟨bv, 0, none⟩ : Addr).add j = ⟨bv, j, none⟩ from by unfold Addr.add; split <;> simp_all, World.cell?]
   simp only [hbv1]
   rw [← hys] at hj
   simpa using hj)
  (by rw [hy]; omega) h1
 rw [show (i + 1) * 4 = i * 4 + 4 by omega, ins_shift hl htl hy (by omega)] at ho2
 have hov : ∀ lb cb, (callFunc 192 #[.slice (some ⟨bv, 0, none⟩) 1 1, .slice (some ⟨g, (i + 1) * 4, none⟩) lb cb]).run Tryz.prog w = .ok (.value (.bool false)) w := fun lb cb => by
  rw [run_callFunc_extern Tryz.func192 (by kernel_rfl) (by kernel_rfl) (by kernel_rfl) (e := Extern.SlicesOverlaps.overlaps #[24, 24] #[4]) (by kernel_rfl),
   Lib.run_overlaps_apart w 24 4 74 Tryz.underlying24 4 (fun w => by kernel_rfl) ⟨bv, 0, none⟩ ⟨g, (i + 1) * 4, none⟩ 1 1 lb cb hbg tv 74 cv.size cur.size (shape_of hbv) (shape_of hc) (by omega) (frozen_of hbv 0) (frozen_of hbv cv.size)]
  rfl
 have HO := Lib.hid ho2
 have HG := Lib.hid (grown_up hg1 hg2)
 have hz2' : ¬ ((i : Int) = (n : Int)) := by omega
 have hz2b : ((i : Int) == (n : Int)) = false := by simpa using hz2'
 have hw1 : IntKind.i64.wrap ((n : Int) + 1) = (n : Int) + 1 := by rw [IntKind.wrap_i64]; omega
 have hw2 : IntKind.i64.wrap ((i : Int) + 1) = (i : Int) + 1 := by rw [IntKind.wrap_i64]; omega
 have hb0 : ¬ ((cap : Int) < (n : Int) + 1) := by omega
 have hb0' : ((n : Int) + 1 ≤ (cap : Int)) := by omega
 have hb1 : (0 : Int) ≤ (i : Int) + 1 := by omega
 have hb2 : (0 : Int) ≤ (n : Int) + 1 := by omega
 have hb3 : (i : Int) ≤ (n : Int) + 1 := by omega
 have hb4 : (i : Int) + 1 ≤ (n : Int) + 1 := by omega
 have hb5 : ¬ cap = i := by omega
 have hb6 : ¬ cap = i + 1 := by omega
 have hin : i ≤ n := by omega
 clear ho2 ho1 ho0 hg1 hg2 h1 hx1 hbv hbv1 hc hcs htk hl hdl htl hys hy h
 go_enter Tryz.func148, Tryz.ntmps148
 go_wp2_with (simp only [hov])
 go_region_law (refine step_copy_run rfl _ _ _ _ rfl (.slice (some ⟨g, (i + 1) * 4, none⟩) (n - i) (cap - (i + 1))) (.slice (some ⟨g, i * 4, none⟩) (n + 1 - i) (cap - i)) (by simp [Act.eval, Act.put]) (by simp [Act.eval, Act.put]) (hr1 _) ?_)
 go_wp2_with (at_builtin; refine wpList_copy_run _ rfl _ _ _ _ rfl _ _ rfl rfl (hr2 _) ?_)
 go_ret
 exact ⟨g, cap, rfl, HO.out, HG.out, .inl rfl⟩

theorem cp_ins_grow (B g n i : Nat) (xs ys : List Value) (w : World) (h : OwnC w B 74 4 g n n xs) (hi : i < n) (hn : n ≤ 1000000) (hx1 : ∀ v ∈ xs, v.oneCell' = true) (bv : Nat) (cv : Array Value) (tv : TypeId) (hbv : w.heap[bv]? = some (.cells cv tv (0, 0))) (hys : cv.toList = ys) (hy : ys.length = 4) (h1 : ∀ v ∈ ys, v.oneCell' = true) :
  Calls Tryz.prog 148 #[.slice (some ⟨g, 0, none⟩) n n, .int .i64 i, .slice (some ⟨bv, 0, none⟩) 1 1] w (OwnPost w B 74 4 (.slice (some ⟨g, 0, none⟩) n n) (n + 1) (xs.take (i * 4) ++ ys ++ xs.drop (i * 4))) := by
 have HH0 := h
 obtain ⟨cur, hB, hc, hnc, hcm, hcs, htk, hl⟩ := HH0
 obtain ⟨i0, hi0, hz0, hz1, hz2⟩ := info_parts infoCop
 have hgw := (Array.getElem?_eq_some_iff.1 hc).1
 have hbw := (Array.getElem?_eq_some_iff.1 hbv).1
 have hsz : (Tryz.prog.info? 74).map (·.size) = some 4 := by rw [hi0]; simp [hz1]
 have hcl : ∀ j u, xs[j]? = some u → w.cell? ⟨g, j, none⟩ = some u := fun j u hj => (h.cellAt j (by have := (List.getElem?_eq_some_iff.1 hj).1; omega)).trans hj
 have hik : i + (n + 1 - i) = n + 1 := by omega
 have hkk : (n : Int) + 1 - (i : Int) = ((n + 1 - i : Nat) : Int) := by omega
 have htl : (xs.take (i * 4)).length = i * 4 := by rw [List.length_take, hl]; omega
 have hold : (Builtin.firstCells i0.size i (.slice (some ⟨g, 0, none⟩) i n)).run Tryz.prog w.drew = .ok (xs.take (i * 4)).toArray w.drew := by
  rw [hz1]
  exact run_firstCells_some w.drew 4 i ⟨g, 0, none⟩ i n (xs.take (i * 4)) htl (fun j u hj => by
   rw [show (⟨g, 0, none⟩ : Addr).add j = ⟨g, j, none⟩ from by unfold Addr.add; split <;> simp_all]
   rw [List.getElem?_take] at hj
   split at hj
   ·exact hcl j u hj
   ·cases hj)
 have hrz := fun ty => Lib.run_append_grow_zeros w 24 3 ty 74 i0 (.agg #[.string ByteArray.empty, .string ByteArray.empty, .bool false, .int .i64 0]) .i64 .i64 Tryz.underlying24 Tryz.underlying3 hi0 hz0 (some ⟨g, 0, none⟩) i n (xs.take (i * 4)) hold (n + 1 - i) (by omega) (by omega) (by omega) (by omega) (by rw [hz2]; omega) (by rw [hz2, hik]; exact growslice_fits (by omega) (by omega))
 rw [hik, ← hkk] at hrz
 have hGn : n + 1 ≤ grownCap w (n + 1) n 74 := grownCap_ge w _ _ _
 have hGm : grownCap w (n + 1) n 74 ≤ maxLen := grownCap_le_maxLen w _ _ _ (by unfold maxLen; omega)
 generalize grownCap w (n + 1) n 74 = G at hrz hGn hGm
 have hzl : (Builtin.zeroCells (Value.cells (.agg #[.string ByteArray.empty, .string ByteArray.empty, .bool false, .int .i64 0])) (n + 1 - i)).toList.length = (n + 1 - i) * 4 := by
  rw [Array.length_toList]; simp [Builtin.zeroCells] <;> (first | rfl | exact Or.inl rfl)
 have hzl2 : (Builtin.zeroCells (Value.cells (.agg #[.string ByteArray.empty, .string ByteArray.empty, .bool false, .int .i64 0])) (G - (n + 1))).toList.length = (G - (n + 1)) * 4 := by
  rw [Array.length_toList]; simp [Builtin.zeroCells] <;> (first | rfl | exact Or.inl rfl)
 obtain ⟨ROW, hROW⟩ : ∃ ROW : Array Value, (xs.take (i * 4)).toArray ++ Builtin.zeroCells (Value.cells (.agg #[.string ByteArray.empty, .string ByteArray.empty, .bool false, .int .i64 0])) (n + 1 - i) ++ Builtin.zeroCells (Value.cells (.agg #[.string ByteArray.empty, .string ByteArray.empty, .bool false, .int .i64 0])) (G - (n + 1)) = ROW := ⟨_, rfl⟩
 rw [hROW] at hrz
 have hRl : ROW.toList = xs.take (i * 4) ++ (Builtin.zeroCells (Value.cells (.agg #[.string ByteArray.empty, .string ByteArray.empty, .bool false, .int .i64 0])) (n + 1 - i)).toList ++ (Builtin.zeroCells (Value.cells (.agg #[.string ByteArray.empty, .string ByteArray.empty, .bool false, .int .i64 0])) (G - (n + 1))).toList := by rw [← hROW]; simp
 generalize (Builtin.zeroCells (Value.cells (.agg #[.string ByteArray.empty, .string ByteArray.empty, .bool false, .int .i64 0])) (n + 1 - i)).toList = zs at hzl hRl
 generalize (Builtin.zeroCells (Value.cells (.agg #[.string ByteArray.empty, .string ByteArray.empty, .bool false, .int .i64 0])) (G - (n + 1))).toList = zs2 at hzl2 hRl
 clear hROW
 obtain ⟨W1, hW1⟩ : ∃ W1, w.drew.alloc (.cells ROW 74) = W1 := ⟨_, rfl⟩
 rw [hW1] at hrz
 have hnew : W1.heap[w.heap.size]? = some (.cells ROW 74 (0, 0)) := by rw [← hW1]; exact heap_alloc_new w.drew _
 have hbl : ∀ b, b < w.heap.size → W1.heap[b]? = w.heap[b]? := fun b hb => by rw [← hW1]; exact Below.heap_alloc w.drew _ b hb
 have hs1 : W1.heap.size = w.heap.size + 1 := by rw [← hW1]; simp
 have hbs : W1.os = w.os ∧ W1.tape = w.tape ∧ W1.output = w.output := by rw [← hW1]; exact ⟨rfl, rfl, rfl⟩
 have ho0 : OwnC W1 B 74 4 w.heap.size (n + 1) G (xs.take (i * 4) ++ zs) := own_make (by omega) hnew hGn hGm (by rw [← Array.length_toList, hRl, List.length_append, List.length_append, htl, hzl, hzl2]; omega)
  (by rw [hRl]; exact List.take_left' (by rw [List.length_append, htl, hzl]; omega))
 obtain ⟨w2, hr1, ho1, hg1⟩ := own_copy (P := Tryz.prog) (w := W1) ho0 24 24 Tryz.underlying24 hsz (i * 4) (n + 1 - i) (G - i) ⟨bv, 0, none⟩ 1 1 ys (by rw [hy, show Nat.min 1 (n + 1 - i) = 1 from Nat.min_eq_left (by omega)])
  (fun j u hj => by
   rw [show (⟨bv, 0, none⟩ : Addr).add j = ⟨bv, j, none⟩ from by unfold Addr.add; split <;> simp_all, World.cell?]
   simp only [hbl bv hbw, hbv]
   rw [← hys] at hj
   simpa using hj)
  (by rw [hy]; omega) h1
 have hdl : (xs.drop (i * 4)).length = (n - i) * 4 := by rw [List.length_drop, hl]; omega
 have hg2w : w2.heap[g]? = w.heap[g]? := (hg1.block g (by omega) (by simp; omega)).trans (hbl g hgw)
 obtain ⟨w3, hr2, ho2, hg2⟩ := own_copy (P := Tryz.prog) (w := w2.drew) ho1 24 24 Tryz.underlying24 hsz ((i + 1) * 4) (n - i) (G - (i + 1)) ⟨g, i * 4, none⟩ (n - i) (n - i) (xs.drop (i * 4)) (by rw [hdl]; congr 1; exact (Nat.min_eq_left (Nat.le_refl _)).symm)
  (fun j u hj => by
   rw [List.getElem?_drop] at hj
   rw [show (⟨g, i * 4, none⟩ : Addr).add j = ⟨g, i * 4 + j, none⟩ from by unfold Addr.add; split <;> simp_all]
   have := hcl _ _ hj
   unfold World.cell? at this ⊢
   rw [show w2.drew.heap[g]? = w.heap[g]? from hg2w]
   exact this)
  (by rw [hdl]; omega) (fun v hv => hx1 v (List.mem_of_mem_drop hv))
 rw [show (i + 1) * 4 = i * 4 + 4 by omega, ins_grow (N := n * 4) hl (by rw [hzl]; omega) hy (by omega)] at ho2
 have HO := Lib.hid ho2
 have HG : Hid (w.grownBy w3 (some g)) := Lib.hid ⟨hg2.os.trans (hg1.os.trans hbs.1), hg2.tape.trans (hg1.tape.trans hbs.2.1), hg2.output.trans (hg1.output.trans hbs.2.2), by have := hg2.size; have h3 : w2.drew.heap.size = w2.heap.size := rfl; have := hg1.size; omega, fun b hb _ => (hg2.block b (by have h3 : w2.drew.heap.size = w2.heap.size := rfl; have := hg1.size; omega) (by simp; omega)).trans ((hg1.block b (by omega) (by simp; omega)).trans (hbl b hb))⟩
 have hGm2 : G ≤ 9223372036854775807 := hGm
 have hz2' : ¬ ((i : Int) = (n : Int)) := by omega
 have hz2b : ((i : Int) == (n : Int)) = false := by simpa using hz2'
 have hw1 : IntKind.i64.wrap ((n : Int) + 1) = (n : Int) + 1 := by rw [IntKind.wrap_i64]; omega
 have hw2 : IntKind.i64.wrap ((i : Int) + 1) = (i : Int) + 1 := by rw [IntKind.wrap_i64]; omega
 have hw3 : IntKind.i64.wrap ((n : Int) + 1 - (i : Int)) = (n : Int) + 1 - (i : Int) := by rw [IntKind.wrap_i64]; omega
 have hb1 : (0 : Int) ≤ (i : Int) + 1 := by omega
 have hb3 : (i : Int) ≤ (n : Int) + 1 := by omega
 have hb3' : (i : Int) ≤ (n : Int) := by omega
 have hb4 : (i : Int) + 1 ≤ (n : Int) + 1 := by omega
 have hb5 : ¬ G = i := by omega
 have hb6 : ¬ G = i + 1 := by omega
 have hb7 : ¬ n = i := by omega
 have hin : i ≤ n := by omega
 clear ho2 ho1 ho0 hg1 hg2 h1 hx1 hbv hc hcs htk hl hdl htl hys hy h hcl hold hkk hik hW1 hnew hbl hRl hzl hzl2 hs1 hbs hg2w
 go_enter Tryz.func148, Tryz.ntmps148
 go_wp2_with (first
  | (at_builtin; refine Lib.wpList_append_run _ rfl _ _ _ _ rfl _ _ rfl rfl _ _ (hrz _) ?_)
  | (at_builtin; refine wpList_copy_run _ rfl _ _ _ _ rfl _ _ rfl rfl (hr1 _) ?_))
 go_region_law (refine step_copy_run rfl _ _ _ _ rfl (.slice (some ⟨w.heap.size, (i + 1) * 4, none⟩) (n - i) (G - (i + 1))) (.slice (some ⟨g, i * 4, none⟩) (n - i) (n - i)) (by simp [Act.eval, Act.put]) (by simp [Act.eval, Act.put]) (hr2 _) ?_)
 go_wp2_with fail
 go_ret
 exact ⟨w.heap.size, G, rfl, HO.out, HG.out, .inr (Nat.le_refl _)⟩
theorem cp_ins (B n i : Nat) (v : Value) (xs ys : List Value) (w : World) (h : OwnV w B 74 4 v n xs) (hB : B ≤ w.heap.size) (hi : i ≤ n) (hn : n ≤ 1000000) (hx1 : ∀ v ∈ xs, v.oneCell' = true) (bv : Nat) (cv : Array Value) (tv : TypeId) (hbv : w.heap[bv]? = some (.cells cv tv (0, 0))) (hbg : v.ownBlock ≠ some bv) (hys : cv.toList = ys) (hy : ys.length = 4) (h1 : ∀ v ∈ ys, v.oneCell' = true) :
  Calls Tryz.prog 148 #[v, .int .i64 i, .slice (some ⟨bv, 0, none⟩) 1 1] w (OwnPost w B 74 4 v (n + 1) (xs.take (i * 4) ++ ys ++ xs.drop (i * 4))) := by
 have hl := h.len
 rcases Nat.eq_or_lt_of_le hi with rfl | hi
 ·rw [List.take_of_length_le (by omega), List.drop_eq_nil_of_le (by omega), List.append_nil]
  rcases h with ⟨rfl, rfl, rfl⟩ | ⟨g, cap, rfl, hc⟩
  ·exact cp_ins_grown B 0 0 none [] ys w (fun _ => ⟨rfl, rfl⟩) hl (fun b h => by cases h) (by omega) (by omega) (by omega) hB hn bv cv tv hbv hys hy h1
  ·by_cases hr : i + 1 ≤ cap
   ·exact cp_ins_last B g i cap xs ys w hc hr hn bv cv tv hbv hys hy h1
   ·have hc2 := hc
    obtain ⟨_, _, _, hnc, hcm, _⟩ := hc2
    exact cp_ins_grown B i cap (some ⟨g, 0, none⟩) xs ys w (fun h => by cases h) hl (fun b h j u hj => by
     cases h
     rw [show (⟨g, 0, none⟩ : Addr).add j = ⟨g, j, none⟩ from by unfold Addr.add; split <;> simp_all]
     exact (hc.cellAt j (by have := (List.getElem?_eq_some_iff.1 hj).1; omega)).trans hj) hcm (by omega) hnc hB hn bv cv tv hbv hys hy h1
 ·rcases h with ⟨_, h0, _⟩ | ⟨g, cap, rfl, hc⟩
  ·omega
  ·by_cases hr : n + 1 ≤ cap
   ·exact cp_ins_room B g n cap i xs ys w hc hi hr hn hx1 bv cv tv hbv (fun e => hbg (by rw [e]; rfl)) hys hy h1
   ·have hc2 := hc
    obtain ⟨_, _, _, hnc, _⟩ := hc2
    obtain rfl : cap = n := by omega
    exact cp_ins_grow B g cap i xs ys w hc hi hn hx1 bv cv tv hbv hys hy h1
end Go.Proofs.YthdiccdnggloiaaGreatDoor
namespace Go.Proofs.YthdiccdnggloiaaGreatDoor
open Go.RowKit Go.Sort Go.Shelf Go.Maps

theorem neTir (n : ByteArray) (r c : Int) (y : Bool) (w : World) : Sem.run Tryz.prog (binOp .neq 46 (.agg #[.string n, .int .i64 r, .int .i64 c, .bool y]) (.agg #[.string n, .int .i64 r, .int .i64 c, .bool y])) w = .ok (.bool false) w := by
 have u3 := Tryz.underlying3
 have a3 := Tryz.isAgg3
 have z3 := Tryz.sizeOf3
 have u9 := Tryz.underlying9
 have a9 := Tryz.isAgg9
 have z9 := Tryz.sizeOf9
 have u4 := Tryz.underlying4
 have a4 := Tryz.isAgg4
 have z4 := Tryz.sizeOf4
 have hS : Tryz.prog.underlying 46 = some (.struct (Tryz.prog.fieldsOf 46)) := by kernel_rfl
 have hp : Tryz.prog.stoodInHeld 46 = false := by kernel_rfl
 rw [run_neq_struct, show (10000 : Nat) = 9999 + 1 from rfl, run_equalIn_agg w 9999 46 _ _ hS hp]
 simp only [Program.fieldsOf, Tryz.underlying46]
 go_simp
 try simp

theorem neFil (n : ByteArray) (r c : Int) (y : ByteArray) (w : World) : Sem.run Tryz.prog (binOp .neq 30 (.agg #[.string n, .int .i64 r, .int .i64 c, .string y]) (.agg #[.string n, .int .i64 r, .int .i64 c, .string y])) w = .ok (.bool false) w := by
 have u3 := Tryz.underlying3
 have a3 := Tryz.isAgg3
 have z3 := Tryz.sizeOf3
 have u9 := Tryz.underlying9
 have a9 := Tryz.isAgg9
 have z9 := Tryz.sizeOf9
 have u4 := Tryz.underlying4
 have a4 := Tryz.isAgg4
 have z4 := Tryz.sizeOf4
 have hS : Tryz.prog.underlying 30 = some (.struct (Tryz.prog.fieldsOf 30)) := by kernel_rfl
 have hp : Tryz.prog.stoodInHeld 30 = false := by kernel_rfl
 rw [run_neq_struct, show (10000 : Nat) = 9999 + 1 from rfl, run_equalIn_agg w 9999 30 _ _ hS hp]
 simp only [Program.fieldsOf, Tryz.underlying30]
 go_simp
 try simp

theorem neCop (n r : ByteArray) (c : Bool) (y : Int) (w : World) : Sem.run Tryz.prog (binOp .neq 74 (.agg #[.string n, .string r, .bool c, .int .i64 y]) (.agg #[.string n, .string r, .bool c, .int .i64 y])) w = .ok (.bool false) w := by
 have u3 := Tryz.underlying3
 have a3 := Tryz.isAgg3
 have z3 := Tryz.sizeOf3
 have u9 := Tryz.underlying9
 have a9 := Tryz.isAgg9
 have z9 := Tryz.sizeOf9
 have u4 := Tryz.underlying4
 have a4 := Tryz.isAgg4
 have z4 := Tryz.sizeOf4
 have hS : Tryz.prog.underlying 74 = some (.struct (Tryz.prog.fieldsOf 74)) := by kernel_rfl
 have hp : Tryz.prog.stoodInHeld 74 = false := by kernel_rfl
 rw [run_neq_struct, show (10000 : Nat) = 9999 + 1 from rfl, run_equalIn_agg w 9999 74 _ _ hS hp]
 simp only [Program.fieldsOf, Tryz.underlying74]
 go_simp
 try simp

theorem neGon (n : ByteArray) (c : Int) (w : World) : Sem.run Tryz.prog (binOp .neq 112 (.agg #[.string n, .int .i64 c]) (.agg #[.string n, .int .i64 c])) w = .ok (.bool false) w := by
 have u3 := Tryz.underlying3
 have a3 := Tryz.isAgg3
 have z3 := Tryz.sizeOf3
 have u9 := Tryz.underlying9
 have a9 := Tryz.isAgg9
 have z9 := Tryz.sizeOf9
 have u4 := Tryz.underlying4
 have a4 := Tryz.isAgg4
 have z4 := Tryz.sizeOf4
 have hS : Tryz.prog.underlying 112 = some (.struct (Tryz.prog.fieldsOf 112)) := by kernel_rfl
 have hp : Tryz.prog.stoodInHeld 112 = false := by kernel_rfl
 rw [run_neq_struct, show (10000 : Nat) = 9999 + 1 from rfl, run_equalIn_agg w 9999 112 _ _ hS hp]
 simp only [Program.fieldsOf, Tryz.underlying112]
 go_simp
 try simp
theorem guardCop : Tryz.prog.eqGuardType Tryz.prog.depth 74 = false := by kernel_rfl
def Sto.zero : Sto := ⟨0, 0, [], [], [], [], []⟩
def StA.zero : StA := ⟨none, 0, none, 0, none, 0, none, 0, none, 0⟩
theorem StIn.zero (w : World) : StIn w Sto.zero StA.zero :=
 ⟨RowE.nil _ _ _, RowE.nil _ _ _, RowE.nil _ _ _, RowE.nil _ _ _, RowE.nil _ _ _, ⟨Nat.le_refl _, by decide⟩, ⟨Nat.le_refl _, by decide⟩, ⟨Nat.le_refl _, by decide⟩, ⟨Nat.le_refl _, by decide⟩, ⟨Nat.le_refl _, by decide⟩, fun _ h => (by cases h), fun _ h => (by cases h), fun _ h => (by cases h), fun _ h => (by cases h), fun _ h => (by cases h)⟩
theorem eqlCop (z x : Cop) (w : World) : ∃ b : Bool, (b = true ↔ z = x) ∧ Sem.run Tryz.prog (binOp .eql 74 (.agg #[.string z.dig, .string z.tier, .bool z.good, .int .i64 z.asked]) (.agg #[.string x.dig, .string x.tier, .bool x.good, .int .i64 x.asked])) w = .ok (.bool b) w := by
 have u3 := Tryz.underlying3
 have a3 := Tryz.isAgg3
 have z3 := Tryz.sizeOf3
 have u9 := Tryz.underlying9
 have a9 := Tryz.isAgg9
 have z9 := Tryz.sizeOf9
 have u4 := Tryz.underlying4
 have a4 := Tryz.isAgg4
 have z4 := Tryz.sizeOf4
 have hS : Tryz.prog.underlying 74 = some (.struct (Tryz.prog.fieldsOf 74)) := by kernel_rfl
 have hp : Tryz.prog.stoodInHeld 74 = false := by kernel_rfl
 obtain ⟨zd, zt, zg, za⟩ := z
 obtain ⟨xd, xt, xg, xa⟩ := x
 refine ⟨(zd.toList == xd.toList) && ((zt.toList == xt.toList) && ((zg == xg) && (za == xa))), ?_, ?_⟩
 ·constructor
  ·intro h
   simp only [Bool.and_eq_true] at h
   obtain ⟨h1, h2, h3, h4⟩ := h
   have i1 : zd = xd := St.eq_iff.1 h1
   have i2 : zt = xt := St.eq_iff.1 h2
   have i3 : zg = xg := by simpa using h3
   have i4 : za = xa := by simpa using h4
   subst i1 i2 i3 i4
   rfl
  ·intro h
   cases h
   simp
 ·rw [run_eql_struct, show (10000 : Nat) = 9999 + 1 from rfl, run_equalIn_agg w 9999 74 _ _ hS hp]
  simp only [Program.fieldsOf, Tryz.underlying74]
  cases h1 : (zd.toList == xd.toList) <;> cases h2 : (zt.toList == xt.toList) <;> cases zg <;> cases xg <;> cases h4 : (za == xa)
  all_goals
   go_simp
   try simp
theorem idxC_is (L : List Cop) (sa : Option Addr) (sc : Nat) (z : Cop) (w : World) (hr : RowE St.eC w sa L) (hl : L.length ≤ sc ∧ sc ≤ 9223372036854775807) :
  Calls Tryz.prog 205 #[.slice sa L.length sc, .agg #[.string z.dig, .string z.tier, .bool z.good, .int .i64 z.asked]] w fun e w' => (∃ r : Int, e = .returned (.int .i64 r) ∧ (0 ≤ r ↔ z ∈ L)) ∧ Below w.heap.size w w' := by
 obtain ⟨W1, hW1, hP, hz1, hB1⟩ := box w #[.string z.dig, .string z.tier, .bool z.good, .int .i64 z.asked] 74
 have HW1 := Lib.hid hW1; have HB1 := Lib.hid hB1
 have HR := Lib.hid (hr.keep hB1)
 have HZ : Hid (∀ V, Below W1.heap.size W1 V → V.cell? ⟨w.heap.size, 0, none⟩ = some (.string z.dig) ∧ V.cell? ⟨w.heap.size, 1, none⟩ = some (.string z.tier) ∧ V.cell? ⟨w.heap.size, 2, none⟩ = some (.bool z.good) ∧ V.cell? ⟨w.heap.size, 3, none⟩ = some (.int .i64 z.asked)) := Lib.hid fun V hv => (hP.keep hv).four
 have HQ : Hid (∀ r : Int, (0 ≤ r ↔ z ∈ L.drop 0) → (0 ≤ r ↔ z ∈ L)) := Lib.hid fun r h => h
 obtain ⟨n, hn⟩ : ∃ n, L.length = n := ⟨_, rfl⟩
 have HN := Lib.hid hn
 rw [hn] at hl ⊢
 clear hr hn hW1 hP hz1 hB1
 go_enter Tryz.func205, Tryz.ntmps205
 go_upto_region 1 with fail
 rw [HW1.out]
 go_wp2_with fail
 go_loopg [8] n (fun gk i wr => ∃ j : Nat, j ≤ n ∧ gk = n - j ∧ i = .int .i64 j ∧ (∀ r : Int, (0 ≤ r ↔ z ∈ L.drop j) → (0 ≤ r ↔ z ∈ L)) ∧ Below W1.heap.size W1 wr)
 case atStart => exact ⟨0, by omega, rfl, rfl, HQ.out, Below.refl _ _⟩
 case round =>
  obtain ⟨j, hj, rfl, rfl, hs, hB⟩ := hrel
  have HSC := Lib.hid hs; clear hs
  obtain ⟨z0, z1, z2, z3⟩ := HZ.out _ hB
  have HBZ := Lib.hid (below_up HB1.out hB)
  by_cases hlt : j < n
  ·obtain ⟨x, hx⟩ : ∃ x, L[j]? = some x := ⟨_, List.getElem?_eq_getElem (by rw [HN.out]; exact hlt)⟩
   obtain ⟨b, off, ha, hb, hcell⟩ := (HR.out.keep hB) (by rw [HN.out]; omega)
   have c0 : wr.cell? ⟨b, off + j * 4, none⟩ = some (.string x.dig) := hcell j x hx 0 (.string x.dig) rfl
   have c1 : wr.cell? ⟨b, off + j * 4 + 1, none⟩ = some (.string x.tier) := hcell j x hx 1 (.string x.tier) rfl
   have c2 : wr.cell? ⟨b, off + j * 4 + 2, none⟩ = some (.bool x.good) := hcell j x hx 2 (.bool x.good) rfl
   have c3 : wr.cell? ⟨b, off + j * 4 + 3, none⟩ = some (.int .i64 x.asked) := hcell j x hx 3 (.int .i64 x.asked) rfl
   clear hcell
   have HX : Hid (L.drop j = x :: L.drop (j + 1)) := Lib.hid (by
    obtain ⟨h1, h2⟩ := List.getElem?_eq_some_iff.1 hx
    rw [List.drop_eq_getElem_cons h1, h2])
   have hj0 : (0 : Int) ≤ (j : Int) := by omega
   have hj1 : (j : Int) < (n : Int) := by omega
   rw [ha]
   clear hx
   obtain ⟨bq, hbq, hrun⟩ : ∃ bq : Bool, (bq = true ↔ z = x) ∧ ∀ V : World, Sem.run Tryz.prog (binOp .eql 74 (.agg #[.string z.dig, .string z.tier, .bool z.good, .int .i64 z.asked]) (.agg #[.string x.dig, .string x.tier, .bool x.good, .int .i64 x.asked])) V = .ok (.bool bq) V := by
    by_cases he : z = x
    ·exact ⟨true, by simp [he], fun V => by
      obtain ⟨b', h1, h2⟩ := eqlCop z x V
      rw [h1.2 he] at h2; exact h2⟩
    ·exact ⟨false, by simp [he], fun V => by
      obtain ⟨b', h1, h2⟩ := eqlCop z x V
      cases b' with
      | true => exact absurd (h1.1 rfl) he
      | false => exact h2⟩
   have HBQ := Lib.hid hbq
   have hgd := guardCop
   clear hbq
   cases bq
   ·have HNX : Hid (∀ r : Int, (0 ≤ r ↔ z ∈ L.drop (j + 1)) → (0 ≤ r ↔ z ∈ L)) := Lib.hid fun r h => HSC.out r (by
     rw [HX.out, List.mem_cons]
     exact ⟨fun g => .inr (h.1 g), fun g => g.elim (fun e => absurd (HBQ.out.2 e) (by decide)) h.2⟩)
    go_wp2_with fail
    go_quiet (fail)
    go_wp2_with fail
    rw [← ha]
    go_roundg (n - (j + 1))
    case rel => exact ⟨j + 1, by omega, rfl, by go_num, HNX.out, below_drewN hB _⟩
    case measure => omega
   ·have HE : Hid (z ∈ L.drop j) := Lib.hid (by rw [HX.out, HBQ.out.1 rfl]; exact List.mem_cons_self ..)
    go_wp2_with fail
    go_quiet (fail)
    go_wp2_with fail
    go_ret
    exact ⟨⟨_, rfl, HSC.out _ ⟨fun _ => HE.out, fun _ => by omega⟩⟩, below_up HB1.out (below_drewN hB _)⟩
  ·obtain rfl : j = n := by omega
   go_wp2_with fail
   go_ret
   exact ⟨⟨_, rfl, HSC.out _ (by rw [List.drop_eq_nil_of_le (by rw [HN.out]; exact Nat.le_refl _)]; simp)⟩, HBZ.out⟩
theorem containsC_is (L : List Cop) (sa : Option Addr) (sc : Nat) (z : Cop) (w : World) (hr : RowE St.eC w sa L) (hl : L.length ≤ sc ∧ sc ≤ 9223372036854775807) :
  Calls Tryz.prog 170 #[.slice sa L.length sc, .agg #[.string z.dig, .string z.tier, .bool z.good, .int .i64 z.asked]] w fun e w' => (∃ b : Bool, e = .returned (.bool b) ∧ (b = true ↔ z ∈ L)) ∧ Below w.heap.size w w' := by
 obtain ⟨W1, hW1, hP, hz1, hB1⟩ := box w #[.string z.dig, .string z.tier, .bool z.good, .int .i64 z.asked] 74
 have HW1 := Lib.hid hW1; have HB1 := Lib.hid hB1
 have HC := Lib.hid (idxC_is L sa sc z W1 (hr.keep hB1) hl)
 obtain ⟨z0, z1, z2, z3⟩ := hP.four
 clear hW1 hP hz1 hB1 hr
 go_enter Tryz.func170, Tryz.ntmps170
 go_upto_region 1 with fail
 rw [HW1.out]
 go_wp2_with (go_at_call 205; (with_reducible refine HC.out.mono ?_); rintro e w4 ⟨⟨r, rfl, hr2⟩, hB4⟩)
 go_ret
 exact ⟨⟨_, rfl, by rw [← hr2]; simp⟩, below_up HB1.out hB4⟩
end Go.Proofs.YthdiccdnggloiaaGreatDoor
