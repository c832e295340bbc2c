/- Parts of the proof, no condition: StIns4, StMem, StWthS, StWthG. -/
import Derived.Test.YthdiccdnggloiaaGreatDoorEv16
import Derived.Test.YthdiccdnggloiaaGreatDoorEv17
import Derived.Test.YthdiccdnggloiaaGreatDoorBn2
import Derived.Deep.RegionHeld3
set_option maxRecDepth 100000
set_option maxHeartbeats 8000000
set_option linter.unusedSimpArgs false
set_option linter.unusedVariables false
namespace Go.Proofs.YthdiccdnggloiaaGreatDoor
open Go.RowKit Go.Sort Go.Shelf
theorem below_ownI {B : Nat} {a w w' : World} {v : Value} {n k : Nat} {e : TypeId} {xs : List Value} (h : Below B a w) (ho : OwnV w B e k v n xs) (hg : w.grownBy w' v.ownBlock) (hB : B ≤ w.heap.size) : Below B a w' := by
 refine h.trans ⟨hg.os, hg.tape, hg.output, hg.size, fun j hj => ?_⟩
 refine hg.block j (by omega) fun e2 => ?_
 have h1 := (ho.lt j e2.symm).1
 omega



theorem gn_ins_grown (B n ca : Nat) (a : Option Addr) (xs ys : List Value) (w : World) (hnone : a = none → n = 0 ∧ ca = 0) (hlo : xs.length = n * 2) (holds : ∀ b, a = some b → ∀ j u, xs[j]? = some u → w.cell? (b.add j) = some u) (hcm : ca ≤ 9223372036854775807) (hfull : ca < n + 1) (hnc : n ≤ ca) (hB : B ≤ w.heap.size) (hn : n ≤ 1000000) (bv : Nat) (cv : Array Value) (tv : TypeId) (hbv : w.heap[bv]? = some (.cells cv tv (0, 0))) (hys : cv.toList = ys) (hy : ys.length = 2) (h1 : ∀ v ∈ ys, v.oneCell' = true) :
  Calls Tryz.prog 89 #[.slice a n ca, .int .i64 n, .slice (some ⟨bv, 0, none⟩) 1 1] w (OwnPost w B 112 2 (.slice a n ca) (n + 1) (xs ++ ys)) := by
 obtain ⟨i0, hi0, hz0, hz1, hz2⟩ := info_parts infoGon
 have HI0 := Lib.hid hi0; have HI1 := Lib.hid hz0; have HI2 := Lib.hid hz1; have HI3 := Lib.hid hz2
 have hsrc : ∀ j u, ys[j]? = some u → w.cell? ((⟨bv, 0, none⟩ : Addr).add j) = some u := by
  intro j u hj
  rw [show (⟨bv, 0, none⟩ : Addr).add j = ⟨bv, j, none⟩ from by unfold Addr.add; split <;> simp_all, World.cell?]
  simp only [hbv]
  rw [← hys] at hj
  simpa using hj
 have HS := Lib.hid hsrc; have HO := Lib.hid holds; have HL := Lib.hid hy; have H1 := Lib.hid h1; have HBB := Lib.hid hB; have HNN := Lib.hid hnone; have HLO := Lib.hid hlo
 obtain rfl : ca = n := by omega
 clear hi0 hz0 hz1 hz2 hsrc holds hy h1 hB hbv hys hnone hlo
 go_enter Tryz.func89, Tryz.ntmps89
 go_wp2_with (at_builtin; refine wpList_append_grows _ rfl _ _ 26 rfl 112 i0 (.agg #[.string ByteArray.empty, .int .i64 0]) 2 24 Tryz.underlying26 HI0.out HI1.out HI2.out HI3.out rfl (by decide) a ca ca xs rfl HNN.out HLO.out HO.out ⟨bv, 0, none⟩ 1 1 ys rfl HL.out HS.out H1.out hfull (by unfold maxLen; omega) (by omega) ?_; intro v8 w8 hown8 hgrow8; obtain ⟨g8, cap8, rfl, hoc8⟩ : ∃ g8 cap8, v8 = .slice (some ⟨g8, 0, none⟩) (ca + 1) cap8 ∧ OwnC w8 w.heap.size 112 2 g8 (ca + 1) cap8 (xs ++ ys) := by { rcases OwnV.of_own hown8 with ⟨_, h0, _⟩ | h; exact absurd h0 (by omega); exact h })
 go_ret
 exact ⟨g8, cap8, rfl, hoc8.down HBB.out, ⟨hgrow8.os, hgrow8.tape, hgrow8.output, hgrow8.size, fun j hj _ => hgrow8.block j hj (by simp)⟩, .inr hoc8.lt.1⟩
theorem gn_ins_last (B g n cap : Nat) (xs ys : List Value) (w : World) (h : OwnC w B 112 2 g n cap xs) (hroom : n + 1 ≤ cap) (hn : n ≤ 1000000) (bv : Nat) (cv : Array Value) (tv : TypeId) (hbv : w.heap[bv]? = some (.cells cv tv (0, 0))) (hys : cv.toList = ys) (hy : ys.length = 2) (h1 : ∀ v ∈ ys, v.oneCell' = true) :
  Calls Tryz.prog 89 #[.slice (some ⟨g, 0, none⟩) n cap, .int .i64 n, .slice (some ⟨bv, 0, none⟩) 1 1] w (OwnPost w B 112 2 (.slice (some ⟨g, 0, none⟩) n cap) (n + 1) (xs ++ ys)) := by
 obtain ⟨i0, hi0, hz0, hz1, hz2⟩ := info_parts infoGon
 have hsrc : ∀ j u, ys[j]? = some u → w.cell? ((⟨bv, 0, none⟩ : Addr).add j) = some u := by
  intro j u hj
  rw [show (⟨bv, 0, none⟩ : Addr).add j = ⟨bv, j, none⟩ from by unfold Addr.add; split <;> simp_all, World.cell?]
  simp only [hbv]
  rw [← hys] at hj
  simpa using hj
 obtain ⟨w1, hr1, ho1, hg1⟩ := own_append (P := Tryz.prog) h 26 i0 Tryz.underlying26 hi0 hz1 ⟨bv, 0, none⟩ 1 ys (by rw [hy]) hsrc h1 hroom
 obtain ⟨_, _, _, hnc, hcm, _⟩ := h
 have hcm2 : cap ≤ 9223372036854775807 := hcm
 have hcn : ¬ cap = n := by omega
 have HO := Lib.hid ho1; have HG := Lib.hid hg1
 clear hi0 hz0 hz1 hz2 hsrc hy h1 hbv hys ho1 hg1
 go_enter Tryz.func89, Tryz.ntmps89
 go_wp2_with (at_builtin; refine Lib.wpList_append_run _ rfl _ _ _ _ rfl _ _ rfl rfl _ _ (hr1 _ _) ?_)
 go_ret
 exact ⟨g, cap, rfl, HO.out, HG.out, .inl rfl⟩
theorem gn_ins_room (B g n cap i : Nat) (xs ys : List Value) (w : World) (h : OwnC w B 112 2 g n cap xs) (hi : i < n) (hroom : n + 1 ≤ cap) (hn : n ≤ 1000000) (hx1 : ∀ v ∈ xs, v.oneCell' = true) (bv : Nat) (cv : Array Value) (tv : TypeId) (hbv : w.heap[bv]? = some (.cells cv tv (0, 0))) (hbg : bv ≠ g) (hys : cv.toList = ys) (hy : ys.length = 2) (h1 : ∀ v ∈ ys, v.oneCell' = true) :
  Calls Tryz.prog 89 #[.slice (some ⟨g, 0, none⟩) n cap, .int .i64 i, .slice (some ⟨bv, 0, none⟩) 1 1] w (OwnPost w B 112 2 (.slice (some ⟨g, 0, none⟩) n cap) (n + 1) (xs.take (i * 2) ++ ys ++ xs.drop (i * 2))) := by
 have HH0 := h
 obtain ⟨cur, hB, hc, hnc, hcm, hcs, htk, hl⟩ := HH0
 obtain ⟨i0, hi0, hz0, hz1, hz2⟩ := info_parts infoGon
 have hcm2 : cap ≤ 9223372036854775807 := hcm
 have hsz : (Tryz.prog.info? 112).map (·.size) = some 2 := by rw [hi0]; simp [hz1]
 obtain ⟨tail, htl, ho0⟩ := own_more h hroom
 have hdl : (xs.drop (i * 2)).length = (n - i) * 2 := by rw [List.length_drop, hl]; omega
 obtain ⟨w1, hr1, ho1, hg1⟩ := own_copy (P := Tryz.prog) (w := w.drew) ho0 26 26 Tryz.underlying26 hsz ((i + 1) * 2) (n - i) (cap - (i + 1)) ⟨g, i * 2, none⟩ (n + 1 - i) (cap - i) (xs.drop (i * 2)) (by rw [hdl]; congr 1; exact (Nat.min_eq_right (by omega)).symm)
  (fun j u hj => by
   rw [List.getElem?_drop] at hj
   have hjl := (List.getElem?_eq_some_iff.1 hj).1
   rw [show (⟨g, i * 2, none⟩ : Addr).add j = ⟨g, i * 2 + j, none⟩ from by unfold Addr.add; split <;> simp_all]
   exact (h.cellAt (i * 2 + j) (by omega)).trans hj)
  (by rw [hdl]; omega) (fun v hv => hx1 v (List.mem_of_mem_drop hv))
 have hbv1 : w1.heap[bv]? = some (.cells cv tv (0, 0)) := by
  rw [hg1.block bv (Array.getElem?_eq_some_iff.1 hbv).1 (by simpa using hbg)]; exact hbv
 obtain ⟨w2, hr2, ho2, hg2⟩ := own_copy (P := Tryz.prog) (w := w1) ho1 26 26 Tryz.underlying26 hsz (i * 2) (n + 1 - i) (cap - i) ⟨bv, 0, none⟩ 1 1 ys (by rw [hy, show Nat.min 1 (n + 1 - i) = 1 from Nat.min_eq_left (by omega)])
  (fun j u hj => by
   rw [show (⟨bv, 0, none⟩ : Addr).add j = ⟨bv, j, none⟩ from by unfold Addr.add; split <;> simp_all, World.cell?]
   simp only [hbv1]
   rw [← hys] at hj
   simpa using hj)
  (by rw [hy]; omega) h1
 rw [show (i + 1) * 2 = i * 2 + 2 by omega, ins_shift hl htl hy (by omega)] at ho2
 have hov : ∀ lb cb, (callFunc 162 #[.slice (some ⟨bv, 0, none⟩) 1 1, .slice (some ⟨g, (i + 1) * 2, none⟩) lb cb]).run Tryz.prog w = .ok (.value (.bool false)) w := fun lb cb => by
  rw [run_callFunc_extern Tryz.func162 (by kernel_rfl) (by kernel_rfl) (by kernel_rfl) (e := Extern.SlicesOverlaps.overlaps #[26, 26] #[4]) (by kernel_rfl),
   Lib.run_overlaps_apart w 26 4 112 Tryz.underlying26 2 (fun w => by kernel_rfl) ⟨bv, 0, none⟩ ⟨g, (i + 1) * 2, none⟩ 1 1 lb cb hbg tv 112 cv.size cur.size (shape_of hbv) (shape_of hc) (by omega) (frozen_of hbv 0) (frozen_of hbv cv.size)]
  rfl
 have HO := Lib.hid ho2
 have HG := Lib.hid (grown_up hg1 hg2)
 have hz2' : ¬ ((i : Int) = (n : Int)) := by omega
 have hz2b : ((i : Int) == (n : Int)) = false := by simpa using hz2'
 have hw1 : IntKind.i64.wrap ((n : Int) + 1) = (n : Int) + 1 := by rw [IntKind.wrap_i64]; omega
 have hw2 : IntKind.i64.wrap ((i : Int) + 1) = (i : Int) + 1 := by rw [IntKind.wrap_i64]; omega
 have hb0 : ¬ ((cap : Int) < (n : Int) + 1) := by omega
 have hb0' : ((n : Int) + 1 ≤ (cap : Int)) := by omega
 have hb1 : (0 : Int) ≤ (i : Int) + 1 := by omega
 have hb2 : (0 : Int) ≤ (n : Int) + 1 := by omega
 have hb3 : (i : Int) ≤ (n : Int) + 1 := by omega
 have hb4 : (i : Int) + 1 ≤ (n : Int) + 1 := by omega
 have hb5 : ¬ cap = i := by omega
 have hb6 : ¬ cap = i + 1 := by omega
 have hin : i ≤ n := by omega
 clear ho2 ho1 ho0 hg1 hg2 h1 hx1 hbv hbv1 hc hcs htk hl hdl htl hys hy h
 go_enter Tryz.func89, Tryz.ntmps89
 go_wp2_with (simp only [hov])
 go_region_law (refine step_copy_run rfl _ _ _ _ rfl (.slice (some ⟨g, (i + 1) * 2, none⟩) (n - i) (cap - (i + 1))) (.slice (some ⟨g, i * 2, none⟩) (n + 1 - i) (cap - i)) (by simp [Act.eval, Act.put]) (by simp [Act.eval, Act.put]) (hr1 _) ?_)
 go_wp2_with (at_builtin; refine wpList_copy_run _ rfl _ _ _ _ rfl _ _ rfl rfl (hr2 _) ?_)
 go_ret
 exact ⟨g, cap, rfl, HO.out, HG.out, .inl rfl⟩

theorem gn_ins_grow (B g n i : Nat) (xs ys : List Value) (w : World) (h : OwnC w B 112 2 g n n xs) (hi : i < n) (hn : n ≤ 1000000) (hx1 : ∀ v ∈ xs, v.oneCell' = true) (bv : Nat) (cv : Array Value) (tv : TypeId) (hbv : w.heap[bv]? = some (.cells cv tv (0, 0))) (hys : cv.toList = ys) (hy : ys.length = 2) (h1 : ∀ v ∈ ys, v.oneCell' = true) :
  Calls Tryz.prog 89 #[.slice (some ⟨g, 0, none⟩) n n, .int .i64 i, .slice (some ⟨bv, 0, none⟩) 1 1] w (OwnPost w B 112 2 (.slice (some ⟨g, 0, none⟩) n n) (n + 1) (xs.take (i * 2) ++ ys ++ xs.drop (i * 2))) := by
 have HH0 := h
 obtain ⟨cur, hB, hc, hnc, hcm, hcs, htk, hl⟩ := HH0
 obtain ⟨i0, hi0, hz0, hz1, hz2⟩ := info_parts infoGon
 have hgw := (Array.getElem?_eq_some_iff.1 hc).1
 have hbw := (Array.getElem?_eq_some_iff.1 hbv).1
 have hsz : (Tryz.prog.info? 112).map (·.size) = some 2 := by rw [hi0]; simp [hz1]
 have hcl : ∀ j u, xs[j]? = some u → w.cell? ⟨g, j, none⟩ = some u := fun j u hj => (h.cellAt j (by have := (List.getElem?_eq_some_iff.1 hj).1; omega)).trans hj
 have hik : i + (n + 1 - i) = n + 1 := by omega
 have hkk : (n : Int) + 1 - (i : Int) = ((n + 1 - i : Nat) : Int) := by omega
 have htl : (xs.take (i * 2)).length = i * 2 := by rw [List.length_take, hl]; omega
 have hold : (Builtin.firstCells i0.size i (.slice (some ⟨g, 0, none⟩) i n)).run Tryz.prog w.drew = .ok (xs.take (i * 2)).toArray w.drew := by
  rw [hz1]
  exact run_firstCells_some w.drew 2 i ⟨g, 0, none⟩ i n (xs.take (i * 2)) htl (fun j u hj => by
   rw [show (⟨g, 0, none⟩ : Addr).add j = ⟨g, j, none⟩ from by unfold Addr.add; split <;> simp_all]
   rw [List.getElem?_take] at hj
   split at hj
   ·exact hcl j u hj
   ·cases hj)
 have hrz := fun ty => Lib.run_append_grow_zeros w 26 3 ty 112 i0 (.agg #[.string ByteArray.empty, .int .i64 0]) .i64 .i64 Tryz.underlying26 Tryz.underlying3 hi0 hz0 (some ⟨g, 0, none⟩) i n (xs.take (i * 2)) hold (n + 1 - i) (by omega) (by omega) (by omega) (by omega) (by rw [hz2]; omega) (by rw [hz2, hik]; exact growslice_fits (by omega) (by omega))
 rw [hik, ← hkk] at hrz
 have hGn : n + 1 ≤ grownCap w (n + 1) n 112 := grownCap_ge w _ _ _
 have hGm : grownCap w (n + 1) n 112 ≤ maxLen := grownCap_le_maxLen w _ _ _ (by unfold maxLen; omega)
 generalize grownCap w (n + 1) n 112 = G at hrz hGn hGm
 have hzl : (Builtin.zeroCells (Value.cells (.agg #[.string ByteArray.empty, .int .i64 0])) (n + 1 - i)).toList.length = (n + 1 - i) * 2 := by
  rw [Array.length_toList]; simp [Builtin.zeroCells] <;> (first | rfl | exact Or.inl rfl)
 have hzl2 : (Builtin.zeroCells (Value.cells (.agg #[.string ByteArray.empty, .int .i64 0])) (G - (n + 1))).toList.length = (G - (n + 1)) * 2 := by
  rw [Array.length_toList]; simp [Builtin.zeroCells] <;> (first | rfl | exact Or.inl rfl)
 obtain ⟨ROW, hROW⟩ : ∃ ROW : Array Value, (xs.take (i * 2)).toArray ++ Builtin.zeroCells (Value.cells (.agg #[.string ByteArray.empty, .int .i64 0])) (n + 1 - i) ++ Builtin.zeroCells (Value.cells (.agg #[.string ByteArray.empty, .int .i64 0])) (G - (n + 1)) = ROW := ⟨_, rfl⟩
 rw [hROW] at hrz
 have hRl : ROW.toList = xs.take (i * 2) ++ (Builtin.zeroCells (Value.cells (.agg #[.string ByteArray.empty, .int .i64 0])) (n + 1 - i)).toList ++ (Builtin.zeroCells (Value.cells (.agg #[.string ByteArray.empty, .int .i64 0])) (G - (n + 1))).toList := by rw [← hROW]; simp
 generalize (Builtin.zeroCells (Value.cells (.agg #[.string ByteArray.empty, .int .i64 0])) (n + 1 - i)).toList = zs at hzl hRl
 generalize (Builtin.zeroCells (Value.cells (.agg #[.string ByteArray.empty, .int .i64 0])) (G - (n + 1))).toList = zs2 at hzl2 hRl
 clear hROW
 obtain ⟨W1, hW1⟩ : ∃ W1, w.drew.alloc (.cells ROW 112) = W1 := ⟨_, rfl⟩
 rw [hW1] at hrz
 have hnew : W1.heap[w.heap.size]? = some (.cells ROW 112 (0, 0)) := by rw [← hW1]; exact heap_alloc_new w.drew _
 have hbl : ∀ b, b < w.heap.size → W1.heap[b]? = w.heap[b]? := fun b hb => by rw [← hW1]; exact Below.heap_alloc w.drew _ b hb
 have hs1 : W1.heap.size = w.heap.size + 1 := by rw [← hW1]; simp
 have hbs : W1.os = w.os ∧ W1.tape = w.tape ∧ W1.output = w.output := by rw [← hW1]; exact ⟨rfl, rfl, rfl⟩
 have ho0 : OwnC W1 B 112 2 w.heap.size (n + 1) G (xs.take (i * 2) ++ zs) := own_make (by omega) hnew hGn hGm (by rw [← Array.length_toList, hRl, List.length_append, List.length_append, htl, hzl, hzl2]; omega)
  (by rw [hRl]; exact List.take_left' (by rw [List.length_append, htl, hzl]; omega))
 obtain ⟨w2, hr1, ho1, hg1⟩ := own_copy (P := Tryz.prog) (w := W1) ho0 26 26 Tryz.underlying26 hsz (i * 2) (n + 1 - i) (G - i) ⟨bv, 0, none⟩ 1 1 ys (by rw [hy, show Nat.min 1 (n + 1 - i) = 1 from Nat.min_eq_left (by omega)])
  (fun j u hj => by
   rw [show (⟨bv, 0, none⟩ : Addr).add j = ⟨bv, j, none⟩ from by unfold Addr.add; split <;> simp_all, World.cell?]
   simp only [hbl bv hbw, hbv]
   rw [← hys] at hj
   simpa using hj)
  (by rw [hy]; omega) h1
 have hdl : (xs.drop (i * 2)).length = (n - i) * 2 := by rw [List.length_drop, hl]; omega
 have hg2w : w2.heap[g]? = w.heap[g]? := (hg1.block g (by omega) (by simp; omega)).trans (hbl g hgw)
 obtain ⟨w3, hr2, ho2, hg2⟩ := own_copy (P := Tryz.prog) (w := w2.drew) ho1 26 26 Tryz.underlying26 hsz ((i + 1) * 2) (n - i) (G - (i + 1)) ⟨g, i * 2, none⟩ (n - i) (n - i) (xs.drop (i * 2)) (by rw [hdl]; congr 1; exact (Nat.min_eq_left (Nat.le_refl _)).symm)
  (fun j u hj => by
   rw [List.getElem?_drop] at hj
   rw [show (⟨g, i * 2, none⟩ : Addr).add j = ⟨g, i * 2 + j, none⟩ from by unfold Addr.add; split <;> simp_all]
   have := hcl _ _ hj
   unfold World.cell? at this ⊢
   rw [show w2.drew.heap[g]? = w.heap[g]? from hg2w]
   exact this)
  (by rw [hdl]; omega) (fun v hv => hx1 v (List.mem_of_mem_drop hv))
 rw [show (i + 1) * 2 = i * 2 + 2 by omega, ins_grow (N := n * 2) hl (by rw [hzl]; omega) hy (by omega)] at ho2
 have HO := Lib.hid ho2
 have HG : Hid (w.grownBy w3 (some g)) := Lib.hid ⟨hg2.os.trans (hg1.os.trans hbs.1), hg2.tape.trans (hg1.tape.trans hbs.2.1), hg2.output.trans (hg1.output.trans hbs.2.2), by have := hg2.size; have h3 : w2.drew.heap.size = w2.heap.size := rfl; have := hg1.size; omega, fun b hb _ => (hg2.block b (by have h3 : w2.drew.heap.size = w2.heap.size := rfl; have := hg1.size; omega) (by simp; omega)).trans ((hg1.block b (by omega) (by simp; omega)).trans (hbl b hb))⟩
 have hGm2 : G ≤ 9223372036854775807 := hGm
 have hz2' : ¬ ((i : Int) = (n : Int)) := by omega
 have hz2b : ((i : Int) == (n : Int)) = false := by simpa using hz2'
 have hw1 : IntKind.i64.wrap ((n : Int) + 1) = (n : Int) + 1 := by rw [IntKind.wrap_i64]; omega
 have hw2 : IntKind.i64.wrap ((i : Int) + 1) = (i : Int) + 1 := by rw [IntKind.wrap_i64]; omega
 have hw3 : IntKind.i64.wrap ((n : Int) + 1 - (i : Int)) = (n : Int) + 1 - (i : Int) := by rw [IntKind.wrap_i64]; omega
 have hb1 : (0 : Int) ≤ (i : Int) + 1 := by omega
 have hb3 : (i : Int) ≤ (n : Int) + 1 := by omega
 have hb3' : (i : Int) ≤ (n : Int) := by omega
 have hb4 : (i : Int) + 1 ≤ (n : Int) + 1 := by omega
 have hb5 : ¬ G = i := by omega
 have hb6 : ¬ G = i + 1 := by omega
 have hb7 : ¬ n = i := by omega
 have hin : i ≤ n := by omega
 clear ho2 ho1 ho0 hg1 hg2 h1 hx1 hbv hc hcs htk hl hdl htl hys hy h hcl hold hkk hik hW1 hnew hbl hRl hzl hzl2 hs1 hbs hg2w
 go_enter Tryz.func89, Tryz.ntmps89
 go_wp2_with (first
  | (at_builtin; refine Lib.wpList_append_run _ rfl _ _ _ _ rfl _ _ rfl rfl _ _ (hrz _) ?_)
  | (at_builtin; refine wpList_copy_run _ rfl _ _ _ _ rfl _ _ rfl rfl (hr1 _) ?_))
 go_region_law (refine step_copy_run rfl _ _ _ _ rfl (.slice (some ⟨w.heap.size, (i + 1) * 2, none⟩) (n - i) (G - (i + 1))) (.slice (some ⟨g, i * 2, none⟩) (n - i) (n - i)) (by simp [Act.eval, Act.put]) (by simp [Act.eval, Act.put]) (hr2 _) ?_)
 go_wp2_with fail
 go_ret
 exact ⟨w.heap.size, G, rfl, HO.out, HG.out, .inr (Nat.le_refl _)⟩
theorem gn_ins (B n i : Nat) (v : Value) (xs ys : List Value) (w : World) (h : OwnV w B 112 2 v n xs) (hB : B ≤ w.heap.size) (hi : i ≤ n) (hn : n ≤ 1000000) (hx1 : ∀ v ∈ xs, v.oneCell' = true) (bv : Nat) (cv : Array Value) (tv : TypeId) (hbv : w.heap[bv]? = some (.cells cv tv (0, 0))) (hbg : v.ownBlock ≠ some bv) (hys : cv.toList = ys) (hy : ys.length = 2) (h1 : ∀ v ∈ ys, v.oneCell' = true) :
  Calls Tryz.prog 89 #[v, .int .i64 i, .slice (some ⟨bv, 0, none⟩) 1 1] w (OwnPost w B 112 2 v (n + 1) (xs.take (i * 2) ++ ys ++ xs.drop (i * 2))) := by
 have hl := h.len
 rcases Nat.eq_or_lt_of_le hi with rfl | hi
 ·rw [List.take_of_length_le (by omega), List.drop_eq_nil_of_le (by omega), List.append_nil]
  rcases h with ⟨rfl, rfl, rfl⟩ | ⟨g, cap, rfl, hc⟩
  ·exact gn_ins_grown B 0 0 none [] ys w (fun _ => ⟨rfl, rfl⟩) hl (fun b h => by cases h) (by omega) (by omega) (by omega) hB hn bv cv tv hbv hys hy h1
  ·by_cases hr : i + 1 ≤ cap
   ·exact gn_ins_last B g i cap xs ys w hc hr hn bv cv tv hbv hys hy h1
   ·have hc2 := hc
    obtain ⟨_, _, _, hnc, hcm, _⟩ := hc2
    exact gn_ins_grown B i cap (some ⟨g, 0, none⟩) xs ys w (fun h => by cases h) hl (fun b h j u hj => by
     cases h
     rw [show (⟨g, 0, none⟩ : Addr).add j = ⟨g, j, none⟩ from by unfold Addr.add; split <;> simp_all]
     exact (hc.cellAt j (by have := (List.getElem?_eq_some_iff.1 hj).1; omega)).trans hj) hcm (by omega) hnc hB hn bv cv tv hbv hys hy h1
 ·rcases h with ⟨_, h0, _⟩ | ⟨g, cap, rfl, hc⟩
  ·omega
  ·by_cases hr : n + 1 ≤ cap
   ·exact gn_ins_room B g n cap i xs ys w hc hi hr hn hx1 bv cv tv hbv (fun e => hbg (by rw [e]; rfl)) hys hy h1
   ·have hc2 := hc
    obtain ⟨_, _, _, hnc, _⟩ := hc2
    obtain rfl : cap = n := by omega
    exact gn_ins_grow B g cap i xs ys w hc hi hn hx1 bv cv tv hbv hys hy h1

theorem sr_ins_grown (B n ca : Nat) (a : Option Addr) (xs ys : List Value) (w : World) (hnone : a = none → n = 0 ∧ ca = 0) (hlo : xs.length = n * 1) (holds : ∀ b, a = some b → ∀ j u, xs[j]? = some u → w.cell? (b.add j) = some u) (hcm : ca ≤ 9223372036854775807) (hfull : ca < n + 1) (hnc : n ≤ ca) (hB : B ≤ w.heap.size) (hn : n ≤ 1000000) (bv : Nat) (cv : Array Value) (tv : TypeId) (hbv : w.heap[bv]? = some (.cells cv tv (0, 0))) (hys : cv.toList = ys) (hy : ys.length = 1) (h1 : ∀ v ∈ ys, v.oneCell' = true) :
  Calls Tryz.prog 151 #[.slice a n ca, .int .i64 n, .slice (some ⟨bv, 0, none⟩) 1 1] w (OwnPost w B 9 1 (.slice a n ca) (n + 1) (xs ++ ys)) := by
 obtain ⟨i0, hi0, hz0, hz1, hz2⟩ := info_parts infoStS
 have HI0 := Lib.hid hi0; have HI1 := Lib.hid hz0; have HI2 := Lib.hid hz1; have HI3 := Lib.hid hz2
 have hsrc : ∀ j u, ys[j]? = some u → w.cell? ((⟨bv, 0, none⟩ : Addr).add j) = some u := by
  intro j u hj
  rw [show (⟨bv, 0, none⟩ : Addr).add j = ⟨bv, j, none⟩ from by unfold Addr.add; split <;> simp_all, World.cell?]
  simp only [hbv]
  rw [← hys] at hj
  simpa using hj
 have HS := Lib.hid hsrc; have HO := Lib.hid holds; have HL := Lib.hid hy; have H1 := Lib.hid h1; have HBB := Lib.hid hB; have HNN := Lib.hid hnone; have HLO := Lib.hid hlo
 obtain rfl : ca = n := by omega
 clear hi0 hz0 hz1 hz2 hsrc holds hy h1 hB hbv hys hnone hlo
 try simp only [Nat.mul_one] at hr1
 try simp only [Nat.mul_one] at hr2
 try simp only [Nat.mul_one] at hov
 go_enter Tryz.func151, Tryz.ntmps151
 go_wp2_with (at_builtin; refine wpList_append_grows _ rfl _ _ 25 rfl 9 i0 (.string ByteArray.empty) 1 16 Tryz.underlying25 HI0.out HI1.out HI2.out HI3.out rfl (by decide) a ca ca xs rfl HNN.out HLO.out HO.out ⟨bv, 0, none⟩ 1 1 ys rfl HL.out HS.out H1.out hfull (by unfold maxLen; omega) (by omega) ?_; intro v8 w8 hown8 hgrow8; obtain ⟨g8, cap8, rfl, hoc8⟩ : ∃ g8 cap8, v8 = .slice (some ⟨g8, 0, none⟩) (ca + 1) cap8 ∧ OwnC w8 w.heap.size 9 1 g8 (ca + 1) cap8 (xs ++ ys) := by { rcases OwnV.of_own hown8 with ⟨_, h0, _⟩ | h; exact absurd h0 (by omega); exact h })
 go_ret
 exact ⟨g8, cap8, rfl, hoc8.down HBB.out, ⟨hgrow8.os, hgrow8.tape, hgrow8.output, hgrow8.size, fun j hj _ => hgrow8.block j hj (by simp)⟩, .inr hoc8.lt.1⟩
theorem sr_ins_last (B g n cap : Nat) (xs ys : List Value) (w : World) (h : OwnC w B 9 1 g n cap xs) (hroom : n + 1 ≤ cap) (hn : n ≤ 1000000) (bv : Nat) (cv : Array Value) (tv : TypeId) (hbv : w.heap[bv]? = some (.cells cv tv (0, 0))) (hys : cv.toList = ys) (hy : ys.length = 1) (h1 : ∀ v ∈ ys, v.oneCell' = true) :
  Calls Tryz.prog 151 #[.slice (some ⟨g, 0, none⟩) n cap, .int .i64 n, .slice (some ⟨bv, 0, none⟩) 1 1] w (OwnPost w B 9 1 (.slice (some ⟨g, 0, none⟩) n cap) (n + 1) (xs ++ ys)) := by
 obtain ⟨i0, hi0, hz0, hz1, hz2⟩ := info_parts infoStS
 have hsrc : ∀ j u, ys[j]? = some u → w.cell? ((⟨bv, 0, none⟩ : Addr).add j) = some u := by
  intro j u hj
  rw [show (⟨bv, 0, none⟩ : Addr).add j = ⟨bv, j, none⟩ from by unfold Addr.add; split <;> simp_all, World.cell?]
  simp only [hbv]
  rw [← hys] at hj
  simpa using hj
 obtain ⟨w1, hr1, ho1, hg1⟩ := own_append (P := Tryz.prog) h 25 i0 Tryz.underlying25 hi0 hz1 ⟨bv, 0, none⟩ 1 ys (by rw [hy]) hsrc h1 hroom
 obtain ⟨_, _, _, hnc, hcm, _⟩ := h
 have hcm2 : cap ≤ 9223372036854775807 := hcm
 have hcn : ¬ cap = n := by omega
 have HO := Lib.hid ho1; have HG := Lib.hid hg1
 clear hi0 hz0 hz1 hz2 hsrc hy h1 hbv hys ho1 hg1
 try simp only [Nat.mul_one] at hr1
 try simp only [Nat.mul_one] at hr2
 try simp only [Nat.mul_one] at hov
 go_enter Tryz.func151, Tryz.ntmps151
 go_wp2_with (at_builtin; refine Lib.wpList_append_run _ rfl _ _ _ _ rfl _ _ rfl rfl _ _ (hr1 _ _) ?_)
 go_ret
 exact ⟨g, cap, rfl, HO.out, HG.out, .inl rfl⟩
theorem sr_ins_room (B g n cap i : Nat) (xs ys : List Value) (w : World) (h : OwnC w B 9 1 g n cap xs) (hi : i < n) (hroom : n + 1 ≤ cap) (hn : n ≤ 1000000) (hx1 : ∀ v ∈ xs, v.oneCell' = true) (bv : Nat) (cv : Array Value) (tv : TypeId) (hbv : w.heap[bv]? = some (.cells cv tv (0, 0))) (hbg : bv ≠ g) (hys : cv.toList = ys) (hy : ys.length = 1) (h1 : ∀ v ∈ ys, v.oneCell' = true) :
  Calls Tryz.prog 151 #[.slice (some ⟨g, 0, none⟩) n cap, .int .i64 i, .slice (some ⟨bv, 0, none⟩) 1 1] w (OwnPost w B 9 1 (.slice (some ⟨g, 0, none⟩) n cap) (n + 1) (xs.take (i * 1) ++ ys ++ xs.drop (i * 1))) := by
 have HH0 := h
 obtain ⟨cur, hB, hc, hnc, hcm, hcs, htk, hl⟩ := HH0
 obtain ⟨i0, hi0, hz0, hz1, hz2⟩ := info_parts infoStS
 have hcm2 : cap ≤ 9223372036854775807 := hcm
 have hsz : (Tryz.prog.info? 9).map (·.size) = some 1 := by rw [hi0]; simp [hz1]
 obtain ⟨tail, htl, ho0⟩ := own_more h hroom
 have hdl : (xs.drop (i * 1)).length = (n - i) * 1 := by rw [List.length_drop, hl]; omega
 obtain ⟨w1, hr1, ho1, hg1⟩ := own_copy (P := Tryz.prog) (w := w.drew) ho0 25 25 Tryz.underlying25 hsz ((i + 1) * 1) (n - i) (cap - (i + 1)) ⟨g, i * 1, none⟩ (n + 1 - i) (cap - i) (xs.drop (i * 1)) (by rw [hdl]; congr 1; exact (Nat.min_eq_right (by omega)).symm)
  (fun j u hj => by
   rw [List.getElem?_drop] at hj
   have hjl := (List.getElem?_eq_some_iff.1 hj).1
   rw [show (⟨g, i * 1, none⟩ : Addr).add j = ⟨g, i * 1 + j, none⟩ from by unfold Addr.add; split <;> simp_all]
   exact (h.cellAt (i * 1 + j) (by omega)).trans hj)
  (by rw [hdl]; omega) (fun v hv => hx1 v (List.mem_of_mem_drop hv))
 have hbv1 : w1.heap[bv]? = some (.cells cv tv (0, 0)) := by
  rw [hg1.block bv (Array.getElem?_eq_some_iff.1 hbv).1 (by simpa using hbg)]; exact hbv
 obtain ⟨w2, hr2, ho2, hg2⟩ := own_copy (P := Tryz.prog) (w := w1) ho1 25 25 Tryz.underlying25 hsz (i * 1) (n + 1 - i) (cap - i) ⟨bv, 0, none⟩ 1 1 ys (by rw [hy, show Nat.min 1 (n + 1 - i) = 1 from Nat.min_eq_left (by omega)])
  (fun j u hj => by
   rw [show (⟨bv, 0, none⟩ : Addr).add j = ⟨bv, j, none⟩ from by unfold Addr.add; split <;> simp_all, World.cell?]
   simp only [hbv1]
   rw [← hys] at hj
   simpa using hj)
  (by rw [hy]; omega) h1
 rw [show (i + 1) * 1 = i * 1 + 1 by omega, ins_shift hl htl hy (by omega)] at ho2
 have hov : ∀ lb cb, (callFunc 196 #[.slice (some ⟨bv, 0, none⟩) 1 1, .slice (some ⟨g, (i + 1) * 1, none⟩) lb cb]).run Tryz.prog w = .ok (.value (.bool false)) w := fun lb cb => by
  rw [run_callFunc_extern Tryz.func196 (by kernel_rfl) (by kernel_rfl) (by kernel_rfl) (e := Extern.SlicesOverlaps.overlaps #[25, 25] #[4]) (by kernel_rfl),
   Lib.run_overlaps_apart w 25 4 9 Tryz.underlying25 1 (fun w => by kernel_rfl) ⟨bv, 0, none⟩ ⟨g, (i + 1) * 1, none⟩ 1 1 lb cb hbg tv 9 cv.size cur.size (shape_of hbv) (shape_of hc) (by omega) (frozen_of hbv 0) (frozen_of hbv cv.size)]
  rfl
 have HO := Lib.hid ho2
 have HG := Lib.hid (grown_up hg1 hg2)
 have hz2' : ¬ ((i : Int) = (n : Int)) := by omega
 have hz2b : ((i : Int) == (n : Int)) = false := by simpa using hz2'
 have hw1 : IntKind.i64.wrap ((n : Int) + 1) = (n : Int) + 1 := by rw [IntKind.wrap_i64]; omega
 have hw2 : IntKind.i64.wrap ((i : Int) + 1) = (i : Int) + 1 := by rw [IntKind.wrap_i64]; omega
 have hb0 : ¬ ((cap : Int) < (n : Int) + 1) := by omega
 have hb0' : ((n : Int) + 1 ≤ (cap : Int)) := by omega
 have hb1 : (0 : Int) ≤ (i : Int) + 1 := by omega
 have hb2 : (0 : Int) ≤ (n : Int) + 1 := by omega
 have hb3 : (i : Int) ≤ (n : Int) + 1 := by omega
 have hb4 : (i : Int) + 1 ≤ (n : Int) + 1 := by omega
 have hb5 : ¬ cap = i := by omega
 have hb6 : ¬ cap = i + 1 := by omega
 have hin : i ≤ n := by omega
 clear ho2 ho1 ho0 hg1 hg2 h1 hx1 hbv hbv1 hc hcs htk hl hdl htl hys hy h
 try simp only [Nat.mul_one] at hr1
 try simp only [Nat.mul_one] at hr2
 try simp only [Nat.mul_one] at hov
 go_enter Tryz.func151, Tryz.ntmps151
 go_wp2_with (simp only [hov])
 go_region_law (refine step_copy_run rfl _ _ _ _ rfl (.slice (some ⟨g, i + 1, none⟩) (n - i) (cap - (i + 1))) (.slice (some ⟨g, i, none⟩) (n + 1 - i) (cap - i)) (by simp [Act.eval, Act.put]) (by simp [Act.eval, Act.put]) (hr1 _) ?_)
 go_wp2_with (at_builtin; refine wpList_copy_run _ rfl _ _ _ _ rfl _ _ rfl rfl (hr2 _) ?_)
 go_ret
 exact ⟨g, cap, rfl, HO.out, HG.out, .inl rfl⟩

theorem sr_ins_grow (B g n i : Nat) (xs ys : List Value) (w : World) (h : OwnC w B 9 1 g n n xs) (hi : i < n) (hn : n ≤ 1000000) (hx1 : ∀ v ∈ xs, v.oneCell' = true) (bv : Nat) (cv : Array Value) (tv : TypeId) (hbv : w.heap[bv]? = some (.cells cv tv (0, 0))) (hys : cv.toList = ys) (hy : ys.length = 1) (h1 : ∀ v ∈ ys, v.oneCell' = true) :
  Calls Tryz.prog 151 #[.slice (some ⟨g, 0, none⟩) n n, .int .i64 i, .slice (some ⟨bv, 0, none⟩) 1 1] w (OwnPost w B 9 1 (.slice (some ⟨g, 0, none⟩) n n) (n + 1) (xs.take (i * 1) ++ ys ++ xs.drop (i * 1))) := by
 have HH0 := h
 obtain ⟨cur, hB, hc, hnc, hcm, hcs, htk, hl⟩ := HH0
 obtain ⟨i0, hi0, hz0, hz1, hz2⟩ := info_parts infoStS
 have hgw := (Array.getElem?_eq_some_iff.1 hc).1
 have hbw := (Array.getElem?_eq_some_iff.1 hbv).1
 have hsz : (Tryz.prog.info? 9).map (·.size) = some 1 := by rw [hi0]; simp [hz1]
 have hcl : ∀ j u, xs[j]? = some u → w.cell? ⟨g, j, none⟩ = some u := fun j u hj => (h.cellAt j (by have := (List.getElem?_eq_some_iff.1 hj).1; omega)).trans hj
 have hik : i + (n + 1 - i) = n + 1 := by omega
 have hkk : (n : Int) + 1 - (i : Int) = ((n + 1 - i : Nat) : Int) := by omega
 have htl : (xs.take (i * 1)).length = i * 1 := by rw [List.length_take, hl]; omega
 have hold : (Builtin.firstCells i0.size i (.slice (some ⟨g, 0, none⟩) i n)).run Tryz.prog w.drew = .ok (xs.take (i * 1)).toArray w.drew := by
  rw [hz1]
  exact run_firstCells_some w.drew 1 i ⟨g, 0, none⟩ i n (xs.take (i * 1)) htl (fun j u hj => by
   rw [show (⟨g, 0, none⟩ : Addr).add j = ⟨g, j, none⟩ from by unfold Addr.add; split <;> simp_all]
   rw [List.getElem?_take] at hj
   split at hj
   ·exact hcl j u hj
   ·cases hj)
 have hrz := fun ty => Lib.run_append_grow_zeros w 25 3 ty 9 i0 (.string ByteArray.empty) .i64 .i64 Tryz.underlying25 Tryz.underlying3 hi0 hz0 (some ⟨g, 0, none⟩) i n (xs.take (i * 1)) hold (n + 1 - i) (by omega) (by omega) (by omega) (by omega) (by rw [hz2]; omega) (by rw [hz2, hik]; exact growslice_fits (by omega) (by omega))
 rw [hik, ← hkk] at hrz
 have hGn : n + 1 ≤ grownCap w (n + 1) n 9 := grownCap_ge w _ _ _
 have hGm : grownCap w (n + 1) n 9 ≤ maxLen := grownCap_le_maxLen w _ _ _ (by unfold maxLen; omega)
 generalize grownCap w (n + 1) n 9 = G at hrz hGn hGm
 have hzl : (Builtin.zeroCells (Value.cells (.string ByteArray.empty)) (n + 1 - i)).toList.length = (n + 1 - i) * 1 := by
  rw [Array.length_toList]; simp [Builtin.zeroCells] <;> (first | rfl | exact Or.inl rfl | exact Nat.mul_one _)
 have hzl2 : (Builtin.zeroCells (Value.cells (.string ByteArray.empty)) (G - (n + 1))).toList.length = (G - (n + 1)) * 1 := by
  rw [Array.length_toList]; simp [Builtin.zeroCells] <;> (first | rfl | exact Or.inl rfl | exact Nat.mul_one _)
 obtain ⟨ROW, hROW⟩ : ∃ ROW : Array Value, (xs.take (i * 1)).toArray ++ Builtin.zeroCells (Value.cells (.string ByteArray.empty)) (n + 1 - i) ++ Builtin.zeroCells (Value.cells (.string ByteArray.empty)) (G - (n + 1)) = ROW := ⟨_, rfl⟩
 rw [hROW] at hrz
 have hRl : ROW.toList = xs.take (i * 1) ++ (Builtin.zeroCells (Value.cells (.string ByteArray.empty)) (n + 1 - i)).toList ++ (Builtin.zeroCells (Value.cells (.string ByteArray.empty)) (G - (n + 1))).toList := by rw [← hROW]; simp
 generalize (Builtin.zeroCells (Value.cells (.string ByteArray.empty)) (n + 1 - i)).toList = zs at hzl hRl
 generalize (Builtin.zeroCells (Value.cells (.string ByteArray.empty)) (G - (n + 1))).toList = zs2 at hzl2 hRl
 clear hROW
 obtain ⟨W1, hW1⟩ : ∃ W1, w.drew.alloc (.cells ROW 9) = W1 := ⟨_, rfl⟩
 rw [hW1] at hrz
 have hnew : W1.heap[w.heap.size]? = some (.cells ROW 9 (0, 0)) := by rw [← hW1]; exact heap_alloc_new w.drew _
 have hbl : ∀ b, b < w.heap.size → W1.heap[b]? = w.heap[b]? := fun b hb => by rw [← hW1]; exact Below.heap_alloc w.drew _ b hb
 have hs1 : W1.heap.size = w.heap.size + 1 := by rw [← hW1]; simp
 have hbs : W1.os = w.os ∧ W1.tape = w.tape ∧ W1.output = w.output := by rw [← hW1]; exact ⟨rfl, rfl, rfl⟩
 have ho0 : OwnC W1 B 9 1 w.heap.size (n + 1) G (xs.take (i * 1) ++ zs) := own_make (by omega) hnew hGn hGm (by rw [← Array.length_toList, hRl, List.length_append, List.length_append, htl, hzl, hzl2]; omega)
  (by rw [hRl]; exact List.take_left' (by rw [List.length_append, htl, hzl]; omega))
 obtain ⟨w2, hr1, ho1, hg1⟩ := own_copy (P := Tryz.prog) (w := W1) ho0 25 25 Tryz.underlying25 hsz (i * 1) (n + 1 - i) (G - i) ⟨bv, 0, none⟩ 1 1 ys (by rw [hy, show Nat.min 1 (n + 1 - i) = 1 from Nat.min_eq_left (by omega)])
  (fun j u hj => by
   rw [show (⟨bv, 0, none⟩ : Addr).add j = ⟨bv, j, none⟩ from by unfold Addr.add; split <;> simp_all, World.cell?]
   simp only [hbl bv hbw, hbv]
   rw [← hys] at hj
   simpa using hj)
  (by rw [hy]; omega) h1
 have hdl : (xs.drop (i * 1)).length = (n - i) * 1 := by rw [List.length_drop, hl]; omega
 have hg2w : w2.heap[g]? = w.heap[g]? := (hg1.block g (by omega) (by simp; omega)).trans (hbl g hgw)
 obtain ⟨w3, hr2, ho2, hg2⟩ := own_copy (P := Tryz.prog) (w := w2.drew) ho1 25 25 Tryz.underlying25 hsz ((i + 1) * 1) (n - i) (G - (i + 1)) ⟨g, i * 1, none⟩ (n - i) (n - i) (xs.drop (i * 1)) (by rw [hdl]; congr 1; exact (Nat.min_eq_left (Nat.le_refl _)).symm)
  (fun j u hj => by
   rw [List.getElem?_drop] at hj
   rw [show (⟨g, i * 1, none⟩ : Addr).add j = ⟨g, i * 1 + j, none⟩ from by unfold Addr.add; split <;> simp_all]
   have := hcl _ _ hj
   unfold World.cell? at this ⊢
   rw [show w2.drew.heap[g]? = w.heap[g]? from hg2w]
   exact this)
  (by rw [hdl]; omega) (fun v hv => hx1 v (List.mem_of_mem_drop hv))
 rw [show (i + 1) * 1 = i * 1 + 1 by omega, ins_grow (N := n * 1) hl (by rw [hzl]; omega) hy (by omega)] at ho2
 have HO := Lib.hid ho2
 have HG : Hid (w.grownBy w3 (some g)) := Lib.hid ⟨hg2.os.trans (hg1.os.trans hbs.1), hg2.tape.trans (hg1.tape.trans hbs.2.1), hg2.output.trans (hg1.output.trans hbs.2.2), by have := hg2.size; have h3 : w2.drew.heap.size = w2.heap.size := rfl; have := hg1.size; omega, fun b hb _ => (hg2.block b (by have h3 : w2.drew.heap.size = w2.heap.size := rfl; have := hg1.size; omega) (by simp; omega)).trans ((hg1.block b (by omega) (by simp; omega)).trans (hbl b hb))⟩
 have hGm2 : G ≤ 9223372036854775807 := hGm
 have hz2' : ¬ ((i : Int) = (n : Int)) := by omega
 have hz2b : ((i : Int) == (n : Int)) = false := by simpa using hz2'
 have hw1 : IntKind.i64.wrap ((n : Int) + 1) = (n : Int) + 1 := by rw [IntKind.wrap_i64]; omega
 have hw2 : IntKind.i64.wrap ((i : Int) + 1) = (i : Int) + 1 := by rw [IntKind.wrap_i64]; omega
 have hw3 : IntKind.i64.wrap ((n : Int) + 1 - (i : Int)) = (n : Int) + 1 - (i : Int) := by rw [IntKind.wrap_i64]; omega
 have hb1 : (0 : Int) ≤ (i : Int) + 1 := by omega
 have hb3 : (i : Int) ≤ (n : Int) + 1 := by omega
 have hb3' : (i : Int) ≤ (n : Int) := by omega
 have hb4 : (i : Int) + 1 ≤ (n : Int) + 1 := by omega
 have hb5 : ¬ G = i := by omega
 have hb6 : ¬ G = i + 1 := by omega
 have hb7 : ¬ n = i := by omega
 have hin : i ≤ n := by omega
 clear ho2 ho1 ho0 hg1 hg2 h1 hx1 hbv hc hcs htk hl hdl htl hys hy h hcl hold hkk hik hW1 hnew hbl hRl hzl hzl2 hs1 hbs hg2w
 try simp only [Nat.mul_one] at hr1
 try simp only [Nat.mul_one] at hr2
 try simp only [Nat.mul_one] at hrz
 go_enter Tryz.func151, Tryz.ntmps151
 go_wp2_with (first
  | (at_builtin; refine Lib.wpList_append_run _ rfl _ _ _ _ rfl _ _ rfl rfl _ _ (hrz _) ?_)
  | (at_builtin; refine wpList_copy_run _ rfl _ _ _ _ rfl _ _ rfl rfl (hr1 _) ?_))
 go_region_law (refine step_copy_run rfl _ _ _ _ rfl (.slice (some ⟨w.heap.size, i + 1, none⟩) (n - i) (G - (i + 1))) (.slice (some ⟨g, i, none⟩) (n - i) (n - i)) (by simp [Act.eval, Act.put]) (by simp [Act.eval, Act.put]) (hr2 _) ?_)
 go_wp2_with fail
 go_ret
 exact ⟨w.heap.size, G, rfl, HO.out, HG.out, .inr (Nat.le_refl _)⟩
theorem sr_ins (B n i : Nat) (v : Value) (xs ys : List Value) (w : World) (h : OwnV w B 9 1 v n xs) (hB : B ≤ w.heap.size) (hi : i ≤ n) (hn : n ≤ 1000000) (hx1 : ∀ v ∈ xs, v.oneCell' = true) (bv : Nat) (cv : Array Value) (tv : TypeId) (hbv : w.heap[bv]? = some (.cells cv tv (0, 0))) (hbg : v.ownBlock ≠ some bv) (hys : cv.toList = ys) (hy : ys.length = 1) (h1 : ∀ v ∈ ys, v.oneCell' = true) :
  Calls Tryz.prog 151 #[v, .int .i64 i, .slice (some ⟨bv, 0, none⟩) 1 1] w (OwnPost w B 9 1 v (n + 1) (xs.take (i * 1) ++ ys ++ xs.drop (i * 1))) := by
 have hl := h.len
 rcases Nat.eq_or_lt_of_le hi with rfl | hi
 ·rw [List.take_of_length_le (by omega), List.drop_eq_nil_of_le (by omega), List.append_nil]
  rcases h with ⟨rfl, rfl, rfl⟩ | ⟨g, cap, rfl, hc⟩
  ·exact sr_ins_grown B 0 0 none [] ys w (fun _ => ⟨rfl, rfl⟩) hl (fun b h => by cases h) (by omega) (by omega) (by omega) hB hn bv cv tv hbv hys hy h1
  ·by_cases hr : i + 1 ≤ cap
   ·exact sr_ins_last B g i cap xs ys w hc hr hn bv cv tv hbv hys hy h1
   ·have hc2 := hc
    obtain ⟨_, _, _, hnc, hcm, _⟩ := hc2
    exact sr_ins_grown B i cap (some ⟨g, 0, none⟩) xs ys w (fun h => by cases h) hl (fun b h j u hj => by
     cases h
     rw [show (⟨g, 0, none⟩ : Addr).add j = ⟨g, j, none⟩ from by unfold Addr.add; split <;> simp_all]
     exact (hc.cellAt j (by have := (List.getElem?_eq_some_iff.1 hj).1; omega)).trans hj) hcm (by omega) hnc hB hn bv cv tv hbv hys hy h1
 ·rcases h with ⟨_, h0, _⟩ | ⟨g, cap, rfl, hc⟩
  ·omega
  ·by_cases hr : n + 1 ≤ cap
   ·exact sr_ins_room B g n cap i xs ys w hc hi hr hn hx1 bv cv tv hbv (fun e => hbg (by rw [e]; rfl)) hys hy h1
   ·have hc2 := hc
    obtain ⟨_, _, _, hnc, _⟩ := hc2
    obtain rfl : cap = n := by omega
    exact sr_ins_grow B g cap i xs ys w hc hi hn hx1 bv cv tv hbv hys hy h1

theorem gn_del (B g m cap i : Nat) (xs : List Value) (w : World) (h : OwnC w B 112 2 g (m + 1) cap xs) (hi : i ≤ m) (hn : m ≤ 1000000) (h1 : ∀ v ∈ xs, v.oneCell' = true) :
  Calls Tryz.prog 154 #[.slice (some ⟨g, 0, none⟩) (m + 1) cap, .int .i64 i, .int .i64 ((i : Int) + 1)] w fun e w' => e = .returned (.slice (some ⟨g, 0, none⟩) m cap) ∧ OwnC w' B 112 2 g m cap (xs.take (i * 2) ++ xs.drop ((i + 1) * 2)) ∧ w.grownBy w' (some g) := by
 have HH0 := h
 obtain ⟨cur, hB, hc, hnc, hcm, hcs, htk, hl⟩ := HH0
 obtain ⟨i0, hi0, hz0, hz1, hz2⟩ := info_parts infoGon
 have hcm2 : cap ≤ 9223372036854775807 := hcm
 have hlt := h.lt.2
 have hne0 : ¬ ((i : Int) = (i : Int) + 1) := by omega
 have hne1 : ((i : Int) == (i : Int) + 1) = false := by simpa using hne0
 have hic : i ≤ cap := by omega
 have hb1 : (0 : Int) ≤ (i : Int) + 1 := by omega
 have hb2 : (i : Int) ≤ (i : Int) + 1 := by omega
 have hb3 : (i : Int) + 1 ≤ (m : Int) + 1 := by omega
 by_cases hce : cap = i + 1
 ·obtain rfl : m = i := by omega
  subst hce
  have hsrc : ∀ j u, (xs.drop ((m + 1) * 2))[j]? = some u → w.drew.cell? ((⟨g, 0, none⟩ : Addr).add j) = some u := by
   intro j u hj
   rw [List.getElem?_drop] at hj
   have hjl := (List.getElem?_eq_some_iff.1 hj).1
   first
    | (exfalso; omega)
    | (rw [show (⟨g, (m + 1) * 2, none⟩ : Addr).add j = ⟨g, (m + 1) * 2 + j, none⟩ from by unfold Addr.add; split <;> simp_all]; exact (h.cellAt ((m + 1) * 2 + j) (by omega)).trans hj)
  obtain ⟨w1, hr1, ho1, hg1⟩ := own_append (P := Tryz.prog) (w := w.drew) (own_less h (m := m) (by omega)) 26 i0 Tryz.underlying26 hi0 hz1 ⟨g, 0, none⟩ 0 (xs.drop ((m + 1) * 2)) (by rw [List.length_drop, hl]; omega) hsrc (fun v hv => h1 v (List.mem_of_mem_drop hv)) (by omega)
  have hn1 : m + 0 = m := by omega
  rw [hn1] at ho1 hr1
  obtain ⟨tl, htl, ho2⟩ := own_more ho1 (by omega)
  obtain ⟨w2, hr2, ⟨zs, ho3⟩, hg2⟩ := own_clear (P := Tryz.prog) ho2 26 Tryz.underlying26 (.agg #[.string ByteArray.empty, .int .i64 0]) (fun w => by kernel_rfl) rfl (by decide) (m * 2) 1 (by omega) (by omega)
  have hl4 : (xs.take (m * 2) ++ xs.drop ((m + 1) * 2)).length = m * 2 := by obtain ⟨_, _, _, _, _, _, _, hq⟩ := ho1; exact hq
  rw [List.take_left' hl4] at ho3
  have ho4 := own_less ho3 (m := m) (by omega)
  rw [List.take_left' hl4] at ho4
  have HO := Lib.hid ho4
  have HG : Hid (w.grownBy w2 (some g)) := Lib.hid ⟨(hg1.trans hg2).os, (hg1.trans hg2).tape, (hg1.trans hg2).output, (hg1.trans hg2).size, (hg1.trans hg2).block⟩
  clear ho4 ho3 ho2 ho1 hg1 hg2 hsrc h1 hl4 hl htk hcs
  go_enter Tryz.func154, Tryz.ntmps154
  go_wp2_with fail
  go_region_law (refine step_append_run rfl _ _ _ _ rfl (.slice (some ⟨g, 0, none⟩) m _) (.slice (some ⟨g, 0, none⟩) 0 0) (by simp [Act.eval, Act.put]) (by simp [Act.eval, Act.put]) (hr1 _ _) ?_)
  go_wp2_with (at_builtin; refine wpList_clear_run _ rfl _ _ rfl _ rfl (hr2 _ _) ?_)
  go_ret
  exact ⟨rfl, HO.out, HG.out⟩
 ·-- [[]tintype/store.Gone,tintype/store.Gone]: type arguments; []store.Gone: the slice's type; store.Gone: the element's; .agg #[.string ByteArray.empty, .int .i64 0]: zero; 2: cells; ⟨g, (i + 1) * 2, none⟩: the source's place; (m - i): its elements; (cap - (i + 1)): its room; i: the place that goes
  have hsrc : ∀ j u, (xs.drop ((i + 1) * 2))[j]? = some u → w.drew.cell? ((⟨g, (i + 1) * 2, none⟩ : Addr).add j) = some u := by
   intro j u hj
   rw [List.getElem?_drop] at hj
   have hjl := (List.getElem?_eq_some_iff.1 hj).1
   first
    | (exfalso; omega)
    | (rw [show (⟨g, (i + 1) * 2, none⟩ : Addr).add j = ⟨g, (i + 1) * 2 + j, none⟩ from by unfold Addr.add; split <;> simp_all]; exact (h.cellAt ((i + 1) * 2 + j) (by omega)).trans hj)
  obtain ⟨w1, hr1, ho1, hg1⟩ := own_append (P := Tryz.prog) (w := w.drew) (own_less h (m := i) (by omega)) 26 i0 Tryz.underlying26 hi0 hz1 ⟨g, (i + 1) * 2, none⟩ (m - i) (xs.drop ((i + 1) * 2)) (by rw [List.length_drop, hl]; omega) hsrc (fun v hv => h1 v (List.mem_of_mem_drop hv)) (by omega)
  have hn1 : i + (m - i) = m := by omega
  rw [hn1] at ho1 hr1
  obtain ⟨tl, htl, ho2⟩ := own_more ho1 (by omega)
  obtain ⟨w2, hr2, ⟨zs, ho3⟩, hg2⟩ := own_clear (P := Tryz.prog) ho2 26 Tryz.underlying26 (.agg #[.string ByteArray.empty, .int .i64 0]) (fun w => by kernel_rfl) rfl (by decide) (m * 2) 1 (by omega) (by omega)
  have hl4 : (xs.take (i * 2) ++ xs.drop ((i + 1) * 2)).length = m * 2 := by obtain ⟨_, _, _, _, _, _, _, hq⟩ := ho1; exact hq
  rw [List.take_left' hl4] at ho3
  have ho4 := own_less ho3 (m := m) (by omega)
  rw [List.take_left' hl4] at ho4
  have HO := Lib.hid ho4
  have HG : Hid (w.grownBy w2 (some g)) := Lib.hid ⟨(hg1.trans hg2).os, (hg1.trans hg2).tape, (hg1.trans hg2).output, (hg1.trans hg2).size, (hg1.trans hg2).block⟩
  clear ho4 ho3 ho2 ho1 hg1 hg2 hsrc h1 hl4 hl htk hcs
  go_enter Tryz.func154, Tryz.ntmps154
  go_wp2_with fail
  go_region_law (refine step_append_run rfl _ _ _ _ rfl (.slice (some ⟨g, 0, none⟩) i _) (.slice (some ⟨g, (i + 1) * 2, none⟩) (m - i) (cap - (i + 1))) (by simp [Act.eval, Act.put]) (by simp [Act.eval, Act.put]) (hr1 _ _) ?_)
  go_wp2_with (at_builtin; refine wpList_clear_run _ rfl _ _ rfl _ rfl (hr2 _ _) ?_)
  go_ret
  exact ⟨rfl, HO.out, HG.out⟩

theorem sr_del (B g m cap i : Nat) (xs : List Value) (w : World) (h : OwnC w B 9 1 g (m + 1) cap xs) (hi : i ≤ m) (hn : m ≤ 1000000) (h1 : ∀ v ∈ xs, v.oneCell' = true) :
  Calls Tryz.prog 155 #[.slice (some ⟨g, 0, none⟩) (m + 1) cap, .int .i64 i, .int .i64 ((i : Int) + 1)] w fun e w' => e = .returned (.slice (some ⟨g, 0, none⟩) m cap) ∧ OwnC w' B 9 1 g m cap (xs.take (i * 1) ++ xs.drop ((i + 1) * 1)) ∧ w.grownBy w' (some g) := by
 have HH0 := h
 obtain ⟨cur, hB, hc, hnc, hcm, hcs, htk, hl⟩ := HH0
 obtain ⟨i0, hi0, hz0, hz1, hz2⟩ := info_parts infoStS
 have hcm2 : cap ≤ 9223372036854775807 := hcm
 have hlt := h.lt.2
 have hne0 : ¬ ((i : Int) = (i : Int) + 1) := by omega
 have hne1 : ((i : Int) == (i : Int) + 1) = false := by simpa using hne0
 have hic : i ≤ cap := by omega
 have hb1 : (0 : Int) ≤ (i : Int) + 1 := by omega
 have hb2 : (i : Int) ≤ (i : Int) + 1 := by omega
 have hb3 : (i : Int) + 1 ≤ (m : Int) + 1 := by omega
 by_cases hce : cap = i + 1
 ·obtain rfl : m = i := by omega
  subst hce
  have hsrc : ∀ j u, (xs.drop ((m + 1) * 1))[j]? = some u → w.drew.cell? ((⟨g, 0, none⟩ : Addr).add j) = some u := by
   intro j u hj
   rw [List.getElem?_drop] at hj
   have hjl := (List.getElem?_eq_some_iff.1 hj).1
   first
    | (exfalso; omega)
    | (rw [show (⟨g, m + 1, none⟩ : Addr).add j = ⟨g, (m + 1) * 1 + j, none⟩ from by unfold Addr.add; split <;> simp_all]; exact (h.cellAt ((m + 1) * 1 + j) (by omega)).trans hj)
  obtain ⟨w1, hr1, ho1, hg1⟩ := own_append (P := Tryz.prog) (w := w.drew) (own_less h (m := m) (by omega)) 25 i0 Tryz.underlying25 hi0 hz1 ⟨g, 0, none⟩ 0 (xs.drop ((m + 1) * 1)) (by rw [List.length_drop, hl]; omega) hsrc (fun v hv => h1 v (List.mem_of_mem_drop hv)) (by omega)
  have hn1 : m + 0 = m := by omega
  rw [hn1] at ho1 hr1
  obtain ⟨tl, htl, ho2⟩ := own_more ho1 (by omega)
  obtain ⟨w2, hr2, ⟨zs, ho3⟩, hg2⟩ := own_clear (P := Tryz.prog) ho2 25 Tryz.underlying25 (.string ByteArray.empty) (fun w => by kernel_rfl) rfl (by decide) (m * 1) 1 (by omega) (by omega)
  have hl4 : (xs.take (m * 1) ++ xs.drop ((m + 1) * 1)).length = m * 1 := by obtain ⟨_, _, _, _, _, _, _, hq⟩ := ho1; exact hq
  rw [List.take_left' hl4] at ho3
  have ho4 := own_less ho3 (m := m) (by omega)
  rw [List.take_left' hl4] at ho4
  have HO := Lib.hid ho4
  have HG : Hid (w.grownBy w2 (some g)) := Lib.hid ⟨(hg1.trans hg2).os, (hg1.trans hg2).tape, (hg1.trans hg2).output, (hg1.trans hg2).size, (hg1.trans hg2).block⟩
  clear ho4 ho3 ho2 ho1 hg1 hg2 hsrc h1 hl4 hl htk hcs
  try simp only [Nat.mul_one] at hr1
  try simp only [Nat.mul_one] at hr2
  go_enter Tryz.func155, Tryz.ntmps155
  go_wp2_with fail
  go_region_law (refine step_append_run rfl _ _ _ _ rfl (.slice (some ⟨g, 0, none⟩) m _) (.slice (some ⟨g, 0, none⟩) 0 0) (by simp [Act.eval, Act.put]) (by simp [Act.eval, Act.put]) (hr1 _ _) ?_)
  go_wp2_with (at_builtin; refine wpList_clear_run _ rfl _ _ rfl _ rfl (hr2 _ _) ?_)
  go_ret
  exact ⟨rfl, HO.out, HG.out⟩
 ·-- [[]string,string]: type arguments; []string: the slice's type; string: the element's; .string ByteArray.empty: zero; 1: cells; ⟨g, i + 1, none⟩: the source's place; (m - i): its elements; (cap - (i + 1)): its room; i: the place that goes
  have hsrc : ∀ j u, (xs.drop ((i + 1) * 1))[j]? = some u → w.drew.cell? ((⟨g, i + 1, none⟩ : Addr).add j) = some u := by
   intro j u hj
   rw [List.getElem?_drop] at hj
   have hjl := (List.getElem?_eq_some_iff.1 hj).1
   first
    | (exfalso; omega)
    | (rw [show (⟨g, i + 1, none⟩ : Addr).add j = ⟨g, (i + 1) * 1 + j, none⟩ from by unfold Addr.add; split <;> simp_all]; exact (h.cellAt ((i + 1) * 1 + j) (by omega)).trans hj)
  obtain ⟨w1, hr1, ho1, hg1⟩ := own_append (P := Tryz.prog) (w := w.drew) (own_less h (m := i) (by omega)) 25 i0 Tryz.underlying25 hi0 hz1 ⟨g, i + 1, none⟩ (m - i) (xs.drop ((i + 1) * 1)) (by rw [List.length_drop, hl]; omega) hsrc (fun v hv => h1 v (List.mem_of_mem_drop hv)) (by omega)
  have hn1 : i + (m - i) = m := by omega
  rw [hn1] at ho1 hr1
  obtain ⟨tl, htl, ho2⟩ := own_more ho1 (by omega)
  obtain ⟨w2, hr2, ⟨zs, ho3⟩, hg2⟩ := own_clear (P := Tryz.prog) ho2 25 Tryz.underlying25 (.string ByteArray.empty) (fun w => by kernel_rfl) rfl (by decide) (m * 1) 1 (by omega) (by omega)
  have hl4 : (xs.take (i * 1) ++ xs.drop ((i + 1) * 1)).length = m * 1 := by obtain ⟨_, _, _, _, _, _, _, hq⟩ := ho1; exact hq
  rw [List.take_left' hl4] at ho3
  have ho4 := own_less ho3 (m := m) (by omega)
  rw [List.take_left' hl4] at ho4
  have HO := Lib.hid ho4
  have HG : Hid (w.grownBy w2 (some g)) := Lib.hid ⟨(hg1.trans hg2).os, (hg1.trans hg2).tape, (hg1.trans hg2).output, (hg1.trans hg2).size, (hg1.trans hg2).block⟩
  clear ho4 ho3 ho2 ho1 hg1 hg2 hsrc h1 hl4 hl htk hcs
  try simp only [Nat.mul_one] at hr1
  try simp only [Nat.mul_one] at hr2
  go_enter Tryz.func155, Tryz.ntmps155
  go_wp2_with fail
  go_region_law (refine step_append_run rfl _ _ _ _ rfl (.slice (some ⟨g, 0, none⟩) i _) (.slice (some ⟨g, i + 1, none⟩) (m - i) (cap - (i + 1))) (by simp [Act.eval, Act.put]) (by simp [Act.eval, Act.put]) (hr1 _ _) ?_)
  go_wp2_with (at_builtin; refine wpList_clear_run _ rfl _ _ rfl _ rfl (hr2 _ _) ?_)
  go_ret
  exact ⟨rfl, HO.out, HG.out⟩

end Go.Proofs.YthdiccdnggloiaaGreatDoor
namespace Go.Proofs.YthdiccdnggloiaaGreatDoor
open Go.RowKit Go.Sort Go.Shelf Go.Maps
theorem OwnC.setCell {w : World} {B k g n cap : Nat} {e : TypeId} {xs : List Value} (h : OwnC w B e k g n cap xs) {p : Nat} (hp : p < n * k) (v : Value) : OwnC (w.setCell ⟨g, p, none⟩ v) B e k g n cap (xs.set p v) := by
 obtain ⟨cur, hB, hc, hn, hm, hs, ht, hl⟩ := h
 have hb : Blk w g cur e := hc
 refine ⟨cur.setIfInBounds p v, hB, hb.set p v, hn, hm, by simpa using hs, ?_, by simpa using hl⟩
 rw [← ht, Array.toList_setIfInBounds, List.take_set]
theorem Enc.flat_set1 {α : Type} (E : Enc α) (v : Value) (j : Nat) (hj : j < E.k) (x x' : α) (hx : E.cells x' = (E.cells x).set j v) : ∀ (L : List α) (i : Nat), L[i]? = some x → E.flat (L.set i x') = (E.flat L).set (i * E.k + j) v
 | [], i, h => by simp at h
 | y :: L, 0, h => by
   obtain rfl : y = x := by simpa using h
   rw [List.set_cons_zero, flat_cons, flat_cons, hx, Nat.zero_mul, Nat.zero_add, List.set_append_left _ _ (by rw [E.len]; exact hj)]
 | y :: L, i + 1, h => by
   rw [List.getElem?_cons_succ] at h
   have ih := Enc.flat_set1 E v j hj x x' hx L i h
   rw [List.set_cons_succ, flat_cons, flat_cons, ih, List.set_append_right _ _ (by rw [E.len, Nat.succ_mul]; omega), E.len, show (i + 1) * E.k + j - E.k = i * E.k + j by rw [Nat.succ_mul]; omega]
theorem flat_insS (L : List ByteArray) (x : ByteArray) (p : Nat) : (St.eS.flat L).take (p * 1) ++ [.string x] ++ (St.eS.flat L).drop (p * 1) = St.eS.flat (L.take p ++ x :: L.drop p) := by
 have h1 := Enc.flat_take St.eS L p
 have h2 := Enc.flat_drop St.eS L p
 have h3 : St.eS.k = 1 := rfl
 rw [h3] at h1 h2
 rw [h1, h2, Enc.flat_append, Enc.flat_cons, List.append_assoc]; rfl
theorem flat_putS (L : List ByteArray) (x : ByteArray) (p : Nat) (hp : p < L.length) : St.eS.flat (L.set p x) = (St.eS.flat L).set p (.string x) := by
 have := Enc.flat_set1 St.eS (.string x) 0 (by decide) (L[p]'hp) x rfl L p (List.getElem?_eq_getElem _)
 simpa [St.eS] using this
theorem withS_is (L : List ByteArray) (hu : St.Up id L) (h1m : L.length ≤ 900000) (x : ByteArray) (a : Option Addr) (ca : Nat) (w : World) (hl : L.length ≤ ca ∧ ca ≤ 9223372036854775807) (hr : RowE St.eS w a L) :
  Calls Tryz.prog 59 #[.agg #[.func (.func 149) #[] #[], .slice a L.length ca], .string x] w (ClnPost St.eS 9 w (St.wth id x L)) := by
 obtain ⟨W1, hW1, hP, hz1, hB1⟩ := box w #[.func (.func 149) #[] #[], .slice a L.length ca] 103
 have HW1 := Lib.hid hW1; have HBB := Lib.hid hB1; have HZS : Hid (w.heap.size ≤ W1.heap.size) := Lib.hid hB1.size
 have HCL : Hid (∀ V, Below W1.heap.size W1 V → V.cell? ⟨w.heap.size, 0, none⟩ = some (.func (.func 149) #[] #[]) ∧ V.cell? ⟨w.heap.size, 1, none⟩ = some (.slice a L.length ca)) := Lib.hid fun V hv => ⟨((hP.keep hv).cell 0).trans rfl, ((hP.keep hv).cell 1).trans rfl⟩
 have HK := Lib.hid (fun V => heldK_is x V)
 have HPL := Lib.hid (fun V (hv : Below W1.heap.size W1 V) => placeS_is L hu (by omega) (x) a ca V hl ((hr.keep HBB.out).keep hv))
 have HCN := Lib.hid (fun V (hv : Below W1.heap.size W1 V) => clnS_is (L := L) a ca V ((hr.keep HBB.out).keep hv) (by omega))
 unfold ClnPost at HCN
 have HW : Hid (St.wth id x L = if St.hasK id L (x) = true then L.set (St.pos id (x) L) x else L.take (St.pos id (x) L) ++ x :: L.drop (St.pos id (x) L)) := Lib.hid rfl
 have hpl := St.pos_le id (x) L
 have HPT := Lib.hid (fun h : St.hasK id L (x) = true => St.hasK_at hu h)
 obtain ⟨p, hp⟩ : ∃ p, St.pos id (x) L = p := ⟨_, rfl⟩
 obtain ⟨hb, hhb⟩ : ∃ hb, St.hasK id L (x) = hb := ⟨_, rfl⟩
 rw [hp, hhb] at HPL HW HPT
 rw [hp] at hpl
 obtain ⟨n, hn⟩ : ∃ n, L.length = n := ⟨_, rfl⟩
 have HN := Lib.hid hn
 rw [hn] at hl hpl h1m HCL HPL HCN HW1 ⊢
 have eg := enters_held
 have hmf : ∀ (fn : Fn) (first cap : Array Value) (w : World), (Instr.makeFunc fn first cap).run Tryz.prog w = .ok (.func fn first cap) w := fun _ _ _ _ => rfl
 clear hr hW1 hP hz1 hB1 hu hp hhb hn
 go_enter Tryz.func59, Tryz.ntmps59
 go_upto_region 1 with fail
 rw [HW1.out]
 have hv : Below W1.heap.size W1 W1.drew := (Below.refl _ _).drew
 obtain ⟨r0, r1⟩ := HCL.out _ hv
 go_region_held3 (fun W => W.cell? ⟨w.heap.size, 0, none⟩ = some (.func (.func 149) #[] #[]) ∧ W.cell? ⟨w.heap.size, 1, none⟩ = some (.slice a n ca))
  (first | (with_reducible exact ⟨r0, r1⟩) | go_keep)
  (first
   | (go_at_fn 149; (with_reducible refine (HK.out _).mono ?_); rintro e wq ⟨rfl, rfl⟩)
   | (go_at_call 150; (with_reducible refine (HPL.out _ hv).mono ?_); rintro e wp ⟨rfl, hq⟩; have hv := below_up hv hq; obtain ⟨r0, r1⟩ := HCL.out _ hv)
   | fail)
 have hp0 : (0 : Int) ≤ (p : Int) := by omega
 cases hb
 ·have hW := HW.out
  rw [if_neg (by decide)] at hW
  have HWL : Hid (St.wth id x L = L.take p ++ x :: L.drop p) := Lib.hid hW
  have HWN : Hid ((L.take p ++ x :: L.drop p).length = n + 1) := Lib.hid (by rw [List.length_append, List.length_cons, List.length_take, List.length_drop, HN.out]; omega)
  clear hW
  go_wp2_with (first
   | (go_at_call 140; (with_reducible refine (HCN.out _ hv).mono ?_); rintro e w4 ⟨g4, c4, rfl, ho4, hq⟩; have hs4 := hv.size; have HO4 : Hid (OwnV w4 w.heap.size 9 1 (.slice g4 n c4) n (St.eS.flat L)) := Lib.hid (ho4.down (show w.heap.size ≤ wp.heap.size by have := HZS.out; omega)); have hv := below_up hv hq; obtain ⟨r0, r1⟩ := HCL.out _ hv; have HV4 := Lib.hid hv; have HINS := Lib.hid (fun V (hb : Below w4.heap.size w4 V) (bv : Nat) (hbv : V.heap[bv]? = some (.cells #[.string x] 9 (0, 0))) (hge : w4.heap.size ≤ bv) => sr_ins w.heap.size n p (.slice g4 n c4) (St.eS.flat L) [.string x] V (HO4.out.keep hb) (by have := HZS.out; have := HV4.out.size; have := hb.size; omega) hpl (by omega) (Enc.flat_one St.eS L) bv _ _ hbv (fun e => by have := (HO4.out.lt bv e).2; omega) rfl rfl (by simp [Value.oneCell'])); rw [flat_insS] at HINS; clear ho4 hq)
   | (go_at_call 151; (with_reducible refine (HINS.out _ (below_allocs (Below.refl _ _) _) _ (heap_alloc_new _ _) (Nat.le_refl _)).mono ?_); rintro e w8 ⟨g8, c8, rfl, hc8, hg8, hn8⟩; have HC8 := Lib.hid hc8; have HG8 := Lib.hid hg8; have l1 : n + 1 ≤ c8 := (by obtain ⟨_, _, _, h, _⟩ := HC8.out; exact h); have l2 : c8 ≤ 9223372036854775807 := (by obtain ⟨_, _, _, _, h, _⟩ := HC8.out; exact h); clear hc8 hg8 hn8)
   | (go_at_call 104; (with_reducible refine (clnS_clip _ _ _ _ l1 l2).mono ?_); rintro e wc ⟨rfl, rfl⟩))
  go_ret
  have hO4 := HO4.out.keep (below_allocs (Below.refl _ w4) (.cells #[.string x] 9))
  have hB4 := below_allocs (below_up HBB.out HV4.out) (.cells #[.string x] 9)
  refine ⟨some ⟨g8, 0, none⟩, n + 1, by rw [HWL.out, HWN.out]; rfl, ?_, below_ownI hB4 hO4 HG8.out (by have := hB4.size; omega)⟩
  rw [HWL.out, HWN.out]
  exact .inr ⟨g8, n + 1, rfl, HC8.out.clip⟩
 ·obtain ⟨y, hy, _⟩ := HPT.out rfl
  have hpn : p < n := by rw [← HN.out]; exact (List.getElem?_eq_some_iff.1 hy).1
  have hW := HW.out
  rw [if_pos rfl] at hW
  have HWL : Hid (St.wth id x L = L.set p x) := Lib.hid hW
  have HWN : Hid ((L.set p x).length = n) := Lib.hid (by rw [List.length_set, HN.out])
  have HPU := Lib.hid (flat_putS L x p (by rw [HN.out]; exact hpn))
  clear hW hy
  go_upto_region 4 with (go_at_call 140; (with_reducible refine (HCN.out _ hv).mono ?_); rintro e w4 ⟨g4, c4, rfl, ho4, hq⟩; have hs4 := hv.size; have ho : OwnV w4 w.heap.size 9 1 (.slice g4 n c4) n (St.eS.flat L) := ho4.down (show w.heap.size ≤ wp.heap.size by have := HZS.out; omega); have HV4 := Lib.hid (below_up HBB.out (below_up hv hq)); have hv := below_up hv hq; obtain ⟨r0, r1⟩ := HCL.out _ hv; clear ho4 hq)
  rcases ho with ⟨_, h0, _⟩ | ⟨g, cap, h0, hc⟩
  ·omega
  ·cases h0
   have hcg := hc.lt
   obtain ⟨cur0, _, hcc0, _⟩ := id hc
   have hfz0 := frozen_of hcc0 (p)
   have hce0 : ∃ v, (w4).cell? ⟨g, p, none⟩ = some v := by
    have h := hc.cellAt (p) (by omega)
    exact ⟨_, h.trans (List.getElem?_eq_getElem (by first | (rw [St.eS.flat_len, HN.out]; show _ < n * 1; omega) | (simp only [List.length_set]; rw [St.eS.flat_len, HN.out]; show _ < n * 1; omega)))⟩
   obtain ⟨v0, hv0⟩ := hce0
   have hc0 := hc.setCell (p := p) (by omega) (.string x)
   rw [← HPU.out] at hc0
   have HCZ := Lib.hid hc0
   obtain ⟨_, _, _, l1, l2, _⟩ := id hc0
   have l2' : c4 ≤ 9223372036854775807 := l2
   have HBZ := Lib.hid ((HV4.out).setCell (p := ⟨g, p, none⟩) (by simpa using hcg.1) (.string x))
   clear hc hc0
   go_wp2_with (go_at_call 104; (with_reducible refine (clnS_clip _ _ _ _ l1 l2').mono ?_); rintro e wc ⟨rfl, rfl⟩)
   go_ret
   refine ⟨some ⟨g, 0, none⟩, n, by rw [HWL.out, HWN.out]; rfl, ?_, HBZ.out⟩
   rw [HWL.out, HWN.out]
   exact .inr ⟨g, n, rfl, HCZ.out.clip⟩
theorem flat_insG (L : List Gon) (x : Gon) (p : Nat) : (St.eG.flat L).take (p * 2) ++ [.string x.dig, .int .i64 x.day] ++ (St.eG.flat L).drop (p * 2) = St.eG.flat (L.take p ++ x :: L.drop p) := by
 have h1 := Enc.flat_take St.eG L p
 have h2 := Enc.flat_drop St.eG L p
 have h3 : St.eG.k = 2 := rfl
 rw [h3] at h1 h2
 rw [h1, h2, Enc.flat_append, Enc.flat_cons, List.append_assoc]; rfl
theorem flat_putG (L : List Gon) (x : Gon) (p : Nat) (hp : p < L.length) : St.eG.flat (L.set p x) = (((St.eG.flat L).set (p * 2) (.string x.dig)).set (p * 2 + 1) (.int .i64 x.day)) := by
 have h0 : L[p]? = some (L[p]'hp) := List.getElem?_eq_getElem _
 generalize (L[p]'hp) = y at h0
 have e0 : St.eG.flat ((L).set p (⟨x.dig, y.day⟩ : Gon)) = (St.eG.flat (L)).set (p * 2 + 0) (.string x.dig) := Enc.flat_set1 St.eG (.string x.dig) 0 (by decide) y (⟨x.dig, y.day⟩ : Gon) rfl _ p h0
 have e1 : St.eG.flat (((L).set p (⟨x.dig, y.day⟩ : Gon)).set p x) = (St.eG.flat ((L).set p (⟨x.dig, y.day⟩ : Gon))).set (p * 2 + 1) (.int .i64 x.day) := Enc.flat_set1 St.eG (.int .i64 x.day) 1 (by decide) (⟨x.dig, y.day⟩ : Gon) x rfl _ p (by rw [List.getElem?_set_self (by simpa using hp)])
 simp only [List.set_set] at e0 e1
 rw [e1, e0]; rfl
theorem withG_is (L : List Gon) (hu : St.Up St.gdig L) (h1m : L.length ≤ 900000) (x : Gon) (a : Option Addr) (ca : Nat) (w : World) (hl : L.length ≤ ca ∧ ca ≤ 9223372036854775807) (hr : RowE St.eG w a L) :
  Calls Tryz.prog 66 #[.agg #[.func (.func 152) #[] #[], .slice a L.length ca], .agg #[.string x.dig, .int .i64 x.day]] w (ClnPost St.eG 112 w (St.wth St.gdig x L)) := by
 obtain ⟨W1, hW1, hP, hz1, hB1⟩ := box w #[.func (.func 152) #[] #[], .slice a L.length ca] 108
 obtain ⟨W2, hW2, hX, hz2, hB2⟩ := box W1 #[.string x.dig, .int .i64 x.day] 112
 rw [hz1] at hX
 have hP := hP.keep hB2
 have HW1 := Lib.hid hW1; have HW2 := Lib.hid hW2; have HBB := Lib.hid (below_up hB1 hB2); have HZS : Hid (w.heap.size ≤ W2.heap.size) := Lib.hid HBB.out.size
 have HCL : Hid (∀ V, Below W2.heap.size W2 V → V.cell? ⟨w.heap.size, 0, none⟩ = some (.func (.func 152) #[] #[]) ∧ V.cell? ⟨w.heap.size, 1, none⟩ = some (.slice a L.length ca) ∧ V.cell? ⟨w.heap.size + 1, 0, none⟩ = some (.string x.dig) ∧ V.cell? ⟨w.heap.size + 1, 1, none⟩ = some (.int .i64 x.day)) := Lib.hid fun V hv => ⟨((hP.keep hv).cell 0).trans rfl, ((hP.keep hv).cell 1).trans rfl, ((hX.keep hv).cell 0).trans rfl, ((hX.keep hv).cell 1).trans rfl⟩
 have HK := Lib.hid (fun V => keyKG_is x V)
 have HPL := Lib.hid (fun V (hv : Below W2.heap.size W2 V) => placeG_is L hu (by omega) (St.gdig x) a ca V hl ((hr.keep HBB.out).keep hv))
 have HCN := Lib.hid (fun V (hv : Below W2.heap.size W2 V) => clnG_is (L := L) a ca V ((hr.keep HBB.out).keep hv) (by omega))
 unfold ClnPost at HCN
 have HW : Hid (St.wth St.gdig x L = if St.hasK St.gdig L (St.gdig x) = true then L.set (St.pos St.gdig (St.gdig x) L) x else L.take (St.pos St.gdig (St.gdig x) L) ++ x :: L.drop (St.pos St.gdig (St.gdig x) L)) := Lib.hid rfl
 have hpl := St.pos_le St.gdig (St.gdig x) L
 have HPT := Lib.hid (fun h : St.hasK St.gdig L (St.gdig x) = true => St.hasK_at hu h)
 obtain ⟨p, hp⟩ : ∃ p, St.pos St.gdig (St.gdig x) L = p := ⟨_, rfl⟩
 obtain ⟨hb, hhb⟩ : ∃ hb, St.hasK St.gdig L (St.gdig x) = hb := ⟨_, rfl⟩
 rw [hp, hhb] at HPL HW HPT
 rw [hp] at hpl
 obtain ⟨n, hn⟩ : ∃ n, L.length = n := ⟨_, rfl⟩
 have HN := Lib.hid hn
 rw [hn] at hl hpl h1m HCL HPL HCN HW1 ⊢
 have eg := entersKG
 have hmf : ∀ (fn : Fn) (first cap : Array Value) (w : World), (Instr.makeFunc fn first cap).run Tryz.prog w = .ok (.func fn first cap) w := fun _ _ _ _ => rfl
 clear hr hW1 hP hz1 hB1 hu hW2 hX hz2 hB2 hp hhb hn
 go_enter Tryz.func66, Tryz.ntmps66
 go_upto_region 1 with fail
 rw [HW1.out, HW2.out]
 have hv : Below W2.heap.size W2 W2.drew := (Below.refl _ _).drew
 obtain ⟨r0, r1, x0, x1⟩ := HCL.out _ hv
 go_region_held3 (fun W => W.cell? ⟨w.heap.size, 0, none⟩ = some (.func (.func 152) #[] #[]) ∧ W.cell? ⟨w.heap.size, 1, none⟩ = some (.slice a n ca) ∧ W.cell? ⟨w.heap.size + 1, 0, none⟩ = some (.string x.dig) ∧ W.cell? ⟨w.heap.size + 1, 1, none⟩ = some (.int .i64 x.day))
  (first | (with_reducible exact ⟨r0, r1, x0, x1⟩) | go_keep)
  (first
   | (go_at_fn 152; (with_reducible refine (HK.out _).mono ?_); rintro e wq ⟨rfl, hq⟩; have hv := below_up hv hq; obtain ⟨r0, r1, x0, x1⟩ := HCL.out _ hv)
   | (go_at_call 153; (with_reducible refine (HPL.out _ hv).mono ?_); rintro e wp ⟨rfl, hq⟩; have hv := below_up hv hq; obtain ⟨r0, r1, x0, x1⟩ := HCL.out _ hv)
   | fail)
 have hp0 : (0 : Int) ≤ (p : Int) := by omega
 cases hb
 ·have hW := HW.out
  rw [if_neg (by decide)] at hW
  have HWL : Hid (St.wth St.gdig x L = L.take p ++ x :: L.drop p) := Lib.hid hW
  have HWN : Hid ((L.take p ++ x :: L.drop p).length = n + 1) := Lib.hid (by rw [List.length_append, List.length_cons, List.length_take, List.length_drop, HN.out]; omega)
  clear hW
  go_upto_region 6 with fail
  have hvB := (below_allocs hv (.cells #[.string x.dig, .int .i64 x.day] 112)).drew
  have HNB := Lib.hid (Blk.new wp #[.string x.dig, .int .i64 x.day] 112).drew
  have hsB : (wp.alloc (.cells #[.string x.dig, .int .i64 x.day] 112)).drew.heap.size = wp.heap.size + 1 := by simp
  have hv := hv.drew
  clear r0 r1 x0 x1
  obtain ⟨r0, r1, x0, x1⟩ := HCL.out _ hv
  have hvs := hv.size
  go_region_held3 (fun W => W.cell? ⟨w.heap.size, 0, none⟩ = some (.func (.func 152) #[] #[]) ∧ W.cell? ⟨w.heap.size, 1, none⟩ = some (.slice a n ca) ∧ W.cell? ⟨w.heap.size + 1, 0, none⟩ = some (.string x.dig) ∧ W.cell? ⟨w.heap.size + 1, 1, none⟩ = some (.int .i64 x.day))
   (first | (with_reducible exact ⟨r0, r1, x0, x1⟩) | go_keep)
   (first
    | (go_at_call 141; (with_reducible refine (HCN.out _ hv).mono ?_); rintro e w4 ⟨g4, c4, rfl, ho4, hq⟩; have hs4 := hv.size; have HO4 : Hid (OwnV w4 w.heap.size 112 2 (.slice g4 n c4) n (St.eG.flat L)) := Lib.hid (ho4.down (Nat.le_trans HZS.out hs4)); have hv := below_up hv hq; obtain ⟨r0, r1, x0, x1⟩ := HCL.out _ hv; have HV4 := Lib.hid hv; have HINS := Lib.hid (fun V (hb : Below w4.heap.size w4 V) (bv : Nat) (hbv : V.heap[bv]? = some (.cells #[.string x.dig, .int .i64 x.day] 112 (0, 0))) (hge : w4.heap.size ≤ bv) => gn_ins w.heap.size n p (.slice g4 n c4) (St.eG.flat L) [.string x.dig, .int .i64 x.day] V (HO4.out.keep hb) (by have := HZS.out; have := HV4.out.size; have := hb.size; omega) hpl (by omega) (Enc.flat_one St.eG L) bv _ _ hbv (fun e => by have := (HO4.out.lt bv e).2; omega) rfl rfl (by simp [Value.oneCell'])); rw [flat_insG] at HINS; have HO2 : Hid (OwnV w4 W2.heap.size 112 2 (.slice g4 n c4) n (St.eG.flat L)) := Lib.hid (ho4.down hs4); clear ho4 hq)
    | (go_at_call 141; (with_reducible refine (HCN.out _ hvB).mono ?_); rintro e w4 ⟨g4, c4, rfl, ho4, hq⟩; have hs4 := hvB.size; have HO4 : Hid (OwnV w4 w.heap.size 112 2 (.slice g4 n c4) n (St.eG.flat L)) := Lib.hid (ho4.down (Nat.le_trans HZS.out hs4)); have HO2 : Hid (OwnV w4 W2.heap.size 112 2 (.slice g4 n c4) n (St.eG.flat L)) := Lib.hid (ho4.down hs4); have hv := below_up hvB hq; obtain ⟨r0, r1, x0, x1⟩ := HCL.out _ hv; have HV4 := Lib.hid hv; have HINB := Lib.hid (gn_ins w.heap.size n p (.slice g4 n c4) (St.eG.flat L) [.string x.dig, .int .i64 x.day] w4 HO4.out (by have := HZS.out; have := HV4.out.size; omega) hpl (by omega) (Enc.flat_one St.eG L) wp.heap.size _ _ (HNB.out.keep hq) (fun e => by have := (ho4.lt wp.heap.size e).1; omega) rfl rfl (by simp [Value.oneCell'])); rw [flat_insG] at HINB; clear ho4 hq)
    | (go_at_call 89; (with_reducible refine (HINS.out _ (below_allocs (Below.refl _ _) _) _ (heap_alloc_new _ _) (Nat.le_refl _)).mono ?_); rintro e w8 ⟨g8, c8, rfl, hc8, hg8, hn8⟩; have HC8 := Lib.hid hc8; have l1 : n + 1 ≤ c8 := (by obtain ⟨_, _, _, h, _⟩ := HC8.out; exact h); have l2 : c8 ≤ 9223372036854775807 := (by obtain ⟨_, _, _, _, h, _⟩ := HC8.out; exact h); have HF := Lib.hid (below_ownI (below_allocs (below_up HBB.out HV4.out) (.cells #[.string x.dig, .int .i64 x.day] 112)) (HO4.out.keep (below_allocs (Below.refl _ w4) (.cells #[.string x.dig, .int .i64 x.day] 112))) hg8 (by have := HZS.out; have := HV4.out.size; simp; omega)); have hv := below_ownI (below_allocs HV4.out (.cells #[.string x.dig, .int .i64 x.day] 112)) (HO2.out.keep (below_allocs (Below.refl _ w4) (.cells #[.string x.dig, .int .i64 x.day] 112))) hg8 (by have := HV4.out.size; simp; omega); obtain ⟨r0, r1, x0, x1⟩ := HCL.out _ hv; clear hc8 hg8 hn8)
    | (go_at_call 89; (with_reducible refine HINB.out.mono ?_); rintro e w8 ⟨g8, c8, rfl, hc8, hg8, hn8⟩; have HC8 := Lib.hid hc8; have l1 : n + 1 ≤ c8 := (by obtain ⟨_, _, _, h, _⟩ := HC8.out; exact h); have l2 : c8 ≤ 9223372036854775807 := (by obtain ⟨_, _, _, _, h, _⟩ := HC8.out; exact h); have HF := Lib.hid (below_ownI (below_up HBB.out HV4.out) HO4.out hg8 (by have := HZS.out; have := HV4.out.size; omega)); have hv := below_ownI HV4.out HO2.out hg8 HV4.out.size; obtain ⟨r0, r1, x0, x1⟩ := HCL.out _ hv; clear hc8 hg8 hn8)
    | (go_at_call 67; (with_reducible refine (clnG_clip _ _ _ _ l1 l2).mono ?_); rintro e wc ⟨rfl, rfl⟩)
    | fail)
  all_goals (go_wp2_with fail; go_ret; refine ⟨some ⟨g8, 0, none⟩, n + 1, by rw [HWL.out, HWN.out]; rfl, ?_, HF.out⟩; rw [HWL.out, HWN.out]; exact .inr ⟨g8, n + 1, rfl, HC8.out.clip⟩)
 ·obtain ⟨y, hy, _⟩ := HPT.out rfl
  have hpn : p < n := by rw [← HN.out]; exact (List.getElem?_eq_some_iff.1 hy).1
  have hW := HW.out
  rw [if_pos rfl] at hW
  have HWL : Hid (St.wth St.gdig x L = L.set p x) := Lib.hid hW
  have HWN : Hid ((L.set p x).length = n) := Lib.hid (by rw [List.length_set, HN.out])
  have HPU := Lib.hid (flat_putG L x p (by rw [HN.out]; exact hpn))
  clear hW hy
  go_upto_region 4 with (go_at_call 141; (with_reducible refine (HCN.out _ hv).mono ?_); rintro e w4 ⟨g4, c4, rfl, ho4, hq⟩; have hs4 := hv.size; have ho : OwnV w4 w.heap.size 112 2 (.slice g4 n c4) n (St.eG.flat L) := ho4.down (Nat.le_trans HZS.out hs4); have HV4 := Lib.hid (below_up HBB.out (below_up hv hq)); have hv := below_up hv hq; obtain ⟨r0, r1, x0, x1⟩ := HCL.out _ hv; clear ho4 hq)
  rcases ho with ⟨_, h0, _⟩ | ⟨g, cap, h0, hc⟩
  ·omega
  ·cases h0
   have hcg := hc.lt
   obtain ⟨cur0, _, hcc0, _⟩ := id hc
   have hfz0 := frozen_of hcc0 (p * 2)
   have hce0 : ∃ v, (w4).cell? ⟨g, p * 2, none⟩ = some v := by
    have h := hc.cellAt (p * 2) (by omega)
    exact ⟨_, h.trans (List.getElem?_eq_getElem (by first | (rw [St.eG.flat_len, HN.out]; show _ < n * 2; omega) | (simp only [List.length_set]; rw [St.eG.flat_len, HN.out]; show _ < n * 2; omega)))⟩
   obtain ⟨v0, hv0⟩ := hce0
   have hc0 := hc.setCell (p := p * 2) (by omega) (.string x.dig)
   obtain ⟨cur1, _, hcc1, _⟩ := id hc0
   have hfz1 := frozen_of hcc1 (p * 2 + 1)
   have hce1 : ∃ v, ((w4).setCell ⟨g, p * 2, none⟩ (.string x.dig)).cell? ⟨g, p * 2 + 1, none⟩ = some v := by
    have h := hc0.cellAt (p * 2 + 1) (by omega)
    exact ⟨_, h.trans (List.getElem?_eq_getElem (by first | (rw [St.eG.flat_len, HN.out]; show _ < n * 2; omega) | (simp only [List.length_set]; rw [St.eG.flat_len, HN.out]; show _ < n * 2; omega)))⟩
   obtain ⟨v1, hv1⟩ := hce1
   have hc1 := hc0.setCell (p := p * 2 + 1) (by omega) (.int .i64 x.day)
   rw [← HPU.out] at hc1
   have HCZ := Lib.hid hc1
   obtain ⟨_, _, _, l1, l2, _⟩ := id hc1
   have l2' : c4 ≤ 9223372036854775807 := l2
   have HBZ := Lib.hid ((((HV4.out).setCell (p := ⟨g, p * 2, none⟩) (by simpa using hcg.1) (.string x.dig))).setCell (p := ⟨g, p * 2 + 1, none⟩) (by simpa using hcg.1) (.int .i64 x.day))
   clear hc hc0 hc1
   go_wp2_with (go_at_call 67; (with_reducible refine (clnG_clip _ _ _ _ l1 l2').mono ?_); rintro e wc ⟨rfl, rfl⟩)
   go_ret
   refine ⟨some ⟨g, 0, none⟩, n, by rw [HWL.out, HWN.out]; rfl, ?_, HBZ.out⟩
   rw [HWL.out, HWN.out]
   exact .inr ⟨g, n, rfl, HCZ.out.clip⟩
end Go.Proofs.YthdiccdnggloiaaGreatDoor
