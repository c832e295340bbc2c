/- Parts of the proof, no condition: StRefG, StSrc. -/
import Derived.Test.YthdiccdnggloiaaDoorRk7
import Derived.Test.YthdiccdnggloiaaDoorRk4
set_option maxRecDepth 100000
set_option maxHeartbeats 8000000
set_option linter.unusedSimpArgs false
set_option linter.unusedVariables false
namespace Go.Proofs.YthdiccdnggloiaaDoor
open Go.RowKit Go.Sort Go.Shelf Go.Maps
theorem copyOf_is (s : Sto) (a : StA) (d t : ByteArray) (w : World) (hI : StIn w s a) :
  Calls Tryd.prog 38 #[.agg #[.int .i64 s.least, .int .i64 s.wait, .slice a.ta s.tiers.length a.tc, .slice a.fa s.files.length a.fc, .slice a.ca s.copies.length a.cc, .slice a.ha s.held.length a.hc, .slice a.ba s.bin.length a.bc], .string d, .string t] w fun e w' => e = .returned (.int .i64 (St.copyAt s d t)) ∧ Below w.heap.size w w' := by
 obtain ⟨W1, hW1, hP, hz1, hB1⟩ := box w #[.int .i64 s.least, .int .i64 s.wait, .slice a.ta s.tiers.length a.tc, .slice a.fa s.files.length a.fc, .slice a.ca s.copies.length a.cc, .slice a.ha s.held.length a.hc, .slice a.ba s.bin.length a.bc] 28
 have HW1 := Lib.hid hW1
 have HI1 := Lib.hid (hI.keep hB1)
 have q0 : W1.cell? ⟨w.heap.size, 0, none⟩ = some (.int .i64 s.least) := (hP.cell 0).trans rfl
 have q1 : W1.cell? ⟨w.heap.size, 1, none⟩ = some (.int .i64 s.wait) := (hP.cell 1).trans rfl
 have q2 : W1.cell? ⟨w.heap.size, 2, none⟩ = some (.slice a.ta s.tiers.length a.tc) := (hP.cell 2).trans rfl
 have q3 : W1.cell? ⟨w.heap.size, 3, none⟩ = some (.slice a.fa s.files.length a.fc) := (hP.cell 3).trans rfl
 have q4 : W1.cell? ⟨w.heap.size, 4, none⟩ = some (.slice a.ca s.copies.length a.cc) := (hP.cell 4).trans rfl
 have q5 : W1.cell? ⟨w.heap.size, 5, none⟩ = some (.slice a.ha s.held.length a.hc) := (hP.cell 5).trans rfl
 have q6 : W1.cell? ⟨w.heap.size, 6, none⟩ = some (.slice a.ba s.bin.length a.bc) := (hP.cell 6).trans rfl
 have HP := Lib.hid hP; have HB1 := Lib.hid hB1
 clear hW1 hP
 have hcl := hI.cl
 obtain ⟨q, hq⟩ : ∃ q, St.copyAt s d t = q := ⟨_, rfl⟩
 rw [hq]
 have HQ : Hid (St.idx (St.isCop d t) (s.copies.drop 0) 0 = q) := Lib.hid hq
 clear q0 q1 q2 q3 q5 q6 hI hq
 obtain ⟨n, hn⟩ : ∃ n, s.copies.length = n := ⟨_, rfl⟩
 have HN := Lib.hid hn
 rw [hn] at q4 hcl HW1 ⊢
 clear hn
 go_enter Tryd.func38, Tryd.ntmps38
 go_wp2_with fail
 rw [HW1.out]
 go_wp2_with fail
 go_loopg [12] n (fun gk i wr => ∃ j : Nat, j ≤ n ∧ gk = n - j ∧ i = .int .i64 j ∧ St.idx (St.isCop d t) (s.copies.drop j) j = q ∧ Below w.heap.size w wr ∧ Below W1.heap.size W1 wr)
 case atStart => exact ⟨0, by omega, rfl, rfl, HQ.out, HB1.out, Below.refl _ _⟩
 case round =>
  obtain ⟨j, hj, rfl, rfl, hs, hB, hBW⟩ := hrel
  have HS := Lib.hid hs; clear hs
  by_cases hlt : j < n
  ·obtain ⟨x, hx⟩ : ∃ x, s.copies[j]? = some x := ⟨_, List.getElem?_eq_getElem (by rw [HN.out]; exact hlt)⟩
   obtain ⟨b, off, ha, hb, hcell⟩ := ((HI1.out.keep hBW).co) (by rw [HN.out]; omega)
   have c0 : wr.cell? ⟨b, off + j * 4, none⟩ = some (.string x.dig) := hcell j x hx 0 (.string x.dig) rfl
   have c1 : wr.cell? ⟨b, off + j * 4 + 1, none⟩ = some (.string x.tier) := hcell j x hx 1 (.string x.tier) rfl
   have c2 : wr.cell? ⟨b, off + j * 4 + 2, none⟩ = some (.bool x.good) := hcell j x hx 2 (.bool x.good) rfl
   have c3 : wr.cell? ⟨b, off + j * 4 + 3, none⟩ = some (.int .i64 x.asked) := hcell j x hx 3 (.int .i64 x.asked) rfl
   clear hcell
   have HX := Lib.hid hx
   have HAL := Lib.hid (below_allocs hB (.cells #[.string x.dig, .string x.tier, .bool x.good, .int .i64 x.asked] 62))
   have HAW := Lib.hid (below_allocs hBW (.cells #[.string x.dig, .string x.tier, .bool x.good, .int .i64 x.asked] 62))
   have hj0 : (0 : Int) ≤ (j : Int) := by omega
   have hj1 : (j : Int) < (n : Int) := by omega
   obtain ⟨bq, hbq⟩ : ∃ bq, (x.dig.toList == d.toList) = bq := ⟨_, rfl⟩
   obtain ⟨br, hbr⟩ : ∃ br, (x.tier.toList == t.toList) = br := ⟨_, rfl⟩
   have HIS : Hid (St.isCop d t x = (bq && br)) := Lib.hid (by rw [← hbq, ← hbr]; rfl)
   rw [ha]
   cases bq
   ·have HE := Lib.hid (St.idx_next HS.out HX.out (by rw [HIS.out]; rfl))
    clear hx hB hBW
    go_wp2_with fail
    rw [← ha]
    go_roundg (n - (j + 1))
    case rel => exact ⟨j + 1, by omega, rfl, by go_num, HE.out, HAL.out, HAW.out⟩
    case measure => omega
   ·cases br
    ·have HE := Lib.hid (St.idx_next HS.out HX.out (by rw [HIS.out]; rfl))
     clear hx hB hBW
     go_wp2_with fail
     rw [← ha]
     go_roundg (n - (j + 1))
     case rel => exact ⟨j + 1, by omega, rfl, by go_num, HE.out, HAL.out, HAW.out⟩
     case measure => omega
    ·have HE := Lib.hid (St.idx_here HS.out HX.out (by rw [HIS.out]; rfl))
     clear hx hB hBW
     go_wp2_with fail
     go_ret
     exact ⟨ret_int HE.out, HAL.out⟩
  ·obtain rfl : j = n := by omega
   have HE := HS.out
   rw [← HN.out] at HE
   have HE2 := Lib.hid (St.idx_end HE)
   clear HE
   go_wp2_with fail
   go_ret
   exact ⟨ret_int HE2.out, hB⟩
theorem goodOf_is (s : Sto) (a : StA) (d : ByteArray) (w : World) (hI : StIn w s a) (y1 : s.tiers.length ≤ 8) (y3 : s.copies.length ≤ 4000) :
  Calls Tryd.prog 39 #[.agg #[.int .i64 s.least, .int .i64 s.wait, .slice a.ta s.tiers.length a.tc, .slice a.fa s.files.length a.fc, .slice a.ca s.copies.length a.cc, .slice a.ha s.held.length a.hc, .slice a.ba s.bin.length a.bc], .string d] w (TirPost w (St.goodL s d)) := by
 obtain ⟨W1, hW1, hP, hz1, hB1⟩ := box w #[.int .i64 s.least, .int .i64 s.wait, .slice a.ta s.tiers.length a.tc, .slice a.fa s.files.length a.fc, .slice a.ca s.copies.length a.cc, .slice a.ha s.held.length a.hc, .slice a.ba s.bin.length a.bc] 28
 have HW1 := Lib.hid hW1
 have HI1 := Lib.hid (hI.keep hB1)
 have q0 : W1.cell? ⟨w.heap.size, 0, none⟩ = some (.int .i64 s.least) := (hP.cell 0).trans rfl
 have q1 : W1.cell? ⟨w.heap.size, 1, none⟩ = some (.int .i64 s.wait) := (hP.cell 1).trans rfl
 have q2 : W1.cell? ⟨w.heap.size, 2, none⟩ = some (.slice a.ta s.tiers.length a.tc) := (hP.cell 2).trans rfl
 have q3 : W1.cell? ⟨w.heap.size, 3, none⟩ = some (.slice a.fa s.files.length a.fc) := (hP.cell 3).trans rfl
 have q4 : W1.cell? ⟨w.heap.size, 4, none⟩ = some (.slice a.ca s.copies.length a.cc) := (hP.cell 4).trans rfl
 have q5 : W1.cell? ⟨w.heap.size, 5, none⟩ = some (.slice a.ha s.held.length a.hc) := (hP.cell 5).trans rfl
 have q6 : W1.cell? ⟨w.heap.size, 6, none⟩ = some (.slice a.ba s.bin.length a.bc) := (hP.cell 6).trans rfl
 have HP := Lib.hid hP; have HB1 := Lib.hid hB1
 clear hW1 hP
 have HCO := Lib.hid (fun V (hV : Below w.heap.size w V) t => copyOf_is s a d t V (hI.keep hV))
 have HGI := Lib.hid (fun t => St.good_idx s d t)
 have htl := hI.tl; have hcl := hI.cl
 have HI := Lib.hid hI
 have HCL : Hid (∀ V, Below W1.heap.size W1 V → V.cell? ⟨w.heap.size, 0, none⟩ = some (.int .i64 s.least) ∧ V.cell? ⟨w.heap.size, 1, none⟩ = some (.int .i64 s.wait) ∧ V.cell? ⟨w.heap.size, 2, none⟩ = some (.slice a.ta s.tiers.length a.tc) ∧ V.cell? ⟨w.heap.size, 3, none⟩ = some (.slice a.fa s.files.length a.fc) ∧ V.cell? ⟨w.heap.size, 4, none⟩ = some (.slice a.ca s.copies.length a.cc) ∧ V.cell? ⟨w.heap.size, 5, none⟩ = some (.slice a.ha s.held.length a.hc) ∧ V.cell? ⟨w.heap.size, 6, none⟩ = some (.slice a.ba s.bin.length a.bc)) := Lib.hid fun V hv => (HP.out.keep hv).seven
 have HGL : Hid (St.goodL s d = s.tiers.filter (fun t => St.goodAt s d t.name)) := Lib.hid rfl
 have hlt1 : w.heap.size < W1.heap.size := by omega
 clear hI hz1 q0 q1 q3 q4 q5 q6
 obtain ⟨nt, hnt⟩ : ∃ nt, s.tiers.length = nt := ⟨_, rfl⟩
 obtain ⟨nc, hnc⟩ : ∃ nc, s.copies.length = nc := ⟨_, rfl⟩
 have HNT := Lib.hid hnt; have HNC := Lib.hid hnc
 rw [hnt] at htl y1 HCL q2 HW1 HCO ⊢
 rw [hnc] at hcl y3 HCL HW1 HCO ⊢
 clear hnt hnc
 go_enter Tryd.func39, Tryd.ntmps39
 go_wp2_with fail
 rw [HW1.out]
 go_wp2_with fail
 clear q2
 go_loopg [5, 12] nt (fun gk v i wr => ∃ j : Nat, j ≤ nt ∧ gk = nt - j ∧ i = .int .i64 j ∧ wr.ownsRow W1.heap.size 53 4 v ((s.tiers.take j).filter (fun t => St.goodAt s d t.name)).length (St.eT.flat ((s.tiers.take j).filter (fun t => St.goodAt s d t.name))) ∧ Below W1.heap.size W1 wr)
 case atStart => exact ⟨0, by omega, rfl, rfl, World.ownsRow_nil _ _ _ _, Below.refl _ _⟩
 case round =>
  obtain ⟨j, hj, rfl, rfl, hown, hB⟩ := hrel
  by_cases hlt : j < nt
  ·obtain ⟨x, hx⟩ : ∃ x, s.tiers[j]? = some x := ⟨_, List.getElem?_eq_getElem (by rw [HNT.out]; exact hlt)⟩
   obtain ⟨b, off, ha, hb, hcell⟩ := ((HI.out.keep (below_up HB1.out hB)).ti) (by rw [HNT.out]; omega)
   have c0 : wr.cell? ⟨b, off + j * 4, none⟩ = some (.string x.name) := hcell j x hx 0 (.string x.name) rfl
   have c1 : wr.cell? ⟨b, off + j * 4 + 1, none⟩ = some (.int .i64 x.room) := hcell j x hx 1 (.int .i64 x.room) rfl
   have c2 : wr.cell? ⟨b, off + j * 4 + 2, none⟩ = some (.int .i64 x.cost) := hcell j x hx 2 (.int .i64 x.cost) rfl
   have c3 : wr.cell? ⟨b, off + j * 4 + 3, none⟩ = some (.bool x.away) := hcell j x hx 3 (.bool x.away) rfl
   clear hcell
   have hft := St.filter_take (p := fun t => St.goodAt s d t.name) hx
   have hfl := St.filter_len (p := fun t => St.goodAt s d t.name) (L := s.tiers) j
   rw [HNT.out] at hfl
   obtain ⟨W3, hW3, hX3, hz3, hB3⟩ := box wr #[.string x.name, .int .i64 x.room, .int .i64 x.cost, .bool x.away] 53
   have HW3 := Lib.hid hW3
   have HAW := Lib.hid (below_up hB hB3)
   have hsz1 := hB.size
   have hsz3 := hB3.size
   have hown3 := own_keepE hown hB3
   have HX : Hid (∀ V, Below W3.heap.size W3 V → V.cell? ⟨wr.heap.size, 0, none⟩ = some (.string x.name) ∧ V.cell? ⟨wr.heap.size, 1, none⟩ = some (.int .i64 x.room) ∧ V.cell? ⟨wr.heap.size, 2, none⟩ = some (.int .i64 x.cost) ∧ V.cell? ⟨wr.heap.size, 3, none⟩ = some (.bool x.away)) := Lib.hid fun V hv => (hX3.keep hv).four
   have HCK := Lib.hid (fun V hV => HCO.out V hV x.name)
   obtain ⟨gp1, gp2⟩ := HGI.out x.name
   have hj0 : (0 : Int) ≤ (j : Int) := by omega
   have hj1 : (j : Int) < (nt : Int) := by omega
   have HFT := Lib.hid hft
   generalize ((s.tiers.take j).filter (fun t => St.goodAt s d t.name)) = G at *
   generalize St.goodAt s d x.name = gd at *
   obtain ⟨ci, hci⟩ : ∃ ci, St.copyAt s d x.name = ci := ⟨_, rfl⟩
   rw [hci] at HCK gp1 gp2
   clear hx hB hX3 hz3 hB3 hW3 hown hft hci
   have hv : Below W3.heap.size W3 W3 := Below.refl _ _
   obtain ⟨e0, e1, e2, e3⟩ := HX.out _ hv
   obtain ⟨n0, n1, n2, n3, n4, n5, n6⟩ := HCL.out _ HAW.out
   rw [ha] at HCK HCL n2 ⊢
   go_upto_region 5 with fail
   rw [HW3.out]
   clear c0 c1 c2 c3
   by_cases hneg : ci < 0
   ·have hgf := gp1 hneg
    subst hgf
    have hge : ¬ (0 ≤ ci) := by omega
    have hgd1 : decide (0 ≤ ci) = false := by simpa using hneg
    go_wp2_with (go_at_call 38; (with_reducible refine (HCK.out _ (below_up HB1.out (below_up HAW.out hv))).mono ?_); rintro e wp ⟨rfl, hq⟩; have hv := below_up hv hq)
    have hownp := own_keepE hown3 hv
    have hBp := below_up HAW.out hv
    rw [← ha]
    go_roundg (nt - (j + 1))
    case rel => exact ⟨j + 1, by omega, rfl, by go_num, by rw [HFT.out, if_neg (by decide), List.append_nil]; exact hownp, hBp⟩
    case measure => omega
   ·obtain ⟨ps, rfl⟩ : ∃ ps : Nat, ci = (ps : Int) := ⟨ci.toNat, by omega⟩
    obtain ⟨c, hc, _, hgc⟩ := gp2 ps rfl
    have hpc : ps < nc := by have := (List.getElem?_eq_some_iff.1 hc).1; rw [HNC.out] at this; exact this
    have hps0 : (0 : Int) ≤ (ps : Int) := by omega
    have hps1 : (ps : Int) < (nc : Int) := by omega
    have HC := Lib.hid hc
    clear gp1 gp2 hneg
    go_upto_region 6 with (go_at_call 38; (with_reducible refine (HCK.out _ (below_up HB1.out (below_up HAW.out hv))).mono ?_); rintro e wp ⟨rfl, hq⟩; have hv := below_up hv hq)
    obtain ⟨n0, n1, n2, n3, n4, n5, n6⟩ := HCL.out _ (below_up HAW.out hv)
    obtain ⟨e0, e1, e2, e3⟩ := HX.out _ hv
    obtain ⟨b2, o2, ha2, hb2, hcell2⟩ := (HI.out.keep (below_up HB1.out (below_up HAW.out hv))).co (by rw [HNC.out]; omega)
    have f0 : wp.cell? ⟨b2, o2 + ps * 4 + 2, none⟩ = some (.bool c.good) := hcell2 ps c HC.out 2 (.bool c.good) rfl
    clear hcell2 hc
    rw [ha2] at n4 ⊢
    have hownp := own_keepE hown3 hv
    have hBp := below_up HAW.out hv
    have hvs := hv.size
    rw [← hgc] at f0
    clear hgc
    cases gd
    ·go_wp2_with fail
     rw [← ha, ← ha2]
     go_roundg (nt - (j + 1))
     case rel => exact ⟨j + 1, by omega, rfl, by go_num, by rw [HFT.out, if_neg (by decide), List.append_nil]; exact hownp, hBp⟩
     case measure => omega
    ·obtain ⟨FL, hFL⟩ : ∃ FL, St.eT.flat G = FL := ⟨_, rfl⟩
     obtain ⟨m, hm⟩ : ∃ m, G.length = m := ⟨_, rfl⟩
     have HFL : Hid (St.eT.flat (G ++ [x]) = FL ++ [.string x.name, .int .i64 x.room, .int .i64 x.cost, .bool x.away]) := Lib.hid (by rw [Enc.flat_snoc, hFL]; rfl)
     have HM : Hid ((G ++ [x]).length = m + 1) := Lib.hid (by rw [List.length_append, hm]; rfl)
     rw [hFL, hm] at hownp
     rw [hm] at hfl
     clear hFL hm hown3
     go_wp2_with (at_builtin; refine list_appT rfl _ _ rfl _ _ m FL (by rfl) (by rfl) hownp (by omega) (by omega) (by rfl) (by simp [Value.oneCell']) ?_; intro g8 cap8 w8 hown8 hgrow8; have hB8 := below_grownE (below_allocs hBp _) (hownp.alloc _) hgrow8 (by simp; omega))
     rw [← ha, ← ha2]
     go_roundg (nt - (j + 1))
     case rel => exact ⟨j + 1, by omega, rfl, by go_num, by rw [HFT.out, if_pos (by first | rfl | trivial), HFL.out, HM.out]; exact hown8, hB8⟩
     case measure => omega
  ·obtain rfl : nt = j := by omega
   rw [← HNT.out, List.take_length, ← HGL.out] at hown
   have HO := Lib.hid ((OwnV.of_own hown).down (show w.heap.size ≤ W1.heap.size by omega))
   obtain ⟨g, cap, rfl⟩ := ownV_slice (OwnV.of_own hown)
   clear hown
   go_wp2_with fail
   go_ret
   exact ⟨g, cap, rfl, HO.out, below_up HB1.out hB⟩
theorem source_none (s : Sto) (a : StA) (d : ByteArray) (w : World) (hI : StIn w s a) (y1 : s.tiers.length ≤ 8) (y3 : s.copies.length ≤ 4000) (h0 : (St.goodL s d).length = 0) :
  Calls Tryd.prog 36 #[.agg #[.int .i64 s.least, .int .i64 s.wait, .slice a.ta s.tiers.length a.tc, .slice a.fa s.files.length a.fc, .slice a.ca s.copies.length a.cc, .slice a.ha s.held.length a.hc, .slice a.ba s.bin.length a.bc], .string d] w fun e w' => e = .returned (.tuple #[.string ⟨#[]⟩, .bool false]) ∧ Below w.heap.size w w' := by
 obtain ⟨W1, hW1, hP, hz1, hB1⟩ := box w #[.int .i64 s.least, .int .i64 s.wait, .slice a.ta s.tiers.length a.tc, .slice a.fa s.files.length a.fc, .slice a.ca s.copies.length a.cc, .slice a.ha s.held.length a.hc, .slice a.ba s.bin.length a.bc] 28
 have HW1 := Lib.hid hW1
 have HI1 := Lib.hid (hI.keep hB1)
 have q0 : W1.cell? ⟨w.heap.size, 0, none⟩ = some (.int .i64 s.least) := (hP.cell 0).trans rfl
 have q1 : W1.cell? ⟨w.heap.size, 1, none⟩ = some (.int .i64 s.wait) := (hP.cell 1).trans rfl
 have q2 : W1.cell? ⟨w.heap.size, 2, none⟩ = some (.slice a.ta s.tiers.length a.tc) := (hP.cell 2).trans rfl
 have q3 : W1.cell? ⟨w.heap.size, 3, none⟩ = some (.slice a.fa s.files.length a.fc) := (hP.cell 3).trans rfl
 have q4 : W1.cell? ⟨w.heap.size, 4, none⟩ = some (.slice a.ca s.copies.length a.cc) := (hP.cell 4).trans rfl
 have q5 : W1.cell? ⟨w.heap.size, 5, none⟩ = some (.slice a.ha s.held.length a.hc) := (hP.cell 5).trans rfl
 have q6 : W1.cell? ⟨w.heap.size, 6, none⟩ = some (.slice a.ba s.bin.length a.bc) := (hP.cell 6).trans rfl
 have HP := Lib.hid hP; have HB1 := Lib.hid hB1
 clear hW1 hP
 have HG := Lib.hid (goodOf_is s a d W1 HI1.out y1 y3)
 unfold TirPost at HG
 rw [h0] at HG
 clear hI hz1 h0
 go_enter Tryd.func36, Tryd.ntmps36
 go_wp2_with fail
 rw [HW1.out]
 go_wp2_with (go_at_call 39; (with_reducible refine HG.out.mono ?_); rintro e w4 ⟨g, cap, rfl, ho, hB4⟩)
 go_ret2
 exact ⟨rfl, below_up HB1.out hB4⟩
theorem source_some (s : Sto) (a : StA) (d : ByteArray) (w : World) (hI : StIn w s a) (y1 : s.tiers.length ≤ 8) (y3 : s.copies.length ≤ 4000) (h0 : 0 < (St.goodL s d).length) :
  Calls Tryd.prog 36 #[.agg #[.int .i64 s.least, .int .i64 s.wait, .slice a.ta s.tiers.length a.tc, .slice a.fa s.files.length a.fc, .slice a.ca s.copies.length a.cc, .slice a.ha s.held.length a.hc, .slice a.ba s.bin.length a.bc], .string d] w fun e w' => e = .returned (.tuple #[.string (St.cheap (St.goodL s d)).name, .bool true]) ∧ Below w.heap.size w w' := by
 obtain ⟨W1, hW1, hP, hz1, hB1⟩ := box w #[.int .i64 s.least, .int .i64 s.wait, .slice a.ta s.tiers.length a.tc, .slice a.fa s.files.length a.fc, .slice a.ca s.copies.length a.cc, .slice a.ha s.held.length a.hc, .slice a.ba s.bin.length a.bc] 28
 have HW1 := Lib.hid hW1
 have HI1 := Lib.hid (hI.keep hB1)
 have q0 : W1.cell? ⟨w.heap.size, 0, none⟩ = some (.int .i64 s.least) := (hP.cell 0).trans rfl
 have q1 : W1.cell? ⟨w.heap.size, 1, none⟩ = some (.int .i64 s.wait) := (hP.cell 1).trans rfl
 have q2 : W1.cell? ⟨w.heap.size, 2, none⟩ = some (.slice a.ta s.tiers.length a.tc) := (hP.cell 2).trans rfl
 have q3 : W1.cell? ⟨w.heap.size, 3, none⟩ = some (.slice a.fa s.files.length a.fc) := (hP.cell 3).trans rfl
 have q4 : W1.cell? ⟨w.heap.size, 4, none⟩ = some (.slice a.ca s.copies.length a.cc) := (hP.cell 4).trans rfl
 have q5 : W1.cell? ⟨w.heap.size, 5, none⟩ = some (.slice a.ha s.held.length a.hc) := (hP.cell 5).trans rfl
 have q6 : W1.cell? ⟨w.heap.size, 6, none⟩ = some (.slice a.ba s.bin.length a.bc) := (hP.cell 6).trans rfl
 have HP := Lib.hid hP; have HB1 := Lib.hid hB1
 clear hW1 hP
 have HG := Lib.hid (goodOf_is s a d W1 HI1.out y1 y3)
 unfold TirPost at HG
 have hgl := St.goodL_len s d
 generalize St.goodL s d = L at *
 obtain ⟨t0, ht0⟩ : ∃ t0, L[0]? = some t0 := ⟨_, List.getElem?_eq_getElem h0⟩
 have HCH := Lib.hid (St.cheap_at ht0)
 have HBS : Hid (∀ j x, L[j]? = some x → St.best t0 (L.take (j + 1)) = if x.cost < (St.best t0 (L.take j)).cost then x else St.best t0 (L.take j)) := Lib.hid fun j x h => St.best_snoc h
 have HT0 := Lib.hid ht0
 obtain ⟨n, hn⟩ : ∃ n, L.length = n := ⟨_, rfl⟩
 have HN := Lib.hid hn
 rw [hn] at h0 hgl HG
 have hn0 : (0 : Int) < (n : Int) := by omega
 have hn1 : ((n : Int) == 0) = false := by simp; omega
 clear hI hz1 hn ht0
 go_enter Tryd.func36, Tryd.ntmps36
 go_wp2_with fail
 rw [HW1.out]
 go_upto_region 4 with (go_at_call 39; (with_reducible refine HG.out.mono ?_); rintro e w4 ⟨ad, ca, rfl, ho, hB4⟩)
 have HB4 := Lib.hid (below_up HB1.out hB4)
 have hr : RowE St.eT w4 ad L := RowE.ofV (E := St.eT) (by rw [HN.out]; exact ho)
 have HR := Lib.hid hr
 have hcp := ho.caps
 obtain ⟨b, off, ha, hb, hcell⟩ := hr (by rw [HN.out]; exact h0)
 have c0 : w4.cell? ⟨b, off, none⟩ = some (.string t0.name) := by have := hcell 0 t0 HT0.out 0 (.string t0.name) rfl; simpa using this
 have c1 : w4.cell? ⟨b, off + 1, none⟩ = some (.int .i64 t0.room) := by have := hcell 0 t0 HT0.out 1 (.int .i64 t0.room) rfl; simpa using this
 have c2 : w4.cell? ⟨b, off + 2, none⟩ = some (.int .i64 t0.cost) := by have := hcell 0 t0 HT0.out 2 (.int .i64 t0.cost) rfl; simpa using this
 have c3 : w4.cell? ⟨b, off + 3, none⟩ = some (.bool t0.away) := by have := hcell 0 t0 HT0.out 3 (.bool t0.away) rfl; simpa using this
 obtain ⟨W2, hW2, hQ, hz2, hB2⟩ := box w4 #[.string t0.name, .int .i64 t0.room, .int .i64 t0.cost, .bool t0.away] 53
 have HW2 := Lib.hid hW2; have HQ := Lib.hid hQ; have HB2 := Lib.hid hB2
 clear hr ho hcell hW2 hQ hz2 hB2 hB4 q0 q1 q2 q3 q4 q5 q6
 rw [ha]
 go_wp2_with fail
 rw [HW2.out]
 clear c0 c1 c2 c3
 go_loopg [21] n (fun gk i wr => ∃ j : Nat, j ≤ n ∧ gk = n - j ∧ i = .int .i64 j ∧ Blk wr w4.heap.size #[.string (St.best t0 (L.take j)).name, .int .i64 (St.best t0 (L.take j)).room, .int .i64 (St.best t0 (L.take j)).cost, .bool (St.best t0 (L.take j)).away] 53 ∧ Below w4.heap.size w4 wr)
 case atStart => exact ⟨0, by omega, rfl, rfl, HQ.out, HB2.out⟩
 case round =>
  obtain ⟨j, hj, rfl, rfl, hQ, hB⟩ := hrel
  by_cases hlt : j < n
  ·obtain ⟨x, hx⟩ : ∃ x, L[j]? = some x := ⟨_, List.getElem?_eq_getElem (by rw [HN.out]; exact hlt)⟩
   obtain ⟨b', off', ha', hb', hcell⟩ := HR.out.keep hB (by rw [HN.out]; omega)
   rw [ha] at ha'
   injection ha' with ha'
   injection ha' with e1 e2
   subst e1 e2
   have c0 : wr.cell? ⟨b, off + j * 4, none⟩ = some (.string x.name) := hcell j x hx 0 (.string x.name) rfl
   have c1 : wr.cell? ⟨b, off + j * 4 + 1, none⟩ = some (.int .i64 x.room) := hcell j x hx 1 (.int .i64 x.room) rfl
   have c2 : wr.cell? ⟨b, off + j * 4 + 2, none⟩ = some (.int .i64 x.cost) := hcell j x hx 2 (.int .i64 x.cost) rfl
   have c3 : wr.cell? ⟨b, off + j * 4 + 3, none⟩ = some (.bool x.away) := hcell j x hx 3 (.bool x.away) rfl
   obtain ⟨W3, hW3, hX3, hz3, hB3⟩ := box wr #[.string x.name, .int .i64 x.room, .int .i64 x.cost, .bool x.away] 53
   have HW3 := Lib.hid hW3
   have HQ3 := Lib.hid (hQ.keep hB3); have HB3 := Lib.hid (below_up hB hB3)
   obtain ⟨d0, d1, d2, d3⟩ := hX3.four
   have hbs := HBS.out j x hx
   obtain ⟨z0, z1, z2, z3⟩ := (hQ.keep hB3).four
   generalize St.best t0 (L.take j) = y at *
   have HS := Lib.hid hbs
   have hj0 : (0 : Int) ≤ (j : Int) := by omega
   have hj1 : (j : Int) < (n : Int) := by omega
   clear hx hcell hW3 hX3 hz3 hB3 hB hQ hbs
   go_upto_region 8 with fail
   rw [HW3.out]
   clear c0 c1 c2 c3
   by_cases hc : x.cost < y.cost
   ·have hE := HS.out
    rw [if_pos hc] at hE
    go_wp2_with (refine wpList_store_row rfl 53 _ _ rfl w4.heap.size #[.string x.name, .int .i64 x.room, .int .i64 x.cost, .bool x.away] rfl rfl 53 _ HQ3.out infoTirS rfl (by simp [Value.oneCell']) ?_)
    go_roundg (n - (j + 1))
    case rel => exact ⟨j + 1, by omega, rfl, by go_num, by rw [hE]; exact HQ3.out.setRowAt _, below_setRow HB3.out (Nat.le_refl _) _⟩
    case measure => omega
   ·have hE := HS.out
    rw [if_neg hc] at hE
    go_wp2_with fail
    go_roundg (n - (j + 1))
    case rel => exact ⟨j + 1, by omega, rfl, by go_num, by rw [hE]; exact HQ3.out, HB3.out⟩
    case measure => omega
  ·obtain rfl : n = j := by omega
   rw [← HN.out, List.take_length, ← HCH.out] at hQ
   obtain ⟨z0, z1, z2, z3⟩ := hQ.four
   go_wp2_with fail
   go_ret2
   exact ⟨rfl, below_up HB4.out hB⟩
end Go.Proofs.YthdiccdnggloiaaDoor
