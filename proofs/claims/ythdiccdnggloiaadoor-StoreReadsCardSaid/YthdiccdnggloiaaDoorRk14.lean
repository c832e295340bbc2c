/- Parts of the proof, no condition: StScrR. -/
import Derived.Test.YthdiccdnggloiaaDoorRk13
import Derived.Test.YthdiccdnggloiaaDoorRk4
set_option maxRecDepth 100000
set_option maxHeartbeats 16000000
set_option linter.unusedSimpArgs false
set_option linter.unusedVariables false
namespace Go.Proofs.YthdiccdnggloiaaDoor
open Go.RowKit Go.Sort Go.Shelf Go.Maps
theorem scrubbed_right (s : Sto) (a : StA) (tier : ByteArray) (S : List ByteArray) (sa : Option Addr) (sc : Nat) (w : World) (hI : StIn w s a) (r : St.Right s) (hS : RowE St.eS w sa S) (hsc : S.length ≤ sc ∧ sc ≤ 9223372036854775807) :
  Calls Tryd.prog 10 #[.agg #[.int .i64 s.least, .int .i64 s.wait, .slice a.ta s.tiers.length a.tc, .slice a.fa s.files.length a.fc, .slice a.ca s.copies.length a.cc, .slice a.ha s.held.length a.hc, .slice a.ba s.bin.length a.bc], .string tier, .slice sa S.length sc] w fun e w' => (St.scrE s tier S ≠ 0 ∧ ScrErr w (St.scrE s tier S) e w') ∨ (St.scrE s tier S = 0 ∧ ScrOk w (St.scrS s tier S) (St.scrN s tier S) e w') := by
 obtain ⟨W1, hW1, hP, hz1, hB1⟩ := box w #[.int .i64 s.least, .int .i64 s.wait, .slice a.ta s.tiers.length a.tc, .slice a.fa s.files.length a.fc, .slice a.ca s.copies.length a.cc, .slice a.ha s.held.length a.hc, .slice a.ba s.bin.length a.bc] 28
 obtain ⟨W2, hW2, hQ, hz2, hB2⟩ := box W1 #[.int .i64 0, .int .i64 0, .slice none 0 0, .slice none 0 0, .slice none 0 0, .slice none 0 0, .slice none 0 0] 28
 have HW1 := Lib.hid hW1; have HW2 := Lib.hid hW2
 have hP := hP.keep hB2
 rw [hz1] at hQ
 have HBB := Lib.hid (below_up hB1 hB2)
 have HQ := Lib.hid hQ
 have HI2 := Lib.hid (hI.keep HBB.out)
 obtain ⟨q0, q1, q2, q3, q4, q5, q6⟩ := hP.seven
 have HP := Lib.hid hP
 have hs2 : w.heap.size + 2 ≤ W2.heap.size := by omega
 clear hW1 hW2 hP hQ hz1 hz2 hB1 hB2
 obtain ⟨_, y1, y2, y3, y4, y5⟩ := St.sizes_iff.1 r.sizes
 have HCP := Lib.hid (fun V (hv : Below W2.heap.size W2 V) => twin_is s a V (HI2.out.keep hv) ⟨y1, y2, y3, y4, y5⟩)
 unfold CpyPost at HCP
 have HTA := Lib.hid (tierOf_is s a tier W2 HI2.out)
 have HSZ := Lib.hid hI.sz
 have HSE : Hid (∀ V, Below w.heap.size w V → RowE St.eS V sa S) := Lib.hid fun V hV => hS.keep hV
 have HE0 : Hid (St.scrE s tier S = if St.hasTier s.tiers tier = true then (if St.cnt tier s.copies = S.length then 0 else 1) else 7) := Lib.hid rfl
 have HHT := Lib.hid (St.hasTier_idx s.tiers tier)
 clear hI hS
 go_enter Tryd.func10, Tryd.ntmps10
 go_upto_region 1 with fail
 rw [HW1.out, HW2.out]
 obtain ⟨ti, hti⟩ : ∃ ti, St.tierAt s.tiers tier = ti := ⟨_, rfl⟩
 rw [hti] at HTA HHT
 clear hti
 by_cases htn : ti < 0
 ·have HE : Hid (St.scrE s tier S = 7) := Lib.hid (by rw [HE0.out, HHT.out, if_neg (by simp; omega)])
  go_upto_region 2 with (go_at_call 26; (with_reducible refine HTA.out.mono ?_); rintro e w4 ⟨rfl, hB4⟩)
  have hQ4 := HQ.out.keep hB4
  have hB04 := below_up HBB.out hB4
  go_wp2_with (refine wpList_store_row rfl 28 _ _ rfl (w.heap.size + 1) #[.int .i64 0, .int .i64 0, .slice none 0 0, .slice none 0 0, .slice none 0 0, .slice none 0 0, .slice none 0 0] rfl rfl 28 _ hQ4 infoSto rfl (by simp [Value.oneCell']) ?_)
  obtain ⟨g0, g1, g2, g3, g4, g5, g6⟩ := (Blk.setRowAt hQ4 #[.int .i64 0, .int .i64 0, .slice none 0 0, .slice none 0 0, .slice none 0 0, .slice none 0 0, .slice none 0 0]).seven
  refine bodyPost_ret (v := .tuple #[.agg #[.int .i64 0, .int .i64 0, .slice none 0 0, .slice none 0 0, .slice none 0 0, .slice none 0 0, .slice none 0 0], .int .i64 0, .int .i64 7]) (by simp [results, Tryd.results10, go_sem, g0, g1, g2, g3, g4, g5, g6]) rfl ?_
  rw [HE.out]
  exact .inl ⟨by decide, rfl, below_setRow hB04 (by omega) _⟩
 ·have HE1 : Hid (St.scrE s tier S = if St.cnt tier s.copies = S.length then 0 else 1) := Lib.hid (by rw [HE0.out, HHT.out, if_pos (by simp; omega)])
  go_upto_region 4 with (first
   | (go_at_call 26; (with_reducible refine HTA.out.mono ?_); rintro e w4 ⟨rfl, hv4⟩; obtain ⟨q0, q1, q2, q3, q4, q5, q6⟩ := (HP.out.keep hv4).seven)
   | (go_at_call 37; (with_reducible refine (HCP.out _ hv4).mono ?_); rintro e w5 ⟨b, rfl, hOwn, hB5⟩)
   | (refine wpList_store_row rfl 28 _ _ rfl w.heap.size #[.int .i64 s.least, .int .i64 s.wait, .slice b.ta s.tiers.length b.tc, .slice b.fa s.files.length b.fc, .slice b.ca s.copies.length b.cc, .slice b.ha s.held.length b.hc, .slice b.ba s.bin.length b.bc] rfl rfl 28 _ (HP.out.keep (below_up hv4 hB5)) infoSto rfl (by simp [Value.oneCell']) ?_))
  have hv5 := below_up hv4 hB5
  have hlt4 : w.heap.size + 1 < w4.heap.size := by have := hv4.size; omega
  have hPv := Blk.setRowAt (HP.out.keep hv5) #[.int .i64 s.least, .int .i64 s.wait, .slice b.ta s.tiers.length b.tc, .slice b.fa s.files.length b.fc, .slice b.ca s.copies.length b.cc, .slice b.ha s.held.length b.hc, .slice b.ba s.bin.length b.bc]
  have hQv := (HQ.out.keep hv5).setRowOther (b' := w.heap.size) (by omega) #[.int .i64 s.least, .int .i64 s.wait, .slice b.ta s.tiers.length b.tc, .slice b.fa s.files.length b.fc, .slice b.ca s.copies.length b.cc, .slice b.ha s.held.length b.hc, .slice b.ba s.bin.length b.bc]
  have hBv := below_setRow (below_up HBB.out hv5) (Nat.le_refl w.heap.size) #[.int .i64 s.least, .int .i64 s.wait, .slice b.ta s.tiers.length b.tc, .slice b.fa s.files.length b.fc, .slice b.ca s.copies.length b.cc, .slice b.ha s.held.length b.hc, .slice b.ba s.bin.length b.bc]
  have hOv := hOwn.setRow (b := w.heap.size) (by omega) #[.int .i64 s.least, .int .i64 s.wait, .slice b.ta s.tiers.length b.tc, .slice b.fa s.files.length b.fc, .slice b.ca s.copies.length b.cc, .slice b.ha s.held.length b.hc, .slice b.ba s.bin.length b.bc]
  obtain ⟨V, hV⟩ : ∃ V, w5.setRow w.heap.size #[.int .i64 s.least, .int .i64 s.wait, .slice b.ta s.tiers.length b.tc, .slice b.fa s.files.length b.fc, .slice b.ca s.copies.length b.cc, .slice b.ha s.held.length b.hc, .slice b.ba s.bin.length b.bc] = V := ⟨_, rfl⟩
  rw [hV] at hPv hQv hBv hOv ⊢
  clear hV q0 q1 q2 q3 q4 q5 q6 hOwn
  have HPv := Lib.hid hPv; have HQv := Lib.hid hQv; have HBv := Lib.hid hBv; have HOv := Lib.hid hOv
  obtain ⟨q0, q1, q2, q3, q4, q5, q6⟩ := hPv.seven
  clear hPv hQv hBv hOv
  have HN0 : Hid (St.scrN s tier S = St.chg tier S 0 s.copies) := Lib.hid rfl
  have HS0 : Hid (St.scrS s tier S = { s with copies := St.scrL tier S s.copies s.copies.length }) := Lib.hid (by unfold St.scrS; rw [St.scrL_all])
  obtain ⟨nc, hnc⟩ : ∃ nc, s.copies.length = nc := ⟨_, rfl⟩
  have HNC := Lib.hid hnc
  have HCB := Lib.hid (fun j => St.chg_bd tier S (s.copies.take j) 0)
  have HCT := Lib.hid (fun j => St.cnt_take tier s.copies j)
  obtain ⟨ns, hns⟩ : ∃ ns, S.length = ns := ⟨_, rfl⟩
  have HNS := Lib.hid hns
  rw [hns] at hsc HE1 ⊢
  go_wp2_with fail
  clear q0 q1 q2 q3 q4 q5 q6
  go_loopg [9, 10, 24] nc (fun gk vn vc i wr => ∃ j k : Nat, j ≤ nc ∧ gk = nc - j ∧ i = .int .i64 j ∧ vn = .int .i64 k ∧ vc = .int .i64 (St.chg tier S 0 (s.copies.take j)) ∧ k = St.cnt tier (s.copies.take j) ∧ StOwn wr w4.heap.size { s with copies := St.scrL tier S s.copies j } b ∧ Blk wr w.heap.size #[.int .i64 s.least, .int .i64 s.wait, .slice b.ta s.tiers.length b.tc, .slice b.fa s.files.length b.fc, .slice b.ca s.copies.length b.cc, .slice b.ha s.held.length b.hc, .slice b.ba s.bin.length b.bc] 28 ∧ Blk wr (w.heap.size + 1) #[.int .i64 0, .int .i64 0, .slice none 0 0, .slice none 0 0, .slice none 0 0, .slice none 0 0, .slice none 0 0] 28 ∧ Below w.heap.size w wr)
  case atStart => exact ⟨0, 0, by omega, by omega, rfl, rfl, by simp [St.chg], by simp [St.cnt], by rw [St.scrL_zero]; exact HOv.out, HPv.out, HQv.out, HBv.out⟩
  case round =>
   obtain ⟨j, k, hj, rfl, rfl, rfl, rfl, hkc, hO, hP, hQ, hB⟩ := hrel
   have hcb := HCB.out j
   have hct := HCT.out j
   have hcl := St.cnt_le tier (s.copies.take j)
   have hlj : (s.copies.take j).length ≤ 4000 := by rw [List.length_take]; omega
   by_cases hlt : j < nc
   ·obtain ⟨⟨xd, xt, xg, xa⟩, hx⟩ : ∃ x, s.copies[j]? = some x := ⟨_, List.getElem?_eq_getElem (by rw [HNC.out]; exact hlt)⟩
    have hcs := St.chg_succ (tier := tier) (S := S) hx
    have hks := St.cnt_succ (tier := tier) hx
    have hst := St.scrL_stay (tier := tier) (S := S) hx
    have hsu := St.scrL_succ (tier := tier) (S := S) hx
    rw [← hkc] at hcs hks hst hsu hct hcl
    obtain ⟨g, hga, hgB, hgl, hgc, hgset⟩ := hO.copAt (St.scrL_at (tier := tier) (S := S) hx)
    have c0 : wr.cell? ⟨g, j * 4, none⟩ = some (.string xd) := (hgc 0 (by decide)).1
    have c1 : wr.cell? ⟨g, j * 4 + 1, none⟩ = some (.string xt) := (hgc 1 (by decide)).1
    have c2 : wr.cell? ⟨g, j * 4 + 2, none⟩ = some (.bool xg) := (hgc 2 (by decide)).1
    have c3 : wr.cell? ⟨g, j * 4 + 3, none⟩ = some (.int .i64 xa) := (hgc 3 (by decide)).1
    obtain ⟨W3, hW3, hX3, hz3, hB3⟩ := box wr #[.string xd, .string xt, .bool xg, .int .i64 xa] 62
    have HW3 := Lib.hid hW3
    have hO3 := hO.keep hB3
    have hP3 := hP.keep hB3
    have hQ3 := hQ.keep hB3
    have hB03 := below_up hB hB3
    obtain ⟨d0, d1, d2, d3⟩ := hX3.four
    have hj0 : (0 : Int) ≤ (j : Int) := by omega
    have hj1 : (j : Int) < (nc : Int) := by omega
    have hk0 : (0 : Int) ≤ (k : Int) := by omega
    have hk4 : k ≤ 4000 := by omega
    generalize St.chg tier S 0 (s.copies.take j) = cg at *
    obtain ⟨bq, hbq⟩ : ∃ bq, (xt.toList == tier.toList) = bq := ⟨_, rfl⟩
    have hbq2 : St.eq xt tier = bq := hbq
    have HK := Lib.hid hkc
    clear hW3 hX3 hz3 hB3 hB hP hQ hO hgc hgset hkc
    rw [hga]
    go_upto_region 8 with fail
    rw [HW3.out]
    clear c0 c1 c2 c3
    cases bq with
    | false =>
      have hone : St.one tier S k ⟨xd, xt, xg, xa⟩ = ⟨xd, xt, xg, xa⟩ := by unfold St.one; rw [if_neg (by rw [hbq2]; decide)]
      have hon : St.oneN tier S k ⟨xd, xt, xg, xa⟩ = 0 := by unfold St.oneN; rw [if_neg (by rw [hbq2]; decide)]
      have HST := Lib.hid (hst hone)
      rw [hon, Int.add_zero] at hcs
      rw [hbq2, if_neg (by decide), Nat.add_zero] at hks
      have HCS := Lib.hid hcs; have HKS := Lib.hid hks
      clear hcs hks hst hsu hone hon hx
      go_wp2_with fail
      rw [← hga]
      go_roundg (nc - (j + 1))
      case rel => exact ⟨j + 1, k, by omega, rfl, by go_num, rfl, by rw [HCS.out], HKS.out.symm, by rw [HST.out]; exact hO3, hP3, hQ3, hB03⟩
      case measure => omega
    | true =>
      rw [hbq2, if_pos rfl] at hks
      have HKS := Lib.hid hks
      by_cases hkn : k < ns
      ·obtain ⟨y, hy⟩ : ∃ y, S[k]? = some y := ⟨_, List.getElem?_eq_getElem (by rw [HNS.out]; exact hkn)⟩
       obtain ⟨b2, o2, ha2, hb2, hc2⟩ := HSE.out W3 hB03 (by rw [HNS.out]; omega)
       have e0 : W3.cell? ⟨b2, o2 + k, none⟩ = some (.string y) := by have := hc2 k y hy 0 (.string y) rfl; rw [show o2 + k * St.eS.k + 0 = o2 + k by simp [St.eS]] at this; exact this
       obtain ⟨gd, hgd⟩ : ∃ gd, (y.toList == xd.toList) = gd := ⟨_, rfl⟩
       have hgd2 : St.eq y xd = gd := hgd
       have hone : St.one tier S k ⟨xd, xt, xg, xa⟩ = ⟨xd, xt, gd, xa⟩ := by unfold St.one; rw [if_pos hbq2, hy]; show (⟨xd, xt, St.eq y xd, xa⟩ : Cop) = _; rw [hgd2]
       have hon : St.oneN tier S k ⟨xd, xt, xg, xa⟩ = if (gd != xg) = true then 1 else 0 := by unfold St.oneN; rw [if_pos hbq2, hy]; show (if (St.eq y xd != xg) = true then (1 : Int) else 0) = _; rw [hgd2]
       obtain ⟨g', hga', _, _, hgc', hgset'⟩ := hO3.copAt (St.scrL_at (tier := tier) (S := S) hx)
       rw [hga] at hga'
       injection hga' with e1
       injection e1 with e1
       subst e1
       have hset := hgset' ⟨xd, xt, gd, xa⟩ 2 (.bool gd) (by decide) rfl
       have f2 : W3.cell? ⟨g, j * 4 + 2, none⟩ = some (.bool xg) := (hgc' 2 (by decide)).1
       have ff := (hgc' 2 (by decide)).2
       obtain ⟨q0, q1, q2, q3, q4, q5, q6⟩ := hP3.seven
       rw [hga] at q4
       rw [hone] at hsu
       have hk1 : (k : Int) < (ns : Int) := by omega
       have HSU := Lib.hid hsu
       have HSET := Lib.hid hset
       rw [ha2]
       clear hgc' hgset' hc2 hset hsu hks hone
       cases gd <;> cases xg
       ·-- false: what is found; false: what was
        have hon1 := hon
        rw [if_neg (by decide)] at hon1
        rw [hon1] at hcs
        have HCS := Lib.hid hcs
        clear hcs hst hx hon hon1
        go_upto_region 10 with fail
        go_region
        go_upto_region 14 with fail
        have hOZ := HSET.out.keep (Below.refl _ _).drew
        rw [← HSU.out] at hOZ
        have hgw2 : ¬ w.heap.size = g := by omega
        have hgr : ¬ w.heap.size + 1 = g := by omega
        have hPZ := (hP3.setOther (a := ⟨g, j * 4 + 2, none⟩) hgw2 (.bool false)).drew
        have hQZ := (hQ3.setOther (a := ⟨g, j * 4 + 2, none⟩) hgr (.bool false)).drew
        have hBZ := (hB03.setCell (p := ⟨g, j * 4 + 2, none⟩) (show w.heap.size ≤ g by omega) (.bool false)).drew
        obtain ⟨Z, hZ⟩ : ∃ Z, (W3.setCell ⟨g, j * 4 + 2, none⟩ (.bool false)).drew = Z := ⟨_, rfl⟩
        rw [hZ] at hOZ hPZ hQZ hBZ ⊢
        clear hZ
        go_wp2_with fail
        rw [← hga]
        try rw [← ha2]
        go_roundg (nc - (j + 1))
        case rel => exact ⟨j + 1, k + 1, by omega, rfl, by go_num, by go_num, (by rw [HCS.out]; try rw [Int.add_zero]), HKS.out.symm, hOZ, hPZ, hQZ, hBZ⟩
        case measure => omega
       ·-- false: what is found; true: what was
        have hon1 := hon
        rw [if_pos (by decide)] at hon1
        rw [hon1] at hcs
        have HCS := Lib.hid hcs
        clear hcs hst hx hon hon1
        go_upto_region 10 with fail
        go_region
        go_upto_region 14 with fail
        have hOZ := HSET.out.keep (Below.refl _ _).drew
        rw [← HSU.out] at hOZ
        have hgw2 : ¬ w.heap.size = g := by omega
        have hgr : ¬ w.heap.size + 1 = g := by omega
        have hPZ := (hP3.setOther (a := ⟨g, j * 4 + 2, none⟩) hgw2 (.bool false)).drew
        have hQZ := (hQ3.setOther (a := ⟨g, j * 4 + 2, none⟩) hgr (.bool false)).drew
        have hBZ := (hB03.setCell (p := ⟨g, j * 4 + 2, none⟩) (show w.heap.size ≤ g by omega) (.bool false)).drew
        obtain ⟨Z, hZ⟩ : ∃ Z, (W3.setCell ⟨g, j * 4 + 2, none⟩ (.bool false)).drew = Z := ⟨_, rfl⟩
        rw [hZ] at hOZ hPZ hQZ hBZ ⊢
        clear hZ
        go_wp2_with fail
        rw [← hga]
        try rw [← ha2]
        go_roundg (nc - (j + 1))
        case rel => exact ⟨j + 1, k + 1, by omega, rfl, by go_num, by go_num, (by rw [HCS.out]; try rw [Int.add_zero]), HKS.out.symm, hOZ, hPZ, hQZ, hBZ⟩
        case measure => omega
       ·-- true: what is found; false: what was
        have hon1 := hon
        rw [if_pos (by decide)] at hon1
        rw [hon1] at hcs
        have HCS := Lib.hid hcs
        clear hcs hst hx hon hon1
        go_upto_region 10 with fail
        go_region
        go_upto_region 14 with fail
        have hOZ := HSET.out.keep (Below.refl _ _).drew
        rw [← HSU.out] at hOZ
        have hgw2 : ¬ w.heap.size = g := by omega
        have hgr : ¬ w.heap.size + 1 = g := by omega
        have hPZ := (hP3.setOther (a := ⟨g, j * 4 + 2, none⟩) hgw2 (.bool true)).drew
        have hQZ := (hQ3.setOther (a := ⟨g, j * 4 + 2, none⟩) hgr (.bool true)).drew
        have hBZ := (hB03.setCell (p := ⟨g, j * 4 + 2, none⟩) (show w.heap.size ≤ g by omega) (.bool true)).drew
        obtain ⟨Z, hZ⟩ : ∃ Z, (W3.setCell ⟨g, j * 4 + 2, none⟩ (.bool true)).drew = Z := ⟨_, rfl⟩
        rw [hZ] at hOZ hPZ hQZ hBZ ⊢
        clear hZ
        go_wp2_with fail
        rw [← hga]
        try rw [← ha2]
        go_roundg (nc - (j + 1))
        case rel => exact ⟨j + 1, k + 1, by omega, rfl, by go_num, by go_num, (by rw [HCS.out]; try rw [Int.add_zero]), HKS.out.symm, hOZ, hPZ, hQZ, hBZ⟩
        case measure => omega
       ·-- true: what is found; true: what was
        have hon1 := hon
        rw [if_neg (by decide)] at hon1
        rw [hon1] at hcs
        have HCS := Lib.hid hcs
        clear hcs hst hx hon hon1
        go_upto_region 10 with fail
        go_region
        go_upto_region 14 with fail
        have hOZ := HSET.out.keep (Below.refl _ _).drew
        rw [← HSU.out] at hOZ
        have hgw2 : ¬ w.heap.size = g := by omega
        have hgr : ¬ w.heap.size + 1 = g := by omega
        have hPZ := (hP3.setOther (a := ⟨g, j * 4 + 2, none⟩) hgw2 (.bool true)).drew
        have hQZ := (hQ3.setOther (a := ⟨g, j * 4 + 2, none⟩) hgr (.bool true)).drew
        have hBZ := (hB03.setCell (p := ⟨g, j * 4 + 2, none⟩) (show w.heap.size ≤ g by omega) (.bool true)).drew
        obtain ⟨Z, hZ⟩ : ∃ Z, (W3.setCell ⟨g, j * 4 + 2, none⟩ (.bool true)).drew = Z := ⟨_, rfl⟩
        rw [hZ] at hOZ hPZ hQZ hBZ ⊢
        clear hZ
        go_wp2_with fail
        rw [← hga]
        try rw [← ha2]
        go_roundg (nc - (j + 1))
        case rel => exact ⟨j + 1, k + 1, by omega, rfl, by go_num, by go_num, (by rw [HCS.out]; try rw [Int.add_zero]), HKS.out.symm, hOZ, hPZ, hQZ, hBZ⟩
        case measure => omega
      ·have hn0 : S[k]? = none := List.getElem?_eq_none (by rw [HNS.out]; omega)
       have hone : St.one tier S k ⟨xd, xt, xg, xa⟩ = ⟨xd, xt, xg, xa⟩ := by unfold St.one; rw [if_pos hbq2, hn0]
       have hon : St.oneN tier S k ⟨xd, xt, xg, xa⟩ = 0 := by unfold St.oneN; rw [if_pos hbq2, hn0]
       have HST := Lib.hid (hst hone)
       rw [hon, Int.add_zero] at hcs
       have HCS := Lib.hid hcs
       have hk1 : ¬ ((k : Int) < (ns : Int)) := by omega
       clear hcs hks hst hsu hone hon hx
       have hOZ := hO3
       rw [← HST.out] at hOZ
       have hPZ := hP3; have hQZ := hQ3; have hBZ := hB03
       go_wp2_with fail
       rw [← hga]
       try rw [← ha2]
       go_roundg (nc - (j + 1))
       case rel => exact ⟨j + 1, k + 1, by omega, rfl, by go_num, by go_num, (by rw [HCS.out]; try rw [Int.add_zero]), HKS.out.symm, hOZ, hPZ, hQZ, hBZ⟩
       case measure => omega
   ·obtain rfl : nc = j := by omega
    clear hnc
    have hnc2 := HNC.out
    subst hnc2
    rw [List.take_length] at hkc hcb hcl
    rw [List.take_length, ← HN0.out]
    rw [← HS0.out] at hO
    obtain ⟨q0, q1, q2, q3, q4, q5, q6⟩ := hP.seven
    by_cases hkn : k = ns
    ·subst hkn
     have HE : Hid (St.scrE s tier S = 0) := Lib.hid (by rw [HE1.out, if_pos (by omega)])
     have HO := Lib.hid hO
     clear hO hP
     go_wp2_with (refine wpList_store_row rfl 28 _ _ rfl (w.heap.size + 1) #[.int .i64 s.least, .int .i64 s.wait, .slice b.ta s.tiers.length b.tc, .slice b.fa s.files.length b.fc, .slice b.ca s.copies.length b.cc, .slice b.ha s.held.length b.hc, .slice b.ba s.bin.length b.bc] rfl rfl 28 _ hQ infoSto rfl (by simp [Value.oneCell']) ?_)
     obtain ⟨g0, g1, g2, g3, g4, g5, g6⟩ := (Blk.setRowAt hQ #[.int .i64 s.least, .int .i64 s.wait, .slice b.ta s.tiers.length b.tc, .slice b.fa s.files.length b.fc, .slice b.ca s.copies.length b.cc, .slice b.ha s.held.length b.hc, .slice b.ba s.bin.length b.bc]).seven
     refine bodyPost_ret (v := .tuple #[.agg #[.int .i64 s.least, .int .i64 s.wait, .slice b.ta s.tiers.length b.tc, .slice b.fa s.files.length b.fc, .slice b.ca s.copies.length b.cc, .slice b.ha s.held.length b.hc, .slice b.ba s.bin.length b.bc], .int .i64 (St.scrN s tier S), .int .i64 0]) (by simp [results, Tryd.results10, go_sem, g0, g1, g2, g3, g4, g5, g6]) rfl ?_
     rw [HE.out]
     refine .inr ⟨rfl, b, ?_, (HO.out.setRow (b := w.heap.size + 1) (by omega) _).in_ (by rw [HS0.out]; exact HSZ.out.scr tier S _), below_setRow hB (by omega) _⟩
     show Ending.returned (.tuple #[.agg #[.int .i64 s.least, .int .i64 s.wait, .slice b.ta s.tiers.length b.tc, .slice b.fa s.files.length b.fc, .slice b.ca s.copies.length b.cc, .slice b.ha s.held.length b.hc, .slice b.ba s.bin.length b.bc], _, _]) = Ending.returned (.tuple #[.agg #[.int .i64 s.least, .int .i64 s.wait, .slice b.ta s.tiers.length b.tc, .slice b.fa s.files.length b.fc, .slice b.ca (St.scr tier S 0 s.copies).length b.cc, .slice b.ha s.held.length b.hc, .slice b.ba s.bin.length b.bc], _, _])
     rw [St.scr_len]
    ·have HE : Hid (St.scrE s tier S = 1) := Lib.hid (by rw [HE1.out, if_neg (by omega)])
     have hk1 : ((k : Int) != (ns : Int)) = true := by simp; omega
     clear hO hP q0 q1 q2 q3 q4 q5 q6
     go_upto_region 17 with fail
     go_wp2_with (refine wpList_store_row rfl 28 _ _ rfl (w.heap.size + 1) #[.int .i64 0, .int .i64 0, .slice none 0 0, .slice none 0 0, .slice none 0 0, .slice none 0 0, .slice none 0 0] rfl rfl 28 _ hQ infoSto rfl (by simp [Value.oneCell']) ?_)
     obtain ⟨g0, g1, g2, g3, g4, g5, g6⟩ := (Blk.setRowAt hQ #[.int .i64 0, .int .i64 0, .slice none 0 0, .slice none 0 0, .slice none 0 0, .slice none 0 0, .slice none 0 0]).seven
     refine bodyPost_ret (v := .tuple #[.agg #[.int .i64 0, .int .i64 0, .slice none 0 0, .slice none 0 0, .slice none 0 0, .slice none 0 0, .slice none 0 0], .int .i64 0, .int .i64 1]) (by simp [results, Tryd.results10, go_sem, g0, g1, g2, g3, g4, g5, g6]) rfl ?_
     rw [HE.out]
     exact .inl ⟨by decide, rfl, below_setRow hB (by omega) _⟩
end Go.Proofs.YthdiccdnggloiaaDoor
