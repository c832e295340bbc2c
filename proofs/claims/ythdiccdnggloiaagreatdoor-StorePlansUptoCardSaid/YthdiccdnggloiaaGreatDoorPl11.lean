/- Parts of the proof, no condition: StWthC, StRefG, StWcR, StRef4, HexMath, StHx, StDgM, StBin, StFet, StSrc, StFetR. -/
import Derived.Test.YthdiccdnggloiaaGreatDoorPl7
import Derived.Test.YthdiccdnggloiaaGreatDoorPl5
import Derived.Deep.RegionHeld3
import Derived.Test.YthdiccdnggloiaaGreatDoorPl4
import Derived.Test.YthdiccdnggloiaaGreatDoorPl10
import Derived.Test.YthdiccdnggloiaaGreatDoorPl9
import Derived.Test.YthdiccdnggloiaaGreatDoorPl3
import Derived.Lib.QuietBelow
import Derived.Test.YthdiccdnggloiaaGreatDoorPl1
import Derived.Lib.LaidTab
import Derived.LaidMore
import Derived.Stop.LaidErr
import Derived.Laws.Bits64b
import Derived.Lib.TrailingZeros
import Derived.Lib.SmallJoins
set_option maxRecDepth 100000
set_option maxHeartbeats 16000000
set_option linter.unusedSimpArgs false
set_option linter.unusedVariables false
namespace Go.Proofs.YthdiccdnggloiaaGreatDoor
open Go.RowKit Go.Sort Go.Shelf Go.Maps
theorem flat_insC (L : List Cop) (x : Cop) (p : Nat) : (St.eC.flat L).take (p * 4) ++ [.string x.dig, .string x.tier, .bool x.good, .int .i64 x.asked] ++ (St.eC.flat L).drop (p * 4) = St.eC.flat (L.take p ++ x :: L.drop p) := by
 have h1 := Enc.flat_take St.eC L p
 have h2 := Enc.flat_drop St.eC L p
 have h3 : St.eC.k = 4 := rfl
 rw [h3] at h1 h2
 rw [h1, h2, Enc.flat_append, Enc.flat_cons, List.append_assoc]; rfl
theorem flat_putC (L : List Cop) (x : Cop) (p : Nat) (hp : p < L.length) : St.eC.flat (L.set p x) = (((((St.eC.flat L).set (p * 4) (.string x.dig)).set (p * 4 + 1) (.string x.tier)).set (p * 4 + 2) (.bool x.good)).set (p * 4 + 3) (.int .i64 x.asked)) := by
 have h0 : L[p]? = some (L[p]'hp) := List.getElem?_eq_getElem _
 generalize (L[p]'hp) = y at h0
 have e0 : St.eC.flat ((L).set p (⟨x.dig, y.tier, y.good, y.asked⟩ : Cop)) = (St.eC.flat (L)).set (p * 4 + 0) (.string x.dig) := Enc.flat_set1 St.eC (.string x.dig) 0 (by decide) y (⟨x.dig, y.tier, y.good, y.asked⟩ : Cop) rfl _ p h0
 have e1 : St.eC.flat (((L).set p (⟨x.dig, y.tier, y.good, y.asked⟩ : Cop)).set p (⟨x.dig, x.tier, y.good, y.asked⟩ : Cop)) = (St.eC.flat ((L).set p (⟨x.dig, y.tier, y.good, y.asked⟩ : Cop))).set (p * 4 + 1) (.string x.tier) := Enc.flat_set1 St.eC (.string x.tier) 1 (by decide) (⟨x.dig, y.tier, y.good, y.asked⟩ : Cop) (⟨x.dig, x.tier, y.good, y.asked⟩ : Cop) rfl _ p (by rw [List.getElem?_set_self (by simpa using hp)])
 have e2 : St.eC.flat ((((L).set p (⟨x.dig, y.tier, y.good, y.asked⟩ : Cop)).set p (⟨x.dig, x.tier, y.good, y.asked⟩ : Cop)).set p (⟨x.dig, x.tier, x.good, y.asked⟩ : Cop)) = (St.eC.flat (((L).set p (⟨x.dig, y.tier, y.good, y.asked⟩ : Cop)).set p (⟨x.dig, x.tier, y.good, y.asked⟩ : Cop))).set (p * 4 + 2) (.bool x.good) := Enc.flat_set1 St.eC (.bool x.good) 2 (by decide) (⟨x.dig, x.tier, y.good, y.asked⟩ : Cop) (⟨x.dig, x.tier, x.good, y.asked⟩ : Cop) rfl _ p (by rw [List.getElem?_set_self (by simpa using hp)])
 have e3 : St.eC.flat (((((L).set p (⟨x.dig, y.tier, y.good, y.asked⟩ : Cop)).set p (⟨x.dig, x.tier, y.good, y.asked⟩ : Cop)).set p (⟨x.dig, x.tier, x.good, y.asked⟩ : Cop)).set p x) = (St.eC.flat ((((L).set p (⟨x.dig, y.tier, y.good, y.asked⟩ : Cop)).set p (⟨x.dig, x.tier, y.good, y.asked⟩ : Cop)).set p (⟨x.dig, x.tier, x.good, y.asked⟩ : Cop))).set (p * 4 + 3) (.int .i64 x.asked) := Enc.flat_set1 St.eC (.int .i64 x.asked) 3 (by decide) (⟨x.dig, x.tier, x.good, y.asked⟩ : Cop) x rfl _ p (by rw [List.getElem?_set_self (by simpa using hp)])
 simp only [List.set_set] at e0 e1 e2 e3
 rw [e3, e2, e1, e0]; rfl
theorem withC_is (L : List Cop) (hu : St.Up St.ckey L) (hz : ∀ x ∈ L, x.dig.size ≤ 100 ∧ x.tier.size ≤ 100) (h1m : L.length ≤ 900000) (x : Cop) (hzx : x.dig.size ≤ 100 ∧ x.tier.size ≤ 100) (a : Option Addr) (ca : Nat) (w : World) (hl : L.length ≤ ca ∧ ca ≤ 9223372036854775807) (hr : RowE St.eC w a L) :
  Calls Tryz.prog 57 #[.agg #[.func (.func 144) #[] #[], .slice a L.length ca], .agg #[.string x.dig, .string x.tier, .bool x.good, .int .i64 x.asked]] w (ClnPost St.eC 74 w (St.wth St.ckey x L)) := by
 obtain ⟨W1, hW1, hP, hz1, hB1⟩ := box w #[.func (.func 144) #[] #[], .slice a L.length ca] 97
 obtain ⟨W2, hW2, hX, hz2, hB2⟩ := box W1 #[.string x.dig, .string x.tier, .bool x.good, .int .i64 x.asked] 74
 rw [hz1] at hX
 have hP := hP.keep hB2
 have HW1 := Lib.hid hW1; have HW2 := Lib.hid hW2; have HBB := Lib.hid (below_up hB1 hB2); have HZS : Hid (w.heap.size ≤ W2.heap.size) := Lib.hid HBB.out.size
 have HCL : Hid (∀ V, Below W2.heap.size W2 V → V.cell? ⟨w.heap.size, 0, none⟩ = some (.func (.func 144) #[] #[]) ∧ V.cell? ⟨w.heap.size, 1, none⟩ = some (.slice a L.length ca) ∧ V.cell? ⟨w.heap.size + 1, 0, none⟩ = some (.string x.dig) ∧ V.cell? ⟨w.heap.size + 1, 1, none⟩ = some (.string x.tier) ∧ V.cell? ⟨w.heap.size + 1, 2, none⟩ = some (.bool x.good) ∧ V.cell? ⟨w.heap.size + 1, 3, none⟩ = some (.int .i64 x.asked)) := Lib.hid fun V hv => ⟨((hP.keep hv).cell 0).trans rfl, ((hP.keep hv).cell 1).trans rfl, ((hX.keep hv).cell 0).trans rfl, ((hX.keep hv).cell 1).trans rfl, ((hX.keep hv).cell 2).trans rfl, ((hX.keep hv).cell 3).trans rfl⟩
 have HK := Lib.hid (fun V => keyKC_is x hzx V)
 have HPL := Lib.hid (fun V (hv : Below W2.heap.size W2 V) => placeC_is L hu hz (by omega) (St.ckey x) a ca V hl ((hr.keep HBB.out).keep hv))
 have HCN := Lib.hid (fun V (hv : Below W2.heap.size W2 V) => clnC_is (L := L) a ca V ((hr.keep HBB.out).keep hv) (by omega))
 unfold ClnPost at HCN
 have HW : Hid (St.wth St.ckey x L = if St.hasK St.ckey L (St.ckey x) = true then L.set (St.pos St.ckey (St.ckey x) L) x else L.take (St.pos St.ckey (St.ckey x) L) ++ x :: L.drop (St.pos St.ckey (St.ckey x) L)) := Lib.hid rfl
 have hpl := St.pos_le St.ckey (St.ckey x) L
 have HPT := Lib.hid (fun h : St.hasK St.ckey L (St.ckey x) = true => St.hasK_at hu h)
 obtain ⟨p, hp⟩ : ∃ p, St.pos St.ckey (St.ckey x) L = p := ⟨_, rfl⟩
 obtain ⟨hb, hhb⟩ : ∃ hb, St.hasK St.ckey L (St.ckey x) = hb := ⟨_, rfl⟩
 rw [hp, hhb] at HPL HW HPT
 rw [hp] at hpl
 obtain ⟨n, hn⟩ : ∃ n, L.length = n := ⟨_, rfl⟩
 have HN := Lib.hid hn
 rw [hn] at hl hpl h1m HCL HPL HCN HW1 ⊢
 have eg := entersKC
 have hmf : ∀ (fn : Fn) (first cap : Array Value) (w : World), (Instr.makeFunc fn first cap).run Tryz.prog w = .ok (.func fn first cap) w := fun _ _ _ _ => rfl
 clear hr hW1 hP hz1 hB1 hu hz hzx hW2 hX hz2 hB2 hp hhb hn
 go_enter Tryz.func57, Tryz.ntmps57
 go_upto_region 1 with fail
 rw [HW1.out, HW2.out]
 have hv : Below W2.heap.size W2 W2.drew := (Below.refl _ _).drew
 obtain ⟨r0, r1, x0, x1, x2, x3⟩ := HCL.out _ hv
 go_region_held3 (fun W => W.cell? ⟨w.heap.size, 0, none⟩ = some (.func (.func 144) #[] #[]) ∧ W.cell? ⟨w.heap.size, 1, none⟩ = some (.slice a n ca) ∧ W.cell? ⟨w.heap.size + 1, 0, none⟩ = some (.string x.dig) ∧ W.cell? ⟨w.heap.size + 1, 1, none⟩ = some (.string x.tier) ∧ W.cell? ⟨w.heap.size + 1, 2, none⟩ = some (.bool x.good) ∧ W.cell? ⟨w.heap.size + 1, 3, none⟩ = some (.int .i64 x.asked))
  (first | (with_reducible exact ⟨r0, r1, x0, x1, x2, x3⟩) | go_keep)
  (first
   | (go_at_fn 144; (with_reducible refine (HK.out _).mono ?_); rintro e wq ⟨rfl, hq⟩; have hv := below_up hv hq; obtain ⟨r0, r1, x0, x1, x2, x3⟩ := HCL.out _ hv)
   | (go_at_call 55; (with_reducible refine (HPL.out _ hv).mono ?_); rintro e wp ⟨rfl, hq⟩; have hv := below_up hv hq; obtain ⟨r0, r1, x0, x1, x2, x3⟩ := HCL.out _ hv)
   | fail)
 have hp0 : (0 : Int) ≤ (p : Int) := by omega
 cases hb
 ·have hW := HW.out
  rw [if_neg (by decide)] at hW
  have HWL : Hid (St.wth St.ckey x L = L.take p ++ x :: L.drop p) := Lib.hid hW
  have HWN : Hid ((L.take p ++ x :: L.drop p).length = n + 1) := Lib.hid (by rw [List.length_append, List.length_cons, List.length_take, List.length_drop, HN.out]; omega)
  clear hW
  go_upto_region 6 with fail
  have hvB := (below_allocs hv (.cells #[.string x.dig, .string x.tier, .bool x.good, .int .i64 x.asked] 74)).drew
  have HNB := Lib.hid (Blk.new wp #[.string x.dig, .string x.tier, .bool x.good, .int .i64 x.asked] 74).drew
  have hsB : (wp.alloc (.cells #[.string x.dig, .string x.tier, .bool x.good, .int .i64 x.asked] 74)).drew.heap.size = wp.heap.size + 1 := by simp
  have hv := hv.drew
  clear r0 r1 x0 x1 x2 x3
  obtain ⟨r0, r1, x0, x1, x2, x3⟩ := HCL.out _ hv
  have hvs := hv.size
  go_region_held3 (fun W => W.cell? ⟨w.heap.size, 0, none⟩ = some (.func (.func 144) #[] #[]) ∧ W.cell? ⟨w.heap.size, 1, none⟩ = some (.slice a n ca) ∧ W.cell? ⟨w.heap.size + 1, 0, none⟩ = some (.string x.dig) ∧ W.cell? ⟨w.heap.size + 1, 1, none⟩ = some (.string x.tier) ∧ W.cell? ⟨w.heap.size + 1, 2, none⟩ = some (.bool x.good) ∧ W.cell? ⟨w.heap.size + 1, 3, none⟩ = some (.int .i64 x.asked))
   (first | (with_reducible exact ⟨r0, r1, x0, x1, x2, x3⟩) | go_keep)
   (first
    | (go_at_call 139; (with_reducible refine (HCN.out _ hv).mono ?_); rintro e w4 ⟨g4, c4, rfl, ho4, hq⟩; have hs4 := hv.size; have HO4 : Hid (OwnV w4 w.heap.size 74 4 (.slice g4 n c4) n (St.eC.flat L)) := Lib.hid (ho4.down (Nat.le_trans HZS.out hs4)); have hv := below_up hv hq; obtain ⟨r0, r1, x0, x1, x2, x3⟩ := HCL.out _ hv; have HV4 := Lib.hid hv; have HINS := Lib.hid (fun V (hb : Below w4.heap.size w4 V) (bv : Nat) (hbv : V.heap[bv]? = some (.cells #[.string x.dig, .string x.tier, .bool x.good, .int .i64 x.asked] 74 (0, 0))) (hge : w4.heap.size ≤ bv) => cp_ins w.heap.size n p (.slice g4 n c4) (St.eC.flat L) [.string x.dig, .string x.tier, .bool x.good, .int .i64 x.asked] V (HO4.out.keep hb) (by have := HZS.out; have := HV4.out.size; have := hb.size; omega) hpl (by omega) (Enc.flat_one St.eC L) bv _ _ hbv (fun e => by have := (HO4.out.lt bv e).2; omega) rfl rfl (by simp [Value.oneCell'])); rw [flat_insC] at HINS; have HO2 : Hid (OwnV w4 W2.heap.size 74 4 (.slice g4 n c4) n (St.eC.flat L)) := Lib.hid (ho4.down hs4); clear ho4 hq)
    | (go_at_call 139; (with_reducible refine (HCN.out _ hvB).mono ?_); rintro e w4 ⟨g4, c4, rfl, ho4, hq⟩; have hs4 := hvB.size; have HO4 : Hid (OwnV w4 w.heap.size 74 4 (.slice g4 n c4) n (St.eC.flat L)) := Lib.hid (ho4.down (Nat.le_trans HZS.out hs4)); have HO2 : Hid (OwnV w4 W2.heap.size 74 4 (.slice g4 n c4) n (St.eC.flat L)) := Lib.hid (ho4.down hs4); have hv := below_up hvB hq; obtain ⟨r0, r1, x0, x1, x2, x3⟩ := HCL.out _ hv; have HV4 := Lib.hid hv; have HINB := Lib.hid (cp_ins w.heap.size n p (.slice g4 n c4) (St.eC.flat L) [.string x.dig, .string x.tier, .bool x.good, .int .i64 x.asked] w4 HO4.out (by have := HZS.out; have := HV4.out.size; omega) hpl (by omega) (Enc.flat_one St.eC L) wp.heap.size _ _ (HNB.out.keep hq) (fun e => by have := (ho4.lt wp.heap.size e).1; omega) rfl rfl (by simp [Value.oneCell'])); rw [flat_insC] at HINB; clear ho4 hq)
    | (go_at_call 148; (with_reducible refine (HINS.out _ (below_allocs (Below.refl _ _) _) _ (heap_alloc_new _ _) (Nat.le_refl _)).mono ?_); rintro e w8 ⟨g8, c8, rfl, hc8, hg8, hn8⟩; have HC8 := Lib.hid hc8; have l1 : n + 1 ≤ c8 := (by obtain ⟨_, _, _, h, _⟩ := HC8.out; exact h); have l2 : c8 ≤ 9223372036854775807 := (by obtain ⟨_, _, _, _, h, _⟩ := HC8.out; exact h); have HF := Lib.hid (below_ownI (below_allocs (below_up HBB.out HV4.out) (.cells #[.string x.dig, .string x.tier, .bool x.good, .int .i64 x.asked] 74)) (HO4.out.keep (below_allocs (Below.refl _ w4) (.cells #[.string x.dig, .string x.tier, .bool x.good, .int .i64 x.asked] 74))) hg8 (by have := HZS.out; have := HV4.out.size; simp; omega)); have hv := below_ownI (below_allocs HV4.out (.cells #[.string x.dig, .string x.tier, .bool x.good, .int .i64 x.asked] 74)) (HO2.out.keep (below_allocs (Below.refl _ w4) (.cells #[.string x.dig, .string x.tier, .bool x.good, .int .i64 x.asked] 74))) hg8 (by have := HV4.out.size; simp; omega); obtain ⟨r0, r1, x0, x1, x2, x3⟩ := HCL.out _ hv; clear hc8 hg8 hn8)
    | (go_at_call 148; (with_reducible refine HINB.out.mono ?_); rintro e w8 ⟨g8, c8, rfl, hc8, hg8, hn8⟩; have HC8 := Lib.hid hc8; have l1 : n + 1 ≤ c8 := (by obtain ⟨_, _, _, h, _⟩ := HC8.out; exact h); have l2 : c8 ≤ 9223372036854775807 := (by obtain ⟨_, _, _, _, h, _⟩ := HC8.out; exact h); have HF := Lib.hid (below_ownI (below_up HBB.out HV4.out) HO4.out hg8 (by have := HZS.out; have := HV4.out.size; omega)); have hv := below_ownI HV4.out HO2.out hg8 HV4.out.size; obtain ⟨r0, r1, x0, x1, x2, x3⟩ := HCL.out _ hv; clear hc8 hg8 hn8)
    | (go_at_call 138; (with_reducible refine (clnC_clip _ _ _ _ l1 l2).mono ?_); rintro e wc ⟨rfl, rfl⟩)
    | fail)
  all_goals (go_wp2_with fail; go_ret; refine ⟨some ⟨g8, 0, none⟩, n + 1, by rw [HWL.out, HWN.out]; rfl, ?_, HF.out⟩; rw [HWL.out, HWN.out]; exact .inr ⟨g8, n + 1, rfl, HC8.out.clip⟩)
 ·obtain ⟨y, hy, _⟩ := HPT.out rfl
  have hpn : p < n := by rw [← HN.out]; exact (List.getElem?_eq_some_iff.1 hy).1
  have hW := HW.out
  rw [if_pos rfl] at hW
  have HWL : Hid (St.wth St.ckey x L = L.set p x) := Lib.hid hW
  have HWN : Hid ((L.set p x).length = n) := Lib.hid (by rw [List.length_set, HN.out])
  have HPU := Lib.hid (flat_putC L x p (by rw [HN.out]; exact hpn))
  clear hW hy
  go_upto_region 4 with (go_at_call 139; (with_reducible refine (HCN.out _ hv).mono ?_); rintro e w4 ⟨g4, c4, rfl, ho4, hq⟩; have hs4 := hv.size; have ho : OwnV w4 w.heap.size 74 4 (.slice g4 n c4) n (St.eC.flat L) := ho4.down (Nat.le_trans HZS.out hs4); have HV4 := Lib.hid (below_up HBB.out (below_up hv hq)); have hv := below_up hv hq; obtain ⟨r0, r1, x0, x1, x2, x3⟩ := HCL.out _ hv; clear ho4 hq)
  rcases ho with ⟨_, h0, _⟩ | ⟨g, cap, h0, hc⟩
  ·omega
  ·cases h0
   have hcg := hc.lt
   obtain ⟨cur0, _, hcc0, _⟩ := id hc
   have hfz0 := frozen_of hcc0 (p * 4)
   have hce0 : ∃ v, (w4).cell? ⟨g, p * 4, none⟩ = some v := by
    have h := hc.cellAt (p * 4) (by omega)
    exact ⟨_, h.trans (List.getElem?_eq_getElem (by first | (rw [St.eC.flat_len, HN.out]; show _ < n * 4; omega) | (simp only [List.length_set]; rw [St.eC.flat_len, HN.out]; show _ < n * 4; omega)))⟩
   obtain ⟨v0, hv0⟩ := hce0
   have hc0 := hc.setCell (p := p * 4) (by omega) (.string x.dig)
   obtain ⟨cur1, _, hcc1, _⟩ := id hc0
   have hfz1 := frozen_of hcc1 (p * 4 + 1)
   have hce1 : ∃ v, ((w4).setCell ⟨g, p * 4, none⟩ (.string x.dig)).cell? ⟨g, p * 4 + 1, none⟩ = some v := by
    have h := hc0.cellAt (p * 4 + 1) (by omega)
    exact ⟨_, h.trans (List.getElem?_eq_getElem (by first | (rw [St.eC.flat_len, HN.out]; show _ < n * 4; omega) | (simp only [List.length_set]; rw [St.eC.flat_len, HN.out]; show _ < n * 4; omega)))⟩
   obtain ⟨v1, hv1⟩ := hce1
   have hc1 := hc0.setCell (p := p * 4 + 1) (by omega) (.string x.tier)
   obtain ⟨cur2, _, hcc2, _⟩ := id hc1
   have hfz2 := frozen_of hcc2 (p * 4 + 2)
   have hce2 : ∃ v, (((w4).setCell ⟨g, p * 4, none⟩ (.string x.dig)).setCell ⟨g, p * 4 + 1, none⟩ (.string x.tier)).cell? ⟨g, p * 4 + 2, none⟩ = some v := by
    have h := hc1.cellAt (p * 4 + 2) (by omega)
    exact ⟨_, h.trans (List.getElem?_eq_getElem (by first | (rw [St.eC.flat_len, HN.out]; show _ < n * 4; omega) | (simp only [List.length_set]; rw [St.eC.flat_len, HN.out]; show _ < n * 4; omega)))⟩
   obtain ⟨v2, hv2⟩ := hce2
   have hc2 := hc1.setCell (p := p * 4 + 2) (by omega) (.bool x.good)
   obtain ⟨cur3, _, hcc3, _⟩ := id hc2
   have hfz3 := frozen_of hcc3 (p * 4 + 3)
   have hce3 : ∃ v, ((((w4).setCell ⟨g, p * 4, none⟩ (.string x.dig)).setCell ⟨g, p * 4 + 1, none⟩ (.string x.tier)).setCell ⟨g, p * 4 + 2, none⟩ (.bool x.good)).cell? ⟨g, p * 4 + 3, none⟩ = some v := by
    have h := hc2.cellAt (p * 4 + 3) (by omega)
    exact ⟨_, h.trans (List.getElem?_eq_getElem (by first | (rw [St.eC.flat_len, HN.out]; show _ < n * 4; omega) | (simp only [List.length_set]; rw [St.eC.flat_len, HN.out]; show _ < n * 4; omega)))⟩
   obtain ⟨v3, hv3⟩ := hce3
   have hc3 := hc2.setCell (p := p * 4 + 3) (by omega) (.int .i64 x.asked)
   rw [← HPU.out] at hc3
   have HCZ := Lib.hid hc3
   obtain ⟨_, _, _, l1, l2, _⟩ := id hc3
   have l2' : c4 ≤ 9223372036854775807 := l2
   have HBZ := Lib.hid ((((((((HV4.out).setCell (p := ⟨g, p * 4, none⟩) (by simpa using hcg.1) (.string x.dig))).setCell (p := ⟨g, p * 4 + 1, none⟩) (by simpa using hcg.1) (.string x.tier))).setCell (p := ⟨g, p * 4 + 2, none⟩) (by simpa using hcg.1) (.bool x.good))).setCell (p := ⟨g, p * 4 + 3, none⟩) (by simpa using hcg.1) (.int .i64 x.asked))
   clear hc hc0 hc1 hc2 hc3
   go_wp2_with (go_at_call 138; (with_reducible refine (clnC_clip _ _ _ _ l1 l2').mono ?_); rintro e wc ⟨rfl, rfl⟩)
   go_ret
   refine ⟨some ⟨g, 0, none⟩, n, by rw [HWL.out, HWN.out]; rfl, ?_, HBZ.out⟩
   rw [HWL.out, HWN.out]
   exact .inr ⟨g, n, rfl, HCZ.out.clip⟩
theorem copyOf_is (s : Sto) (a : StA) (d t : ByteArray) (w : World) (hI : StIn w s a) :
  Calls Tryz.prog 80 #[.agg #[.int .i64 s.least, .int .i64 s.wait, .slice a.ta s.tiers.length a.tc, .slice a.fa s.files.length a.fc, .slice a.ca s.copies.length a.cc, .slice a.ha s.held.length a.hc, .slice a.ba s.bin.length a.bc], .string d, .string t] w fun e w' => e = .returned (.int .i64 (St.copyAt s d t)) ∧ Below w.heap.size w w' := by
 obtain ⟨W1, hW1, hP, hz1, hB1⟩ := box w #[.int .i64 s.least, .int .i64 s.wait, .slice a.ta s.tiers.length a.tc, .slice a.fa s.files.length a.fc, .slice a.ca s.copies.length a.cc, .slice a.ha s.held.length a.hc, .slice a.ba s.bin.length a.bc] 28
 have HW1 := Lib.hid hW1
 have HI1 := Lib.hid (hI.keep hB1)
 obtain ⟨q0, q1, q2, q3, q4, q5, q6⟩ := hP.sv7
 have HP := Lib.hid hP; have HB1 := Lib.hid hB1
 clear hW1 hP
 have hcl := hI.cl
 obtain ⟨q, hq⟩ : ∃ q, St.copyAt s d t = q := ⟨_, rfl⟩
 rw [hq]
 have HQ : Hid (St.idx (St.isCop d t) (s.copies.drop 0) 0 = q) := Lib.hid hq
 clear q0 q1 q2 q3 q5 q6 hI hq
 obtain ⟨n, hn⟩ : ∃ n, s.copies.length = n := ⟨_, rfl⟩
 have HN := Lib.hid hn
 rw [hn] at q4 hcl HW1 ⊢
 clear hn
 go_enter Tryz.func80, Tryz.ntmps80
 go_wp2_with fail
 rw [HW1.out]
 go_wp2_with fail
 go_loopg [12] n (fun gk i wr => ∃ j : Nat, j ≤ n ∧ gk = n - j ∧ i = .int .i64 j ∧ St.idx (St.isCop d t) (s.copies.drop j) j = q ∧ Below w.heap.size w wr ∧ Below W1.heap.size W1 wr)
 case atStart => exact ⟨0, by omega, rfl, rfl, HQ.out, HB1.out, Below.refl _ _⟩
 case round =>
  obtain ⟨j, hj, rfl, rfl, hs, hB, hBW⟩ := hrel
  have HS := Lib.hid hs; clear hs
  by_cases hlt : j < n
  ·obtain ⟨x, hx⟩ : ∃ x, s.copies[j]? = some x := ⟨_, List.getElem?_eq_getElem (by rw [HN.out]; exact hlt)⟩
   obtain ⟨b, off, ha, hb, hcell⟩ := ((HI1.out.keep hBW).co) (by rw [HN.out]; omega)
   have c0 : wr.cell? ⟨b, off + j * 4, none⟩ = some (.string x.dig) := hcell j x hx 0 (.string x.dig) rfl
   have c1 : wr.cell? ⟨b, off + j * 4 + 1, none⟩ = some (.string x.tier) := hcell j x hx 1 (.string x.tier) rfl
   have c2 : wr.cell? ⟨b, off + j * 4 + 2, none⟩ = some (.bool x.good) := hcell j x hx 2 (.bool x.good) rfl
   have c3 : wr.cell? ⟨b, off + j * 4 + 3, none⟩ = some (.int .i64 x.asked) := hcell j x hx 3 (.int .i64 x.asked) rfl
   clear hcell
   have HX := Lib.hid hx
   have HAL := Lib.hid (below_allocs hB (.cells #[.string x.dig, .string x.tier, .bool x.good, .int .i64 x.asked] 74))
   have HAW := Lib.hid (below_allocs hBW (.cells #[.string x.dig, .string x.tier, .bool x.good, .int .i64 x.asked] 74))
   have hj0 : (0 : Int) ≤ (j : Int) := by omega
   have hj1 : (j : Int) < (n : Int) := by omega
   obtain ⟨bq, hbq⟩ : ∃ bq, (x.dig.toList == d.toList) = bq := ⟨_, rfl⟩
   obtain ⟨br, hbr⟩ : ∃ br, (x.tier.toList == t.toList) = br := ⟨_, rfl⟩
   have HIS : Hid (St.isCop d t x = (bq && br)) := Lib.hid (by rw [← hbq, ← hbr]; rfl)
   rw [ha]
   cases bq
   ·have HE := Lib.hid (St.idx_next HS.out HX.out (by rw [HIS.out]; rfl))
    clear hx hB hBW
    go_wp2_with fail
    rw [← ha]
    go_roundg (n - (j + 1))
    case rel => exact ⟨j + 1, by omega, rfl, by go_num, HE.out, HAL.out, HAW.out⟩
    case measure => omega
   ·cases br
    ·have HE := Lib.hid (St.idx_next HS.out HX.out (by rw [HIS.out]; rfl))
     clear hx hB hBW
     go_wp2_with fail
     rw [← ha]
     go_roundg (n - (j + 1))
     case rel => exact ⟨j + 1, by omega, rfl, by go_num, HE.out, HAL.out, HAW.out⟩
     case measure => omega
    ·have HE := Lib.hid (St.idx_here HS.out HX.out (by rw [HIS.out]; rfl))
     clear hx hB hBW
     go_wp2_with fail
     go_ret
     exact ⟨ret_int HE.out, HAL.out⟩
  ·obtain rfl : j = n := by omega
   have HE := HS.out
   rw [← HN.out] at HE
   have HE2 := Lib.hid (St.idx_end HE)
   clear HE
   go_wp2_with fail
   go_ret
   exact ⟨ret_int HE2.out, hB⟩
theorem goodOf_is (s : Sto) (a : StA) (d : ByteArray) (w : World) (hI : StIn w s a) (y1 : s.tiers.length ≤ 8) (y3 : s.copies.length ≤ 4000) :
  Calls Tryz.prog 118 #[.agg #[.int .i64 s.least, .int .i64 s.wait, .slice a.ta s.tiers.length a.tc, .slice a.fa s.files.length a.fc, .slice a.ca s.copies.length a.cc, .slice a.ha s.held.length a.hc, .slice a.ba s.bin.length a.bc], .string d] w (TirPost w (St.goodL s d)) := by
 obtain ⟨W1, hW1, hP, hz1, hB1⟩ := box w #[.int .i64 s.least, .int .i64 s.wait, .slice a.ta s.tiers.length a.tc, .slice a.fa s.files.length a.fc, .slice a.ca s.copies.length a.cc, .slice a.ha s.held.length a.hc, .slice a.ba s.bin.length a.bc] 28
 have HW1 := Lib.hid hW1
 have HI1 := Lib.hid (hI.keep hB1)
 obtain ⟨q0, q1, q2, q3, q4, q5, q6⟩ := hP.sv7
 have HP := Lib.hid hP; have HB1 := Lib.hid hB1
 clear hW1 hP
 have HCO := Lib.hid (fun V (hV : Below w.heap.size w V) t => copyOf_is s a d t V (hI.keep hV))
 have HGI := Lib.hid (fun t => St.good_idx s d t)
 have htl := hI.tl; have hcl := hI.cl
 have HI := Lib.hid hI
 have HCL : Hid (∀ V, Below W1.heap.size W1 V → V.cell? ⟨w.heap.size, 0, none⟩ = some (.int .i64 s.least) ∧ V.cell? ⟨w.heap.size, 1, none⟩ = some (.int .i64 s.wait) ∧ V.cell? ⟨w.heap.size, 2, none⟩ = some (.slice a.ta s.tiers.length a.tc) ∧ V.cell? ⟨w.heap.size, 3, none⟩ = some (.slice a.fa s.files.length a.fc) ∧ V.cell? ⟨w.heap.size, 4, none⟩ = some (.slice a.ca s.copies.length a.cc) ∧ V.cell? ⟨w.heap.size, 5, none⟩ = some (.slice a.ha s.held.length a.hc) ∧ V.cell? ⟨w.heap.size, 6, none⟩ = some (.slice a.ba s.bin.length a.bc)) := Lib.hid fun V hv => (HP.out.keep hv).seven
 have HGL : Hid (St.goodL s d = s.tiers.filter (fun t => St.goodAt s d t.name)) := Lib.hid rfl
 have hlt1 : w.heap.size < W1.heap.size := by omega
 clear hI hz1 q0 q1 q3 q4 q5 q6
 obtain ⟨nt, hnt⟩ : ∃ nt, s.tiers.length = nt := ⟨_, rfl⟩
 obtain ⟨nc, hnc⟩ : ∃ nc, s.copies.length = nc := ⟨_, rfl⟩
 have HNT := Lib.hid hnt; have HNC := Lib.hid hnc
 rw [hnt] at htl y1 HCL q2 HW1 HCO ⊢
 rw [hnc] at hcl y3 HCL HW1 HCO ⊢
 clear hnt hnc
 go_enter Tryz.func118, Tryz.ntmps118
 go_wp2_with fail
 rw [HW1.out]
 go_wp2_with fail
 clear q2
 go_loopg [5, 12] nt (fun gk v i wr => ∃ j : Nat, j ≤ nt ∧ gk = nt - j ∧ i = .int .i64 j ∧ wr.ownsRow W1.heap.size 46 4 v ((s.tiers.take j).filter (fun t => St.goodAt s d t.name)).length (St.eT.flat ((s.tiers.take j).filter (fun t => St.goodAt s d t.name))) ∧ Below W1.heap.size W1 wr)
 case atStart => exact ⟨0, by omega, rfl, rfl, World.ownsRow_nil _ _ _ _, Below.refl _ _⟩
 case round =>
  obtain ⟨j, hj, rfl, rfl, hown, hB⟩ := hrel
  by_cases hlt : j < nt
  ·obtain ⟨x, hx⟩ : ∃ x, s.tiers[j]? = some x := ⟨_, List.getElem?_eq_getElem (by rw [HNT.out]; exact hlt)⟩
   obtain ⟨b, off, ha, hb, hcell⟩ := ((HI.out.keep (below_up HB1.out hB)).ti) (by rw [HNT.out]; omega)
   have c0 : wr.cell? ⟨b, off + j * 4, none⟩ = some (.string x.name) := hcell j x hx 0 (.string x.name) rfl
   have c1 : wr.cell? ⟨b, off + j * 4 + 1, none⟩ = some (.int .i64 x.room) := hcell j x hx 1 (.int .i64 x.room) rfl
   have c2 : wr.cell? ⟨b, off + j * 4 + 2, none⟩ = some (.int .i64 x.cost) := hcell j x hx 2 (.int .i64 x.cost) rfl
   have c3 : wr.cell? ⟨b, off + j * 4 + 3, none⟩ = some (.bool x.away) := hcell j x hx 3 (.bool x.away) rfl
   clear hcell
   have hft := St.filter_take (p := fun t => St.goodAt s d t.name) hx
   have hfl := St.filter_len (p := fun t => St.goodAt s d t.name) (L := s.tiers) j
   rw [HNT.out] at hfl
   obtain ⟨W3, hW3, hX3, hz3, hB3⟩ := box wr #[.string x.name, .int .i64 x.room, .int .i64 x.cost, .bool x.away] 46
   have HW3 := Lib.hid hW3
   have HAW := Lib.hid (below_up hB hB3)
   have hsz1 := hB.size
   have hsz3 := hB3.size
   have hown3 := own_keepE hown hB3
   have HX : Hid (∀ V, Below W3.heap.size W3 V → V.cell? ⟨wr.heap.size, 0, none⟩ = some (.string x.name) ∧ V.cell? ⟨wr.heap.size, 1, none⟩ = some (.int .i64 x.room) ∧ V.cell? ⟨wr.heap.size, 2, none⟩ = some (.int .i64 x.cost) ∧ V.cell? ⟨wr.heap.size, 3, none⟩ = some (.bool x.away)) := Lib.hid fun V hv => (hX3.keep hv).four
   have HCK := Lib.hid (fun V hV => HCO.out V hV x.name)
   obtain ⟨gp1, gp2⟩ := HGI.out x.name
   have hj0 : (0 : Int) ≤ (j : Int) := by omega
   have hj1 : (j : Int) < (nt : Int) := by omega
   have HFT := Lib.hid hft
   generalize ((s.tiers.take j).filter (fun t => St.goodAt s d t.name)) = G at *
   generalize St.goodAt s d x.name = gd at *
   obtain ⟨ci, hci⟩ : ∃ ci, St.copyAt s d x.name = ci := ⟨_, rfl⟩
   rw [hci] at HCK gp1 gp2
   clear hx hB hX3 hz3 hB3 hW3 hown hft hci
   have hv : Below W3.heap.size W3 W3 := Below.refl _ _
   obtain ⟨e0, e1, e2, e3⟩ := HX.out _ hv
   obtain ⟨n0, n1, n2, n3, n4, n5, n6⟩ := HCL.out _ HAW.out
   rw [ha] at HCK HCL n2 ⊢
   go_upto_region 5 with fail
   rw [HW3.out]
   clear c0 c1 c2 c3
   by_cases hneg : ci < 0
   ·have hgf := gp1 hneg
    subst hgf
    have hge : ¬ (0 ≤ ci) := by omega
    have hgd1 : decide (0 ≤ ci) = false := by simpa using hneg
    go_wp2_with (go_at_call 80; (with_reducible refine (HCK.out _ (below_up HB1.out (below_up HAW.out hv))).mono ?_); rintro e wp ⟨rfl, hq⟩; have hv := below_up hv hq)
    have hownp := own_keepE hown3 hv
    have hBp := below_up HAW.out hv
    rw [← ha]
    go_roundg (nt - (j + 1))
    case rel => exact ⟨j + 1, by omega, rfl, by go_num, by rw [HFT.out, if_neg (by decide), List.append_nil]; exact hownp, hBp⟩
    case measure => omega
   ·obtain ⟨ps, rfl⟩ : ∃ ps : Nat, ci = (ps : Int) := ⟨ci.toNat, by omega⟩
    obtain ⟨c, hc, _, hgc⟩ := gp2 ps rfl
    have hpc : ps < nc := by have := (List.getElem?_eq_some_iff.1 hc).1; rw [HNC.out] at this; exact this
    have hps0 : (0 : Int) ≤ (ps : Int) := by omega
    have hps1 : (ps : Int) < (nc : Int) := by omega
    have HC := Lib.hid hc
    clear gp1 gp2 hneg
    go_upto_region 6 with (go_at_call 80; (with_reducible refine (HCK.out _ (below_up HB1.out (below_up HAW.out hv))).mono ?_); rintro e wp ⟨rfl, hq⟩; have hv := below_up hv hq)
    obtain ⟨n0, n1, n2, n3, n4, n5, n6⟩ := HCL.out _ (below_up HAW.out hv)
    obtain ⟨e0, e1, e2, e3⟩ := HX.out _ hv
    obtain ⟨b2, o2, ha2, hb2, hcell2⟩ := (HI.out.keep (below_up HB1.out (below_up HAW.out hv))).co (by rw [HNC.out]; omega)
    have f0 : wp.cell? ⟨b2, o2 + ps * 4 + 2, none⟩ = some (.bool c.good) := hcell2 ps c HC.out 2 (.bool c.good) rfl
    clear hcell2 hc
    rw [ha2] at n4 ⊢
    have hownp := own_keepE hown3 hv
    have hBp := below_up HAW.out hv
    have hvs := hv.size
    rw [← hgc] at f0
    clear hgc
    cases gd
    ·go_wp2_with fail
     rw [← ha, ← ha2]
     go_roundg (nt - (j + 1))
     case rel => exact ⟨j + 1, by omega, rfl, by go_num, by rw [HFT.out, if_neg (by decide), List.append_nil]; exact hownp, hBp⟩
     case measure => omega
    ·obtain ⟨FL, hFL⟩ : ∃ FL, St.eT.flat G = FL := ⟨_, rfl⟩
     obtain ⟨m, hm⟩ : ∃ m, G.length = m := ⟨_, rfl⟩
     have HFL : Hid (St.eT.flat (G ++ [x]) = FL ++ [.string x.name, .int .i64 x.room, .int .i64 x.cost, .bool x.away]) := Lib.hid (by rw [Enc.flat_snoc, hFL]; rfl)
     have HM : Hid ((G ++ [x]).length = m + 1) := Lib.hid (by rw [List.length_append, hm]; rfl)
     rw [hFL, hm] at hownp
     rw [hm] at hfl
     clear hFL hm hown3
     go_wp2_with (at_builtin; refine list_appT rfl _ _ rfl _ _ m FL (by rfl) (by rfl) hownp (by omega) (by omega) (by rfl) (by simp [Value.oneCell']) ?_; intro g8 cap8 w8 hown8 hgrow8; have hB8 := below_grownE (below_allocs hBp _) (hownp.alloc _) hgrow8 (by simp; omega))
     rw [← ha, ← ha2]
     go_roundg (nt - (j + 1))
     case rel => exact ⟨j + 1, by omega, rfl, by go_num, by rw [HFT.out, if_pos (by first | rfl | trivial), HFL.out, HM.out]; exact hown8, hB8⟩
     case measure => omega
  ·obtain rfl : nt = j := by omega
   rw [← HNT.out, List.take_length, ← HGL.out] at hown
   have HO := Lib.hid ((OwnV.of_own hown).down (show w.heap.size ≤ W1.heap.size by omega))
   obtain ⟨g, cap, rfl⟩ := ownV_slice (OwnV.of_own hown)
   clear hown
   go_wp2_with fail
   go_ret
   exact ⟨g, cap, rfl, HO.out, below_up HB1.out hB⟩
theorem StOwn.copPut {V x1 : World} {B : Nat} {s : Sto} {b : StA} (h : StOwn V B s b) {CS : List Cop} {ga : Option Addr} {gc : Nat} (ho : OwnV x1 B 74 4 (.slice ga CS.length gc) CS.length (St.eC.flat CS)) (hg : V.grownBy x1 (Value.slice b.ca s.copies.length b.cc).ownBlock) :
  StOwn x1 B { s with copies := CS } ⟨b.ta, b.tc, b.fa, b.fc, ga, gc, b.ha, b.hc, b.ba, b.bc⟩ :=
 ⟨h.ti.beside h.co (by decide) hg, h.fi.beside h.co (by decide) hg, ho, h.he.beside h.co (by decide) hg, h.bi.beside h.co (by decide) hg⟩
def OwnPut (w : World) (t : Sto) (e : Ending) (w' : World) : Prop := ∃ a' : StA, e = .returned (.agg #[.int .i64 t.least, .int .i64 t.wait, .slice a'.ta t.tiers.length a'.tc, .slice a'.fa t.files.length a'.fc, .slice a'.ca t.copies.length a'.cc, .slice a'.ha t.held.length a'.hc, .slice a'.ba t.bin.length a'.bc]) ∧ StOwn w' w.heap.size t a' ∧ Below w.heap.size w w'
theorem withCopyR_is (s : Sto) (a : StA) (c : Cop) (p : Nat) (w : World) (hI : StIn w s a) (hl : StLen s) (hk : St.copyAt s c.dig c.tier < 0) (hpl : p ≤ s.copies.length) (hpb : ∀ i x, s.copies[i]? = some x → i < p → St.ahead x c = true) (hpa : ∀ x, s.copies[p]? = some x → St.ahead x c = false) : Calls Tryz.prog 83 #[.agg #[.int .i64 s.least, .int .i64 s.wait, .slice a.ta s.tiers.length a.tc, .slice a.fa s.files.length a.fc, .slice a.ca s.copies.length a.cc, .slice a.ha s.held.length a.hc, .slice a.ba s.bin.length a.bc], .agg #[.string c.dig, .string c.tier, .bool c.good, .int .i64 c.asked]] w (OwnPut w { s with copies := s.copies.take p ++ c :: s.copies.drop p }) := by
 obtain ⟨W0, hW0, hP, hz0, hB0⟩ := box w #[.int .i64 s.least, .int .i64 s.wait, .slice a.ta s.tiers.length a.tc, .slice a.fa s.files.length a.fc, .slice a.ca s.copies.length a.cc, .slice a.ha s.held.length a.hc, .slice a.ba s.bin.length a.bc] 28
 obtain ⟨W1, hW1, hD, hz1, hB1⟩ := box W0 #[.string c.dig, .string c.tier, .bool c.good, .int .i64 c.asked] 74
 obtain ⟨W2, hW2, hQ, hz2, hB2⟩ := box W1 #[.int .i64 0, .int .i64 0, .slice none 0 0, .slice none 0 0, .slice none 0 0, .slice none 0 0, .slice none 0 0] 28
 rw [hz0] at hD hz1
 rw [hz1] at hQ hz2
 have hP := (hP.keep hB1).keep hB2
 have hD := hD.keep hB2
 have hBB := below_up hB0 (below_up hB1 hB2)
 have HW0 := Lib.hid hW0; have HW1 := Lib.hid hW1; have HW2 := Lib.hid hW2; have HP := Lib.hid hP; have HD := Lib.hid hD; have HQ := Lib.hid hQ; have HBB := Lib.hid hBB; have HZ2 : Hid (W2.heap.size = w.heap.size + 3) := Lib.hid (by omega)
 have HI2 := Lib.hid (hI.keep hBB)
 obtain ⟨q0, q1, q2, q3, q4, q5, q6⟩ := hP.seven
 obtain ⟨d0, d1, d2, d3⟩ := hD.four
 have HSZ := Lib.hid hI.sz
 clear hI hW0 hW1 hW2 hP hD hQ hz0 hz1 hz2 hB0 hB1 hB2 hBB
 have HCP := Lib.hid (fun V (hv : Below W2.heap.size W2 V) => twin_is s a V (HI2.out.keep hv) hl)
 unfold CpyPost at HCP
 have HCO := Lib.hid (fun V b (h : StIn V s b) => copyOf_is s b c.dig c.tier V h)
 generalize St.copyAt s c.dig c.tier = k at *
 have hk0 : ¬ (0 ≤ k) := by omega
 have hk1 : decide (0 ≤ k) = false := decide_eq_false hk0
 have HPB := Lib.hid hpb; have HPA := Lib.hid hpa
 have HBF := Lib.hid (fun x V => before_is x c V)
 obtain ⟨CS, hCS⟩ : ∃ CS, s.copies.take p ++ c :: s.copies.drop p = CS := ⟨_, rfl⟩
 rw [hCS]
 have HCS := Lib.hid hCS
 have HBL : Hid (CS.length = s.copies.length + 1) := Lib.hid (by rw [← hCS, List.length_append, List.length_cons, List.length_take, List.length_drop]; omega)
 have hy5 := hl.2.2.1
 clear hl hk hpb hpa hCS
 go_enter Tryz.func83, Tryz.ntmps83
 go_upto_region 1 with fail
 rw [HW0.out, HW1.out, HW2.out]
 have hv : Below W2.heap.size W2 W2 := Below.refl _ _
 go_upto_region 2 with (first
  | (go_at_call 81; (with_reducible refine (HCP.out _ hv).mono ?_); rintro e w8 ⟨b, rfl, hOwn, hB8⟩)
  | (refine wpList_store_row rfl 28 _ _ rfl w.heap.size #[.int .i64 s.least, .int .i64 s.wait, .slice b.ta s.tiers.length b.tc, .slice b.fa s.files.length b.fc, .slice b.ca s.copies.length b.cc, .slice b.ha s.held.length b.hc, .slice b.ba s.bin.length b.bc] rfl rfl 28 _ (HP.out.keep (below_up hv hB8)) infoSto rfl (by simp [Value.oneCell']) ?_))
 have hlt4 : w.heap.size + 2 < W2.heap.size := by have := HZ2.out; omega
 have hPv := Blk.setRowAt (HP.out.keep hB8) #[.int .i64 s.least, .int .i64 s.wait, .slice b.ta s.tiers.length b.tc, .slice b.fa s.files.length b.fc, .slice b.ca s.copies.length b.cc, .slice b.ha s.held.length b.hc, .slice b.ba s.bin.length b.bc]
 have hQv := (HQ.out.keep hB8).setRowOther (b' := w.heap.size) (by omega) #[.int .i64 s.least, .int .i64 s.wait, .slice b.ta s.tiers.length b.tc, .slice b.fa s.files.length b.fc, .slice b.ca s.copies.length b.cc, .slice b.ha s.held.length b.hc, .slice b.ba s.bin.length b.bc]
 have hDv := (HD.out.keep hB8).setRowOther (b' := w.heap.size) (by omega) #[.int .i64 s.least, .int .i64 s.wait, .slice b.ta s.tiers.length b.tc, .slice b.fa s.files.length b.fc, .slice b.ca s.copies.length b.cc, .slice b.ha s.held.length b.hc, .slice b.ba s.bin.length b.bc]
 have hBv := below_setRow (below_up HBB.out hB8) (Nat.le_refl w.heap.size) #[.int .i64 s.least, .int .i64 s.wait, .slice b.ta s.tiers.length b.tc, .slice b.fa s.files.length b.fc, .slice b.ca s.copies.length b.cc, .slice b.ha s.held.length b.hc, .slice b.ba s.bin.length b.bc]
 have hOv := hOwn.setRow (b := w.heap.size) (by omega) #[.int .i64 s.least, .int .i64 s.wait, .slice b.ta s.tiers.length b.tc, .slice b.fa s.files.length b.fc, .slice b.ca s.copies.length b.cc, .slice b.ha s.held.length b.hc, .slice b.ba s.bin.length b.bc]
 have hVz : W2.heap.size ≤ (w8.setRow w.heap.size #[.int .i64 s.least, .int .i64 s.wait, .slice b.ta s.tiers.length b.tc, .slice b.fa s.files.length b.fc, .slice b.ca s.copies.length b.cc, .slice b.ha s.held.length b.hc, .slice b.ba s.bin.length b.bc]).heap.size := by have := hB8.size; simp; omega
 obtain ⟨V, hV⟩ : ∃ V, w8.setRow w.heap.size #[.int .i64 s.least, .int .i64 s.wait, .slice b.ta s.tiers.length b.tc, .slice b.fa s.files.length b.fc, .slice b.ca s.copies.length b.cc, .slice b.ha s.held.length b.hc, .slice b.ba s.bin.length b.bc] = V := ⟨_, rfl⟩
 rw [hV] at hPv hQv hDv hBv hOv hVz ⊢
 clear hV q0 q1 q2 q3 q4 q5 q6 d0 d1 d2 d3 hOwn hB8 hv
 have HPv := Lib.hid hPv; have HDv := Lib.hid hDv; have HOv := Lib.hid hOv; have HBv := Lib.hid hBv; have HQv := Lib.hid hQv; have HVz := Lib.hid hVz
 have HLT := Lib.hid hlt4
 obtain ⟨q0, q1, q2, q3, q4, q5, q6⟩ := hPv.seven
 obtain ⟨d0, d1, d2, d3⟩ := hDv.four
 have HIV := Lib.hid (hOv.in_ HSZ.out)
 clear hPv hQv hDv hBv hOv hVz hlt4
 go_upto_region 7 with (go_at_call 80; (with_reducible refine (HCO.out _ _ HIV.out).mono ?_); rintro e X ⟨rfl, hX⟩)
 have HPx := Lib.hid (HPv.out.keep hX); have HQx := Lib.hid (HQv.out.keep hX); have HDx := Lib.hid (HDv.out.keep hX); have HOx := Lib.hid (HOv.out.keep hX); have HBx := Lib.hid (below_up HBv.out hX); have HZx : Hid (W2.heap.size ≤ X.heap.size) := Lib.hid (by have := HVz.out; have := hX.size; omega)
 clear hX q0 q1 q2 q3 q4 q5 q6 d0 d1 d2 d3
 have hbi : OwnV X W2.heap.size 74 4 (.slice b.ca s.copies.length b.cc) s.copies.length (St.eC.flat s.copies) := HOx.out.co
 have HBI := Lib.hid hbi
 have HRB := Lib.hid (RowE.ofV (E := St.eC) (ca := b.cc) hbi)
 have HINS := Lib.hid (fun V (hb : Below X.heap.size X V) (bv : Nat) (hbv : V.heap[bv]? = some (.cells #[.string c.dig, .string c.tier, .bool c.good, .int .i64 c.asked] 74 (0, 0))) (hge : X.heap.size ≤ bv) => show Calls Tryz.prog 148 #[.slice b.ca s.copies.length b.cc, .int .i64 p, .slice (some ⟨bv, 0, none⟩) 1 1] V (OwnPost V W2.heap.size 74 4 (.slice b.ca s.copies.length b.cc) CS.length (St.eC.flat CS)) from by
  have h := cp_ins W2.heap.size s.copies.length p (.slice b.ca s.copies.length b.cc) (St.eC.flat s.copies) [.string c.dig, .string c.tier, .bool c.good, .int .i64 c.asked] V (HBI.out.keep hb) (by have := HZx.out; have := hb.size; omega) hpl (by omega) (Enc.flat_one St.eC _) bv _ _ hbv (fun e => by have := (HBI.out.lt bv e).2; omega) rfl rfl (by simp [Value.oneCell'])
  rw [flat_insC s.copies c p, HCS.out, ← HBL.out] at h
  exact h)
 unfold OwnPost at HINS
 clear hbi
 go_loopg [6] p (fun gk i wr => ∃ j : Nat, j ≤ p ∧ gk = p - j ∧ i = .int .i64 j ∧ Below X.heap.size X wr)
 case atStart => exact ⟨0, by omega, rfl, rfl, Below.refl _ _⟩
 case round =>
  obtain ⟨j, hj, rfl, rfl, hB⟩ := hrel
  by_cases hjn : j < s.copies.length
  ·obtain ⟨x, hx⟩ : ∃ x, s.copies[j]? = some x := ⟨_, List.getElem?_eq_getElem hjn⟩
   obtain ⟨bb, off, ha, hb, hc⟩ := HRB.out (by omega)
   have HCL : Hid (∀ V, Below X.heap.size X V → V.cell? ⟨w.heap.size, 4, none⟩ = some (.slice (some ⟨bb, off, none⟩) s.copies.length b.cc) ∧ V.cell? ⟨w.heap.size + 1, 0, none⟩ = some (.string c.dig) ∧ V.cell? ⟨w.heap.size + 1, 1, none⟩ = some (.string c.tier) ∧ V.cell? ⟨w.heap.size + 1, 2, none⟩ = some (.bool c.good) ∧ V.cell? ⟨w.heap.size + 1, 3, none⟩ = some (.int .i64 c.asked) ∧ V.cell? ⟨bb, off + j * 4, none⟩ = some (.string x.dig) ∧ V.cell? ⟨bb, off + j * 4 + 1, none⟩ = some (.string x.tier) ∧ V.cell? ⟨bb, off + j * 4 + 2, none⟩ = some (.bool x.good) ∧ V.cell? ⟨bb, off + j * 4 + 3, none⟩ = some (.int .i64 x.asked)) := Lib.hid fun V hv => by
    have hp := (HPx.out.keep hv).seven
    obtain ⟨d0, d1, d2, d3⟩ := (HDx.out.keep hv).four
    rw [← ha]
    exact ⟨hp.2.2.2.2.1, d0, d1, d2, d3, (hv.cell (p := ⟨bb, off + j * 4, none⟩) hb).trans (hc j x hx 0 (.string x.dig) rfl), (hv.cell (p := ⟨bb, off + j * 4 + 1, none⟩) hb).trans (hc j x hx 1 (.string x.tier) rfl), (hv.cell (p := ⟨bb, off + j * 4 + 2, none⟩) hb).trans (hc j x hx 2 (.bool x.good) rfl), (hv.cell (p := ⟨bb, off + j * 4 + 3, none⟩) hb).trans (hc j x hx 3 (.int .i64 x.asked) rfl)⟩
   have HXX := Lib.hid hx
   have hj0 : (0 : Int) ≤ (j : Int) := by omega
   have hj1 : (j : Int) < (s.copies.length : Int) := by omega
   have hd1 : decide ((j : Int) < (s.copies.length : Int)) = true := decide_eq_true hj1
   have HBX := Lib.hid (fun V => HBF.out x V)
   clear hc hx hb ha
   go_wp2_with fail
   have hv := hB.drew
   obtain ⟨q4, d0, d1, d2, d3, c0, c1, c2, c3⟩ := HCL.out _ hv
   cases hl : St.ahead x c with
   | true =>
     rw [hl] at HBX
     have hjp : j < p := by
      rcases Nat.lt_or_ge j p with h | h
      ·exact h
      ·have he : j = p := by omega
       have := HPA.out x (by rw [← he]; exact HXX.out)
       rw [hl] at this; cases this
     go_region_held3 (fun V => V.cell? ⟨w.heap.size, 4, none⟩ = some (.slice (some ⟨bb, off, none⟩) s.copies.length b.cc) ∧ V.cell? ⟨w.heap.size + 1, 0, none⟩ = some (.string c.dig) ∧ V.cell? ⟨w.heap.size + 1, 1, none⟩ = some (.string c.tier) ∧ V.cell? ⟨w.heap.size + 1, 2, none⟩ = some (.bool c.good) ∧ V.cell? ⟨w.heap.size + 1, 3, none⟩ = some (.int .i64 c.asked) ∧ V.cell? ⟨bb, off + j * 4, none⟩ = some (.string x.dig) ∧ V.cell? ⟨bb, off + j * 4 + 1, none⟩ = some (.string x.tier) ∧ V.cell? ⟨bb, off + j * 4 + 2, none⟩ = some (.bool x.good) ∧ V.cell? ⟨bb, off + j * 4 + 3, none⟩ = some (.int .i64 x.asked))
      (first | (with_reducible exact ⟨q4, d0, d1, d2, d3, c0, c1, c2, c3⟩) | go_keep)
      (first
       | (go_at_call 77; (with_reducible refine (HBX.out _).mono ?_); rintro e wq ⟨rfl, hq⟩; have hv := below_up hv hq; obtain ⟨q4, d0, d1, d2, d3, c0, c1, c2, c3⟩ := HCL.out _ hv)
       | fail)
     go_wp2_with fail
     go_roundg (p - (j + 1))
     case rel => exact ⟨j + 1, by omega, rfl, by go_num, hv⟩
     case measure => omega
   | false =>
     rw [hl] at HBX
     obtain rfl : j = p := by
      rcases Nat.lt_or_ge j p with h | h
      ·have := HPB.out j x HXX.out h
       rw [hl] at this; cases this
      ·omega
     go_region_held3 (fun V => V.cell? ⟨w.heap.size, 4, none⟩ = some (.slice (some ⟨bb, off, none⟩) s.copies.length b.cc) ∧ V.cell? ⟨w.heap.size + 1, 0, none⟩ = some (.string c.dig) ∧ V.cell? ⟨w.heap.size + 1, 1, none⟩ = some (.string c.tier) ∧ V.cell? ⟨w.heap.size + 1, 2, none⟩ = some (.bool c.good) ∧ V.cell? ⟨w.heap.size + 1, 3, none⟩ = some (.int .i64 c.asked) ∧ V.cell? ⟨bb, off + j * 4, none⟩ = some (.string x.dig) ∧ V.cell? ⟨bb, off + j * 4 + 1, none⟩ = some (.string x.tier) ∧ V.cell? ⟨bb, off + j * 4 + 2, none⟩ = some (.bool x.good) ∧ V.cell? ⟨bb, off + j * 4 + 3, none⟩ = some (.int .i64 x.asked))
      (first | (with_reducible exact ⟨q4, d0, d1, d2, d3, c0, c1, c2, c3⟩) | go_keep)
      (first
       | (go_at_call 77; (with_reducible refine (HBX.out _).mono ?_); rintro e wq ⟨rfl, hq⟩; have hv := below_up hv hq; obtain ⟨q4, d0, d1, d2, d3, c0, c1, c2, c3⟩ := HCL.out _ hv)
       | fail)
     have hB9 := hv
     clear q4 d0 d1 d2 d3 c0 c1 c2 c3 hB hv hq
     rename_i hHeld
     clear hHeld
     generalize wq = U at *
     have HB9 := Lib.hid hB9
     have hal : Below U.heap.size U (U.alloc (.cells #[.string c.dig, .string c.tier, .bool c.good, .int .i64 c.asked] 74)) := (Below.refl _ _).alloc (Nat.le_refl _) _
     have hPA := (HPx.out.keep hB9).keep hal
     have hQA := (HQx.out.keep hB9).keep hal
     have hOA := (HOx.out.keep hB9).keep hal
     have HBA := Lib.hid (below_up HBx.out (below_up hB9 hal))
     have HZA : Hid (W2.heap.size ≤ (U.alloc (.cells #[.string c.dig, .string c.tier, .bool c.good, .int .i64 c.asked] 74)).heap.size) := Lib.hid (by have := HZx.out; have := hB9.size; have := hal.size; omega)
     have HPA2 := Lib.hid hPA; have HQA := Lib.hid hQA; have HOA := Lib.hid hOA
     have HNV : Hid (∀ o, ((U).alloc o).heap[(U).heap.size]? = some o) := Lib.hid (fun o => heap_alloc_new U o)
     have HGE : Hid (X.heap.size ≤ U.heap.size) := Lib.hid hB9.size
     obtain ⟨q0, q1, q2, q3, q4, q5, q6⟩ := (HPx.out.keep hB9).seven
     obtain ⟨d0, d1, d2, d3⟩ := (HDx.out.keep hB9).four
     clear hPA hQA hOA hal hB9
     go_upto_region 10 with (go_at_call 148; (with_reducible refine (HINS.out _ (below_allocs HB9.out _) U.heap.size (HNV.out _) HGE.out).mono ?_); rintro e w8 ⟨g8, c8, rfl, hc8, hg8, hn8⟩; have HC8 := Lib.hid hc8; have HG8 := Lib.hid hg8; have hlt := HLT.out; have hP8 := HPA2.out.besideV HOA.out.co hg8 (show w.heap.size < W2.heap.size by omega); obtain ⟨q0, q1, q2, q3, q4, q5, q6⟩ := hP8.seven; have qf := hP8.free; clear hc8 hg8 hn8)
     have hPy : Blk (w8.setCell ⟨w.heap.size, 4, none⟩ (.slice (some ⟨g8, 0, none⟩) CS.length c8)) w.heap.size #[.int .i64 s.least, .int .i64 s.wait, .slice b.ta s.tiers.length b.tc, .slice b.fa s.files.length b.fc, .slice (some ⟨g8, 0, none⟩) CS.length c8, .slice b.ha s.held.length b.hc, .slice b.ba s.bin.length b.bc] 28 := hP8.set 4 (.slice (some ⟨g8, 0, none⟩) CS.length c8)
     have hQy := (HQA.out.besideV HOA.out.co HG8.out (by omega)).setOther (a := ⟨w.heap.size, 4, none⟩) (by simp <;> omega) (.slice (some ⟨g8, 0, none⟩) CS.length c8)
     have hOy := (HOA.out.copPut (CS := CS) (.inr ⟨g8, c8, rfl, HC8.out⟩) HG8.out).cellB (show w.heap.size < W2.heap.size by omega) 4 (.slice (some ⟨g8, 0, none⟩) CS.length c8)
     have hBy := (below_ownE HBA.out (HOA.out.co.down (show w.heap.size ≤ W2.heap.size by omega)) HG8.out (by have := HZA.out; omega)).setCell (p := ⟨w.heap.size, 4, none⟩) (Nat.le_refl _) (.slice (some ⟨g8, 0, none⟩) CS.length c8)
     generalize w8.setCell ⟨w.heap.size, 4, none⟩ (.slice (some ⟨g8, 0, none⟩) CS.length c8) = Y at *
     clear q0 q1 q2 q3 q4 q5 q6 d0 d1 d2 d3 qf hP8
     have HOZ := Lib.hid ((hOy.setRow (b := w.heap.size + 2) (by omega) #[.int .i64 s.least, .int .i64 s.wait, .slice b.ta s.tiers.length b.tc, .slice b.fa s.files.length b.fc, .slice (some ⟨g8, 0, none⟩) CS.length c8, .slice b.ha s.held.length b.hc, .slice b.ba s.bin.length b.bc]).down (show w.heap.size ≤ W2.heap.size by omega))
     have HBY := Lib.hid (below_setRow hBy (show w.heap.size ≤ w.heap.size + 2 by omega) #[.int .i64 s.least, .int .i64 s.wait, .slice b.ta s.tiers.length b.tc, .slice b.fa s.files.length b.fc, .slice (some ⟨g8, 0, none⟩) CS.length c8, .slice b.ha s.held.length b.hc, .slice b.ba s.bin.length b.bc])
     obtain ⟨y0, y1, y2, y3, y4, y5, y6⟩ := hPy.seven
     clear hOy hBy hPy
     go_wp2_with (refine wpList_store_row rfl 28 _ _ rfl (w.heap.size + 2) #[.int .i64 s.least, .int .i64 s.wait, .slice b.ta s.tiers.length b.tc, .slice b.fa s.files.length b.fc, .slice (some ⟨g8, 0, none⟩) CS.length c8, .slice b.ha s.held.length b.hc, .slice b.ba s.bin.length b.bc] rfl rfl 28 _ hQy infoSto rfl (by simp [Value.oneCell']) ?_)
     obtain ⟨g0, g1, g2', g3, g4', g5, g6⟩ := (Blk.setRowAt hQy #[.int .i64 s.least, .int .i64 s.wait, .slice b.ta s.tiers.length b.tc, .slice b.fa s.files.length b.fc, .slice (some ⟨g8, 0, none⟩) CS.length c8, .slice b.ha s.held.length b.hc, .slice b.ba s.bin.length b.bc]).seven
     refine bodyPost_ret (v := .agg #[.int .i64 s.least, .int .i64 s.wait, .slice b.ta s.tiers.length b.tc, .slice b.fa s.files.length b.fc, .slice (some ⟨g8, 0, none⟩) CS.length c8, .slice b.ha s.held.length b.hc, .slice b.ba s.bin.length b.bc]) (by simp [results, Tryz.results83, go_sem, g0, g1, g2', g3, g4', g5, g6]) rfl ?_
     exact ⟨_, rfl, HOZ.out, HBY.out⟩
  ·obtain rfl : j = p := by omega
   obtain ⟨q0, q1, q2, q3, q4, q5, q6⟩ := (HPx.out.keep hB).seven
   obtain ⟨d0, d1, d2, d3⟩ := (HDx.out.keep hB).four
   have hd1 : decide ((j : Int) < (s.copies.length : Int)) = false := decide_eq_false (by omega)
   have hd2 : ((j : Int) < (s.copies.length : Int)) = False := eq_false (by omega)
   go_wp2_with fail
   go_quiet (fail)
   have hB9 := below_drewN hB nq
   generalize World.drewN wr nq = U at *
   clear q0 q1 q2 q3 q4 q5 q6 d0 d1 d2 d3 hB
   have HB9 := Lib.hid hB9
   have hal : Below U.heap.size U (U.alloc (.cells #[.string c.dig, .string c.tier, .bool c.good, .int .i64 c.asked] 74)) := (Below.refl _ _).alloc (Nat.le_refl _) _
   have hPA := (HPx.out.keep hB9).keep hal
   have hQA := (HQx.out.keep hB9).keep hal
   have hOA := (HOx.out.keep hB9).keep hal
   have HBA := Lib.hid (below_up HBx.out (below_up hB9 hal))
   have HZA : Hid (W2.heap.size ≤ (U.alloc (.cells #[.string c.dig, .string c.tier, .bool c.good, .int .i64 c.asked] 74)).heap.size) := Lib.hid (by have := HZx.out; have := hB9.size; have := hal.size; omega)
   have HPA2 := Lib.hid hPA; have HQA := Lib.hid hQA; have HOA := Lib.hid hOA
   have HNV : Hid (∀ o, ((U).alloc o).heap[(U).heap.size]? = some o) := Lib.hid (fun o => heap_alloc_new U o)
   have HGE : Hid (X.heap.size ≤ U.heap.size) := Lib.hid hB9.size
   obtain ⟨q0, q1, q2, q3, q4, q5, q6⟩ := (HPx.out.keep hB9).seven
   obtain ⟨d0, d1, d2, d3⟩ := (HDx.out.keep hB9).four
   clear hPA hQA hOA hal hB9
   go_upto_region 10 with (go_at_call 148; (with_reducible refine (HINS.out _ (below_allocs HB9.out _) U.heap.size (HNV.out _) HGE.out).mono ?_); rintro e w8 ⟨g8, c8, rfl, hc8, hg8, hn8⟩; have HC8 := Lib.hid hc8; have HG8 := Lib.hid hg8; have hlt := HLT.out; have hP8 := HPA2.out.besideV HOA.out.co hg8 (show w.heap.size < W2.heap.size by omega); obtain ⟨q0, q1, q2, q3, q4, q5, q6⟩ := hP8.seven; have qf := hP8.free; clear hc8 hg8 hn8)
   have hPy : Blk (w8.setCell ⟨w.heap.size, 4, none⟩ (.slice (some ⟨g8, 0, none⟩) CS.length c8)) w.heap.size #[.int .i64 s.least, .int .i64 s.wait, .slice b.ta s.tiers.length b.tc, .slice b.fa s.files.length b.fc, .slice (some ⟨g8, 0, none⟩) CS.length c8, .slice b.ha s.held.length b.hc, .slice b.ba s.bin.length b.bc] 28 := hP8.set 4 (.slice (some ⟨g8, 0, none⟩) CS.length c8)
   have hQy := (HQA.out.besideV HOA.out.co HG8.out (by omega)).setOther (a := ⟨w.heap.size, 4, none⟩) (by simp <;> omega) (.slice (some ⟨g8, 0, none⟩) CS.length c8)
   have hOy := (HOA.out.copPut (CS := CS) (.inr ⟨g8, c8, rfl, HC8.out⟩) HG8.out).cellB (show w.heap.size < W2.heap.size by omega) 4 (.slice (some ⟨g8, 0, none⟩) CS.length c8)
   have hBy := (below_ownE HBA.out (HOA.out.co.down (show w.heap.size ≤ W2.heap.size by omega)) HG8.out (by have := HZA.out; omega)).setCell (p := ⟨w.heap.size, 4, none⟩) (Nat.le_refl _) (.slice (some ⟨g8, 0, none⟩) CS.length c8)
   generalize w8.setCell ⟨w.heap.size, 4, none⟩ (.slice (some ⟨g8, 0, none⟩) CS.length c8) = Y at *
   clear q0 q1 q2 q3 q4 q5 q6 d0 d1 d2 d3 qf hP8
   have HOZ := Lib.hid ((hOy.setRow (b := w.heap.size + 2) (by omega) #[.int .i64 s.least, .int .i64 s.wait, .slice b.ta s.tiers.length b.tc, .slice b.fa s.files.length b.fc, .slice (some ⟨g8, 0, none⟩) CS.length c8, .slice b.ha s.held.length b.hc, .slice b.ba s.bin.length b.bc]).down (show w.heap.size ≤ W2.heap.size by omega))
   have HBY := Lib.hid (below_setRow hBy (show w.heap.size ≤ w.heap.size + 2 by omega) #[.int .i64 s.least, .int .i64 s.wait, .slice b.ta s.tiers.length b.tc, .slice b.fa s.files.length b.fc, .slice (some ⟨g8, 0, none⟩) CS.length c8, .slice b.ha s.held.length b.hc, .slice b.ba s.bin.length b.bc])
   obtain ⟨y0, y1, y2, y3, y4, y5, y6⟩ := hPy.seven
   clear hOy hBy hPy
   go_wp2_with (refine wpList_store_row rfl 28 _ _ rfl (w.heap.size + 2) #[.int .i64 s.least, .int .i64 s.wait, .slice b.ta s.tiers.length b.tc, .slice b.fa s.files.length b.fc, .slice (some ⟨g8, 0, none⟩) CS.length c8, .slice b.ha s.held.length b.hc, .slice b.ba s.bin.length b.bc] rfl rfl 28 _ hQy infoSto rfl (by simp [Value.oneCell']) ?_)
   obtain ⟨g0, g1, g2', g3, g4', g5, g6⟩ := (Blk.setRowAt hQy #[.int .i64 s.least, .int .i64 s.wait, .slice b.ta s.tiers.length b.tc, .slice b.fa s.files.length b.fc, .slice (some ⟨g8, 0, none⟩) CS.length c8, .slice b.ha s.held.length b.hc, .slice b.ba s.bin.length b.bc]).seven
   refine bodyPost_ret (v := .agg #[.int .i64 s.least, .int .i64 s.wait, .slice b.ta s.tiers.length b.tc, .slice b.fa s.files.length b.fc, .slice (some ⟨g8, 0, none⟩) CS.length c8, .slice b.ha s.held.length b.hc, .slice b.ba s.bin.length b.bc]) (by simp [results, Tryz.results83, go_sem, g0, g1, g2', g3, g4', g5, g6]) rfl ?_
   exact ⟨_, rfl, HOZ.out, HBY.out⟩
theorem freeIn_is (s : Sto) (a : StA) (x : Tir) (k : Nat) (hk : s.tiers[k]? = some x) (hka : St.tierAt s.tiers x.name = (k : Int)) (w : World) (hI : StIn w s a) (hz : St.Szs s.files) (hc : s.copies.length ≤ 4000) (hr : 0 ≤ x.room ∧ x.room ≤ 1000000000000) :
  Calls Tryz.prog 36 #[.agg #[.int .i64 s.least, .int .i64 s.wait, .slice a.ta s.tiers.length a.tc, .slice a.fa s.files.length a.fc, .slice a.ca s.copies.length a.cc, .slice a.ha s.held.length a.hc, .slice a.ba s.bin.length a.bc], .string x.name] w fun e w' => e = .returned (.int .i64 (x.room - St.used s.files x.name s.copies)) ∧ Below w.heap.size w w' := by
 obtain ⟨W1, hW1, hP, hz1, hB1⟩ := box w #[.int .i64 s.least, .int .i64 s.wait, .slice a.ta s.tiers.length a.tc, .slice a.fa s.files.length a.fc, .slice a.ca s.copies.length a.cc, .slice a.ha s.held.length a.hc, .slice a.ba s.bin.length a.bc] 28
 have HW1 := Lib.hid hW1
 have HI1 := Lib.hid (hI.keep hB1)
 obtain ⟨q0, q1, q2, q3, q4, q5, q6⟩ := hP.sv7
 have HP := Lib.hid hP; have HB1 := Lib.hid hB1
 clear hW1 hP
 have hcl := hI.cl
 have htl := hI.tl
 have HZ := Lib.hid hz
 have hklt := (List.getElem?_eq_some_iff.1 hk).1
 have HT := Lib.hid (fun d os => Calls.regrown_of (w := W1) (d := d) (os := os) (tierOf_is s a x.name _ (HI1.out.keep (below_regrown W1 d os))))
 rw [hka] at HT
 obtain ⟨tb, toff, hta, htb, htc⟩ := HI1.out.ti (by omega)
 have t1 : W1.cell? ⟨tb, toff + k * 4 + 1, none⟩ = some (.int .i64 x.room) := htc k x hk 1 (.int .i64 x.room) rfl
 have HFO := Lib.hid (fun (d : ByteArray) W (hb : Below W1.heap.size W1 W) => fileOf_is s a d W (HI1.out.keep hb))
 have HCL : Hid (∀ W, Below W1.heap.size W1 W → W.cell? ⟨w.heap.size, 0, none⟩ = some (.int .i64 s.least) ∧ W.cell? ⟨w.heap.size, 1, none⟩ = some (.int .i64 s.wait) ∧ W.cell? ⟨w.heap.size, 2, none⟩ = some (.slice a.ta s.tiers.length a.tc) ∧ W.cell? ⟨w.heap.size, 3, none⟩ = some (.slice a.fa s.files.length a.fc) ∧ W.cell? ⟨w.heap.size, 4, none⟩ = some (.slice a.ca s.copies.length a.cc) ∧ W.cell? ⟨w.heap.size, 5, none⟩ = some (.slice a.ha s.held.length a.hc) ∧ W.cell? ⟨w.heap.size, 6, none⟩ = some (.slice a.ba s.bin.length a.bc)) := Lib.hid fun W hb =>
  have k := HP.out.keep hb
  ⟨(k.cell 0).trans rfl, (k.cell 1).trans rfl, (k.cell 2).trans rfl, (k.cell 3).trans rfl, (k.cell 4).trans rfl, (k.cell 5).trans rfl, (k.cell 6).trans rfl⟩
 obtain ⟨tot, htot⟩ : ∃ tot, x.room - St.used s.files x.name s.copies = tot := ⟨_, rfl⟩
 rw [htot]
 have hub := St.used_bd hz x.name s.copies
 have htt : -5000000000000 ≤ tot ∧ tot ≤ 1000000000000 := by omega
 have HT0 : Hid (x.room = tot + St.used s.files x.name (s.copies.drop 0)) := Lib.hid (by rw [List.drop_zero]; omega)
 clear hI hz htot hub hka htc hk
 obtain ⟨n, hn⟩ : ∃ n, s.copies.length = n := ⟨_, rfl⟩
 have HN := Lib.hid hn
 obtain ⟨nt, hnt⟩ : ∃ nt, s.tiers.length = nt := ⟨_, rfl⟩
 rw [hn] at q4 hcl hc HW1 HT HFO HCL ⊢
 rw [hnt] at q2 htl hklt HW1 HT HFO HCL ⊢
 rw [hta] at q2 HW1 HT HFO HCL ⊢
 clear hn hnt
 have hk0 : (0 : Int) ≤ (k : Int) := by omega
 have hk1 : (k : Int) < (nt : Int) := by omega
 go_enter Tryz.func36, Tryz.ntmps36
 go_wp2_with fail
 rw [HW1.out]
 have k0 := cell_regrown q0
 have k1 := cell_regrown q1
 have k2 := cell_regrown q2
 have k3 := cell_regrown q3
 have k4 := cell_regrown q4
 have k5 := cell_regrown q5
 have k6 := cell_regrown q6
 have k7 := cell_regrown t1
 refine wp_region_quiet_below (by kernel_rfl) (by kernel_rfl) ?_
 repeat (go_big_quiet_step ((go_at_call 72; with_reducible exact HT.out _ _)))
 refine wpQuiet_nil ?_
 intro _ hw'
 obtain ⟨⟨dq, osq⟩, hw''⟩ := hw'
 subst hw''
 have hBw2 := below_regrown W1 dq osq
 generalize grow (redrawn W1 dq) osq = w2 at *
 clear dq osq
 clear k0 k1 k2 k3 k4 k5 k6 k7 q0 q1 q2 q3 q4 q5 q6 t1
 obtain ⟨m0, m1, m2, m3, m4, m5, m6⟩ := HCL.out _ hBw2
 have HB2 := Lib.hid hBw2
 go_wp2_with fail
 clear m0 m1 m2 m3 m4 m5 m6 hBw2
 go_loopg [5, 21] n (fun gk v i wr => ∃ (j : Nat) (z : Int), j ≤ n ∧ gk = n - j ∧ i = .int .i64 j ∧ v = .int .i64 z ∧ z = tot + St.used s.files x.name (s.copies.drop j) ∧ Below W1.heap.size W1 wr)
 case atStart => exact ⟨0, x.room, by omega, rfl, rfl, rfl, HT0.out, HB2.out⟩
 case round =>
  obtain ⟨j, z, hj, rfl, rfl, rfl, hz, hB⟩ := hrel
  by_cases hlt : j < n
  ·obtain ⟨y, hy⟩ : ∃ y, s.copies[j]? = some y := ⟨_, List.getElem?_eq_getElem (by rw [HN.out]; exact hlt)⟩
   obtain ⟨b, off, ha, hb, hcell⟩ := (HI1.out.keep hB).co (by rw [HN.out]; omega)
   have c0 : wr.cell? ⟨b, off + j * 4, none⟩ = some (.string y.dig) := hcell j y hy 0 (.string y.dig) rfl
   have c1 : wr.cell? ⟨b, off + j * 4 + 1, none⟩ = some (.string y.tier) := hcell j y hy 1 (.string y.tier) rfl
   have c2 : wr.cell? ⟨b, off + j * 4 + 2, none⟩ = some (.bool y.good) := hcell j y hy 2 (.bool y.good) rfl
   have c3 : wr.cell? ⟨b, off + j * 4 + 3, none⟩ = some (.int .i64 y.asked) := hcell j y hy 3 (.int .i64 y.asked) rfl
   clear hcell
   obtain ⟨W3, hW3, hX3, hz3, hB3⟩ := box wr #[.string y.dig, .string y.tier, .bool y.good, .int .i64 y.asked] 74
   have HW3 := Lib.hid hW3
   have d0 : W3.cell? ⟨wr.heap.size, 0, none⟩ = some (.string y.dig) := (hX3.cell 0).trans rfl
   have d1 : W3.cell? ⟨wr.heap.size, 1, none⟩ = some (.string y.tier) := (hX3.cell 1).trans rfl
   have HAL := Lib.hid (below_up hB hB3)
   have HFF := Lib.hid (HFO.out y.dig _ HAL.out)
   obtain ⟨f, hf⟩ : ∃ f, St.filD s.files y.dig = f := ⟨_, rfl⟩
   obtain ⟨fb, hfb⟩ : ∃ fb, (St.fileOf s.files y.dig).isSome = fb := ⟨_, rfl⟩
   rw [hf, hfb] at HFF
   unfold St.fval at HFF
   have hfz : 0 ≤ f.size ∧ f.size ≤ 1000000000 := by rw [← hf, St.filD_size]; exact St.size_bd HZ.out y.dig
   have hstep := St.used_drop (F := s.files) (n := x.name) hy
   have hub := St.used_bd HZ.out x.name (s.copies.drop (j + 1))
   have hl1 : (s.copies.drop (j + 1)).length ≤ 4000 := by rw [List.length_drop]; have := HN.out; omega
   have hsz : St.sizeOf s.files y.dig = f.size := by rw [← hf, St.filD_size]
   rw [hsz] at hstep
   obtain ⟨m0, m1, m2, m3, m4, m5, m6⟩ := HCL.out _ HAL.out
   have hj0 : (0 : Int) ≤ (j : Int) := by omega
   have hj1 : (j : Int) < (n : Int) := by omega
   obtain ⟨ud, hud⟩ : ∃ ud, St.used s.files x.name (s.copies.drop (j + 1)) = ud := ⟨_, rfl⟩
   have HUD := Lib.hid hud
   rw [hud] at hstep hub
   clear hud
   obtain ⟨bq, hbq⟩ : ∃ bq, (y.tier.toList == x.name.toList) = bq := ⟨_, rfl⟩
   have hbq' : St.eq y.tier x.name = bq := hbq
   rw [hbq'] at hstep
   rw [hstep] at hz
   have hbnd : 0 ≤ ud ∧ ud ≤ 4000000000000 := by omega
   have HB3 := Lib.hid hB3
   clear hy hB hX3 hz3 hB3 hW3 hf hfb hsz hstep hub hl1 hbq'
   rw [ha] at m4 HFF ⊢
   cases bq
   ·rw [if_neg (by decide)] at hz
    have HZN : Hid (z = tot + ud) := Lib.hid (by omega)
    have hzb : -5000000000000 ≤ z ∧ z ≤ 5000000000000 := by omega
    clear hz
    go_upto_region 5 with fail
    rw [HW3.out]
    go_wp2_with fail
    rw [← ha]
    go_roundg (n - (j + 1))
    case rel => exact ⟨j + 1, z, by omega, rfl, by go_num, rfl, by rw [HUD.out]; exact HZN.out, HAL.out⟩
    case measure => omega
   ·rw [if_pos rfl] at hz
    have HZN : Hid (z - f.size = tot + ud) := Lib.hid (by omega)
    have hzb : -5000000000000 ≤ z ∧ z ≤ 5001000000000 := by omega
    clear hz
    go_upto_region 5 with fail
    rw [HW3.out]
    go_wp2_with (go_at_call 76; (with_reducible refine HFF.out.mono ?_); rintro e w4 ⟨rfl, hB4⟩)
    rw [← ha]
    go_roundg (n - (j + 1))
    case rel => exact ⟨j + 1, z - f.size, by omega, rfl, by go_num, rfl, by rw [HUD.out]; exact HZN.out, below_allocs (below_up HAL.out hB4) _⟩
    case measure => omega
  ·obtain rfl : j = n := by omega
   have hz2 : z = tot := by
    rw [hz, List.drop_eq_nil_of_le (by rw [HN.out]; exact Nat.le_refl _)]; simp [St.used]
   have HZ2 := Lib.hid hz2
   clear hz hz2
   go_wp2_with fail
   go_ret
   exact ⟨ret_int HZ2.out, below_up HB1.out hB⟩
end Go.Proofs.YthdiccdnggloiaaGreatDoor
namespace Go.Proofs.YthdiccdnggloiaaGreatDoor
open Go.RowKit
namespace Hx
def hx (n : Nat) : UInt8 := if n < 10 then UInt8.ofNat (48 + n) else UInt8.ofNat (87 + n)
def low : Nat → Nat → List UInt8
 | _, 0 => []
 | n, k + 1 => low (n / 16) k ++ [hx (n % 16)]
end Hx
namespace Hx
end Hx
def Hx.cells (L : List UInt8) : List Value := L.map fun x => Value.int .u8 (x.toNat : Int)
namespace Hx
def step (h : Nat) (b : UInt8) : Nat := ((h ^^^ b.toNat) * 1099511628211) % 18446744073709551616
def fnv0 : Nat := 14695981039346656037
def fnv (l : List UInt8) : Nat := l.foldl step fnv0
def dig (l : List UInt8) : ByteArray := ⟨(low (fnv l) 16).toArray⟩
end Hx
end Go.Proofs.YthdiccdnggloiaaGreatDoor
namespace Go.Proofs.YthdiccdnggloiaaGreatDoor
open Go.RowKit Go.Sort Go.Shelf Go.Maps
theorem fillNew (w : World) (c cs : Array Value) (t : TypeId) : ∃ X, (w.alloc (.cells c t)).setRow w.heap.size cs = X ∧ Blk X w.heap.size cs t ∧ X.heap.size = w.heap.size + 1 ∧ Below w.heap.size w X :=
 ⟨_, rfl, Blk.setRowAt (Blk.new _ _ _) _, by simp, below_setRow ((Below.refl _ _).alloc (Nat.le_refl _) _) (Nat.le_refl _) _⟩
theorem fldName (n : ByteArray) (r c : Int) (y : Bool) (w : World) : (Instr.field 46 (.agg #[.string n, .int .i64 r, .int .i64 c, .bool y]) 0).run Tryz.prog w = .ok (.string n) w := by kernel_rfl
theorem source_none (s : Sto) (a : StA) (d : ByteArray) (w : World) (hI : StIn w s a) (y1 : s.tiers.length ≤ 8) (y3 : s.copies.length ≤ 4000) (h0 : (St.goodL s d).length = 0) :
  Calls Tryz.prog 127 #[.agg #[.int .i64 s.least, .int .i64 s.wait, .slice a.ta s.tiers.length a.tc, .slice a.fa s.files.length a.fc, .slice a.ca s.copies.length a.cc, .slice a.ha s.held.length a.hc, .slice a.ba s.bin.length a.bc], .string d] w fun e w' => e = .returned (.tuple #[.string ⟨#[]⟩, .bool false]) ∧ Below w.heap.size w w' := by
 obtain ⟨W1, hW1, hP, hz1, hB1⟩ := box w #[.int .i64 s.least, .int .i64 s.wait, .slice a.ta s.tiers.length a.tc, .slice a.fa s.files.length a.fc, .slice a.ca s.copies.length a.cc, .slice a.ha s.held.length a.hc, .slice a.ba s.bin.length a.bc] 28
 have HW1 := Lib.hid hW1
 have HI1 := Lib.hid (hI.keep hB1)
 obtain ⟨q0, q1, q2, q3, q4, q5, q6⟩ := hP.sv7
 have HP := Lib.hid hP; have HB1 := Lib.hid hB1
 clear hW1 hP
 have HG := Lib.hid (goodOf_is s a d W1 HI1.out y1 y3)
 unfold TirPost at HG
 rw [h0] at HG
 clear hI hz1 h0
 go_enter Tryz.func127, Tryz.ntmps127
 go_wp2_with fail
 rw [HW1.out]
 go_wp2_with (go_at_call 118; (with_reducible refine HG.out.mono ?_); rintro e w4 ⟨g, cap, rfl, ho, hB4⟩)
 go_ret2
 exact ⟨rfl, below_up HB1.out hB4⟩
theorem source_some (s : Sto) (a : StA) (d : ByteArray) (w : World) (hI : StIn w s a) (y1 : s.tiers.length ≤ 8) (y3 : s.copies.length ≤ 4000) (h0 : 0 < (St.goodL s d).length) :
  Calls Tryz.prog 127 #[.agg #[.int .i64 s.least, .int .i64 s.wait, .slice a.ta s.tiers.length a.tc, .slice a.fa s.files.length a.fc, .slice a.ca s.copies.length a.cc, .slice a.ha s.held.length a.hc, .slice a.ba s.bin.length a.bc], .string d] w fun e w' => e = .returned (.tuple #[.string (St.cheap (St.goodL s d)).name, .bool true]) ∧ Below w.heap.size w w' := by
 obtain ⟨W1, hW1, hP, hz1, hB1⟩ := box w #[.int .i64 s.least, .int .i64 s.wait, .slice a.ta s.tiers.length a.tc, .slice a.fa s.files.length a.fc, .slice a.ca s.copies.length a.cc, .slice a.ha s.held.length a.hc, .slice a.ba s.bin.length a.bc] 28
 have HW1 := Lib.hid hW1
 have HI1 := Lib.hid (hI.keep hB1)
 obtain ⟨q0, q1, q2, q3, q4, q5, q6⟩ := hP.sv7
 have HP := Lib.hid hP; have HB1 := Lib.hid hB1
 clear hW1 hP
 have HG := Lib.hid (goodOf_is s a d W1 HI1.out y1 y3)
 unfold TirPost at HG
 have hgl := St.goodL_len s d
 generalize St.goodL s d = L at *
 obtain ⟨t0, ht0⟩ : ∃ t0, L[0]? = some t0 := ⟨_, List.getElem?_eq_getElem h0⟩
 have HCH := Lib.hid (St.cheap_at ht0)
 have HBS : Hid (∀ j x, L[j]? = some x → St.best t0 (L.take (j + 1)) = if x.cost < (St.best t0 (L.take j)).cost then x else St.best t0 (L.take j)) := Lib.hid fun j x h => St.best_snoc h
 have HT0 := Lib.hid ht0
 obtain ⟨n, hn⟩ : ∃ n, L.length = n := ⟨_, rfl⟩
 have HN := Lib.hid hn
 rw [hn] at h0 hgl HG
 have hn0 : (0 : Int) < (n : Int) := by omega
 have hn1 : ((n : Int) == 0) = false := by simp; omega
 clear hI hz1 hn ht0
 go_enter Tryz.func127, Tryz.ntmps127
 go_wp2_with fail
 rw [HW1.out]
 go_upto_region 4 with (go_at_call 118; (with_reducible refine HG.out.mono ?_); rintro e w4 ⟨ad, ca, rfl, ho, hB4⟩)
 have HB4 := Lib.hid (below_up HB1.out hB4)
 have hr : RowE St.eT w4 ad L := RowE.ofV (E := St.eT) (by rw [HN.out]; exact ho)
 have HR := Lib.hid hr
 have hcp := ho.caps
 obtain ⟨b, off, ha, hb, hcell⟩ := hr (by rw [HN.out]; exact h0)
 have c0 : w4.cell? ⟨b, off, none⟩ = some (.string t0.name) := by have := hcell 0 t0 HT0.out 0 (.string t0.name) rfl; simpa using this
 have c1 : w4.cell? ⟨b, off + 1, none⟩ = some (.int .i64 t0.room) := by have := hcell 0 t0 HT0.out 1 (.int .i64 t0.room) rfl; simpa using this
 have c2 : w4.cell? ⟨b, off + 2, none⟩ = some (.int .i64 t0.cost) := by have := hcell 0 t0 HT0.out 2 (.int .i64 t0.cost) rfl; simpa using this
 have c3 : w4.cell? ⟨b, off + 3, none⟩ = some (.bool t0.away) := by have := hcell 0 t0 HT0.out 3 (.bool t0.away) rfl; simpa using this
 obtain ⟨W2, hW2, hQ, hz2, hB2⟩ := box w4 #[.string t0.name, .int .i64 t0.room, .int .i64 t0.cost, .bool t0.away] 46
 have HW2 := Lib.hid hW2; have HQ := Lib.hid hQ; have HB2 := Lib.hid hB2
 clear hr ho hcell hW2 hQ hz2 hB2 hB4 q0 q1 q2 q3 q4 q5 q6
 rw [ha]
 go_wp2_with fail
 rw [HW2.out]
 clear c0 c1 c2 c3
 go_loopg [21] n (fun gk i wr => ∃ j : Nat, j ≤ n ∧ gk = n - j ∧ i = .int .i64 j ∧ Blk wr w4.heap.size #[.string (St.best t0 (L.take j)).name, .int .i64 (St.best t0 (L.take j)).room, .int .i64 (St.best t0 (L.take j)).cost, .bool (St.best t0 (L.take j)).away] 46 ∧ Below w4.heap.size w4 wr)
 case atStart => exact ⟨0, by omega, rfl, rfl, HQ.out, HB2.out⟩
 case round =>
  obtain ⟨j, hj, rfl, rfl, hQ, hB⟩ := hrel
  by_cases hlt : j < n
  ·obtain ⟨x, hx⟩ : ∃ x, L[j]? = some x := ⟨_, List.getElem?_eq_getElem (by rw [HN.out]; exact hlt)⟩
   obtain ⟨b', off', ha', hb', hcell⟩ := HR.out.keep hB (by rw [HN.out]; omega)
   rw [ha] at ha'
   injection ha' with ha'
   injection ha' with e1 e2
   subst e1 e2
   have c0 : wr.cell? ⟨b, off + j * 4, none⟩ = some (.string x.name) := hcell j x hx 0 (.string x.name) rfl
   have c1 : wr.cell? ⟨b, off + j * 4 + 1, none⟩ = some (.int .i64 x.room) := hcell j x hx 1 (.int .i64 x.room) rfl
   have c2 : wr.cell? ⟨b, off + j * 4 + 2, none⟩ = some (.int .i64 x.cost) := hcell j x hx 2 (.int .i64 x.cost) rfl
   have c3 : wr.cell? ⟨b, off + j * 4 + 3, none⟩ = some (.bool x.away) := hcell j x hx 3 (.bool x.away) rfl
   obtain ⟨W3, hW3, hX3, hz3, hB3⟩ := box wr #[.string x.name, .int .i64 x.room, .int .i64 x.cost, .bool x.away] 46
   have HW3 := Lib.hid hW3
   have HQ3 := Lib.hid (hQ.keep hB3); have HB3 := Lib.hid (below_up hB hB3)
   obtain ⟨d0, d1, d2, d3⟩ := hX3.four
   have hbs := HBS.out j x hx
   obtain ⟨z0, z1, z2, z3⟩ := (hQ.keep hB3).four
   generalize St.best t0 (L.take j) = y at *
   have HS := Lib.hid hbs
   have hj0 : (0 : Int) ≤ (j : Int) := by omega
   have hj1 : (j : Int) < (n : Int) := by omega
   clear hx hcell hW3 hX3 hz3 hB3 hB hQ hbs
   go_upto_region 8 with fail
   rw [HW3.out]
   clear c0 c1 c2 c3
   by_cases hc : x.cost < y.cost
   ·have hE := HS.out
    rw [if_pos hc] at hE
    go_wp2_with (refine wpList_store_row rfl 46 _ _ rfl w4.heap.size #[.string x.name, .int .i64 x.room, .int .i64 x.cost, .bool x.away] rfl rfl 46 _ HQ3.out infoTirS rfl (by simp [Value.oneCell']) ?_)
    go_roundg (n - (j + 1))
    case rel => exact ⟨j + 1, by omega, rfl, by go_num, by rw [hE]; exact HQ3.out.setRowAt _, below_setRow HB3.out (Nat.le_refl _) _⟩
    case measure => omega
   ·have hE := HS.out
    rw [if_neg hc] at hE
    go_wp2_with fail
    go_roundg (n - (j + 1))
    case rel => exact ⟨j + 1, by omega, rfl, by go_num, by rw [hE]; exact HQ3.out, HB3.out⟩
    case measure => omega
  ·obtain rfl : n = j := by omega
   rw [← HN.out, List.take_length, ← HCH.out] at hQ
   obtain ⟨z0, z1, z2, z3⟩ := hQ.four
   go_wp2_with fail
   go_ret2
   exact ⟨rfl, below_up HB4.out hB⟩
theorem filOf_is (s : Sto) (a : StA) (d : ByteArray) (w : World) (hI : StIn w s a) (y : Fil) (hy : y = St.filD s.files d) (b : Bool) (hb : b = (St.fileOf s.files d).isSome) :
  Calls Tryz.prog 76 #[.agg #[.int .i64 s.least, .int .i64 s.wait, .slice a.ta s.tiers.length a.tc, .slice a.fa s.files.length a.fc, .slice a.ca s.copies.length a.cc, .slice a.ha s.held.length a.hc, .slice a.ba s.bin.length a.bc], .string d] w fun e w' => e = .returned (.tuple #[.agg #[.string y.dig, .int .i64 y.size, .int .i64 y.kind, .string y.frm], .bool b]) ∧ Below w.heap.size w w' := by
 subst hy hb
 exact fileOf_is s a d w hI
end Go.Proofs.YthdiccdnggloiaaGreatDoor
