/- Parts of the proof, no condition: StTng. -/
import Derived.Test.YthdiccdnggloiaaGreatDoorPl22
import Derived.Test.YthdiccdnggloiaaGreatDoorPl20
import Derived.Test.YthdiccdnggloiaaGreatDoorPl26
import Derived.Maps.RangeWalk
set_option maxRecDepth 100000
set_option maxHeartbeats 16000000
set_option linter.unusedSimpArgs false
set_option linter.unusedVariables false
namespace Go.Proofs.YthdiccdnggloiaaGreatDoor
open Go.RowKit Go.Sort Go.Shelf Go.Maps
theorem below_less {B B' : Nat} {a b : World} (h : Below B a b) (hb : B' ≤ B) : Below B' a b := ⟨h.os, h.tape, h.output, h.size, fun k hk => h.block k (by omega)⟩
theorem more_is (t : Sto) (b : StA) (mb pb B : Nat) (d : ByteArray) (ms : List Mov) (v : Value) (w : World) (h : PlnIn w pb B mb t ms b v) (hn : ms.length ≤ 800000) (hB : B ≤ w.heap.size) (r : St.Right t) (hd : d.size = 16) (hg : 0 < (St.goodL t d).length) :
  Calls Tryz.prog 122 #[.pointer (some ⟨pb, 0, none⟩), .string d, .agg #[.string d, .int .i64 ((St.goodL t d).length : Nat), .int .i64 (St.awayN (St.goodL t d) : Nat)]] w (MorePost w pb B mb t ms d v) := by
 obtain ⟨mg, hmg⟩ : ∃ mg : Int, ((St.goodL t d).length : Int) = mg := ⟨_, rfl⟩
 obtain ⟨ma, hma⟩ : ∃ ma : Int, (St.awayN (St.goodL t d) : Int) = ma := ⟨_, rfl⟩
 obtain ⟨W1, hW1, hP, hz1, hB1⟩ := box w #[.string d, .int .i64 mg, .int .i64 ma] 70
 obtain ⟨W2, hW2, hQ, hz2, hB2⟩ := box W1 #[.string ⟨#[]⟩, .int .i64 0, .int .i64 0, .bool false] 46
 rw [hz1] at hQ hz2
 have HW1 := Lib.hid hW1; have HW2 := Lib.hid hW2
 have hBB := below_up hB1 hB2
 have HBB := Lib.hid hBB
 have HLB : Hid (∀ V, Below W2.heap.size W2 V → Blk V w.heap.size #[.string d, .int .i64 mg, .int .i64 ma] 70) := Lib.hid fun V hv => (hP.keep hB2).keep hv
 have HPL : Hid (∀ V, Below W2.heap.size W2 V → Blk V pb #[.int .i64 t.least, .int .i64 t.wait, .slice b.ta t.tiers.length b.tc, .slice b.fa t.files.length b.fc, .slice b.ca t.copies.length b.cc, .slice b.ha t.held.length b.hc, .slice b.ba t.bin.length b.bc, .map (some mb), v] 161) := Lib.hid fun V hv => (h.blk.keep hBB).keep hv
 have HI := Lib.hid (h.own.in_ (StSz.right r))
 have HH := Lib.hid h
 have HT1 := Lib.hid (fun V (hv : Below w.heap.size w V) => target_is t b mb d 183 (·.away) enters_m1 V (HI.out.keep hv) (h.map.keep hv) r hd (fun V x => more1_is x V))
 have HT2 := Lib.hid (fun V (hv : Below w.heap.size w V) => target_is t b mb d 184 (fun _ => true) enters_m2 V (HI.out.keep hv) (h.map.keep hv) r hd (fun V x => more2_is x V))
 have HR := Lib.hid r
 have hpl := (Array.getElem?_eq_some_iff.1 h.blk).1
 have hm1 : St.mor1 t d = if ma = 0 then St.tgt t d (·.away) else none := by
  unfold St.mor1
  by_cases e : St.awayN (St.goodL t d) = 0
  ·rw [if_pos e, if_pos (by omega)]
  ·rw [if_neg e, if_neg (by omega)]
 have hm2 : St.mor2 t d = if mg < t.least then St.tgt t d (fun _ => true) else none := by
  unfold St.mor2
  rw [hmg]
 have hmo : St.mor t d = (St.mor1 t d).or (St.mor2 t d) := rfl
 rw [hm1, hm2] at hmo
 have HMG := Lib.hid (fun u (hu : St.mor t d = some u) => St.mor_good r hg hu)
 have HMP := Lib.hid (fun u (hu : St.mor t d = some u) => (St.mor_parts hu).1)
 rw [hmg, hma]
 unfold MorePost
 obtain ⟨q1, hq1⟩ : ∃ q1, St.tgt t d (·.away) = q1 := ⟨_, rfl⟩
 obtain ⟨q2, hq2⟩ : ∃ q2, St.tgt t d (fun _ => true) = q2 := ⟨_, rfl⟩
 rw [hq1] at HT1 hmo
 rw [hq2] at HT2 hmo
 generalize St.mor t d = mo at *
 have HSZ : Hid (W2.heap.size = w.heap.size + 2 ∧ pb < w.heap.size ∧ B ≤ w.heap.size) := Lib.hid ⟨by omega, hpl, hB⟩
 have HZB : Hid (Blk W2 (w.heap.size + 1) #[.string ⟨#[]⟩, .int .i64 0, .int .i64 0, .bool false] 46) := Lib.hid hQ
 have hv : Below W2.heap.size W2 W2 := Below.refl _ _
 have HNM := Lib.hid hn
 have HGP := Lib.hid hg
 clear h hW1 hW2 hP hQ hz1 hz2 hB1 hB2 hBB r hpl hm1 hm2 hq1 hq2 hmg hma hB hg hn
 obtain ⟨n0, n1, n2, n3, n4, n5, n6, n7⟩ := (HPL.out _ hv).nine.1
 obtain ⟨l0, l1, l2⟩ := (HLB.out _ hv).three
 obtain ⟨z0, z1, z2, z3⟩ := HZB.out.four
 have zf := HZB.out.free
 obtain ⟨ab, hab⟩ : ∃ ab, (ma == 0) = ab := ⟨_, rfl⟩
 obtain ⟨gb, hgb⟩ : ∃ gb, decide (mg < t.least) = gb := ⟨_, rfl⟩
 go_enter Tryz.func122, Tryz.ntmps122
 go_upto_region 2 with fail
 rw [HW1.out, HW2.out]
 cases ab
 ·have hmo : mo = if mg < t.least then q2 else none := by rw [hmo, if_neg (by simpa using hab)]; rfl
  obtain ⟨X, hX⟩ : ∃ X, W2 = X := ⟨_, rfl⟩
  have HPX : Hid (PlnIn X pb B mb t ms b v) := Lib.hid (by rw [← hX]; exact HH.out.keep HBB.out)
  have HTX : Hid (Turned w X pb v v) := Lib.hid (by rw [← hX]; exact Turned.below HBB.out pb v)
  have HLX : Hid (Blk X w.heap.size #[.string d, .int .i64 mg, .int .i64 ma] 70) := Lib.hid (by rw [← hX]; exact HLB.out _ hv)
  have HQX : Hid (Blk X (w.heap.size + 1) #[.string ⟨#[]⟩, .int .i64 0, .int .i64 0, .bool false] 46) := Lib.hid (by rw [← hX]; exact HZB.out)
  have HX0 : Hid (Below w.heap.size w X) := Lib.hid (by rw [← hX]; exact HBB.out)
  have HXZ : Hid (w.heap.size + 2 ≤ X.heap.size) := Lib.hid (by rw [← hX]; have := HSZ.out; omega)
  rw [hX]
  clear n0 n1 n2 n3 n4 n5 n6 n7 l0 l1 l2 z0 z1 z2 z3 zf hv hX
  obtain ⟨n0, n1, n2, n3, n4, n5, n6, n7⟩ := HPX.out.blk.nine.1
  obtain ⟨l0, l1, l2⟩ := HLX.out.three
  cases gb
  ·have hgp : (mg < t.least) = False := by simpa using hgb
   have hmn : mo = none := by rw [hmo, if_neg (by rw [hgp]; exact id)]
   subst hmn
   clear hmo
   go_wp2_with fail
   go_quiet (fail)
   go_wp2_with fail
   go_ret
   exact ⟨rfl, b, v, HPX.out.keep (below_drewN (Below.refl _ _) _), HTX.out.trans (Turned.below (below_drewN (Below.refl _ _) _) pb v)⟩
  ·have hgp : (mg < t.least) = True := by simpa using hgb
   have hmn : mo = q2 := by rw [hmo, if_pos (by rw [hgp]; trivial)]
   clear hmo
   go_wp2_with fail
   go_quiet (fail)
   obtain ⟨Xd, hXd⟩ : ∃ Xd, X.drewN nq = Xd := ⟨_, rfl⟩
   have hv : Below X.heap.size X Xd := by rw [← hXd]; exact below_drewN (Below.refl _ _) _
   rw [hXd]
   have hxd : w.heap.size + 2 ≤ Xd.heap.size := by have := hv.size; have := HXZ.out; omega
   have HXB := Lib.hid (below_up HX0.out hv)
   clear n0 n1 n2 n3 n4 n5 n6 n7 l0 l1 l2 hXd
   obtain ⟨n0, n1, n2, n3, n4, n5, n6, n7⟩ := (HPX.out.keep hv).blk.nine.1
   cases q2 with
   | none =>
     subst hmn
     unfold TgPost at HT2
     go_upto_region 8 with (go_at_call 182; (with_reducible refine (HT2.out _ HXB.out).mono ?_); rintro e w6 ⟨hq, rfl⟩; have hv := below_up hv hq; obtain ⟨n0, n1, n2, n3, n4, n5, n6, n7⟩ := (HPX.out.keep hv).blk.nine.1; obtain ⟨z0, z1, z2, z3⟩ := (HQX.out.keep hv).four; have zf := (HQX.out.keep hv).free)
     have hG := grown_set (grown_set (grown_set (grown_set (grown_self w6 (w.heap.size + 1)) 0 (.string ⟨#[]⟩)) 1 (.int .i64 0)) 2 (.int .i64 0)) 3 (.bool false)
     have hQY := (((((HQX.out.keep hv).set 0 (.string ⟨#[]⟩)).set 1 (.int .i64 0)).set 2 (.int .i64 0)).set 3 (.bool false))
     obtain ⟨X2, hX2⟩ : ∃ X2, ((((w6.setCell ⟨w.heap.size + 1, 0, none⟩ (.string ⟨#[]⟩)).setCell ⟨w.heap.size + 1, 1, none⟩ (.int .i64 0)).setCell ⟨w.heap.size + 1, 2, none⟩ (.int .i64 0)).setCell ⟨w.heap.size + 1, 3, none⟩ (.bool false)) = X2 := ⟨_, rfl⟩
     rw [hX2] at hG hQY ⊢
     have hX02 : Below w.heap.size X X2 := (below_less hv (by have := HXZ.out; omega)).trans (below_of_grownS hG (by have := hv.size; have := HXZ.out; omega) (by omega))
     have HP2 := Lib.hid (HH.out.keep (HX0.out.trans hX02))
     have HTU : Hid (Turned w X2 pb v v) := Lib.hid (Turned.below (HX0.out.trans hX02) pb v)
     have HQ2 : Hid (Blk X2 (w.heap.size + 1) #[.string ⟨#[]⟩, .int .i64 0, .int .i64 0, .bool false] 46) := Lib.hid hQY
     have HXS : Hid (w.heap.size + 2 ≤ X2.heap.size) := Lib.hid (by have := hG.size; have := hv.size; have := HXZ.out; omega)
     clear n0 n1 n2 n3 n4 n5 n6 n7 z0 z1 z2 z3 zf hv hG hQY hX2 hX02 hq
     go_wp2_with fail
     go_ret
     exact ⟨rfl, b, v, HP2.out, HTU.out⟩
   | some u =>
     subst hmn
     unfold TgPost at HT2
     go_upto_region 8 with (go_at_call 182; (with_reducible refine (HT2.out _ HXB.out).mono ?_); rintro e w6 ⟨hq, vm, hrw, rfl⟩; have hv := below_up hv hq; obtain ⟨n0, n1, n2, n3, n4, n5, n6, n7⟩ := (HPX.out.keep hv).blk.nine.1; obtain ⟨z0, z1, z2, z3⟩ := (HQX.out.keep hv).four; have zf := (HQX.out.keep hv).free)
     have hG := grown_set (grown_set (grown_set (grown_set (grown_self w6 (w.heap.size + 1)) 0 (.string u.name)) 1 (.int .i64 u.room)) 2 (.int .i64 u.cost)) 3 (.bool u.away)
     have hQY := (((((HQX.out.keep hv).set 0 (.string u.name)).set 1 (.int .i64 u.room)).set 2 (.int .i64 u.cost)).set 3 (.bool u.away))
     obtain ⟨X2, hX2⟩ : ∃ X2, ((((w6.setCell ⟨w.heap.size + 1, 0, none⟩ (.string u.name)).setCell ⟨w.heap.size + 1, 1, none⟩ (.int .i64 u.room)).setCell ⟨w.heap.size + 1, 2, none⟩ (.int .i64 u.cost)).setCell ⟨w.heap.size + 1, 3, none⟩ (.bool u.away)) = X2 := ⟨_, rfl⟩
     rw [hX2] at hG hQY ⊢
     have hX02 : Below w.heap.size X X2 := (below_less hv (by have := HXZ.out; omega)).trans (below_of_grownS hG (by have := hv.size; have := HXZ.out; omega) (by omega))
     have HP2 := Lib.hid (HH.out.keep (HX0.out.trans hX02))
     have HTU : Hid (Turned w X2 pb v v) := Lib.hid (Turned.below (HX0.out.trans hX02) pb v)
     have HQ2 : Hid (Blk X2 (w.heap.size + 1) #[.string u.name, .int .i64 u.room, .int .i64 u.cost, .bool u.away] 46) := Lib.hid hQY
     have HXS : Hid (w.heap.size + 2 ≤ X2.heap.size) := Lib.hid (by have := hG.size; have := hv.size; have := HXZ.out; omega)
     have hrx := OwnV.off hrw (by omega) hG
     have HR2 := Lib.hid hrx
     clear hrw hrx hq hX2 hX02 hG hQY hv z0 z1 z2 z3 zf
     have l0 := True.intro; have l1 := True.intro; have l2 := True.intro
     obtain ⟨hgr, hgl, hch, htr, hnc, hmE, hrR, _⟩ := HMG.out u rfl
     have hmz := St.evM_size HR.out (HMP.out u rfl) (St.sizeOf t.files d)
     have hmk := St.drop_kind t u (St.sizeOf t.files d)
     have hml := St.evM_len t u (St.sizeOf t.files d)
     have hcl := (St.sizes_iff.1 HR.out.sizes).2.2.2.1
     obtain ⟨mv, hmv⟩ : ∃ mv : Mov, mv = ⟨1, d, (St.cheap (St.goodL t d)).name, u.name⟩ := ⟨_, rfl⟩
     have hmm : St.morM t d u = St.evM t u (St.sizeOf t.files d) ++ [mv] := by rw [hmv]; rfl
     rw [← hmv] at hmE
     obtain ⟨M, hM⟩ : ∃ M, St.evM t u (St.sizeOf t.files d) = M := ⟨_, rfl⟩
     rw [hM] at hgr hgl hch hnc hmE hmz hmk hml hmm HR2
     have HGR := Lib.hid hgr; have HGL := Lib.hid hgl; have HME := Lib.hid hmE; have HMZ := Lib.hid hmz; have HMK := Lib.hid hmk; have HMM := Lib.hid hmm; have HMV := Lib.hid hmv
     have hMl : ms.length + M.length ≤ 810000 := by have := HNM.out; omega
     obtain ⟨gm, cm, rfl⟩ := ownV_slice HR2.out
     obtain ⟨n, hn⟩ : ∃ n, M.length = n := ⟨_, rfl⟩
     have HN := Lib.hid hn
     have hcm := HR2.out.caps
     rw [hn] at HR2 hMl hcm ⊢
     clear hgr hgl hch htr hnc hmE hrR hmz hmk hml hcl hmv hmm hM hn n0 n1 n2 n3 n4 n5 n6 n7 l0 l1 l2
     go_wp2_with fail
     go_loopg [52] n (fun gk i wr => ∃ (j : Nat) (b' : StA) (v' : Value), j ≤ n ∧ gk = n - j ∧ i = .int .i64 j ∧ PlnIn wr pb B mb (St.mvs t (M.take j)) (ms ++ M.take j) b' v' ∧ Turned X2 wr pb v v')
     case atStart => exact ⟨0, b, v, by omega, rfl, rfl, by simpa [St.mvs] using HP2.out, Turned.refl _ _ _⟩
     case round =>
      obtain ⟨j, b', v', hj, rfl, rfl, hp, ht⟩ := hrel
      have HPJ := Lib.hid hp; have HTJ := Lib.hid ht
      by_cases hlt : j < n
      ·obtain ⟨x, hx⟩ : ∃ x, M[j]? = some x := ⟨_, List.getElem?_eq_getElem (by rw [HN.out]; exact hlt)⟩
       have hrw := Turned.row2 ht HR2.out (fun g hg => by have := (HH.out.row.lt g hg).2; have := HSZ.out; omega) (by have := HSZ.out; omega)
       obtain ⟨b1, off, ha, hb, hcell⟩ := (RowE.ofV (E := St.eM) (ca := cm) (L := M) (by rw [HN.out]; exact hrw)) (by rw [HN.out]; omega)
       have c0 : wr.cell? ⟨b1, off + j * 4, none⟩ = some (.int .i64 x.kind) := hcell j x hx 0 (.int .i64 x.kind) rfl
       have c1 : wr.cell? ⟨b1, off + j * 4 + 1, none⟩ = some (.string x.dig) := hcell j x hx 1 (.string x.dig) rfl
       have c2 : wr.cell? ⟨b1, off + j * 4 + 2, none⟩ = some (.string x.frm) := hcell j x hx 2 (.string x.frm) rfl
       have c3 : wr.cell? ⟨b1, off + j * 4 + 3, none⟩ = some (.string x.dst) := hcell j x hx 3 (.string x.dst) rfl
       have hmem := List.mem_of_getElem? hx
       have htk : M.take (j + 1) = M.take j ++ [x] := by rw [List.take_add_one, hx]; rfl
       have HTK := Lib.hid htk
       obtain ⟨W3, hW3, hX3, hz3, hB3⟩ := box wr #[.int .i64 x.kind, .string x.dig, .string x.frm, .string x.dst] 52
       have HW3 := Lib.hid hW3; have HB3 := Lib.hid hB3
       obtain ⟨e0, e1, e2, e3⟩ := hX3.four
       have hbl : B ≤ W3.heap.size := by have := hB3.size; have := ht.le; have := HXS.out; have := HSZ.out; omega
       have HDD := Lib.hid (did_is (St.mvs t (M.take j)) b' mb pb B x (ms ++ M.take j) v' W3 (hp.keep hB3) (by rw [List.length_append, List.length_take]; omega) hbl (HGR.out (M.take j) (M.drop j) (List.take_append_drop j M).symm) (HMZ.out x hmem) (.inl (HMK.out x hmem)))
       unfold DidOk at HDD
       have hj0 : (0 : Int) ≤ (j : Int) := by omega
       have hj1 : (j : Int) < (n : Int) := by omega
       clear hp ht hrw hcell hmem htk hW3 hX3 hz3 hB3 hx hbl
       rw [ha]
       go_upto_region 13 with fail
       rw [HW3.out]
       go_wp2_with (go_at_call 121; (with_reducible refine HDD.out.mono ?_); rintro e w5 ⟨rfl, b2, v2, hp2, ht2⟩)
       rw [← ha]
       go_roundg (n - (j + 1))
       case rel => exact ⟨j + 1, b2, v2, by omega, rfl, by go_num, by rw [HTK.out, St.mvs_snoc, ← List.append_assoc]; exact hp2, (HTJ.out.trans (Turned.below HB3.out pb v')).trans ht2⟩
       case measure => omega
      ·obtain rfl : j = n := by omega
       have hta : M.take j = M := by rw [← HN.out]; exact List.take_length
       rw [hta] at HPJ
       have hrr := HGR.out M [] (List.append_nil M).symm
       obtain ⟨t', ht'⟩ : ∃ t', St.mvs t M = t' := ⟨_, rfl⟩
       have HT' := Lib.hid ht'
       rw [ht'] at HPJ HGL HME hrr
       obtain ⟨GL, hGL⟩ : ∃ GL, St.goodL t d = GL := ⟨_, rfl⟩
       have hGlen : GL.length ≤ 8 := by have h1 := St.goodL_len t d; have h2 := (St.sizes_iff.1 HR.out.sizes).2.1; rw [hGL] at h1; omega
       have hGpos := HGP.out
       have hmvv := HMV.out
       rw [hGL] at HGL hGpos hmvv
       have hcm2 := St.cheap_mem (L := GL) (by intro e; rw [e] at hGpos; exact absurd hGpos (by decide))
       have hctm : St.cheap GL ∈ t.tiers := by have := hcm2; rw [← hGL] at this ⊢; exact (List.mem_filter.1 this).1
       obtain ⟨c, hc⟩ : ∃ c, St.cheap GL = c := ⟨_, rfl⟩
       have hz40 := St.name40 (St.tier_good HR.out hctm).1
       have hzu := St.name40 (St.tier_good HR.out (HMP.out u rfl)).1
       rw [hc] at hmvv hz40
       have hmz : mv.dig.size ≤ 1048576 ∧ mv.frm.size ≤ 1048576 ∧ mv.dst.size ≤ 1048576 := by rw [hmvv]; exact ⟨by show d.size ≤ _; omega, by show c.name.size ≤ _; omega, by show u.name.size ≤ _; omega⟩
       have HIJ := Lib.hid (HPJ.out.own.in_ (StSz.right hrr))
       have HGD := Lib.hid (fun V (hv : Below wr.heap.size wr V) => good_is t' b' mb d V (HIJ.out.keep hv) hrr hd)
       unfold TirPost at HGD
       rw [HGL.out] at HGD
       have HCP := Lib.hid (fun (g : Option Addr) (cap : Nat) V (ho : OwnV V wr.heap.size 46 4 (.slice g GL.length cap) GL.length (St.eT.flat GL)) => cheapest_is GL hGpos (by omega) g cap V (RowE.ofV (E := St.eT) (ca := cap) ho))
       rw [hc] at HCP
       have hbj : B ≤ wr.heap.size := by have := HTJ.out.le; have := HXS.out; have := HSZ.out; omega
       have HDD := Lib.hid (fun V (hv : Below wr.heap.size wr V) => did_is t' b' mb pb B mv (ms ++ M) v' V (HPJ.out.keep hv) (by rw [List.length_append, HN.out]; omega) (by have := hv.size; omega) hrr hmz (.inr HME.out))
       rw [hmvv] at HDD
       unfold DidOk at HDD
       dsimp only at HDD
       have hqj := Turned.blk HTJ.out HP2.out.row HQ2.out (by have := HSZ.out; omega) (by decide)
       have HKX : Hid (∀ V, Below wr.heap.size wr V → Blk V pb #[.int .i64 t'.least, .int .i64 t'.wait, .slice b'.ta t'.tiers.length b'.tc, .slice b'.fa t'.files.length b'.fc, .slice b'.ca t'.copies.length b'.cc, .slice b'.ha t'.held.length b'.hc, .slice b'.ba t'.bin.length b'.bc, .map (some mb), v'] 161 ∧ Blk V (w.heap.size + 1) #[.string u.name, .int .i64 u.room, .int .i64 u.cost, .bool u.away] 46) := Lib.hid fun V hv => ⟨HPJ.out.blk.keep hv, hqj.keep hv⟩
       have HMV2 := Lib.hid hmvv
       obtain ⟨ng, hng⟩ : ∃ ng, GL.length = ng := ⟨_, rfl⟩
       rw [hng] at HGD HCP
       have hfn := fldName
       clear hp ht hta hrr ht' hGL hGlen hGpos hcm2 hctm hc hz40 hzu hmz hbj hqj hmvv hng
       have hv : Below wr.heap.size wr wr.drew := (Below.refl _ _).drew
       have hHeld := And.intro (HKX.out _ hv).1.nine.1 (HKX.out _ hv).2.four.1
       go_upto_region 15 with fail
       refine wp_region_until (fun W => (W.cell? ⟨pb, 0, none⟩ = some (.int .i64 t'.least) ∧ W.cell? ⟨pb, 1, none⟩ = some (.int .i64 t'.wait) ∧ W.cell? ⟨pb, 2, none⟩ = some (.slice b'.ta t'.tiers.length b'.tc) ∧ W.cell? ⟨pb, 3, none⟩ = some (.slice b'.fa t'.files.length b'.fc) ∧ W.cell? ⟨pb, 4, none⟩ = some (.slice b'.ca t'.copies.length b'.cc) ∧ W.cell? ⟨pb, 5, none⟩ = some (.slice b'.ha t'.held.length b'.hc) ∧ W.cell? ⟨pb, 6, none⟩ = some (.slice b'.ba t'.bin.length b'.bc) ∧ W.cell? ⟨pb, 7, none⟩ = some (.map (some mb))) ∧ W.cell? ⟨w.heap.size + 1, 0, none⟩ = some (.string u.name)) 13 (by kernel_rfl) ?_
       refine anyM_take0 (i := 0) (v := ?_) rfl (by decide) (by kernel_rfl) (by kernel_rfl) (by kernel_rfl) (fun _ _ _ h => h) (Or.inl ⟨by rfl, ?_⟩) (fun _ => by assumption) ?_
       rotate_left
       ·(intro w hSw; go_simp; try (with_reducible rfl))
       try go_frame
       refine anyM_take0 (i := 1) (v := ?_) rfl (by decide) (by kernel_rfl) (by kernel_rfl) (by kernel_rfl) (fun _ _ _ h => h) (Or.inl ⟨by rfl, ?_⟩) (fun _ => by assumption) ?_
       rotate_left
       ·(intro w hSw; go_simp; try (with_reducible rfl))
       try go_frame
       refine anyM_take0 (i := 2) (v := ?_) rfl (by decide) (by kernel_rfl) (by kernel_rfl) (by kernel_rfl) (fun _ _ _ h => h) (Or.inl ⟨by rfl, ?_⟩) (fun _ => by assumption) ?_
       rotate_left
       ·(intro w hSw; go_simp; try (with_reducible rfl))
       try go_frame
       refine anyM_take0 (i := 3) (v := ?_) rfl (by decide) (by kernel_rfl) (by kernel_rfl) (by kernel_rfl) (fun _ _ _ h => h) (Or.inl ⟨by rfl, ?_⟩) (fun _ => by assumption) ?_
       rotate_left
       ·(intro w hSw; go_simp; try (with_reducible rfl))
       try go_frame
       refine anyM_take0 (i := 4) (v := ?_) rfl (by decide) (by kernel_rfl) (by kernel_rfl) (by kernel_rfl) (fun _ _ _ h => h) (Or.inl ⟨by rfl, ?_⟩) (fun _ => by assumption) ?_
       rotate_left
       ·(intro w hSw; go_simp; try (with_reducible rfl))
       try go_frame
       refine anyM_take0 (i := 6) (v := ?_) rfl (by decide) (by kernel_rfl) (by kernel_rfl) (by kernel_rfl) (fun _ _ _ h => h) (Or.inl ⟨by rfl, ?_⟩) (fun _ => by assumption) ?_
       rotate_left
       ·(intro w hSw; go_simp; try (with_reducible rfl))
       try go_frame
       refine anyM_take0 (i := 10) (v := ?_) rfl (by decide) (by kernel_rfl) (by kernel_rfl) (by kernel_rfl) (fun _ _ _ h => h) (Or.inl ⟨by rfl, ?_⟩) (fun _ => by assumption) ?_
       rotate_left
       ·(intro w hSw; go_simp; try (with_reducible rfl))
       try go_frame
       refine anyM_takeVia (i := 11) (k := 12) (v := ?_) rfl rfl rfl (by kernel_rfl) (by kernel_rfl) (by decide) (by decide) (by decide) (by kernel_rfl) (by kernel_rfl) (by kernel_rfl) (fun _ _ _ h => h) (Or.inl ⟨by rfl, ?_⟩) (by rfl) (by rfl) (by assumption) ?_
       rotate_left
       ·(intro w hSw; (try dsimp only at hSw); (try obtain ⟨⟨hs1, hs2, hs3, hs4, hs5, hs6, hs7, hs8⟩, hs9⟩ := hSw); go_simp; try (with_reducible rfl))
       try go_frame
       refine anyM_takeVia2 (i := 5) (k := 7) (q := 8) (v := ?_) rfl rfl rfl rfl (by kernel_rfl) (by kernel_rfl) (by kernel_rfl) (by decide) (by decide) (by decide) (by kernel_rfl) (by kernel_rfl) (by kernel_rfl) (fun _ _ _ h => h) (Or.inl ⟨by rfl, ?_⟩) (by rfl) (by rfl) (by rfl) (by assumption) ?_
       rotate_left
       ·(intro w hSw; (try dsimp only at hSw); (try obtain ⟨⟨hs1, hs2, hs3, hs4, hs5, hs6, hs7, hs8⟩, hs9⟩ := hSw); go_simp; try (with_reducible rfl))
       try go_frame
       refine anyM_ready (rs := [7]) (by kernel_rfl) (by simp) ?_
       refine ReadyM.cons rfl (fun K hK => ?_) ReadyM.nil
       go_simp
       refine ((HGD.out _ hv)).mono ?_
       rintro e w5 ⟨g5, c5, rfl, ho5, hq⟩
       have hv := below_up hv hq
       have hHeld := And.intro (HKX.out _ hv).1.nine.1 (HKX.out _ hv).2.four.1
       refine hK.out _ _ (fun _ => hHeld) ?_
       clear hK K
       try go_frame
       refine anyM_ready (rs := [8]) (by kernel_rfl) (by simp) ?_
       refine ReadyM.cons rfl (fun K hK => ?_) ReadyM.nil
       go_simp
       refine ((HCP.out g5 c5 _ ho5)).mono ?_
       rintro e w6 ⟨rfl, hq⟩
       have hv := below_up hv hq
       have hHeld := And.intro (HKX.out _ hv).1.nine.1 (HKX.out _ hv).2.four.1
       refine hK.out _ _ (fun _ => hHeld) ?_
       clear hK K
       try go_frame
       refine anyM_take0 (i := 9) (v := ?_) rfl (by decide) (by kernel_rfl) (by kernel_rfl) (by kernel_rfl) (fun _ _ _ h => h) (Or.inl ⟨by rfl, ?_⟩) (fun _ => by assumption) ?_
       rotate_left
       ·(intro w hSw; go_simp; try (with_reducible rfl))
       try go_frame
       refine anyM_take0 (i := 12) (v := ?_) rfl (by decide) (by kernel_rfl) (by kernel_rfl) (by kernel_rfl) (fun _ _ _ h => h) (Or.inl ⟨by rfl, ?_⟩) (fun _ => by assumption) ?_
       rotate_left
       ·(intro w hSw; go_simp; try (with_reducible rfl))
       try go_frame
       refine anyM_ready (rs := [13]) (by kernel_rfl) (by simp) ?_
       refine ReadyM.cons rfl (fun K hK => ?_) ReadyM.nil
       go_simp
       refine (HDD.out _ hv).mono ?_
       rintro e w9 ⟨rfl, b2, v2, hp2, ht2⟩
       refine hK.out _ _ (fun h => absurd h (by simp)) ?_
       clear hK K
       try go_frame
       refine anyM_done (by kernel_rfl) ?_ _
       have HP9 := Lib.hid hp2; have HT9 : Hid (Turned w w9 pb v v2) := Lib.hid ((HTU.out.trans HTJ.out).trans ((Turned.below hv pb v').trans ht2))
       clear hp2 ht2 hv hHeld hq ho5
       go_wp2_with fail
       go_ret
       exact ⟨rfl, b2, v2, by rw [HMM.out, St.mvs_snoc, HT'.out, ← List.append_assoc, HMV2.out]; exact HP9.out, HT9.out⟩
 ·cases q1 with
  | some u =>
    have hmo : mo = some u := by rw [hmo, if_pos (by simpa using hab)]; rfl
    subst hmo
    unfold TgPost at HT1
    go_upto_region 6 with (go_at_call 182; (with_reducible refine (HT1.out _ (below_up HBB.out hv)).mono ?_); rintro e w4 ⟨hq, vm, hrw, rfl⟩; have hv := below_up hv hq; obtain ⟨n0, n1, n2, n3, n4, n5, n6, n7⟩ := (HPL.out _ hv).nine.1; obtain ⟨l0, l1, l2⟩ := (HLB.out _ hv).three; obtain ⟨z0, z1, z2, z3⟩ := (HZB.out.keep hv).four; have zf := (HZB.out.keep hv).free)
    have hG := grown_set (grown_set (grown_set (grown_set (grown_self w4 (w.heap.size + 1)) 0 (.string u.name)) 1 (.int .i64 u.room)) 2 (.int .i64 u.cost)) 3 (.bool u.away)
    have hQX := (((((HZB.out.keep hv).set 0 (.string u.name)).set 1 (.int .i64 u.room)).set 2 (.int .i64 u.cost)).set 3 (.bool u.away))
    obtain ⟨X, hX⟩ : ∃ X, ((((w4.setCell ⟨w.heap.size + 1, 0, none⟩ (.string u.name)).setCell ⟨w.heap.size + 1, 1, none⟩ (.int .i64 u.room)).setCell ⟨w.heap.size + 1, 2, none⟩ (.int .i64 u.cost)).setCell ⟨w.heap.size + 1, 3, none⟩ (.bool u.away)) = X := ⟨_, rfl⟩
    rw [hX] at hG hQX ⊢
    have hX0 : Below w.heap.size W2 X := (below_less hv (by have := HSZ.out; omega)).trans (below_of_grownS hG (by have := hv.size; have := HSZ.out; omega) (by omega))
    have HPX := Lib.hid (HH.out.keep (HBB.out.trans hX0))
    have HTX : Hid (Turned w X pb v v) := Lib.hid (Turned.below (HBB.out.trans hX0) pb v)
    have HLX : Hid (Blk X w.heap.size #[.string d, .int .i64 mg, .int .i64 ma] 70) := Lib.hid ((HLB.out _ hv).of_block (hG.block _ (by have := hv.size; have := HSZ.out; omega) (by intro e; have := Option.some.inj e; omega)))
    have HQX : Hid (Blk X (w.heap.size + 1) #[.string u.name, .int .i64 u.room, .int .i64 u.cost, .bool u.away] 46) := Lib.hid hQX
    have HX0 := Lib.hid (HBB.out.trans hX0)
    have HXZ : Hid (w.heap.size + 2 ≤ X.heap.size) := Lib.hid (by have := hG.size; have := hv.size; have := HSZ.out; omega)
    have hrx := OwnV.off hrw (by have := HSZ.out; omega) hG
    have HRX := Lib.hid hrx
    clear hrw hrx hq
    clear n0 n1 n2 n3 n4 n5 n6 n7 l0 l1 l2 z0 z1 z2 z3 zf hv
    obtain ⟨n0, n1, n2, n3, n4, n5, n6, n7⟩ := HPX.out.blk.nine.1
    obtain ⟨l0, l1, l2⟩ := HLX.out.three
    clear hX hX0 hG hQX
    go_wp2_with fail
    go_quiet (fail)
    obtain ⟨X2, hX2⟩ : ∃ X2, X.drewN nq = X2 := ⟨_, rfl⟩
    have hb2 : Below X.heap.size X X2 := by rw [← hX2]; exact below_drewN (Below.refl _ _) _
    rw [hX2]
    have HP2 := Lib.hid (HPX.out.keep hb2)
    have HTU : Hid (Turned w X2 pb v v) := Lib.hid (HTX.out.trans (Turned.below hb2 pb v))
    have HQ2 := Lib.hid (HQX.out.keep hb2)
    have HR2 := Lib.hid (OwnV.keep HRX.out hb2)
    have HXS : Hid (w.heap.size + 2 ≤ X2.heap.size) := Lib.hid (by have := hb2.size; have := HXZ.out; omega)
    clear hX2 hb2
    obtain ⟨hgr, hgl, hch, htr, hnc, hmE, hrR, _⟩ := HMG.out u rfl
    have hmz := St.evM_size HR.out (HMP.out u rfl) (St.sizeOf t.files d)
    have hmk := St.drop_kind t u (St.sizeOf t.files d)
    have hml := St.evM_len t u (St.sizeOf t.files d)
    have hcl := (St.sizes_iff.1 HR.out.sizes).2.2.2.1
    obtain ⟨mv, hmv⟩ : ∃ mv : Mov, mv = ⟨1, d, (St.cheap (St.goodL t d)).name, u.name⟩ := ⟨_, rfl⟩
    have hmm : St.morM t d u = St.evM t u (St.sizeOf t.files d) ++ [mv] := by rw [hmv]; rfl
    rw [← hmv] at hmE
    obtain ⟨M, hM⟩ : ∃ M, St.evM t u (St.sizeOf t.files d) = M := ⟨_, rfl⟩
    rw [hM] at hgr hgl hch hnc hmE hmz hmk hml hmm HR2
    have HGR := Lib.hid hgr; have HGL := Lib.hid hgl; have HME := Lib.hid hmE; have HMZ := Lib.hid hmz; have HMK := Lib.hid hmk; have HMM := Lib.hid hmm; have HMV := Lib.hid hmv
    have hMl : ms.length + M.length ≤ 810000 := by have := HNM.out; omega
    obtain ⟨gm, cm, rfl⟩ := ownV_slice HR2.out
    obtain ⟨n, hn⟩ : ∃ n, M.length = n := ⟨_, rfl⟩
    have HN := Lib.hid hn
    have hcm := HR2.out.caps
    rw [hn] at HR2 hMl hcm ⊢
    clear hgr hgl hch htr hnc hmE hrR hmz hmk hml hcl hmv hmm hM hn n0 n1 n2 n3 n4 n5 n6 n7 l0 l1 l2
    go_wp2_with fail
    go_loopg [52] n (fun gk i wr => ∃ (j : Nat) (b' : StA) (v' : Value), j ≤ n ∧ gk = n - j ∧ i = .int .i64 j ∧ PlnIn wr pb B mb (St.mvs t (M.take j)) (ms ++ M.take j) b' v' ∧ Turned X2 wr pb v v')
    case atStart => exact ⟨0, b, v, by omega, rfl, rfl, by simpa [St.mvs] using HP2.out, Turned.refl _ _ _⟩
    case round =>
     obtain ⟨j, b', v', hj, rfl, rfl, hp, ht⟩ := hrel
     have HPJ := Lib.hid hp; have HTJ := Lib.hid ht
     by_cases hlt : j < n
     ·obtain ⟨x, hx⟩ : ∃ x, M[j]? = some x := ⟨_, List.getElem?_eq_getElem (by rw [HN.out]; exact hlt)⟩
      have hrw := Turned.row2 ht HR2.out (fun g hg => by have := (HH.out.row.lt g hg).2; have := HSZ.out; omega) (by have := HSZ.out; omega)
      obtain ⟨b1, off, ha, hb, hcell⟩ := (RowE.ofV (E := St.eM) (ca := cm) (L := M) (by rw [HN.out]; exact hrw)) (by rw [HN.out]; omega)
      have c0 : wr.cell? ⟨b1, off + j * 4, none⟩ = some (.int .i64 x.kind) := hcell j x hx 0 (.int .i64 x.kind) rfl
      have c1 : wr.cell? ⟨b1, off + j * 4 + 1, none⟩ = some (.string x.dig) := hcell j x hx 1 (.string x.dig) rfl
      have c2 : wr.cell? ⟨b1, off + j * 4 + 2, none⟩ = some (.string x.frm) := hcell j x hx 2 (.string x.frm) rfl
      have c3 : wr.cell? ⟨b1, off + j * 4 + 3, none⟩ = some (.string x.dst) := hcell j x hx 3 (.string x.dst) rfl
      have hmem := List.mem_of_getElem? hx
      have htk : M.take (j + 1) = M.take j ++ [x] := by rw [List.take_add_one, hx]; rfl
      have HTK := Lib.hid htk
      obtain ⟨W3, hW3, hX3, hz3, hB3⟩ := box wr #[.int .i64 x.kind, .string x.dig, .string x.frm, .string x.dst] 52
      have HW3 := Lib.hid hW3; have HB3 := Lib.hid hB3
      obtain ⟨e0, e1, e2, e3⟩ := hX3.four
      have hbl : B ≤ W3.heap.size := by have := hB3.size; have := ht.le; have := HXS.out; have := HSZ.out; omega
      have HDD := Lib.hid (did_is (St.mvs t (M.take j)) b' mb pb B x (ms ++ M.take j) v' W3 (hp.keep hB3) (by rw [List.length_append, List.length_take]; omega) hbl (HGR.out (M.take j) (M.drop j) (List.take_append_drop j M).symm) (HMZ.out x hmem) (.inl (HMK.out x hmem)))
      unfold DidOk at HDD
      have hj0 : (0 : Int) ≤ (j : Int) := by omega
      have hj1 : (j : Int) < (n : Int) := by omega
      clear hp ht hrw hcell hmem htk hW3 hX3 hz3 hB3 hx hbl
      rw [ha]
      go_upto_region 13 with fail
      rw [HW3.out]
      go_wp2_with (go_at_call 121; (with_reducible refine HDD.out.mono ?_); rintro e w5 ⟨rfl, b2, v2, hp2, ht2⟩)
      rw [← ha]
      go_roundg (n - (j + 1))
      case rel => exact ⟨j + 1, b2, v2, by omega, rfl, by go_num, by rw [HTK.out, St.mvs_snoc, ← List.append_assoc]; exact hp2, (HTJ.out.trans (Turned.below HB3.out pb v')).trans ht2⟩
      case measure => omega
     ·obtain rfl : j = n := by omega
      have hta : M.take j = M := by rw [← HN.out]; exact List.take_length
      rw [hta] at HPJ
      have hrr := HGR.out M [] (List.append_nil M).symm
      obtain ⟨t', ht'⟩ : ∃ t', St.mvs t M = t' := ⟨_, rfl⟩
      have HT' := Lib.hid ht'
      rw [ht'] at HPJ HGL HME hrr
      obtain ⟨GL, hGL⟩ : ∃ GL, St.goodL t d = GL := ⟨_, rfl⟩
      have hGlen : GL.length ≤ 8 := by have h1 := St.goodL_len t d; have h2 := (St.sizes_iff.1 HR.out.sizes).2.1; rw [hGL] at h1; omega
      have hGpos := HGP.out
      have hmvv := HMV.out
      rw [hGL] at HGL hGpos hmvv
      have hcm2 := St.cheap_mem (L := GL) (by intro e; rw [e] at hGpos; exact absurd hGpos (by decide))
      have hctm : St.cheap GL ∈ t.tiers := by have := hcm2; rw [← hGL] at this ⊢; exact (List.mem_filter.1 this).1
      obtain ⟨c, hc⟩ : ∃ c, St.cheap GL = c := ⟨_, rfl⟩
      have hz40 := St.name40 (St.tier_good HR.out hctm).1
      have hzu := St.name40 (St.tier_good HR.out (HMP.out u rfl)).1
      rw [hc] at hmvv hz40
      have hmz : mv.dig.size ≤ 1048576 ∧ mv.frm.size ≤ 1048576 ∧ mv.dst.size ≤ 1048576 := by rw [hmvv]; exact ⟨by show d.size ≤ _; omega, by show c.name.size ≤ _; omega, by show u.name.size ≤ _; omega⟩
      have HIJ := Lib.hid (HPJ.out.own.in_ (StSz.right hrr))
      have HGD := Lib.hid (fun V (hv : Below wr.heap.size wr V) => good_is t' b' mb d V (HIJ.out.keep hv) hrr hd)
      unfold TirPost at HGD
      rw [HGL.out] at HGD
      have HCP := Lib.hid (fun (g : Option Addr) (cap : Nat) V (ho : OwnV V wr.heap.size 46 4 (.slice g GL.length cap) GL.length (St.eT.flat GL)) => cheapest_is GL hGpos (by omega) g cap V (RowE.ofV (E := St.eT) (ca := cap) ho))
      rw [hc] at HCP
      have hbj : B ≤ wr.heap.size := by have := HTJ.out.le; have := HXS.out; have := HSZ.out; omega
      have HDD := Lib.hid (fun V (hv : Below wr.heap.size wr V) => did_is t' b' mb pb B mv (ms ++ M) v' V (HPJ.out.keep hv) (by rw [List.length_append, HN.out]; omega) (by have := hv.size; omega) hrr hmz (.inr HME.out))
      rw [hmvv] at HDD
      unfold DidOk at HDD
      dsimp only at HDD
      have hqj := Turned.blk HTJ.out HP2.out.row HQ2.out (by have := HSZ.out; omega) (by decide)
      have HKX : Hid (∀ V, Below wr.heap.size wr V → Blk V pb #[.int .i64 t'.least, .int .i64 t'.wait, .slice b'.ta t'.tiers.length b'.tc, .slice b'.fa t'.files.length b'.fc, .slice b'.ca t'.copies.length b'.cc, .slice b'.ha t'.held.length b'.hc, .slice b'.ba t'.bin.length b'.bc, .map (some mb), v'] 161 ∧ Blk V (w.heap.size + 1) #[.string u.name, .int .i64 u.room, .int .i64 u.cost, .bool u.away] 46) := Lib.hid fun V hv => ⟨HPJ.out.blk.keep hv, hqj.keep hv⟩
      have HMV2 := Lib.hid hmvv
      obtain ⟨ng, hng⟩ : ∃ ng, GL.length = ng := ⟨_, rfl⟩
      rw [hng] at HGD HCP
      have hfn := fldName
      clear hp ht hta hrr ht' hGL hGlen hGpos hcm2 hctm hc hz40 hzu hmz hbj hqj hmvv hng
      have hv : Below wr.heap.size wr wr.drew := (Below.refl _ _).drew
      have hHeld := And.intro (HKX.out _ hv).1.nine.1 (HKX.out _ hv).2.four.1
      go_upto_region 15 with fail
      refine wp_region_until (fun W => (W.cell? ⟨pb, 0, none⟩ = some (.int .i64 t'.least) ∧ W.cell? ⟨pb, 1, none⟩ = some (.int .i64 t'.wait) ∧ W.cell? ⟨pb, 2, none⟩ = some (.slice b'.ta t'.tiers.length b'.tc) ∧ W.cell? ⟨pb, 3, none⟩ = some (.slice b'.fa t'.files.length b'.fc) ∧ W.cell? ⟨pb, 4, none⟩ = some (.slice b'.ca t'.copies.length b'.cc) ∧ W.cell? ⟨pb, 5, none⟩ = some (.slice b'.ha t'.held.length b'.hc) ∧ W.cell? ⟨pb, 6, none⟩ = some (.slice b'.ba t'.bin.length b'.bc) ∧ W.cell? ⟨pb, 7, none⟩ = some (.map (some mb))) ∧ W.cell? ⟨w.heap.size + 1, 0, none⟩ = some (.string u.name)) 13 (by kernel_rfl) ?_
      refine anyM_take0 (i := 0) (v := ?_) rfl (by decide) (by kernel_rfl) (by kernel_rfl) (by kernel_rfl) (fun _ _ _ h => h) (Or.inl ⟨by rfl, ?_⟩) (fun _ => by assumption) ?_
      rotate_left
      ·(intro w hSw; go_simp; try (with_reducible rfl))
      try go_frame
      refine anyM_take0 (i := 1) (v := ?_) rfl (by decide) (by kernel_rfl) (by kernel_rfl) (by kernel_rfl) (fun _ _ _ h => h) (Or.inl ⟨by rfl, ?_⟩) (fun _ => by assumption) ?_
      rotate_left
      ·(intro w hSw; go_simp; try (with_reducible rfl))
      try go_frame
      refine anyM_take0 (i := 2) (v := ?_) rfl (by decide) (by kernel_rfl) (by kernel_rfl) (by kernel_rfl) (fun _ _ _ h => h) (Or.inl ⟨by rfl, ?_⟩) (fun _ => by assumption) ?_
      rotate_left
      ·(intro w hSw; go_simp; try (with_reducible rfl))
      try go_frame
      refine anyM_take0 (i := 3) (v := ?_) rfl (by decide) (by kernel_rfl) (by kernel_rfl) (by kernel_rfl) (fun _ _ _ h => h) (Or.inl ⟨by rfl, ?_⟩) (fun _ => by assumption) ?_
      rotate_left
      ·(intro w hSw; go_simp; try (with_reducible rfl))
      try go_frame
      refine anyM_take0 (i := 4) (v := ?_) rfl (by decide) (by kernel_rfl) (by kernel_rfl) (by kernel_rfl) (fun _ _ _ h => h) (Or.inl ⟨by rfl, ?_⟩) (fun _ => by assumption) ?_
      rotate_left
      ·(intro w hSw; go_simp; try (with_reducible rfl))
      try go_frame
      refine anyM_take0 (i := 6) (v := ?_) rfl (by decide) (by kernel_rfl) (by kernel_rfl) (by kernel_rfl) (fun _ _ _ h => h) (Or.inl ⟨by rfl, ?_⟩) (fun _ => by assumption) ?_
      rotate_left
      ·(intro w hSw; go_simp; try (with_reducible rfl))
      try go_frame
      refine anyM_take0 (i := 10) (v := ?_) rfl (by decide) (by kernel_rfl) (by kernel_rfl) (by kernel_rfl) (fun _ _ _ h => h) (Or.inl ⟨by rfl, ?_⟩) (fun _ => by assumption) ?_
      rotate_left
      ·(intro w hSw; go_simp; try (with_reducible rfl))
      try go_frame
      refine anyM_takeVia (i := 11) (k := 12) (v := ?_) rfl rfl rfl (by kernel_rfl) (by kernel_rfl) (by decide) (by decide) (by decide) (by kernel_rfl) (by kernel_rfl) (by kernel_rfl) (fun _ _ _ h => h) (Or.inl ⟨by rfl, ?_⟩) (by rfl) (by rfl) (by assumption) ?_
      rotate_left
      ·(intro w hSw; (try dsimp only at hSw); (try obtain ⟨⟨hs1, hs2, hs3, hs4, hs5, hs6, hs7, hs8⟩, hs9⟩ := hSw); go_simp; try (with_reducible rfl))
      try go_frame
      refine anyM_takeVia2 (i := 5) (k := 7) (q := 8) (v := ?_) rfl rfl rfl rfl (by kernel_rfl) (by kernel_rfl) (by kernel_rfl) (by decide) (by decide) (by decide) (by kernel_rfl) (by kernel_rfl) (by kernel_rfl) (fun _ _ _ h => h) (Or.inl ⟨by rfl, ?_⟩) (by rfl) (by rfl) (by rfl) (by assumption) ?_
      rotate_left
      ·(intro w hSw; (try dsimp only at hSw); (try obtain ⟨⟨hs1, hs2, hs3, hs4, hs5, hs6, hs7, hs8⟩, hs9⟩ := hSw); go_simp; try (with_reducible rfl))
      try go_frame
      refine anyM_ready (rs := [7]) (by kernel_rfl) (by simp) ?_
      refine ReadyM.cons rfl (fun K hK => ?_) ReadyM.nil
      go_simp
      refine ((HGD.out _ hv)).mono ?_
      rintro e w5 ⟨g5, c5, rfl, ho5, hq⟩
      have hv := below_up hv hq
      have hHeld := And.intro (HKX.out _ hv).1.nine.1 (HKX.out _ hv).2.four.1
      refine hK.out _ _ (fun _ => hHeld) ?_
      clear hK K
      try go_frame
      refine anyM_ready (rs := [8]) (by kernel_rfl) (by simp) ?_
      refine ReadyM.cons rfl (fun K hK => ?_) ReadyM.nil
      go_simp
      refine ((HCP.out g5 c5 _ ho5)).mono ?_
      rintro e w6 ⟨rfl, hq⟩
      have hv := below_up hv hq
      have hHeld := And.intro (HKX.out _ hv).1.nine.1 (HKX.out _ hv).2.four.1
      refine hK.out _ _ (fun _ => hHeld) ?_
      clear hK K
      try go_frame
      refine anyM_take0 (i := 9) (v := ?_) rfl (by decide) (by kernel_rfl) (by kernel_rfl) (by kernel_rfl) (fun _ _ _ h => h) (Or.inl ⟨by rfl, ?_⟩) (fun _ => by assumption) ?_
      rotate_left
      ·(intro w hSw; go_simp; try (with_reducible rfl))
      try go_frame
      refine anyM_take0 (i := 12) (v := ?_) rfl (by decide) (by kernel_rfl) (by kernel_rfl) (by kernel_rfl) (fun _ _ _ h => h) (Or.inl ⟨by rfl, ?_⟩) (fun _ => by assumption) ?_
      rotate_left
      ·(intro w hSw; go_simp; try (with_reducible rfl))
      try go_frame
      refine anyM_ready (rs := [13]) (by kernel_rfl) (by simp) ?_
      refine ReadyM.cons rfl (fun K hK => ?_) ReadyM.nil
      go_simp
      refine (HDD.out _ hv).mono ?_
      rintro e w9 ⟨rfl, b2, v2, hp2, ht2⟩
      refine hK.out _ _ (fun h => absurd h (by simp)) ?_
      clear hK K
      try go_frame
      refine anyM_done (by kernel_rfl) ?_ _
      have HP9 := Lib.hid hp2; have HT9 : Hid (Turned w w9 pb v v2) := Lib.hid ((HTU.out.trans HTJ.out).trans ((Turned.below hv pb v').trans ht2))
      clear hp2 ht2 hv hHeld hq ho5
      go_wp2_with fail
      go_ret
      exact ⟨rfl, b2, v2, by rw [HMM.out, St.mvs_snoc, HT'.out, ← List.append_assoc, HMV2.out]; exact HP9.out, HT9.out⟩
  | none =>
    have hmo : mo = if mg < t.least then q2 else none := by rw [hmo, if_pos (by simpa using hab)]; rfl
    unfold TgPost at HT1
    go_upto_region 6 with (go_at_call 182; (with_reducible refine (HT1.out _ (below_up HBB.out hv)).mono ?_); rintro e w4 ⟨hq, rfl⟩; have hv := below_up hv hq; obtain ⟨n0, n1, n2, n3, n4, n5, n6, n7⟩ := (HPL.out _ hv).nine.1; obtain ⟨l0, l1, l2⟩ := (HLB.out _ hv).three; obtain ⟨z0, z1, z2, z3⟩ := (HZB.out.keep hv).four; have zf := (HZB.out.keep hv).free)
    have hG := grown_set (grown_set (grown_set (grown_set (grown_self w4 (w.heap.size + 1)) 0 (.string ⟨#[]⟩)) 1 (.int .i64 0)) 2 (.int .i64 0)) 3 (.bool false)
    have hQX := (((((HZB.out.keep hv).set 0 (.string ⟨#[]⟩)).set 1 (.int .i64 0)).set 2 (.int .i64 0)).set 3 (.bool false))
    obtain ⟨X, hX⟩ : ∃ X, ((((w4.setCell ⟨w.heap.size + 1, 0, none⟩ (.string ⟨#[]⟩)).setCell ⟨w.heap.size + 1, 1, none⟩ (.int .i64 0)).setCell ⟨w.heap.size + 1, 2, none⟩ (.int .i64 0)).setCell ⟨w.heap.size + 1, 3, none⟩ (.bool false)) = X := ⟨_, rfl⟩
    rw [hX] at hG hQX ⊢
    have hX0 : Below w.heap.size W2 X := (below_less hv (by have := HSZ.out; omega)).trans (below_of_grownS hG (by have := hv.size; have := HSZ.out; omega) (by omega))
    have HPX := Lib.hid (HH.out.keep (HBB.out.trans hX0))
    have HTX : Hid (Turned w X pb v v) := Lib.hid (Turned.below (HBB.out.trans hX0) pb v)
    have HLX : Hid (Blk X w.heap.size #[.string d, .int .i64 mg, .int .i64 ma] 70) := Lib.hid ((HLB.out _ hv).of_block (hG.block _ (by have := hv.size; have := HSZ.out; omega) (by intro e; have := Option.some.inj e; omega)))
    have HQX : Hid (Blk X (w.heap.size + 1) #[.string ⟨#[]⟩, .int .i64 0, .int .i64 0, .bool false] 46) := Lib.hid hQX
    have HX0 := Lib.hid (HBB.out.trans hX0)
    have HXZ : Hid (w.heap.size + 2 ≤ X.heap.size) := Lib.hid (by have := hG.size; have := hv.size; have := HSZ.out; omega)
    clear hq
    clear n0 n1 n2 n3 n4 n5 n6 n7 l0 l1 l2 z0 z1 z2 z3 zf hv
    obtain ⟨n0, n1, n2, n3, n4, n5, n6, n7⟩ := HPX.out.blk.nine.1
    obtain ⟨l0, l1, l2⟩ := HLX.out.three
    clear hX hX0 hG hQX
    cases gb
    ·have hgp : (mg < t.least) = False := by simpa using hgb
     have hmn : mo = none := by rw [hmo, if_neg (by rw [hgp]; exact id)]
     subst hmn
     clear hmo
     go_wp2_with fail
     go_quiet (fail)
     go_wp2_with fail
     go_ret
     exact ⟨rfl, b, v, HPX.out.keep (below_drewN (Below.refl _ _) _), HTX.out.trans (Turned.below (below_drewN (Below.refl _ _) _) pb v)⟩
    ·have hgp : (mg < t.least) = True := by simpa using hgb
     have hmn : mo = q2 := by rw [hmo, if_pos (by rw [hgp]; trivial)]
     clear hmo
     go_wp2_with fail
     go_quiet (fail)
     obtain ⟨Xd, hXd⟩ : ∃ Xd, X.drewN nq = Xd := ⟨_, rfl⟩
     have hv : Below X.heap.size X Xd := by rw [← hXd]; exact below_drewN (Below.refl _ _) _
     rw [hXd]
     have hxd : w.heap.size + 2 ≤ Xd.heap.size := by have := hv.size; have := HXZ.out; omega
     have HXB := Lib.hid (below_up HX0.out hv)
     clear n0 n1 n2 n3 n4 n5 n6 n7 l0 l1 l2 hXd
     obtain ⟨n0, n1, n2, n3, n4, n5, n6, n7⟩ := (HPX.out.keep hv).blk.nine.1
     cases q2 with
     | none =>
       subst hmn
       unfold TgPost at HT2
       go_upto_region 8 with (go_at_call 182; (with_reducible refine (HT2.out _ HXB.out).mono ?_); rintro e w6 ⟨hq, rfl⟩; have hv := below_up hv hq; obtain ⟨n0, n1, n2, n3, n4, n5, n6, n7⟩ := (HPX.out.keep hv).blk.nine.1; obtain ⟨z0, z1, z2, z3⟩ := (HQX.out.keep hv).four; have zf := (HQX.out.keep hv).free)
       have hG := grown_set (grown_set (grown_set (grown_set (grown_self w6 (w.heap.size + 1)) 0 (.string ⟨#[]⟩)) 1 (.int .i64 0)) 2 (.int .i64 0)) 3 (.bool false)
       have hQY := (((((HQX.out.keep hv).set 0 (.string ⟨#[]⟩)).set 1 (.int .i64 0)).set 2 (.int .i64 0)).set 3 (.bool false))
       obtain ⟨X2, hX2⟩ : ∃ X2, ((((w6.setCell ⟨w.heap.size + 1, 0, none⟩ (.string ⟨#[]⟩)).setCell ⟨w.heap.size + 1, 1, none⟩ (.int .i64 0)).setCell ⟨w.heap.size + 1, 2, none⟩ (.int .i64 0)).setCell ⟨w.heap.size + 1, 3, none⟩ (.bool false)) = X2 := ⟨_, rfl⟩
       rw [hX2] at hG hQY ⊢
       have hX02 : Below w.heap.size X X2 := (below_less hv (by have := HXZ.out; omega)).trans (below_of_grownS hG (by have := hv.size; have := HXZ.out; omega) (by omega))
       have HP2 := Lib.hid (HH.out.keep (HX0.out.trans hX02))
       have HTU : Hid (Turned w X2 pb v v) := Lib.hid (Turned.below (HX0.out.trans hX02) pb v)
       have HQ2 : Hid (Blk X2 (w.heap.size + 1) #[.string ⟨#[]⟩, .int .i64 0, .int .i64 0, .bool false] 46) := Lib.hid hQY
       have HXS : Hid (w.heap.size + 2 ≤ X2.heap.size) := Lib.hid (by have := hG.size; have := hv.size; have := HXZ.out; omega)
       clear n0 n1 n2 n3 n4 n5 n6 n7 z0 z1 z2 z3 zf hv hG hQY hX2 hX02 hq
       go_wp2_with fail
       go_ret
       exact ⟨rfl, b, v, HP2.out, HTU.out⟩
     | some u =>
       subst hmn
       unfold TgPost at HT2
       go_upto_region 8 with (go_at_call 182; (with_reducible refine (HT2.out _ HXB.out).mono ?_); rintro e w6 ⟨hq, vm, hrw, rfl⟩; have hv := below_up hv hq; obtain ⟨n0, n1, n2, n3, n4, n5, n6, n7⟩ := (HPX.out.keep hv).blk.nine.1; obtain ⟨z0, z1, z2, z3⟩ := (HQX.out.keep hv).four; have zf := (HQX.out.keep hv).free)
       have hG := grown_set (grown_set (grown_set (grown_set (grown_self w6 (w.heap.size + 1)) 0 (.string u.name)) 1 (.int .i64 u.room)) 2 (.int .i64 u.cost)) 3 (.bool u.away)
       have hQY := (((((HQX.out.keep hv).set 0 (.string u.name)).set 1 (.int .i64 u.room)).set 2 (.int .i64 u.cost)).set 3 (.bool u.away))
       obtain ⟨X2, hX2⟩ : ∃ X2, ((((w6.setCell ⟨w.heap.size + 1, 0, none⟩ (.string u.name)).setCell ⟨w.heap.size + 1, 1, none⟩ (.int .i64 u.room)).setCell ⟨w.heap.size + 1, 2, none⟩ (.int .i64 u.cost)).setCell ⟨w.heap.size + 1, 3, none⟩ (.bool u.away)) = X2 := ⟨_, rfl⟩
       rw [hX2] at hG hQY ⊢
       have hX02 : Below w.heap.size X X2 := (below_less hv (by have := HXZ.out; omega)).trans (below_of_grownS hG (by have := hv.size; have := HXZ.out; omega) (by omega))
       have HP2 := Lib.hid (HH.out.keep (HX0.out.trans hX02))
       have HTU : Hid (Turned w X2 pb v v) := Lib.hid (Turned.below (HX0.out.trans hX02) pb v)
       have HQ2 : Hid (Blk X2 (w.heap.size + 1) #[.string u.name, .int .i64 u.room, .int .i64 u.cost, .bool u.away] 46) := Lib.hid hQY
       have HXS : Hid (w.heap.size + 2 ≤ X2.heap.size) := Lib.hid (by have := hG.size; have := hv.size; have := HXZ.out; omega)
       have hrx := OwnV.off hrw (by omega) hG
       have HR2 := Lib.hid hrx
       clear hrw hrx hq hX2 hX02 hG hQY hv z0 z1 z2 z3 zf
       have l0 := True.intro; have l1 := True.intro; have l2 := True.intro
       obtain ⟨hgr, hgl, hch, htr, hnc, hmE, hrR, _⟩ := HMG.out u rfl
       have hmz := St.evM_size HR.out (HMP.out u rfl) (St.sizeOf t.files d)
       have hmk := St.drop_kind t u (St.sizeOf t.files d)
       have hml := St.evM_len t u (St.sizeOf t.files d)
       have hcl := (St.sizes_iff.1 HR.out.sizes).2.2.2.1
       obtain ⟨mv, hmv⟩ : ∃ mv : Mov, mv = ⟨1, d, (St.cheap (St.goodL t d)).name, u.name⟩ := ⟨_, rfl⟩
       have hmm : St.morM t d u = St.evM t u (St.sizeOf t.files d) ++ [mv] := by rw [hmv]; rfl
       rw [← hmv] at hmE
       obtain ⟨M, hM⟩ : ∃ M, St.evM t u (St.sizeOf t.files d) = M := ⟨_, rfl⟩
       rw [hM] at hgr hgl hch hnc hmE hmz hmk hml hmm HR2
       have HGR := Lib.hid hgr; have HGL := Lib.hid hgl; have HME := Lib.hid hmE; have HMZ := Lib.hid hmz; have HMK := Lib.hid hmk; have HMM := Lib.hid hmm; have HMV := Lib.hid hmv
       have hMl : ms.length + M.length ≤ 810000 := by have := HNM.out; omega
       obtain ⟨gm, cm, rfl⟩ := ownV_slice HR2.out
       obtain ⟨n, hn⟩ : ∃ n, M.length = n := ⟨_, rfl⟩
       have HN := Lib.hid hn
       have hcm := HR2.out.caps
       rw [hn] at HR2 hMl hcm ⊢
       clear hgr hgl hch htr hnc hmE hrR hmz hmk hml hcl hmv hmm hM hn n0 n1 n2 n3 n4 n5 n6 n7 l0 l1 l2
       go_wp2_with fail
       go_loopg [52] n (fun gk i wr => ∃ (j : Nat) (b' : StA) (v' : Value), j ≤ n ∧ gk = n - j ∧ i = .int .i64 j ∧ PlnIn wr pb B mb (St.mvs t (M.take j)) (ms ++ M.take j) b' v' ∧ Turned X2 wr pb v v')
       case atStart => exact ⟨0, b, v, by omega, rfl, rfl, by simpa [St.mvs] using HP2.out, Turned.refl _ _ _⟩
       case round =>
        obtain ⟨j, b', v', hj, rfl, rfl, hp, ht⟩ := hrel
        have HPJ := Lib.hid hp; have HTJ := Lib.hid ht
        by_cases hlt : j < n
        ·obtain ⟨x, hx⟩ : ∃ x, M[j]? = some x := ⟨_, List.getElem?_eq_getElem (by rw [HN.out]; exact hlt)⟩
         have hrw := Turned.row2 ht HR2.out (fun g hg => by have := (HH.out.row.lt g hg).2; have := HSZ.out; omega) (by have := HSZ.out; omega)
         obtain ⟨b1, off, ha, hb, hcell⟩ := (RowE.ofV (E := St.eM) (ca := cm) (L := M) (by rw [HN.out]; exact hrw)) (by rw [HN.out]; omega)
         have c0 : wr.cell? ⟨b1, off + j * 4, none⟩ = some (.int .i64 x.kind) := hcell j x hx 0 (.int .i64 x.kind) rfl
         have c1 : wr.cell? ⟨b1, off + j * 4 + 1, none⟩ = some (.string x.dig) := hcell j x hx 1 (.string x.dig) rfl
         have c2 : wr.cell? ⟨b1, off + j * 4 + 2, none⟩ = some (.string x.frm) := hcell j x hx 2 (.string x.frm) rfl
         have c3 : wr.cell? ⟨b1, off + j * 4 + 3, none⟩ = some (.string x.dst) := hcell j x hx 3 (.string x.dst) rfl
         have hmem := List.mem_of_getElem? hx
         have htk : M.take (j + 1) = M.take j ++ [x] := by rw [List.take_add_one, hx]; rfl
         have HTK := Lib.hid htk
         obtain ⟨W3, hW3, hX3, hz3, hB3⟩ := box wr #[.int .i64 x.kind, .string x.dig, .string x.frm, .string x.dst] 52
         have HW3 := Lib.hid hW3; have HB3 := Lib.hid hB3
         obtain ⟨e0, e1, e2, e3⟩ := hX3.four
         have hbl : B ≤ W3.heap.size := by have := hB3.size; have := ht.le; have := HXS.out; have := HSZ.out; omega
         have HDD := Lib.hid (did_is (St.mvs t (M.take j)) b' mb pb B x (ms ++ M.take j) v' W3 (hp.keep hB3) (by rw [List.length_append, List.length_take]; omega) hbl (HGR.out (M.take j) (M.drop j) (List.take_append_drop j M).symm) (HMZ.out x hmem) (.inl (HMK.out x hmem)))
         unfold DidOk at HDD
         have hj0 : (0 : Int) ≤ (j : Int) := by omega
         have hj1 : (j : Int) < (n : Int) := by omega
         clear hp ht hrw hcell hmem htk hW3 hX3 hz3 hB3 hx hbl
         rw [ha]
         go_upto_region 13 with fail
         rw [HW3.out]
         go_wp2_with (go_at_call 121; (with_reducible refine HDD.out.mono ?_); rintro e w5 ⟨rfl, b2, v2, hp2, ht2⟩)
         rw [← ha]
         go_roundg (n - (j + 1))
         case rel => exact ⟨j + 1, b2, v2, by omega, rfl, by go_num, by rw [HTK.out, St.mvs_snoc, ← List.append_assoc]; exact hp2, (HTJ.out.trans (Turned.below HB3.out pb v')).trans ht2⟩
         case measure => omega
        ·obtain rfl : j = n := by omega
         have hta : M.take j = M := by rw [← HN.out]; exact List.take_length
         rw [hta] at HPJ
         have hrr := HGR.out M [] (List.append_nil M).symm
         obtain ⟨t', ht'⟩ : ∃ t', St.mvs t M = t' := ⟨_, rfl⟩
         have HT' := Lib.hid ht'
         rw [ht'] at HPJ HGL HME hrr
         obtain ⟨GL, hGL⟩ : ∃ GL, St.goodL t d = GL := ⟨_, rfl⟩
         have hGlen : GL.length ≤ 8 := by have h1 := St.goodL_len t d; have h2 := (St.sizes_iff.1 HR.out.sizes).2.1; rw [hGL] at h1; omega
         have hGpos := HGP.out
         have hmvv := HMV.out
         rw [hGL] at HGL hGpos hmvv
         have hcm2 := St.cheap_mem (L := GL) (by intro e; rw [e] at hGpos; exact absurd hGpos (by decide))
         have hctm : St.cheap GL ∈ t.tiers := by have := hcm2; rw [← hGL] at this ⊢; exact (List.mem_filter.1 this).1
         obtain ⟨c, hc⟩ : ∃ c, St.cheap GL = c := ⟨_, rfl⟩
         have hz40 := St.name40 (St.tier_good HR.out hctm).1
         have hzu := St.name40 (St.tier_good HR.out (HMP.out u rfl)).1
         rw [hc] at hmvv hz40
         have hmz : mv.dig.size ≤ 1048576 ∧ mv.frm.size ≤ 1048576 ∧ mv.dst.size ≤ 1048576 := by rw [hmvv]; exact ⟨by show d.size ≤ _; omega, by show c.name.size ≤ _; omega, by show u.name.size ≤ _; omega⟩
         have HIJ := Lib.hid (HPJ.out.own.in_ (StSz.right hrr))
         have HGD := Lib.hid (fun V (hv : Below wr.heap.size wr V) => good_is t' b' mb d V (HIJ.out.keep hv) hrr hd)
         unfold TirPost at HGD
         rw [HGL.out] at HGD
         have HCP := Lib.hid (fun (g : Option Addr) (cap : Nat) V (ho : OwnV V wr.heap.size 46 4 (.slice g GL.length cap) GL.length (St.eT.flat GL)) => cheapest_is GL hGpos (by omega) g cap V (RowE.ofV (E := St.eT) (ca := cap) ho))
         rw [hc] at HCP
         have hbj : B ≤ wr.heap.size := by have := HTJ.out.le; have := HXS.out; have := HSZ.out; omega
         have HDD := Lib.hid (fun V (hv : Below wr.heap.size wr V) => did_is t' b' mb pb B mv (ms ++ M) v' V (HPJ.out.keep hv) (by rw [List.length_append, HN.out]; omega) (by have := hv.size; omega) hrr hmz (.inr HME.out))
         rw [hmvv] at HDD
         unfold DidOk at HDD
         dsimp only at HDD
         have hqj := Turned.blk HTJ.out HP2.out.row HQ2.out (by have := HSZ.out; omega) (by decide)
         have HKX : Hid (∀ V, Below wr.heap.size wr V → Blk V pb #[.int .i64 t'.least, .int .i64 t'.wait, .slice b'.ta t'.tiers.length b'.tc, .slice b'.fa t'.files.length b'.fc, .slice b'.ca t'.copies.length b'.cc, .slice b'.ha t'.held.length b'.hc, .slice b'.ba t'.bin.length b'.bc, .map (some mb), v'] 161 ∧ Blk V (w.heap.size + 1) #[.string u.name, .int .i64 u.room, .int .i64 u.cost, .bool u.away] 46) := Lib.hid fun V hv => ⟨HPJ.out.blk.keep hv, hqj.keep hv⟩
         have HMV2 := Lib.hid hmvv
         obtain ⟨ng, hng⟩ : ∃ ng, GL.length = ng := ⟨_, rfl⟩
         rw [hng] at HGD HCP
         have hfn := fldName
         clear hp ht hta hrr ht' hGL hGlen hGpos hcm2 hctm hc hz40 hzu hmz hbj hqj hmvv hng
         have hv : Below wr.heap.size wr wr.drew := (Below.refl _ _).drew
         have hHeld := And.intro (HKX.out _ hv).1.nine.1 (HKX.out _ hv).2.four.1
         go_upto_region 15 with fail
         refine wp_region_until (fun W => (W.cell? ⟨pb, 0, none⟩ = some (.int .i64 t'.least) ∧ W.cell? ⟨pb, 1, none⟩ = some (.int .i64 t'.wait) ∧ W.cell? ⟨pb, 2, none⟩ = some (.slice b'.ta t'.tiers.length b'.tc) ∧ W.cell? ⟨pb, 3, none⟩ = some (.slice b'.fa t'.files.length b'.fc) ∧ W.cell? ⟨pb, 4, none⟩ = some (.slice b'.ca t'.copies.length b'.cc) ∧ W.cell? ⟨pb, 5, none⟩ = some (.slice b'.ha t'.held.length b'.hc) ∧ W.cell? ⟨pb, 6, none⟩ = some (.slice b'.ba t'.bin.length b'.bc) ∧ W.cell? ⟨pb, 7, none⟩ = some (.map (some mb))) ∧ W.cell? ⟨w.heap.size + 1, 0, none⟩ = some (.string u.name)) 13 (by kernel_rfl) ?_
         refine anyM_take0 (i := 0) (v := ?_) rfl (by decide) (by kernel_rfl) (by kernel_rfl) (by kernel_rfl) (fun _ _ _ h => h) (Or.inl ⟨by rfl, ?_⟩) (fun _ => by assumption) ?_
         rotate_left
         ·(intro w hSw; go_simp; try (with_reducible rfl))
         try go_frame
         refine anyM_take0 (i := 1) (v := ?_) rfl (by decide) (by kernel_rfl) (by kernel_rfl) (by kernel_rfl) (fun _ _ _ h => h) (Or.inl ⟨by rfl, ?_⟩) (fun _ => by assumption) ?_
         rotate_left
         ·(intro w hSw; go_simp; try (with_reducible rfl))
         try go_frame
         refine anyM_take0 (i := 2) (v := ?_) rfl (by decide) (by kernel_rfl) (by kernel_rfl) (by kernel_rfl) (fun _ _ _ h => h) (Or.inl ⟨by rfl, ?_⟩) (fun _ => by assumption) ?_
         rotate_left
         ·(intro w hSw; go_simp; try (with_reducible rfl))
         try go_frame
         refine anyM_take0 (i := 3) (v := ?_) rfl (by decide) (by kernel_rfl) (by kernel_rfl) (by kernel_rfl) (fun _ _ _ h => h) (Or.inl ⟨by rfl, ?_⟩) (fun _ => by assumption) ?_
         rotate_left
         ·(intro w hSw; go_simp; try (with_reducible rfl))
         try go_frame
         refine anyM_take0 (i := 4) (v := ?_) rfl (by decide) (by kernel_rfl) (by kernel_rfl) (by kernel_rfl) (fun _ _ _ h => h) (Or.inl ⟨by rfl, ?_⟩) (fun _ => by assumption) ?_
         rotate_left
         ·(intro w hSw; go_simp; try (with_reducible rfl))
         try go_frame
         refine anyM_take0 (i := 6) (v := ?_) rfl (by decide) (by kernel_rfl) (by kernel_rfl) (by kernel_rfl) (fun _ _ _ h => h) (Or.inl ⟨by rfl, ?_⟩) (fun _ => by assumption) ?_
         rotate_left
         ·(intro w hSw; go_simp; try (with_reducible rfl))
         try go_frame
         refine anyM_take0 (i := 10) (v := ?_) rfl (by decide) (by kernel_rfl) (by kernel_rfl) (by kernel_rfl) (fun _ _ _ h => h) (Or.inl ⟨by rfl, ?_⟩) (fun _ => by assumption) ?_
         rotate_left
         ·(intro w hSw; go_simp; try (with_reducible rfl))
         try go_frame
         refine anyM_takeVia (i := 11) (k := 12) (v := ?_) rfl rfl rfl (by kernel_rfl) (by kernel_rfl) (by decide) (by decide) (by decide) (by kernel_rfl) (by kernel_rfl) (by kernel_rfl) (fun _ _ _ h => h) (Or.inl ⟨by rfl, ?_⟩) (by rfl) (by rfl) (by assumption) ?_
         rotate_left
         ·(intro w hSw; (try dsimp only at hSw); (try obtain ⟨⟨hs1, hs2, hs3, hs4, hs5, hs6, hs7, hs8⟩, hs9⟩ := hSw); go_simp; try (with_reducible rfl))
         try go_frame
         refine anyM_takeVia2 (i := 5) (k := 7) (q := 8) (v := ?_) rfl rfl rfl rfl (by kernel_rfl) (by kernel_rfl) (by kernel_rfl) (by decide) (by decide) (by decide) (by kernel_rfl) (by kernel_rfl) (by kernel_rfl) (fun _ _ _ h => h) (Or.inl ⟨by rfl, ?_⟩) (by rfl) (by rfl) (by rfl) (by assumption) ?_
         rotate_left
         ·(intro w hSw; (try dsimp only at hSw); (try obtain ⟨⟨hs1, hs2, hs3, hs4, hs5, hs6, hs7, hs8⟩, hs9⟩ := hSw); go_simp; try (with_reducible rfl))
         try go_frame
         refine anyM_ready (rs := [7]) (by kernel_rfl) (by simp) ?_
         refine ReadyM.cons rfl (fun K hK => ?_) ReadyM.nil
         go_simp
         refine ((HGD.out _ hv)).mono ?_
         rintro e w5 ⟨g5, c5, rfl, ho5, hq⟩
         have hv := below_up hv hq
         have hHeld := And.intro (HKX.out _ hv).1.nine.1 (HKX.out _ hv).2.four.1
         refine hK.out _ _ (fun _ => hHeld) ?_
         clear hK K
         try go_frame
         refine anyM_ready (rs := [8]) (by kernel_rfl) (by simp) ?_
         refine ReadyM.cons rfl (fun K hK => ?_) ReadyM.nil
         go_simp
         refine ((HCP.out g5 c5 _ ho5)).mono ?_
         rintro e w6 ⟨rfl, hq⟩
         have hv := below_up hv hq
         have hHeld := And.intro (HKX.out _ hv).1.nine.1 (HKX.out _ hv).2.four.1
         refine hK.out _ _ (fun _ => hHeld) ?_
         clear hK K
         try go_frame
         refine anyM_take0 (i := 9) (v := ?_) rfl (by decide) (by kernel_rfl) (by kernel_rfl) (by kernel_rfl) (fun _ _ _ h => h) (Or.inl ⟨by rfl, ?_⟩) (fun _ => by assumption) ?_
         rotate_left
         ·(intro w hSw; go_simp; try (with_reducible rfl))
         try go_frame
         refine anyM_take0 (i := 12) (v := ?_) rfl (by decide) (by kernel_rfl) (by kernel_rfl) (by kernel_rfl) (fun _ _ _ h => h) (Or.inl ⟨by rfl, ?_⟩) (fun _ => by assumption) ?_
         rotate_left
         ·(intro w hSw; go_simp; try (with_reducible rfl))
         try go_frame
         refine anyM_ready (rs := [13]) (by kernel_rfl) (by simp) ?_
         refine ReadyM.cons rfl (fun K hK => ?_) ReadyM.nil
         go_simp
         refine (HDD.out _ hv).mono ?_
         rintro e w9 ⟨rfl, b2, v2, hp2, ht2⟩
         refine hK.out _ _ (fun h => absurd h (by simp)) ?_
         clear hK K
         try go_frame
         refine anyM_done (by kernel_rfl) ?_ _
         have HP9 := Lib.hid hp2; have HT9 : Hid (Turned w w9 pb v v2) := Lib.hid ((HTU.out.trans HTJ.out).trans ((Turned.below hv pb v').trans ht2))
         clear hp2 ht2 hv hHeld hq ho5
         go_wp2_with fail
         go_ret
         exact ⟨rfl, b2, v2, by rw [HMM.out, St.mvs_snoc, HT'.out, ← List.append_assoc, HMV2.out]; exact HP9.out, HT9.out⟩
end Go.Proofs.YthdiccdnggloiaaGreatDoor
