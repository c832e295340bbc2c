/- Parts of the proof, no condition: StTextB, StGd2, StChp, StMkb, StPlcG, StHasPG, StChk7, StNd, StGar, StGarL, StRef2. -/
import Derived.Test.YthdiccdnggloiaaGreatDoorEv5
import Derived.Test.YthdiccdnggloiaaGreatDoorEv3
import Derived.Lib.QuietBelow
import Derived.Test.YthdiccdnggloiaaGreatDoorEv4
set_option maxRecDepth 100000
set_option maxHeartbeats 16000000
set_option linter.unusedSimpArgs false
set_option linter.unusedVariables false
namespace Go.Proofs.YthdiccdnggloiaaGreatDoor
open Go.RowKit
namespace St
theorem inB_iff {n lo hi : Int} : inB n lo hi = true ↔ lo ≤ n ∧ n ≤ hi := by unfold inB; exact decide_eq_true_iff
theorem tier_good {s : Sto} (r : Right s) {t : Tir} (ht : t ∈ s.tiers) : Fd.nameB t.name = true ∧ (0 ≤ t.room ∧ t.room ≤ 1000000000000) ∧ (0 ≤ t.cost ∧ t.cost ≤ 1000000) := by
 obtain ⟨i, hi⟩ := List.getElem?_of_mem ht
 have h := scan_iff.1 r.tiers i t hi
 unfold tierE at h
 split at h
 ·rename_i h1
  split at h
  ·cases h
  ·split at h
   ·rename_i h2
    exact ⟨h1, inB_iff.1 h2.1, inB_iff.1 h2.2⟩
   ·cases h
 ·cases h
theorem name40 {n : ByteArray} (h : Fd.nameB n = true) : n.size ≤ 40 := by
 unfold Fd.nameB at h
 exact (of_decide_eq_true h).1.2
theorem hasTier_mem {L : List Tir} {n : ByteArray} (h : hasTier L n = true) : ∃ t ∈ L, t.name = n := by
 unfold hasTier at h
 obtain ⟨t, h1, h2⟩ := List.any_eq_true.1 h
 exact ⟨t, h1, eq_iff.1 h2⟩
theorem cop_good {s : Sto} (r : Right s) {c : Cop} (hc : c ∈ s.copies) : c.dig.size = 16 ∧ c.tier.size ≤ 40 ∧ (0 ≤ c.asked ∧ c.asked ≤ 6311433599) := by
 obtain ⟨h1, h2, h3⟩ := r.cop c hc
 obtain ⟨t, ht, hn⟩ := hasTier_mem h2
 refine ⟨cop_dig r hc, by rw [← hn]; exact name40 (tier_good r ht).1, ?_⟩
 unfold isMom at h3
 exact of_decide_eq_true h3
theorem kind16 {s : Sto} (r : Right s) {d : ByteArray} (h : kindOf s.files d = 1) : d.size = 16 := by
 obtain ⟨g, _, hg, hd, _⟩ := kind_mem h
 rw [← hd]
 exact dig16 (r.dig g hg).1
end St
end Go.Proofs.YthdiccdnggloiaaGreatDoor
namespace Go.Proofs.YthdiccdnggloiaaGreatDoor
open Go.RowKit Go.Sort Go.Shelf Go.Maps
namespace St
theorem filter_take {α : Type} {p : α → Bool} {L : List α} {j : Nat} {x : α} (h : L[j]? = some x) : (L.take (j + 1)).filter p = (L.take j).filter p ++ (if p x = true then [x] else []) := by
 rw [List.take_add_one, h, Option.toList_some, List.filter_append]
 congr 1
 cases hp : p x <;> simp [hp]
theorem filter_len {α : Type} {p : α → Bool} {L : List α} (j : Nat) : ((L.take j).filter p).length ≤ L.length := by
 refine Nat.le_trans (List.length_filter_le _ _) ?_
 rw [List.length_take]; omega
end St
def TirPost (w : World) (L : List Tir) (e : Ending) (w' : World) : Prop := ∃ g cap, e = .returned (.slice g L.length cap) ∧ OwnV w' w.heap.size 46 4 (.slice g L.length cap) L.length (St.eT.flat L) ∧ Below w.heap.size w w'
theorem ownV_slice {w : World} {B k n : Nat} {e : TypeId} {v : Value} {xs : List Value} (h : OwnV w B e k v n xs) : ∃ g cap, v = .slice g n cap := by
 obtain ⟨a, ca, rfl, _⟩ := h.form
 exact ⟨a, ca, rfl⟩
theorem good_is (s : Sto) (a : StA) (mb : Nat) (d : ByteArray) (w : World) (hI : StIn w s a) (r : St.Right s) (hd : d.size = 16) :
  Calls Tryz.prog 103 #[.agg #[.int .i64 s.least, .int .i64 s.wait, .slice a.ta s.tiers.length a.tc, .slice a.fa s.files.length a.fc, .slice a.ca s.copies.length a.cc, .slice a.ha s.held.length a.hc, .slice a.ba s.bin.length a.bc, .map (some mb)], .string d] w (TirPost w (St.goodL s d)) := by
 obtain ⟨W1, hW1, hP, hz1, hB1⟩ := box w #[.int .i64 s.least, .int .i64 s.wait, .slice a.ta s.tiers.length a.tc, .slice a.fa s.files.length a.fc, .slice a.ca s.copies.length a.cc, .slice a.ha s.held.length a.hc, .slice a.ba s.bin.length a.bc, .map (some mb)] 135
 have HW1 := Lib.hid hW1; have HB1 := Lib.hid hB1
 obtain ⟨_, y1, y2, y3, y4, y5⟩ := St.sizes_iff.1 r.sizes
 have hcz : ∀ x ∈ s.copies, x.dig.size ≤ 100 ∧ x.tier.size ≤ 100 := fun x hx => by
  obtain ⟨g1, g2, _⟩ := St.cop_good r hx
  omega
 have HCR := Lib.hid (fun V => copiesRow_is s a V)
 have HPL := Lib.hid (fun V (hV : Below w.heap.size w V) k => placeC_is s.copies (St.cop_up r) hcz (by omega) k a.ca a.cc V hI.cl (hI.co.keep hV))
 have HCK := Lib.hid (fun V (t : ByteArray) (ht : t.size ≤ 100) => copyKey_is d t (by omega) ht V)
 have HGP := Lib.hid (fun t => St.good_pos (t := t) r hd)
 have HTG := Lib.hid (fun (x : Tir) (hx : x ∈ s.tiers) => St.name40 (St.tier_good r hx).1)
 have HI := Lib.hid hI
 have htl := hI.tl; have hcl := hI.cl
 have HCL : Hid (∀ V, Below W1.heap.size W1 V → V.cell? ⟨w.heap.size, 0, none⟩ = some (.int .i64 s.least) ∧ V.cell? ⟨w.heap.size, 1, none⟩ = some (.int .i64 s.wait) ∧ V.cell? ⟨w.heap.size, 2, none⟩ = some (.slice a.ta s.tiers.length a.tc) ∧ V.cell? ⟨w.heap.size, 3, none⟩ = some (.slice a.fa s.files.length a.fc) ∧ V.cell? ⟨w.heap.size, 4, none⟩ = some (.slice a.ca s.copies.length a.cc) ∧ V.cell? ⟨w.heap.size, 5, none⟩ = some (.slice a.ha s.held.length a.hc) ∧ V.cell? ⟨w.heap.size, 6, none⟩ = some (.slice a.ba s.bin.length a.bc)) := Lib.hid fun V hv =>
  have k := (hP.keep hv).eight
  ⟨k.1, k.2.1, k.2.2.1, k.2.2.2.1, k.2.2.2.2.1, k.2.2.2.2.2.1, k.2.2.2.2.2.2.1⟩
 have HGL : Hid (St.goodL s d = s.tiers.filter (fun t => St.goodAt s d t.name)) := Lib.hid rfl
 obtain ⟨m0, m1, m2, m3, m4, m5, m6⟩ := HCL.out _ (Below.refl _ _)
 have hs1 : W1.heap.size = w.heap.size + 1 := hz1
 have HS1 := Lib.hid hs1
 clear hI r hcz hW1 hP hz1 hB1 hs1 m0 m1 m3 m4 m5 m6
 obtain ⟨nt, hnt⟩ : ∃ nt, s.tiers.length = nt := ⟨_, rfl⟩
 obtain ⟨nc, hnc⟩ : ∃ nc, s.copies.length = nc := ⟨_, rfl⟩
 have HNT := Lib.hid hnt; have HNC := Lib.hid hnc
 rw [hnt] at htl y1 HCL m2 HW1 HCR ⊢
 rw [hnc] at hcl y3 HCL HW1 HCR HPL ⊢
 clear hnt hnc
 go_enter Tryz.func103, Tryz.ntmps103
 go_wp2_with fail
 rw [HW1.out]
 go_wp2_with fail
 clear m2
 go_loopg [5, 14] nt (fun gk v i wr => ∃ j : Nat, j ≤ nt ∧ gk = nt - j ∧ i = .int .i64 j ∧ wr.ownsRow W1.heap.size 46 4 v ((s.tiers.take j).filter (fun t => St.goodAt s d t.name)).length (St.eT.flat ((s.tiers.take j).filter (fun t => St.goodAt s d t.name))) ∧ Below W1.heap.size W1 wr)
 case atStart => exact ⟨0, by omega, rfl, rfl, World.ownsRow_nil _ _ _ _, Below.refl _ _⟩
 case round =>
  obtain ⟨j, hj, rfl, rfl, hown, hB⟩ := hrel
  by_cases hlt : j < nt
  ·obtain ⟨x, hx⟩ : ∃ x, s.tiers[j]? = some x := ⟨_, List.getElem?_eq_getElem (by rw [HNT.out]; exact hlt)⟩
   obtain ⟨b, off, ha, hb, hcell⟩ := ((HI.out.keep (below_up HB1.out hB)).ti) (by rw [HNT.out]; omega)
   have c0 : wr.cell? ⟨b, off + j * 4, none⟩ = some (.string x.name) := hcell j x hx 0 (.string x.name) rfl
   have c1 : wr.cell? ⟨b, off + j * 4 + 1, none⟩ = some (.int .i64 x.room) := hcell j x hx 1 (.int .i64 x.room) rfl
   have c2 : wr.cell? ⟨b, off + j * 4 + 2, none⟩ = some (.int .i64 x.cost) := hcell j x hx 2 (.int .i64 x.cost) rfl
   have c3 : wr.cell? ⟨b, off + j * 4 + 3, none⟩ = some (.bool x.away) := hcell j x hx 3 (.bool x.away) rfl
   clear hcell
   have hft := St.filter_take (p := fun t => St.goodAt s d t.name) hx
   have hfl := St.filter_len (p := fun t => St.goodAt s d t.name) (L := s.tiers) j
   rw [HNT.out] at hfl
   have hnm := HTG.out x (List.mem_of_getElem? hx)
   obtain ⟨W3, hW3, hX3, hz3, hB3⟩ := box wr #[.string x.name, .int .i64 x.room, .int .i64 x.cost, .bool x.away] 46
   have HW3 := Lib.hid hW3
   have HAW := Lib.hid (below_up hB hB3)
   have hsz1 := hB.size
   have hsz3 := hB3.size
   have hown3 := own_keepE hown hB3
   have hne : some wr.heap.size ≠ u5.ownBlock := fun e => by have := (hown.lt _ e.symm).2; omega
   have HX : Hid (∀ V, Below W3.heap.size W3 V → V.cell? ⟨wr.heap.size, 0, none⟩ = some (.string x.name) ∧ V.cell? ⟨wr.heap.size, 1, none⟩ = some (.int .i64 x.room) ∧ V.cell? ⟨wr.heap.size, 2, none⟩ = some (.int .i64 x.cost) ∧ V.cell? ⟨wr.heap.size, 3, none⟩ = some (.bool x.away)) := Lib.hid fun V hv =>
    have k := hX3.keep hv
    ⟨(k.cell 0).trans rfl, (k.cell 1).trans rfl, (k.cell 2).trans rfl, (k.cell 3).trans rfl⟩
   have HKY := Lib.hid (fun V => HCK.out V x.name (by omega))
   obtain ⟨gp1, gp2⟩ := HGP.out x.name
   obtain ⟨key, hkey⟩ : ∃ key, St.key d x.name = key := ⟨_, rfl⟩
   rw [hkey] at HKY gp1 gp2
   have HPK := Lib.hid (fun V hV => HPL.out V hV key)
   have hj0 : (0 : Int) ≤ (j : Int) := by omega
   have hj1 : (j : Int) < (nt : Int) := by omega
   have HFT := Lib.hid hft
   obtain ⟨ps, hps⟩ : ∃ ps, St.pos St.ckey key s.copies = ps := ⟨_, rfl⟩
   rw [hps] at HPK gp2
   generalize ((s.tiers.take j).filter (fun t => St.goodAt s d t.name)) = G at *
   generalize hgd : St.goodAt s d x.name = gd at *
   clear hx hB hX3 hz3 hB3 hW3 hown hft hkey hps
   have hv : Below W3.heap.size W3 W3.drew := (Below.refl _ _).drew
   obtain ⟨e0, e1, e2, e3⟩ := HX.out _ hv
   obtain ⟨n0, n1, n2, n3, n4, n5, n6⟩ := HCL.out _ (below_up HAW.out hv)
   have hownd := own_keepE hown3 hv
   rw [ha] at HCR HCL n2 ⊢
   go_upto_region 5 with fail
   rw [HW3.out]
   clear c0 c1 c2 c3
   cases hk : St.hasK St.ckey s.copies key with
   | false =>
     have hgf := gp1 hk
     subst hgf
     rw [hk] at HPK
     go_region_held3 (fun w' => w'.cell? ⟨w.heap.size, 0, none⟩ = some (.int .i64 s.least) ∧ w'.cell? ⟨w.heap.size, 1, none⟩ = some (.int .i64 s.wait) ∧ w'.cell? ⟨w.heap.size, 2, none⟩ = some (.slice (some ⟨b, off, none⟩) nt a.tc) ∧ w'.cell? ⟨w.heap.size, 3, none⟩ = some (.slice a.fa s.files.length a.fc) ∧ w'.cell? ⟨w.heap.size, 4, none⟩ = some (.slice a.ca nc a.cc) ∧ w'.cell? ⟨w.heap.size, 5, none⟩ = some (.slice a.ha s.held.length a.hc) ∧ w'.cell? ⟨w.heap.size, 6, none⟩ = some (.slice a.ba s.bin.length a.bc) ∧ w'.cell? ⟨wr.heap.size, 0, none⟩ = some (.string x.name))
      (first | (with_reducible exact ⟨n0, n1, n2, n3, n4, n5, n6, e0⟩) | go_keep)
      (first
       | (go_at_call 54; (with_reducible refine (HCR.out _).mono ?_); rintro e wq ⟨rfl, hq⟩; have hv := below_up hv hq; obtain ⟨n0, n1, n2, n3, n4, n5, n6⟩ := HCL.out _ (below_up HAW.out hv); obtain ⟨e0, e1, e2, e3⟩ := HX.out _ hv)
       | (go_at_call 56; (with_reducible refine (HKY.out _).mono ?_); rintro e wo ⟨rfl, rfl⟩)
       | (go_at_call 55; (with_reducible refine (HPK.out _ (below_up HB1.out (below_up HAW.out hv))).mono ?_); rintro e wp ⟨rfl, hq⟩; have hv := below_up hv hq; obtain ⟨n0, n1, n2, n3, n4, n5, n6⟩ := HCL.out _ (below_up HAW.out hv); obtain ⟨e0, e1, e2, e3⟩ := HX.out _ hv)
       | fail)
     go_wp2_with fail
     have hownp := own_keepE hown3 hv
     have hBp := below_up HAW.out hv
     rw [← ha]
     go_roundg (nt - (j + 1))
     case rel => exact ⟨j + 1, by omega, rfl, by go_num, by rw [HFT.out, if_neg (by decide), List.append_nil]; exact hownp, hBp⟩
     case measure => omega
   | true =>
     obtain ⟨c, hc, _, hgc⟩ := gp2 hk
     rw [hk] at HPK
     have hpc : ps < nc := by have := (List.getElem?_eq_some_iff.1 hc).1; rw [HNC.out] at this; exact this
     go_region_held3 (fun w' => w'.cell? ⟨w.heap.size, 0, none⟩ = some (.int .i64 s.least) ∧ w'.cell? ⟨w.heap.size, 1, none⟩ = some (.int .i64 s.wait) ∧ w'.cell? ⟨w.heap.size, 2, none⟩ = some (.slice (some ⟨b, off, none⟩) nt a.tc) ∧ w'.cell? ⟨w.heap.size, 3, none⟩ = some (.slice a.fa s.files.length a.fc) ∧ w'.cell? ⟨w.heap.size, 4, none⟩ = some (.slice a.ca nc a.cc) ∧ w'.cell? ⟨w.heap.size, 5, none⟩ = some (.slice a.ha s.held.length a.hc) ∧ w'.cell? ⟨w.heap.size, 6, none⟩ = some (.slice a.ba s.bin.length a.bc) ∧ w'.cell? ⟨wr.heap.size, 0, none⟩ = some (.string x.name))
      (first | (with_reducible exact ⟨n0, n1, n2, n3, n4, n5, n6, e0⟩) | go_keep)
      (first
       | (go_at_call 54; (with_reducible refine (HCR.out _).mono ?_); rintro e wq ⟨rfl, hq⟩; have hv := below_up hv hq; obtain ⟨n0, n1, n2, n3, n4, n5, n6⟩ := HCL.out _ (below_up HAW.out hv); obtain ⟨e0, e1, e2, e3⟩ := HX.out _ hv)
       | (go_at_call 56; (with_reducible refine (HKY.out _).mono ?_); rintro e wo ⟨rfl, rfl⟩)
       | (go_at_call 55; (with_reducible refine (HPK.out _ (below_up HB1.out (below_up HAW.out hv))).mono ?_); rintro e wp ⟨rfl, hq⟩; have hv := below_up hv hq; obtain ⟨n0, n1, n2, n3, n4, n5, n6⟩ := HCL.out _ (below_up HAW.out hv); obtain ⟨e0, e1, e2, e3⟩ := HX.out _ hv)
       | fail)
     obtain ⟨b2, o2, ha2, hb2, hcell2⟩ := (HI.out.keep (below_up HB1.out (below_up HAW.out hv))).co (by rw [HNC.out]; omega)
     have f0 : wp.cell? ⟨b2, o2 + ps * 4 + 2, none⟩ = some (.bool c.good) := hcell2 ps c hc 2 (.bool c.good) rfl
     have hps0 : (0 : Int) ≤ (ps : Int) := by omega
     have hps1 : (ps : Int) < (nc : Int) := by omega
     clear hcell2 hc
     rw [ha2] at n4 ⊢
     have hownp := own_keepE hown3 hv
     have hBp := below_up HAW.out hv
     have hvs := hv.size
     rw [← hgc] at f0
     clear hgc
     cases gd
     ·go_wp2_with fail
      rw [← ha, ← ha2]
      go_roundg (nt - (j + 1))
      case rel => exact ⟨j + 1, by omega, rfl, by go_num, by rw [HFT.out, if_neg (by decide), List.append_nil]; exact hownp, hBp⟩
      case measure => omega
     ·obtain ⟨FL, hFL⟩ : ∃ FL, St.eT.flat G = FL := ⟨_, rfl⟩
      obtain ⟨m, hm⟩ : ∃ m, G.length = m := ⟨_, rfl⟩
      have HFL : Hid (St.eT.flat (G ++ [x]) = FL ++ [.string x.name, .int .i64 x.room, .int .i64 x.cost, .bool x.away]) := Lib.hid (by rw [Enc.flat_snoc, hFL]; rfl)
      have HM : Hid ((G ++ [x]).length = m + 1) := Lib.hid (by rw [List.length_append, hm]; rfl)
      rw [hFL, hm] at hownp
      rw [hm] at hfl
      clear hFL hm hown3 hownd
      go_wp2_with (at_builtin; refine list_appT rfl _ _ rfl _ _ m FL (by rfl) (by rfl) hownp (by omega) (by omega) (by rfl) (by simp [Value.oneCell']) ?_; intro g8 cap8 w8 hown8 hgrow8; have hB8 := below_grownE (below_allocs hBp _) (hownp.alloc _) hgrow8 (by simp; omega))
      rw [← ha, ← ha2]
      go_roundg (nt - (j + 1))
      case rel => exact ⟨j + 1, by omega, rfl, by go_num, by rw [HFT.out, if_pos (by first | rfl | trivial), HFL.out, HM.out]; exact hown8, hB8⟩
      case measure => omega
  ·obtain rfl : nt = j := by omega
   rw [← HNT.out, List.take_length, ← HGL.out] at hown
   have HO := Lib.hid ((OwnV.of_own hown).down (show w.heap.size ≤ W1.heap.size by have := HS1.out; omega))
   obtain ⟨g, cap, rfl⟩ := ownV_slice (OwnV.of_own hown)
   clear hown
   go_wp2_with fail
   go_ret
   exact ⟨g, cap, rfl, HO.out, below_up HB1.out hB⟩
theorem Blk.four {w : World} {b : Nat} {t : TypeId} {x0 x1 x2 x3 : Value} (h : Blk w b #[x0, x1, x2, x3] t) : w.cell? ⟨b, 0, none⟩ = some x0 ∧ w.cell? ⟨b, 1, none⟩ = some x1 ∧ w.cell? ⟨b, 2, none⟩ = some x2 ∧ w.cell? ⟨b, 3, none⟩ = some x3 :=
 ⟨by rw [h.cell]; rfl, by rw [h.cell]; rfl, by rw [h.cell]; rfl, by rw [h.cell]; rfl⟩
namespace St
def mkb (s : Sto) (d : ByteArray) : Bool := decide ((filD s.files d).kind = 3) && decide (0 < (goodL s (filD s.files d).frm).length)
theorem frm16 {s : Sto} (r : Right s) {d : ByteArray} (h : (filD s.files d).kind = 3 ∨ (filD s.files d).kind = 2) : (filD s.files d).frm.size = 16 ∧ kindOf s.files (filD s.files d).frm = 1 := by
 cases hf : fileOf s.files d with
 | none =>
   have : (filD s.files d).kind = 0 := by unfold filD; rw [hf]; rfl
   omega
 | some f =>
   have e : filD s.files d = f := by unfold filD; rw [hf]; rfl
   rw [e] at h ⊢
   have h1 := r.frm f (find_mem hf).1 (by omega)
   exact ⟨kind16 r h1, h1⟩
end St
theorem makeable_is (s : Sto) (a : StA) (mb : Nat) (d : ByteArray) (w : World) (hI : StIn w s a) (hM : FMap w mb s.files) (r : St.Right s) (hd : d.size ≤ 9223372036854775807) :
  Calls Tryz.prog 166 #[.agg #[.int .i64 s.least, .int .i64 s.wait, .slice a.ta s.tiers.length a.tc, .slice a.fa s.files.length a.fc, .slice a.ca s.copies.length a.cc, .slice a.ha s.held.length a.hc, .slice a.ba s.bin.length a.bc, .map (some mb)], .string d] w fun e w' => e = .returned (.bool (St.mkb s d)) ∧ Below w.heap.size w w' := by
 obtain ⟨W1, hW1, hP, hz1, hB1⟩ := box w #[.int .i64 s.least, .int .i64 s.wait, .slice a.ta s.tiers.length a.tc, .slice a.fa s.files.length a.fc, .slice a.ca s.copies.length a.cc, .slice a.ha s.held.length a.hc, .slice a.ba s.bin.length a.bc, .map (some mb)] 135
 have HW1 := Lib.hid hW1; have HB1 := Lib.hid hB1
 have q7 : W1.cell? ⟨w.heap.size, 7, none⟩ = some (.map (some mb)) := hP.eight.2.2.2.2.2.2.2
 obtain ⟨f, hlk, hf⟩ := FMap.kind (hM.keep hB1) r.fup hd
 obtain ⟨W2, hW2, hX, hz2, hB2⟩ := box W1 #[.string f.dig, .int .i64 f.size, .int .i64 f.kind, .string f.frm] 30
 have HW2 := Lib.hid hW2
 have HBB := Lib.hid (below_up hB1 hB2)
 have h16 : f.kind = 3 → f.frm.size = 16 := fun h => by rw [hf] at h ⊢; exact (St.frm16 r (.inl h)).1
 have hmk : St.mkb s d = (decide (f.kind = 3) && decide (0 < (St.goodL s f.frm).length)) := by rw [hf]; rfl
 have HGD := Lib.hid (fun h => good_is s a mb f.frm W2 (hI.keep HBB.out) r (h16 h))
 have HMK := Lib.hid hmk
 obtain ⟨p0, p1, p2, p3, p4, p5, p6, p7⟩ := (hP.keep hB2).eight
 obtain ⟨x0, x1, x2, x3⟩ := hX.four
 clear hI hM r hW1 hP hz1 hB1 hW2 hX hz2 hB2 hf h16 hmk
 go_enter Tryz.func166, Tryz.ntmps166
 go_wp2_with fail
 rw [HW1.out]
 go_upto_region 2 with fail
 rw [hlk]
 go_upto_region 2 with fail
 rw [HW2.out]
 clear q7
 by_cases hk : f.kind = 3
 ·have HG := Lib.hid (HGD.out hk)
  have hmk := HMK.out
  rw [hk] at hmk
  have hkb : (f.kind == 3) = true := by simpa using hk
  generalize f.kind = kd at *
  subst hk
  have HMZ := Lib.hid hmk
  clear hmk hlk
  generalize St.goodL s f.frm = GL at *
  obtain ⟨m, hm⟩ : ∃ m, GL.length = m := ⟨_, rfl⟩
  have hmz := HMZ.out
  unfold TirPost at HG
  rw [hm] at hmz HG
  have HMY := Lib.hid hmz
  clear hmz HMZ hm
  go_wp2_with (go_at_call 103; (with_reducible refine HG.out.mono ?_); rintro e w4 ⟨g, cap, rfl, ho, hB4⟩)
  go_ret
  exact ⟨ret_bool (by rw [HMY.out]; simp), below_up HBB.out hB4⟩
 ·have hkb : (f.kind == 3) = false := by simpa using hk
  have hmk : St.mkb s d = false := by rw [HMK.out]; simp [hk]
  have HMY := Lib.hid hmk
  clear hmk hlk
  go_wp2_with fail
  go_ret
  exact ⟨ret_bool HMY.out.symm, HBB.out⟩
theorem entersKG : ∀ args w, (callFunc 152 args).run Tryz.prog w = .ok (.enter 152 args) w := enters_of Tryz.func152 (by kernel_rfl) rfl
theorem entersPG : ∀ args w, (callFunc 199 args).run Tryz.prog w = .ok (.enter 199 args) w := enters_of Tryz.func199 (by kernel_rfl) rfl
theorem keyKG_is (x : Gon) (w : World) : Calls Tryz.prog 152 #[.agg #[.string x.dig, .int .i64 x.day]] w fun e w' => e = .returned (.string (St.gdig x)) ∧ Below w.heap.size w w' := by
 obtain ⟨W1, hW1, hX, hz1, hB1⟩ := box w #[.string x.dig, .int .i64 x.day] 112
 have HW1 := Lib.hid hW1; have HB1 := Lib.hid hB1
 have c0 : W1.cell? ⟨w.heap.size, 0, none⟩ = some (.string x.dig) := (hX.cell 0).trans rfl
 have c1 : W1.cell? ⟨w.heap.size, 1, none⟩ = some (.int .i64 x.day) := (hX.cell 1).trans rfl
 clear hW1 hX hz1 hB1
 go_enter Tryz.func152, Tryz.ntmps152
 go_wp2_with fail
 rw [HW1.out]
 go_wp2_with fail
 go_ret
 exact ⟨rfl, HB1.out⟩
theorem placeGK_is (x : Gon) (k : ByteArray) (a : Option Addr) (n ca bk : Nat) (t : TypeId) (w : World) (hs : Blk w bk #[.func (.func 152) #[] #[], .slice a n ca] t) :
  Calls Tryz.prog 199 #[.agg #[.string x.dig, .int .i64 x.day], .string k, .pointer (some ⟨bk, 0, none⟩)] w fun e w' => e = .returned (.int .i64 (St.cmpS (St.gdig x) k)) ∧ Below w.heap.size w w' := by
 obtain ⟨W1, hW1, hX, hz1, hB1⟩ := box w #[.string x.dig, .int .i64 x.day] 112
 have HW1 := Lib.hid hW1; have HB1 := Lib.hid hB1
 have c0 : W1.cell? ⟨w.heap.size, 0, none⟩ = some (.string x.dig) := (hX.cell 0).trans rfl
 have c1 : W1.cell? ⟨w.heap.size, 1, none⟩ = some (.int .i64 x.day) := (hX.cell 1).trans rfl
 have r0 : W1.cell? ⟨bk, 0, none⟩ = some (.func (.func 152) #[] #[]) := ((hs.keep hB1).cell 0).trans rfl
 have eg := entersKG
 have HK := Lib.hid (fun W => keyKG_is x W)
 have HC := Lib.hid (fun W => cmpStr_is (St.gdig x) k W)
 generalize St.gdig x = kx at *
 clear hs hW1 hX hz1 hB1
 go_enter Tryz.func199, Tryz.ntmps199
 go_upto_region 1 with fail
 rw [HW1.out]
 go_wp2_with (first | (go_at_fn 152; (with_reducible refine (HK.out _).mono ?_); rintro e w4 ⟨rfl, hB4⟩) | (go_at_call 147; (with_reducible refine (HC.out _).mono ?_); rintro e w5 ⟨rfl, rfl⟩))
 go_ret
 exact ⟨rfl, below_up HB1.out hB4⟩
theorem bsG_is (L : List Gon) (hu : St.Up St.gdig L) (h1m : L.length ≤ 1000000) (k : ByteArray) (a : Option Addr) (ca bk : Nat) (t : TypeId) (w : World) (hl : L.length ≤ ca ∧ ca ≤ 9223372036854775807) (hr : RowE St.eG w a L) (hs : Blk w bk #[.func (.func 152) #[] #[], .slice a L.length ca] t) :
  Calls Tryz.prog 198 #[.slice a L.length ca, .string k, .func (.func 199) #[] #[.pointer (some ⟨bk, 0, none⟩)]] w fun e w' => e = .returned (.tuple #[.int .i64 (St.pos St.gdig k L), .bool (St.hasK St.gdig L k)]) ∧ Below w.heap.size w w' := by
 have eg := entersPG
 have HR := Lib.hid hr; have HS := Lib.hid hs; have HU := Lib.hid hu
 obtain ⟨n, hn⟩ : ∃ n, L.length = n := ⟨_, rfl⟩
 have HN := Lib.hid hn
 have HC0 : Hid (∀ (i : Nat) (x : Gon), L[i]? = some x → ∀ V, Below w.heap.size w V → Calls Tryz.prog 199 #[.agg #[.string x.dig, .int .i64 x.day], .string k, .pointer (some ⟨bk, 0, none⟩)] V fun e w' => e = .returned (.int .i64 (St.cmpS (St.gdig x) k)) ∧ Below V.heap.size V w') := Lib.hid fun i x hx V hv => placeGK_is x k a L.length ca bk t V (hs.keep hv)
 rw [hn] at hl h1m ⊢
 clear hr hs hu hn
 go_enter Tryz.func198, Tryz.ntmps198
 go_wp2_with fail
 go_loopg [9, 10] n (fun g s7 s8 wr => ∃ lo hi : Nat, s7 = .int .i64 lo ∧ s8 = .int .i64 hi ∧ lo ≤ hi ∧ hi ≤ n ∧ g = 0 + (hi - lo) ∧ Below w.heap.size w wr ∧ (∀ i x, L[i]? = some x → i < lo → St.lt (St.gdig x) k = true) ∧ (∀ i x, L[i]? = some x → hi ≤ i → St.lt (St.gdig x) k = false))
 case atStart => exact ⟨0, n, rfl, rfl, Nat.zero_le _, Nat.le_refl _, by omega, Below.refl _ _, fun i x _ h => absurd h (Nat.not_lt_zero _), fun i x hx h => by have := (List.getElem?_eq_some_iff.1 hx).1; have := HN.out; omega⟩
 case round =>
  obtain ⟨lo, hi, rfl, rfl, hlh, hin, rfl, hB, h1, h2⟩ := hrel
  have I1 := Lib.hid h1; have I2 := Lib.hid h2
  clear h1 h2
  by_cases hlt : lo < hi
  ·obtain ⟨x, hx⟩ : ∃ x, L[(lo + hi) / 2]? = some x := ⟨_, List.getElem?_eq_getElem (by rw [HN.out]; omega)⟩
   obtain ⟨b, off, ha, hb, hcell⟩ := (HR.out.keep hB) (by rw [HN.out]; omega)
   have c0 : wr.cell? ⟨b, off + (lo + hi) / 2 * 2, none⟩ = some (.string x.dig) := hcell _ x hx 0 (.string x.dig) rfl
   have c1 : wr.cell? ⟨b, off + (lo + hi) / 2 * 2 + 1, none⟩ = some (.int .i64 x.day) := hcell _ x hx 1 (.int .i64 x.day) rfl
   clear hcell
   have HX := Lib.hid hx
   obtain ⟨s, hsg⟩ : ∃ s, St.cmpS (St.gdig x) k = s := ⟨_, rfl⟩
   have HC := Lib.hid (HC0.out _ x hx _ hB)
   rw [hsg] at HC
   have HSG : Hid (s < 0 ↔ St.lt (St.gdig x) k = true) := Lib.hid (by rw [← hsg]; exact St.cmpS_lt)
   rw [ha]
   have HB := Lib.hid hB
   clear hsg hx hB
   by_cases hyx : s < 0
   ·go_wp2_with (go_at_fn 199; (with_reducible refine HC.out.mono ?_); rintro e w4 ⟨rfl, hB4⟩)
    rw [← ha]
    go_roundg (hi - ((lo + hi) / 2 + 1))
    case measure => omega
    case rel =>
     refine ⟨(lo + hi) / 2 + 1, hi, by rw [show ((lo : Int) + (hi : Int)) / 2 + 1 = (((lo + hi) / 2 + 1 : Nat) : Int) by omega], rfl, by omega, hin, by omega, below_up HB.out hB4, fun i y hy hi2 => ?_, I2.out⟩
     by_cases e : i = (lo + hi) / 2
     ·subst e; rw [HX.out] at hy; obtain rfl := Option.some.inj hy; exact HSG.out.1 hyx
     ·exact St.lt_trans (HU.out.lt hy HX.out (by omega)) (HSG.out.1 hyx)
   ·go_wp2_with (go_at_fn 199; (with_reducible refine HC.out.mono ?_); rintro e w4 ⟨rfl, hB4⟩)
    rw [← ha]
    go_roundg ((lo + hi) / 2 - lo)
    case measure => omega
    case rel =>
     refine ⟨lo, (lo + hi) / 2, rfl, by rw [show ((lo : Int) + (hi : Int)) / 2 = (((lo + hi) / 2 : Nat) : Int) by omega], by omega, by omega, by omega, below_up HB.out hB4, I1.out, fun i y hy hi2 => ?_⟩
     have hxk : St.lt (St.gdig x) k = false := by
      cases h : St.lt (St.gdig x) k
      ·rfl
      ·exact absurd (HSG.out.2 h) (by omega)
     by_cases e : i = (lo + hi) / 2
     ·subst e; rw [HX.out] at hy; obtain rfl := Option.some.inj hy; exact hxk
     ·have h3 : St.lt (St.gdig x) (St.gdig y) = true := HU.out.lt HX.out hy (by omega)
      cases h : St.lt (St.gdig y) k
      ·rfl
      ·rw [St.lt_trans h3 h] at hxk; cases hxk
  ·have : hi = lo := by omega
   subst this
   have HP : Hid (St.pos St.gdig k L = hi) := Lib.hid (St.pos_is (by rw [HN.out]; exact hin) (fun i x h1 h2 => I1.out i x h1 h2) (fun x hx => I2.out hi x hx (Nat.le_refl _)))
   by_cases hnn : hi < n
   ·obtain ⟨x, hx⟩ : ∃ x, L[hi]? = some x := ⟨_, List.getElem?_eq_getElem (by rw [HN.out]; omega)⟩
    have HH : Hid (St.hasK St.gdig L k = St.eq (St.gdig x) k) := Lib.hid (by rw [St.has_pos HU.out, HP.out, hx])
    obtain ⟨b, off, ha, hb, hcell⟩ := (HR.out.keep hB) (by rw [HN.out]; omega)
    have c0 : wr.cell? ⟨b, off + hi * 2, none⟩ = some (.string x.dig) := hcell _ x hx 0 (.string x.dig) rfl
    have c1 : wr.cell? ⟨b, off + hi * 2 + 1, none⟩ = some (.int .i64 x.day) := hcell _ x hx 1 (.int .i64 x.day) rfl
    have HEQ : Hid ((St.cmpS (St.gdig x) k == 0) = St.eq (St.gdig x) k) := Lib.hid St.cmpS_eq
    have HC := Lib.hid (HC0.out _ x hx _ hB)
    have HV : Hid (St.hasK St.gdig L k = (St.cmpS (St.gdig x) k == 0)) := Lib.hid (HH.out.trans HEQ.out.symm)
    clear HEQ HH hcell hx
    generalize St.cmpS (St.gdig x) k = s at HC HV
    have HB := Lib.hid hB
    clear hB
    rw [ha]
    by_cases hs0 : s = 0
    ·subst hs0
     go_wp2_with (go_at_fn 199; (with_reducible refine HC.out.mono ?_); rintro e w4 ⟨rfl, hB4⟩)
     go_ret2
     exact ⟨by rw [HP.out, HV.out]; rfl, below_up HB.out hB4⟩
    ·have hs1 : (s == 0) = false := by simpa using hs0
     go_wp2_with (go_at_fn 199; (with_reducible refine HC.out.mono ?_); rintro e w4 ⟨rfl, hB4⟩)
     go_ret2
     exact ⟨by rw [HP.out, HV.out, hs1]; rfl, below_up HB.out hB4⟩
   ·obtain rfl : n = hi := by omega
    have HH : Hid (St.hasK St.gdig L k = false) := Lib.hid (by rw [St.has_pos HU.out, HP.out, List.getElem?_eq_none (by rw [HN.out]; exact Nat.le_refl _)])
    go_wp2_with fail
    go_ret2
    exact ⟨by rw [HP.out, HH.out]; rfl, hB⟩
theorem placeG_is (L : List Gon) (hu : St.Up St.gdig L) (h1m : L.length ≤ 1000000) (k : ByteArray) (a : Option Addr) (ca : Nat) (w : World) (hl : L.length ≤ ca ∧ ca ≤ 9223372036854775807) (hr : RowE St.eG w a L) :
  Calls Tryz.prog 153 #[.agg #[.func (.func 152) #[] #[], .slice a L.length ca], .string k] w fun e w' => e = .returned (.tuple #[.int .i64 (St.pos St.gdig k L), .bool (St.hasK St.gdig L k)]) ∧ Below w.heap.size w w' := by
 obtain ⟨W1, hW1, hP, hz1, hB1⟩ := box w #[.func (.func 152) #[] #[], .slice a L.length ca] 108
 have HW1 := Lib.hid hW1; have HB1 := Lib.hid hB1
 have r1 : W1.cell? ⟨w.heap.size, 1, none⟩ = some (.slice a L.length ca) := (hP.cell 1).trans rfl
 have HC := Lib.hid (bsG_is L hu h1m k a ca w.heap.size _ W1 hl (hr.keep hB1) hP)
 have hmf : ∀ (fn : Fn) (first cap : Array Value) (w : World), (Instr.makeFunc fn first cap).run Tryz.prog w = .ok (.func fn first cap) w := fun _ _ _ _ => rfl
 clear hW1 hP hz1 hB1 hr
 go_enter Tryz.func153, Tryz.ntmps153
 go_wp2_with fail
 rw [HW1.out]
 go_wp2_with (go_at_call 198; (with_reducible refine HC.out.mono ?_); rintro e w4 ⟨rfl, hB4⟩)
 go_ret2
 exact ⟨rfl, below_up HB1.out hB4⟩
theorem binRow_is (s : Sto) (a : StA) (w : World) :
  Calls Tryz.prog 60 #[.agg #[.int .i64 s.least, .int .i64 s.wait, .slice a.ta s.tiers.length a.tc, .slice a.fa s.files.length a.fc, .slice a.ca s.copies.length a.cc, .slice a.ha s.held.length a.hc, .slice a.ba s.bin.length a.bc]] w fun e w' => e = .returned (.agg #[.func (.func 152) #[] #[], .slice a.ba s.bin.length a.bc]) ∧ Below w.heap.size w w' := by
 obtain ⟨W1, hW1, hP, hz1, hB1⟩ := box w #[.int .i64 s.least, .int .i64 s.wait, .slice a.ta s.tiers.length a.tc, .slice a.fa s.files.length a.fc, .slice a.ca s.copies.length a.cc, .slice a.ha s.held.length a.hc, .slice a.ba s.bin.length a.bc] 28
 have HW1 := Lib.hid hW1; have HB1 := Lib.hid hB1
 have q5 : W1.cell? ⟨w.heap.size, 6, none⟩ = some (.slice a.ba s.bin.length a.bc) := (hP.cell 6).trans rfl
 obtain ⟨W2, hW2, hX2, hz2, hB2⟩ := box W1 #[.func (.func 152) #[] #[], .slice a.ba s.bin.length a.bc] 108
 have HW2 := Lib.hid hW2
 rw [hz1] at hX2
 have HX2 := Lib.hid hX2; have HBB := Lib.hid (below_up hB1 hB2)
 have hsf : ∀ (fn : Fn) (x y : Array Value) (p : Addr) (m : Mode) (W : World), (store p (.func fn x y) m).run Tryz.prog W = stored Tryz.prog W p (.func fn x y) m := fun fn x y p m W => run_store Tryz.prog W p _ m rfl
 clear hW1 hP hW2 hX2 hB1 hB2
 go_enter Tryz.func60, Tryz.ntmps60
 go_wp2_with fail
 rw [HW1.out]
 go_wp2_with fail
 rw [HW2.out]
 have g0 : W2.cell? ⟨w.heap.size + 1, 0, none⟩ = some (.func (.func 152) #[] #[]) := (HX2.out.cell 0).trans rfl
 have g1 : W2.cell? ⟨w.heap.size + 1, 1, none⟩ = some (.slice a.ba s.bin.length a.bc) := (HX2.out.cell 1).trans rfl
 refine bodyPost_ret (v := .agg #[.func (.func 152) #[] #[], .slice a.ba s.bin.length a.bc]) (by simp [results, Tryz.results60, go_sem, g0, g1]) rfl ⟨rfl, HBB.out⟩
theorem hasG_is (L : List Gon) (hu : St.Up St.gdig L) (h1m : L.length ≤ 1000000) (k : ByteArray) (a : Option Addr) (ca : Nat) (w : World) (hl : L.length ≤ ca ∧ ca ≤ 9223372036854775807) (hr : RowE St.eG w a L) :
  Calls Tryz.prog 62 #[.agg #[.func (.func 152) #[] #[], .slice a L.length ca], .string k] w fun e w' => e = .returned (.bool (St.hasK St.gdig L k)) ∧ Below w.heap.size w w' := by
 obtain ⟨W1, hW1, hP, hz1, hB1⟩ := box w #[.func (.func 152) #[] #[], .slice a L.length ca] 108
 have HW1 := Lib.hid hW1; have HB1 := Lib.hid hB1
 have r0 : W1.cell? ⟨w.heap.size, 0, none⟩ = some (.func (.func 152) #[] #[]) := (hP.cell 0).trans rfl
 have r1 : W1.cell? ⟨w.heap.size, 1, none⟩ = some (.slice a L.length ca) := (hP.cell 1).trans rfl
 have HC := Lib.hid (placeG_is L hu h1m k a ca W1 hl (hr.keep hB1))
 clear hW1 hP hz1 hB1 hr
 go_enter Tryz.func62, Tryz.ntmps62
 go_wp2_with fail
 rw [HW1.out]
 go_wp2_with (go_at_call 153; (with_reducible refine HC.out.mono ?_); rintro e w4 ⟨rfl, hB4⟩)
 go_ret
 exact ⟨rfl, below_up HB1.out hB4⟩
theorem held_is (s : Sto) (a : StA) (w : World) :
  Calls Tryz.prog 58 #[.agg #[.int .i64 s.least, .int .i64 s.wait, .slice a.ta s.tiers.length a.tc, .slice a.fa s.files.length a.fc, .slice a.ca s.copies.length a.cc, .slice a.ha s.held.length a.hc, .slice a.ba s.bin.length a.bc]] w fun e w' => e = .returned (.agg #[.func (.func 149) #[] #[], .slice a.ha s.held.length a.hc]) ∧ Below w.heap.size w w' := by
 obtain ⟨W1, hW1, hP, hz1, hB1⟩ := box w #[.int .i64 s.least, .int .i64 s.wait, .slice a.ta s.tiers.length a.tc, .slice a.fa s.files.length a.fc, .slice a.ca s.copies.length a.cc, .slice a.ha s.held.length a.hc, .slice a.ba s.bin.length a.bc] 28
 have HW1 := Lib.hid hW1; have HB1 := Lib.hid hB1
 have q5 : W1.cell? ⟨w.heap.size, 5, none⟩ = some (.slice a.ha s.held.length a.hc) := (hP.cell 5).trans rfl
 obtain ⟨W2, hW2, hX2, hz2, hB2⟩ := box W1 #[.func (.func 149) #[] #[], .slice a.ha s.held.length a.hc] 103
 have HW2 := Lib.hid hW2
 rw [hz1] at hX2
 have HX2 := Lib.hid hX2; have HBB := Lib.hid (below_up hB1 hB2)
 have hsf : ∀ (fn : Fn) (x y : Array Value) (p : Addr) (m : Mode) (W : World), (store p (.func fn x y) m).run Tryz.prog W = stored Tryz.prog W p (.func fn x y) m := fun fn x y p m W => run_store Tryz.prog W p _ m rfl
 clear hW1 hP hW2 hX2 hB1 hB2
 go_enter Tryz.func58, Tryz.ntmps58
 go_wp2_with fail
 rw [HW1.out]
 go_wp2_with fail
 rw [HW2.out]
 have g0 : W2.cell? ⟨w.heap.size + 1, 0, none⟩ = some (.func (.func 149) #[] #[]) := (HX2.out.cell 0).trans rfl
 have g1 : W2.cell? ⟨w.heap.size + 1, 1, none⟩ = some (.slice a.ha s.held.length a.hc) := (HX2.out.cell 1).trans rfl
 refine bodyPost_ret (v := .agg #[.func (.func 149) #[] #[], .slice a.ha s.held.length a.hc]) (by simp [results, Tryz.results58, go_sem, g0, g1]) rfl ⟨rfl, HBB.out⟩
namespace St
theorem kept_eq (s : Sto) (d : ByteArray) : kept s d = (hasS s.held d || hasK gdig s.bin d) := rfl
theorem neededD_eq (s : Sto) (d : ByteArray) : neededD s d = if (filD s.files d).kind = 1 then kept s (filD s.files d).dig else if (filD s.files d).kind = 2 then kept s (filD s.files d).frm else false := rfl
theorem fil_dig {s : Sto} {d : ByteArray} (h : (filD s.files d).kind ≠ 0) : (filD s.files d).dig = d := by
 cases hf : fileOf s.files d with
 | none => exact absurd (by unfold filD; rw [hf]; rfl) h
 | some f =>
   have e : filD s.files d = f := by unfold filD; rw [hf]; rfl
   rw [e]
   exact eq_iff.1 (find_mem hf).2
end St
theorem needed_is (s : Sto) (a : StA) (mb : Nat) (d : ByteArray) (w : World) (hI : StIn w s a) (hM : FMap w mb s.files) (r : St.Right s) (hd : d.size ≤ 9223372036854775807) :
  Calls Tryz.prog 171 #[.agg #[.int .i64 s.least, .int .i64 s.wait, .slice a.ta s.tiers.length a.tc, .slice a.fa s.files.length a.fc, .slice a.ca s.copies.length a.cc, .slice a.ha s.held.length a.hc, .slice a.ba s.bin.length a.bc, .map (some mb)], .string d] w fun e w' => e = .returned (.bool (St.neededD s d)) ∧ Below w.heap.size w w' := by
 obtain ⟨W1, hW1, hP, hz1, hB1⟩ := box w #[.int .i64 s.least, .int .i64 s.wait, .slice a.ta s.tiers.length a.tc, .slice a.fa s.files.length a.fc, .slice a.ca s.copies.length a.cc, .slice a.ha s.held.length a.hc, .slice a.ba s.bin.length a.bc, .map (some mb)] 135
 have HW1 := Lib.hid hW1; have HB1 := Lib.hid hB1
 have q7 : W1.cell? ⟨w.heap.size, 7, none⟩ = some (.map (some mb)) := hP.eight.2.2.2.2.2.2.2
 obtain ⟨f, hlk, hf⟩ := FMap.kind (hM.keep hB1) r.fup hd
 obtain ⟨W2, hW2, hX, hz2, hB2⟩ := box W1 #[.string f.dig, .int .i64 f.size, .int .i64 f.kind, .string f.frm] 30
 have HW2 := Lib.hid hW2
 have HBB := Lib.hid (below_up hB1 hB2)
 have hnd : St.neededD s d = if f.kind = 1 then St.kept s d else if f.kind = 2 then St.kept s f.frm else false := by
  rw [St.neededD_eq, ← hf]
  by_cases h1 : f.kind = 1
  ·rw [if_pos h1, if_pos h1, hf, St.fil_dig (by rw [← hf]; omega)]
  ·rw [if_neg h1, if_neg h1]
 have HND := Lib.hid hnd
 obtain ⟨_, y1, y2, y3, y4, y5⟩ := St.sizes_iff.1 r.sizes
 have HHR := Lib.hid (fun V => held_is s a V)
 have HBR := Lib.hid (fun V => binRow_is s a V)
 have HHS := Lib.hid (fun V (hv : Below W2.heap.size W2 V) k => hasS_is s.held r.hup (by omega) k a.ha a.hc V hI.hl ((hI.he.keep HBB.out).keep hv))
 have HBS := Lib.hid (fun V (hv : Below W2.heap.size W2 V) k => hasG_is s.bin r.bup (by omega) k a.ba a.bc V hI.bl ((hI.bi.keep HBB.out).keep hv))
 have HVC : Hid (∀ V, Below W2.heap.size W2 V → V.cell? ⟨w.heap.size, 0, none⟩ = some (.int .i64 s.least) ∧ V.cell? ⟨w.heap.size, 1, none⟩ = some (.int .i64 s.wait) ∧ V.cell? ⟨w.heap.size, 2, none⟩ = some (.slice a.ta s.tiers.length a.tc) ∧ V.cell? ⟨w.heap.size, 3, none⟩ = some (.slice a.fa s.files.length a.fc) ∧ V.cell? ⟨w.heap.size, 4, none⟩ = some (.slice a.ca s.copies.length a.cc) ∧ V.cell? ⟨w.heap.size, 5, none⟩ = some (.slice a.ha s.held.length a.hc) ∧ V.cell? ⟨w.heap.size, 6, none⟩ = some (.slice a.ba s.bin.length a.bc) ∧ V.cell? ⟨w.heap.size, 7, none⟩ = some (.map (some mb))) := Lib.hid fun V hv => ((hP.keep hB2).keep hv).eight
 have HUC : Hid (∀ V, Below W2.heap.size W2 V → V.cell? ⟨W1.heap.size, 3, none⟩ = some (.string f.frm)) := Lib.hid fun V hv => ((hX.keep hv).four).2.2.2
 obtain ⟨p0, p1, p2, p3, p4, p5, p6, p7⟩ := (hP.keep hB2).eight
 obtain ⟨x0, x1, x2, x3⟩ := hX.four
 clear hI hM r hW1 hP hz1 hB1 hW2 hX hz2 hB2 hf hnd
 go_enter Tryz.func171, Tryz.ntmps171
 go_wp2_with fail
 rw [HW1.out]
 go_upto_region 2 with fail
 rw [hlk]
 go_upto_region 2 with fail
 rw [HW2.out]
 clear q7 hlk
 by_cases hk1 : f.kind = 1
 ·have hkb : (f.kind == 1) = true := by simpa using hk1
  have hnd := HND.out
  rw [if_pos hk1, St.kept_eq] at hnd
  have HH := Lib.hid (fun V hv => HHS.out V hv d)
  have HG := Lib.hid (fun V hv => HBS.out V hv d)
  generalize St.hasS s.held d = b1 at *
  generalize St.hasK St.gdig s.bin d = b2 at *
  have HN := Lib.hid hnd
  clear hnd
  generalize f.kind = kd at *
  subst hk1
  cases b1
  all_goals
   go_wp2_with (first
    | (go_at_call 58; (with_reducible refine (HHR.out _).mono ?_); rintro e w3 ⟨rfl, hB3⟩)
    | (go_at_call 63; (with_reducible refine (HH.out _ hB3).mono ?_); rintro e w4 ⟨rfl, hB4⟩; have hv4 := below_up hB3 hB4; obtain ⟨p0, p1, p2, p3, p4, p5, p6, p7⟩ := HVC.out _ hv4)
    | (go_at_call 60; (with_reducible refine (HBR.out _).mono ?_); rintro e w5 ⟨rfl, hB5⟩; have hv5 := below_up hv4 hB5)
    | (go_at_call 62; (with_reducible refine (HG.out _ hv5).mono ?_); rintro e w6 ⟨rfl, hB6⟩; have hv4 := below_up hv5 hB6))
   go_ret
   exact ⟨ret_bool (by rw [HN.out]; rfl), below_up HBB.out hv4⟩
 ·have hkb : (f.kind == 1) = false := by simpa using hk1
  by_cases hk2 : f.kind = 2
  ·have hkc : (f.kind == 2) = true := by simpa using hk2
   have hnd := HND.out
   rw [if_neg hk1, if_pos hk2, St.kept_eq] at hnd
   have HH := Lib.hid (fun V hv => HHS.out V hv f.frm)
   have HG := Lib.hid (fun V hv => HBS.out V hv f.frm)
   generalize St.hasS s.held f.frm = b1 at *
   generalize St.hasK St.gdig s.bin f.frm = b2 at *
   have HN := Lib.hid hnd
   clear hnd hk1
   generalize f.kind = kd at *
   subst hk2
   have HRH := Lib.hid (fun d os => Calls.regrown_of (HHR.out (grow (redrawn W2 d) os)))
   have HRB := Lib.hid (fun d os => Calls.regrown_of (HBR.out (grow (redrawn W2 d) os)))
   have HRS := Lib.hid (fun d os => Calls.regrown_of (HH.out (grow (redrawn W2 d) os) (below_regrown W2 d os)))
   have HRG := Lib.hid (fun d os => Calls.regrown_of (HG.out (grow (redrawn W2 d) os) (below_regrown W2 d os)))
   go_upto_region 6 with fail
   have k0 := cell_regrown p0
   have k1 := cell_regrown p1
   have k2 := cell_regrown p2
   have k3 := cell_regrown p3
   have k4 := cell_regrown p4
   have k5 := cell_regrown p5
   have k6 := cell_regrown p6
   have k7 := cell_regrown x3
   clear p0 p1 p2 p3 p4 p5 p6 p7 x0 x1 x2 x3
   cases b1
   all_goals
    refine wp_region_quiet_below (by kernel_rfl) (by kernel_rfl) ?_
    repeat (go_big_quiet_step ((first | (go_at_call 58; with_reducible exact HRH.out _ _) | (go_at_call 60; with_reducible exact HRB.out _ _) | (go_at_call 63; with_reducible exact HRS.out _ _) | (go_at_call 62; with_reducible exact HRG.out _ _))))
    refine wpQuiet_nil ?_
    intro _ hw'
    obtain ⟨⟨dq, osq⟩, hw''⟩ := hw'
    subst hw''
    have hBw9 := below_regrown W2 dq osq
    generalize grow (redrawn W2 dq) osq = w9 at *
    clear dq osq
    go_wp2_with fail
    go_ret
    exact ⟨ret_bool (by rw [HN.out]; rfl), below_up HBB.out hBw9⟩
  ·have hkc : (f.kind == 2) = false := by simpa using hk2
   have hnd := HND.out
   rw [if_neg hk1, if_neg hk2] at hnd
   have HN := Lib.hid hnd
   clear hnd
   go_wp2_with fail
   go_ret
   exact ⟨ret_bool (by rw [HN.out]), HBB.out⟩
theorem isGarbage_is (s : Sto) (a : StA) (mb : Nat) (c : Cop) (hc : c ∈ s.copies) (w : World) (hI : StIn w s a) (hM : FMap w mb s.files) (r : St.Right s) :
  Calls Tryz.prog 165 #[.agg #[.int .i64 s.least, .int .i64 s.wait, .slice a.ta s.tiers.length a.tc, .slice a.fa s.files.length a.fc, .slice a.ca s.copies.length a.cc, .slice a.ha s.held.length a.hc, .slice a.ba s.bin.length a.bc, .map (some mb)], .agg #[.string c.dig, .string c.tier, .bool c.good, .int .i64 c.asked]] w fun e w' => e = .returned (.bool (St.garbage s c)) ∧ Below w.heap.size w w' := by
 have h16 := St.cop_dig r hc
 obtain ⟨W0, hW0, hP, hz0, hB0⟩ := box w #[.int .i64 s.least, .int .i64 s.wait, .slice a.ta s.tiers.length a.tc, .slice a.fa s.files.length a.fc, .slice a.ca s.copies.length a.cc, .slice a.ha s.held.length a.hc, .slice a.ba s.bin.length a.bc, .map (some mb)] 135
 obtain ⟨W1, hW1, hC, hz1, hB1⟩ := box W0 #[.string c.dig, .string c.tier, .bool c.good, .int .i64 c.asked] 74
 have HW0 := Lib.hid hW0; have HW1 := Lib.hid hW1
 have hP := hP.keep hB1
 rw [hz0] at hC hz1
 have HB1 := Lib.hid (below_up hB0 hB1)
 have q7 : W1.cell? ⟨w.heap.size, 7, none⟩ = some (.map (some mb)) := hP.eight.2.2.2.2.2.2.2
 obtain ⟨c0, c1, c2, c3⟩ := hC.four
 obtain ⟨f, hlk, hf⟩ := FMap.kind (hM.keep HB1.out) r.fup (d := c.dig) (by omega)
 obtain ⟨W2, hW2, hX, hz2, hB2⟩ := box W1 #[.string f.dig, .int .i64 f.size, .int .i64 f.kind, .string f.frm] 30
 have HW2 := Lib.hid hW2
 have HBB := Lib.hid (below_up HB1.out hB2)
 have h16f : f.kind = 3 → f.frm.size = 16 := fun h => by rw [hf] at h ⊢; exact (St.frm16 r (.inl h)).1
 have hgb : St.garbage s c = (!(St.neededD s c.dig || (decide (f.kind = 3) && St.neededD s f.frm)) || (!c.good && decide (0 < (St.goodL s c.dig).length))) := by rw [hf]; rfl
 have HN1 := Lib.hid (fun V (hv : Below W2.heap.size W2 V) => needed_is s a mb c.dig V ((hI.keep HBB.out).keep hv) ((hM.keep HBB.out).keep hv) r (by omega))
 have HN2 := Lib.hid (fun (hk : f.kind = 3) V (hv : Below W2.heap.size W2 V) => needed_is s a mb f.frm V ((hI.keep HBB.out).keep hv) ((hM.keep HBB.out).keep hv) r (by have := h16f hk; omega))
 have HGD := Lib.hid (fun V (hv : Below W2.heap.size W2 V) => good_is s a mb c.dig V ((hI.keep HBB.out).keep hv) r h16)
 unfold TirPost at HGD
 have HVC : Hid (∀ V, Below W2.heap.size W2 V → V.cell? ⟨w.heap.size, 0, none⟩ = some (.int .i64 s.least) ∧ V.cell? ⟨w.heap.size, 1, none⟩ = some (.int .i64 s.wait) ∧ V.cell? ⟨w.heap.size, 2, none⟩ = some (.slice a.ta s.tiers.length a.tc) ∧ V.cell? ⟨w.heap.size, 3, none⟩ = some (.slice a.fa s.files.length a.fc) ∧ V.cell? ⟨w.heap.size, 4, none⟩ = some (.slice a.ca s.copies.length a.cc) ∧ V.cell? ⟨w.heap.size, 5, none⟩ = some (.slice a.ha s.held.length a.hc) ∧ V.cell? ⟨w.heap.size, 6, none⟩ = some (.slice a.ba s.bin.length a.bc) ∧ V.cell? ⟨w.heap.size, 7, none⟩ = some (.map (some mb))) := Lib.hid fun V hv => ((hP.keep hB2).keep hv).eight
 have HUC : Hid (∀ V, Below W2.heap.size W2 V → V.cell? ⟨W1.heap.size, 2, none⟩ = some (.int .i64 f.kind) ∧ V.cell? ⟨W1.heap.size, 3, none⟩ = some (.string f.frm)) := Lib.hid fun V hv => ((hX.keep hv).four).2.2
 have HCC : Hid (∀ V, Below W2.heap.size W2 V → V.cell? ⟨w.heap.size + 1, 0, none⟩ = some (.string c.dig) ∧ V.cell? ⟨w.heap.size + 1, 2, none⟩ = some (.bool c.good)) := Lib.hid fun V hv => ⟨(((hC.keep hB2).keep hv).four).1, (((hC.keep hB2).keep hv).four).2.2.1⟩
 have HGB := Lib.hid hgb
 clear hI hM r hW0 hW1 hP hC hz0 hz1 hB0 hB1 hW2 hX hz2 hB2 hf h16 h16f hgb hc
 go_enter Tryz.func165, Tryz.ntmps165
 go_upto_region 1 with fail
 rw [HW0.out, HW1.out]
 go_upto_region 2 with fail
 rw [HW2.out]
 clear q7 hlk c0 c1 c2 c3
 have hv : Below W2.heap.size W2 W2 := Below.refl _ _
 obtain ⟨p0, p1, p2, p3, p4, p5, p6, p7⟩ := HVC.out _ hv
 obtain ⟨u2, u3⟩ := HUC.out _ hv
 obtain ⟨d0, d2⟩ := HCC.out _ hv
 obtain ⟨kb, hkb⟩ : ∃ kb, decide (f.kind = 3) = kb := ⟨_, rfl⟩
 have hkc : (f.kind == 3) = kb := by rw [← hkb]; rfl
 have HK3 : Hid (kb = true → f.kind = 3) := Lib.hid fun h => by rw [h] at hkb; exact of_decide_eq_true hkb
 have hg := HGB.out
 rw [hkb] at hg
 obtain ⟨m, hm⟩ : ∃ m, (St.goodL s c.dig).length = m := ⟨_, rfl⟩
 rw [hm] at HGD hg
 generalize St.neededD s c.dig = n1 at *
 generalize St.neededD s f.frm = n2 at *
 obtain ⟨cg, hcg⟩ : ∃ cg, c.good = cg := ⟨_, rfl⟩
 rw [hcg] at d2 HCC hg
 have HG := Lib.hid hg
 clear hg hm hkb hcg HGB
 cases kb
 ·cases n1 <;> cases cg
  all_goals
   go_wp2_with (first
    | (go_at_call 171; (with_reducible refine (HN1.out _ hv).mono ?_); rintro e w3 ⟨rfl, hq⟩; have hv := below_up hv hq; obtain ⟨p0, p1, p2, p3, p4, p5, p6, p7⟩ := HVC.out _ hv; obtain ⟨u2, u3⟩ := HUC.out _ hv; obtain ⟨d0, d2⟩ := HCC.out _ hv)
    | (go_at_call 103; (with_reducible refine (HGD.out _ hv).mono ?_); rintro e w5 ⟨g, cap, rfl, ho, hq⟩; have hv := below_up hv hq))
   go_ret
   exact ⟨ret_bool (by rw [HG.out]; first | rfl | simp), below_up HBB.out hv⟩
 ·have HN3 := Lib.hid (HN2.out (HK3.out rfl))
  cases n1 <;> cases n2 <;> cases cg
  all_goals
   go_wp2_with (first
    | (go_at_call 171; (with_reducible refine (HN1.out _ hv).mono ?_); rintro e w3 ⟨rfl, hq⟩; have hv := below_up hv hq; obtain ⟨p0, p1, p2, p3, p4, p5, p6, p7⟩ := HVC.out _ hv; obtain ⟨u2, u3⟩ := HUC.out _ hv; obtain ⟨d0, d2⟩ := HCC.out _ hv)
    | (go_at_call 171; (with_reducible refine (HN3.out _ hv).mono ?_); rintro e w4 ⟨rfl, hq⟩; have hv := below_up hv hq; obtain ⟨p0, p1, p2, p3, p4, p5, p6, p7⟩ := HVC.out _ hv; obtain ⟨u2, u3⟩ := HUC.out _ hv; obtain ⟨d0, d2⟩ := HCC.out _ hv)
    | (go_at_call 103; (with_reducible refine (HGD.out _ hv).mono ?_); rintro e w5 ⟨g, cap, rfl, ho, hq⟩; have hv := below_up hv hq))
   go_ret
   exact ⟨ret_bool (by rw [HG.out]; first | rfl | simp), below_up HBB.out hv⟩
def CopPost (w : World) (L : List Cop) (e : Ending) (w' : World) : Prop := ∃ g cap, e = .returned (.slice g L.length cap) ∧ OwnV w' w.heap.size 74 4 (.slice g L.length cap) L.length (St.eC.flat L) ∧ Below w.heap.size w w'
namespace St
end St
theorem before_is (x y : Cop) (w : World) :
  Calls Tryz.prog 77 #[.agg #[.string x.dig, .string x.tier, .bool x.good, .int .i64 x.asked], .agg #[.string y.dig, .string y.tier, .bool y.good, .int .i64 y.asked]] w fun e w' => e = .returned (.bool (St.ahead x y)) ∧ Below w.heap.size w w' := by
 obtain ⟨W1, hW1, hP, hz1, hB1⟩ := box w #[.string x.dig, .string x.tier, .bool x.good, .int .i64 x.asked] 74
 obtain ⟨W2, hW2, hQ, hz2, hB2⟩ := box W1 #[.string y.dig, .string y.tier, .bool y.good, .int .i64 y.asked] 74
 have HW1 := Lib.hid hW1; have HW2 := Lib.hid hW2
 have HBB := Lib.hid (below_up hB1 hB2)
 have hP2 := hP.keep hB2
 rw [hz1] at hQ
 have d0 : W2.cell? ⟨w.heap.size, 0, none⟩ = some (.string x.dig) := (hP2.cell 0).trans rfl
 have d1 : W2.cell? ⟨w.heap.size, 1, none⟩ = some (.string x.tier) := (hP2.cell 1).trans rfl
 have e0 : W2.cell? ⟨w.heap.size + 1, 0, none⟩ = some (.string y.dig) := (hQ.cell 0).trans rfl
 have e1 : W2.cell? ⟨w.heap.size + 1, 1, none⟩ = some (.string y.tier) := (hQ.cell 1).trans rfl
 have HV : Hid (St.ahead x y = (Op.bytesLess x.dig.toList y.dig.toList || (x.dig.toList == y.dig.toList && Op.bytesLess x.tier.toList y.tier.toList))) := Lib.hid rfl
 obtain ⟨a1, h1⟩ : ∃ a1, Op.bytesLess x.dig.toList y.dig.toList = a1 := ⟨_, rfl⟩
 obtain ⟨a2, h2⟩ : ∃ a2, (x.dig.toList == y.dig.toList) = a2 := ⟨_, rfl⟩
 obtain ⟨a3, h3⟩ : ∃ a3, Op.bytesLess x.tier.toList y.tier.toList = a3 := ⟨_, rfl⟩
 rw [h1, h2, h3] at HV
 clear hW1 hW2 hP hP2 hQ hB1 hB2 hz1 hz2
 cases a1 <;> cases a2 <;> cases a3 <;>
  (go_enter Tryz.func77, Tryz.ntmps77
   go_wp2_with fail
   rw [HW1.out, HW2.out]
   go_wp2_with fail
   go_ret
   exact ⟨ret_bool (by rw [HV.out]; rfl), HBB.out⟩)
namespace St
def faultE (f : Fil) : Int := if Fd.fileB f.dig = true then fileR f else 1
end St
theorem fileFault_is (x : Fil) (hz : x.dig.size ≤ 9223372036854775807) (w : World) :
  Calls Tryz.prog 74 #[.agg #[.string x.dig, .int .i64 x.size, .int .i64 x.kind, .string x.frm]] w fun e w' => e = .returned (.int .i64 (St.faultE x)) ∧ Below w.heap.size w w' := by
 obtain ⟨W3, hW3, hX3, hz3, hB3⟩ := box w #[.string x.dig, .int .i64 x.size, .int .i64 x.kind, .string x.frm] 30
 have HW3 := Lib.hid hW3; have HB3 := Lib.hid hB3
 have d0 : W3.cell? ⟨w.heap.size, 0, none⟩ = some (.string x.dig) := (hX3.cell 0).trans rfl
 have d1 : W3.cell? ⟨w.heap.size, 1, none⟩ = some (.int .i64 x.size) := (hX3.cell 1).trans rfl
 have d2 : W3.cell? ⟨w.heap.size, 2, none⟩ = some (.int .i64 x.kind) := (hX3.cell 2).trans rfl
 have d3 : W3.cell? ⟨w.heap.size, 3, none⟩ = some (.string x.frm) := (hX3.cell 3).trans rfl
 have HDG := Lib.hid (isDigest_is x.dig hz _ rfl W3)
 have HO1 := Lib.hid (fun W => inS_is x.size 0 1000000000 W)
 have HO2 := Lib.hid (fun W => inS_is x.kind 1 3 W)
 obtain ⟨q, hq⟩ : ∃ q, St.faultE x = q := ⟨_, rfl⟩
 rw [hq]
 unfold St.faultE St.fileR at hq
 clear hW3 hX3 hB3 hz3 hz
 generalize Fd.fileB x.dig = bd at *
 generalize St.inB x.size 0 1000000000 = b1 at *
 generalize St.inB x.kind 1 3 = b2 at *
 cases bd
 ·have HQ := Lib.hid hq
  clear hq
  go_enter Tryz.func74, Tryz.ntmps74
  go_wp2_with fail
  rw [HW3.out]
  go_wp2_with (first | (go_at_call 73; (with_reducible refine HDG.out.mono ?_); rintro e w4 ⟨rfl, rfl⟩) | (go_at_call 70; first | ((with_reducible refine (HO1.out _).mono ?_); rintro e w4 ⟨rfl, rfl⟩) | ((with_reducible refine (HO2.out _).mono ?_); rintro e w4 ⟨rfl, rfl⟩)))
  go_ret
  exact ⟨ret_int (by rw [← HQ.out]; rfl), HB3.out⟩
 cases b1
 ·have HQ := Lib.hid hq
  clear hq
  go_enter Tryz.func74, Tryz.ntmps74
  go_wp2_with fail
  rw [HW3.out]
  go_wp2_with (first | (go_at_call 73; (with_reducible refine HDG.out.mono ?_); rintro e w4 ⟨rfl, rfl⟩) | (go_at_call 70; first | ((with_reducible refine (HO1.out _).mono ?_); rintro e w4 ⟨rfl, rfl⟩) | ((with_reducible refine (HO2.out _).mono ?_); rintro e w4 ⟨rfl, rfl⟩)))
  go_ret
  exact ⟨ret_int (by rw [← HQ.out]; rfl), HB3.out⟩
 cases b2
 ·have HQ := Lib.hid hq
  clear hq
  go_enter Tryz.func74, Tryz.ntmps74
  go_wp2_with fail
  rw [HW3.out]
  go_wp2_with (first | (go_at_call 73; (with_reducible refine HDG.out.mono ?_); rintro e w4 ⟨rfl, rfl⟩) | (go_at_call 70; first | ((with_reducible refine (HO1.out _).mono ?_); rintro e w4 ⟨rfl, rfl⟩) | ((with_reducible refine (HO2.out _).mono ?_); rintro e w4 ⟨rfl, rfl⟩)))
  go_ret
  exact ⟨ret_int (by rw [← HQ.out]; rfl), HB3.out⟩
 by_cases hk : x.kind = 1
 ·have hk2 : (x.kind == 1) = true := by simpa using hk
  cases he : x.frm.toList.isEmpty
  ·have HQ : Hid ((1 : Int) = q) := Lib.hid (by rw [← hq, if_pos rfl, if_pos rfl, if_pos rfl, if_pos ⟨hk, he⟩])
   clear hq hk
   go_enter Tryz.func74, Tryz.ntmps74
   go_wp2_with fail
   rw [HW3.out]
   go_wp2_with (first | (go_at_call 73; (with_reducible refine HDG.out.mono ?_); rintro e w4 ⟨rfl, rfl⟩) | (go_at_call 70; first | ((with_reducible refine (HO1.out _).mono ?_); rintro e w4 ⟨rfl, rfl⟩) | ((with_reducible refine (HO2.out _).mono ?_); rintro e w4 ⟨rfl, rfl⟩)))
   go_ret
   exact ⟨ret_int HQ.out, HB3.out⟩
  ·have HQ : Hid ((0 : Int) = q) := Lib.hid (by rw [← hq, if_pos rfl, if_pos rfl, if_pos rfl, if_neg (by rintro ⟨_, g⟩; rw [he] at g; cases g)])
   clear hq hk
   go_enter Tryz.func74, Tryz.ntmps74
   go_wp2_with fail
   rw [HW3.out]
   go_wp2_with (first | (go_at_call 73; (with_reducible refine HDG.out.mono ?_); rintro e w4 ⟨rfl, rfl⟩) | (go_at_call 70; first | ((with_reducible refine (HO1.out _).mono ?_); rintro e w4 ⟨rfl, rfl⟩) | ((with_reducible refine (HO2.out _).mono ?_); rintro e w4 ⟨rfl, rfl⟩)))
   go_ret
   exact ⟨ret_int HQ.out, HB3.out⟩
 ·have hk2 : (x.kind == 1) = false := by simpa using hk
  have HQ : Hid ((0 : Int) = q) := Lib.hid (by rw [← hq, if_pos rfl, if_pos rfl, if_pos rfl, if_neg (by rintro ⟨g, _⟩; exact hk g)])
  clear hq
  go_enter Tryz.func74, Tryz.ntmps74
  go_wp2_with fail
  rw [HW3.out]
  go_wp2_with (first | (go_at_call 73; (with_reducible refine HDG.out.mono ?_); rintro e w4 ⟨rfl, rfl⟩) | (go_at_call 70; first | ((with_reducible refine (HO1.out _).mono ?_); rintro e w4 ⟨rfl, rfl⟩) | ((with_reducible refine (HO2.out _).mono ?_); rintro e w4 ⟨rfl, rfl⟩)))
  go_ret
  exact ⟨ret_int HQ.out, HB3.out⟩
theorem idxS_is (L : List ByteArray) (sa : Option Addr) (sc : Nat) (z : ByteArray) (w : World) (hr : RowE St.eS w sa L) (hl : L.length ≤ sc ∧ sc ≤ 9223372036854775807) :
  Calls Tryz.prog 130 #[.slice sa L.length sc, .string z] w fun e w' => (∃ r : Int, e = .returned (.int .i64 r) ∧ (0 ≤ r ↔ St.hasS L z = true)) ∧ w = w' := by
 have HR := Lib.hid hr
 have HQ : Hid (∀ r : Int, (0 ≤ r ↔ (L.drop 0).any (fun x => St.eq x z) = true) → (0 ≤ r ↔ St.hasS L z = true)) := Lib.hid fun r h => h
 obtain ⟨n, hn⟩ : ∃ n, L.length = n := ⟨_, rfl⟩
 have HN := Lib.hid hn
 rw [hn] at hl ⊢
 clear hr hn
 go_enter Tryz.func130, Tryz.ntmps130
 go_wp2_with fail
 go_loopg [8] n (fun gk i wr => ∃ j : Nat, j ≤ n ∧ gk = n - j ∧ i = .int .i64 j ∧ (∀ r : Int, (0 ≤ r ↔ (L.drop j).any (fun x => St.eq x z) = true) → (0 ≤ r ↔ St.hasS L z = true)) ∧ w = wr)
 case atStart => exact ⟨0, by omega, rfl, rfl, HQ.out, rfl⟩
 case round =>
  obtain ⟨j, hj, rfl, rfl, hs, rfl⟩ := hrel
  have HSC := Lib.hid hs; clear hs
  by_cases hlt : j < n
  ·obtain ⟨x, hx⟩ : ∃ x, L[j]? = some x := ⟨_, List.getElem?_eq_getElem (by rw [HN.out]; exact hlt)⟩
   obtain ⟨b, off, ha, hb, hcell⟩ := HR.out (by rw [HN.out]; omega)
   have c0 : w.cell? ⟨b, off + j, none⟩ = some (.string x) := by
    have := hcell j x hx 0 (.string x) rfl
    rw [show off + j * St.eS.k + 0 = off + j by simp [St.eS]] at this
    exact this
   have HX : Hid (L.drop j = x :: L.drop (j + 1)) := Lib.hid (by
    obtain ⟨h1, h2⟩ := List.getElem?_eq_some_iff.1 hx
    rw [List.drop_eq_getElem_cons h1, h2])
   have hj0 : (0 : Int) ≤ (j : Int) := by omega
   have hj1 : (j : Int) < (n : Int) := by omega
   obtain ⟨bq, hbq⟩ : ∃ bq, (x.toList == z.toList) = bq := ⟨_, rfl⟩
   obtain ⟨bq2, hbq2⟩ : ∃ bq, (z.toList == x.toList) = bq := ⟨_, rfl⟩
   have hbe : bq2 = bq := by
    rw [← hbq, ← hbq2, Bool.eq_iff_iff, beq_iff_eq, beq_iff_eq]
    exact eq_comm
   subst hbe
   have HBQ : Hid (St.eq x z = bq2) := Lib.hid hbq
   rw [ha]
   clear hcell hx
   cases bq2
   ·have HNX : Hid (∀ r : Int, (0 ≤ r ↔ (L.drop (j + 1)).any (fun x => St.eq x z) = true) → (0 ≤ r ↔ St.hasS L z = true)) := Lib.hid fun r h => HSC.out r (by rw [HX.out, List.any_cons, HBQ.out, Bool.false_or]; exact h)
    go_wp2_with fail
    rw [← ha]
    go_roundg (n - (j + 1))
    case rel => exact ⟨j + 1, by omega, rfl, by go_num, HNX.out, rfl⟩
    case measure => omega
   ·go_wp2_with fail
    go_ret
    exact ⟨⟨_, rfl, HSC.out _ (by rw [HX.out, List.any_cons, HBQ.out, Bool.true_or]; exact ⟨fun _ => rfl, fun _ => by omega⟩)⟩, rfl⟩
  ·obtain rfl : j = n := by omega
   go_wp2_with fail
   go_ret
   exact ⟨⟨_, rfl, HSC.out _ (by rw [List.drop_eq_nil_of_le (by rw [HN.out]; exact Nat.le_refl _)]; simp)⟩, rfl⟩
theorem containsS_is (L : List ByteArray) (sa : Option Addr) (sc : Nat) (z : ByteArray) (w : World) (hr : RowE St.eS w sa L) (hl : L.length ≤ sc ∧ sc ≤ 9223372036854775807) :
  Calls Tryz.prog 49 #[.slice sa L.length sc, .string z] w fun e w' => e = .returned (.bool (St.hasS L z)) ∧ w = w' := by
 have HC := Lib.hid (idxS_is L sa sc z w hr hl)
 go_enter Tryz.func49, Tryz.ntmps49
 go_wp2_with (go_at_call 130; (with_reducible refine HC.out.mono ?_); rintro e w4 ⟨⟨r, rfl, hr2⟩, rfl⟩)
 go_ret
 refine ⟨ret_bool ?_, rfl⟩
 rw [Bool.eq_iff_iff, ← hr2]
end Go.Proofs.YthdiccdnggloiaaGreatDoor
