/- Parts of the proof, no condition: StRlR, StHgR. -/
import Derived.Test.YthdiccdnggloiaaGreatDoorKp11
import Derived.Test.YthdiccdnggloiaaGreatDoorKp9
import Derived.Test.YthdiccdnggloiaaGreatDoorKp4
set_option maxRecDepth 100000
set_option maxHeartbeats 16000000
set_option linter.unusedSimpArgs false
set_option linter.unusedVariables false
namespace Go.Proofs.YthdiccdnggloiaaGreatDoor
open Go.RowKit Go.Sort Go.Shelf Go.Maps
namespace St
theorem bin_none {s : Sto} (r : Right s) {d : ByteArray} (hd : hasK id s.held d = true) : hasK gdig s.bin d = false := by
 cases e : hasK gdig s.bin d with
 | false => rfl
 | true =>
   obtain ⟨g, hg, hgd⟩ := hasK_iff.1 e
   have := (binR_iff.1 (r.bin g hg).2).2
   have hgd' : g.dig = d := hgd
   rw [hgd', hd] at this; cases this
theorem held_none {s : Sto} (r : Right s) {d : ByteArray} (hd : hasK gdig s.bin d = true) : hasK id s.held d = false := by
 obtain ⟨g, hg, hgd⟩ := hasK_iff.1 hd
 have := (binR_iff.1 (r.bin g hg).2).2
 have hgd' : g.dig = d := hgd
 rw [hgd'] at this; simpa using this
end St
theorem Blk.besideV {V x1 : World} {B k n q : Nat} {e t : TypeId} {v : Value} {xs : List Value} {c : Array Value} (hb : Blk V q c t) (h : OwnV V B e k v n xs) (hg : V.grownBy x1 v.ownBlock) (hq : q < B) : Blk x1 q c t :=
 hb.of_block (hg.block q (Array.getElem?_eq_some_iff.1 hb).1 (fun e2 => by have := (h.lt q e2.symm).1; omega))
theorem StOwn.heldNew {V x1 : World} {B q : Nat} {s : Sto} {b : StA} (h : StOwn V B s b) {HH : List ByteArray} {ga : Option Addr} {gc : Nat} (ho : OwnV x1 B 9 1 (.slice ga HH.length gc) HH.length (St.eS.flat HH)) (hg : V.grownBy x1 (Value.slice b.ha s.held.length b.hc).ownBlock) (hq : q < B) (i : Nat) (u : Value) :
  StOwn (x1.setCell ⟨q, i, none⟩ u) B { s with held := HH } ⟨b.ta, b.tc, b.fa, b.fc, b.ca, b.cc, ga, gc, b.ba, b.bc⟩ :=
 ⟨(h.ti.beside h.he (by decide) hg).next (Below.refl _ _) hq, (h.fi.beside h.he (by decide) hg).next (Below.refl _ _) hq, (h.co.beside h.he (by decide) hg).next (Below.refl _ _) hq, ho.next (Below.refl _ _) hq, (h.bi.beside h.he (by decide) hg).next (Below.refl _ _) hq⟩
theorem StOwn.binNew {V x1 : World} {B q : Nat} {s : Sto} {b : StA} (h : StOwn V B s b) {BB : List Gon} {ga : Option Addr} {gc : Nat} (ho : OwnV x1 B 112 2 (.slice ga BB.length gc) BB.length (St.eG.flat BB)) (hg : V.grownBy x1 (Value.slice b.ba s.bin.length b.bc).ownBlock) (hq : q < B) (i : Nat) (u : Value) :
  StOwn (x1.setCell ⟨q, i, none⟩ u) B { s with bin := BB } ⟨b.ta, b.tc, b.fa, b.fc, b.ca, b.cc, b.ha, b.hc, ga, gc⟩ :=
 ⟨(h.ti.beside h.bi (by decide) hg).next (Below.refl _ _) hq, (h.fi.beside h.bi (by decide) hg).next (Below.refl _ _) hq, (h.co.beside h.bi (by decide) hg).next (Below.refl _ _) hq, (h.he.beside h.bi (by decide) hg).next (Below.refl _ _) hq, ho.next (Below.refl _ _) hq⟩
theorem relF_is (x d : ByteArray) (bd : Nat) (w : World) (hd : w.cell? ⟨bd, 0, none⟩ = some (.string d)) :
  Calls Tryz.prog 88 #[.string x, .pointer (some ⟨bd, 0, none⟩)] w fun e w' => e = .returned (.bool (St.eq x d)) ∧ Below w.heap.size w w' := by
 have h0 : (x.toList == d.toList) = St.eq x d := rfl
 go_enter Tryz.func88, Tryz.ntmps88
 go_wp2_with fail
 go_ret
 exact ⟨rfl, Below.refl _ _⟩
theorem enters_rel : ∀ args w, (callFunc 88 args).run Tryz.prog w = .ok (.enter 88 args) w := enters_of Tryz.func88 (by kernel_rfl) rfl
theorem releasedR_none (s : Sto) (a : StA) (d : ByteArray) (day : Int) (w : World) (hI : StIn w s a) (hd : St.hasK id s.held d = false) : Calls Tryz.prog 18 #[.agg #[.int .i64 s.least, .int .i64 s.wait, .slice a.ta s.tiers.length a.tc, .slice a.fa s.files.length a.fc, .slice a.ca s.copies.length a.cc, .slice a.ha s.held.length a.hc, .slice a.ba s.bin.length a.bc], .string d, .int .i64 day] w (StoErr w 7) := by
 obtain ⟨W0, hW0, hP, hz0, hB0⟩ := box w #[.int .i64 s.least, .int .i64 s.wait, .slice a.ta s.tiers.length a.tc, .slice a.fa s.files.length a.fc, .slice a.ca s.copies.length a.cc, .slice a.ha s.held.length a.hc, .slice a.ba s.bin.length a.bc] 28
 obtain ⟨W1, hW1, hD, hz1, hB1⟩ := box W0 #[.string d] 9
 obtain ⟨W2, hW2, hQ, hz2, hB2⟩ := box W1 #[.int .i64 0, .int .i64 0, .slice none 0 0, .slice none 0 0, .slice none 0 0, .slice none 0 0, .slice none 0 0] 28
 rw [hz0] at hD hz1
 rw [hz1] at hQ hz2
 have hP := (hP.keep hB1).keep hB2
 have hD := hD.keep hB2
 have hBB := below_up hB0 (below_up hB1 hB2)
 have HW0 := Lib.hid hW0; have HW1 := Lib.hid hW1; have HW2 := Lib.hid hW2; have HP := Lib.hid hP; have HD := Lib.hid hD; have HQ := Lib.hid hQ; have HBB := Lib.hid hBB; have HZ2 : Hid (W2.heap.size = w.heap.size + 3) := Lib.hid (by omega)
 have HI2 := Lib.hid (hI.keep hBB)
 obtain ⟨q0, q1, q2, q3, q4, q5, q6⟩ := hP.seven
 have d0 := hD.one
 have HSZ := Lib.hid hI.sz
 clear hI hW0 hW1 hW2 hP hD hQ hz0 hz1 hz2 hB0 hB1 hB2 hBB
 have HHS := Lib.hid (containsS_is s.held a.ha a.hc d W2 HI2.out.he HI2.out.hl)
 rw [show St.hasS s.held d = false from hd] at HHS
 clear hd
 go_enter Tryz.func18, Tryz.ntmps18
 go_upto_region 1 with fail
 rw [HW0.out, HW1.out, HW2.out]
 go_upto_region 2 with (go_at_call 49; (with_reducible refine HHS.out.mono ?_); rintro e w6 ⟨rfl, rfl⟩)
 have hQ3 := HQ.out
 have hB03 := HBB.out
 have hs2 := HZ2.out
 clear q0 q1 q2 q3 q4 q5 q6 d0
 go_wp2_with (refine wpList_store_row rfl 28 _ _ rfl (w.heap.size + 2) #[.int .i64 0, .int .i64 0, .slice none 0 0, .slice none 0 0, .slice none 0 0, .slice none 0 0, .slice none 0 0] rfl rfl 28 _ hQ3 infoSto rfl (by simp [Value.oneCell']) ?_)
 obtain ⟨g0, g1, g2, g3, g4, g5, g6⟩ := (Blk.setRowAt (hQ3) #[.int .i64 0, .int .i64 0, .slice none 0 0, .slice none 0 0, .slice none 0 0, .slice none 0 0, .slice none 0 0]).seven
 refine bodyPost_ret (v := .tuple #[.agg #[.int .i64 0, .int .i64 0, .slice none 0 0, .slice none 0 0, .slice none 0 0, .slice none 0 0, .slice none 0 0], .int .i64 7]) (by simp [results, Tryz.results18, go_sem, g0, g1, g2, g3, g4, g5, g6]) rfl ⟨rfl, below_setRow hB03 (by omega) _⟩
theorem releasedR_range (s : Sto) (a : StA) (d : ByteArray) (day : Int) (w : World) (hI : StIn w s a) (hd : St.hasK id s.held d = true) (hday : St.inB day 0 73048 = false) : Calls Tryz.prog 18 #[.agg #[.int .i64 s.least, .int .i64 s.wait, .slice a.ta s.tiers.length a.tc, .slice a.fa s.files.length a.fc, .slice a.ca s.copies.length a.cc, .slice a.ha s.held.length a.hc, .slice a.ba s.bin.length a.bc], .string d, .int .i64 day] w (StoErr w 2) := by
 obtain ⟨W0, hW0, hP, hz0, hB0⟩ := box w #[.int .i64 s.least, .int .i64 s.wait, .slice a.ta s.tiers.length a.tc, .slice a.fa s.files.length a.fc, .slice a.ca s.copies.length a.cc, .slice a.ha s.held.length a.hc, .slice a.ba s.bin.length a.bc] 28
 obtain ⟨W1, hW1, hD, hz1, hB1⟩ := box W0 #[.string d] 9
 obtain ⟨W2, hW2, hQ, hz2, hB2⟩ := box W1 #[.int .i64 0, .int .i64 0, .slice none 0 0, .slice none 0 0, .slice none 0 0, .slice none 0 0, .slice none 0 0] 28
 rw [hz0] at hD hz1
 rw [hz1] at hQ hz2
 have hP := (hP.keep hB1).keep hB2
 have hD := hD.keep hB2
 have hBB := below_up hB0 (below_up hB1 hB2)
 have HW0 := Lib.hid hW0; have HW1 := Lib.hid hW1; have HW2 := Lib.hid hW2; have HP := Lib.hid hP; have HD := Lib.hid hD; have HQ := Lib.hid hQ; have HBB := Lib.hid hBB; have HZ2 : Hid (W2.heap.size = w.heap.size + 3) := Lib.hid (by omega)
 have HI2 := Lib.hid (hI.keep hBB)
 obtain ⟨q0, q1, q2, q3, q4, q5, q6⟩ := hP.seven
 have d0 := hD.one
 have HSZ := Lib.hid hI.sz
 clear hI hW0 hW1 hW2 hP hD hQ hz0 hz1 hz2 hB0 hB1 hB2 hBB
 have HHS := Lib.hid (containsS_is s.held a.ha a.hc d W2 HI2.out.he HI2.out.hl)
 rw [show St.hasS s.held d = true from hd] at HHS
 have HDY := Lib.hid (fun V => inS_is day 0 73048 V)
 rw [hday] at HDY
 clear hd hday
 go_enter Tryz.func18, Tryz.ntmps18
 go_upto_region 1 with fail
 rw [HW0.out, HW1.out, HW2.out]
 go_upto_region 4 with (first
  | (go_at_call 49; (with_reducible refine HHS.out.mono ?_); rintro e w6 ⟨rfl, rfl⟩)
  | (go_at_call 70; (with_reducible refine (HDY.out _).mono ?_); rintro e w6 ⟨rfl, rfl⟩))
 have hQ3 := HQ.out
 have hB03 := HBB.out
 have hs2 := HZ2.out
 clear q0 q1 q2 q3 q4 q5 q6 d0
 go_wp2_with (refine wpList_store_row rfl 28 _ _ rfl (w.heap.size + 2) #[.int .i64 0, .int .i64 0, .slice none 0 0, .slice none 0 0, .slice none 0 0, .slice none 0 0, .slice none 0 0] rfl rfl 28 _ hQ3 infoSto rfl (by simp [Value.oneCell']) ?_)
 obtain ⟨g0, g1, g2, g3, g4, g5, g6⟩ := (Blk.setRowAt (hQ3) #[.int .i64 0, .int .i64 0, .slice none 0 0, .slice none 0 0, .slice none 0 0, .slice none 0 0, .slice none 0 0]).seven
 refine bodyPost_ret (v := .tuple #[.agg #[.int .i64 0, .int .i64 0, .slice none 0 0, .slice none 0 0, .slice none 0 0, .slice none 0 0, .slice none 0 0], .int .i64 2]) (by simp [results, Tryz.results18, go_sem, g0, g1, g2, g3, g4, g5, g6]) rfl ⟨rfl, below_setRow hB03 (by omega) _⟩
theorem releasedR_ok (s : Sto) (a : StA) (d : ByteArray) (day : Int) (w : World) (hI : StIn w s a) (r : St.Right s) (hd : St.hasK id s.held d = true) (hday : St.inB day 0 73048 = true) : Calls Tryz.prog 18 #[.agg #[.int .i64 s.least, .int .i64 s.wait, .slice a.ta s.tiers.length a.tc, .slice a.fa s.files.length a.fc, .slice a.ca s.copies.length a.cc, .slice a.ha s.held.length a.hc, .slice a.ba s.bin.length a.bc], .string d, .int .i64 day] w (StoOk w (St.release s d day)) := by
 obtain ⟨W0, hW0, hP, hz0, hB0⟩ := box w #[.int .i64 s.least, .int .i64 s.wait, .slice a.ta s.tiers.length a.tc, .slice a.fa s.files.length a.fc, .slice a.ca s.copies.length a.cc, .slice a.ha s.held.length a.hc, .slice a.ba s.bin.length a.bc] 28
 obtain ⟨W1, hW1, hD, hz1, hB1⟩ := box W0 #[.string d] 9
 obtain ⟨W2, hW2, hQ, hz2, hB2⟩ := box W1 #[.int .i64 0, .int .i64 0, .slice none 0 0, .slice none 0 0, .slice none 0 0, .slice none 0 0, .slice none 0 0] 28
 rw [hz0] at hD hz1
 rw [hz1] at hQ hz2
 have hP := (hP.keep hB1).keep hB2
 have hD := hD.keep hB2
 have hBB := below_up hB0 (below_up hB1 hB2)
 have HW0 := Lib.hid hW0; have HW1 := Lib.hid hW1; have HW2 := Lib.hid hW2; have HP := Lib.hid hP; have HD := Lib.hid hD; have HQ := Lib.hid hQ; have HBB := Lib.hid hBB; have HZ2 : Hid (W2.heap.size = w.heap.size + 3) := Lib.hid (by omega)
 have HI2 := Lib.hid (hI.keep hBB)
 obtain ⟨q0, q1, q2, q3, q4, q5, q6⟩ := hP.seven
 have d0 := hD.one
 have HSZ := Lib.hid hI.sz
 clear hI hW0 hW1 hW2 hP hD hQ hz0 hz1 hz2 hB0 hB1 hB2 hBB
 have HHS := Lib.hid (containsS_is s.held a.ha a.hc d W2 HI2.out.he HI2.out.hl)
 rw [show St.hasS s.held d = true from hd] at HHS
 have HDY := Lib.hid (fun V => inS_is day 0 73048 V)
 rw [hday] at HDY
 obtain ⟨⟨y00, y0⟩, y1, y2, y3, y4, y5⟩ := St.sizes_iff.1 r.sizes
 have HCP := Lib.hid (fun V (hv : Below W2.heap.size W2 V) => twin_is s a V (HI2.out.keep hv) ⟨y1, y2, y3, y4, y5⟩)
 unfold CpyPost at HCP
 have rr := St.right_release r hd hday
 have HS5 : Hid (∀ x ∈ St.wo id d s.held, x.size ≤ 9223372036854775807) := Lib.hid fun x hx => by have := St.dsz rr (rr.held x hx); omega
 have HS6 : Hid (∀ g ∈ St.wth St.gdig ⟨d, day⟩ s.bin, g.dig.size ≤ 9223372036854775807) := Lib.hid fun g hg => by have := St.dsz rr (rr.bin g hg).1; omega
 have HRE : Hid (St.release s d day = { s with held := St.wo id d s.held, bin := St.wth St.gdig ⟨d, day⟩ s.bin }) := Lib.hid rfl
 have HFL : Hid (s.held.filter (fun y => !St.eq y d) = St.wo id d s.held) := Lib.hid (St.wo_filter (key := id) r.hup d).symm
 have hbn := St.bin_none r hd
 have HWB : Hid (St.wth St.gdig ⟨d, day⟩ s.bin = s.bin.take (St.pos St.gdig d s.bin) ++ ⟨d, day⟩ :: s.bin.drop (St.pos St.gdig d s.bin)) := Lib.hid (by
  unfold St.wth
  rw [if_neg (by rw [show St.gdig (⟨d, day⟩ : Gon) = d from rfl, hbn]; decide)]
  rfl)
 have hpl := St.pos_le St.gdig d s.bin
 have HPB := Lib.hid (fun i x (h : s.bin[i]? = some x) (hi : i < St.pos St.gdig d s.bin) => St.pos_before h hi)
 have HPA := Lib.hid (fun x (h : s.bin[St.pos St.gdig d s.bin]? = some x) => St.pos_at h)
 obtain ⟨p, hp⟩ : ∃ p, St.pos St.gdig d s.bin = p := ⟨_, rfl⟩
 rw [hp] at HWB hpl HPB HPA
 generalize St.wo id d s.held = HH at *
 generalize St.wth St.gdig ⟨d, day⟩ s.bin = BB at *
 have hbl : BB.length = s.bin.length + 1 := by rw [HWB.out, List.length_append, List.length_cons, List.length_take, List.length_drop]; omega
 have HBL := Lib.hid hbl
 clear r rr hd hday y00 y0 y1 y2 y3 hbn hp hbl
 go_enter Tryz.func18, Tryz.ntmps18
 go_upto_region 1 with fail
 rw [HW0.out, HW1.out, HW2.out]
 have hv : Below W2.heap.size W2 W2 := Below.refl _ _
 go_upto_region 6 with (first
  | (go_at_call 49; (with_reducible refine HHS.out.mono ?_); rintro e w6 ⟨rfl, rfl⟩)
  | (go_at_call 70; (with_reducible refine (HDY.out _).mono ?_); rintro e w6 ⟨rfl, rfl⟩)
  | (go_at_call 81; (with_reducible refine (HCP.out _ hv).mono ?_); rintro e w8 ⟨b, rfl, hOwn, hB8⟩)
  | (refine wpList_store_row rfl 28 _ _ rfl w.heap.size #[.int .i64 s.least, .int .i64 s.wait, .slice b.ta s.tiers.length b.tc, .slice b.fa s.files.length b.fc, .slice b.ca s.copies.length b.cc, .slice b.ha s.held.length b.hc, .slice b.ba s.bin.length b.bc] rfl rfl 28 _ (HP.out.keep (below_up hv hB8)) infoSto rfl (by simp [Value.oneCell']) ?_))
 have hlt4 : w.heap.size + 2 < W2.heap.size := by have := HZ2.out; omega
 have hPv := Blk.setRowAt (HP.out.keep hB8) #[.int .i64 s.least, .int .i64 s.wait, .slice b.ta s.tiers.length b.tc, .slice b.fa s.files.length b.fc, .slice b.ca s.copies.length b.cc, .slice b.ha s.held.length b.hc, .slice b.ba s.bin.length b.bc]
 have hQv := (HQ.out.keep hB8).setRowOther (b' := w.heap.size) (by omega) #[.int .i64 s.least, .int .i64 s.wait, .slice b.ta s.tiers.length b.tc, .slice b.fa s.files.length b.fc, .slice b.ca s.copies.length b.cc, .slice b.ha s.held.length b.hc, .slice b.ba s.bin.length b.bc]
 have hDv := (HD.out.keep hB8).setRowOther (b' := w.heap.size) (by omega) #[.int .i64 s.least, .int .i64 s.wait, .slice b.ta s.tiers.length b.tc, .slice b.fa s.files.length b.fc, .slice b.ca s.copies.length b.cc, .slice b.ha s.held.length b.hc, .slice b.ba s.bin.length b.bc]
 have hBv := below_setRow (below_up HBB.out hB8) (Nat.le_refl w.heap.size) #[.int .i64 s.least, .int .i64 s.wait, .slice b.ta s.tiers.length b.tc, .slice b.fa s.files.length b.fc, .slice b.ca s.copies.length b.cc, .slice b.ha s.held.length b.hc, .slice b.ba s.bin.length b.bc]
 have hOv := hOwn.setRow (b := w.heap.size) (by omega) #[.int .i64 s.least, .int .i64 s.wait, .slice b.ta s.tiers.length b.tc, .slice b.fa s.files.length b.fc, .slice b.ca s.copies.length b.cc, .slice b.ha s.held.length b.hc, .slice b.ba s.bin.length b.bc]
 have hVz : W2.heap.size ≤ (w8.setRow w.heap.size #[.int .i64 s.least, .int .i64 s.wait, .slice b.ta s.tiers.length b.tc, .slice b.fa s.files.length b.fc, .slice b.ca s.copies.length b.cc, .slice b.ha s.held.length b.hc, .slice b.ba s.bin.length b.bc]).heap.size := by have := hB8.size; simp; omega
 obtain ⟨V, hV⟩ : ∃ V, w8.setRow w.heap.size #[.int .i64 s.least, .int .i64 s.wait, .slice b.ta s.tiers.length b.tc, .slice b.fa s.files.length b.fc, .slice b.ca s.copies.length b.cc, .slice b.ha s.held.length b.hc, .slice b.ba s.bin.length b.bc] = V := ⟨_, rfl⟩
 rw [hV] at hPv hQv hDv hBv hOv hVz ⊢
 clear hV q0 q1 q2 q3 q4 q5 q6 d0 hOwn hB8 hv
 have HPv := Lib.hid hPv; have HDv := Lib.hid hDv; have HOv := Lib.hid hOv; have HBv := Lib.hid hBv; have HQv := Lib.hid hQv; have HVz := Lib.hid hVz
 have HLT := Lib.hid hlt4
 have HDL := Lib.hid (strF_delV 88 #[.pointer (some ⟨w.heap.size + 1, 0, none⟩)] enters_rel (fun y => St.eq y d) W2.heap.size s.held.length b.hc b.ha s.held V hOv.he (by omega) rfl (fun bb => by
  by_cases hgb : b.ha = some ⟨bb, 0, none⟩
  ·left
   intro U x hx hgr
   have hgb2 := (hOv.he.lt bb (by rw [hgb]; rfl)).1
   have hDU : Blk U (w.heap.size + 1) #[.string d] 9 := hDv.of_block (hgr.block _ (by omega) (by intro e; cases e; omega))
   exact relF_is x d (w.heap.size + 1) U hDU.one
  ·exact .inr hgb))
 rw [HFL.out] at HDL
 obtain ⟨q0, q1, q2, q3, q4, q5, q6⟩ := hPv.seven
 clear hPv hQv hDv hBv hOv hVz hlt4
 have qf := HPv.out.free
 go_upto_region 7 with (go_at_call 87; (with_reducible refine HDL.out.mono ?_); rintro e x1 ⟨rfl, ho1, hg1⟩; have hP1 := HPv.out.besideV HOv.out.he hg1 (by have := HLT.out; omega); obtain ⟨q0, q1, q2, q3, q4, q5, q6⟩ := hP1.seven; have qf := hP1.free)
 have hlt := HLT.out
 have hPx : Blk (x1.setCell ⟨w.heap.size, 5, none⟩ (.slice b.ha HH.length b.hc)) w.heap.size #[.int .i64 s.least, .int .i64 s.wait, .slice b.ta s.tiers.length b.tc, .slice b.fa s.files.length b.fc, .slice b.ca s.copies.length b.cc, .slice b.ha HH.length b.hc, .slice b.ba s.bin.length b.bc] 28 := hP1.set 5 (.slice b.ha HH.length b.hc)
 have hQx := (HQv.out.besideV HOv.out.he hg1 (by omega)).setOther (a := ⟨w.heap.size, 5, none⟩) (by simp <;> omega) (.slice b.ha HH.length b.hc)
 have hDx := (HDv.out.besideV HOv.out.he hg1 (by omega)).setOther (a := ⟨w.heap.size, 5, none⟩) (by simp) (.slice b.ha HH.length b.hc)
 have hOx := HOv.out.heldNew ho1 hg1 (show w.heap.size < W2.heap.size by omega) 5 (.slice b.ha HH.length b.hc)
 have hBx := (below_ownE HBv.out (HOv.out.he.down (show w.heap.size ≤ W2.heap.size by omega)) hg1 (by have := HVz.out; omega)).setCell (p := ⟨w.heap.size, 5, none⟩) (Nat.le_refl _) (.slice b.ha HH.length b.hc)
 have hzx : W2.heap.size ≤ (x1.setCell ⟨w.heap.size, 5, none⟩ (.slice b.ha HH.length b.hc)).heap.size := by have := hg1.size; have := HVz.out; simp; omega
 obtain ⟨X, hX⟩ : ∃ X, x1.setCell ⟨w.heap.size, 5, none⟩ (.slice b.ha HH.length b.hc) = X := ⟨_, rfl⟩
 rw [hX] at hPx hQx hDx hOx hBx hzx ⊢
 clear hX q0 q1 q2 q3 q4 q5 q6 qf hP1 ho1 hg1
 have HPx := Lib.hid hPx; have HQx := Lib.hid hQx; have HDx := Lib.hid hDx; have HOx := Lib.hid hOx; have HBx := Lib.hid hBx; have HZx := Lib.hid hzx
 have hbi : OwnV X W2.heap.size 112 2 (.slice b.ba s.bin.length b.bc) s.bin.length (St.eG.flat s.bin) := hOx.bi
 have HBI := Lib.hid hbi
 have HRB := Lib.hid (RowE.ofV (E := St.eG) (ca := b.bc) hbi)
 have HINS := Lib.hid (fun V (hb : Below X.heap.size X V) (bv : Nat) (hbv : V.heap[bv]? = some (.cells #[.string d, .int .i64 day] 112 (0, 0))) (hge : X.heap.size ≤ bv) => show Calls Tryz.prog 89 #[.slice b.ba s.bin.length b.bc, .int .i64 p, .slice (some ⟨bv, 0, none⟩) 1 1] V (OwnPost V W2.heap.size 112 2 (.slice b.ba s.bin.length b.bc) BB.length (St.eG.flat BB)) from by
  have h := gn_ins W2.heap.size s.bin.length p (.slice b.ba s.bin.length b.bc) (St.eG.flat s.bin) [.string d, .int .i64 day] V (HBI.out.keep hb) (by have := HZx.out; have := hb.size; omega) hpl (by omega) (Enc.flat_one St.eG _) bv _ _ hbv (fun e => by have := (HBI.out.lt bv e).2; omega) rfl rfl (by simp [Value.oneCell'])
  rw [show (St.eG.flat s.bin).take (p * 2) ++ [.string d, .int .i64 day] ++ (St.eG.flat s.bin).drop (p * 2) = St.eG.flat BB from by rw [HWB.out]; exact flat_insG s.bin ⟨d, day⟩ p, ← HBL.out] at h
  exact h)
 unfold OwnPost at HINS
 have hy5 := y5
 clear hPx hQx hDx hOx hBx hzx hbi
 go_upto_region 8 with fail
 go_loopg [8] p (fun gk i wr => ∃ j : Nat, j ≤ p ∧ gk = p - j ∧ i = .int .i64 j ∧ Below X.heap.size X wr)
 case atStart => exact ⟨0, by omega, rfl, rfl, Below.refl _ _⟩
 case round =>
  obtain ⟨j, hj, rfl, rfl, hB⟩ := hrel
  obtain ⟨q0, q1, q2, q3, q4, q5, q6⟩ := (HPx.out.keep hB).seven
  have d0 := (HDx.out.keep hB).one
  by_cases hjn : j < s.bin.length
  ·obtain ⟨x, hx⟩ : ∃ x, s.bin[j]? = some x := ⟨_, List.getElem?_eq_getElem hjn⟩
   obtain ⟨bb, off, ha, hb, hc⟩ := (HRB.out.keep hB) (by omega)
   have c0 : wr.cell? ⟨bb, off + j * 2, none⟩ = some (.string x.dig) := hc j x hx 0 (.string x.dig) rfl
   have hj0 : (0 : Int) ≤ (j : Int) := by omega
   have hj1 : (j : Int) < (s.bin.length : Int) := by omega
   have hd1 : decide ((j : Int) < (s.bin.length : Int)) = true := decide_eq_true hj1
   rw [ha] at q6
   have HXX := Lib.hid hx
   clear hc hx
   cases hl : St.lt x.dig d with
   | true =>
     have hlt : Op.bytesLess x.dig.toList d.toList = true := hl
     have hjp : j < p := by
      rcases Nat.lt_or_ge j p with h | h
      ·exact h
      ·have he : j = p := by omega
       have := HPA.out x (by rw [← he]; exact HXX.out)
       rw [show St.gdig x = x.dig from rfl, hl] at this; cases this
     go_wp2_with fail
     go_quiet (fail)
     go_wp2_with fail
     go_roundg (p - (j + 1))
     case rel => exact ⟨j + 1, by omega, rfl, by go_num, below_drewN hB _⟩
     case measure => omega
   | false =>
     have hlt : Op.bytesLess x.dig.toList d.toList = false := hl
     obtain rfl : j = p := by
      rcases Nat.lt_or_ge j p with h | h
      ·have := HPB.out j x HXX.out h
       rw [show St.gdig x = x.dig from rfl, hl] at this; cases this
      ·omega
     go_wp2_with fail
     go_quiet (fail)
     rw [← ha] at q6
     clear c0 hb ha
     have hB9 := below_drewN hB nq
     generalize World.drewN wr nq = U at *
     clear q0 q1 q2 q3 q4 q5 q6 d0 hB
     have HB9 := Lib.hid hB9
     have hal : Below U.heap.size U (U.alloc (.cells #[.string d, .int .i64 day] 112)) := (Below.refl _ _).alloc (Nat.le_refl _) _
     have hPA := (HPx.out.keep hB9).keep hal
     have hQA := (HQx.out.keep hB9).keep hal
     have hOA := (HOx.out.keep hB9).keep hal
     have HBA := Lib.hid (below_up HBx.out (below_up hB9 hal))
     have HZA : Hid (W2.heap.size ≤ (U.alloc (.cells #[.string d, .int .i64 day] 112)).heap.size) := Lib.hid (by have := HZx.out; have := hB9.size; have := hal.size; omega)
     have HPA2 := Lib.hid hPA; have HQA := Lib.hid hQA; have HOA := Lib.hid hOA
     have HNV : Hid (∀ o, ((U).alloc o).heap[(U).heap.size]? = some o) := Lib.hid (fun o => heap_alloc_new U o)
     have HGE : Hid (X.heap.size ≤ U.heap.size) := Lib.hid hB9.size
     obtain ⟨q0, q1, q2, q3, q4, q5, q6⟩ := (HPx.out.keep hB9).seven
     have d0 := (HDx.out.keep hB9).one
     clear hPA hQA hOA hal hB9
     go_upto_region 11 with (go_at_call 89; (with_reducible refine (HINS.out _ (below_allocs HB9.out _) U.heap.size (HNV.out _) HGE.out).mono ?_); rintro e w8 ⟨g8, c8, rfl, hc8, hg8, hn8⟩; have HC8 := Lib.hid hc8; have HG8 := Lib.hid hg8; have hlt := HLT.out; have hP8 := HPA2.out.besideV HOA.out.bi hg8 (show w.heap.size < W2.heap.size by omega); obtain ⟨q0, q1, q2, q3, q4, q5, q6⟩ := hP8.seven; have qf := hP8.free; clear hc8 hg8 hn8)
     have hPy : Blk (w8.setCell ⟨w.heap.size, 6, none⟩ (.slice (some ⟨g8, 0, none⟩) BB.length c8)) w.heap.size #[.int .i64 s.least, .int .i64 s.wait, .slice b.ta s.tiers.length b.tc, .slice b.fa s.files.length b.fc, .slice b.ca s.copies.length b.cc, .slice b.ha HH.length b.hc, .slice (some ⟨g8, 0, none⟩) BB.length c8] 28 := hP8.set 6 (.slice (some ⟨g8, 0, none⟩) BB.length c8)
     have hQy := (HQA.out.besideV HOA.out.bi HG8.out (by omega)).setOther (a := ⟨w.heap.size, 6, none⟩) (by simp <;> omega) (.slice (some ⟨g8, 0, none⟩) BB.length c8)
     have hOy := HOA.out.binNew (BB := BB) (.inr ⟨g8, c8, rfl, HC8.out⟩) HG8.out (show w.heap.size < W2.heap.size by omega) 6 (.slice (some ⟨g8, 0, none⟩) BB.length c8)
     have hBy := (below_ownE HBA.out (HOA.out.bi.down (show w.heap.size ≤ W2.heap.size by omega)) HG8.out (by have := HZA.out; omega)).setCell (p := ⟨w.heap.size, 6, none⟩) (Nat.le_refl _) (.slice (some ⟨g8, 0, none⟩) BB.length c8)
     generalize w8.setCell ⟨w.heap.size, 6, none⟩ (.slice (some ⟨g8, 0, none⟩) BB.length c8) = Y at *
     clear q0 q1 q2 q3 q4 q5 q6 qf hP8
     have hOz := hOy.setRow (b := w.heap.size + 2) (by omega) #[.int .i64 s.least, .int .i64 s.wait, .slice b.ta s.tiers.length b.tc, .slice b.fa s.files.length b.fc, .slice b.ca s.copies.length b.cc, .slice b.ha HH.length b.hc, .slice (some ⟨g8, 0, none⟩) BB.length c8]
     have HIZ := Lib.hid (hOz.in_ ⟨HSZ.out.tz, HSZ.out.fz, HSZ.out.cz, HS5.out, HS6.out⟩)
     have HBY := Lib.hid (below_setRow hBy (show w.heap.size ≤ w.heap.size + 2 by omega) #[.int .i64 s.least, .int .i64 s.wait, .slice b.ta s.tiers.length b.tc, .slice b.fa s.files.length b.fc, .slice b.ca s.copies.length b.cc, .slice b.ha HH.length b.hc, .slice (some ⟨g8, 0, none⟩) BB.length c8])
     obtain ⟨y0, y1, y2, y3, y4, y5, y6⟩ := hPy.seven
     clear hOy hOz hBy hPy
     go_wp2_with (refine wpList_store_row rfl 28 _ _ rfl (w.heap.size + 2) #[.int .i64 s.least, .int .i64 s.wait, .slice b.ta s.tiers.length b.tc, .slice b.fa s.files.length b.fc, .slice b.ca s.copies.length b.cc, .slice b.ha HH.length b.hc, .slice (some ⟨g8, 0, none⟩) BB.length c8] rfl rfl 28 _ hQy infoSto rfl (by simp [Value.oneCell']) ?_)
     obtain ⟨g0, g1, g2', g3, g4', g5, g6⟩ := (Blk.setRowAt hQy #[.int .i64 s.least, .int .i64 s.wait, .slice b.ta s.tiers.length b.tc, .slice b.fa s.files.length b.fc, .slice b.ca s.copies.length b.cc, .slice b.ha HH.length b.hc, .slice (some ⟨g8, 0, none⟩) BB.length c8]).seven
     refine bodyPost_ret (v := .tuple #[.agg #[.int .i64 s.least, .int .i64 s.wait, .slice b.ta s.tiers.length b.tc, .slice b.fa s.files.length b.fc, .slice b.ca s.copies.length b.cc, .slice b.ha HH.length b.hc, .slice (some ⟨g8, 0, none⟩) BB.length c8], .int .i64 0]) (by simp [results, Tryz.results18, go_sem, g0, g1, g2', g3, g4', g5, g6]) rfl ?_
     rw [HRE.out]
     exact ⟨_, rfl, HIZ.out, HBY.out⟩
  ·obtain rfl : j = p := by omega
   have hd1 : decide ((j : Int) < (s.bin.length : Int)) = false := decide_eq_false (by omega)
   have hd2 : ((j : Int) < (s.bin.length : Int)) = False := eq_false (by omega)
   go_wp2_with fail
   go_quiet (fail)
   have hB9 := below_drewN hB nq
   generalize World.drewN wr nq = U at *
   clear q0 q1 q2 q3 q4 q5 q6 d0 hB
   have HB9 := Lib.hid hB9
   have hal : Below U.heap.size U (U.alloc (.cells #[.string d, .int .i64 day] 112)) := (Below.refl _ _).alloc (Nat.le_refl _) _
   have hPA := (HPx.out.keep hB9).keep hal
   have hQA := (HQx.out.keep hB9).keep hal
   have hOA := (HOx.out.keep hB9).keep hal
   have HBA := Lib.hid (below_up HBx.out (below_up hB9 hal))
   have HZA : Hid (W2.heap.size ≤ (U.alloc (.cells #[.string d, .int .i64 day] 112)).heap.size) := Lib.hid (by have := HZx.out; have := hB9.size; have := hal.size; omega)
   have HPA2 := Lib.hid hPA; have HQA := Lib.hid hQA; have HOA := Lib.hid hOA
   have HNV : Hid (∀ o, ((U).alloc o).heap[(U).heap.size]? = some o) := Lib.hid (fun o => heap_alloc_new U o)
   have HGE : Hid (X.heap.size ≤ U.heap.size) := Lib.hid hB9.size
   obtain ⟨q0, q1, q2, q3, q4, q5, q6⟩ := (HPx.out.keep hB9).seven
   have d0 := (HDx.out.keep hB9).one
   clear hPA hQA hOA hal hB9
   go_upto_region 11 with (go_at_call 89; (with_reducible refine (HINS.out _ (below_allocs HB9.out _) U.heap.size (HNV.out _) HGE.out).mono ?_); rintro e w8 ⟨g8, c8, rfl, hc8, hg8, hn8⟩; have HC8 := Lib.hid hc8; have HG8 := Lib.hid hg8; have hlt := HLT.out; have hP8 := HPA2.out.besideV HOA.out.bi hg8 (show w.heap.size < W2.heap.size by omega); obtain ⟨q0, q1, q2, q3, q4, q5, q6⟩ := hP8.seven; have qf := hP8.free; clear hc8 hg8 hn8)
   have hPy : Blk (w8.setCell ⟨w.heap.size, 6, none⟩ (.slice (some ⟨g8, 0, none⟩) BB.length c8)) w.heap.size #[.int .i64 s.least, .int .i64 s.wait, .slice b.ta s.tiers.length b.tc, .slice b.fa s.files.length b.fc, .slice b.ca s.copies.length b.cc, .slice b.ha HH.length b.hc, .slice (some ⟨g8, 0, none⟩) BB.length c8] 28 := hP8.set 6 (.slice (some ⟨g8, 0, none⟩) BB.length c8)
   have hQy := (HQA.out.besideV HOA.out.bi HG8.out (by omega)).setOther (a := ⟨w.heap.size, 6, none⟩) (by simp <;> omega) (.slice (some ⟨g8, 0, none⟩) BB.length c8)
   have hOy := HOA.out.binNew (BB := BB) (.inr ⟨g8, c8, rfl, HC8.out⟩) HG8.out (show w.heap.size < W2.heap.size by omega) 6 (.slice (some ⟨g8, 0, none⟩) BB.length c8)
   have hBy := (below_ownE HBA.out (HOA.out.bi.down (show w.heap.size ≤ W2.heap.size by omega)) HG8.out (by have := HZA.out; omega)).setCell (p := ⟨w.heap.size, 6, none⟩) (Nat.le_refl _) (.slice (some ⟨g8, 0, none⟩) BB.length c8)
   generalize w8.setCell ⟨w.heap.size, 6, none⟩ (.slice (some ⟨g8, 0, none⟩) BB.length c8) = Y at *
   clear q0 q1 q2 q3 q4 q5 q6 qf hP8
   have hOz := hOy.setRow (b := w.heap.size + 2) (by omega) #[.int .i64 s.least, .int .i64 s.wait, .slice b.ta s.tiers.length b.tc, .slice b.fa s.files.length b.fc, .slice b.ca s.copies.length b.cc, .slice b.ha HH.length b.hc, .slice (some ⟨g8, 0, none⟩) BB.length c8]
   have HIZ := Lib.hid (hOz.in_ ⟨HSZ.out.tz, HSZ.out.fz, HSZ.out.cz, HS5.out, HS6.out⟩)
   have HBY := Lib.hid (below_setRow hBy (show w.heap.size ≤ w.heap.size + 2 by omega) #[.int .i64 s.least, .int .i64 s.wait, .slice b.ta s.tiers.length b.tc, .slice b.fa s.files.length b.fc, .slice b.ca s.copies.length b.cc, .slice b.ha HH.length b.hc, .slice (some ⟨g8, 0, none⟩) BB.length c8])
   obtain ⟨y0, y1, y2, y3, y4, y5, y6⟩ := hPy.seven
   clear hOy hOz hBy hPy
   go_wp2_with (refine wpList_store_row rfl 28 _ _ rfl (w.heap.size + 2) #[.int .i64 s.least, .int .i64 s.wait, .slice b.ta s.tiers.length b.tc, .slice b.fa s.files.length b.fc, .slice b.ca s.copies.length b.cc, .slice b.ha HH.length b.hc, .slice (some ⟨g8, 0, none⟩) BB.length c8] rfl rfl 28 _ hQy infoSto rfl (by simp [Value.oneCell']) ?_)
   obtain ⟨g0, g1, g2', g3, g4', g5, g6⟩ := (Blk.setRowAt hQy #[.int .i64 s.least, .int .i64 s.wait, .slice b.ta s.tiers.length b.tc, .slice b.fa s.files.length b.fc, .slice b.ca s.copies.length b.cc, .slice b.ha HH.length b.hc, .slice (some ⟨g8, 0, none⟩) BB.length c8]).seven
   refine bodyPost_ret (v := .tuple #[.agg #[.int .i64 s.least, .int .i64 s.wait, .slice b.ta s.tiers.length b.tc, .slice b.fa s.files.length b.fc, .slice b.ca s.copies.length b.cc, .slice b.ha HH.length b.hc, .slice (some ⟨g8, 0, none⟩) BB.length c8], .int .i64 0]) (by simp [results, Tryz.results18, go_sem, g0, g1, g2', g3, g4', g5, g6]) rfl ?_
   rw [HRE.out]
   exact ⟨_, rfl, HIZ.out, HBY.out⟩
theorem OwnV.offSet {w : World} {B k n q : Nat} {e : TypeId} {v : Value} {xs : List Value} (h : OwnV w B e k v n xs) (ho : v.ownBlock ≠ some q) (i : Nat) (u : Value) : OwnV (w.setCell ⟨q, i, none⟩ u) B e k v n xs := by
 rcases h with h | ⟨g, cap, h, hc⟩
 ·exact .inl h
 ·refine .inr ⟨g, cap, h, hc.of_block (Below.heap_setCell w _ u g ?_)⟩
  intro e2
  have e3 : g = q := e2
  subst e3
  exact ho (by rw [h]; rfl)
theorem OwnV.offRow {w : World} {B k n q : Nat} {e : TypeId} {v : Value} {xs : List Value} (h : OwnV w B e k v n xs) (ho : v.ownBlock ≠ some q) (cs : Array Value) : OwnV (w.setRow q cs) B e k v n xs := by
 rcases h with h | ⟨g, cap, h, hc⟩
 ·exact .inl h
 ·refine .inr ⟨g, cap, h, hc.of_block (setRow_other w q g cs ?_)⟩
  intro e3
  subst e3
  exact ho (by rw [h]; rfl)
theorem Blk.offV {V x1 : World} {q : Nat} {t : TypeId} {v : Value} {c : Array Value} (hb : Blk V q c t) (hg : V.grownBy x1 v.ownBlock) (ho : v.ownBlock ≠ some q) : Blk x1 q c t :=
 hb.of_block (hg.block q (Array.getElem?_eq_some_iff.1 hb).1 (fun e2 => ho e2.symm))
structure StOff (a : StA) (q : Nat) : Prop where
 ti : (Value.slice a.ta 0 0).ownBlock ≠ some q
 fi : (Value.slice a.fa 0 0).ownBlock ≠ some q
 co : (Value.slice a.ca 0 0).ownBlock ≠ some q
 he : (Value.slice a.ha 0 0).ownBlock ≠ some q
 bi : (Value.slice a.ba 0 0).ownBlock ≠ some q
theorem ownBlock_len (a : Option Addr) (n c n' c' : Nat) : (Value.slice a n c).ownBlock = (Value.slice a n' c').ownBlock := by cases a <;> rfl
theorem StOwn.off {w : World} {B q : Nat} {s : Sto} {a : StA} (h : StOwn w B s a) (hq : w.heap.size ≤ q) : StOff a q :=
 ⟨fun e => by have := (h.ti.lt q ((ownBlock_len _ _ _ 0 0).trans e)).2; omega, fun e => by have := (h.fi.lt q ((ownBlock_len _ _ _ 0 0).trans e)).2; omega, fun e => by have := (h.co.lt q ((ownBlock_len _ _ _ 0 0).trans e)).2; omega, fun e => by have := (h.he.lt q ((ownBlock_len _ _ _ 0 0).trans e)).2; omega, fun e => by have := (h.bi.lt q ((ownBlock_len _ _ _ 0 0).trans e)).2; omega⟩
theorem StOwn.offSet {w : World} {B q : Nat} {s : Sto} {a : StA} (h : StOwn w B s a) (o : StOff a q) (i : Nat) (u : Value) : StOwn (w.setCell ⟨q, i, none⟩ u) B s a :=
 ⟨h.ti.offSet ((ownBlock_len _ _ _ _ _).symm ▸ o.ti) i u, h.fi.offSet ((ownBlock_len _ _ _ _ _).symm ▸ o.fi) i u, h.co.offSet ((ownBlock_len _ _ _ _ _).symm ▸ o.co) i u, h.he.offSet ((ownBlock_len _ _ _ _ _).symm ▸ o.he) i u, h.bi.offSet ((ownBlock_len _ _ _ _ _).symm ▸ o.bi) i u⟩
theorem StOwn.offRow {w : World} {B q : Nat} {s : Sto} {a : StA} (h : StOwn w B s a) (o : StOff a q) (cs : Array Value) : StOwn (w.setRow q cs) B s a :=
 ⟨h.ti.offRow ((ownBlock_len _ _ _ _ _).symm ▸ o.ti) cs, h.fi.offRow ((ownBlock_len _ _ _ _ _).symm ▸ o.fi) cs, h.co.offRow ((ownBlock_len _ _ _ _ _).symm ▸ o.co) cs, h.he.offRow ((ownBlock_len _ _ _ _ _).symm ▸ o.he) cs, h.bi.offRow ((ownBlock_len _ _ _ _ _).symm ▸ o.bi) cs⟩
theorem StOwn.binPut {V x1 : World} {B : Nat} {s : Sto} {b : StA} (h : StOwn V B s b) {BB : List Gon} {ga : Option Addr} {gc : Nat} (ho : OwnV x1 B 112 2 (.slice ga BB.length gc) BB.length (St.eG.flat BB)) (hg : V.grownBy x1 (Value.slice b.ba s.bin.length b.bc).ownBlock) :
  StOwn x1 B { s with bin := BB } ⟨b.ta, b.tc, b.fa, b.fc, b.ca, b.cc, b.ha, b.hc, ga, gc⟩ :=
 ⟨h.ti.beside h.bi (by decide) hg, h.fi.beside h.bi (by decide) hg, h.co.beside h.bi (by decide) hg, h.he.beside h.bi (by decide) hg, ho⟩
theorem StOwn.heldPut {V x1 : World} {B : Nat} {s : Sto} {b : StA} (h : StOwn V B s b) {HH : List ByteArray} {ga : Option Addr} {gc : Nat} (ho : OwnV x1 B 9 1 (.slice ga HH.length gc) HH.length (St.eS.flat HH)) (hg : V.grownBy x1 (Value.slice b.ha s.held.length b.hc).ownBlock) :
  StOwn x1 B { s with held := HH } ⟨b.ta, b.tc, b.fa, b.fc, b.ca, b.cc, ga, gc, b.ba, b.bc⟩ :=
 ⟨h.ti.beside h.he (by decide) hg, h.fi.beside h.he (by decide) hg, h.co.beside h.he (by decide) hg, ho, h.bi.beside h.he (by decide) hg⟩
theorem agF_is (x : Gon) (d : ByteArray) (bd : Nat) (w : World) (hd : w.cell? ⟨bd, 0, none⟩ = some (.string d)) (hl : bd < w.heap.size) :
  Calls Tryz.prog 160 #[.agg #[.string x.dig, .int .i64 x.day], .pointer (some ⟨bd, 0, none⟩)] w fun e w' => e = .returned (.bool (St.eq x.dig d)) ∧ Below w.heap.size w w' := by
 have h0 : (x.dig.toList == d.toList) = St.eq x.dig d := rfl
 obtain ⟨W1, hW1, hX, hz1, hB1⟩ := box w #[.string x.dig, .int .i64 x.day] 112
 have HW1 := Lib.hid hW1; have HB1 := Lib.hid hB1
 have e1 : W1.cell? ⟨w.heap.size, 0, none⟩ = some (.string x.dig) := (hX.cell 0).trans rfl
 have s1 : W1.cell? ⟨bd, 0, none⟩ = some (.string d) := (hB1.cell (p := ⟨bd, 0, none⟩) hl).trans hd
 clear hW1 hX hz1 hB1 hd hl
 go_enter Tryz.func160, Tryz.ntmps160
 go_upto_region 1 with fail
 rw [HW1.out]
 go_wp2_with fail
 go_ret
 exact ⟨rfl, HB1.out⟩
theorem enters_again : ∀ args w, (callFunc 160 args).run Tryz.prog w = .ok (.enter 160 args) w := enters_of Tryz.func160 (by kernel_rfl) rfl
def AgainPost (w : World) (B : Nat) (t : Sto) (e : Ending) (w' : World) : Prop := ∃ a' : StA, e = .returned (.agg #[.int .i64 t.least, .int .i64 t.wait, .slice a'.ta t.tiers.length a'.tc, .slice a'.fa t.files.length a'.fc, .slice a'.ca t.copies.length a'.cc, .slice a'.ha t.held.length a'.hc, .slice a'.ba t.bin.length a'.bc]) ∧ StOwn w' B t a' ∧ Below B w w'
theorem heldAgainR_new (s : Sto) (a : StA) (d : ByteArray) (B : Nat) (w : World) (hO : StOwn w B s a) (hBw : B ≤ w.heap.size) (hbu : St.Up St.gdig s.bin) (y4 : s.held.length ≤ 500) (y5 : s.bin.length ≤ 500) (hbn : St.hasK id s.held d = false) : Calls Tryz.prog 84 #[.agg #[.int .i64 s.least, .int .i64 s.wait, .slice a.ta s.tiers.length a.tc, .slice a.fa s.files.length a.fc, .slice a.ca s.copies.length a.cc, .slice a.ha s.held.length a.hc, .slice a.ba s.bin.length a.bc], .string d] w (AgainPost w B (St.hold s d)) := by
 obtain ⟨W0, hW0, hP, hz0, hB0⟩ := box w #[.int .i64 s.least, .int .i64 s.wait, .slice a.ta s.tiers.length a.tc, .slice a.fa s.files.length a.fc, .slice a.ca s.copies.length a.cc, .slice a.ha s.held.length a.hc, .slice a.ba s.bin.length a.bc] 28
 obtain ⟨W1, hW1, hD, hz1, hB1⟩ := box W0 #[.string d] 9
 obtain ⟨W2, hW2, hQ, hz2, hB2⟩ := box W1 #[.int .i64 0, .int .i64 0, .slice none 0 0, .slice none 0 0, .slice none 0 0, .slice none 0 0, .slice none 0 0] 28
 rw [hz0] at hD hz1
 rw [hz1] at hQ hz2
 have hP := (hP.keep hB1).keep hB2
 have hD := hD.keep hB2
 have hBB := below_up hB0 (below_up hB1 hB2)
 have HW0 := Lib.hid hW0; have HW1 := Lib.hid hW1; have HW2 := Lib.hid hW2; have HP := Lib.hid hP; have HD := Lib.hid hD; have HQ := Lib.hid hQ; have HBB := Lib.hid hBB; have HZ2 : Hid (W2.heap.size = w.heap.size + 3) := Lib.hid (by omega)
 have HO2 := Lib.hid (hO.keep hBB)
 have HF0 := Lib.hid (hO.off (q := w.heap.size) (Nat.le_refl _)); have HF1 := Lib.hid (hO.off (q := w.heap.size + 1) (by omega)); have HF2 := Lib.hid (hO.off (q := w.heap.size + 2) (by omega))
 obtain ⟨q0, q1, q2, q3, q4, q5, q6⟩ := hP.seven
 have d0 := hD.one
 have HD1 : Hid (w.heap.size + 1 < W2.heap.size) := Lib.hid (by omega)
 have HBW := Lib.hid hBw
 clear hO hW0 hW1 hW2 hP hD hQ hz0 hz1 hz2 hB0 hB1 hB2 hBB hBw
 have HRE : Hid (St.hold s d = { s with held := St.wth id d s.held, bin := St.wo St.gdig d s.bin }) := Lib.hid rfl
 have HFL : Hid (s.bin.filter (fun y => !St.eq y.dig d) = St.wo St.gdig d s.bin) := Lib.hid (St.wo_filter (key := St.gdig) hbu d).symm
 have HNE : Hid (∀ x ∈ s.held, St.eq x d = false) := Lib.hid fun x hx => by
  have h := hbn
  unfold St.hasK at h
  have := List.any_eq_false.1 h x hx
  simpa using this
 have HWB : Hid (St.wth id d s.held = s.held.take (St.pos id d s.held) ++ d :: s.held.drop (St.pos id d s.held)) := Lib.hid (by
  unfold St.wth
  rw [if_neg (by rw [show id d = d from rfl, hbn]; decide)]
  rfl)
 have hpl := St.pos_le id d s.held
 have HPB := Lib.hid (fun i x (h : s.held[i]? = some x) (hi : i < St.pos id d s.held) => St.pos_before h hi)
 have HPA := Lib.hid (fun x (h : s.held[St.pos id d s.held]? = some x) => St.pos_at h)
 obtain ⟨p, hp⟩ : ∃ p, St.pos id d s.held = p := ⟨_, rfl⟩
 rw [hp] at HWB hpl HPB HPA
 generalize St.wo St.gdig d s.bin = BB at *
 generalize St.wth id d s.held = HH at *
 have hbl : HH.length = s.held.length + 1 := by rw [HWB.out, List.length_append, List.length_cons, List.length_take, List.length_drop]; omega
 have HBL := Lib.hid hbl
 have HDL := Lib.hid (gonF_delV 160 #[.pointer (some ⟨w.heap.size + 1, 0, none⟩)] enters_again (fun y => St.eq y.dig d) B s.bin.length a.bc a.ba s.bin W2 HO2.out.bi (by omega) rfl (fun g hg U x hx hgr => by
  have hDU : Blk U (w.heap.size + 1) #[.string d] 9 := HD.out.of_block (hgr.block _ HD1.out (by intro e; exact HF1.out.bi (by rw [hg]; first | exact e | exact e.symm | exact congrArg some e | exact congrArg some e.symm)))
  exact agF_is x d (w.heap.size + 1) U hDU.one (by have := hgr.size; have := HD1.out; omega)))
 rw [HFL.out] at HDL
 clear hbu hbn hp hbl
 go_enter Tryz.func84, Tryz.ntmps84
 go_upto_region 1 with fail
 rw [HW0.out, HW1.out, HW2.out]
 have qf := HP.out.free
 go_upto_region 2 with (go_at_call 68; (with_reducible refine HDL.out.mono ?_); rintro e x1 ⟨rfl, ho1, hg1⟩; have hP1 := HP.out.offV hg1 ((ownBlock_len _ _ _ _ _).symm ▸ HF0.out.bi); obtain ⟨q0, q1, q2, q3, q4, q5, q6⟩ := hP1.seven; have qf := hP1.free)
 have hPx : Blk (x1.setCell ⟨w.heap.size, 6, none⟩ (.slice a.ba BB.length a.bc)) w.heap.size #[.int .i64 s.least, .int .i64 s.wait, .slice a.ta s.tiers.length a.tc, .slice a.fa s.files.length a.fc, .slice a.ca s.copies.length a.cc, .slice a.ha s.held.length a.hc, .slice a.ba BB.length a.bc] 28 := hP1.set 6 (.slice a.ba BB.length a.bc)
 have hQx := (HQ.out.offV hg1 ((ownBlock_len _ _ _ _ _).symm ▸ HF2.out.bi)).setOther (a := ⟨w.heap.size, 6, none⟩) (by simp <;> omega) (.slice a.ba BB.length a.bc)
 have hDx := (HD.out.offV hg1 ((ownBlock_len _ _ _ _ _).symm ▸ HF1.out.bi)).setOther (a := ⟨w.heap.size, 6, none⟩) (by simp <;> omega) (.slice a.ba BB.length a.bc)
 have hOx := (HO2.out.binPut ho1 hg1).offSet (q := w.heap.size) ⟨HF0.out.ti, HF0.out.fi, HF0.out.co, HF0.out.he, HF0.out.bi⟩ 6 (.slice a.ba BB.length a.bc)
 have hBx := (below_ownE (HBB.out.mono HBW.out) HO2.out.bi hg1 (by have := HBW.out; have := HD1.out; omega)).setCell (p := ⟨w.heap.size, 6, none⟩) HBW.out (.slice a.ba BB.length a.bc)
 have hzx : w.heap.size + 3 ≤ (x1.setCell ⟨w.heap.size, 6, none⟩ (.slice a.ba BB.length a.bc)).heap.size := by have := hg1.size; have := HZ2.out; simp; omega
 obtain ⟨X, hX⟩ : ∃ X, x1.setCell ⟨w.heap.size, 6, none⟩ (.slice a.ba BB.length a.bc) = X := ⟨_, rfl⟩
 rw [hX] at hPx hQx hDx hOx hBx hzx ⊢
 clear hX q0 q1 q2 q3 q4 q5 q6 qf hP1 ho1 hg1
 have HPx := Lib.hid hPx; have HQx := Lib.hid hQx; have HDx := Lib.hid hDx; have HOx := Lib.hid hOx; have HBx := Lib.hid hBx; have HZW := Lib.hid hzx
 have HZB : Hid (B ≤ X.heap.size) := Lib.hid (by have := HBW.out; omega)
 have hhe : OwnV X B 9 1 (.slice a.ha s.held.length a.hc) s.held.length (St.eS.flat s.held) := hOx.he
 have HHE := Lib.hid hhe
 have HRB := Lib.hid (RowE.ofV (E := St.eS) (ca := a.hc) hhe)
 have HINS := Lib.hid (fun V (hb : Below X.heap.size X V) (bv : Nat) (hbv : V.heap[bv]? = some (.cells #[.string d] 9 (0, 0))) (hge : X.heap.size ≤ bv) => show Calls Tryz.prog 151 #[.slice a.ha s.held.length a.hc, .int .i64 p, .slice (some ⟨bv, 0, none⟩) 1 1] V (OwnPost V B 9 1 (.slice a.ha s.held.length a.hc) HH.length (St.eS.flat HH)) from by
  have h := sr_ins B s.held.length p (.slice a.ha s.held.length a.hc) (St.eS.flat s.held) [.string d] V (HHE.out.keep hb) (by have := HZB.out; have := hb.size; omega) hpl (by omega) (Enc.flat_one St.eS _) bv _ _ hbv (fun e => by have := (HHE.out.lt bv e).2; omega) rfl rfl (by simp [Value.oneCell'])
  rw [show (St.eS.flat s.held).take (p * 1) ++ [.string d] ++ (St.eS.flat s.held).drop (p * 1) = St.eS.flat HH from by rw [HWB.out]; exact flat_insS s.held d p, ← HBL.out] at h
  exact h)
 unfold OwnPost at HINS
 clear hPx hQx hDx hOx hBx hzx hhe
 go_upto_region 3 with fail
 go_loopg [5] p (fun gk i wr => ∃ j : Nat, j ≤ p ∧ gk = p - j ∧ i = .int .i64 j ∧ Below X.heap.size X wr)
 case atStart => exact ⟨0, by omega, rfl, rfl, Below.refl _ _⟩
 case round =>
  obtain ⟨j, hj, rfl, rfl, hB⟩ := hrel
  obtain ⟨q0, q1, q2, q3, q4, q5, q6⟩ := (HPx.out.keep hB).seven
  have d0 := (HDx.out.keep hB).one
  by_cases hjn : j < s.held.length
  ·obtain ⟨x, hx⟩ : ∃ x, s.held[j]? = some x := ⟨_, List.getElem?_eq_getElem hjn⟩
   obtain ⟨bb, off, ha, hb, hc⟩ := (HRB.out.keep hB) (by omega)
   have c0 : wr.cell? ⟨bb, off + j, none⟩ = some (.string x) := by have := hc j x hx 0 (.string x) rfl; rw [show off + j * St.eS.k + 0 = off + j by simp [St.eS]] at this; exact this
   have hj0 : (0 : Int) ≤ (j : Int) := by omega
   have hj1 : (j : Int) < (s.held.length : Int) := by omega
   have hd1 : decide ((j : Int) < (s.held.length : Int)) = true := decide_eq_true hj1
   have HXX := Lib.hid hx
   clear hc hx
   cases hl : St.lt x d with
   | true =>
     have hlt : Op.bytesLess x.toList d.toList = true := hl
     have hjp : j < p := by
      rcases Nat.lt_or_ge j p with h | h
      ·exact h
      ·have he : j = p := by omega
       have := HPA.out x (by rw [← he]; exact HXX.out)
       rw [show id x = x from rfl, hl] at this; cases this
     rw [ha] at q5
     go_wp2_with fail
     go_quiet (fail)
     go_wp2_with fail
     go_roundg (p - (j + 1))
     case rel => exact ⟨j + 1, by omega, rfl, by go_num, below_drewN hB _⟩
     case measure => omega
   | false =>
     have hlt : Op.bytesLess x.toList d.toList = false := hl
     obtain rfl : j = p := by
      rcases Nat.lt_or_ge j p with h | h
      ·have := HPB.out j x HXX.out h
       rw [show id x = x from rfl, hl] at this; cases this
      ·omega
     have hne : (x.toList == d.toList) = false := HNE.out x (List.mem_of_getElem? HXX.out)
     have hne2 : (x.toList != d.toList) = true := by rw [bne, hne]; rfl
     have hie : ((j : Int) == (s.held.length : Int)) = false := by rw [beq_eq_false_iff_ne]; omega
     have hie2 : ¬ ((j : Int) = (s.held.length : Int)) := by omega
     rw [ha] at q5
     go_wp2_with fail
     go_quiet (fail)
     have hB8 := below_drewN hB nq
     go_wp2_with fail
     go_quiet (fail)
     have hB9 := below_drewN hB8 nq
     generalize World.drewN (World.drewN wr _) nq = U at *
     clear hB8 q0 q1 q2 q3 q4 q5 q6 d0 hB c0 ha hb
     have HB9 := Lib.hid hB9
     have hal : Below U.heap.size U (U.alloc (.cells #[.string d] 9)) := (Below.refl _ _).alloc (Nat.le_refl _) _
     have hPA := (HPx.out.keep hB9).keep hal
     have hQA := (HQx.out.keep hB9).keep hal
     have hOA := (HOx.out.keep hB9).keep hal
     have HBA := Lib.hid (HBx.out.trans ((below_up hB9 hal).mono HZB.out))
     have HZA : Hid (B ≤ (U.alloc (.cells #[.string d] 9)).heap.size) := Lib.hid (by have := HZB.out; have := hB9.size; have := hal.size; omega)
     have HPA2 := Lib.hid hPA; have HQA := Lib.hid hQA; have HOA := Lib.hid hOA
     have HNV : Hid (∀ o, ((U).alloc o).heap[(U).heap.size]? = some o) := Lib.hid (fun o => heap_alloc_new U o)
     have HGE : Hid (X.heap.size ≤ U.heap.size) := Lib.hid hB9.size
     obtain ⟨q0, q1, q2, q3, q4, q5, q6⟩ := (HPx.out.keep hB9).seven
     have d0 := (HDx.out.keep hB9).one
     clear hPA hQA hOA hal hB9
     go_upto_region 7 with (go_at_call 151; (with_reducible refine (HINS.out _ (below_allocs HB9.out _) U.heap.size (HNV.out _) HGE.out).mono ?_); rintro e w8 ⟨g8, c8, rfl, hc8, hg8, hn8⟩; have HC8 := Lib.hid hc8; have HG8 := Lib.hid hg8; have HN8 := Lib.hid hn8; have hP8 := HPA2.out.offV hg8 ((ownBlock_len _ _ _ _ _).symm ▸ HF0.out.he); obtain ⟨q0, q1, q2, q3, q4, q5, q6⟩ := hP8.seven; have qf := hP8.free; clear hc8 hg8 hn8)
     have hPy : Blk (w8.setCell ⟨w.heap.size, 5, none⟩ (.slice (some ⟨g8, 0, none⟩) HH.length c8)) w.heap.size #[.int .i64 s.least, .int .i64 s.wait, .slice a.ta s.tiers.length a.tc, .slice a.fa s.files.length a.fc, .slice a.ca s.copies.length a.cc, .slice (some ⟨g8, 0, none⟩) HH.length c8, .slice a.ba BB.length a.bc] 28 := hP8.set 5 (.slice (some ⟨g8, 0, none⟩) HH.length c8)
     have hQy := (HQA.out.offV HG8.out ((ownBlock_len _ _ _ _ _).symm ▸ HF2.out.he)).setOther (a := ⟨w.heap.size, 5, none⟩) (by simp <;> omega) (.slice (some ⟨g8, 0, none⟩) HH.length c8)
     have hOy := HOA.out.heldPut (HH := HH) (.inr ⟨g8, c8, rfl, HC8.out⟩) HG8.out
     have hoff : ∀ q, StOff a q → q < U.heap.size → StOff ⟨a.ta, a.tc, a.fa, a.fc, a.ca, a.cc, some ⟨g8, 0, none⟩, c8, a.ba, a.bc⟩ q := fun q o hq => ⟨o.ti, o.fi, o.co, fun e => by
      have e2 : g8 = q := Option.some.inj e
      rcases HN8.out with h | h
      ·exact o.he (by rw [ownBlock_len _ _ _ s.held.length a.hc, h, e2])
      ·simp at h; omega, o.bi⟩
     have hU3 : w.heap.size + 2 < U.heap.size := by have := HZW.out; have := HGE.out; omega
     have hOy := hOy.offSet (hoff _ HF0.out (by omega)) 5 (.slice (some ⟨g8, 0, none⟩) HH.length c8)
     have hBy := (below_ownE HBA.out HOA.out.he HG8.out HZA.out).setCell (p := ⟨w.heap.size, 5, none⟩) HBW.out (.slice (some ⟨g8, 0, none⟩) HH.length c8)
     generalize w8.setCell ⟨w.heap.size, 5, none⟩ (.slice (some ⟨g8, 0, none⟩) HH.length c8) = Y at *
     clear q0 q1 q2 q3 q4 q5 q6 qf hP8
     have HOZ := Lib.hid (hOy.offRow (hoff _ HF2.out hU3) #[.int .i64 s.least, .int .i64 s.wait, .slice a.ta s.tiers.length a.tc, .slice a.fa s.files.length a.fc, .slice a.ca s.copies.length a.cc, .slice (some ⟨g8, 0, none⟩) HH.length c8, .slice a.ba BB.length a.bc])
     have HBY := Lib.hid (below_setRow hBy (show B ≤ w.heap.size + 2 by have := HBW.out; omega) #[.int .i64 s.least, .int .i64 s.wait, .slice a.ta s.tiers.length a.tc, .slice a.fa s.files.length a.fc, .slice a.ca s.copies.length a.cc, .slice (some ⟨g8, 0, none⟩) HH.length c8, .slice a.ba BB.length a.bc])
     obtain ⟨y0, y1, y2, y3, y4, y5', y6⟩ := hPy.seven
     clear hOy hBy hPy hoff
     go_wp2_with (refine wpList_store_row rfl 28 _ _ rfl (w.heap.size + 2) #[.int .i64 s.least, .int .i64 s.wait, .slice a.ta s.tiers.length a.tc, .slice a.fa s.files.length a.fc, .slice a.ca s.copies.length a.cc, .slice (some ⟨g8, 0, none⟩) HH.length c8, .slice a.ba BB.length a.bc] rfl rfl 28 _ hQy infoSto rfl (by simp [Value.oneCell']) ?_)
     obtain ⟨g0, g1, g2', g3, g4', g5, g6⟩ := (Blk.setRowAt hQy #[.int .i64 s.least, .int .i64 s.wait, .slice a.ta s.tiers.length a.tc, .slice a.fa s.files.length a.fc, .slice a.ca s.copies.length a.cc, .slice (some ⟨g8, 0, none⟩) HH.length c8, .slice a.ba BB.length a.bc]).seven
     refine bodyPost_ret (v := .agg #[.int .i64 s.least, .int .i64 s.wait, .slice a.ta s.tiers.length a.tc, .slice a.fa s.files.length a.fc, .slice a.ca s.copies.length a.cc, .slice (some ⟨g8, 0, none⟩) HH.length c8, .slice a.ba BB.length a.bc]) (by simp [results, Tryz.results84, go_sem, g0, g1, g2', g3, g4', g5, g6]) rfl ?_
     rw [HRE.out]
     exact ⟨_, rfl, HOZ.out, HBY.out⟩
  ·obtain rfl : j = p := by omega
   have hd1 : decide ((j : Int) < (s.held.length : Int)) = false := decide_eq_false (by omega)
   have hd2 : ((j : Int) < (s.held.length : Int)) = False := eq_false (by omega)
   have hie : ((j : Int) == (s.held.length : Int)) = true := by rw [beq_iff_eq]; omega
   go_wp2_with fail
   go_quiet (fail)
   have hB8 := below_drewN hB nq
   go_wp2_with fail
   go_quiet (fail)
   have hB9 := below_drewN hB8 nq
   generalize World.drewN (World.drewN wr _) nq = U at *
   clear hB8 q0 q1 q2 q3 q4 q5 q6 d0 hB
   have HB9 := Lib.hid hB9
   have hal : Below U.heap.size U (U.alloc (.cells #[.string d] 9)) := (Below.refl _ _).alloc (Nat.le_refl _) _
   have hPA := (HPx.out.keep hB9).keep hal
   have hQA := (HQx.out.keep hB9).keep hal
   have hOA := (HOx.out.keep hB9).keep hal
   have HBA := Lib.hid (HBx.out.trans ((below_up hB9 hal).mono HZB.out))
   have HZA : Hid (B ≤ (U.alloc (.cells #[.string d] 9)).heap.size) := Lib.hid (by have := HZB.out; have := hB9.size; have := hal.size; omega)
   have HPA2 := Lib.hid hPA; have HQA := Lib.hid hQA; have HOA := Lib.hid hOA
   have HNV : Hid (∀ o, ((U).alloc o).heap[(U).heap.size]? = some o) := Lib.hid (fun o => heap_alloc_new U o)
   have HGE : Hid (X.heap.size ≤ U.heap.size) := Lib.hid hB9.size
   obtain ⟨q0, q1, q2, q3, q4, q5, q6⟩ := (HPx.out.keep hB9).seven
   have d0 := (HDx.out.keep hB9).one
   clear hPA hQA hOA hal hB9
   go_upto_region 7 with (go_at_call 151; (with_reducible refine (HINS.out _ (below_allocs HB9.out _) U.heap.size (HNV.out _) HGE.out).mono ?_); rintro e w8 ⟨g8, c8, rfl, hc8, hg8, hn8⟩; have HC8 := Lib.hid hc8; have HG8 := Lib.hid hg8; have HN8 := Lib.hid hn8; have hP8 := HPA2.out.offV hg8 ((ownBlock_len _ _ _ _ _).symm ▸ HF0.out.he); obtain ⟨q0, q1, q2, q3, q4, q5, q6⟩ := hP8.seven; have qf := hP8.free; clear hc8 hg8 hn8)
   have hPy : Blk (w8.setCell ⟨w.heap.size, 5, none⟩ (.slice (some ⟨g8, 0, none⟩) HH.length c8)) w.heap.size #[.int .i64 s.least, .int .i64 s.wait, .slice a.ta s.tiers.length a.tc, .slice a.fa s.files.length a.fc, .slice a.ca s.copies.length a.cc, .slice (some ⟨g8, 0, none⟩) HH.length c8, .slice a.ba BB.length a.bc] 28 := hP8.set 5 (.slice (some ⟨g8, 0, none⟩) HH.length c8)
   have hQy := (HQA.out.offV HG8.out ((ownBlock_len _ _ _ _ _).symm ▸ HF2.out.he)).setOther (a := ⟨w.heap.size, 5, none⟩) (by simp <;> omega) (.slice (some ⟨g8, 0, none⟩) HH.length c8)
   have hOy := HOA.out.heldPut (HH := HH) (.inr ⟨g8, c8, rfl, HC8.out⟩) HG8.out
   have hoff : ∀ q, StOff a q → q < U.heap.size → StOff ⟨a.ta, a.tc, a.fa, a.fc, a.ca, a.cc, some ⟨g8, 0, none⟩, c8, a.ba, a.bc⟩ q := fun q o hq => ⟨o.ti, o.fi, o.co, fun e => by
    have e2 : g8 = q := Option.some.inj e
    rcases HN8.out with h | h
    ·exact o.he (by rw [ownBlock_len _ _ _ s.held.length a.hc, h, e2])
    ·simp at h; omega, o.bi⟩
   have hU3 : w.heap.size + 2 < U.heap.size := by have := HZW.out; have := HGE.out; omega
   have hOy := hOy.offSet (hoff _ HF0.out (by omega)) 5 (.slice (some ⟨g8, 0, none⟩) HH.length c8)
   have hBy := (below_ownE HBA.out HOA.out.he HG8.out HZA.out).setCell (p := ⟨w.heap.size, 5, none⟩) HBW.out (.slice (some ⟨g8, 0, none⟩) HH.length c8)
   generalize w8.setCell ⟨w.heap.size, 5, none⟩ (.slice (some ⟨g8, 0, none⟩) HH.length c8) = Y at *
   clear q0 q1 q2 q3 q4 q5 q6 qf hP8
   have HOZ := Lib.hid (hOy.offRow (hoff _ HF2.out hU3) #[.int .i64 s.least, .int .i64 s.wait, .slice a.ta s.tiers.length a.tc, .slice a.fa s.files.length a.fc, .slice a.ca s.copies.length a.cc, .slice (some ⟨g8, 0, none⟩) HH.length c8, .slice a.ba BB.length a.bc])
   have HBY := Lib.hid (below_setRow hBy (show B ≤ w.heap.size + 2 by have := HBW.out; omega) #[.int .i64 s.least, .int .i64 s.wait, .slice a.ta s.tiers.length a.tc, .slice a.fa s.files.length a.fc, .slice a.ca s.copies.length a.cc, .slice (some ⟨g8, 0, none⟩) HH.length c8, .slice a.ba BB.length a.bc])
   obtain ⟨y0, y1, y2, y3, y4, y5', y6⟩ := hPy.seven
   clear hOy hBy hPy hoff
   go_wp2_with (refine wpList_store_row rfl 28 _ _ rfl (w.heap.size + 2) #[.int .i64 s.least, .int .i64 s.wait, .slice a.ta s.tiers.length a.tc, .slice a.fa s.files.length a.fc, .slice a.ca s.copies.length a.cc, .slice (some ⟨g8, 0, none⟩) HH.length c8, .slice a.ba BB.length a.bc] rfl rfl 28 _ hQy infoSto rfl (by simp [Value.oneCell']) ?_)
   obtain ⟨g0, g1, g2', g3, g4', g5, g6⟩ := (Blk.setRowAt hQy #[.int .i64 s.least, .int .i64 s.wait, .slice a.ta s.tiers.length a.tc, .slice a.fa s.files.length a.fc, .slice a.ca s.copies.length a.cc, .slice (some ⟨g8, 0, none⟩) HH.length c8, .slice a.ba BB.length a.bc]).seven
   refine bodyPost_ret (v := .agg #[.int .i64 s.least, .int .i64 s.wait, .slice a.ta s.tiers.length a.tc, .slice a.fa s.files.length a.fc, .slice a.ca s.copies.length a.cc, .slice (some ⟨g8, 0, none⟩) HH.length c8, .slice a.ba BB.length a.bc]) (by simp [results, Tryz.results84, go_sem, g0, g1, g2', g3, g4', g5, g6]) rfl ?_
   rw [HRE.out]
   exact ⟨_, rfl, HOZ.out, HBY.out⟩
theorem heldAgainR_has (s : Sto) (a : StA) (d : ByteArray) (B : Nat) (w : World) (hO : StOwn w B s a) (hBw : B ≤ w.heap.size) (hbu : St.Up St.gdig s.bin) (y4 : s.held.length ≤ 500) (y5 : s.bin.length ≤ 500) (hhu : St.Up id s.held) (hbn : St.hasK id s.held d = true) : Calls Tryz.prog 84 #[.agg #[.int .i64 s.least, .int .i64 s.wait, .slice a.ta s.tiers.length a.tc, .slice a.fa s.files.length a.fc, .slice a.ca s.copies.length a.cc, .slice a.ha s.held.length a.hc, .slice a.ba s.bin.length a.bc], .string d] w (AgainPost w B (St.hold s d)) := by
 obtain ⟨W0, hW0, hP, hz0, hB0⟩ := box w #[.int .i64 s.least, .int .i64 s.wait, .slice a.ta s.tiers.length a.tc, .slice a.fa s.files.length a.fc, .slice a.ca s.copies.length a.cc, .slice a.ha s.held.length a.hc, .slice a.ba s.bin.length a.bc] 28
 obtain ⟨W1, hW1, hD, hz1, hB1⟩ := box W0 #[.string d] 9
 obtain ⟨W2, hW2, hQ, hz2, hB2⟩ := box W1 #[.int .i64 0, .int .i64 0, .slice none 0 0, .slice none 0 0, .slice none 0 0, .slice none 0 0, .slice none 0 0] 28
 rw [hz0] at hD hz1
 rw [hz1] at hQ hz2
 have hP := (hP.keep hB1).keep hB2
 have hD := hD.keep hB2
 have hBB := below_up hB0 (below_up hB1 hB2)
 have HW0 := Lib.hid hW0; have HW1 := Lib.hid hW1; have HW2 := Lib.hid hW2; have HP := Lib.hid hP; have HD := Lib.hid hD; have HQ := Lib.hid hQ; have HBB := Lib.hid hBB; have HZ2 : Hid (W2.heap.size = w.heap.size + 3) := Lib.hid (by omega)
 have HO2 := Lib.hid (hO.keep hBB)
 have HF0 := Lib.hid (hO.off (q := w.heap.size) (Nat.le_refl _)); have HF1 := Lib.hid (hO.off (q := w.heap.size + 1) (by omega)); have HF2 := Lib.hid (hO.off (q := w.heap.size + 2) (by omega))
 obtain ⟨q0, q1, q2, q3, q4, q5, q6⟩ := hP.seven
 have d0 := hD.one
 have HD1 : Hid (w.heap.size + 1 < W2.heap.size) := Lib.hid (by omega)
 have HBW := Lib.hid hBw
 clear hO hW0 hW1 hW2 hP hD hQ hz0 hz1 hz2 hB0 hB1 hB2 hBB hBw
 have HRE : Hid (St.hold s d = { s with held := St.wth id d s.held, bin := St.wo St.gdig d s.bin }) := Lib.hid rfl
 have HFL : Hid (s.bin.filter (fun y => !St.eq y.dig d) = St.wo St.gdig d s.bin) := Lib.hid (St.wo_filter (key := St.gdig) hbu d).symm
 have HWB : Hid (St.wth id d s.held = s.held) := Lib.hid (by
  obtain ⟨x, hx, hxd⟩ := St.hasK_iff.1 hbn
  have hxd2 : x = d := hxd
  exact St.wth_same hhu (by rw [← hxd2]; exact hx))
 obtain ⟨xd, hxp, hxk⟩ := St.hasK_at hhu hbn
 have hxk2 : xd = d := hxk
 have hpl := St.pos_le id d s.held
 have HPB := Lib.hid (fun i x (h : s.held[i]? = some x) (hi : i < St.pos id d s.held) => St.pos_before h hi)
 have HPA := Lib.hid (fun x (h : s.held[St.pos id d s.held]? = some x) => St.pos_at h)
 obtain ⟨p, hp⟩ : ∃ p, St.pos id d s.held = p := ⟨_, rfl⟩
 rw [hp] at hpl HPB HPA hxp
 have hpn : p < s.held.length := (List.getElem?_eq_some_iff.1 hxp).1
 have HXP := Lib.hid hxp; have HXK := Lib.hid hxk2
 generalize St.wo St.gdig d s.bin = BB at *
 generalize St.wth id d s.held = HH at *
 have HBL : Hid (HH.length = s.held.length) := Lib.hid (by rw [HWB.out])
 have HDL := Lib.hid (gonF_delV 160 #[.pointer (some ⟨w.heap.size + 1, 0, none⟩)] enters_again (fun y => St.eq y.dig d) B s.bin.length a.bc a.ba s.bin W2 HO2.out.bi (by omega) rfl (fun g hg U x hx hgr => by
  have hDU : Blk U (w.heap.size + 1) #[.string d] 9 := HD.out.of_block (hgr.block _ HD1.out (by intro e; exact HF1.out.bi (by rw [hg]; first | exact e | exact e.symm | exact congrArg some e | exact congrArg some e.symm)))
  exact agF_is x d (w.heap.size + 1) U hDU.one (by have := hgr.size; have := HD1.out; omega)))
 rw [HFL.out] at HDL
 clear hbu hbn hp hxp hxk hxk2 hhu
 go_enter Tryz.func84, Tryz.ntmps84
 go_upto_region 1 with fail
 rw [HW0.out, HW1.out, HW2.out]
 have qf := HP.out.free
 go_upto_region 2 with (go_at_call 68; (with_reducible refine HDL.out.mono ?_); rintro e x1 ⟨rfl, ho1, hg1⟩; have hP1 := HP.out.offV hg1 ((ownBlock_len _ _ _ _ _).symm ▸ HF0.out.bi); obtain ⟨q0, q1, q2, q3, q4, q5, q6⟩ := hP1.seven; have qf := hP1.free)
 have hPx : Blk (x1.setCell ⟨w.heap.size, 6, none⟩ (.slice a.ba BB.length a.bc)) w.heap.size #[.int .i64 s.least, .int .i64 s.wait, .slice a.ta s.tiers.length a.tc, .slice a.fa s.files.length a.fc, .slice a.ca s.copies.length a.cc, .slice a.ha s.held.length a.hc, .slice a.ba BB.length a.bc] 28 := hP1.set 6 (.slice a.ba BB.length a.bc)
 have hQx := (HQ.out.offV hg1 ((ownBlock_len _ _ _ _ _).symm ▸ HF2.out.bi)).setOther (a := ⟨w.heap.size, 6, none⟩) (by simp <;> omega) (.slice a.ba BB.length a.bc)
 have hDx := (HD.out.offV hg1 ((ownBlock_len _ _ _ _ _).symm ▸ HF1.out.bi)).setOther (a := ⟨w.heap.size, 6, none⟩) (by simp <;> omega) (.slice a.ba BB.length a.bc)
 have hOx := (HO2.out.binPut ho1 hg1).offSet (q := w.heap.size) ⟨HF0.out.ti, HF0.out.fi, HF0.out.co, HF0.out.he, HF0.out.bi⟩ 6 (.slice a.ba BB.length a.bc)
 have hBx := (below_ownE (HBB.out.mono HBW.out) HO2.out.bi hg1 (by have := HBW.out; have := HD1.out; omega)).setCell (p := ⟨w.heap.size, 6, none⟩) HBW.out (.slice a.ba BB.length a.bc)
 have hzx : w.heap.size + 3 ≤ (x1.setCell ⟨w.heap.size, 6, none⟩ (.slice a.ba BB.length a.bc)).heap.size := by have := hg1.size; have := HZ2.out; simp; omega
 obtain ⟨X, hX⟩ : ∃ X, x1.setCell ⟨w.heap.size, 6, none⟩ (.slice a.ba BB.length a.bc) = X := ⟨_, rfl⟩
 rw [hX] at hPx hQx hDx hOx hBx hzx ⊢
 clear hX q0 q1 q2 q3 q4 q5 q6 qf hP1 ho1 hg1
 have HPx := Lib.hid hPx; have HQx := Lib.hid hQx; have HDx := Lib.hid hDx; have HOx := Lib.hid hOx; have HBx := Lib.hid hBx; have HZW := Lib.hid hzx
 have HZB : Hid (B ≤ X.heap.size) := Lib.hid (by have := HBW.out; omega)
 have hhe : OwnV X B 9 1 (.slice a.ha s.held.length a.hc) s.held.length (St.eS.flat s.held) := hOx.he
 have HHE := Lib.hid hhe
 have HRB := Lib.hid (RowE.ofV (E := St.eS) (ca := a.hc) hhe)
 clear hPx hQx hDx hOx hBx hzx hhe
 go_upto_region 3 with fail
 go_loopg [5] p (fun gk i wr => ∃ j : Nat, j ≤ p ∧ gk = p - j ∧ i = .int .i64 j ∧ Below X.heap.size X wr)
 case atStart => exact ⟨0, by omega, rfl, rfl, Below.refl _ _⟩
 case round =>
  obtain ⟨j, hj, rfl, rfl, hB⟩ := hrel
  obtain ⟨q0, q1, q2, q3, q4, q5, q6⟩ := (HPx.out.keep hB).seven
  have d0 := (HDx.out.keep hB).one
  by_cases hjn : j < s.held.length
  ·obtain ⟨x, hx⟩ : ∃ x, s.held[j]? = some x := ⟨_, List.getElem?_eq_getElem hjn⟩
   obtain ⟨bb, off, ha, hb, hc⟩ := (HRB.out.keep hB) (by omega)
   have c0 : wr.cell? ⟨bb, off + j, none⟩ = some (.string x) := by have := hc j x hx 0 (.string x) rfl; rw [show off + j * St.eS.k + 0 = off + j by simp [St.eS]] at this; exact this
   have hj0 : (0 : Int) ≤ (j : Int) := by omega
   have hj1 : (j : Int) < (s.held.length : Int) := by omega
   have hd1 : decide ((j : Int) < (s.held.length : Int)) = true := decide_eq_true hj1
   have HXX := Lib.hid hx
   clear hc hx
   cases hl : St.lt x d with
   | true =>
     have hlt : Op.bytesLess x.toList d.toList = true := hl
     have hjp : j < p := by
      rcases Nat.lt_or_ge j p with h | h
      ·exact h
      ·have he : j = p := by omega
       have := HPA.out x (by rw [← he]; exact HXX.out)
       rw [show id x = x from rfl, hl] at this; cases this
     rw [ha] at q5
     go_wp2_with fail
     go_quiet (fail)
     go_wp2_with fail
     go_roundg (p - (j + 1))
     case rel => exact ⟨j + 1, by omega, rfl, by go_num, below_drewN hB _⟩
     case measure => omega
   | false =>
     have hlt : Op.bytesLess x.toList d.toList = false := hl
     obtain rfl : j = p := by
      rcases Nat.lt_or_ge j p with h | h
      ·have := HPB.out j x HXX.out h
       rw [show id x = x from rfl, hl] at this; cases this
      ·omega
     have hxd : x = d := by rw [← HXK.out]; have h := HXX.out; rw [HXP.out] at h; exact (Option.some.inj h).symm
     have hne : (d.toList == d.toList) = true := by simp
     have hne2 : (d.toList != d.toList) = false := by simp
     have hie : ((j : Int) == (s.held.length : Int)) = false := by rw [beq_eq_false_iff_ne]; omega
     have hie2 : ¬ ((j : Int) = (s.held.length : Int)) := by omega
     rw [hxd] at c0
     rw [hxd] at hlt
     rw [ha] at q5
     go_wp2_with fail
     go_quiet (fail)
     have hB8 := below_drewN hB nq
     go_wp2_with fail
     go_quiet (fail)
     have hB9 := below_drewN hB8 nq
     generalize World.drewN (World.drewN wr _) nq = U at *
     clear hB8 q0 q1 q2 q3 q4 q5 q6 d0 hB c0 ha hb
     obtain ⟨y0, y1, y2, y3, y4', y5', y6⟩ := (HPx.out.keep hB9).seven
     have hQy := HQx.out.keep hB9
     have hOy := HOx.out.keep hB9
     have hOy2 := hOy.offRow (q := w.heap.size + 2) ⟨HF2.out.ti, HF2.out.fi, HF2.out.co, HF2.out.he, HF2.out.bi⟩ #[.int .i64 s.least, .int .i64 s.wait, .slice a.ta s.tiers.length a.tc, .slice a.fa s.files.length a.fc, .slice a.ca s.copies.length a.cc, .slice a.ha s.held.length a.hc, .slice a.ba BB.length a.bc]
     have HOZ := Lib.hid hOy2
     have HBY := Lib.hid (below_setRow (HBx.out.trans (hB9.mono HZB.out)) (show B ≤ w.heap.size + 2 by have := HBW.out; omega) #[.int .i64 s.least, .int .i64 s.wait, .slice a.ta s.tiers.length a.tc, .slice a.fa s.files.length a.fc, .slice a.ca s.copies.length a.cc, .slice a.ha s.held.length a.hc, .slice a.ba BB.length a.bc])
     clear hOy hOy2 hB9
     go_wp2_with (refine wpList_store_row rfl 28 _ _ rfl (w.heap.size + 2) #[.int .i64 s.least, .int .i64 s.wait, .slice a.ta s.tiers.length a.tc, .slice a.fa s.files.length a.fc, .slice a.ca s.copies.length a.cc, .slice a.ha s.held.length a.hc, .slice a.ba BB.length a.bc] rfl rfl 28 _ hQy infoSto rfl (by simp [Value.oneCell']) ?_)
     obtain ⟨g0, g1, g2', g3, g4', g5, g6⟩ := (Blk.setRowAt hQy #[.int .i64 s.least, .int .i64 s.wait, .slice a.ta s.tiers.length a.tc, .slice a.fa s.files.length a.fc, .slice a.ca s.copies.length a.cc, .slice a.ha s.held.length a.hc, .slice a.ba BB.length a.bc]).seven
     refine bodyPost_ret (v := .agg #[.int .i64 s.least, .int .i64 s.wait, .slice a.ta s.tiers.length a.tc, .slice a.fa s.files.length a.fc, .slice a.ca s.copies.length a.cc, .slice a.ha s.held.length a.hc, .slice a.ba BB.length a.bc]) (by simp [results, Tryz.results84, go_sem, g0, g1, g2', g3, g4', g5, g6]) rfl ?_
     rw [HRE.out, HWB.out]
     exact ⟨_, rfl, HOZ.out, HBY.out⟩
  ·omega
theorem heldAgainR_is (s : Sto) (a : StA) (d : ByteArray) (B : Nat) (w : World) (hO : StOwn w B s a) (hBw : B ≤ w.heap.size) (r : St.Right s) (hd : St.hasK St.gdig s.bin d = true) : Calls Tryz.prog 84 #[.agg #[.int .i64 s.least, .int .i64 s.wait, .slice a.ta s.tiers.length a.tc, .slice a.fa s.files.length a.fc, .slice a.ca s.copies.length a.cc, .slice a.ha s.held.length a.hc, .slice a.ba s.bin.length a.bc], .string d] w (AgainPost w B (St.hold s d)) := by
 obtain ⟨_, y1, y2, y3, y4, y5⟩ := St.sizes_iff.1 r.sizes
 exact heldAgainR_new s a d B w hO hBw r.bup y4 y5 (St.held_none r hd)
end Go.Proofs.YthdiccdnggloiaaGreatDoor
