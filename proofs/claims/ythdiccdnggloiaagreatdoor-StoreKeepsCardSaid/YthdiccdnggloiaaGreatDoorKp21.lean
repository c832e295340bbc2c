/- Parts of the proof, no condition: StWim. -/
import Derived.Test.YthdiccdnggloiaaGreatDoorKp18
import Derived.Test.YthdiccdnggloiaaGreatDoorKp19
import Derived.Test.YthdiccdnggloiaaGreatDoorKp13
import Derived.Test.YthdiccdnggloiaaGreatDoorKp6
import Derived.Test.YthdiccdnggloiaaGreatDoorKp7
import Derived.Test.YthdiccdnggloiaaGreatDoorKp20
import Derived.Maps.RangeWalk
set_option maxRecDepth 100000
set_option maxHeartbeats 16000000
set_option linter.unusedSimpArgs false
set_option linter.unusedVariables false
namespace Go.Proofs.YthdiccdnggloiaaGreatDoor
open Go.RowKit Go.Sort Go.Shelf Go.Maps
namespace St
theorem asked_new {s : Sto} {d t : ByteArray} {now : Int} (hk : copyAt s d t < 0) : askedOf s d t now = now := by
 unfold askedOf
 have hfi := find_idx (p := isCop d t) (L := s.copies) (i := 0)
 have hq0 : s.copies.find? (fun c => eq c.dig d && eq c.tier t) = s.copies.find? (isCop d t) := rfl
 rw [hq0]
 cases hq : s.copies.find? (isCop d t) with
 | none => rfl
 | some c =>
   obtain ⟨j, h1, _⟩ := hfi.1 c hq
   have h3 : copyAt s d t = ((0 + j : Nat) : Int) := h1
   omega
theorem asked_old {s : Sto} {d t : ByteArray} {now : Int} {k : Nat} (hk : copyAt s d t = (k : Int)) : ∃ c, s.copies[k]? = some c ∧ askedOf s d t now = c.asked := by
 unfold askedOf
 have hfi := find_idx (p := isCop d t) (L := s.copies) (i := 0)
 have hq0 : s.copies.find? (fun c => eq c.dig d && eq c.tier t) = s.copies.find? (isCop d t) := rfl
 rw [hq0]
 cases hq : s.copies.find? (isCop d t) with
 | none =>
   have h3 : copyAt s d t = -1 := hfi.2 hq
   omega
 | some c =>
   obtain ⟨j, h1, h2⟩ := hfi.1 c hq
   have h3 : copyAt s d t = ((0 + j : Nat) : Int) := h1
   have h4 : j = k := by omega
   exact ⟨c, by rw [← h4]; exact h2, rfl⟩
end St
theorem StOwn.filNew {V : World} {B : Nat} {s : Sto} {b : StA} (h : StOwn V B s b) {FS : List Fil} {ga : Option Addr} {gc : Nat} (o : OwnV V B 30 4 (.slice ga FS.length gc) FS.length (St.eF.flat FS)) : StOwn V B { s with files := FS } ⟨b.ta, b.tc, ga, gc, b.ca, b.cc, b.ha, b.hc, b.ba, b.bc⟩ := ⟨h.ti, o, h.co, h.he, h.bi⟩
theorem StOwn.copNew {V : World} {B : Nat} {s : Sto} {b : StA} (h : StOwn V B s b) {CS : List Cop} {ga : Option Addr} {gc : Nat} (o : OwnV V B 74 4 (.slice ga CS.length gc) CS.length (St.eC.flat CS)) : StOwn V B { s with copies := CS } ⟨b.ta, b.tc, b.fa, b.fc, ga, gc, b.ha, b.hc, b.ba, b.bc⟩ := ⟨h.ti, h.fi, o, h.he, h.bi⟩
theorem StOwn.bothNew {V : World} {B : Nat} {s : Sto} {b : StA} (h : StOwn V B s b) {HH : List ByteArray} {BB : List Gon} {ga gb : Option Addr} {gc gd : Nat} (o : OwnV V B 9 1 (.slice ga HH.length gc) HH.length (St.eS.flat HH)) (o2 : OwnV V B 112 2 (.slice gb BB.length gd) BB.length (St.eG.flat BB)) : StOwn V B { s with held := HH, bin := BB } ⟨b.ta, b.tc, b.fa, b.fc, b.ca, b.cc, ga, gc, gb, gd⟩ := ⟨h.ti, h.fi, h.co, o, o2⟩
theorem importS_orig (s : Sto) (a : StA) (f : Fil) (hfz : f.dig.size ≤ 9223372036854775807) (hf100 : f.frm.size ≤ 9223372036854775807) (tier : ByteArray) (now : Int) (w : World) (hI : StIn w s a) (r : St.Right s) (hq : St.impE s f tier now = 0) (hk1 : f.kind = 1) : Calls Tryz.prog 10 #[.agg #[.int .i64 s.least, .int .i64 s.wait, .slice a.ta s.tiers.length a.tc, .slice a.fa s.files.length a.fc, .slice a.ca s.copies.length a.cc, .slice a.ha s.held.length a.hc, .slice a.ba s.bin.length a.bc], .agg #[.string f.dig, .int .i64 f.size, .int .i64 f.kind, .string f.frm], .string tier, .int .i64 now] w (StoOk w (St.imp s f tier now)) := by
 have HSZ0 := Lib.hid hI.sz
 have hw := St.imp_way r hq
 obtain ⟨h0, hko, hm, hway⟩ := hw
 have h16 := St.fault16 h0
 have htz : tier.size ≤ 100 := by
  cases hway with
  | new h hk x hx kk hkk hka hfr hnl => have := St.nm40 (St.tier_good r (List.mem_of_getElem? hkk)).1; rw [hx] at this; omega
  | there h hk x hx kk hkk hka hfr => have := St.nm40 (St.tier_good r (List.mem_of_getElem? hkk)).1; rw [hx] at this; omega
  | kept h kc hk x hx kk hkk hka => have := St.nm40 (St.tier_good r (List.mem_of_getElem? hkk)).1; rw [hx] at this; omega
 clear h0 hko hm hway
 obtain ⟨W0, hW0, hP, hz0, hB0⟩ := box w #[.int .i64 s.least, .int .i64 s.wait, .slice a.ta s.tiers.length a.tc, .slice a.fa s.files.length a.fc, .slice a.ca s.copies.length a.cc, .slice a.ha s.held.length a.hc, .slice a.ba s.bin.length a.bc] 28
 obtain ⟨W1, hW1, hD, hz1, hB1⟩ := box W0 #[.string f.dig, .int .i64 f.size, .int .i64 f.kind, .string f.frm] 30
 obtain ⟨W2, hW2, hQ, hz2, hB2⟩ := box W1 #[.int .i64 0, .int .i64 0, .slice none 0 0, .slice none 0 0, .slice none 0 0, .slice none 0 0, .slice none 0 0] 28
 rw [hz0] at hD hz1
 rw [hz1] at hQ hz2
 have hP := (hP.keep hB1).keep hB2
 have hD := hD.keep hB2
 have hBB := below_up hB0 (below_up hB1 hB2)
 have HW0 := Lib.hid hW0; have HW1 := Lib.hid hW1; have HW2 := Lib.hid hW2; have HP := Lib.hid hP; have HD := Lib.hid hD; have HQ := Lib.hid hQ; have HBB := Lib.hid hBB; have HZ2 : Hid (W2.heap.size = w.heap.size + 3) := Lib.hid (by omega)
 have HI2 := Lib.hid (hI.keep hBB)
 obtain ⟨q0, q1, q2, q3, q4, q5, q6⟩ := hP.seven
 obtain ⟨d0, d1, d2, d3⟩ := hD.four
 have HCK := Lib.hid (fun V (hv : Below W2.heap.size W2 V) => check_is s a V (HI2.out.keep hv))
 clear hI hW0 hW1 hW2 hP hD hQ hz0 hz1 hz2 hB0 hB1 hB2 hBB
 have hv : Below W2.heap.size W2 W2 := Below.refl _ _
 rw [St.err_iff.2 r] at HCK
 obtain ⟨_, y1, y2, y3, y4, y5⟩ := St.sizes_iff.1 r.sizes
 have HCI := Lib.hid (fun V (hv : Below W2.heap.size W2 V) => checkImportS_is s a f hfz hf100 tier now V (HI2.out.keep hv) r 0 hq)
 unfold CkPost at HCI
 have HCP := Lib.hid (fun V (hv : Below W2.heap.size W2 V) => copyStore_is s a V (HI2.out.keep hv) ⟨y1, y2, y3, y4, y5⟩)
 unfold CpyPost at HCP
 have HZT : Hid (StSz (St.imp s f tier now)) := Lib.hid (HSZ0.out.imp r hfz hf100 (by omega))
 have HZF := Lib.hid HZT.out.fz
 have HFR := Lib.hid (fun b V => filesRow_is s b V)
 have HWF := Lib.hid (fun (b : StA) V (hI : StIn V s b) => withF_is s.files r.fup (by omega) f b.fa b.fc V hI.fl hI.fi)
 unfold ClnPost at HWF
 have HKY := Lib.hid (fun V => copyKey_is f.dig tier (by omega) htz V)
 have hcz : ∀ x ∈ s.copies, x.dig.size ≤ 100 ∧ x.tier.size ≤ 100 := fun x hx => by have := St.cop_good r hx; omega
 have HPLC := Lib.hid (fun (ca : Option Addr) (cc : Nat) V (hl : s.copies.length ≤ cc ∧ cc ≤ 9223372036854775807) (hr : RowE St.eC V ca s.copies) => placeC_is s.copies (St.cop_up r) hcz (by omega) (St.key f.dig tier) ca cc V hl hr)
 obtain ⟨ak, hak⟩ : ∃ ak, St.askedOf s f.dig tier now = ak := ⟨_, rfl⟩
 have HWC := Lib.hid (fun (ca : Option Addr) (cc : Nat) V (hl : s.copies.length ≤ cc ∧ cc ≤ 9223372036854775807) (hr : RowE St.eC V ca s.copies) => withC_is s.copies (St.cop_up r) hcz (by omega) ⟨f.dig, tier, true, ak⟩ (show f.dig.size ≤ 100 ∧ tier.size ≤ 100 from ⟨by omega, htz⟩) ca cc V hl hr)
 unfold ClnPost at HWC
 have HWS := Lib.hid (fun (ca : Option Addr) (cc : Nat) V (hl : s.held.length ≤ cc ∧ cc ≤ 9223372036854775807) (hr : RowE St.eS V ca s.held) => withS_is s.held r.hup (by omega) f.dig ca cc V hl hr)
 have HWG := Lib.hid (fun (ca : Option Addr) (cc : Nat) V (hl : s.bin.length ≤ cc ∧ cc ≤ 9223372036854775807) (hr : RowE St.eG V ca s.bin) => woG_is s.bin r.bup (by omega) f.dig ca cc V hl hr)
 unfold ClnPost at HWS HWG
 obtain ⟨t, ht⟩ : ∃ t, St.imp s f tier now = t := ⟨_, rfl⟩
 have HT := Lib.hid ht
 rw [ht] at HZT ⊢
 have HAK := Lib.hid hak
 have HPA := Lib.hid (fun h : St.hasK St.ckey s.copies (St.key f.dig tier) = true => (St.copyAt_pos (t := tier) r h16).1 h)
 have HPB := Lib.hid (fun h : St.hasK St.ckey s.copies (St.key f.dig tier) = false => (St.copyAt_pos (t := tier) r h16).2 h)
 obtain ⟨FS, hFS⟩ : ∃ FS, St.wth St.fdig f s.files = FS := ⟨_, rfl⟩
 have HFS := Lib.hid hFS
 rw [hFS] at HWF
 have HZF : Hid (∀ g ∈ FS, g.dig.size ≤ 9223372036854775807 ∧ g.frm.size ≤ 9223372036854775807) := Lib.hid (fun g hg => HZF.out g (show g ∈ St.wth St.fdig f s.files by rw [hFS]; exact hg))
 obtain ⟨p, hp⟩ : ∃ p, St.pos St.ckey (St.key f.dig tier) s.copies = p := ⟨_, rfl⟩
 obtain ⟨hc, hhc⟩ : ∃ hc, St.hasK St.ckey s.copies (St.key f.dig tier) = hc := ⟨_, rfl⟩
 rw [hp, hhc] at HPLC HPA
 rw [hhc] at HPB
 have HPL : Hid (hc = true → ∃ c, s.copies[p]? = some c ∧ c.asked = ak) := Lib.hid fun h => by
  obtain ⟨c, h1, h2⟩ := St.asked_old (now := now) (HPA.out h)
  exact ⟨c, h1, h2.symm.trans HAK.out⟩
 have HPN : Hid (hc = false → ak = now) := Lib.hid fun h => by
  have h1 := HPB.out h
  have h2 := St.asked_new (now := now) (show St.copyAt s f.dig tier < 0 by omega)
  rw [HAK.out] at h2
  exact h2
 obtain ⟨CS, hCS⟩ : ∃ CS, St.wth St.ckey ⟨f.dig, tier, true, ak⟩ s.copies = CS := ⟨_, rfl⟩
 have HCS := Lib.hid hCS
 rw [hCS] at HWC
 have HY5 : Hid (s.copies.length ≤ 4000) := Lib.hid y3
 clear r hq hp hhc hak ht hFS hCS hcz y1 y2 y3 y4 y5 h16 htz HPA HPB
 have hke : (f.kind == 1) = true := by simpa using hk1
 clear hk1
 cases hc with
 | true =>
   go_enter Tryz.func10, Tryz.ntmps10
   go_upto_region 1 with fail
   rw [HW0.out, HW1.out, HW2.out]
   go_upto_region 8 with (first
    | (go_at_call 32; (with_reducible refine (HCK.out _ hv).mono ?_); rintro e w6 ⟨rfl, hq⟩; have hv := below_up hv hq; obtain ⟨q0, q1, q2, q3, q4, q5, q6⟩ := (HP.out.keep hv).seven; obtain ⟨d0, d1, d2, d3⟩ := (HD.out.keep hv).four)
    | (go_at_call 50; (with_reducible refine (HCI.out _ hv).mono ?_); rintro e w7 ⟨rfl, hq⟩; have hv := below_up hv hq; obtain ⟨q0, q1, q2, q3, q4, q5, q6⟩ := (HP.out.keep hv).seven; obtain ⟨d0, d1, d2, d3⟩ := (HD.out.keep hv).four)
    | (go_at_call 51; (with_reducible refine (HCP.out _ hv).mono ?_); rintro e w8 ⟨b, rfl, hOwn, hB8⟩)
    | (refine wpList_store_row rfl 28 _ _ rfl w.heap.size #[.int .i64 s.least, .int .i64 s.wait, .slice b.ta s.tiers.length b.tc, .slice b.fa s.files.length b.fc, .slice b.ca s.copies.length b.cc, .slice b.ha s.held.length b.hc, .slice b.ba s.bin.length b.bc] rfl rfl 28 _ (HP.out.keep (below_up hv hB8)) infoSto rfl (by simp [Value.oneCell']) ?_))
   have hlt4 : w.heap.size + 2 < W2.heap.size := by have := HZ2.out; omega
   have hv8 := below_up hv hB8
   have hPd := Blk.setRowAt (HP.out.keep hv8) #[.int .i64 s.least, .int .i64 s.wait, .slice b.ta s.tiers.length b.tc, .slice b.fa s.files.length b.fc, .slice b.ca s.copies.length b.cc, .slice b.ha s.held.length b.hc, .slice b.ba s.bin.length b.bc]
   have hQd := (HQ.out.keep hv8).setRowOther (b' := w.heap.size) (by omega) #[.int .i64 s.least, .int .i64 s.wait, .slice b.ta s.tiers.length b.tc, .slice b.fa s.files.length b.fc, .slice b.ca s.copies.length b.cc, .slice b.ha s.held.length b.hc, .slice b.ba s.bin.length b.bc]
   have hDd := (HD.out.keep hv8).setRowOther (b' := w.heap.size) (by omega) #[.int .i64 s.least, .int .i64 s.wait, .slice b.ta s.tiers.length b.tc, .slice b.fa s.files.length b.fc, .slice b.ca s.copies.length b.cc, .slice b.ha s.held.length b.hc, .slice b.ba s.bin.length b.bc]
   have hBd := below_setRow (below_up HBB.out hv8) (Nat.le_refl w.heap.size) #[.int .i64 s.least, .int .i64 s.wait, .slice b.ta s.tiers.length b.tc, .slice b.fa s.files.length b.fc, .slice b.ca s.copies.length b.cc, .slice b.ha s.held.length b.hc, .slice b.ba s.bin.length b.bc]
   have hOd := (hOwn.down hv.size).setRow (b := w.heap.size) (by omega) #[.int .i64 s.least, .int .i64 s.wait, .slice b.ta s.tiers.length b.tc, .slice b.fa s.files.length b.fc, .slice b.ca s.copies.length b.cc, .slice b.ha s.held.length b.hc, .slice b.ba s.bin.length b.bc]
   have hsz : W2.heap.size ≤ (w8.setRow w.heap.size #[.int .i64 s.least, .int .i64 s.wait, .slice b.ta s.tiers.length b.tc, .slice b.fa s.files.length b.fc, .slice b.ca s.copies.length b.cc, .slice b.ha s.held.length b.hc, .slice b.ba s.bin.length b.bc]).heap.size := by have := hv8.size; simp; omega
   obtain ⟨V, hV⟩ : ∃ V, w8.setRow w.heap.size #[.int .i64 s.least, .int .i64 s.wait, .slice b.ta s.tiers.length b.tc, .slice b.fa s.files.length b.fc, .slice b.ca s.copies.length b.cc, .slice b.ha s.held.length b.hc, .slice b.ba s.bin.length b.bc] = V := ⟨_, rfl⟩
   rw [hV] at hPd hQd hDd hBd hOd hsz ⊢
   clear hV q0 q1 q2 q3 q4 q5 q6 d0 d1 d2 d3 hOwn hB8 hv8 hv hlt4
   have hPd := hPd.drew; have hDd := hDd.drew; have hQd := hQd.drew; have hBd := hBd.drew
   have hOd := hOd.keep (Below.refl _ _).drew
   have hsz : W2.heap.size ≤ V.drew.heap.size := hsz
   have hHeld := And.intro hPd.seven hDd.four
   refine wp_region_until (fun W => (W.cell? ⟨w.heap.size, 0, none⟩ = some (.int .i64 s.least) ∧ W.cell? ⟨w.heap.size, 1, none⟩ = some (.int .i64 s.wait) ∧ W.cell? ⟨w.heap.size, 2, none⟩ = some (.slice b.ta s.tiers.length b.tc) ∧ W.cell? ⟨w.heap.size, 3, none⟩ = some (.slice b.fa s.files.length b.fc) ∧ W.cell? ⟨w.heap.size, 4, none⟩ = some (.slice b.ca s.copies.length b.cc) ∧ W.cell? ⟨w.heap.size, 5, none⟩ = some (.slice b.ha s.held.length b.hc) ∧ W.cell? ⟨w.heap.size, 6, none⟩ = some (.slice b.ba s.bin.length b.bc)) ∧ W.cell? ⟨w.heap.size + 1, 0, none⟩ = some (.string f.dig) ∧ W.cell? ⟨w.heap.size + 1, 1, none⟩ = some (.int .i64 f.size) ∧ W.cell? ⟨w.heap.size + 1, 2, none⟩ = some (.int .i64 f.kind) ∧ W.cell? ⟨w.heap.size + 1, 3, none⟩ = some (.string f.frm)) 5 (by kernel_rfl) ?_
   refine anyM_take (i := 0) (v := ?_) rfl rfl (by kernel_rfl) (by decide) (by kernel_rfl) (by kernel_rfl) (by kernel_rfl) (fun _ _ _ h => h) (Or.inl ⟨by rfl, ?_⟩) (by rfl) (by assumption) ?_
   rotate_left
   ·(intro w hSw; (try dsimp only at hSw); (try obtain ⟨⟨hs1, hs2, hs3, hs4, hs5, hs6, hs7⟩, hs8, hs9, hs10, hs11⟩ := hSw); go_simp; try (with_reducible rfl))
   try go_frame
   refine anyM_take (i := 2) (v := ?_) rfl rfl (by kernel_rfl) (by decide) (by kernel_rfl) (by kernel_rfl) (by kernel_rfl) (fun _ _ _ h => h) (Or.inl ⟨by rfl, ?_⟩) (by rfl) (by assumption) ?_
   rotate_left
   ·(intro w hSw; (try dsimp only at hSw); (try obtain ⟨⟨hs1, hs2, hs3, hs4, hs5, hs6, hs7⟩, hs8, hs9, hs10, hs11⟩ := hSw); go_simp; try (with_reducible rfl))
   try go_frame
   refine anyM_ready (rs := [1]) (by kernel_rfl) (by simp) ?_
   refine ReadyM.cons rfl (fun K hK => ?_) ReadyM.nil
   go_simp
   refine (HFR.out b _).mono ?_
   rintro e x1 ⟨rfl, hq1⟩
   have hPd := hPd.keep hq1; have hDd := hDd.keep hq1; have hQd := hQd.keep hq1; have hOd := hOd.keep hq1
   have hBd := below_up hBd hq1
   have hsz := Nat.le_trans hsz hq1.size
   have hHeld := And.intro hPd.seven hDd.four
   refine hK.out _ _ (fun _ => hHeld) ?_
   clear hK K
   try go_frame
   refine anyM_ready (rs := [3]) (by kernel_rfl) (by simp) ?_
   refine ReadyM.cons rfl (fun K hK => ?_) ReadyM.nil
   go_simp
   refine (HWF.out b _ (hOd.in_ HSZ0.out)).mono ?_
   rintro e x2 ⟨g2, c2, rfl, o2, hq2⟩; have o2 := o2.down hsz
   have hPd := hPd.keep hq2; have hDd := hDd.keep hq2; have hQd := hQd.keep hq2; have hOd := hOd.keep hq2
   have hBd := below_up hBd hq2
   have hsz := Nat.le_trans hsz hq2.size
   have hHeld := And.intro hPd.seven hDd.four
   refine hK.out _ _ (fun _ => hHeld) ?_
   clear hK K
   try go_frame
   refine anyM_take0 (i := 4) (v := ?_) rfl (by decide) (by kernel_rfl) (by kernel_rfl) (by kernel_rfl) (fun _ _ _ h => h) (Or.inl ⟨by rfl, ?_⟩) (fun _ => by assumption) ?_
   rotate_left
   ·(intro w hSw; go_simp; try (with_reducible rfl))
   try go_frame
   clear hHeld
   have hOd := hOd.filNew o2
   clear o2
   obtain ⟨y0, y1, y2, y3, y4, y5, y6⟩ := hPd.seven
   have yf := hPd.free
   refine anyM_ready (rs := [5]) (by kernel_rfl) (by simp) ?_
   refine ReadyM.cons rfl (fun K hK => ?_) ReadyM.nil
   go_simp
   refine hK.out _ _ (fun h => absurd h (by simp)) ?_
   clear hK K y0 y1 y2 y3 y4 y5 y6 yf
   try go_frame
   have hPs := hPd.set 3 (.slice g2 FS.length c2)
   have hDs := hDd.setOther (a := ⟨w.heap.size, 3, none⟩) (by simp) (.slice g2 FS.length c2)
   have hQs := hQd.setOther (a := ⟨w.heap.size, 3, none⟩) (by simp <;> omega) (.slice g2 FS.length c2)
   have hBs := hBd.setCell (p := ⟨w.heap.size, 3, none⟩) (by simp) (.slice g2 FS.length c2)
   have hOs := hOd.cellB (b := w.heap.size) (by have := HZ2.out; omega) 3 (.slice g2 FS.length c2)
   have hszs := show W2.heap.size ≤ (x2.setCell ⟨w.heap.size, 3, none⟩ (.slice g2 FS.length c2)).heap.size by simp; omega
   obtain ⟨V1, hX5⟩ : ∃ V1, x2.setCell ⟨w.heap.size, 3, none⟩ (.slice g2 FS.length c2) = V1 := ⟨_, rfl⟩
   rw [hX5] at hPs hDs hQs hBs hOs hszs ⊢
   clear hPd hDd hQd hBd hOd hsz hX5
   refine anyM_done (by kernel_rfl) ?_ _
   obtain ⟨s1, b1, hs1, hP1, hO1⟩ : ∃ (s1 : Sto) (b1 : StA), s1 = { s with files := FS } ∧ Blk V1 w.heap.size #[.int .i64 s1.least, .int .i64 s1.wait, .slice b1.ta s1.tiers.length b1.tc, .slice b1.fa s1.files.length b1.fc, .slice b1.ca s1.copies.length b1.cc, .slice b1.ha s1.held.length b1.hc, .slice b1.ba s1.bin.length b1.bc] 28 ∧ StOwn V1 W2.heap.size s1 b1 := ⟨{ s with files := FS }, ⟨b.ta, b.tc, g2, c2, b.ca, b.cc, b.ha, b.hc, b.ba, b.bc⟩, rfl, hPs, hOs⟩
   have HS1 : Hid (s1 = { s with files := St.wth St.fdig f s.files }) := Lib.hid (by rw [hs1, HFS.out])
   have HC1 : Hid (s1.copies = s.copies) := Lib.hid (by rw [hs1])
   have HZ1 : Hid (StSz s1) := Lib.hid (by rw [hs1]; exact ⟨HSZ0.out.tz, HZF.out, HSZ0.out.cz, HSZ0.out.hz, HSZ0.out.bz⟩)
   have HH1 : Hid (s1.held = s.held ∧ s1.bin = s.bin) := Lib.hid (by rw [hs1]; exact ⟨rfl, rfl⟩)
   have HP1 := Lib.hid hP1; have HD1 := Lib.hid hDs; have HQ1 := Lib.hid hQs; have HB1 := Lib.hid hBs; have HO1 := Lib.hid hO1; have HV1 := Lib.hid hszs
   obtain ⟨q0, q1, q2, q3, q4, q5, q6⟩ := hP1.seven
   obtain ⟨d0, d1, d2, d3⟩ := hDs.four
   clear hs1 hPs hOs hP1 hDs hQs hBs hO1 hszs
   go_upto_region 10 with fail
   obtain ⟨w11, hW11, hC, hz11, hB11⟩ := box V1 #[.string f.dig, .string tier, .bool true, .int .i64 now] 74
   rw [hW11]
   have hv := hB11.drew
   have hC := hC.drew
   clear hW11 hz11 hB11 q0 q1 q2 q3 q4 q5 q6 d0 d1 d2 d3
   obtain ⟨q0, q1, q2, q3, q4, q5, q6⟩ := (HP1.out.keep hv).seven
   obtain ⟨d0, d1, d2, d3⟩ := (HD1.out.keep hv).four
   have HCR := Lib.hid (fun V => copiesRow_is s1 b1 V)
   have HPC := Lib.hid (fun U (hv : Below V1.heap.size V1 U) => HPLC.out b1.ca b1.cc U (by have h := ((HO1.out.keep hv).in_ HZ1.out).cl; rw [HC1.out] at h; exact h) (by have h := ((HO1.out.keep hv).in_ HZ1.out).co; rw [HC1.out] at h; exact h))
   rw [← HC1.out] at HPC
   go_region_held3 (fun W => (W.cell? ⟨w.heap.size, 0, none⟩ = some (.int .i64 s1.least) ∧ W.cell? ⟨w.heap.size, 1, none⟩ = some (.int .i64 s1.wait) ∧ W.cell? ⟨w.heap.size, 2, none⟩ = some (.slice b1.ta s1.tiers.length b1.tc) ∧ W.cell? ⟨w.heap.size, 3, none⟩ = some (.slice b1.fa s1.files.length b1.fc) ∧ W.cell? ⟨w.heap.size, 4, none⟩ = some (.slice b1.ca s1.copies.length b1.cc) ∧ W.cell? ⟨w.heap.size, 5, none⟩ = some (.slice b1.ha s1.held.length b1.hc) ∧ W.cell? ⟨w.heap.size, 6, none⟩ = some (.slice b1.ba s1.bin.length b1.bc)) ∧ W.cell? ⟨w.heap.size + 1, 0, none⟩ = some (.string f.dig) ∧ W.cell? ⟨w.heap.size + 1, 1, none⟩ = some (.int .i64 f.size) ∧ W.cell? ⟨w.heap.size + 1, 2, none⟩ = some (.int .i64 f.kind) ∧ W.cell? ⟨w.heap.size + 1, 3, none⟩ = some (.string f.frm))
    (first | (with_reducible exact ⟨⟨q0, q1, q2, q3, q4, q5, q6⟩, d0, d1, d2, d3⟩) | go_keep)
    (first
     | (go_at_call 54; (with_reducible refine (HCR.out _).mono ?_); rintro e wa ⟨rfl, hq⟩; have hv := below_up hv hq; have hC := hC.keep hq; obtain ⟨q0, q1, q2, q3, q4, q5, q6⟩ := (HP1.out.keep hv).seven; obtain ⟨d0, d1, d2, d3⟩ := (HD1.out.keep hv).four)
     | (go_at_call 56; (with_reducible refine (HKY.out _).mono ?_); rintro e wb ⟨rfl, rfl⟩)
     | (go_at_call 55; (with_reducible refine (HPC.out _ hv).mono ?_); rintro e wc ⟨rfl, hq⟩; have hv := below_up hv hq; have hC := hC.keep hq; obtain ⟨q0, q1, q2, q3, q4, q5, q6⟩ := (HP1.out.keep hv).seven; obtain ⟨d0, d1, d2, d3⟩ := (HD1.out.keep hv).four)
     | fail)
   rename_i hHeld
   clear hHeld
   obtain ⟨c, hcp, hca⟩ := HPL.out (by first | rfl | trivial)
   have hcp1 : s1.copies[p]? = some c := by rw [HC1.out]; exact hcp
   have hpl := (List.getElem?_eq_some_iff.1 hcp1).1
   have hp0 : (0 : Int) ≤ (p : Int) := by omega
   have hp1 : (p : Int) < (s1.copies.length : Int) := by omega
   have hp4 : s1.copies.length ≤ 4000 := by rw [HC1.out]; exact HY5.out
   obtain ⟨bb, off, ha, hb, hcell⟩ := ((HO1.out.keep hv).in_ HZ1.out).co (by omega)
   have c3 : wc.cell? ⟨bb, off + p * 4 + 3, none⟩ = some (.int .i64 ak) := by rw [← hca]; exact hcell p c hcp1 3 (.int .i64 c.asked) rfl
   obtain ⟨e0, e1, e2, e3⟩ := hC.four
   have ef := hC.free
   rw [ha] at q4
   have HA := Lib.hid ha
   have HC11 := Lib.hid hC
   clear hcp hcp1 hca hcell hC
   go_upto_region 13 with fail
   have hC := HC11.out.set 3 (.int .i64 ak)
   have hv := hv.setCell (p := ⟨V1.heap.size, 3, none⟩) (Nat.le_refl _) (.int .i64 ak)
   obtain ⟨U, hU⟩ : ∃ U, wc.setCell ⟨V1.heap.size, 3, none⟩ (.int .i64 ak) = U := ⟨_, rfl⟩
   rw [hU] at hC hv ⊢
   clear hU c3 e0 e1 e2 e3 ef hb ha hp0 hp1 hp4 hpl q0 q1 q2 q3 q4 q5 q6 d0 d1 d2 d3
   have hPd := (HP1.out.keep hv).drew; have hDd := (HD1.out.keep hv).drew; have hQd := (HQ1.out.keep hv).drew; have hBd := (below_up HB1.out hv).drew
   have hOd := (HO1.out.keep hv).keep (Below.refl _ _).drew
   have hsz : W2.heap.size ≤ U.drew.heap.size := Nat.le_trans HV1.out hv.size
   have hCd := hC.drew
   have hHeld := And.intro hPd.seven hCd.four
   have HWC1 := Lib.hid (fun V (hI : StIn V s1 b1) => HWC.out b1.ca b1.cc V (by have h := hI.cl; rw [HC1.out] at h; exact h) (by have h := hI.co; rw [HC1.out] at h; exact h))
   rw [← HC1.out] at HWC1
   clear hC hv
   refine wp_region_until (fun W => (W.cell? ⟨w.heap.size, 0, none⟩ = some (.int .i64 s1.least) ∧ W.cell? ⟨w.heap.size, 1, none⟩ = some (.int .i64 s1.wait) ∧ W.cell? ⟨w.heap.size, 2, none⟩ = some (.slice b1.ta s1.tiers.length b1.tc) ∧ W.cell? ⟨w.heap.size, 3, none⟩ = some (.slice b1.fa s1.files.length b1.fc) ∧ W.cell? ⟨w.heap.size, 4, none⟩ = some (.slice b1.ca s1.copies.length b1.cc) ∧ W.cell? ⟨w.heap.size, 5, none⟩ = some (.slice b1.ha s1.held.length b1.hc) ∧ W.cell? ⟨w.heap.size, 6, none⟩ = some (.slice b1.ba s1.bin.length b1.bc)) ∧ W.cell? ⟨V1.heap.size, 0, none⟩ = some (.string f.dig) ∧ W.cell? ⟨V1.heap.size, 1, none⟩ = some (.string tier) ∧ W.cell? ⟨V1.heap.size, 2, none⟩ = some (.bool true) ∧ W.cell? ⟨V1.heap.size, 3, none⟩ = some (.int .i64 ak)) 5 (by kernel_rfl) ?_
   refine anyM_take (i := 0) (v := ?_) rfl rfl (by kernel_rfl) (by decide) (by kernel_rfl) (by kernel_rfl) (by kernel_rfl) (fun _ _ _ h => h) (Or.inl ⟨by rfl, ?_⟩) (by rfl) (by assumption) ?_
   rotate_left
   ·(intro w hSw; (try dsimp only at hSw); (try obtain ⟨⟨hs1, hs2, hs3, hs4, hs5, hs6, hs7⟩, hs8, hs9, hs10, hs11⟩ := hSw); go_simp; try (with_reducible rfl))
   try go_frame
   refine anyM_take (i := 2) (v := ?_) rfl rfl (by kernel_rfl) (by decide) (by kernel_rfl) (by kernel_rfl) (by kernel_rfl) (fun _ _ _ h => h) (Or.inl ⟨by rfl, ?_⟩) (by rfl) (by assumption) ?_
   rotate_left
   ·(intro w hSw; (try dsimp only at hSw); (try obtain ⟨⟨hs1, hs2, hs3, hs4, hs5, hs6, hs7⟩, hs8, hs9, hs10, hs11⟩ := hSw); go_simp; try (with_reducible rfl))
   try go_frame
   refine anyM_ready (rs := [1]) (by kernel_rfl) (by simp) ?_
   refine ReadyM.cons rfl (fun K hK => ?_) ReadyM.nil
   go_simp
   refine (HCR.out _).mono ?_
   rintro e x3 ⟨rfl, hq1⟩
   have hPd := hPd.keep hq1; have hDd := hDd.keep hq1; have hQd := hQd.keep hq1; have hOd := hOd.keep hq1
   have hBd := below_up hBd hq1
   have hsz := Nat.le_trans hsz hq1.size
   have hCd := hCd.keep hq1; have hHeld := And.intro hPd.seven hCd.four
   refine hK.out _ _ (fun _ => hHeld) ?_
   clear hK K
   try go_frame
   refine anyM_ready (rs := [3]) (by kernel_rfl) (by simp) ?_
   refine ReadyM.cons rfl (fun K hK => ?_) ReadyM.nil
   go_simp
   refine (HWC1.out _ (hOd.in_ HZ1.out)).mono ?_
   rintro e x4 ⟨g4, c4, rfl, o4, hq2⟩; have o4 := o4.down hsz
   have hPd := hPd.keep hq2; have hDd := hDd.keep hq2; have hQd := hQd.keep hq2; have hOd := hOd.keep hq2
   have hBd := below_up hBd hq2
   have hsz := Nat.le_trans hsz hq2.size
   have hCd := hCd.keep hq2; have hHeld := And.intro hPd.seven hCd.four
   refine hK.out _ _ (fun _ => hHeld) ?_
   clear hK K
   try go_frame
   refine anyM_take0 (i := 4) (v := ?_) rfl (by decide) (by kernel_rfl) (by kernel_rfl) (by kernel_rfl) (fun _ _ _ h => h) (Or.inl ⟨by rfl, ?_⟩) (fun _ => by assumption) ?_
   rotate_left
   ·(intro w hSw; go_simp; try (with_reducible rfl))
   try go_frame
   clear hHeld hCd
   have hOd := hOd.copNew o4
   clear o4
   obtain ⟨y0, y1, y2, y3, y4, y5, y6⟩ := hPd.seven
   have yf := hPd.free
   refine anyM_ready (rs := [5]) (by kernel_rfl) (by simp) ?_
   refine ReadyM.cons rfl (fun K hK => ?_) ReadyM.nil
   go_simp
   refine hK.out _ _ (fun h => absurd h (by simp)) ?_
   clear hK K y0 y1 y2 y3 y4 y5 y6 yf
   try go_frame
   have hPs := hPd.set 4 (.slice g4 CS.length c4)
   have hDs := hDd.setOther (a := ⟨w.heap.size, 4, none⟩) (by simp) (.slice g4 CS.length c4)
   have hQs := hQd.setOther (a := ⟨w.heap.size, 4, none⟩) (by simp <;> omega) (.slice g4 CS.length c4)
   have hBs := hBd.setCell (p := ⟨w.heap.size, 4, none⟩) (by simp) (.slice g4 CS.length c4)
   have hOs := hOd.cellB (b := w.heap.size) (by have := HZ2.out; omega) 4 (.slice g4 CS.length c4)
   have hszs := show W2.heap.size ≤ (x4.setCell ⟨w.heap.size, 4, none⟩ (.slice g4 CS.length c4)).heap.size by simp; omega
   obtain ⟨V2, hX5⟩ : ∃ V2, x4.setCell ⟨w.heap.size, 4, none⟩ (.slice g4 CS.length c4) = V2 := ⟨_, rfl⟩
   rw [hX5] at hPs hDs hQs hBs hOs hszs ⊢
   clear hPd hDd hQd hBd hOd hsz hX5
   refine anyM_done (by kernel_rfl) ?_ _
   obtain ⟨s2, b2, hs2, hP2, hO2⟩ : ∃ (s2 : Sto) (b2 : StA), s2 = { s1 with copies := CS } ∧ Blk V2 w.heap.size #[.int .i64 s2.least, .int .i64 s2.wait, .slice b2.ta s2.tiers.length b2.tc, .slice b2.fa s2.files.length b2.fc, .slice b2.ca s2.copies.length b2.cc, .slice b2.ha s2.held.length b2.hc, .slice b2.ba s2.bin.length b2.bc] 28 ∧ StOwn V2 W2.heap.size s2 b2 := ⟨{ s1 with copies := CS }, ⟨b1.ta, b1.tc, b1.fa, b1.fc, g4, c4, b1.ha, b1.hc, b1.ba, b1.bc⟩, rfl, hPs, hOs⟩
   have HS2 : Hid (s2 = { s1 with copies := St.wth St.ckey ⟨f.dig, tier, true, St.askedOf s f.dig tier now⟩ s.copies }) := Lib.hid (by rw [hs2, HAK.out, HCS.out])
   have HH2 : Hid (s2.held = s.held ∧ s2.bin = s.bin) := Lib.hid (by rw [hs2]; exact HH1.out)
   have HZ2' : Hid (StSz s2) := Lib.hid (by rw [hs2]; exact ⟨HZ1.out.tz, HZ1.out.fz, fun y hy => HZT.out.cz y (by rw [← HT.out]; show y ∈ St.wth St.ckey ⟨f.dig, tier, true, St.askedOf s f.dig tier now⟩ s.copies; rw [HAK.out, HCS.out]; exact hy), HZ1.out.hz, HZ1.out.bz⟩)
   have HP2 := Lib.hid hP2; have HD2 := Lib.hid hDs; have HQ2 := Lib.hid hQs; have HB2 := Lib.hid hBs; have HO2 := Lib.hid hO2; have HV2 := Lib.hid hszs
   obtain ⟨q0, q1, q2, q3, q4, q5, q6⟩ := hP2.seven
   obtain ⟨d0, d1, d2, d3⟩ := hDs.four
   clear hs2 hPs hOs hP2 hDs hQs hBs hO2 hszs
   go_upto_region 15 with fail
   have hPd := HP2.out.drew; have hDd := HD2.out.drew; have hQd := HQ2.out.drew; have hBd := HB2.out.drew
   have hOd := HO2.out.keep (Below.refl _ _).drew
   have hsz : W2.heap.size ≤ V2.drew.heap.size := HV2.out
   obtain ⟨HH, hHH⟩ : ∃ HH, St.wth id f.dig s.held = HH := ⟨_, rfl⟩
   obtain ⟨BB, hBB⟩ : ∃ BB, St.wo St.gdig f.dig s.bin = BB := ⟨_, rfl⟩
   have HHH := Lib.hid hHH; have HBBB := Lib.hid hBB
   rw [hHH] at HWS
   rw [hBB] at HWG
   have HWS1 := Lib.hid (fun V (hI : StIn V s2 b2) => HWS.out b2.ha b2.hc V (by have h := hI.hl; rw [HH2.out.1] at h; exact h) (by have h := hI.he; rw [HH2.out.1] at h; exact h))
   rw [← HH2.out.1] at HWS1
   have HWG1 := Lib.hid (fun V (hI : StIn V s2 b2) => HWG.out b2.ba b2.bc V (by have h := hI.bl; rw [HH2.out.2] at h; exact h) (by have h := hI.bi; rw [HH2.out.2] at h; exact h))
   rw [← HH2.out.2] at HWG1
   have HHD := Lib.hid (fun V => held_is s2 b2 V)
   have HBN := Lib.hid (fun V => binRow_is s2 b2 V)
   clear q0 q1 q2 q3 q4 q5 q6 d0 d1 d2 d3 hHH hBB
   have hHeld := And.intro hPd.seven hDd.four
   refine wp_region_until (fun W => (W.cell? ⟨w.heap.size, 0, none⟩ = some (.int .i64 s2.least) ∧ W.cell? ⟨w.heap.size, 1, none⟩ = some (.int .i64 s2.wait) ∧ W.cell? ⟨w.heap.size, 2, none⟩ = some (.slice b2.ta s2.tiers.length b2.tc) ∧ W.cell? ⟨w.heap.size, 3, none⟩ = some (.slice b2.fa s2.files.length b2.fc) ∧ W.cell? ⟨w.heap.size, 4, none⟩ = some (.slice b2.ca s2.copies.length b2.cc) ∧ W.cell? ⟨w.heap.size, 5, none⟩ = some (.slice b2.ha s2.held.length b2.hc) ∧ W.cell? ⟨w.heap.size, 6, none⟩ = some (.slice b2.ba s2.bin.length b2.bc)) ∧ W.cell? ⟨w.heap.size + 1, 0, none⟩ = some (.string f.dig) ∧ W.cell? ⟨w.heap.size + 1, 1, none⟩ = some (.int .i64 f.size) ∧ W.cell? ⟨w.heap.size + 1, 2, none⟩ = some (.int .i64 f.kind) ∧ W.cell? ⟨w.heap.size + 1, 3, none⟩ = some (.string f.frm)) 11 (by kernel_rfl) ?_
   refine anyM_take (i := 0) (v := ?_) rfl rfl (by kernel_rfl) (by decide) (by kernel_rfl) (by kernel_rfl) (by kernel_rfl) (fun _ _ _ h => h) (Or.inl ⟨by rfl, ?_⟩) (by rfl) (by assumption) ?_
   rotate_left
   ·(intro w hSw; (try dsimp only at hSw); (try obtain ⟨⟨hs1, hs2, hs3, hs4, hs5, hs6, hs7⟩, hs8, hs9, hs10, hs11⟩ := hSw); go_simp; try (with_reducible rfl))
   try go_frame
   refine anyM_take0 (i := 2) (v := ?_) rfl (by decide) (by kernel_rfl) (by kernel_rfl) (by kernel_rfl) (fun _ _ _ h => h) (Or.inl ⟨by rfl, ?_⟩) (fun _ => by assumption) ?_
   rotate_left
   ·(intro w hSw; go_simp; try (with_reducible rfl))
   try go_frame
   refine anyM_take (i := 3) (v := ?_) rfl rfl (by kernel_rfl) (by decide) (by kernel_rfl) (by kernel_rfl) (by kernel_rfl) (fun _ _ _ h => h) (Or.inl ⟨by rfl, ?_⟩) (by rfl) (by assumption) ?_
   rotate_left
   ·(intro w hSw; (try dsimp only at hSw); (try obtain ⟨⟨hs1, hs2, hs3, hs4, hs5, hs6, hs7⟩, hs8, hs9, hs10, hs11⟩ := hSw); go_simp; try (with_reducible rfl))
   try go_frame
   refine anyM_take (i := 5) (v := ?_) rfl rfl (by kernel_rfl) (by decide) (by kernel_rfl) (by kernel_rfl) (by kernel_rfl) (fun _ _ _ h => h) (Or.inl ⟨by rfl, ?_⟩) (by rfl) (by assumption) ?_
   rotate_left
   ·(intro w hSw; (try dsimp only at hSw); (try obtain ⟨⟨hs1, hs2, hs3, hs4, hs5, hs6, hs7⟩, hs8, hs9, hs10, hs11⟩ := hSw); go_simp; try (with_reducible rfl))
   try go_frame
   refine anyM_take0 (i := 7) (v := ?_) rfl (by decide) (by kernel_rfl) (by kernel_rfl) (by kernel_rfl) (fun _ _ _ h => h) (Or.inl ⟨by rfl, ?_⟩) (fun _ => by assumption) ?_
   rotate_left
   ·(intro w hSw; go_simp; try (with_reducible rfl))
   try go_frame
   refine anyM_takeVia (i := 8) (k := 9) (v := ?_) rfl rfl rfl (by kernel_rfl) (by kernel_rfl) (by decide) (by decide) (by decide) (by kernel_rfl) (by kernel_rfl) (by kernel_rfl) (fun _ _ _ h => h) (Or.inl ⟨by rfl, ?_⟩) (by rfl) (by rfl) (by assumption) ?_
   rotate_left
   ·(intro w hSw; (try dsimp only at hSw); (try obtain ⟨⟨hs1, hs2, hs3, hs4, hs5, hs6, hs7⟩, hs8, hs9, hs10, hs11⟩ := hSw); go_simp; try (with_reducible rfl))
   try go_frame
   refine anyM_ready (rs := [1]) (by kernel_rfl) (by simp) ?_
   refine ReadyM.cons rfl (fun K hK => ?_) ReadyM.nil
   go_simp
   refine (HHD.out _).mono ?_
   rintro e x5 ⟨rfl, hq1⟩
   have hPd := hPd.keep hq1; have hDd := hDd.keep hq1; have hQd := hQd.keep hq1; have hOd := hOd.keep hq1
   have hBd := below_up hBd hq1
   have hsz := Nat.le_trans hsz hq1.size
   have hHeld := And.intro hPd.seven hDd.four
   refine hK.out _ _ (fun _ => hHeld) ?_
   clear hK K
   try go_frame
   refine anyM_ready (rs := [4]) (by kernel_rfl) (by simp) ?_
   refine ReadyM.cons rfl (fun K hK => ?_) ReadyM.nil
   go_simp
   refine (HWS1.out _ (hOd.in_ HZ2'.out)).mono ?_
   rintro e x6 ⟨g6, c6, rfl, o6, hq2⟩; have o6 := o6.down hsz
   have hPd := hPd.keep hq2; have hDd := hDd.keep hq2; have hQd := hQd.keep hq2; have hOd := hOd.keep hq2
   have hBd := below_up hBd hq2
   have hsz := Nat.le_trans hsz hq2.size
   have hHeld := And.intro hPd.seven hDd.four
   refine hK.out _ _ (fun _ => hHeld) ?_
   clear hK K
   try go_frame
   refine anyM_take0 (i := 10) (v := ?_) rfl (by decide) (by kernel_rfl) (by kernel_rfl) (by kernel_rfl) (fun _ _ _ h => h) (Or.inl ⟨by rfl, ?_⟩) (fun _ => by assumption) ?_
   rotate_left
   ·(intro w hSw; go_simp; try (with_reducible rfl))
   try go_frame
   refine anyM_ready (rs := [6]) (by kernel_rfl) (by simp) ?_
   refine ReadyM.cons rfl (fun K hK => ?_) ReadyM.nil
   go_simp
   refine (HBN.out _).mono ?_
   rintro e x7 ⟨rfl, hq3⟩
   have hPd := hPd.keep hq3; have hDd := hDd.keep hq3; have hQd := hQd.keep hq3; have hOd := hOd.keep hq3
   have hBd := below_up hBd hq3
   have hsz := Nat.le_trans hsz hq3.size
   have hHeld := And.intro hPd.seven hDd.four
   refine hK.out _ _ (fun _ => hHeld) ?_
   clear hK K
   try go_frame
   have o6 := o6.keep hq3
   refine anyM_ready (rs := [9]) (by kernel_rfl) (by simp) ?_
   refine ReadyM.cons rfl (fun K hK => ?_) ReadyM.nil
   go_simp
   refine (HWG1.out _ (hOd.in_ HZ2'.out)).mono ?_
   rintro e x8 ⟨g8, c8, rfl, o8, hq4⟩; have o8 := o8.down hsz
   have hPd := hPd.keep hq4; have hDd := hDd.keep hq4; have hQd := hQd.keep hq4; have hOd := hOd.keep hq4
   have hBd := below_up hBd hq4
   have hsz := Nat.le_trans hsz hq4.size
   have hHeld := And.intro hPd.seven hDd.four
   refine hK.out _ _ (fun _ => hHeld) ?_
   clear hK K
   try go_frame
   have o6 := o6.keep hq4
   clear hHeld
   have hOd := hOd.bothNew o6 o8
   clear o6 o8
   obtain ⟨y0, y1, y2, y3, y4, y5, y6⟩ := hPd.seven
   have yf := hPd.free
   refine anyM_ready (rs := [11]) (by kernel_rfl) (by simp) ?_
   refine ReadyM.cons rfl (fun K hK => ?_) ReadyM.nil
   go_simp
   refine hK.out _ _ (fun h => absurd h (by simp)) ?_
   clear hK K y0 y1 y2 y3 y4 y5 y6 yf
   try go_frame
   have hPs := hPd.set 5 (.slice g6 HH.length c6)
   have hDs := hDd.setOther (a := ⟨w.heap.size, 5, none⟩) (by simp) (.slice g6 HH.length c6)
   have hQs := hQd.setOther (a := ⟨w.heap.size, 5, none⟩) (by simp <;> omega) (.slice g6 HH.length c6)
   have hBs := hBd.setCell (p := ⟨w.heap.size, 5, none⟩) (by simp) (.slice g6 HH.length c6)
   have hOs := hOd.cellB (b := w.heap.size) (by have := HZ2.out; omega) 5 (.slice g6 HH.length c6)
   have hszs := show W2.heap.size ≤ (x8.setCell ⟨w.heap.size, 5, none⟩ (.slice g6 HH.length c6)).heap.size by simp; omega
   obtain ⟨V3, hX5⟩ : ∃ V3, x8.setCell ⟨w.heap.size, 5, none⟩ (.slice g6 HH.length c6) = V3 := ⟨_, rfl⟩
   rw [hX5] at hPs hDs hQs hBs hOs hszs ⊢
   clear hPd hDd hQd hBd hOd hsz hX5
   have hPd := hPs; have hDd := hDs; have hQd := hQs; have hBd := hBs; have hOd := hOs; have hsz := hszs
   clear hPs hDs hQs hBs hOs hszs
   refine anyM_ready (rs := [12]) (by kernel_rfl) (by simp) ?_
   refine ReadyM.cons rfl (fun K hK => ?_) ReadyM.nil
   go_simp
   refine hK.out _ _ (fun h => absurd h (by simp)) ?_
   clear hK K
   try go_frame
   obtain ⟨y0, y1, y2, y3, y4, y5, y6⟩ := hPd.seven
   have yf := hPd.free
   refine anyM_ready (rs := [13]) (by kernel_rfl) (by simp) ?_
   refine ReadyM.cons rfl (fun K hK => ?_) ReadyM.nil
   go_simp
   refine hK.out _ _ (fun h => absurd h (by simp)) ?_
   clear hK K y0 y1 y2 y3 y4 y5 y6 yf
   try go_frame
   have hPs := hPd.set 6 (.slice g8 BB.length c8)
   have hDs := hDd.setOther (a := ⟨w.heap.size, 6, none⟩) (by simp) (.slice g8 BB.length c8)
   have hQs := hQd.setOther (a := ⟨w.heap.size, 6, none⟩) (by simp <;> omega) (.slice g8 BB.length c8)
   have hBs := hBd.setCell (p := ⟨w.heap.size, 6, none⟩) (by simp) (.slice g8 BB.length c8)
   have hOs := hOd.cellB (b := w.heap.size) (by have := HZ2.out; omega) 6 (.slice g8 BB.length c8)
   have hszs := show W2.heap.size ≤ (V3.setCell ⟨w.heap.size, 6, none⟩ (.slice g8 BB.length c8)).heap.size by simp; omega
   obtain ⟨V4, hX5⟩ : ∃ V4, V3.setCell ⟨w.heap.size, 6, none⟩ (.slice g8 BB.length c8) = V4 := ⟨_, rfl⟩
   rw [hX5] at hPs hDs hQs hBs hOs hszs ⊢
   clear hPd hDd hQd hBd hOd hsz hX5
   refine anyM_done (by kernel_rfl) ?_ _
   obtain ⟨s3, b3, hs3, HP3, HO3⟩ : ∃ (s3 : Sto) (b3 : StA), s3 = { s2 with held := HH, bin := BB } ∧ Hid (Blk V4 w.heap.size #[.int .i64 s3.least, .int .i64 s3.wait, .slice b3.ta s3.tiers.length b3.tc, .slice b3.fa s3.files.length b3.fc, .slice b3.ca s3.copies.length b3.cc, .slice b3.ha s3.held.length b3.hc, .slice b3.ba s3.bin.length b3.bc] 28) ∧ Hid (StOwn V4 W2.heap.size s3 b3) := ⟨{ s2 with held := HH, bin := BB }, ⟨b2.ta, b2.tc, b2.fa, b2.fc, b2.ca, b2.cc, g6, c6, g8, c8⟩, rfl, Lib.hid hPs, Lib.hid hOs⟩
   have HS3 : Hid (s3 = if f.kind = 1 then St.hold s2 f.dig else s2) := Lib.hid (by rw [if_pos (by simpa using hke), hs3]; unfold St.hold; rw [HH2.out.1, HH2.out.2, HHH.out, HBBB.out])
   have HQ3 := Lib.hid hQs; have HB3 := Lib.hid hBs
   clear hs3 hPs hDs hQs hBs hOs hszs
   have HRE : Hid (t = s3) := Lib.hid (by rw [← HT.out]; exact St.imp_split s s1 s2 s3 f tier now HS1.out HS2.out HS3.out)
   have hlt := HZ2.out
   have HIZ := Lib.hid ((HO3.out.setRow (b := w.heap.size + 2) (by omega) #[.int .i64 s3.least, .int .i64 s3.wait, .slice b3.ta s3.tiers.length b3.tc, .slice b3.fa s3.files.length b3.fc, .slice b3.ca s3.copies.length b3.cc, .slice b3.ha s3.held.length b3.hc, .slice b3.ba s3.bin.length b3.bc]).in_ (HRE.out ▸ HZT.out))
   have HBZ := Lib.hid (below_setRow HB3.out (show w.heap.size ≤ w.heap.size + 2 by omega) #[.int .i64 s3.least, .int .i64 s3.wait, .slice b3.ta s3.tiers.length b3.tc, .slice b3.fa s3.files.length b3.fc, .slice b3.ca s3.copies.length b3.cc, .slice b3.ha s3.held.length b3.hc, .slice b3.ba s3.bin.length b3.bc])
   have hQ3 := HQ3.out
   obtain ⟨y0, y1, y2, y3, y4, y5, y6⟩ := HP3.out.seven
   go_wp2_with (refine wpList_store_row rfl 28 _ _ rfl (w.heap.size + 2) #[.int .i64 s3.least, .int .i64 s3.wait, .slice b3.ta s3.tiers.length b3.tc, .slice b3.fa s3.files.length b3.fc, .slice b3.ca s3.copies.length b3.cc, .slice b3.ha s3.held.length b3.hc, .slice b3.ba s3.bin.length b3.bc] rfl rfl 28 _ hQ3 infoSto rfl (by simp [Value.oneCell']) ?_)
   obtain ⟨g0, g1, g2, g3, g4, g5, g6⟩ := (Blk.setRowAt hQ3 #[.int .i64 s3.least, .int .i64 s3.wait, .slice b3.ta s3.tiers.length b3.tc, .slice b3.fa s3.files.length b3.fc, .slice b3.ca s3.copies.length b3.cc, .slice b3.ha s3.held.length b3.hc, .slice b3.ba s3.bin.length b3.bc]).seven
   refine bodyPost_ret (v := .tuple #[.agg #[.int .i64 s3.least, .int .i64 s3.wait, .slice b3.ta s3.tiers.length b3.tc, .slice b3.fa s3.files.length b3.fc, .slice b3.ca s3.copies.length b3.cc, .slice b3.ha s3.held.length b3.hc, .slice b3.ba s3.bin.length b3.bc], .int .i64 0]) (by simp [results, Tryz.results10, go_sem, g0, g1, g2, g3, g4, g5, g6]) rfl ?_
   rw [HRE.out]
   exact ⟨_, rfl, HIZ.out, HBZ.out⟩
 | false =>
   go_enter Tryz.func10, Tryz.ntmps10
   go_upto_region 1 with fail
   rw [HW0.out, HW1.out, HW2.out]
   go_upto_region 8 with (first
    | (go_at_call 32; (with_reducible refine (HCK.out _ hv).mono ?_); rintro e w6 ⟨rfl, hq⟩; have hv := below_up hv hq; obtain ⟨q0, q1, q2, q3, q4, q5, q6⟩ := (HP.out.keep hv).seven; obtain ⟨d0, d1, d2, d3⟩ := (HD.out.keep hv).four)
    | (go_at_call 50; (with_reducible refine (HCI.out _ hv).mono ?_); rintro e w7 ⟨rfl, hq⟩; have hv := below_up hv hq; obtain ⟨q0, q1, q2, q3, q4, q5, q6⟩ := (HP.out.keep hv).seven; obtain ⟨d0, d1, d2, d3⟩ := (HD.out.keep hv).four)
    | (go_at_call 51; (with_reducible refine (HCP.out _ hv).mono ?_); rintro e w8 ⟨b, rfl, hOwn, hB8⟩)
    | (refine wpList_store_row rfl 28 _ _ rfl w.heap.size #[.int .i64 s.least, .int .i64 s.wait, .slice b.ta s.tiers.length b.tc, .slice b.fa s.files.length b.fc, .slice b.ca s.copies.length b.cc, .slice b.ha s.held.length b.hc, .slice b.ba s.bin.length b.bc] rfl rfl 28 _ (HP.out.keep (below_up hv hB8)) infoSto rfl (by simp [Value.oneCell']) ?_))
   have hlt4 : w.heap.size + 2 < W2.heap.size := by have := HZ2.out; omega
   have hv8 := below_up hv hB8
   have hPd := Blk.setRowAt (HP.out.keep hv8) #[.int .i64 s.least, .int .i64 s.wait, .slice b.ta s.tiers.length b.tc, .slice b.fa s.files.length b.fc, .slice b.ca s.copies.length b.cc, .slice b.ha s.held.length b.hc, .slice b.ba s.bin.length b.bc]
   have hQd := (HQ.out.keep hv8).setRowOther (b' := w.heap.size) (by omega) #[.int .i64 s.least, .int .i64 s.wait, .slice b.ta s.tiers.length b.tc, .slice b.fa s.files.length b.fc, .slice b.ca s.copies.length b.cc, .slice b.ha s.held.length b.hc, .slice b.ba s.bin.length b.bc]
   have hDd := (HD.out.keep hv8).setRowOther (b' := w.heap.size) (by omega) #[.int .i64 s.least, .int .i64 s.wait, .slice b.ta s.tiers.length b.tc, .slice b.fa s.files.length b.fc, .slice b.ca s.copies.length b.cc, .slice b.ha s.held.length b.hc, .slice b.ba s.bin.length b.bc]
   have hBd := below_setRow (below_up HBB.out hv8) (Nat.le_refl w.heap.size) #[.int .i64 s.least, .int .i64 s.wait, .slice b.ta s.tiers.length b.tc, .slice b.fa s.files.length b.fc, .slice b.ca s.copies.length b.cc, .slice b.ha s.held.length b.hc, .slice b.ba s.bin.length b.bc]
   have hOd := (hOwn.down hv.size).setRow (b := w.heap.size) (by omega) #[.int .i64 s.least, .int .i64 s.wait, .slice b.ta s.tiers.length b.tc, .slice b.fa s.files.length b.fc, .slice b.ca s.copies.length b.cc, .slice b.ha s.held.length b.hc, .slice b.ba s.bin.length b.bc]
   have hsz : W2.heap.size ≤ (w8.setRow w.heap.size #[.int .i64 s.least, .int .i64 s.wait, .slice b.ta s.tiers.length b.tc, .slice b.fa s.files.length b.fc, .slice b.ca s.copies.length b.cc, .slice b.ha s.held.length b.hc, .slice b.ba s.bin.length b.bc]).heap.size := by have := hv8.size; simp; omega
   obtain ⟨V, hV⟩ : ∃ V, w8.setRow w.heap.size #[.int .i64 s.least, .int .i64 s.wait, .slice b.ta s.tiers.length b.tc, .slice b.fa s.files.length b.fc, .slice b.ca s.copies.length b.cc, .slice b.ha s.held.length b.hc, .slice b.ba s.bin.length b.bc] = V := ⟨_, rfl⟩
   rw [hV] at hPd hQd hDd hBd hOd hsz ⊢
   clear hV q0 q1 q2 q3 q4 q5 q6 d0 d1 d2 d3 hOwn hB8 hv8 hv hlt4
   have hPd := hPd.drew; have hDd := hDd.drew; have hQd := hQd.drew; have hBd := hBd.drew
   have hOd := hOd.keep (Below.refl _ _).drew
   have hsz : W2.heap.size ≤ V.drew.heap.size := hsz
   have hHeld := And.intro hPd.seven hDd.four
   refine wp_region_until (fun W => (W.cell? ⟨w.heap.size, 0, none⟩ = some (.int .i64 s.least) ∧ W.cell? ⟨w.heap.size, 1, none⟩ = some (.int .i64 s.wait) ∧ W.cell? ⟨w.heap.size, 2, none⟩ = some (.slice b.ta s.tiers.length b.tc) ∧ W.cell? ⟨w.heap.size, 3, none⟩ = some (.slice b.fa s.files.length b.fc) ∧ W.cell? ⟨w.heap.size, 4, none⟩ = some (.slice b.ca s.copies.length b.cc) ∧ W.cell? ⟨w.heap.size, 5, none⟩ = some (.slice b.ha s.held.length b.hc) ∧ W.cell? ⟨w.heap.size, 6, none⟩ = some (.slice b.ba s.bin.length b.bc)) ∧ W.cell? ⟨w.heap.size + 1, 0, none⟩ = some (.string f.dig) ∧ W.cell? ⟨w.heap.size + 1, 1, none⟩ = some (.int .i64 f.size) ∧ W.cell? ⟨w.heap.size + 1, 2, none⟩ = some (.int .i64 f.kind) ∧ W.cell? ⟨w.heap.size + 1, 3, none⟩ = some (.string f.frm)) 5 (by kernel_rfl) ?_
   refine anyM_take (i := 0) (v := ?_) rfl rfl (by kernel_rfl) (by decide) (by kernel_rfl) (by kernel_rfl) (by kernel_rfl) (fun _ _ _ h => h) (Or.inl ⟨by rfl, ?_⟩) (by rfl) (by assumption) ?_
   rotate_left
   ·(intro w hSw; (try dsimp only at hSw); (try obtain ⟨⟨hs1, hs2, hs3, hs4, hs5, hs6, hs7⟩, hs8, hs9, hs10, hs11⟩ := hSw); go_simp; try (with_reducible rfl))
   try go_frame
   refine anyM_take (i := 2) (v := ?_) rfl rfl (by kernel_rfl) (by decide) (by kernel_rfl) (by kernel_rfl) (by kernel_rfl) (fun _ _ _ h => h) (Or.inl ⟨by rfl, ?_⟩) (by rfl) (by assumption) ?_
   rotate_left
   ·(intro w hSw; (try dsimp only at hSw); (try obtain ⟨⟨hs1, hs2, hs3, hs4, hs5, hs6, hs7⟩, hs8, hs9, hs10, hs11⟩ := hSw); go_simp; try (with_reducible rfl))
   try go_frame
   refine anyM_ready (rs := [1]) (by kernel_rfl) (by simp) ?_
   refine ReadyM.cons rfl (fun K hK => ?_) ReadyM.nil
   go_simp
   refine (HFR.out b _).mono ?_
   rintro e x1 ⟨rfl, hq1⟩
   have hPd := hPd.keep hq1; have hDd := hDd.keep hq1; have hQd := hQd.keep hq1; have hOd := hOd.keep hq1
   have hBd := below_up hBd hq1
   have hsz := Nat.le_trans hsz hq1.size
   have hHeld := And.intro hPd.seven hDd.four
   refine hK.out _ _ (fun _ => hHeld) ?_
   clear hK K
   try go_frame
   refine anyM_ready (rs := [3]) (by kernel_rfl) (by simp) ?_
   refine ReadyM.cons rfl (fun K hK => ?_) ReadyM.nil
   go_simp
   refine (HWF.out b _ (hOd.in_ HSZ0.out)).mono ?_
   rintro e x2 ⟨g2, c2, rfl, o2, hq2⟩; have o2 := o2.down hsz
   have hPd := hPd.keep hq2; have hDd := hDd.keep hq2; have hQd := hQd.keep hq2; have hOd := hOd.keep hq2
   have hBd := below_up hBd hq2
   have hsz := Nat.le_trans hsz hq2.size
   have hHeld := And.intro hPd.seven hDd.four
   refine hK.out _ _ (fun _ => hHeld) ?_
   clear hK K
   try go_frame
   refine anyM_take0 (i := 4) (v := ?_) rfl (by decide) (by kernel_rfl) (by kernel_rfl) (by kernel_rfl) (fun _ _ _ h => h) (Or.inl ⟨by rfl, ?_⟩) (fun _ => by assumption) ?_
   rotate_left
   ·(intro w hSw; go_simp; try (with_reducible rfl))
   try go_frame
   clear hHeld
   have hOd := hOd.filNew o2
   clear o2
   obtain ⟨y0, y1, y2, y3, y4, y5, y6⟩ := hPd.seven
   have yf := hPd.free
   refine anyM_ready (rs := [5]) (by kernel_rfl) (by simp) ?_
   refine ReadyM.cons rfl (fun K hK => ?_) ReadyM.nil
   go_simp
   refine hK.out _ _ (fun h => absurd h (by simp)) ?_
   clear hK K y0 y1 y2 y3 y4 y5 y6 yf
   try go_frame
   have hPs := hPd.set 3 (.slice g2 FS.length c2)
   have hDs := hDd.setOther (a := ⟨w.heap.size, 3, none⟩) (by simp) (.slice g2 FS.length c2)
   have hQs := hQd.setOther (a := ⟨w.heap.size, 3, none⟩) (by simp <;> omega) (.slice g2 FS.length c2)
   have hBs := hBd.setCell (p := ⟨w.heap.size, 3, none⟩) (by simp) (.slice g2 FS.length c2)
   have hOs := hOd.cellB (b := w.heap.size) (by have := HZ2.out; omega) 3 (.slice g2 FS.length c2)
   have hszs := show W2.heap.size ≤ (x2.setCell ⟨w.heap.size, 3, none⟩ (.slice g2 FS.length c2)).heap.size by simp; omega
   obtain ⟨V1, hX5⟩ : ∃ V1, x2.setCell ⟨w.heap.size, 3, none⟩ (.slice g2 FS.length c2) = V1 := ⟨_, rfl⟩
   rw [hX5] at hPs hDs hQs hBs hOs hszs ⊢
   clear hPd hDd hQd hBd hOd hsz hX5
   refine anyM_done (by kernel_rfl) ?_ _
   obtain ⟨s1, b1, hs1, hP1, hO1⟩ : ∃ (s1 : Sto) (b1 : StA), s1 = { s with files := FS } ∧ Blk V1 w.heap.size #[.int .i64 s1.least, .int .i64 s1.wait, .slice b1.ta s1.tiers.length b1.tc, .slice b1.fa s1.files.length b1.fc, .slice b1.ca s1.copies.length b1.cc, .slice b1.ha s1.held.length b1.hc, .slice b1.ba s1.bin.length b1.bc] 28 ∧ StOwn V1 W2.heap.size s1 b1 := ⟨{ s with files := FS }, ⟨b.ta, b.tc, g2, c2, b.ca, b.cc, b.ha, b.hc, b.ba, b.bc⟩, rfl, hPs, hOs⟩
   have HS1 : Hid (s1 = { s with files := St.wth St.fdig f s.files }) := Lib.hid (by rw [hs1, HFS.out])
   have HC1 : Hid (s1.copies = s.copies) := Lib.hid (by rw [hs1])
   have HZ1 : Hid (StSz s1) := Lib.hid (by rw [hs1]; exact ⟨HSZ0.out.tz, HZF.out, HSZ0.out.cz, HSZ0.out.hz, HSZ0.out.bz⟩)
   have HH1 : Hid (s1.held = s.held ∧ s1.bin = s.bin) := Lib.hid (by rw [hs1]; exact ⟨rfl, rfl⟩)
   have HP1 := Lib.hid hP1; have HD1 := Lib.hid hDs; have HQ1 := Lib.hid hQs; have HB1 := Lib.hid hBs; have HO1 := Lib.hid hO1; have HV1 := Lib.hid hszs
   obtain ⟨q0, q1, q2, q3, q4, q5, q6⟩ := hP1.seven
   obtain ⟨d0, d1, d2, d3⟩ := hDs.four
   clear hs1 hPs hOs hP1 hDs hQs hBs hO1 hszs
   go_upto_region 10 with fail
   obtain ⟨w11, hW11, hC, hz11, hB11⟩ := box V1 #[.string f.dig, .string tier, .bool true, .int .i64 now] 74
   rw [hW11]
   have hv := hB11.drew
   have hC := hC.drew
   clear hW11 hz11 hB11 q0 q1 q2 q3 q4 q5 q6 d0 d1 d2 d3
   obtain ⟨q0, q1, q2, q3, q4, q5, q6⟩ := (HP1.out.keep hv).seven
   obtain ⟨d0, d1, d2, d3⟩ := (HD1.out.keep hv).four
   have HCR := Lib.hid (fun V => copiesRow_is s1 b1 V)
   have HPC := Lib.hid (fun U (hv : Below V1.heap.size V1 U) => HPLC.out b1.ca b1.cc U (by have h := ((HO1.out.keep hv).in_ HZ1.out).cl; rw [HC1.out] at h; exact h) (by have h := ((HO1.out.keep hv).in_ HZ1.out).co; rw [HC1.out] at h; exact h))
   rw [← HC1.out] at HPC
   go_region_held3 (fun W => (W.cell? ⟨w.heap.size, 0, none⟩ = some (.int .i64 s1.least) ∧ W.cell? ⟨w.heap.size, 1, none⟩ = some (.int .i64 s1.wait) ∧ W.cell? ⟨w.heap.size, 2, none⟩ = some (.slice b1.ta s1.tiers.length b1.tc) ∧ W.cell? ⟨w.heap.size, 3, none⟩ = some (.slice b1.fa s1.files.length b1.fc) ∧ W.cell? ⟨w.heap.size, 4, none⟩ = some (.slice b1.ca s1.copies.length b1.cc) ∧ W.cell? ⟨w.heap.size, 5, none⟩ = some (.slice b1.ha s1.held.length b1.hc) ∧ W.cell? ⟨w.heap.size, 6, none⟩ = some (.slice b1.ba s1.bin.length b1.bc)) ∧ W.cell? ⟨w.heap.size + 1, 0, none⟩ = some (.string f.dig) ∧ W.cell? ⟨w.heap.size + 1, 1, none⟩ = some (.int .i64 f.size) ∧ W.cell? ⟨w.heap.size + 1, 2, none⟩ = some (.int .i64 f.kind) ∧ W.cell? ⟨w.heap.size + 1, 3, none⟩ = some (.string f.frm))
    (first | (with_reducible exact ⟨⟨q0, q1, q2, q3, q4, q5, q6⟩, d0, d1, d2, d3⟩) | go_keep)
    (first
     | (go_at_call 54; (with_reducible refine (HCR.out _).mono ?_); rintro e wa ⟨rfl, hq⟩; have hv := below_up hv hq; have hC := hC.keep hq; obtain ⟨q0, q1, q2, q3, q4, q5, q6⟩ := (HP1.out.keep hv).seven; obtain ⟨d0, d1, d2, d3⟩ := (HD1.out.keep hv).four)
     | (go_at_call 56; (with_reducible refine (HKY.out _).mono ?_); rintro e wb ⟨rfl, rfl⟩)
     | (go_at_call 55; (with_reducible refine (HPC.out _ hv).mono ?_); rintro e wc ⟨rfl, hq⟩; have hv := below_up hv hq; have hC := hC.keep hq; obtain ⟨q0, q1, q2, q3, q4, q5, q6⟩ := (HP1.out.keep hv).seven; obtain ⟨d0, d1, d2, d3⟩ := (HD1.out.keep hv).four)
     | fail)
   rename_i hHeld
   clear hHeld
   have hca : ak = now := HPN.out (by first | rfl | trivial)
   rw [← hca] at hC
   clear hca
   go_upto_region 13 with fail
   obtain ⟨U, hU⟩ : ∃ U, wc = U := ⟨_, rfl⟩
   rw [hU] at hC hv ⊢
   clear hU q0 q1 q2 q3 q4 q5 q6 d0 d1 d2 d3
   have hPd := (HP1.out.keep hv).drew; have hDd := (HD1.out.keep hv).drew; have hQd := (HQ1.out.keep hv).drew; have hBd := (below_up HB1.out hv).drew
   have hOd := (HO1.out.keep hv).keep (Below.refl _ _).drew
   have hsz : W2.heap.size ≤ U.drew.heap.size := Nat.le_trans HV1.out hv.size
   have hCd := hC.drew
   have hHeld := And.intro hPd.seven hCd.four
   have HWC1 := Lib.hid (fun V (hI : StIn V s1 b1) => HWC.out b1.ca b1.cc V (by have h := hI.cl; rw [HC1.out] at h; exact h) (by have h := hI.co; rw [HC1.out] at h; exact h))
   rw [← HC1.out] at HWC1
   clear hC hv
   refine wp_region_until (fun W => (W.cell? ⟨w.heap.size, 0, none⟩ = some (.int .i64 s1.least) ∧ W.cell? ⟨w.heap.size, 1, none⟩ = some (.int .i64 s1.wait) ∧ W.cell? ⟨w.heap.size, 2, none⟩ = some (.slice b1.ta s1.tiers.length b1.tc) ∧ W.cell? ⟨w.heap.size, 3, none⟩ = some (.slice b1.fa s1.files.length b1.fc) ∧ W.cell? ⟨w.heap.size, 4, none⟩ = some (.slice b1.ca s1.copies.length b1.cc) ∧ W.cell? ⟨w.heap.size, 5, none⟩ = some (.slice b1.ha s1.held.length b1.hc) ∧ W.cell? ⟨w.heap.size, 6, none⟩ = some (.slice b1.ba s1.bin.length b1.bc)) ∧ W.cell? ⟨V1.heap.size, 0, none⟩ = some (.string f.dig) ∧ W.cell? ⟨V1.heap.size, 1, none⟩ = some (.string tier) ∧ W.cell? ⟨V1.heap.size, 2, none⟩ = some (.bool true) ∧ W.cell? ⟨V1.heap.size, 3, none⟩ = some (.int .i64 ak)) 5 (by kernel_rfl) ?_
   refine anyM_take (i := 0) (v := ?_) rfl rfl (by kernel_rfl) (by decide) (by kernel_rfl) (by kernel_rfl) (by kernel_rfl) (fun _ _ _ h => h) (Or.inl ⟨by rfl, ?_⟩) (by rfl) (by assumption) ?_
   rotate_left
   ·(intro w hSw; (try dsimp only at hSw); (try obtain ⟨⟨hs1, hs2, hs3, hs4, hs5, hs6, hs7⟩, hs8, hs9, hs10, hs11⟩ := hSw); go_simp; try (with_reducible rfl))
   try go_frame
   refine anyM_take (i := 2) (v := ?_) rfl rfl (by kernel_rfl) (by decide) (by kernel_rfl) (by kernel_rfl) (by kernel_rfl) (fun _ _ _ h => h) (Or.inl ⟨by rfl, ?_⟩) (by rfl) (by assumption) ?_
   rotate_left
   ·(intro w hSw; (try dsimp only at hSw); (try obtain ⟨⟨hs1, hs2, hs3, hs4, hs5, hs6, hs7⟩, hs8, hs9, hs10, hs11⟩ := hSw); go_simp; try (with_reducible rfl))
   try go_frame
   refine anyM_ready (rs := [1]) (by kernel_rfl) (by simp) ?_
   refine ReadyM.cons rfl (fun K hK => ?_) ReadyM.nil
   go_simp
   refine (HCR.out _).mono ?_
   rintro e x3 ⟨rfl, hq1⟩
   have hPd := hPd.keep hq1; have hDd := hDd.keep hq1; have hQd := hQd.keep hq1; have hOd := hOd.keep hq1
   have hBd := below_up hBd hq1
   have hsz := Nat.le_trans hsz hq1.size
   have hCd := hCd.keep hq1; have hHeld := And.intro hPd.seven hCd.four
   refine hK.out _ _ (fun _ => hHeld) ?_
   clear hK K
   try go_frame
   refine anyM_ready (rs := [3]) (by kernel_rfl) (by simp) ?_
   refine ReadyM.cons rfl (fun K hK => ?_) ReadyM.nil
   go_simp
   refine (HWC1.out _ (hOd.in_ HZ1.out)).mono ?_
   rintro e x4 ⟨g4, c4, rfl, o4, hq2⟩; have o4 := o4.down hsz
   have hPd := hPd.keep hq2; have hDd := hDd.keep hq2; have hQd := hQd.keep hq2; have hOd := hOd.keep hq2
   have hBd := below_up hBd hq2
   have hsz := Nat.le_trans hsz hq2.size
   have hCd := hCd.keep hq2; have hHeld := And.intro hPd.seven hCd.four
   refine hK.out _ _ (fun _ => hHeld) ?_
   clear hK K
   try go_frame
   refine anyM_take0 (i := 4) (v := ?_) rfl (by decide) (by kernel_rfl) (by kernel_rfl) (by kernel_rfl) (fun _ _ _ h => h) (Or.inl ⟨by rfl, ?_⟩) (fun _ => by assumption) ?_
   rotate_left
   ·(intro w hSw; go_simp; try (with_reducible rfl))
   try go_frame
   clear hHeld hCd
   have hOd := hOd.copNew o4
   clear o4
   obtain ⟨y0, y1, y2, y3, y4, y5, y6⟩ := hPd.seven
   have yf := hPd.free
   refine anyM_ready (rs := [5]) (by kernel_rfl) (by simp) ?_
   refine ReadyM.cons rfl (fun K hK => ?_) ReadyM.nil
   go_simp
   refine hK.out _ _ (fun h => absurd h (by simp)) ?_
   clear hK K y0 y1 y2 y3 y4 y5 y6 yf
   try go_frame
   have hPs := hPd.set 4 (.slice g4 CS.length c4)
   have hDs := hDd.setOther (a := ⟨w.heap.size, 4, none⟩) (by simp) (.slice g4 CS.length c4)
   have hQs := hQd.setOther (a := ⟨w.heap.size, 4, none⟩) (by simp <;> omega) (.slice g4 CS.length c4)
   have hBs := hBd.setCell (p := ⟨w.heap.size, 4, none⟩) (by simp) (.slice g4 CS.length c4)
   have hOs := hOd.cellB (b := w.heap.size) (by have := HZ2.out; omega) 4 (.slice g4 CS.length c4)
   have hszs := show W2.heap.size ≤ (x4.setCell ⟨w.heap.size, 4, none⟩ (.slice g4 CS.length c4)).heap.size by simp; omega
   obtain ⟨V2, hX5⟩ : ∃ V2, x4.setCell ⟨w.heap.size, 4, none⟩ (.slice g4 CS.length c4) = V2 := ⟨_, rfl⟩
   rw [hX5] at hPs hDs hQs hBs hOs hszs ⊢
   clear hPd hDd hQd hBd hOd hsz hX5
   refine anyM_done (by kernel_rfl) ?_ _
   obtain ⟨s2, b2, hs2, hP2, hO2⟩ : ∃ (s2 : Sto) (b2 : StA), s2 = { s1 with copies := CS } ∧ Blk V2 w.heap.size #[.int .i64 s2.least, .int .i64 s2.wait, .slice b2.ta s2.tiers.length b2.tc, .slice b2.fa s2.files.length b2.fc, .slice b2.ca s2.copies.length b2.cc, .slice b2.ha s2.held.length b2.hc, .slice b2.ba s2.bin.length b2.bc] 28 ∧ StOwn V2 W2.heap.size s2 b2 := ⟨{ s1 with copies := CS }, ⟨b1.ta, b1.tc, b1.fa, b1.fc, g4, c4, b1.ha, b1.hc, b1.ba, b1.bc⟩, rfl, hPs, hOs⟩
   have HS2 : Hid (s2 = { s1 with copies := St.wth St.ckey ⟨f.dig, tier, true, St.askedOf s f.dig tier now⟩ s.copies }) := Lib.hid (by rw [hs2, HAK.out, HCS.out])
   have HH2 : Hid (s2.held = s.held ∧ s2.bin = s.bin) := Lib.hid (by rw [hs2]; exact HH1.out)
   have HZ2' : Hid (StSz s2) := Lib.hid (by rw [hs2]; exact ⟨HZ1.out.tz, HZ1.out.fz, fun y hy => HZT.out.cz y (by rw [← HT.out]; show y ∈ St.wth St.ckey ⟨f.dig, tier, true, St.askedOf s f.dig tier now⟩ s.copies; rw [HAK.out, HCS.out]; exact hy), HZ1.out.hz, HZ1.out.bz⟩)
   have HP2 := Lib.hid hP2; have HD2 := Lib.hid hDs; have HQ2 := Lib.hid hQs; have HB2 := Lib.hid hBs; have HO2 := Lib.hid hO2; have HV2 := Lib.hid hszs
   obtain ⟨q0, q1, q2, q3, q4, q5, q6⟩ := hP2.seven
   obtain ⟨d0, d1, d2, d3⟩ := hDs.four
   clear hs2 hPs hOs hP2 hDs hQs hBs hO2 hszs
   go_upto_region 15 with fail
   have hPd := HP2.out.drew; have hDd := HD2.out.drew; have hQd := HQ2.out.drew; have hBd := HB2.out.drew
   have hOd := HO2.out.keep (Below.refl _ _).drew
   have hsz : W2.heap.size ≤ V2.drew.heap.size := HV2.out
   obtain ⟨HH, hHH⟩ : ∃ HH, St.wth id f.dig s.held = HH := ⟨_, rfl⟩
   obtain ⟨BB, hBB⟩ : ∃ BB, St.wo St.gdig f.dig s.bin = BB := ⟨_, rfl⟩
   have HHH := Lib.hid hHH; have HBBB := Lib.hid hBB
   rw [hHH] at HWS
   rw [hBB] at HWG
   have HWS1 := Lib.hid (fun V (hI : StIn V s2 b2) => HWS.out b2.ha b2.hc V (by have h := hI.hl; rw [HH2.out.1] at h; exact h) (by have h := hI.he; rw [HH2.out.1] at h; exact h))
   rw [← HH2.out.1] at HWS1
   have HWG1 := Lib.hid (fun V (hI : StIn V s2 b2) => HWG.out b2.ba b2.bc V (by have h := hI.bl; rw [HH2.out.2] at h; exact h) (by have h := hI.bi; rw [HH2.out.2] at h; exact h))
   rw [← HH2.out.2] at HWG1
   have HHD := Lib.hid (fun V => held_is s2 b2 V)
   have HBN := Lib.hid (fun V => binRow_is s2 b2 V)
   clear q0 q1 q2 q3 q4 q5 q6 d0 d1 d2 d3 hHH hBB
   have hHeld := And.intro hPd.seven hDd.four
   refine wp_region_until (fun W => (W.cell? ⟨w.heap.size, 0, none⟩ = some (.int .i64 s2.least) ∧ W.cell? ⟨w.heap.size, 1, none⟩ = some (.int .i64 s2.wait) ∧ W.cell? ⟨w.heap.size, 2, none⟩ = some (.slice b2.ta s2.tiers.length b2.tc) ∧ W.cell? ⟨w.heap.size, 3, none⟩ = some (.slice b2.fa s2.files.length b2.fc) ∧ W.cell? ⟨w.heap.size, 4, none⟩ = some (.slice b2.ca s2.copies.length b2.cc) ∧ W.cell? ⟨w.heap.size, 5, none⟩ = some (.slice b2.ha s2.held.length b2.hc) ∧ W.cell? ⟨w.heap.size, 6, none⟩ = some (.slice b2.ba s2.bin.length b2.bc)) ∧ W.cell? ⟨w.heap.size + 1, 0, none⟩ = some (.string f.dig) ∧ W.cell? ⟨w.heap.size + 1, 1, none⟩ = some (.int .i64 f.size) ∧ W.cell? ⟨w.heap.size + 1, 2, none⟩ = some (.int .i64 f.kind) ∧ W.cell? ⟨w.heap.size + 1, 3, none⟩ = some (.string f.frm)) 11 (by kernel_rfl) ?_
   refine anyM_take (i := 0) (v := ?_) rfl rfl (by kernel_rfl) (by decide) (by kernel_rfl) (by kernel_rfl) (by kernel_rfl) (fun _ _ _ h => h) (Or.inl ⟨by rfl, ?_⟩) (by rfl) (by assumption) ?_
   rotate_left
   ·(intro w hSw; (try dsimp only at hSw); (try obtain ⟨⟨hs1, hs2, hs3, hs4, hs5, hs6, hs7⟩, hs8, hs9, hs10, hs11⟩ := hSw); go_simp; try (with_reducible rfl))
   try go_frame
   refine anyM_take0 (i := 2) (v := ?_) rfl (by decide) (by kernel_rfl) (by kernel_rfl) (by kernel_rfl) (fun _ _ _ h => h) (Or.inl ⟨by rfl, ?_⟩) (fun _ => by assumption) ?_
   rotate_left
   ·(intro w hSw; go_simp; try (with_reducible rfl))
   try go_frame
   refine anyM_take (i := 3) (v := ?_) rfl rfl (by kernel_rfl) (by decide) (by kernel_rfl) (by kernel_rfl) (by kernel_rfl) (fun _ _ _ h => h) (Or.inl ⟨by rfl, ?_⟩) (by rfl) (by assumption) ?_
   rotate_left
   ·(intro w hSw; (try dsimp only at hSw); (try obtain ⟨⟨hs1, hs2, hs3, hs4, hs5, hs6, hs7⟩, hs8, hs9, hs10, hs11⟩ := hSw); go_simp; try (with_reducible rfl))
   try go_frame
   refine anyM_take (i := 5) (v := ?_) rfl rfl (by kernel_rfl) (by decide) (by kernel_rfl) (by kernel_rfl) (by kernel_rfl) (fun _ _ _ h => h) (Or.inl ⟨by rfl, ?_⟩) (by rfl) (by assumption) ?_
   rotate_left
   ·(intro w hSw; (try dsimp only at hSw); (try obtain ⟨⟨hs1, hs2, hs3, hs4, hs5, hs6, hs7⟩, hs8, hs9, hs10, hs11⟩ := hSw); go_simp; try (with_reducible rfl))
   try go_frame
   refine anyM_take0 (i := 7) (v := ?_) rfl (by decide) (by kernel_rfl) (by kernel_rfl) (by kernel_rfl) (fun _ _ _ h => h) (Or.inl ⟨by rfl, ?_⟩) (fun _ => by assumption) ?_
   rotate_left
   ·(intro w hSw; go_simp; try (with_reducible rfl))
   try go_frame
   refine anyM_takeVia (i := 8) (k := 9) (v := ?_) rfl rfl rfl (by kernel_rfl) (by kernel_rfl) (by decide) (by decide) (by decide) (by kernel_rfl) (by kernel_rfl) (by kernel_rfl) (fun _ _ _ h => h) (Or.inl ⟨by rfl, ?_⟩) (by rfl) (by rfl) (by assumption) ?_
   rotate_left
   ·(intro w hSw; (try dsimp only at hSw); (try obtain ⟨⟨hs1, hs2, hs3, hs4, hs5, hs6, hs7⟩, hs8, hs9, hs10, hs11⟩ := hSw); go_simp; try (with_reducible rfl))
   try go_frame
   refine anyM_ready (rs := [1]) (by kernel_rfl) (by simp) ?_
   refine ReadyM.cons rfl (fun K hK => ?_) ReadyM.nil
   go_simp
   refine (HHD.out _).mono ?_
   rintro e x5 ⟨rfl, hq1⟩
   have hPd := hPd.keep hq1; have hDd := hDd.keep hq1; have hQd := hQd.keep hq1; have hOd := hOd.keep hq1
   have hBd := below_up hBd hq1
   have hsz := Nat.le_trans hsz hq1.size
   have hHeld := And.intro hPd.seven hDd.four
   refine hK.out _ _ (fun _ => hHeld) ?_
   clear hK K
   try go_frame
   refine anyM_ready (rs := [4]) (by kernel_rfl) (by simp) ?_
   refine ReadyM.cons rfl (fun K hK => ?_) ReadyM.nil
   go_simp
   refine (HWS1.out _ (hOd.in_ HZ2'.out)).mono ?_
   rintro e x6 ⟨g6, c6, rfl, o6, hq2⟩; have o6 := o6.down hsz
   have hPd := hPd.keep hq2; have hDd := hDd.keep hq2; have hQd := hQd.keep hq2; have hOd := hOd.keep hq2
   have hBd := below_up hBd hq2
   have hsz := Nat.le_trans hsz hq2.size
   have hHeld := And.intro hPd.seven hDd.four
   refine hK.out _ _ (fun _ => hHeld) ?_
   clear hK K
   try go_frame
   refine anyM_take0 (i := 10) (v := ?_) rfl (by decide) (by kernel_rfl) (by kernel_rfl) (by kernel_rfl) (fun _ _ _ h => h) (Or.inl ⟨by rfl, ?_⟩) (fun _ => by assumption) ?_
   rotate_left
   ·(intro w hSw; go_simp; try (with_reducible rfl))
   try go_frame
   refine anyM_ready (rs := [6]) (by kernel_rfl) (by simp) ?_
   refine ReadyM.cons rfl (fun K hK => ?_) ReadyM.nil
   go_simp
   refine (HBN.out _).mono ?_
   rintro e x7 ⟨rfl, hq3⟩
   have hPd := hPd.keep hq3; have hDd := hDd.keep hq3; have hQd := hQd.keep hq3; have hOd := hOd.keep hq3
   have hBd := below_up hBd hq3
   have hsz := Nat.le_trans hsz hq3.size
   have hHeld := And.intro hPd.seven hDd.four
   refine hK.out _ _ (fun _ => hHeld) ?_
   clear hK K
   try go_frame
   have o6 := o6.keep hq3
   refine anyM_ready (rs := [9]) (by kernel_rfl) (by simp) ?_
   refine ReadyM.cons rfl (fun K hK => ?_) ReadyM.nil
   go_simp
   refine (HWG1.out _ (hOd.in_ HZ2'.out)).mono ?_
   rintro e x8 ⟨g8, c8, rfl, o8, hq4⟩; have o8 := o8.down hsz
   have hPd := hPd.keep hq4; have hDd := hDd.keep hq4; have hQd := hQd.keep hq4; have hOd := hOd.keep hq4
   have hBd := below_up hBd hq4
   have hsz := Nat.le_trans hsz hq4.size
   have hHeld := And.intro hPd.seven hDd.four
   refine hK.out _ _ (fun _ => hHeld) ?_
   clear hK K
   try go_frame
   have o6 := o6.keep hq4
   clear hHeld
   have hOd := hOd.bothNew o6 o8
   clear o6 o8
   obtain ⟨y0, y1, y2, y3, y4, y5, y6⟩ := hPd.seven
   have yf := hPd.free
   refine anyM_ready (rs := [11]) (by kernel_rfl) (by simp) ?_
   refine ReadyM.cons rfl (fun K hK => ?_) ReadyM.nil
   go_simp
   refine hK.out _ _ (fun h => absurd h (by simp)) ?_
   clear hK K y0 y1 y2 y3 y4 y5 y6 yf
   try go_frame
   have hPs := hPd.set 5 (.slice g6 HH.length c6)
   have hDs := hDd.setOther (a := ⟨w.heap.size, 5, none⟩) (by simp) (.slice g6 HH.length c6)
   have hQs := hQd.setOther (a := ⟨w.heap.size, 5, none⟩) (by simp <;> omega) (.slice g6 HH.length c6)
   have hBs := hBd.setCell (p := ⟨w.heap.size, 5, none⟩) (by simp) (.slice g6 HH.length c6)
   have hOs := hOd.cellB (b := w.heap.size) (by have := HZ2.out; omega) 5 (.slice g6 HH.length c6)
   have hszs := show W2.heap.size ≤ (x8.setCell ⟨w.heap.size, 5, none⟩ (.slice g6 HH.length c6)).heap.size by simp; omega
   obtain ⟨V3, hX5⟩ : ∃ V3, x8.setCell ⟨w.heap.size, 5, none⟩ (.slice g6 HH.length c6) = V3 := ⟨_, rfl⟩
   rw [hX5] at hPs hDs hQs hBs hOs hszs ⊢
   clear hPd hDd hQd hBd hOd hsz hX5
   have hPd := hPs; have hDd := hDs; have hQd := hQs; have hBd := hBs; have hOd := hOs; have hsz := hszs
   clear hPs hDs hQs hBs hOs hszs
   refine anyM_ready (rs := [12]) (by kernel_rfl) (by simp) ?_
   refine ReadyM.cons rfl (fun K hK => ?_) ReadyM.nil
   go_simp
   refine hK.out _ _ (fun h => absurd h (by simp)) ?_
   clear hK K
   try go_frame
   obtain ⟨y0, y1, y2, y3, y4, y5, y6⟩ := hPd.seven
   have yf := hPd.free
   refine anyM_ready (rs := [13]) (by kernel_rfl) (by simp) ?_
   refine ReadyM.cons rfl (fun K hK => ?_) ReadyM.nil
   go_simp
   refine hK.out _ _ (fun h => absurd h (by simp)) ?_
   clear hK K y0 y1 y2 y3 y4 y5 y6 yf
   try go_frame
   have hPs := hPd.set 6 (.slice g8 BB.length c8)
   have hDs := hDd.setOther (a := ⟨w.heap.size, 6, none⟩) (by simp) (.slice g8 BB.length c8)
   have hQs := hQd.setOther (a := ⟨w.heap.size, 6, none⟩) (by simp <;> omega) (.slice g8 BB.length c8)
   have hBs := hBd.setCell (p := ⟨w.heap.size, 6, none⟩) (by simp) (.slice g8 BB.length c8)
   have hOs := hOd.cellB (b := w.heap.size) (by have := HZ2.out; omega) 6 (.slice g8 BB.length c8)
   have hszs := show W2.heap.size ≤ (V3.setCell ⟨w.heap.size, 6, none⟩ (.slice g8 BB.length c8)).heap.size by simp; omega
   obtain ⟨V4, hX5⟩ : ∃ V4, V3.setCell ⟨w.heap.size, 6, none⟩ (.slice g8 BB.length c8) = V4 := ⟨_, rfl⟩
   rw [hX5] at hPs hDs hQs hBs hOs hszs ⊢
   clear hPd hDd hQd hBd hOd hsz hX5
   refine anyM_done (by kernel_rfl) ?_ _
   obtain ⟨s3, b3, hs3, HP3, HO3⟩ : ∃ (s3 : Sto) (b3 : StA), s3 = { s2 with held := HH, bin := BB } ∧ Hid (Blk V4 w.heap.size #[.int .i64 s3.least, .int .i64 s3.wait, .slice b3.ta s3.tiers.length b3.tc, .slice b3.fa s3.files.length b3.fc, .slice b3.ca s3.copies.length b3.cc, .slice b3.ha s3.held.length b3.hc, .slice b3.ba s3.bin.length b3.bc] 28) ∧ Hid (StOwn V4 W2.heap.size s3 b3) := ⟨{ s2 with held := HH, bin := BB }, ⟨b2.ta, b2.tc, b2.fa, b2.fc, b2.ca, b2.cc, g6, c6, g8, c8⟩, rfl, Lib.hid hPs, Lib.hid hOs⟩
   have HS3 : Hid (s3 = if f.kind = 1 then St.hold s2 f.dig else s2) := Lib.hid (by rw [if_pos (by simpa using hke), hs3]; unfold St.hold; rw [HH2.out.1, HH2.out.2, HHH.out, HBBB.out])
   have HQ3 := Lib.hid hQs; have HB3 := Lib.hid hBs
   clear hs3 hPs hDs hQs hBs hOs hszs
   have HRE : Hid (t = s3) := Lib.hid (by rw [← HT.out]; exact St.imp_split s s1 s2 s3 f tier now HS1.out HS2.out HS3.out)
   have hlt := HZ2.out
   have HIZ := Lib.hid ((HO3.out.setRow (b := w.heap.size + 2) (by omega) #[.int .i64 s3.least, .int .i64 s3.wait, .slice b3.ta s3.tiers.length b3.tc, .slice b3.fa s3.files.length b3.fc, .slice b3.ca s3.copies.length b3.cc, .slice b3.ha s3.held.length b3.hc, .slice b3.ba s3.bin.length b3.bc]).in_ (HRE.out ▸ HZT.out))
   have HBZ := Lib.hid (below_setRow HB3.out (show w.heap.size ≤ w.heap.size + 2 by omega) #[.int .i64 s3.least, .int .i64 s3.wait, .slice b3.ta s3.tiers.length b3.tc, .slice b3.fa s3.files.length b3.fc, .slice b3.ca s3.copies.length b3.cc, .slice b3.ha s3.held.length b3.hc, .slice b3.ba s3.bin.length b3.bc])
   have hQ3 := HQ3.out
   obtain ⟨y0, y1, y2, y3, y4, y5, y6⟩ := HP3.out.seven
   go_wp2_with (refine wpList_store_row rfl 28 _ _ rfl (w.heap.size + 2) #[.int .i64 s3.least, .int .i64 s3.wait, .slice b3.ta s3.tiers.length b3.tc, .slice b3.fa s3.files.length b3.fc, .slice b3.ca s3.copies.length b3.cc, .slice b3.ha s3.held.length b3.hc, .slice b3.ba s3.bin.length b3.bc] rfl rfl 28 _ hQ3 infoSto rfl (by simp [Value.oneCell']) ?_)
   obtain ⟨g0, g1, g2, g3, g4, g5, g6⟩ := (Blk.setRowAt hQ3 #[.int .i64 s3.least, .int .i64 s3.wait, .slice b3.ta s3.tiers.length b3.tc, .slice b3.fa s3.files.length b3.fc, .slice b3.ca s3.copies.length b3.cc, .slice b3.ha s3.held.length b3.hc, .slice b3.ba s3.bin.length b3.bc]).seven
   refine bodyPost_ret (v := .tuple #[.agg #[.int .i64 s3.least, .int .i64 s3.wait, .slice b3.ta s3.tiers.length b3.tc, .slice b3.fa s3.files.length b3.fc, .slice b3.ca s3.copies.length b3.cc, .slice b3.ha s3.held.length b3.hc, .slice b3.ba s3.bin.length b3.bc], .int .i64 0]) (by simp [results, Tryz.results10, go_sem, g0, g1, g2, g3, g4, g5, g6]) rfl ?_
   rw [HRE.out]
   exact ⟨_, rfl, HIZ.out, HBZ.out⟩
end Go.Proofs.YthdiccdnggloiaaGreatDoor
