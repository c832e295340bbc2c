/- Parts of the proof, no condition: StTnl. -/
import Derived.Test.YthdiccdnggloiaaGreatDoorPl28
import Derived.Test.YthdiccdnggloiaaGreatDoorPl26
import Derived.Test.YthdiccdnggloiaaGreatDoorPl10
set_option maxRecDepth 100000
set_option maxHeartbeats 16000000
set_option linter.unusedSimpArgs false
set_option linter.unusedVariables false
namespace Go.Proofs.YthdiccdnggloiaaGreatDoor
open Go.RowKit Go.Sort Go.Shelf Go.Maps
def PlanPost (w : World) (s : Sto) (e : Ending) (w' : World) : Prop :=
 ∃ g1 n1 c1 g2 n2 c2, (St.plan s).2.1.length = n1 ∧ (St.plan s).2.2.length = n2 ∧ e = .returned (.tuple #[.slice g1 n1 c1, .slice g2 n2 c2, .int .i64 0]) ∧ RowE St.eM w' g1 (St.plan s).2.1 ∧ (n1 ≤ c1 ∧ c1 ≤ 9223372036854775807) ∧ RowE St.eS w' g2 (St.plan s).2.2 ∧ (n2 ≤ c2 ∧ c2 ≤ 9223372036854775807) ∧ Below w.heap.size w w'
theorem Turned.rowO {w w' : World} {pb B k n B2 k2 m : Nat} {v v' u : Value} {xs ys : List Value} {e : TypeId} {c : Array Value} (h : Turned w w' pb v v') (ho : w.ownsRow B 52 k v n xs) (hP : Blk w pb c 161) (hr : w.ownsRow B2 e k2 u m ys) (ht : 52 ≠ e) (ht2 : e ≠ 161) : w'.ownsRow B2 e k2 u m ys := by
 refine ⟨hr.1, ?_⟩
 rcases hr.2 with hn | ⟨g0, cap, cur, hv, h1, hc, h2⟩
 ·exact .inl hn
 ·refine .inr ⟨g0, cap, cur, hv, h1, ?_, h2⟩
  have hB : Blk w g0 cur e := hc
  have hP2 : w.heap[pb]? = some (.cells c 161 (0, 0)) := hP
  refine (h.far.block g0 (Array.getElem?_eq_some_iff.1 hc).1 ?_ (own_ne ho hB ht)).trans hc
  rintro rfl
  rw [hc] at hP2
  cases hP2
  exact ht2 rfl
theorem OwnV.apart {w w' : World} {B k n : Nat} {e : TypeId} {v : Value} {xs : List Value} {q : Option Nat} (h : OwnV w B e k v n xs) (hg : w.grownBy w' q) (hne : ∀ g, v.ownBlock = some g → some g ≠ q) : OwnV w' B e k v n xs := by
 rcases h with h | ⟨g, cap, rfl, hc⟩
 ·exact .inl h
 ·exact .inr ⟨g, cap, rfl, hc.of_block (hg.block g hc.lt.2 (hne g rfl))⟩
theorem PlnIn.grow {w w' : World} {pb B mb B2 m : Nat} {t : Sto} {ms : List Mov} {b : StA} {v u : Value} {ys : List Value} (h : PlnIn w pb B mb t ms b v) (ho : w.ownsRow B2 9 1 u m ys) (hB : pb < B2) (hg : w.grownBy w' u.ownBlock) : PlnIn w' pb B mb t ms b v := by
 have hlt : ∀ g, u.ownBlock = some g → B2 ≤ g := fun g hg => (ho.lt g hg).1
 have hf : ∀ {B k n : Nat} {e : TypeId} {v : Value} {xs : List Value}, OwnV w B e k v n xs → e ≠ 9 → OwnV w' B e k v n xs := fun h1 hne => h1.farOwn ho hne hg
 refine ⟨h.blk.farOwn ho (by decide) hg, ⟨hf h.own.ti (by decide), hf h.own.fi (by decide), hf h.own.co (by decide), ?_, hf h.own.bi (by decide)⟩, ?_, ?_, h.hab⟩
 ·refine h.own.he.apart hg fun g hgv e => ?_
  have h1 := h.hab g hgv
  have h2 := hlt g e.symm
  omega
 ·refine h.row.kept hg ?_
  cases hv : v.ownBlock with
  | none => exact .inl rfl
  | some g =>
    right
    intro e
    obtain ⟨c, hc⟩ := own_block h.row hv
    exact own_ne ho hc (by decide) e.symm
 ·obtain ⟨es, ck, he⟩ := h.map.at_
  refine h.map.of_block (hg.block mb h.map.lt ?_)
  intro e
  exact (h.map.neOwn ho) e.symm
theorem Turned.grow {w w' w'' : World} {pb m B2 k : Nat} {v v' u : Value} {e : TypeId} {ys : List Value} (h : Turned w w' pb v v') (ho : w'.ownsRow B2 e k u m ys) (hB : w.heap.size ≤ B2) (hg : w'.grownBy w'' u.ownBlock) : Turned w w'' pb v v' := by
 refine ⟨⟨hg.os.trans h.far.os, hg.tape.trans h.far.tape, hg.output.trans h.far.output, Nat.le_trans h.far.size hg.size, fun q hq hne hv => ?_⟩, h.new⟩
 rw [hg.block q (Nat.lt_of_lt_of_le hq h.far.size) (fun e => by have := (ho.lt q e.symm).1; omega)]
 exact h.far.block q hq hne hv
theorem planS_right (s : Sto) (a : StA) (w : World) (hI : StIn w s a) (r : St.Right s) :
  Calls Tryz.prog 44 #[.agg #[.int .i64 s.least, .int .i64 s.wait, .slice a.ta s.tiers.length a.tc, .slice a.fa s.files.length a.fc, .slice a.ca s.copies.length a.cc, .slice a.ha s.held.length a.hc, .slice a.ba s.bin.length a.bc]] w (PlanPost w s) := by
 obtain ⟨W1, hW1, hP, hz1, hB1⟩ := box w #[.int .i64 s.least, .int .i64 s.wait, .slice a.ta s.tiers.length a.tc, .slice a.fa s.files.length a.fc, .slice a.ca s.copies.length a.cc, .slice a.ha s.held.length a.hc, .slice a.ba s.bin.length a.bc] 28
 have HW1 := Lib.hid hW1
 have HI1 := Lib.hid (hI.keep hB1)
 obtain ⟨q0, q1, q2, q3, q4, q5, q6⟩ := hP.sv7
 have HP := Lib.hid hP; have HB1 := Lib.hid hB1
 clear hW1 hP
 obtain ⟨_, y1, y2, y3, y4, y5⟩ := St.sizes_iff.1 r.sizes
 have HCK := Lib.hid (check_is s a W1 HI1.out)
 rw [St.err_iff.2 r] at HCK
 have HLK := Lib.hid (fun V (hv : Below W1.heap.size W1 V) => look_is s a V (HI1.out.keep hv) (by omega))
 have HCL := Lib.hid (fun W (hb : Below W1.heap.size W1 W) => (HP.out.keep hb).sv7)
 clear HLK
 have HCP := Lib.hid (fun V (hv : Below W1.heap.size W1 V) => copyStore_is s a V (HI1.out.keep hv) ⟨y1, y2, y3, y4, y5⟩)
 unfold CpyPost at HCP
 have HLK := Lib.hid (fun V (b : StA) (hb : StIn V s b) => look_is s b V hb (by omega))
 have HR := Lib.hid r
 have HSZ := Lib.hid (StSz.right r)
 have HZ1 := Lib.hid hz1
 clear hI r hz1 y1 y2 y3 y4 y5
 go_enter Tryz.func44, Tryz.ntmps44
 go_upto_region 1 with fail
 rw [HW1.out]
 go_upto_region 5 with (first
  | (go_at_call 32; (with_reducible refine HCK.out.mono ?_); rintro e w3 ⟨rfl, hv⟩; obtain ⟨q0, q1, q2, q3, q4, q5, q6⟩ := HCL.out _ hv)
  | (go_at_call 51; (with_reducible refine (HCP.out _ hv).mono ?_); rintro e w4 ⟨b, rfl, hOwn, hB4⟩)
  | (go_at_call 93; (with_reducible refine (HLK.out _ b (hOwn.in_ HSZ.out)).mono ?_); rintro e w5 ⟨mb, rfl, hmb, hM, hB5⟩))
 have hO5 := (hOwn.keep hB5).down hv.size
 have hv5 := below_up (below_up hv hB4) hB5
 obtain ⟨W6, hW6, hX6, hz6, hB6⟩ := box w5 #[.int .i64 s.least, .int .i64 s.wait, .slice b.ta s.tiers.length b.tc, .slice b.fa s.files.length b.fc, .slice b.ca s.copies.length b.cc, .slice b.ha s.held.length b.hc, .slice b.ba s.bin.length b.bc, .map (some mb), .slice none 0 0] 161
 rw [hW6]
 have hs4 := hB4.size; have hs5 := hB5.size; have hsv := hv.size
 have HPS : Hid (PlnIn W6 w5.heap.size W1.heap.size mb s [] b (.slice none 0 0)) := Lib.hid ⟨hX6, hO5.keep hB6, World.ownsRow_nil _ _ _ _, hM.keep hB6, fun g hg => by have := (hOwn.he.lt g hg).2; omega⟩
 have HB6 := Lib.hid (below_up HB1.out (below_up hv5 hB6))
 obtain ⟨pb, hpb⟩ : ∃ pb, w5.heap.size = pb := ⟨_, rfl⟩
 rw [hpb] at HPS
 have HSP : Hid (W1.heap.size ≤ pb ∧ pb < W6.heap.size ∧ w.heap.size + 1 = W1.heap.size) := Lib.hid (by have := HZ1.out; omega)
 obtain ⟨Bs, hBs⟩ : ∃ Bs, W1.heap.size = Bs := ⟨_, rfl⟩
 rw [hBs] at HPS HSP
 rw [hpb]
 clear hOwn hB4 hB5 hO5 hv5 hv hM hmb hW6 hX6 hz6 hB6 hs4 hs5 hsv hpb hBs q0 q1 q2 q3 q4 q5 q6 HCP HLK HCK HCL HP HI1
 obtain ⟨_, y1, y2, y3, y4, y5⟩ := St.sizes_iff.1 HR.out.sizes
 have hI6 := HPS.out.own.in_ HSZ.out
 have HGA := Lib.hid (garbage_is s b mb W6 hI6 HPS.out.map HR.out)
 unfold CopPost at HGA
 have hgl0 : (St.garbageL s).length ≤ s.copies.length := List.length_filter_le _ _
 have HGM : Hid (St.garbM s = (St.garbageL s).map St.dropC) := Lib.hid rfl
 have HGR := Lib.hid (fun l k (e : St.garbM s = l ++ k) => St.right_drops (l := l) HR.out (fun m hm => by
  have hm2 : m ∈ St.garbM s := by rw [e]; exact List.mem_append_left _ hm
  obtain ⟨c, _, rfl⟩ := List.mem_map.1 hm2; rfl))
 have HGZ := Lib.hid (fun c (hc : c ∈ St.garbageL s) => And.intro (St.cop_dig HR.out (List.mem_filter.1 hc).1) (St.cop_good HR.out (List.mem_filter.1 hc).1))
 have HPL := Lib.hid (St.PlL.start HR.out)
 have HNE := Lib.hid (St.needed_same (s := s) (t := St.mvs s (St.garbM s)) (St.mvs_same _ s).2.1 (St.mvs_same _ s).2.2.1 (St.mvs_same _ s).2.2.2.1)
 generalize St.garbM s = M at *
 generalize St.garbageL s = GL at *
 obtain ⟨ng, hng⟩ : ∃ ng, GL.length = ng := ⟨_, rfl⟩
 have HNG := Lib.hid hng
 rw [hng] at HGA hgl0
 have hng4 : ng ≤ 4000 := by omega
 obtain ⟨n0, n1, n2, n3, n4, n5, n6, n7⟩ := HPS.out.blk.nine.1
 clear hI6 hng hgl0 y1 y2 y3 y4 y5
 go_wp2_with (go_at_call 105; (with_reducible refine HGA.out.mono ?_); rintro e w7 ⟨g7, cap7, rfl, ho7, hq7⟩)
 have HRG := Lib.hid ho7
 have HT7 : Hid (Turned W6 w7 pb (.slice none 0 0) (.slice none 0 0)) := Lib.hid (Turned.below hq7 pb _)
 have HP7 := Lib.hid (HPS.out.keep hq7)
 have HS7 : Hid (pb < w7.heap.size ∧ Bs ≤ w7.heap.size) := Lib.hid (by have := hq7.size; have := HSP.out; omega)
 obtain ⟨hcc1, hcc2⟩ := ho7.caps
 clear n0 n1 n2 n3 n4 n5 n6 n7 ho7 hq7 HGA HPS
 go_loopg [29] ng (fun gk i wr => ∃ (j : Nat) (b' : StA) (v' : Value), j ≤ ng ∧ gk = ng - j ∧ i = .int .i64 j ∧ PlnIn wr pb Bs mb (St.mvs s (M.take j)) (M.take j) b' v' ∧ Turned w7 wr pb (.slice none 0 0) v')
 case atStart => exact ⟨0, b, .slice none 0 0, by omega, rfl, rfl, by simpa [St.mvs] using HP7.out, Turned.refl _ _ _⟩
 case round =>
  obtain ⟨j, b', v', hj, rfl, rfl, hp, ht⟩ := hrel
  have HPJ := Lib.hid hp; have HTJ := Lib.hid ht
  by_cases hlt : j < ng
  ·obtain ⟨x, hx⟩ : ∃ x, GL[j]? = some x := ⟨_, List.getElem?_eq_getElem (by rw [HNG.out]; exact hlt)⟩
   have hrw := Turned.row2 ht HRG.out (fun g hg => by cases hg) (by have := HSP.out; omega)
   obtain ⟨b, off, ha, hb, hcell⟩ := (RowE.ofV (E := St.eC) (ca := cap7) (L := GL) (by rw [HNG.out]; exact hrw)) (by rw [HNG.out]; omega)
   have c0 : wr.cell? ⟨b, off + j * 4, none⟩ = some (.string x.dig) := hcell j x hx 0 (.string x.dig) rfl
   have c1 : wr.cell? ⟨b, off + j * 4 + 1, none⟩ = some (.string x.tier) := hcell j x hx 1 (.string x.tier) rfl
   have c2 : wr.cell? ⟨b, off + j * 4 + 2, none⟩ = some (.bool x.good) := hcell j x hx 2 (.bool x.good) rfl
   have c3 : wr.cell? ⟨b, off + j * 4 + 3, none⟩ = some (.int .i64 x.asked) := hcell j x hx 3 (.int .i64 x.asked) rfl
   clear hcell
   have hmem := List.mem_of_getElem? hx
   obtain ⟨m, hm⟩ : ∃ m : Mov, m = ⟨2, x.dig, x.tier, ⟨#[]⟩⟩ := ⟨_, rfl⟩
   have htk : M.take (j + 1) = M.take j ++ [m] := by
    have : M[j]? = some m := by rw [HGM.out, List.getElem?_map, hx, hm]; rfl
    rw [List.take_add_one, this]; rfl
   have HTK := Lib.hid htk
   obtain ⟨W3, hW3, hX3, hz3, hB3⟩ := box wr #[.string x.dig, .string x.tier, .bool x.good, .int .i64 x.asked] 74
   have HW3 := Lib.hid hW3; have HB3 := Lib.hid hB3
   obtain ⟨e0, e1, e2, e3⟩ := hX3.four
   have hbl : Bs ≤ W3.heap.size := by have := hB3.size; have := ht.le; have := HS7.out; omega
   obtain ⟨g1, g2⟩ := HGZ.out x hmem
   have HDD := Lib.hid (did_is (St.mvs s (M.take j)) b' mb pb Bs m (M.take j) v' W3 (hp.keep hB3) (by rw [List.length_take]; omega) hbl (HGR.out (M.take j) (M.drop j) (List.take_append_drop j M).symm) (by rw [hm]; exact ⟨by show x.dig.size ≤ _; omega, by show x.tier.size ≤ _; have := g2.2.1; omega, by show (⟨#[]⟩ : ByteArray).size ≤ _; decide⟩) (.inl (by rw [hm])))
   unfold DidOk at HDD
   have HMV := Lib.hid hm
   rw [hm] at HDD
   dsimp only at HDD
   have hj0 : (0 : Int) ≤ (j : Int) := by omega
   have hj1 : (j : Int) < (ng : Int) := by omega
   clear hp ht hrw hmem hm htk hW3 hX3 hz3 hB3 hx hbl g1 g2
   rw [ha]
   go_upto_region 8 with fail
   rw [HW3.out]
   go_wp2_with (go_at_call 121; (with_reducible refine HDD.out.mono ?_); rintro e w5 ⟨rfl, b2, v2, hp2, ht2⟩)
   rw [← ha]
   go_roundg (ng - (j + 1))
   case rel => exact ⟨j + 1, b2, v2, by omega, rfl, by go_num, by rw [HTK.out, St.mvs_snoc, HMV.out]; exact hp2, (HTJ.out.trans (Turned.below HB3.out pb v')).trans ht2⟩
   case measure => omega
  ·obtain rfl : j = ng := by omega
   have hta : M.take j = M := List.take_of_length_le (by rw [HGM.out, List.length_map, HNG.out]; exact Nat.le_refl _)
   rw [hta] at HPJ
   obtain ⟨t1, ht1⟩ : ∃ t1, St.mvs s M = t1 := ⟨_, rfl⟩
   rw [ht1] at HPJ HPL HNE
   have HAN := Lib.hid (allNeeded_is t1 b' mb wr (HPJ.out.own.in_ (StSz.right HPL.out.r)) HPJ.out.map HPL.out.r)
   unfold DigPost at HAN
   rw [HNE.out] at HAN
   have hnl := St.neededL_len s
   have hnf := (St.sizes_iff.1 HR.out.sizes).2.2.1
   have HN16 := Lib.hid (fun d (hd : d ∈ St.neededL s) => St.needed_16 HR.out hd)
   generalize St.neededL s = NL at *
   obtain ⟨nn, hnn⟩ : ∃ nn, NL.length = nn := ⟨_, rfl⟩
   have HNN := Lib.hid hnn
   rw [hnn] at HAN hnl
   have hn5 : nn ≤ 500 := by omega
   have HTA : Hid (Turned W6 wr pb (.slice none 0 0) v') := Lib.hid (HT7.out.trans HTJ.out)
   have hsr := HTJ.out.le
   obtain ⟨n0, n1, n2, n3, n4, n5, n6, n7⟩ := HPJ.out.blk.nine.1
   clear hp ht hta ht1 hnl hnf hnn
   go_wp2_with (go_at_call 99; (with_reducible refine HAN.out.mono ?_); rintro e w8 ⟨g8, cap8, rfl, ho8, hq8⟩)
   have HG8 : Hid (∀ g, (Value.slice g8 nn cap8).ownBlock = some g → g < w8.heap.size) := Lib.hid fun g hg => (ho8.lt g hg).2
   have HN8 := Lib.hid ho8
   have HP8 := Lib.hid (HPJ.out.keep hq8)
   have HT8 := Lib.hid (HTA.out.trans (Turned.below hq8 pb v'))
   have HS8 : Hid (pb < w8.heap.size ∧ Bs ≤ w8.heap.size) := Lib.hid (by have := hq8.size; have := HS7.out; omega)
   obtain ⟨hdc1, hdc2⟩ := ho8.caps
   generalize wr.heap.size = Bn at *
   clear n0 n1 n2 n3 n4 n5 n6 n7 ho8 hq8 HAN HPJ HTJ HTA
   go_loopg [3, 47] nn (fun gk v i wr => ∃ (j : Nat) (t : Sto) (ms : List Mov) (O : List ByteArray) (b2 : StA) (v2 : Value), j ≤ nn ∧ gk = nn - j ∧ i = .int .i64 j ∧ St.PlL s NL j t ms O ∧ PlnIn wr pb Bs mb t ms b2 v2 ∧ Turned w8 wr pb v' v2 ∧ wr.ownsRow w8.heap.size 9 1 v O.length (St.eS.flat O) ∧ OwnV wr Bn 9 1 (.slice g8 nn cap8) nn (St.eS.flat NL))
   case atStart => exact ⟨0, t1, M, [], b', v', by omega, rfl, rfl, HPL.out, HP8.out, Turned.refl _ _ _, World.ownsRow_nil _ _ _ _, HN8.out⟩
   case round =>
    obtain ⟨j, t, ms, O, b2, v2, hj, rfl, rfl, hpl, hp, ht, ho, hn⟩ := hrel
    have HPQ := Lib.hid hp; have HTQ := Lib.hid ht; have HOQ := Lib.hid ho; have HNQ := Lib.hid hn; have HLQ := Lib.hid hpl
    by_cases hlt : j < nn
    ·obtain ⟨d, hd⟩ : ∃ d, NL[j]? = some d := ⟨_, List.getElem?_eq_getElem (by rw [HNN.out]; exact hlt)⟩
     obtain ⟨bb, off, ha, hb, hcell⟩ := (RowE.ofV (E := St.eS) (ca := cap8) (L := NL) (by rw [HNN.out]; exact hn)) (by rw [HNN.out]; omega)
     have c0 : wr.cell? ⟨bb, off + j, none⟩ = some (.string d) := by have := hcell j d hd 0 (.string d) rfl; rw [show off + j * St.eS.k + 0 = off + j by simp [St.eS]] at this; exact this
     have H16 := HN16.out d (List.mem_of_getElem? hd)
     have HDE := Lib.hid (hpl.enter hd)
     have hj0 : (0 : Int) ≤ (j : Int) := by omega
     have hj1 : (j : Int) < (nn : Int) := by omega
     obtain ⟨vo, hvo⟩ : ∃ vo, u3 = vo := ⟨_, rfl⟩
     clear hd hcell hb hpl hp ht ho hn
     rw [ha]
     go_wp2_with fail
     clear c0
     subst hvo
     go_loopg [3] 9 (fun gk vq wq => ∃ (t : Sto) (ms : List Mov) (b2 : StA) (v2 : Value), vq = u3 ∧ St.PlD s NL j d gk t ms O ∧ PlnIn wq pb Bs mb t ms b2 v2 ∧ Turned w8 wq pb v' v2 ∧ wq.ownsRow w8.heap.size 9 1 u3 O.length (St.eS.flat O) ∧ OwnV wq Bn 9 1 (.slice g8 nn cap8) nn (St.eS.flat NL))
     case atStart => exact ⟨t, ms, b2, v2, rfl, HDE.out, HPQ.out, HTQ.out, HOQ.out, HNQ.out⟩
     case round =>
      clear HPQ HTQ HOQ HNQ HLQ HDE
      obtain ⟨t, ms, b2, v2, rfl, hdq, hp, ht, ho, hn⟩ := hrel
      have HDQ := Lib.hid hdq; have HPQ := Lib.hid hp; have HTQ := Lib.hid ht; have HOQ := Lib.hid ho; have HNQ := Lib.hid hn
      have HIQ := Lib.hid (hp.own.in_ (StSz.right hdq.r))
      have HLK := Lib.hid (lack_is t b2 mb d wr HIQ.out hdq.r H16)
      obtain ⟨mg, hmg⟩ : ∃ mg : Int, ((St.goodL t d).length : Int) = mg := ⟨_, rfl⟩
      obtain ⟨ma, hma⟩ : ∃ ma : Int, (St.awayN (St.goodL t d) : Int) = ma := ⟨_, rfl⟩
      obtain ⟨sb, hsb⟩ : ∃ sb, St.short t d = sb := ⟨_, rfl⟩
      rw [hmg, hma, hsb] at HLK
      have HSB := Lib.hid hsb; have HMG := Lib.hid hmg; have HMA := Lib.hid hma
      obtain ⟨n0, n1, n2, n3, n4, n5, n6, n7⟩ := hp.blk.nine.1
      clear hdq hp ht ho hn hmg hma hsb
      go_upto_region 14 with (go_at_call 100; (with_reducible refine HLK.out.mono ?_); rintro e w9 ⟨rfl, hq9⟩)
      obtain ⟨W3, hW3, hX3, hz3, hB3⟩ := box w9 #[.string d, .int .i64 mg, .int .i64 ma] 70
      rw [hW3]
      have hq3 := below_up hq9 hB3
      have HP2 := Lib.hid (HPQ.out.keep hq3)
      have HT2 := Lib.hid (HTQ.out.trans (Turned.below hq3 pb v2))
      have HO2 := Lib.hid (own_keepE HOQ.out hq3)
      have HN2 := Lib.hid (OwnV.keep HNQ.out hq3)
      have HX3 := Lib.hid hX3
      clear n0 n1 n2 n3 n4 n5 n6 n7 hW3 hX3 hz3 hB3 hq9 hq3
      obtain ⟨e0, e1, e2⟩ := HX3.out.three
      cases sb
      ·go_wp2_with fail
       rw [← ha]
       go_roundg (nn - (j + 1))
       case rel => exact ⟨j + 1, t, ms, O, b2, v2, by omega, rfl, by go_num, HDQ.out.done HSB.out, HP2.out, HT2.out, HO2.out, HN2.out⟩
       case measure => omega
      ·by_cases hz : mg = 0
       ·have hzb : (mg == 0) = true := by simpa using hz
        have hzg : (St.goodL t d).length = 0 := by have := HMG.out; omega
        have HZG := Lib.hid hzg
        clear hz hzg
        go_upto_region 16 with fail
        obtain ⟨FL, hFL⟩ : ∃ FL, St.eS.flat O = FL := ⟨_, rfl⟩
        obtain ⟨no, hno⟩ : ∃ no, O.length = no := ⟨_, rfl⟩
        have HFL : Hid (St.eS.flat (O ++ [d]) = FL ++ [.string d]) := Lib.hid (by rw [Enc.flat_snoc, hFL]; rfl)
        have HNO : Hid ((O ++ [d]).length = no + 1) := Lib.hid (by rw [List.length_append, hno]; rfl)
        have HSTP := Lib.hid (HDQ.out.stop HSB.out (.inl HZG.out))
        have hol := HDQ.out.ol
        rw [hFL] at HO2
        rw [hno] at HO2 hol
        have hszt := HT2.out.le
        clear hFL hno
        go_wp2_with (at_builtin; refine list_appS rfl _ _ rfl _ _ no FL (by rfl) (by rfl) HO2.out (by omega) (by omega) (by rfl) (by simp [Value.oneCell']) ?_; intro g9 cap9 w9 hown9 hgrow9)
        have HW9 := Lib.hid hown9; have HG9 := Lib.hid hgrow9
        clear hown9 hgrow9
        rw [← ha]
        go_roundg (nn - (j + 1))
        case rel =>
         have hal := (Below.refl W3.heap.size W3).alloc (Nat.le_refl _) (.cells #[.string d] 9)
         have hoa := HO2.out.alloc (.cells #[.string d] 9)
         exact ⟨j + 1, _, _, O ++ [d], _, _, by omega, rfl, by go_num, HSTP.out, (HP2.out.keep hal).grow hoa (by have := HS8.out; omega) HG9.out, (HT2.out.trans (Turned.below hal pb _)).grow hoa (Nat.le_refl _) HG9.out, by rw [HFL.out, HNO.out]; exact HW9.out, (OwnV.keep HN2.out hal).apart HG9.out (fun g hg e => by have h1 := HG8.out g hg; have h2 := (hoa.lt g e.symm).1; omega)⟩
        case measure => omega
       ·have hzb : (mg == 0) = false := by simpa using hz
        have hzg : 0 < (St.goodL t d).length := by have := HMG.out; omega
        have HZG := Lib.hid hzg
        have HMO := Lib.hid (more_is t b2 mb pb Bs d ms v2 W3 HP2.out (by have := HDQ.out.len; omega) (by have := HT2.out.le; have := HS8.out; omega) HDQ.out.r H16 HZG.out)
        rw [HMG.out, HMA.out] at HMO
        unfold MorePost at HMO
        clear hz hzg
        cases hmo : St.mor t d with
        | none =>
          rw [hmo] at HMO
          dsimp only at HMO
          have HME := Lib.hid hmo
          clear hmo
          go_upto_region 16 with (go_at_call 122; (with_reducible refine HMO.out.mono ?_); rintro e w5 ⟨rfl, b3, v3, hp3, ht3⟩)
          have hro := Turned.rowO ht3 HP2.out.row HP2.out.blk HO2.out (by decide) (by decide)
          have hrn := Turned.row ht3 HP2.out.row HP2.out.blk HN2.out (by decide) (by decide)
          have HT2 := Lib.hid (HT2.out.trans ht3)
          have HP2 := Lib.hid hp3
          have HO2 := Lib.hid hro
          have HN2 := Lib.hid hrn
          clear hp3 ht3 hro hrn
          obtain ⟨FL, hFL⟩ : ∃ FL, St.eS.flat O = FL := ⟨_, rfl⟩
          obtain ⟨no, hno⟩ : ∃ no, O.length = no := ⟨_, rfl⟩
          have HFL : Hid (St.eS.flat (O ++ [d]) = FL ++ [.string d]) := Lib.hid (by rw [Enc.flat_snoc, hFL]; rfl)
          have HNO : Hid ((O ++ [d]).length = no + 1) := Lib.hid (by rw [List.length_append, hno]; rfl)
          have HSTP := Lib.hid (HDQ.out.stop HSB.out (.inr HME.out))
          have hol := HDQ.out.ol
          rw [hFL] at HO2
          rw [hno] at HO2 hol
          have hszt := HT2.out.le
          clear hFL hno
          go_wp2_with (at_builtin; refine list_appS rfl _ _ rfl _ _ no FL (by rfl) (by rfl) HO2.out (by omega) (by omega) (by rfl) (by simp [Value.oneCell']) ?_; intro g9 cap9 w9 hown9 hgrow9)
          have HW9 := Lib.hid hown9; have HG9 := Lib.hid hgrow9
          clear hown9 hgrow9
          rw [← ha]
          go_roundg (nn - (j + 1))
          case rel =>
           have hal := (Below.refl w5.heap.size w5).alloc (Nat.le_refl _) (.cells #[.string d] 9)
           have hoa := HO2.out.alloc (.cells #[.string d] 9)
           exact ⟨j + 1, _, _, O ++ [d], _, _, by omega, rfl, by go_num, HSTP.out, (HP2.out.keep hal).grow hoa (by have := HS8.out; omega) HG9.out, (HT2.out.trans (Turned.below hal pb _)).grow hoa (Nat.le_refl _) HG9.out, by rw [HFL.out, HNO.out]; exact HW9.out, (OwnV.keep HN2.out hal).apart HG9.out (fun g hg e => by have h1 := HG8.out g hg; have h2 := (hoa.lt g e.symm).1; omega)⟩
          case measure => omega
        | some u =>
          rw [hmo] at HMO
          dsimp only at HMO
          have HME := Lib.hid hmo
          clear hmo
          go_wp2_with (go_at_call 122; (with_reducible refine HMO.out.mono ?_); rintro e w5 ⟨rfl, b3, v3, hp3, ht3⟩)
          have hro := Turned.rowO ht3 HP2.out.row HP2.out.blk HO2.out (by decide) (by decide)
          have hrn := Turned.row ht3 HP2.out.row HP2.out.blk HN2.out (by decide) (by decide)
          have HT2 := Lib.hid (HT2.out.trans ht3)
          have HP2 := Lib.hid hp3
          have HO2 := Lib.hid hro
          have HN2 := Lib.hid hrn
          clear hp3 ht3 hro hrn
          go_roundg (gk - 1)
          case rel => exact ⟨_, _, b3, v3, rfl, (HDQ.out.more HSB.out HZG.out HME.out).2, HP2.out, HT2.out, HO2.out, HN2.out⟩
          case measure => have := (HDQ.out.more HSB.out HZG.out HME.out).1; omega
    ·obtain rfl : j = nn := by omega
     have heq := hpl.eq
     rw [List.drop_eq_nil_of_le (by rw [HNN.out]; exact Nat.le_refl _)] at heq
     have HEQ : Hid (St.plan s = (t, ms, O)) := Lib.hid (by rw [heq]; unfold St.plAdd St.planL; rw [List.append_nil, List.append_nil])
     obtain ⟨gm, cm, rfl⟩ := ownV_slice (OwnV.of_own hp.row)
     obtain ⟨go, co, rfl⟩ := ownV_slice (OwnV.of_own ho)
     obtain ⟨k1, k2⟩ := (OwnV.of_own hp.row).caps
     obtain ⟨k3, k4⟩ := (OwnV.of_own ho).caps
     have hrm := RowE.ofV (E := St.eM) (ca := cm) (L := ms) (OwnV.of_own hp.row)
     have hro := RowE.ofV (E := St.eS) (ca := co) (L := O) (OwnV.of_own ho)
     have htt := HT8.out.trans ht
     have hbz : Below w.heap.size w wr := HB6.out.trans ⟨htt.far.os, htt.far.tape, htt.far.output, htt.far.size, fun q hq => htt.far.block q (by have := HSP.out; omega) (by have := HSP.out; omega) (by intro e; cases e)⟩
     have HRM := Lib.hid hrm; have HRO := Lib.hid hro; have HBZ := Lib.hid hbz
     obtain ⟨n1, hn1⟩ : ∃ n1, ms.length = n1 := ⟨_, rfl⟩
     obtain ⟨n2, hn2⟩ : ∃ n2, O.length = n2 := ⟨_, rfl⟩
     have HN1 := Lib.hid hn1; have HN2 := Lib.hid hn2
     rw [hn1] at k1
     rw [hn2] at k3
     have p8 := hp.blk.nine.2
     rw [hn1] at p8
     rw [hn2]
     clear hpl hp ht ho hn heq hrm hro htt hbz hn1 hn2
     go_wp2_with (first
      | (go_at_call 123; (with_reducible refine (clnM_clip _ _ _ _ k1 k2).mono ?_); rintro e wc ⟨rfl, rfl⟩)
      | (go_at_call 104; (with_reducible refine (clnS_clip _ _ _ _ k3 k4).mono ?_); rintro e wd ⟨rfl, rfl⟩))
     refine bodyPost_ret (v := .tuple #[.slice gm n1 n1, .slice go n2 n2, .int .i64 0]) (by simp [results, Tryz.results44, go_sem]) rfl ?_
     unfold PlanPost
     rw [HEQ.out]
     exact ⟨gm, n1, n1, go, n2, n2, HN1.out, HN2.out, rfl, HRM.out, ⟨Nat.le_refl _, by omega⟩, HRO.out, ⟨Nat.le_refl _, by omega⟩, HBZ.out⟩
end Go.Proofs.YthdiccdnggloiaaGreatDoor
