/- Parts of the proof, no condition: StTnp. -/
import Derived.Test.YthdiccdnggloiaaGreatDoorPl30
set_option maxRecDepth 100000
set_option maxHeartbeats 16000000
set_option linter.unusedSimpArgs false
set_option linter.unusedVariables false
namespace Go.Proofs.YthdiccdnggloiaaGreatDoor
open Go.RowKit Go.Sort Go.Shelf Go.Maps
def PlndPost (w : World) (s : Sto) (e : Ending) (w' : World) : Prop :=
 ∃ g1 n1 c1 g2 n2 c2, (St.plan s).2.1.length = n1 ∧ (St.plan s).2.2.length = n2 ∧ e = .returned (.tuple #[.slice g1 n1 c1, .slice g2 n2 c2]) ∧ RowE St.eM w' g1 (St.plan s).2.1 ∧ RowE St.eS w' g2 (St.plan s).2.2 ∧ Below w.heap.size w w'
theorem plannedR_is (s : Sto) (a : StA) (w : World) (hI : StIn w s a) (r : St.Right s) :
  Calls Tryz.prog 46 #[.agg #[.int .i64 s.least, .int .i64 s.wait, .slice a.ta s.tiers.length a.tc, .slice a.fa s.files.length a.fc, .slice a.ca s.copies.length a.cc, .slice a.ha s.held.length a.hc, .slice a.ba s.bin.length a.bc]] w (PlndPost w s) := by
 obtain ⟨W1, hW1, hP, hz1, hB1⟩ := box w #[.int .i64 s.least, .int .i64 s.wait, .slice a.ta s.tiers.length a.tc, .slice a.fa s.files.length a.fc, .slice a.ca s.copies.length a.cc, .slice a.ha s.held.length a.hc, .slice a.ba s.bin.length a.bc] 28
 have HW1 := Lib.hid hW1
 have HI1 := Lib.hid (hI.keep hB1)
 obtain ⟨q0, q1, q2, q3, q4, q5, q6⟩ := hP.sv7
 have HP := Lib.hid hP; have HB1 := Lib.hid hB1
 clear hW1 hP
 obtain ⟨_, y1, y2, y3, y4, y5⟩ := St.sizes_iff.1 r.sizes
 have HGA := Lib.hid (garbageR_is s a W1 HI1.out r)
 unfold CopPost at HGA
 have HR := Lib.hid r
 have HSZ := Lib.hid (StSz.right r)
 have HZ1 := Lib.hid hz1
 have hgl0 : (St.garbageL s).length ≤ s.copies.length := List.length_filter_le _ _
 have HGM : Hid (St.garbM s = (St.garbageL s).map St.dropC) := Lib.hid rfl
 have HAC := Lib.hid (St.garb_acc r)
 have HPL := Lib.hid (St.PlL.start r)
 have HNE := Lib.hid (St.needed_same (s := s) (t := St.mvs s (St.garbM s)) (St.mvs_same _ s).2.1 (St.mvs_same _ s).2.2.1 (St.mvs_same _ s).2.2.2.1)
 generalize St.garbM s = M at *
 generalize St.garbageL s = GL at *
 obtain ⟨ng, hng⟩ : ∃ ng, GL.length = ng := ⟨_, rfl⟩
 have HNG := Lib.hid hng
 rw [hng] at HGA hgl0
 have hng4 : ng ≤ 4000 := by omega
 clear r hz1 hng hgl0 y1 y2 y3 y4 y5
 go_enter Tryz.func46, Tryz.ntmps46
 go_upto_region 1 with fail
 rw [HW1.out]
 go_wp2_with (go_at_call 43; (with_reducible refine HGA.out.mono ?_); rintro e w4 ⟨g4, cap4, rfl, ho4, hq4⟩)
 have HRG := Lib.hid ho4
 have HQ4 := Lib.hid hq4
 obtain ⟨hcc1, hcc2⟩ := ho4.caps
 clear q0 q1 q2 q3 q4 q5 q6 ho4 hq4 HGA
 go_loopg [4, 24] ng (fun gk v i wr => ∃ j : Nat, j ≤ ng ∧ gk = ng - j ∧ i = .int .i64 j ∧ wr.ownsRow w4.heap.size 52 4 v (M.take j).length (St.eM.flat (M.take j)) ∧ Below w4.heap.size w4 wr)
 case atStart => exact ⟨0, by omega, rfl, rfl, World.ownsRow_nil _ _ _ _, Below.refl _ _⟩
 case round =>
  obtain ⟨j, hj, rfl, rfl, hown, hB⟩ := hrel
  by_cases hlt : j < ng
  ·obtain ⟨x, hx⟩ : ∃ x, GL[j]? = some x := ⟨_, List.getElem?_eq_getElem (by rw [HNG.out]; exact hlt)⟩
   obtain ⟨b, off, ha, hb, hcell⟩ := (RowE.ofV (E := St.eC) (ca := cap4) (L := GL) (by rw [HNG.out]; exact HRG.out.keep hB)) (by rw [HNG.out]; omega)
   have c0 : wr.cell? ⟨b, off + j * 4, none⟩ = some (.string x.dig) := hcell j x hx 0 (.string x.dig) rfl
   have c1 : wr.cell? ⟨b, off + j * 4 + 1, none⟩ = some (.string x.tier) := hcell j x hx 1 (.string x.tier) rfl
   have c2 : wr.cell? ⟨b, off + j * 4 + 2, none⟩ = some (.bool x.good) := hcell j x hx 2 (.bool x.good) rfl
   have c3 : wr.cell? ⟨b, off + j * 4 + 3, none⟩ = some (.int .i64 x.asked) := hcell j x hx 3 (.int .i64 x.asked) rfl
   clear hcell
   have htk : M.take (j + 1) = M.take j ++ [⟨2, x.dig, x.tier, ⟨#[]⟩⟩] := by
    have : M[j]? = some ⟨2, x.dig, x.tier, ⟨#[]⟩⟩ := by rw [HGM.out, List.getElem?_map, hx]; rfl
    rw [List.take_add_one, this]; rfl
   have hml : (M.take j).length ≤ 4000 := by rw [List.length_take]; omega
   obtain ⟨W3, hW3, hX3, hz3, hB3⟩ := box wr #[.string x.dig, .string x.tier, .bool x.good, .int .i64 x.asked] 74
   have HW3 := Lib.hid hW3
   have HAW := Lib.hid (below_up hB hB3)
   have hown3 := own_keepE hown hB3
   obtain ⟨e0, e1, e2, e3⟩ := hX3.four
   have hj0 : (0 : Int) ≤ (j : Int) := by omega
   have hj1 : (j : Int) < (ng : Int) := by omega
   generalize M.take j = Mj at *
   obtain ⟨FL, hFL⟩ : ∃ FL, St.eM.flat Mj = FL := ⟨_, rfl⟩
   obtain ⟨m, hm⟩ : ∃ m, Mj.length = m := ⟨_, rfl⟩
   have HFL : Hid (St.eM.flat (M.take (j + 1)) = FL ++ [.int .i64 2, .string x.dig, .string x.tier, .string ⟨#[]⟩]) := Lib.hid (by rw [htk, Enc.flat_snoc, hFL]; rfl)
   have HM : Hid ((M.take (j + 1)).length = m + 1) := Lib.hid (by rw [htk, List.length_append, hm]; rfl)
   rw [hFL, hm] at hown3
   rw [hm] at hml
   have hs3 := HAW.out.size
   clear hFL hm htk hown hB hW3 hX3 hz3 hB3 hx
   rw [ha]
   go_upto_region 6 with fail
   rw [HW3.out]
   clear c0 c1 c2 c3
   go_wp2_with (at_builtin; refine list_appM rfl _ _ rfl _ _ m FL (by rfl) (by rfl) hown3 (by omega) (by omega) (by rfl) (by simp [Value.oneCell']) ?_; intro g8 cap8 w8 hown8 hgrow8; have hB8 := below_grownE (below_allocs HAW.out _) (hown3.alloc _) hgrow8 (by simp; omega))
   rw [← ha]
   go_roundg (ng - (j + 1))
   case rel => exact ⟨j + 1, by omega, rfl, by go_num, by rw [HFL.out, HM.out]; exact hown8, hB8⟩
   case measure => omega
  ·obtain rfl : j = ng := by omega
   have hml : M.length = j := by rw [HGM.out, List.length_map, HNG.out]
   rw [List.take_of_length_le (by omega)] at hown
   obtain ⟨g5, cap5, rfl⟩ := ownV_slice (OwnV.of_own hown)
   have hs4 := HQ4.out.size
   have HP5 : Hid (PlrIn w W1.heap.size s a M (.slice g5 M.length cap5) [] (.slice none 0 0) [] (.slice none 0 0) wr) := Lib.hid ⟨HP.out.keep (below_up HQ4.out hB), .inr hI, ownsRow_down hown hs4, World.ownsRow_nil _ _ _ _, .inl ⟨rfl, rfl, rfl⟩, (fun g h => by cases h), below_up HB1.out (below_up HQ4.out hB), by have := HZ1.out; omega, by have := hB.size; omega⟩
   have HML := Lib.hid hml
   rw [hml] at HP5 ⊢
   obtain ⟨hc51, hc52⟩ := (OwnV.of_own hown).caps
   rw [hml] at hc51
   have hj4 : j ≤ 4000 := hng4
   clear hown hB hs4 hml HRG HQ4 HP HB1
   go_wp2_with fail
   go_loopg [39] j (fun gk i wr => ∃ (k : Nat) (b' : StA), k ≤ j ∧ gk = j - k ∧ i = .int .i64 k ∧ PlrIn w W1.heap.size (St.mvs s (M.take k)) b' M (.slice g5 j cap5) [] (.slice none 0 0) [] (.slice none 0 0) wr)
   case atStart => exact ⟨0, a, by omega, rfl, rfl, by simpa [St.mvs] using HP5.out⟩
   case round =>
    clear HP5
    obtain ⟨k, b2, hk, rfl, rfl, hp⟩ := hrel
    have HPK := Lib.hid hp
    by_cases hlt : k < j
    ·obtain ⟨x, hx⟩ : ∃ x, M[k]? = some x := ⟨_, List.getElem?_eq_getElem (by rw [HML.out]; exact hlt)⟩
     obtain ⟨hac, hrk⟩ := St.acc_get HR.out HAC.out hx
     have htk : St.mvs s (M.take (k + 1)) = St.mvS (St.mvs s (M.take k)) x := by
      rw [List.take_add_one, hx]
      exact St.mvs_snoc _ _ _
     have HTK := Lib.hid htk
     obtain ⟨bb, off, ha, hb, hcell⟩ := (RowE.ofV (E := St.eM) (ca := cap5) (L := M) (by rw [HML.out]; have := OwnV.of_own hp.mv; rwa [HML.out] at this)) (by rw [HML.out]; omega)
     have c0 : wr.cell? ⟨bb, off + k * 4, none⟩ = some (.int .i64 x.kind) := hcell k x hx 0 (.int .i64 x.kind) rfl
     have c1 : wr.cell? ⟨bb, off + k * 4 + 1, none⟩ = some (.string x.dig) := hcell k x hx 1 (.string x.dig) rfl
     have c2 : wr.cell? ⟨bb, off + k * 4 + 2, none⟩ = some (.string x.frm) := hcell k x hx 2 (.string x.frm) rfl
     have c3 : wr.cell? ⟨bb, off + k * 4 + 3, none⟩ = some (.string x.dst) := hcell k x hx 3 (.string x.dst) rfl
     obtain ⟨W3, hW3, hX3, hz3, hB3⟩ := box wr #[.int .i64 x.kind, .string x.dig, .string x.frm, .string x.dst] 52
     have HW3 := Lib.hid hW3
     have hp3 := hp.keep hB3
     have HP3 := Lib.hid hp3
     have HMD := Lib.hid (movedR_is (St.mvs s (M.take k)) b2 x W3 (hp3.in_ hrk) hrk hac)
     unfold OwnPut at HMD
     rw [← htk] at HMD
     obtain ⟨t', ht'⟩ : ∃ t', St.mvs s (M.take (k + 1)) = t' := ⟨_, rfl⟩
     have HT' := Lib.hid ht'
     rw [ht'] at HMD
     clear HTK ht'
     generalize St.mvs s (M.take k) = t at *
     obtain ⟨e0, e1, e2, e3⟩ := hX3.four
     obtain ⟨q0, q1, q2, q3, q4, q5, q6⟩ := hp3.vw.seven
     have hj0 : (0 : Int) ≤ (k : Int) := by omega
     have hj1 : (k : Int) < (j : Int) := by omega
     clear hx hac hrk htk hb hcell hW3 hX3 hz3 hB3 hp hp3
     rw [ha]
     go_upto_region 11 with fail
     rw [HW3.out]
     clear c0 c1 c2 c3
     go_upto_region 12 with (first
      | (go_at_call 126; (with_reducible refine HMD.out.mono ?_); rintro e w9 ⟨c', rfl, hog, hq⟩)
      | (refine wpList_store_row rfl 28 _ _ rfl w.heap.size #[.int .i64 t'.least, .int .i64 t'.wait, .slice c'.ta t'.tiers.length c'.tc, .slice c'.fa t'.files.length c'.fc, .slice c'.ca t'.copies.length c'.cc, .slice c'.ha t'.held.length c'.hc, .slice c'.ba t'.bin.length c'.bc] rfl rfl 28 _ (HP3.out.vw.keep hq) infoSto rfl (by simp [Value.oneCell']) ?_))
     have HP9 := Lib.hid (HP3.out.box hq hog)
     generalize w9.setRow w.heap.size #[.int .i64 t'.least, .int .i64 t'.wait, .slice c'.ta t'.tiers.length c'.tc, .slice c'.fa t'.files.length c'.fc, .slice c'.ca t'.copies.length c'.cc, .slice c'.ha t'.held.length c'.hc, .slice c'.ba t'.bin.length c'.bc] = w10 at *
     clear hog hq q0 q1 q2 q3 q4 q5 q6 e0 e1 e2 e3
     go_wp2_with fail
     rw [← ha]
     go_roundg (j - (k + 1))
     case rel => exact ⟨k + 1, c', by omega, rfl, by go_num, by rw [HT'.out]; exact HP9.out⟩
     case measure => omega
    ·obtain rfl : k = j := by omega
     have hta : M.take k = M := List.take_of_length_le (by rw [HML.out]; exact Nat.le_refl _)
     rw [hta] at HPK
     obtain ⟨t1, ht1⟩ : ∃ t1, St.mvs s M = t1 := ⟨_, rfl⟩
     rw [ht1] at HPK HPL HNE
     have hnf := (St.sizes_iff.1 HR.out.sizes).2.2.1
     have hnf2 := (St.sizes_iff.1 HPL.out.r.sizes).2.2.1
     have HAN := Lib.hid (neededOfR_own t1 b2 wr (HPK.out.in_ HPL.out.r) hnf2)
     unfold DigPost at HAN
     rw [HNE.out] at HAN
     have hnl := St.neededL_len s
     have HN16 := Lib.hid (fun d (hd : d ∈ St.neededL s) => And.intro (St.needed_16 HR.out hd) (St.needed_file hd))
     generalize St.neededL s = NL at *
     obtain ⟨nn, hnn⟩ : ∃ nn, NL.length = nn := ⟨_, rfl⟩
     have HNN := Lib.hid hnn
     rw [hnn] at HAN hnl
     have hn5 : nn ≤ 500 := by omega
     obtain ⟨q0, q1, q2, q3, q4, q5, q6⟩ := HPK.out.vw.seven
     clear hp hta ht1 hnl hnf hnf2 hnn
     go_wp2_with (go_at_call 38; (with_reducible refine HAN.out.mono ?_); rintro e w8 ⟨g8, cap8, rfl, ho8, hq8⟩)
     have HP8 : Hid (PlrIn w W1.heap.size t1 b2 M (.slice g5 k cap5) [] (.slice none 0 0) NL (.slice g8 nn cap8) w8) := Lib.hid (by
      have h := HPK.out.keep hq8
      exact ⟨h.vw, h.st, h.mv, h.op, by rw [HNN.out]; exact ho8.down HPK.out.sz.2, (fun g h => by cases h), h.bl, h.sz⟩)
     obtain ⟨hdc1, hdc2⟩ := ho8.caps
     clear q0 q1 q2 q3 q4 q5 q6 ho8 hq8 HAN HPK
     go_loopg [4, 5, 50] nn (fun gk vm vo i wr => ∃ (j : Nat) (t : Sto) (ms : List Mov) (O : List ByteArray) (b2 : StA), j ≤ nn ∧ gk = nn - j ∧ i = .int .i64 j ∧ St.PlL s NL j t ms O ∧ PlrIn w W1.heap.size t b2 ms vm O vo NL (.slice g8 nn cap8) wr)
     case atStart => exact ⟨0, t1, M, [], b2, by omega, rfl, rfl, HPL.out, HP8.out⟩
     case round =>
      clear HP8
      obtain ⟨j, t, ms, O, b2, hj, rfl, rfl, hpl, hp⟩ := hrel
      by_cases hlt : j < nn
      ·obtain ⟨d, hd⟩ : ∃ d, NL[j]? = some d := ⟨_, List.getElem?_eq_getElem (by rw [HNN.out]; exact hlt)⟩
       obtain ⟨bb, off, ha, hb, hcell⟩ := (RowE.ofV (E := St.eS) (ca := cap8) (L := NL) (by rw [HNN.out]; have := hp.nl; rwa [HNN.out] at this)) (by rw [HNN.out]; omega)
       have c0 : wr.cell? ⟨bb, off + j, none⟩ = some (.string d) := by have := hcell j d hd 0 (.string d) rfl; rw [show off + j * St.eS.k + 0 = off + j by simp [St.eS]] at this; exact this
       obtain ⟨H16, hfd⟩ := HN16.out d (List.mem_of_getElem? hd)
       have HDE := Lib.hid (hpl.enter hd)
       have hj0 : (0 : Int) ≤ (j : Int) := by omega
       have hj1 : (j : Int) < (nn : Int) := by omega
       have HFO := Lib.hid (fileOf_is t b2 d wr (hp.in_ hpl.r))
       have hfz : (St.filD t.files d).dig = d ∧ (St.filD t.files d).size = St.sizeOf t.files d := ⟨by rw [hpl.fl]; exact hfd, St.filD_size _ _⟩
       have hfl := hpl.fl
       obtain ⟨f, hf⟩ : ∃ f, St.filD t.files d = f := ⟨_, rfl⟩
       obtain ⟨fb, hfb⟩ : ∃ fb, (St.fileOf t.files d).isSome = fb := ⟨_, rfl⟩
       rw [hf, hfb] at HFO
       rw [hf, hfl] at hfz
       unfold St.fval at HFO
       rw [hfz.1] at HFO
       have HFZ := Lib.hid hfz
       have HPJ := Lib.hid hp
       obtain ⟨q0, q1, q2, q3, q4, q5, q6⟩ := hp.vw.seven
       clear hd hcell hb hpl hp hfd hfz hf hfb hfl
       rw [ha]
       go_upto_region 17 with (go_at_call 76; (with_reducible refine HFO.out.mono ?_); rintro e w9 ⟨rfl, hq9⟩)
       obtain ⟨W3, hW3, hX3, hz3, hB3⟩ := box w9 #[.string d, .int .i64 f.size, .int .i64 f.kind, .string f.frm] 30
       rw [hW3]
       have hq3 := below_up hq9 hB3
       have HP3 := Lib.hid (HPJ.out.keep hq3)
       have HX3 := Lib.hid hX3
       have HFB : Hid (w9.heap.size ≠ w.heap.size ∧ W1.heap.size ≤ w9.heap.size ∧ w9.heap.size < W3.heap.size) := Lib.hid (by have := HPJ.out.sz; have := hq9.size; omega)
       obtain ⟨fq, hfq⟩ : ∃ fq, w9.heap.size = fq := ⟨_, rfl⟩
       rw [hfq] at HX3 HFB ⊢
       clear c0 q0 q1 q2 q3 q4 q5 q6 hW3 hX3 hz3 hB3 hq9 hq3 hfq HPJ
       go_loopg [4, 5] 9 (fun gk vm2 vo2 wr => ∃ (t : Sto) (ms : List Mov) (b2 : StA), vo2 = u5 ∧ St.PlD s NL j d gk t ms O ∧ PlrIn w W1.heap.size t b2 ms vm2 O u5 NL (.slice g8 nn cap8) wr ∧ Blk wr fq #[.string d, .int .i64 f.size, .int .i64 f.kind, .string f.frm] 30)
       case atStart => exact ⟨t, ms, b2, rfl, HDE.out, HP3.out, HX3.out⟩
       case round =>
        clear HP3 HX3 HDE
        obtain ⟨t, ms, b2, rfl, hdq, hp, hx⟩ := hrel
        have HDQ := Lib.hid hdq; have HPQ := Lib.hid hp; have HXQ := Lib.hid hx
        obtain ⟨_, y1, y2, y3, y4, y5⟩ := St.sizes_iff.1 hdq.r.sizes
        have HLK := Lib.hid (lacksR_is t b2 d wr (hp.in_ hdq.r) y1 y3)
        obtain ⟨sb, hsb⟩ : ∃ sb, St.short t d = sb := ⟨_, rfl⟩
        rw [hsb] at HLK
        have HSB := Lib.hid hsb
        have HII := Lib.hid (fun V (hv : Below wr.heap.size wr V) => (hp.in_ hdq.r).keep hv)
        have hqs : Below wr.heap.size wr wr := Below.refl _ _
        obtain ⟨q0, q1, q2, q3, q4, q5, q6⟩ := hp.vw.seven
        obtain ⟨f0, f1, f2, f3⟩ := hx.four
        clear hdq hp hx hsb y2 y4 y5
        cases sb
        ·go_wp2_with (go_at_call 117; (with_reducible refine HLK.out.mono ?_); rintro e wl ⟨rfl, hq⟩; have hqs := below_up hqs hq; skip; have HPQ := Lib.hid (HPQ.out.keep hq); have HXQ := Lib.hid (HXQ.out.keep hq); obtain ⟨q0, q1, q2, q3, q4, q5, q6⟩ := HPQ.out.vw.seven; obtain ⟨f0, f1, f2, f3⟩ := HXQ.out.four)
         rw [← ha]
         go_roundg (nn - (j + 1))
         case rel => exact ⟨j + 1, t, ms, O, b2, by omega, rfl, by go_num, HDQ.out.done HSB.out, HPQ.out⟩
         case measure => omega
        ·by_cases hg0 : (St.goodL t d).length = 0
         ·have HG0 := Lib.hid hg0
          have HSR := Lib.hid (fun V hv => source_none t b2 d V (HII.out V hv) y1 y3 hg0)
          clear hg0 y1 y3
          go_upto_region 23 with (first
           | (go_at_call 117; (with_reducible refine HLK.out.mono ?_); rintro e wl ⟨rfl, hq⟩; have hqs := below_up hqs hq; skip; have HPQ := Lib.hid (HPQ.out.keep hq); have HXQ := Lib.hid (HXQ.out.keep hq); obtain ⟨q0, q1, q2, q3, q4, q5, q6⟩ := HPQ.out.vw.seven; obtain ⟨f0, f1, f2, f3⟩ := HXQ.out.four)
           | (go_at_call 127; (with_reducible refine (HSR.out _ hqs).mono ?_); rintro e ws ⟨rfl, hq⟩; have hqs := below_up hqs hq; skip; have HPQ := Lib.hid (HPQ.out.keep hq); have HXQ := Lib.hid (HXQ.out.keep hq); obtain ⟨q0, q1, q2, q3, q4, q5, q6⟩ := HPQ.out.vw.seven; obtain ⟨f0, f1, f2, f3⟩ := HXQ.out.four))
          obtain ⟨FL, hFL⟩ : ∃ FL, St.eS.flat O = FL := ⟨_, rfl⟩
          obtain ⟨no, hno⟩ : ∃ no, O.length = no := ⟨_, rfl⟩
          have HFL : Hid (St.eS.flat (O ++ [d]) = FL ++ [.string d]) := Lib.hid (by rw [Enc.flat_snoc, hFL]; rfl)
          have HNO : Hid ((O ++ [d]).length = no + 1) := Lib.hid (by rw [List.length_append, hno]; rfl)
          have HSTP := Lib.hid (HDQ.out.stop HSB.out (.inl HG0.out))
          have hol := HDQ.out.ol
          have HOP := Lib.hid HPQ.out.op
          rw [hFL] at HOP
          rw [hno] at HOP hol
          have hszt := HPQ.out.sz.2
          clear hFL hno q0 q1 q2 q3 q4 q5 q6 f0 f1 f2 f3
          go_wp2_with (at_builtin; refine list_app3S rfl _ _ rfl _ _ no FL (by rfl) (by rfl) HOP.out (by omega) (by omega) (by rfl) (by simp [Value.oneCell']) ?_; intro g9 cap9 w9 hown9 hgrow9 hnew9)
          have HW9 := Lib.hid hown9; have HG9 := Lib.hid hgrow9; have HN9 := Lib.hid hnew9
          clear hown9 hgrow9 hnew9
          rw [← ha]
          go_roundg (nn - (j + 1))
          case rel =>
           have hal := (Below.refl ws.heap.size ws).alloc (Nat.le_refl _) (.cells #[.string d] 9)
           have hn9 := HN9.out
           exact ⟨j + 1, _, _, O ++ [d], _, by omega, rfl, by go_num, HSTP.out, (HPQ.out.keep hal).stop HG9.out (by rw [HFL.out, HNO.out]; exact HW9.out) hn9⟩
          case measure => omega
         ·have hgp : 0 < (St.goodL t d).length := by omega
          have HGP := Lib.hid hgp
          have HSR := Lib.hid (fun V hv => source_some t b2 d V (HII.out V hv) y1 y3 hgp)
          have HTG := Lib.hid (fun V hv => targetR_is t b2 f V (HII.out V hv) HDQ.out.r (by rw [HFZ.out.1]; exact H16) (by rw [HFZ.out.1, HFZ.out.2, HDQ.out.fl]))
          unfold TgrPost at HTG
          rw [HFZ.out.1] at HTG
          clear hg0 hgp y1 y3
          cases hmo : St.mor t d with
          | none =>
            rw [hmo] at HTG
            dsimp only at HTG
            have HME := Lib.hid hmo
            clear hmo
            go_upto_region 23 with (first
             | (go_at_call 117; (with_reducible refine HLK.out.mono ?_); rintro e wl ⟨rfl, hq⟩; have hqs := below_up hqs hq; skip; have HPQ := Lib.hid (HPQ.out.keep hq); have HXQ := Lib.hid (HXQ.out.keep hq); obtain ⟨q0, q1, q2, q3, q4, q5, q6⟩ := HPQ.out.vw.seven; obtain ⟨f0, f1, f2, f3⟩ := HXQ.out.four)
             | (go_at_call 127; (with_reducible refine (HSR.out _ hqs).mono ?_); rintro e ws ⟨rfl, hq⟩; have hqs := below_up hqs hq; skip; have HPQ := Lib.hid (HPQ.out.keep hq); have HXQ := Lib.hid (HXQ.out.keep hq); obtain ⟨q0, q1, q2, q3, q4, q5, q6⟩ := HPQ.out.vw.seven; obtain ⟨f0, f1, f2, f3⟩ := HXQ.out.four)
             | (go_at_call 128; (with_reducible refine (HTG.out _ hqs).mono ?_); rintro e wt ⟨hq, rfl⟩; have hqs := below_up hqs hq; skip; have HPQ := Lib.hid (HPQ.out.keep hq); have HXQ := Lib.hid (HXQ.out.keep hq); obtain ⟨q0, q1, q2, q3, q4, q5, q6⟩ := HPQ.out.vw.seven; obtain ⟨f0, f1, f2, f3⟩ := HXQ.out.four))
            obtain ⟨FL, hFL⟩ : ∃ FL, St.eS.flat O = FL := ⟨_, rfl⟩
            obtain ⟨no, hno⟩ : ∃ no, O.length = no := ⟨_, rfl⟩
            have HFL : Hid (St.eS.flat (O ++ [d]) = FL ++ [.string d]) := Lib.hid (by rw [Enc.flat_snoc, hFL]; rfl)
            have HNO : Hid ((O ++ [d]).length = no + 1) := Lib.hid (by rw [List.length_append, hno]; rfl)
            have HSTP := Lib.hid (HDQ.out.stop HSB.out (.inr HME.out))
            have hol := HDQ.out.ol
            have HOP := Lib.hid HPQ.out.op
            rw [hFL] at HOP
            rw [hno] at HOP hol
            have hszt := HPQ.out.sz.2
            clear hFL hno q0 q1 q2 q3 q4 q5 q6 f0 f1 f2 f3
            go_wp2_with (at_builtin; refine list_app3S rfl _ _ rfl _ _ no FL (by rfl) (by rfl) HOP.out (by omega) (by omega) (by rfl) (by simp [Value.oneCell']) ?_; intro g9 cap9 w9 hown9 hgrow9 hnew9)
            have HW9 := Lib.hid hown9; have HG9 := Lib.hid hgrow9; have HN9 := Lib.hid hnew9
            clear hown9 hgrow9 hnew9
            rw [← ha]
            go_roundg (nn - (j + 1))
            case rel =>
             have hal := (Below.refl wt.heap.size wt).alloc (Nat.le_refl _) (.cells #[.string d] 9)
             have hn9 := HN9.out
             exact ⟨j + 1, _, _, O ++ [d], _, by omega, rfl, by go_num, HSTP.out, (HPQ.out.keep hal).stop HG9.out (by rw [HFL.out, HNO.out]; exact HW9.out) hn9⟩
            case measure => omega
          | some u =>
            rw [hmo] at HTG
            dsimp only at HTG
            have HME := Lib.hid hmo
            clear hmo
            go_upto_region 24 with (first
             | (go_at_call 117; (with_reducible refine HLK.out.mono ?_); rintro e wl ⟨rfl, hq⟩; have hqs := below_up hqs hq; skip; have HPQ := Lib.hid (HPQ.out.keep hq); have HXQ := Lib.hid (HXQ.out.keep hq); obtain ⟨q0, q1, q2, q3, q4, q5, q6⟩ := HPQ.out.vw.seven; obtain ⟨f0, f1, f2, f3⟩ := HXQ.out.four)
             | (go_at_call 127; (with_reducible refine (HSR.out _ hqs).mono ?_); rintro e ws ⟨rfl, hq⟩; have hqs := below_up hqs hq; skip; have HPQ := Lib.hid (HPQ.out.keep hq); have HXQ := Lib.hid (HXQ.out.keep hq); obtain ⟨q0, q1, q2, q3, q4, q5, q6⟩ := HPQ.out.vw.seven; obtain ⟨f0, f1, f2, f3⟩ := HXQ.out.four)
             | (go_at_call 128; (with_reducible refine (HTG.out _ hqs).mono ?_); rintro e wt ⟨hq, vt, hrow, rfl⟩; have HVL := Lib.hid HPQ.out.mvlt; have hw1 := HPQ.out.sz.2; have hqs := below_up hqs hq; skip; have HPQ := Lib.hid (HPQ.out.keep hq); have HXQ := Lib.hid (HXQ.out.keep hq); obtain ⟨q0, q1, q2, q3, q4, q5, q6⟩ := HPQ.out.vw.seven; obtain ⟨f0, f1, f2, f3⟩ := HXQ.out.four))
            have hsz2 := hq.size
            obtain ⟨hmF, hmD⟩ := HDQ.out.more HSB.out HGP.out HME.out
            have hmlen := hmD.len
            have HMD := Lib.hid hmD
            have hmm : St.morM t d u = St.evM t u f.size ++ [⟨1, d, (St.cheap (St.goodL t d)).name, u.name⟩] := by rw [HFZ.out.2, ← HDQ.out.fl]; rfl
            have HACL := Lib.hid (St.mor_acc HDQ.out.r HGP.out HME.out)
            obtain ⟨L, hL⟩ : ∃ L, St.morM t d u = L := ⟨_, rfl⟩
            rw [hL] at hmm hmlen HMD HACL
            generalize (St.cheap (St.goodL t d)).name = cn at *
            obtain ⟨FE, hFE⟩ : ∃ FE, St.eM.flat (St.evM t u f.size) = FE := ⟨_, rfl⟩
            obtain ⟨ne, hne⟩ : ∃ ne, (St.evM t u f.size).length = ne := ⟨_, rfl⟩
            have HFL : Hid (St.eM.flat L = FE ++ [.int .i64 1, .string d, .string cn, .string u.name]) := Lib.hid (by rw [hmm, Enc.flat_snoc, hFE]; rfl)
            have HLL : Hid (L.length = ne + 1) := Lib.hid (by rw [hmm, List.length_append, hne]; rfl)
            rw [hFE, hne] at hrow
            have hne2 : ne ≤ 100000 := by have := HLL.out; rw [List.length_append] at hmlen; omega
            have HRW := Lib.hid hrow
            clear hmF hmD hmm hL hFE hne hrow
            go_upto_region 25 with (at_builtin; refine list_app3M rfl _ _ rfl _ _ ne FE (by rfl) (by rfl) HRW.out (by omega) (by omega) (by rfl) (by simp [Value.oneCell']) ?_; intro g9 cap9 w9 hown9 hgrow9 hnew9)
            have hal := (Below.refl wt.heap.size wt).alloc (Nat.le_refl _) (.cells #[.int .i64 1, .string d, .string cn, .string u.name] 52)
            have HP9 := Lib.hid ((HPQ.out.keep hal).other (HRW.out.alloc _) hw1 (fun g hg e => by have h1 := HVL.out g hg; have h2 := (HRW.out.lt g e).1; omega) hgrow9)
            have HX9 := Lib.hid ((HXQ.out.keep hal).farOwn (HRW.out.alloc _) (by decide) hgrow9)
            have HR9 := Lib.hid hown9
            have HG9 : Hid (W1.heap.size ≤ g9) := Lib.hid (by have := (hown9.lt g9 rfl).1; omega)
            have hwsz := HP9.out.sz
            obtain ⟨hcc9, hcc8⟩ := (OwnV.of_own hown9).caps
            clear hal hown9 hgrow9 hnew9 q0 q1 q2 q3 q4 q5 q6 f0 f1 f2 f3 hq hqs HPQ HXQ HRW HVL
            go_wp2_with fail
            go_loopg [92] (ne + 1) (fun gk i wr => ∃ (k : Nat) (c : StA), k ≤ ne + 1 ∧ gk = ne + 1 - k ∧ i = .int .i64 k ∧ PlrIn w W1.heap.size (St.mvs t (L.take k)) c ms u4 O u5 NL (.slice g8 nn cap8) wr ∧ w9.grownBy wr (some w.heap.size))
            case atStart => exact ⟨0, b2, by omega, rfl, rfl, by simpa [St.mvs] using HP9.out, grown_refl _ _⟩
            case round =>
             obtain ⟨k, c, hk, rfl, rfl, hp, hgr⟩ := hrel
             clear HP9
             by_cases hkl : k < ne + 1
             ·obtain ⟨x, hx⟩ : ∃ x, L[k]? = some x := ⟨_, List.getElem?_eq_getElem (by rw [HLL.out]; exact hkl)⟩
              obtain ⟨hac, hrk⟩ := St.acc_get HDQ.out.r HACL.out hx
              have htk : St.mvs t (L.take (k + 1)) = St.mvS (St.mvs t (L.take k)) x := by
               rw [List.take_add_one, hx]
               exact St.mvs_snoc _ _ _
              have hrw := HR9.out.kept hgr (.inr (by intro e; have := HG9.out; have e2 : g9 = w.heap.size := Option.some.inj e; omega))
              obtain ⟨b5, off5, ha5, hb5, hcell5⟩ := (RowE.ofV (E := St.eM) (ca := cap9) (L := L) (by rw [HLL.out, HFL.out]; exact OwnV.of_own hrw)) (by rw [HLL.out]; omega)
              cases ha5
              have c0 : wr.cell? ⟨g9, 0 + k * 4, none⟩ = some (.int .i64 x.kind) := hcell5 k x hx 0 (.int .i64 x.kind) rfl
              have c1 : wr.cell? ⟨g9, 0 + k * 4 + 1, none⟩ = some (.string x.dig) := hcell5 k x hx 1 (.string x.dig) rfl
              have c2 : wr.cell? ⟨g9, 0 + k * 4 + 2, none⟩ = some (.string x.frm) := hcell5 k x hx 2 (.string x.frm) rfl
              have c3 : wr.cell? ⟨g9, 0 + k * 4 + 3, none⟩ = some (.string x.dst) := hcell5 k x hx 3 (.string x.dst) rfl
              rw [Nat.zero_add] at c0 c1 c2 c3
              obtain ⟨W3, hW3, hX3, hz3, hB3⟩ := box wr #[.int .i64 x.kind, .string x.dig, .string x.frm, .string x.dst] 52
              have HW3 := Lib.hid hW3
              have hp3 := hp.keep hB3
              have HP3 := Lib.hid hp3
              have HGR3 := Lib.hid (hgr.trans (grown_belowQ hB3 _))
              have HMV := Lib.hid (movedR_is (St.mvs t (L.take k)) c x W3 (hp3.in_ hrk) hrk hac)
              unfold OwnPut at HMV
              rw [← htk] at HMV
              obtain ⟨t', ht'⟩ : ∃ t', St.mvs t (L.take (k + 1)) = t' := ⟨_, rfl⟩
              have HT' := Lib.hid ht'
              rw [ht'] at HMV
              generalize St.mvs t (L.take k) = tk at *
              obtain ⟨e0, e1, e2, e3⟩ := hX3.four
              obtain ⟨q0, q1, q2, q3, q4, q5, q6⟩ := hp3.vw.seven
              have hj0 : (0 : Int) ≤ (k : Int) := by omega
              have hj1 : (k : Int) < (ne : Int) + 1 := by omega
              clear hx hac hrk htk hb5 hcell5 hW3 hX3 hz3 hB3 hp hp3 hgr hrw ht'
              go_upto_region 28 with fail
              rw [HW3.out]
              clear c0 c1 c2 c3
              go_upto_region 29 with (first
               | (go_at_call 126; (with_reducible refine HMV.out.mono ?_); rintro e w11 ⟨c', rfl, hog, hq⟩)
               | (refine wpList_store_row rfl 28 _ _ rfl w.heap.size #[.int .i64 t'.least, .int .i64 t'.wait, .slice c'.ta t'.tiers.length c'.tc, .slice c'.fa t'.files.length c'.fc, .slice c'.ca t'.copies.length c'.cc, .slice c'.ha t'.held.length c'.hc, .slice c'.ba t'.bin.length c'.bc] rfl rfl 28 _ (HP3.out.vw.keep hq) infoSto rfl (by simp [Value.oneCell']) ?_))
              have HP11 := Lib.hid (HP3.out.box hq hog)
              have HG11 := Lib.hid ((HGR3.out.trans (grown_belowQ hq _)).trans (setRow_grown w11 w.heap.size #[.int .i64 t'.least, .int .i64 t'.wait, .slice c'.ta t'.tiers.length c'.tc, .slice c'.fa t'.files.length c'.fc, .slice c'.ca t'.copies.length c'.cc, .slice c'.ha t'.held.length c'.hc, .slice c'.ba t'.bin.length c'.bc]))
              generalize w11.setRow w.heap.size #[.int .i64 t'.least, .int .i64 t'.wait, .slice c'.ta t'.tiers.length c'.tc, .slice c'.fa t'.files.length c'.fc, .slice c'.ca t'.copies.length c'.cc, .slice c'.ha t'.held.length c'.hc, .slice c'.ba t'.bin.length c'.bc] = w12 at *
              clear hog hq q0 q1 q2 q3 q4 q5 q6 e0 e1 e2 e3
              go_wp2_with fail
              go_roundg (ne + 1 - (k + 1))
              case rel => exact ⟨k + 1, c', by omega, rfl, by go_num, by rw [HT'.out]; exact HP11.out, HG11.out⟩
              case measure => omega
             ·obtain rfl : k = ne + 1 := by omega
              rw [List.take_of_length_le (by rw [HLL.out]; exact Nat.le_refl _)] at hp
              obtain ⟨t2, ht2⟩ : ∃ t2, St.mvs t L = t2 := ⟨_, rfl⟩
              rw [ht2] at hp HMD
              have HPK := Lib.hid hp
              have hrw := HR9.out.kept hgr (.inr (by intro e; have := HG9.out; have e2 : g9 = w.heap.size := Option.some.inj e; omega))
              have hxk : Blk wr fq #[.string d, .int .i64 f.size, .int .i64 f.kind, .string f.frm] 30 := HX9.out.of_block (hgr.block fq (Array.getElem?_eq_some_iff.1 HX9.out).1 (by intro e; have e2 := Option.some.inj e; have := HFB.out; omega))
              have HXK := Lib.hid hxk
              have HRK := Lib.hid hrw
              obtain ⟨FM, hFM⟩ : ∃ FM, St.eM.flat ms = FM := ⟨_, rfl⟩
              obtain ⟨nm, hnm⟩ : ∃ nm, ms.length = nm := ⟨_, rfl⟩
              have HMV := Lib.hid hp.mv
              rw [hFM, hnm] at HMV
              have HFM : Hid (St.eM.flat (ms ++ L) = FM ++ (FE ++ [.int .i64 1, .string d, .string cn, .string u.name])) := Lib.hid (by rw [Enc.flat_append, hFM, HFL.out])
              have HNM : Hid ((ms ++ L).length = nm + (ne + 1)) := Lib.hid (by rw [List.length_append, hnm, HLL.out])
              have HOC : Hid (∀ u' ∈ FE ++ [.int .i64 1, .string d, .string cn, .string u.name], u'.oneCell' = true) := Lib.hid (by rw [← HFL.out]; exact Enc.flat_one St.eM L)
              have hnm2 : nm ≤ 100000 := by rw [List.length_append, hnm] at hmlen; omega
              have hwk := hp.sz.2
              clear hp hgr hrw hxk hFM hnm ht2 HR9 HX9
              go_wp2_with (at_builtin; refine list_catM rfl _ _ rfl W1.heap.size u4 nm FM (by rfl) g9 (ne + 1) cap9 _ _ (by rfl) (by omega) HRK.out HOC.out HMV.out (by omega) hwk ?_; intro g11 cap11 w11 hown11 hgrow11 hnew11)
              go_roundg (gk - 1)
              case rel => exact ⟨t2, ms ++ L, c, rfl, HMD.out, HPK.out.more hgrow11 (by rw [HFM.out, HNM.out]; exact hown11), HXK.out.farOwn HMV.out (by decide) hgrow11⟩
              case measure => have := (HDQ.out.more HSB.out HGP.out HME.out).1; omega
      ·obtain rfl : j = nn := by omega
       have heq := hpl.eq
       rw [List.drop_eq_nil_of_le (by rw [HNN.out]; exact Nat.le_refl _)] at heq
       have HEQ : Hid (St.plan s = (t, ms, O)) := Lib.hid (by rw [heq]; unfold St.plAdd St.planL; rw [List.append_nil, List.append_nil])
       obtain ⟨gm, cm, rfl⟩ := ownV_slice (OwnV.of_own hp.mv)
       obtain ⟨go, co, rfl⟩ := ownV_slice (OwnV.of_own hp.op)
       have HRM := Lib.hid (RowE.ofV (E := St.eM) (ca := cm) (L := ms) (OwnV.of_own hp.mv))
       have HRO := Lib.hid (RowE.ofV (E := St.eS) (ca := co) (L := O) (OwnV.of_own hp.op))
       have HBZ := Lib.hid hp.bl
       clear hpl hp heq
       go_wp2_with fail
       go_ret2
       unfold PlndPost
       rw [HEQ.out]
       exact ⟨gm, _, cm, go, _, co, rfl, rfl, rfl, HRM.out, HRO.out, HBZ.out⟩
end Go.Proofs.YthdiccdnggloiaaGreatDoor
