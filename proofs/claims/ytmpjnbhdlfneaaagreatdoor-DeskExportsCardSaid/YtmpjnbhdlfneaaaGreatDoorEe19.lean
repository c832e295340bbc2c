/- Parts of the proof, no condition: ExLnB. -/
import Derived.Test.YtmpjnbhdlfneaaaGreatDoorEe17
set_option maxRecDepth 100000
set_option maxHeartbeats 8000000
set_option linter.unusedSimpArgs false
set_option linter.unusedVariables false
namespace Go.Proofs.YtmpjnbhdlfneaaaGreatDoor
open Go.RowKit Go.Sort Go.Shelf

theorem photoLine_shown (p : Ph) (w : World) (hh : p.hid = false) (hI : p.In w) (hR : p.Room) (k : Ex.Ok p) (ht : Tx.Tab w) :
  Calls Tryz.prog 13 #[.agg #[.int .i64 p.id, .string p.file, .int .i64 p.mom, .int .i64 p.zone, .slice p.wa p.wn p.wc, .int .i64 p.W, .int .i64 p.H, .int .i64 p.turn, .int .i64 p.stars, .slice p.ta p.tn p.tc, .string p.cap, .slice p.pa p.pn p.pc, .bool p.hid]] w fun e w' => e = .returned (.string (Tx.mk (Ex.line p))) ∧ Below w.heap.size w w' := by
 have HH := Lib.hid hh
 clear hh
 obtain ⟨W1, hW1, hP, hz1, hB1⟩ := box w #[.int .i64 p.id, .string p.file, .int .i64 p.mom, .int .i64 p.zone, .slice p.wa p.wn p.wc, .int .i64 p.W, .int .i64 p.H, .int .i64 p.turn, .int .i64 p.stars, .slice p.ta p.tn p.tc, .string p.cap, .slice p.pa p.pn p.pc, .bool p.hid] 41
 have HW1 := Lib.hid hW1; have HB1 := Lib.hid hB1; have HP := Lib.hid hP; have HZ1 := Lib.hid hz1
 have HI := Lib.hid (hI.keep hB1); have HT := Lib.hid (Tx.tab_below ht hB1); have HK := Lib.hid k; have HRM := Lib.hid hR
 obtain ⟨p0, p1, p2, p3, p4, p5, p6, p7, p8, p9, p10, p11, p12⟩ := hP.photo
 have hwn := k.wn
 clear hW1 hP hB1 hI hR k ht hz1
 obtain ⟨n, hn⟩ : ∃ n, p.wn = n := ⟨_, rfl⟩
 have HN := Lib.hid hn
 rw [hn] at p4 hwn
 clear hn
 go_enter Tryz.func13, Tryz.ntmps13
 go_upto_region 1 with fail
 rw [HW1.out]
 go_wp2_with fail
 go_loopg [3, 11] n (fun gk s3 i wr => ∃ j : Nat, j ≤ n ∧ gk = n - j ∧ i = .int .i64 j ∧ wr.ownsRow W1.heap.size 3 1 s3 (2 * j) ((Ex.fl p.lat p.lon j).map (Value.int .i64)) ∧ Below W1.heap.size W1 wr)
 case atStart => exact ⟨0, by omega, rfl, rfl, World.ownsRow_nil _ _ _ _, Below.refl _ _⟩
 case round =>
  obtain ⟨j, hj, rfl, rfl, hown, hB⟩ := hrel
  by_cases hlt : j < n
  ·obtain ⟨b1, o1, ha1, hb1, hc1⟩ := (HI.out.keep hB).places (by rw [HN.out]; omega)
   have x0 : wr.cell? ⟨b1, o1 + j * 2, none⟩ = some (.int .i64 (p.lat j)) := (hc1 j (by rw [HN.out]; exact hlt)).1
   have x1 : wr.cell? ⟨b1, o1 + j * 2 + 1, none⟩ = some (.int .i64 (p.lon j)) := (hc1 j (by rw [HN.out]; exact hlt)).2
   obtain ⟨W3, hW3, hX3, hz3, hB3⟩ := box wr #[.int .i64 (p.lat j), .int .i64 (p.lon j)] 59
   have HW3 := Lib.hid hW3
   obtain ⟨y0, y1⟩ := hX3.two
   have hown3 := own_keepC hown hB3
   have hB13 := below_up hB hB3
   have HST : Hid ((Ex.fl p.lat p.lon (j + 1)).map (Value.int .i64) = (Ex.fl p.lat p.lon j).map (Value.int .i64) ++ [.int .i64 (p.lat j), .int .i64 (p.lon j)]) := Lib.hid (by rw [Ex.fl, List.map_append]; rfl)
   have hj0 : (0 : Int) ≤ (j : Int) := by omega
   have hj1 : (j : Int) < (n : Int) := by omega
   have hws := hB13.size
   generalize (Ex.fl p.lat p.lon j).map (Value.int .i64) = XS at *
   generalize p.lat j = la at *
   generalize p.lon j = lo at *
   clear hc1 hW3 hown hB hX3 hB3 hz3
   rw [ha1]
   go_upto_region 5 with fail
   rw [HW3.out]
   go_wp2_with (at_builtin; refine list_appI2 rfl _ _ rfl _ _ (2 * j) XS (by rfl) (by rfl) hown3 (by omega) (by omega) (by rfl) (by simp [Value.oneCell']) ?_; intro g8 cap8 w8 hown8 hgrow8; have hB8 := below_grownC (below_allocs hB13 _) (hown3.alloc _) hgrow8 (by simp; omega))
   rw [← ha1]
   go_roundg (n - (j + 1))
   case rel => exact ⟨j + 1, by omega, rfl, by go_num, by rw [HST.out]; exact hown8, hB8⟩
   case measure => omega
  ·obtain rfl : n = j := by omega
   have hpl : Ex.fl p.lat p.lon n = Ex.plc p := by rw [← HN.out]; exact Ex.fl_plc HK.out.wn
   rw [hpl] at hown
   have HOW := Lib.hid hown
   clear hpl
   have HSX : Hid (∀ V, Below wr.heap.size wr V → V.cell? ⟨w.heap.size, 0, none⟩ = some (.int .i64 p.id) ∧ V.cell? ⟨w.heap.size, 1, none⟩ = some (.string p.file) ∧ V.cell? ⟨w.heap.size, 2, none⟩ = some (.int .i64 p.mom) ∧ V.cell? ⟨w.heap.size, 3, none⟩ = some (.int .i64 p.zone) ∧ V.cell? ⟨w.heap.size, 5, none⟩ = some (.int .i64 p.W) ∧ V.cell? ⟨w.heap.size, 6, none⟩ = some (.int .i64 p.H) ∧ V.cell? ⟨w.heap.size, 7, none⟩ = some (.int .i64 p.turn) ∧ V.cell? ⟨w.heap.size, 8, none⟩ = some (.int .i64 p.stars)) := Lib.hid (fun V hu => by
    obtain ⟨c0, c1, c2, c3, c4, c5, c6, c7, c8, c9, c10, c11, c12⟩ := (HP.out.keep (below_up hB hu)).photo
    exact ⟨c0, c1, c2, c3, c5, c6, c7, c8⟩)
   have HTX : Hid (∀ V, Below wr.heap.size wr V → V.cell? ⟨w.heap.size, 9, none⟩ = some (.slice p.ta p.tn p.tc) ∧ V.cell? ⟨w.heap.size, 10, none⟩ = some (.string p.cap) ∧ V.cell? ⟨w.heap.size, 11, none⟩ = some (.slice p.pa p.pn p.pc)) := Lib.hid (fun V hu => by
    obtain ⟨c0, c1, c2, c3, c4, c5, c6, c7, c8, c9, c10, c11, c12⟩ := (HP.out.keep (below_up hB hu)).photo
    exact ⟨c9, c10, c11⟩)
   have HIT := Lib.hid (fun V (hu : Below wr.heap.size wr V) => itoaC p.id (by have := HK.out.id; omega) V (Tx.tab_below HT.out (below_up hB hu)))
   have HDG : Hid (∀ V g, Below wr.heap.size wr V → Row V (some ⟨g, 0, none⟩) (Ex.six p).length (fun i => .int .i64 ((Ex.six p).getD i 0)) → Calls Tryz.prog 28 #[.slice (some ⟨g, 0, none⟩) 6 6] V (SRPost V ((Ex.six p).map Lib.itoa))) := Lib.hid (fun V g hu hr => digits_is (Ex.six p) (some ⟨g, 0, none⟩) 6 V (Tx.tab_below HT.out (below_up hB hu)) hr (fun x hx => by have := Ex.six_bd HK.out x hx; omega) (by simp [Ex.six]))
   unfold SRPost at HDG
   obtain ⟨gq, cq, rfl, hrq⟩ := own_rowInt hown
   have hl1 : (Ex.plc p).length = 2 * n := by rw [← Ex.fl_plc HK.out.wn, Ex.fl_len, HN.out]
   have HD1 : Hid (∀ V, Below wr.heap.size wr V → Calls Tryz.prog 28 #[.slice gq (2 * n) cq] V fun e w' => ∃ g c, e = .returned (.slice g (2 * n) c) ∧ SR w' g ((Ex.plc p).map Lib.itoa) ∧ 2 * n ≤ c ∧ Below V.heap.size V w') := Lib.hid (fun V hu => by
    have := digits_is (Ex.plc p) gq cq V (Tx.tab_below HT.out (below_up hB hu)) (Row.keep hrq hu) (fun x hx => by have := Ex.plc_bd HK.out x hx; omega) (by omega)
    rw [hl1] at this
    refine this.mono ?_
    rintro e w' ⟨g, c, rfl, h1, h2, h3⟩
    rw [List.length_map, hl1] at h2
    exact ⟨g, c, by rw [List.length_map, hl1], h1, h2.1, h3⟩)
   have HD2 : Hid (∀ V, Below wr.heap.size wr V → Calls Tryz.prog 28 #[.slice p.pa p.pn p.pc] V fun e w' => ∃ g c, e = .returned (.slice g p.pn c) ∧ SR w' g ((Ex.who p).map Lib.itoa) ∧ p.pn ≤ c ∧ Below V.heap.size V w') := Lib.hid (fun V hu => by
    have hr := (HI.out.keep (below_up hB hu)).people
    have hl := Ex.who_len p
    have := digits_is (Ex.who p) p.pa p.pc V (Tx.tab_below HT.out (below_up hB hu)) (by
     rw [hl]
     intro h0
     obtain ⟨b, o, e1, e2, e3⟩ := hr h0
     refine ⟨b, o, e1, e2, fun i hi => ?_⟩
     rw [e3 i hi]
     show _ = some (Value.int .i64 ((Ex.who p).getD i 0))
     unfold Ex.who
     rw [List.getD_eq_getElem?_getD, List.getElem?_map, List.getElem?_range hi]; rfl) (fun x hx => by have := Ex.who_bd HK.out x hx; omega) (by rw [hl]; have := HK.out.pn; omega)
    rw [hl] at this
    refine this.mono ?_
    rintro e w' ⟨g, c, rfl, h1, h2, h3⟩
    rw [List.length_map, hl] at h2
    exact ⟨g, c, by rw [List.length_map, hl], h1, h2.1, h3⟩)
   have HL1 : Hid (∀ V g c, SR V g ((Ex.plc p).map Lib.itoa) → 2 * n ≤ c → Calls Tryz.prog 29 #[.slice g (2 * n) c] V fun e w' => e = .returned (.string (Tx.mk (Ex.lst ((Ex.plc p).map Lib.itoa)))) ∧ Below V.heap.size V w') := Lib.hid (fun V g c h hc => by
    have hl : ((Ex.plc p).map Lib.itoa).length = 2 * n := by rw [List.length_map, hl1]
    have := list_is ((Ex.plc p).map Lib.itoa) g c V h (by omega) (by omega) (by have := (Ex.lst_le (n := 2) (k := 21) (by rw [List.length_map]; exact Ex.plc_len p) (Ex.map_le (k := 0) (fun y hy => by have := Ex.plc_bd HK.out y hy; omega))).1; omega)
    rwa [hl] at this)
   have HL2 : Hid (∀ V g c, SR V g ((Ex.who p).map Lib.itoa) → p.pn ≤ c → Calls Tryz.prog 29 #[.slice g p.pn c] V fun e w' => e = .returned (.string (Tx.mk (Ex.lst ((Ex.who p).map Lib.itoa)))) ∧ Below V.heap.size V w') := Lib.hid (fun V g c h hc => by
    have hl : ((Ex.who p).map Lib.itoa).length = p.pn := by rw [List.length_map, Ex.who_len]
    have hpn := HK.out.pn
    have := list_is ((Ex.who p).map Lib.itoa) g c V h (by omega) (by omega) (by have := (Ex.lst_le (L := (Ex.who p).map Lib.itoa) (n := 20) (k := 21) (by omega) (Ex.map_le (k := 0) (fun y hy => by have := Ex.who_bd HK.out y hy; omega))).1; omega)
    rwa [hl] at this)
   have HL3 : Hid (∀ V, Below wr.heap.size wr V → Calls Tryz.prog 29 #[.slice p.ta p.tn p.tc] V fun e w' => e = .returned (.string (Tx.mk (Ex.lst (Ex.tags p)))) ∧ Below V.heap.size V w') := Lib.hid (fun V hu => by
    have hl := Ex.tags_len p
    have htn := HK.out.tn
    have := list_is (Ex.tags p) p.ta p.tc V (Ex.tags_sr (HI.out.keep (below_up hB hu))) (by have := HRM.out.1; omega) (by omega) (by have := (Ex.lst_le (L := Ex.tags p) (n := 20) (k := 40) (by omega) (Ex.tags_bd HK.out)).1; omega)
    rwa [hl] at this)
   have HQ := Lib.hid (fun V => quotedD_is p.cap (by have := HK.out.cap; omega) V)
   obtain ⟨i0, hi, hz0, hz1', hz2⟩ := info_parts infoStr
   have HI0 := Lib.hid hi; have HI1 := Lib.hid hz0; have HI2 := Lib.hid hz1'; have HI3 := Lib.hid hz2
   clear hi hz0 hz1' hz2
   have r12 := (HP.out.keep hB).photo.2.2.2.2.2.2.2.2.2.2.2.2
   have hu : Below wr.heap.size wr wr.drew := (Below.refl _ _).drew
   have HBW := Lib.hid hB
   clear p0 p1 p2 p3 p4 p5 p6 p7 p8 p9 p10 p11 p12 hown hrq hl1 hB
   rw [HH.out] at r12
   go_upto_region 10 with fail
   have hs : (fun V : World => V.cell? ⟨w.heap.size, 0, none⟩ = some (.int .i64 p.id) ∧ V.cell? ⟨w.heap.size, 1, none⟩ = some (.string p.file) ∧ V.cell? ⟨w.heap.size, 2, none⟩ = some (.int .i64 p.mom) ∧ V.cell? ⟨w.heap.size, 3, none⟩ = some (.int .i64 p.zone) ∧ V.cell? ⟨w.heap.size, 5, none⟩ = some (.int .i64 p.W) ∧ V.cell? ⟨w.heap.size, 6, none⟩ = some (.int .i64 p.H) ∧ V.cell? ⟨w.heap.size, 7, none⟩ = some (.int .i64 p.turn) ∧ V.cell? ⟨w.heap.size, 8, none⟩ = some (.int .i64 p.stars)) wr.drew := HSX.out _ hu
   go_region_held3 (fun V : World => V.cell? ⟨w.heap.size, 0, none⟩ = some (.int .i64 p.id) ∧ V.cell? ⟨w.heap.size, 1, none⟩ = some (.string p.file) ∧ V.cell? ⟨w.heap.size, 2, none⟩ = some (.int .i64 p.mom) ∧ V.cell? ⟨w.heap.size, 3, none⟩ = some (.int .i64 p.zone) ∧ V.cell? ⟨w.heap.size, 5, none⟩ = some (.int .i64 p.W) ∧ V.cell? ⟨w.heap.size, 6, none⟩ = some (.int .i64 p.H) ∧ V.cell? ⟨w.heap.size, 7, none⟩ = some (.int .i64 p.turn) ∧ V.cell? ⟨w.heap.size, 8, none⟩ = some (.int .i64 p.stars)) (first | (with_reducible exact hs) | (with_reducible exact HSX.out _ hu4) | (with_reducible exact HSX.out _ hu5) | (with_reducible exact HSX.out _ hu8) | (with_reducible exact HSX.out _ ((below_allocs (Below.refl _ _) _).drew)) | go_keep)
    (first
     | (go_at_call 27; first
       | ((with_reducible refine (HIT.out _ hu).mono ?_); rintro e w4 ⟨rfl, hq⟩; have hu4 := below_up hu hq)
       | ((with_reducible refine (HIT.out _ ((below_allocs (Below.refl _ _) _).drew)).mono ?_); rintro e w4 ⟨rfl, hq⟩; have hi4 := Row.keep (Row.keep (rowSix p wr wr.heap.size rfl) ((Below.refl _ _).drew)) hq; have hu4 := below_up ((below_allocs (Below.refl wr.heap.size wr) _).drew) hq))
     | (go_at_call 28; first
       | ((with_reducible refine (HDG.out _ _ (below_allocs (below_allocs hu4 _) _) (rowSix p (w4.alloc (.cells #[.string ⟨#[112, 104, 111, 116, 111]⟩, .string (Cx.num p.id), .string p.file] 9)) _ (by simp))).mono ?_); rintro e w5 ⟨g5, c5, rfl, hsr5, hc5, hq⟩; have hu5 := below_up (below_allocs (below_allocs hu4 _) _) hq; have hown5 := own_keepC ((World.ownsRow_lit (base := wr.heap.size) (e := 9) (size := 1) w4 #[.string ⟨#[112, 104, 111, 116, 111]⟩, .string (Cx.num p.id), .string p.file] 3 hu4.size (by decide) rfl).alloc (.cells #[.int .i64 p.mom, .int .i64 p.zone, .int .i64 p.W, .int .i64 p.H, .int .i64 p.turn, .int .i64 p.stars] 3)) hq; obtain ⟨b5, o5, hg5, hb5, hcell5⟩ := hsr5 (by simp [Ex.six]); subst hg5; have hs5 := hu5.size)
       | ((with_reducible refine (HDG.out _ _ (below_allocs (below_allocs hu4 _) _) (Row.keep (rowSix p w4 _ rfl) (below_allocs (Below.refl _ _) (.cells #[.string ⟨#[112, 104, 111, 116, 111]⟩, .string (Cx.num p.id), .string p.file] 9)))).mono ?_); rintro e w5 ⟨g5, c5, rfl, hsr5, hc5, hq⟩; have hu5 := below_up (below_allocs (below_allocs hu4 _) _) hq; have hown5 := own_keepC (World.ownsRow_lit (base := wr.heap.size) (e := 9) (size := 1) (w4.alloc (.cells #[.int .i64 p.mom, .int .i64 p.zone, .int .i64 p.W, .int .i64 p.H, .int .i64 p.turn, .int .i64 p.stars] 3)) #[.string ⟨#[112, 104, 111, 116, 111]⟩, .string (Cx.num p.id), .string p.file] 3 (below_allocs hu4 _).size (by decide) rfl) hq; simp only [World.size_alloc] at hown5; obtain ⟨b5, o5, hg5, hb5, hcell5⟩ := hsr5 (by simp [Ex.six]); subst hg5; have hs5 := hu5.size)
       | ((with_reducible refine (HDG.out _ _ (below_allocs hu4 _) (Row.keep hi4 (below_allocs (Below.refl _ _) (.cells #[.string ⟨#[112, 104, 111, 116, 111]⟩, .string (Cx.num p.id), .string p.file] 9)))).mono ?_); rintro e w5 ⟨g5, c5, rfl, hsr5, hc5, hq⟩; have hu5 := below_up (below_allocs hu4 _) hq; have hown5 := own_keepC (World.ownsRow_lit (base := wr.heap.size) (e := 9) (size := 1) w4 #[.string ⟨#[112, 104, 111, 116, 111]⟩, .string (Cx.num p.id), .string p.file] 3 hu4.size (by decide) rfl) hq; obtain ⟨b5, o5, hg5, hb5, hcell5⟩ := hsr5 (by simp [Ex.six]); subst hg5; have hs5 := hu5.size)
       | ((with_reducible refine (HDG.out _ _ (below_allocs hu4 _) (rowSix p w4 _ rfl)).mono ?_); rintro e w5 ⟨g5, c5, rfl, hsr5, hc5, hq⟩; have hu5 := below_up (below_allocs hu4 _) hq; obtain ⟨b5, o5, hg5, hb5, hcell5⟩ := hsr5 (by simp [Ex.six]); subst hg5; have hs5 := hu5.size)
       | ((with_reducible refine (HDG.out _ _ hu4 hi4).mono ?_); rintro e w5 ⟨g5, c5, rfl, hsr5, hc5, hq⟩; have hu5 := below_up hu4 hq; obtain ⟨b5, o5, hg5, hb5, hcell5⟩ := hsr5 (by simp [Ex.six]); subst hg5; have hs5 := hu5.size))
     | (first
       | (refine step_append_lies _ (by rfl) _ _ _ (by rfl) wr.heap.size 9 i0 (.string ByteArray.empty) 1 16 Tryz.underlying38 HI0.out HI1.out HI2.out HI3.out rfl (by decide) _ 3 _ (by rfl) hown5 ⟨b5, o5, none⟩ 6 c5 (((Ex.six p).map Lib.itoa).map strV) (by rfl) (by rfl) (news_sr hcell5) (by simp [Value.oneCell', strV]) (by decide) (by unfold maxLen; omega) (by omega) hs5 _ rfl ?_; intro g8 cap8 w8 hown8 hgrow8 hor8 hlt8; have hu8 := below_grownC hu5 hown5 hgrow8 hs5)
       | (refine step_append_lies _ (by rfl) _ _ _ (by rfl) wr.heap.size 9 i0 (.string ByteArray.empty) 1 16 Tryz.underlying38 HI0.out HI1.out HI2.out HI3.out rfl (by decide) _ 3 _ (by rfl) (World.ownsRow_lit (base := wr.heap.size) (e := 9) (size := 1) w5 #[.string ⟨#[112, 104, 111, 116, 111]⟩, .string (Cx.num p.id), .string p.file] 3 hs5 (by decide) rfl) ⟨b5, o5, none⟩ 6 c5 (((Ex.six p).map Lib.itoa).map strV) (by rfl) (by rfl) (news_sr (fun i hi => cell_below (below_allocs (Below.refl _ _) _) (hcell5 i hi))) (by simp [Value.oneCell', strV]) (by decide) (by unfold maxLen; omega) (by omega) (below_allocs hu5 _).size _ rfl ?_; intro g8 cap8 w8 hown8 hgrow8 hor8 hlt8; have hu8 := below_grownC (below_allocs hu5 _) (World.ownsRow_lit (base := wr.heap.size) (e := 9) (size := 1) w5 #[.string ⟨#[112, 104, 111, 116, 111]⟩, .string (Cx.num p.id), .string p.file] 3 hs5 (by decide) rfl) hgrow8 (below_allocs hu5 _).size)))
   all_goals
    have HO8 : Hid (w8.ownsRow wr.heap.size 9 1 (.slice (some ⟨g8, 0, none⟩) 9 cap8) 9 ((Ex.head p ++ (Ex.six p).map Lib.itoa).map strV)) := Lib.hid (by rw [List.map_append]; exact hown8)
    clear hown8 hgrow8 hor8 hlt8 hs5 hu5 hu4 hu hs
    have hu := hu8.drew
    have hw : Below w8.heap.size w8 w8.drew := (Below.refl _ _).drew
    clear hu8
    go_upto_region 11 with fail
    have ht : (fun V : World => V.cell? ⟨w.heap.size, 9, none⟩ = some (.slice p.ta p.tn p.tc) ∧ V.cell? ⟨w.heap.size, 10, none⟩ = some (.string p.cap) ∧ V.cell? ⟨w.heap.size, 11, none⟩ = some (.slice p.pa p.pn p.pc)) w8.drew := HTX.out _ hu
    go_region_held3 (fun V : World => V.cell? ⟨w.heap.size, 9, none⟩ = some (.slice p.ta p.tn p.tc) ∧ V.cell? ⟨w.heap.size, 10, none⟩ = some (.string p.cap) ∧ V.cell? ⟨w.heap.size, 11, none⟩ = some (.slice p.pa p.pn p.pc)) (first | (with_reducible exact ht) | (with_reducible exact HTX.out _ hu) | go_keep)
     (first
      | (go_at_call 28; first
        | ((with_reducible refine (HD1.out _ hu).mono ?_); rintro e w9 ⟨g9, c9, rfl, hsr9, hc9, hq⟩; have hu := below_up hu hq; have hw := below_up hw hq)
        | ((with_reducible refine (HD2.out _ hu).mono ?_); rintro e w11 ⟨g11, c11, rfl, hsr11, hc11, hq⟩; have hu := below_up hu hq; have hw := below_up hw hq))
      | (go_at_call 29; first
        | ((with_reducible refine (HL1.out _ _ _ hsr9 hc9).mono ?_); rintro e w10 ⟨rfl, hq⟩; have hu := below_up hu hq; have hw := below_up hw hq)
        | ((with_reducible refine (HL2.out _ _ _ hsr11 hc11).mono ?_); rintro e w12 ⟨rfl, hq⟩; have hu := below_up hu hq; have hw := below_up hw hq)
        | ((with_reducible refine (HL3.out _ hu).mono ?_); rintro e w13 ⟨rfl, hq⟩; have hu := below_up hu hq; have hw := below_up hw hq))
      | (go_at_call 30; (with_reducible refine (HQ.out _).mono ?_); rintro e w14 ⟨rfl, hq⟩; have hu := below_up hu hq; have hw := below_up hw hq; have hown14 := (own_keepC HO8.out hw).alloc (.cells #[.string ⟨#[115, 104, 111, 119, 110]⟩, .string (Tx.mk (Ex.lst ((Ex.plc p).map Lib.itoa))), .string (Tx.mk (Ex.lst ((Ex.who p).map Lib.itoa))), .string (Tx.mk (Ex.lst (Ex.tags p))), .string (Tx.mk (Cx.qt p.cap.data.toList))] 9); have hs14 := (below_allocs hu (.cells #[.string ⟨#[115, 104, 111, 119, 110]⟩, .string (Tx.mk (Ex.lst ((Ex.plc p).map Lib.itoa))), .string (Tx.mk (Ex.lst ((Ex.who p).map Lib.itoa))), .string (Tx.mk (Ex.lst (Ex.tags p))), .string (Tx.mk (Cx.qt p.cap.data.toList))] 9)).size)
      | (refine step_append_lies _ (by rfl) _ _ _ (by rfl) wr.heap.size 9 i0 (.string ByteArray.empty) 1 16 Tryz.underlying38 HI0.out HI1.out HI2.out HI3.out rfl (by decide) _ 9 _ (by rfl) hown14 ⟨w14.heap.size, 0, none⟩ 5 5 [.string ⟨#[115, 104, 111, 119, 110]⟩, .string (Tx.mk (Ex.lst ((Ex.plc p).map Lib.itoa))), .string (Tx.mk (Ex.lst ((Ex.who p).map Lib.itoa))), .string (Tx.mk (Ex.lst (Ex.tags p))), .string (Tx.mk (Cx.qt p.cap.data.toList))] (by rfl) (by rfl) (World.news_of_block (cs := #[.string ⟨#[115, 104, 111, 119, 110]⟩, .string (Tx.mk (Ex.lst ((Ex.plc p).map Lib.itoa))), .string (Tx.mk (Ex.lst ((Ex.who p).map Lib.itoa))), .string (Tx.mk (Ex.lst (Ex.tags p))), .string (Tx.mk (Cx.qt p.cap.data.toList))]) (t := 9) (fr := (0, 0)) (Blk.new w14 _ 9)) (by simp [Value.oneCell']) (by decide) (by unfold maxLen; omega) (by omega) hs14 _ rfl ?_; intro g15 cap15 w15 hown15 hgrow15 hor15 hlt15; have hu := below_grownC (below_allocs hu _) hown14 hgrow15 hs14))
    have HF : Hid (w15.ownsRow wr.heap.size 9 1 (.slice (some ⟨g15, 0, none⟩) 14 cap15) 14 ((Ex.words p).map strV)) := Lib.hid (by
     have e : (Ex.words p).map strV = (Ex.head p ++ (Ex.six p).map Lib.itoa).map strV ++ [.string ⟨#[115, 104, 111, 119, 110]⟩, .string (Tx.mk (Ex.lst ((Ex.plc p).map Lib.itoa))), .string (Tx.mk (Ex.lst ((Ex.who p).map Lib.itoa))), .string (Tx.mk (Ex.lst (Ex.tags p))), .string (Tx.mk (Cx.qt p.cap.data.toList))] := by
      unfold Ex.words Ex.tail Ex.seen
      rw [List.map_append]
      first | rw [if_pos HH.out] | rw [if_neg (by rw [HH.out]; decide)]
      rfl
     rw [e]; exact hown15)
    have HJ := Lib.hid (join_is (Ex.words p) [32] wr.heap.size _ 14 w15 HF.out (by omega) (by have := Ex.line_le HK.out; unfold Ex.line at this; omega))
    clear hown15 hgrow15 hor15 hlt15 hown14 hs14 hw ht
    go_wp2_with (go_at_call 31; (with_reducible refine HJ.out.mono ?_); rintro e w16 ⟨rfl, hq⟩)
    go_ret
    exact ⟨rfl, below_up HB1.out (below_up HBW.out (below_up hu hq))⟩
end Go.Proofs.YtmpjnbhdlfneaaaGreatDoor
