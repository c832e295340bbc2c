/- Parts of the proof, no condition: ExStr. -/
import Derived.Test.YtmpjnbhdlfneaaaGreatDoorEe17
set_option maxRecDepth 100000
set_option maxHeartbeats 16000000
set_option linter.unusedSimpArgs false
set_option linter.unusedVariables false
namespace Go.Proofs.YtmpjnbhdlfneaaaGreatDoor
open Go.RowKit Go.Sort Go.Shelf
theorem sr_of_own {w : World} {B n : Nat} {v : Value} {L : List (List UInt8)} (h : w.ownsRow B 9 1 v n (L.map strV)) : ∃ g c, v = .slice g n c ∧ SR w g L ∧ n ≤ c := by
 have hl := h.1
 rw [List.length_map, Nat.mul_one] at hl
 rcases own_formZ h with ⟨rfl, rfl⟩ | ⟨g, c, rfl, h1, h2⟩
 ·exact ⟨none, 0, rfl, fun h => by omega, Nat.le_refl _⟩
 ·exact ⟨some ⟨g, 0, none⟩, c, rfl, SR.of_own h, h1⟩
theorem sr_lit (V : World) (L : List (List UInt8)) (cs : Array Value) (hcs : cs = (L.map strV).toArray) : SR (V.alloc (.cells cs 9)) (some ⟨V.heap.size, 0, none⟩) L := by
 subst hcs
 intro _
 refine ⟨V.heap.size, 0, rfl, by simp, fun i hi => ?_⟩
 rw [Nat.zero_add, (Blk.new V _ _).cell, List.getElem?_toArray, List.getElem?_map, List.getElem?_eq_getElem hi]
 show _ = some (Value.string (Tx.mk (L.getD i [])))
 rw [List.getD_eq_getElem?_getD, List.getElem?_eq_getElem hi]; rfl
theorem photoString_is (p : Ph) (w : World) (hI : p.In w) (hR : p.Room) (k : Ex.Ok p) :
  Calls Tryz.prog 17 #[.agg #[.int .i64 p.id, .string p.file, .int .i64 p.mom, .int .i64 p.zone, .slice p.wa p.wn p.wc, .int .i64 p.W, .int .i64 p.H, .int .i64 p.turn, .int .i64 p.stars, .slice p.ta p.tn p.tc, .string p.cap, .slice p.pa p.pn p.pc, .bool p.hid]] w fun e w' => e = .returned (.string (Tx.mk (Ex.line p))) ∧ Below w.heap.size w w' := by
 obtain ⟨W1, hW1, hP, hz1, hB1⟩ := box w #[.int .i64 p.id, .string p.file, .int .i64 p.mom, .int .i64 p.zone, .slice p.wa p.wn p.wc, .int .i64 p.W, .int .i64 p.H, .int .i64 p.turn, .int .i64 p.stars, .slice p.ta p.tn p.tc, .string p.cap, .slice p.pa p.pn p.pc, .bool p.hid] 41
 have HW1 := Lib.hid hW1; have HB1 := Lib.hid hB1; have HP := Lib.hid hP
 have HI := Lib.hid (hI.keep hB1); have HK := Lib.hid k; have HRM := Lib.hid hR
 obtain ⟨p0, p1, p2, p3, p4, p5, p6, p7, p8, p9, p10, p11, p12⟩ := hP.photo
 have hwn := k.wn
 clear hW1 hP hB1 hI hR k hz1
 obtain ⟨n, hn⟩ : ∃ n, p.wn = n := ⟨_, rfl⟩
 have HN := Lib.hid hn
 rw [hn] at p4 hwn
 clear hn
 obtain ⟨i0, hi, hz0, hz1', hz2⟩ := info_parts infoStr
 have HI0 := Lib.hid hi; have HI1 := Lib.hid hz0; have HI2 := Lib.hid hz1'; have HI3 := Lib.hid hz2
 clear hi hz0 hz1' hz2
 go_enter Tryz.func17, Tryz.ntmps17
 go_upto_region 1 with fail
 rw [HW1.out]
 go_wp2_with fail
 go_loopg [3, 13] n (fun gk s3 i wr => ∃ j : Nat, j ≤ n ∧ gk = n - j ∧ i = .int .i64 j ∧ wr.ownsRow W1.heap.size 9 1 s3 (2 * j) (((Ex.fl p.lat p.lon j).map Lib.itoa).map strV) ∧ Below W1.heap.size W1 wr)
 case atStart => exact ⟨0, by omega, rfl, rfl, World.ownsRow_nil _ _ _ _, Below.refl _ _⟩
 case round =>
  obtain ⟨j, hj, rfl, rfl, hown, hB⟩ := hrel
  by_cases hlt : j < n
  ·obtain ⟨b1, o1, ha1, hb1, hc1⟩ := (HI.out.keep hB).places (by rw [HN.out]; omega)
   have x0 : wr.cell? ⟨b1, o1 + j * 2, none⟩ = some (.int .i64 (p.lat j)) := (hc1 j (by rw [HN.out]; exact hlt)).1
   have x1 : wr.cell? ⟨b1, o1 + j * 2 + 1, none⟩ = some (.int .i64 (p.lon j)) := (hc1 j (by rw [HN.out]; exact hlt)).2
   have hpb := HK.out.plc (by rw [HN.out]; omega)
   obtain rfl : j = 0 := by omega
   rw [Nat.zero_mul, Nat.add_zero] at x0 x1
   clear hj
   obtain ⟨W3, hW3, hX3, hz3, hB3⟩ := box wr #[.int .i64 (p.lat 0), .int .i64 (p.lon 0)] 59
   have HW3 := Lib.hid hW3
   obtain ⟨y0, y1⟩ := hX3.two
   have hB3d := hB3.drew
   have hown3 := own_keepC hown hB3d
   have hB03 := below_up hB hB3d
   have z0 : W3.drew.cell? ⟨wr.heap.size, 0, none⟩ = some (.int .i64 (p.lat 0)) := y0
   have z1 : W3.drew.cell? ⟨wr.heap.size, 1, none⟩ = some (.int .i64 (p.lon 0)) := y1
   have HA := Lib.hid (fun V => toldC (p.lat 0) (by omega) V)
   have HO := Lib.hid (fun V => toldC (p.lon 0) (by omega) V)
   have HST : Hid (((Ex.fl p.lat p.lon 1).map Lib.itoa).map strV = ((Ex.fl p.lat p.lon 0).map Lib.itoa).map strV ++ [.string (Cx.num (p.lat 0)), .string (Cx.num (p.lon 0))]) := Lib.hid rfl
   have hj1 : (0 : Int) < (n : Int) := by omega
   have hws := hB.size
   have HXO : Hid (some wr.heap.size ≠ u3.ownBlock) := Lib.hid (fun e => by have := (hown.lt _ e.symm).2; omega)
   generalize ((Ex.fl p.lat p.lon 0).map Lib.itoa).map strV = XS at *
   generalize Cx.num (p.lat 0) = A at *
   generalize Cx.num (p.lon 0) = O at *
   generalize p.lat 0 = la at *
   generalize p.lon 0 = lo at *
   clear hc1 hW3 hpb
   rw [ha1]
   go_upto_region 5 with fail
   rw [HW3.out]
   clear x0 x1
   go_region_held3 (fun w' => w'.cell? ⟨wr.heap.size, 0, none⟩ = some (.int .i64 la) ∧ w'.cell? ⟨wr.heap.size, 1, none⟩ = some (.int .i64 lo))
    (first | (with_reducible exact ⟨y0, y1⟩) | (with_reducible exact ⟨z0, z1⟩) | (with_reducible exact ⟨q0, q1⟩) | (with_reducible exact ⟨r0, r1⟩) | go_keep | (go_split_ands; refine ⟨?_, ?_⟩; (rw [hgrow8.cell_far _ (by simp; omega) HXO.out]; first | assumption | (rw [World.cell?_of_block (Below.heap_alloc _ _ _ (by simp; omega))]; assumption)); (rw [hgrow8.cell_far _ (by simp; omega) HXO.out]; first | assumption | (rw [World.cell?_of_block (Below.heap_alloc _ _ _ (by simp; omega))]; assumption))))
    (first
     | (go_at_call 39; first
       | ((with_reducible refine (HA.out W3.drew).mono ?_); rintro e w4 ⟨rfl, hB4⟩; have q0 := cell_below hB4 z0; have q1 := cell_below hB4 z1; have hown4 := own_keepC hown3 hB4; have hB04 := below_up hB03 hB4; have hs4 : W3.heap.size ≤ w4.heap.size := hB4.size)
       | ((with_reducible refine (HO.out W3.drew).mono ?_); rintro e w4 ⟨rfl, hB4⟩; have q0 := cell_below hB4 z0; have q1 := cell_below hB4 z1; have hown4 := own_keepC hown3 hB4; have hB04 := below_up hB03 hB4; have hs4 : W3.heap.size ≤ w4.heap.size := hB4.size)
       | ((with_reducible refine (HA.out w4).mono ?_); rintro e w5 ⟨rfl, hB5⟩; have r0 := cell_below hB5 q0; have r1 := cell_below hB5 q1; have hown5 := own_keepC hown4 hB5; have hB05 := below_up hB04 hB5; have hs5 := hB05.size; have hs45 := hB5.size)
       | ((with_reducible refine (HO.out w4).mono ?_); rintro e w5 ⟨rfl, hB5⟩; have r0 := cell_below hB5 q0; have r1 := cell_below hB5 q1; have hown5 := own_keepC hown4 hB5; have hB05 := below_up hB04 hB5; have hs5 := hB05.size; have hs45 := hB5.size))
     | (refine step_append_lies _ (by rfl) _ _ _ (by rfl) W1.heap.size 9 i0 (.string ByteArray.empty) 1 16 Tryz.underlying38 HI0.out HI1.out HI2.out HI3.out rfl (by decide) _ 0 XS (by rfl) (own_heapC (hown5.alloc (.cells #[.string A, .string O] 9)) rfl) _ 2 2 [.string A, .string O] (by rfl) (by rfl) (World.news_of_block (cs := #[.string A, .string O]) (t := 9) (fr := (0, 0)) (Blk.new w5 #[.string A, .string O] 9)) (by simp [Value.oneCell']) (by decide) (by unfold maxLen; omega) (by omega) (by simp; omega) _ rfl ?_; intro g8 cap8 w8 hown8 hgrow8 hor8 hlt8))
   all_goals
    have hBA := hB05.alloc hs5 (.cells #[.string A, .string O] 9)
    have HB8 := Lib.hid (below_grownC hBA (hown5.alloc (.cells #[.string A, .string O] 9)) hgrow8 (by simp; omega))
    have HO8 := Lib.hid hown8
    go_wp2_with fail
    rw [← ha1]
    go_roundg (n - 1)
    case rel => exact ⟨1, by omega, rfl, by go_num, by rw [HST.out]; exact HO8.out, HB8.out⟩
    case measure => omega
  ·obtain rfl : n = j := by omega
   have hpl : Ex.fl p.lat p.lon n = Ex.plc p := by rw [← HN.out]; exact Ex.fl_plc HK.out.wn
   rw [hpl] at hown
   have hl1 : (Ex.plc p).length = 2 * n := by rw [← Ex.fl_plc HK.out.wn, Ex.fl_len, HN.out]
   obtain ⟨gq, cq, rfl, hsq, hcq⟩ := sr_of_own hown
   have HSQ := Lib.hid hsq; have HBW := Lib.hid hB
   obtain ⟨m, hm⟩ : ∃ m, p.pn = m := ⟨_, rfl⟩
   have HM := Lib.hid hm
   have hmn := HK.out.pn
   obtain ⟨r0, r1, r2, r3, r4, r5, r6, r7, r8, r9, r10, r11, r12⟩ := (HP.out.keep hB).photo
   rw [hm] at r11 hmn
   clear p0 p1 p2 p3 p4 p5 p6 p7 p8 p9 p10 p11 p12 hown hsq hB hm hpl
   go_wp2_with fail
   go_loopg [4, 30] m (fun gk s4 i W => ∃ j : Nat, j ≤ m ∧ gk = m - j ∧ i = .int .i64 j ∧ W.ownsRow wr.heap.size 9 1 s4 j ((((Ex.who p).take j).map Lib.itoa).map strV) ∧ Below wr.heap.size wr W)
   case atStart => exact ⟨0, by omega, rfl, rfl, World.ownsRow_nil _ _ _ _, Below.refl _ _⟩
   case round =>
    obtain ⟨j, hj, rfl, rfl, hown, hB⟩ := hrel
    by_cases hlt : j < m
    ·obtain ⟨b1, o1, ha1, hb1, hc1⟩ := (HI.out.keep (below_up HBW.out hB)).people (by rw [HM.out]; omega)
     have x0 : _ = some (Value.int .i64 (p.who j)) := hc1 j (by rw [HM.out]; exact hlt)
     have hwb := HK.out.who j (by rw [HM.out]; exact hlt)
     have hx : (Ex.who p)[j]? = some (p.who j) := by unfold Ex.who; rw [List.getElem?_map, List.getElem?_range (by rw [HM.out]; exact hlt)]; rfl
     have HTO := Lib.hid (fun V => toldC (p.who j) (by omega) V)
     obtain ⟨XS, hXS⟩ : ∃ XS, (((Ex.who p).take j).map Lib.itoa).map strV = XS := ⟨_, rfl⟩
     have HST : Hid ((((Ex.who p).take (j + 1)).map Lib.itoa).map strV = XS ++ [.string (Cx.num (p.who j))]) := Lib.hid (by rw [List.take_add_one, hx, List.map_append, List.map_append, hXS]; rfl)
     rw [hXS] at hown
     have HO := Lib.hid hown; have HB2 := Lib.hid hB
     have hj0 : (0 : Int) ≤ (j : Int) := by omega
     have hj1 : (j : Int) < (m : Int) := by omega
     generalize Cx.num (p.who j) = A at *
     generalize p.who j = wj at *
     clear hx hc1 hXS hown hwb hB
     rw [ha1]
     go_wp2_with (first
      | (go_at_call 39; (with_reducible refine (HTO.out _).mono ?_); rintro e w4 ⟨rfl, hB4⟩; have hown4 := own_keepC HO.out hB4; have hB04 := below_up HB2.out hB4; have hs4 := hB04.size)
      | (at_builtin; refine list_appZ rfl _ _ rfl _ _ j XS (by rfl) (by rfl) hown4 (by omega) (by omega) (by rfl) (by simp [Value.oneCell']) ?_; intro g8 cap8 w8 hown8 hgrow8; have hB8 := below_grownC (below_allocs hB04 _) (hown4.alloc _) hgrow8 (by simp; omega)))
     rw [← ha1]
     go_roundg (m - (j + 1))
     case rel => exact ⟨j + 1, by omega, rfl, by go_num, by rw [HST.out]; exact hown8, hB8⟩
     case measure => omega
    ·obtain rfl : m = j := by omega
     have htk : (Ex.who p).take m = Ex.who p := List.take_of_length_le (by rw [Ex.who_len, HM.out]; exact Nat.le_refl _)
     rw [htk] at hown
     obtain ⟨g2, c2, rfl, hs2, hc2⟩ := sr_of_own hown
     have HS2 := Lib.hid hs2; have HB2 := Lib.hid hB
     have HSX : Hid (∀ V, Below wr.heap.size wr V → V.cell? ⟨w.heap.size, 0, none⟩ = some (.int .i64 p.id) ∧ V.cell? ⟨w.heap.size, 1, none⟩ = some (.string p.file) ∧ V.cell? ⟨w.heap.size, 2, none⟩ = some (.int .i64 p.mom) ∧ V.cell? ⟨w.heap.size, 3, none⟩ = some (.int .i64 p.zone) ∧ V.cell? ⟨w.heap.size, 5, none⟩ = some (.int .i64 p.W) ∧ V.cell? ⟨w.heap.size, 6, none⟩ = some (.int .i64 p.H) ∧ V.cell? ⟨w.heap.size, 7, none⟩ = some (.int .i64 p.turn) ∧ V.cell? ⟨w.heap.size, 8, none⟩ = some (.int .i64 p.stars) ∧ V.cell? ⟨w.heap.size, 9, none⟩ = some (.slice p.ta p.tn p.tc) ∧ V.cell? ⟨w.heap.size, 10, none⟩ = some (.string p.cap) ∧ V.cell? ⟨w.heap.size, 12, none⟩ = some (.bool p.hid)) := Lib.hid (fun V hu => by
      obtain ⟨c0, c1, c2, c3, c4, c5, c6, c7, c8, c9, c10, c11, c12⟩ := (HP.out.keep (below_up HBW.out (below_up HB2.out hu))).photo
      exact ⟨c0, c1, c2, c3, c5, c6, c7, c8, c9, c10, c12⟩)
     have k0 := HK.out.id; have k2 := HK.out.mom; have k3 := HK.out.zone; have k5 := HK.out.shp
     have HTO := Lib.hid (fun (x : Int) (h : -1000000000000 ≤ x ∧ x ≤ 1000000000000) V => toldC x h V)
     have HE := Lib.hid (fun V => eitherD_is p.hid ⟨#[104, 105, 100, 100, 101, 110]⟩ ⟨#[115, 104, 111, 119, 110]⟩ V)
     obtain ⟨X, hX⟩ : ∃ X, (if p.hid = true then (⟨#[104, 105, 100, 100, 101, 110]⟩ : ByteArray) else ⟨#[115, 104, 111, 119, 110]⟩) = X := ⟨_, rfl⟩
     rw [hX] at HE
     have HXE : Hid (X = Tx.mk (Ex.seen p)) := Lib.hid (by rw [← hX]; unfold Ex.seen; split <;> rfl)
     clear hX
     have HL1 : Hid (∀ V, Below wr.heap.size wr V → Calls Tryz.prog 41 #[.slice gq (2 * n) cq] V fun e w' => e = .returned (.string (Tx.mk (Ex.lst ((Ex.plc p).map Lib.itoa)))) ∧ Below V.heap.size V w') := Lib.hid (fun V hu => by
      have hl : ((Ex.plc p).map Lib.itoa).length = 2 * n := by rw [List.length_map, hl1]
      have := listedR_is ((Ex.plc p).map Lib.itoa) gq cq V (HSQ.out.keep (below_up HB2.out hu)) (by omega) (by omega) (by have := (Ex.lst_le (L := (Ex.plc p).map Lib.itoa) (n := 2) (k := 21) (by rw [List.length_map]; exact Ex.plc_len p) (Ex.map_le (k := 0) (fun y hy => by have := Ex.plc_bd HK.out y hy; omega))).1; omega)
      rwa [hl] at this)
     have HL2 : Hid (∀ V, Below wr.heap.size wr V → Calls Tryz.prog 41 #[.slice g2 m c2] V fun e w' => e = .returned (.string (Tx.mk (Ex.lst ((Ex.who p).map Lib.itoa)))) ∧ Below V.heap.size V w') := Lib.hid (fun V hu => by
      have hl : ((Ex.who p).map Lib.itoa).length = m := by rw [List.length_map, Ex.who_len, HM.out]
      have := listedR_is ((Ex.who p).map Lib.itoa) g2 c2 V (HS2.out.keep hu) (by omega) (by omega) (by have := (Ex.lst_le (L := (Ex.who p).map Lib.itoa) (n := 20) (k := 21) (by omega) (Ex.map_le (k := 0) (fun y hy => by have := Ex.who_bd HK.out y hy; omega))).1; omega)
      rwa [hl] at this)
     have HL3 : Hid (∀ V, Below wr.heap.size wr V → Calls Tryz.prog 41 #[.slice p.ta p.tn p.tc] V fun e w' => e = .returned (.string (Tx.mk (Ex.lst (Ex.tags p)))) ∧ Below V.heap.size V w') := Lib.hid (fun V hu => by
      have hl := Ex.tags_len p
      have htn := HK.out.tn
      have := listedR_is (Ex.tags p) p.ta p.tc V (Ex.tags_sr (HI.out.keep (below_up HBW.out (below_up HB2.out hu)))) (by have := HRM.out.1; omega) (by omega) (by have := (Ex.lst_le (L := Ex.tags p) (n := 20) (k := 40) (by omega) (Ex.tags_bd HK.out)).1; omega)
      rwa [hl] at this)
     have HQ : Hid (∀ V, Calls Tryz.prog 42 #[.string p.cap] V fun e w' => e = .returned (.string (Tx.mk (Cx.qt p.cap.data.toList))) ∧ Below V.heap.size V w') := Lib.hid (fun V => quotedR_is p.cap.data.toList (by have h1 : p.cap.data.toList.length = p.cap.size := rfl; have := HK.out.cap; omega) V)
     have hu : Below wr.heap.size wr wr.drew := (Below.refl _ _).drew
     have hs : (fun V : World => V.cell? ⟨w.heap.size, 0, none⟩ = some (.int .i64 p.id) ∧ V.cell? ⟨w.heap.size, 1, none⟩ = some (.string p.file) ∧ V.cell? ⟨w.heap.size, 2, none⟩ = some (.int .i64 p.mom) ∧ V.cell? ⟨w.heap.size, 3, none⟩ = some (.int .i64 p.zone) ∧ V.cell? ⟨w.heap.size, 5, none⟩ = some (.int .i64 p.W) ∧ V.cell? ⟨w.heap.size, 6, none⟩ = some (.int .i64 p.H) ∧ V.cell? ⟨w.heap.size, 7, none⟩ = some (.int .i64 p.turn) ∧ V.cell? ⟨w.heap.size, 8, none⟩ = some (.int .i64 p.stars) ∧ V.cell? ⟨w.heap.size, 9, none⟩ = some (.slice p.ta p.tn p.tc) ∧ V.cell? ⟨w.heap.size, 10, none⟩ = some (.string p.cap) ∧ V.cell? ⟨w.heap.size, 12, none⟩ = some (.bool p.hid)) wr.drew := HSX.out _ hu
     clear hown hs2 hB r0 r1 r2 r3 r4 r5 r6 r7 r8 r9 r10 r11 r12 hl1
     go_upto_region 12 with fail
     go_region_held3 (fun V : World => V.cell? ⟨w.heap.size, 0, none⟩ = some (.int .i64 p.id) ∧ V.cell? ⟨w.heap.size, 1, none⟩ = some (.string p.file) ∧ V.cell? ⟨w.heap.size, 2, none⟩ = some (.int .i64 p.mom) ∧ V.cell? ⟨w.heap.size, 3, none⟩ = some (.int .i64 p.zone) ∧ V.cell? ⟨w.heap.size, 5, none⟩ = some (.int .i64 p.W) ∧ V.cell? ⟨w.heap.size, 6, none⟩ = some (.int .i64 p.H) ∧ V.cell? ⟨w.heap.size, 7, none⟩ = some (.int .i64 p.turn) ∧ V.cell? ⟨w.heap.size, 8, none⟩ = some (.int .i64 p.stars) ∧ V.cell? ⟨w.heap.size, 9, none⟩ = some (.slice p.ta p.tn p.tc) ∧ V.cell? ⟨w.heap.size, 10, none⟩ = some (.string p.cap) ∧ V.cell? ⟨w.heap.size, 12, none⟩ = some (.bool p.hid)) (first | (with_reducible exact hs) | (with_reducible exact HSX.out _ hu) | (with_reducible exact HSX.out _ (below_allocs hu _)) | go_keep)
      (first
       | (go_at_call 39; (with_reducible refine (HTO.out _ (by omega) _).mono ?_); rintro e w4 ⟨rfl, hq⟩; have hu := below_up hu hq)
       | (go_at_call 40; (with_reducible refine (HE.out _).mono ?_); rintro e w4 ⟨rfl, rfl⟩)
       | (go_at_call 41; first
         | ((with_reducible refine (HL1.out _ hu).mono ?_); rintro e w4 ⟨rfl, hq⟩; have hu := below_up hu hq)
         | ((with_reducible refine (HL2.out _ hu).mono ?_); rintro e w4 ⟨rfl, hq⟩; have hu := below_up hu hq)
         | ((with_reducible refine (HL3.out _ hu).mono ?_); rintro e w4 ⟨rfl, hq⟩; have hu := below_up hu hq))
       | (go_at_call 42; (with_reducible refine (HQ.out _).mono ?_); rintro e w4 ⟨rfl, hq⟩; have hu := below_up hu hq))
     have HB9 := Lib.hid (below_allocs hu (.cells #[.string ⟨#[112, 104, 111, 116, 111]⟩, .string (Cx.num p.id), .string p.file, .string (Cx.num p.mom), .string (Cx.num p.zone), .string (Cx.num p.W), .string (Cx.num p.H), .string (Cx.num p.turn), .string (Cx.num p.stars), .string X, .string (Tx.mk (Ex.lst ((Ex.plc p).map Lib.itoa))), .string (Tx.mk (Ex.lst ((Ex.who p).map Lib.itoa))), .string (Tx.mk (Ex.lst (Ex.tags p))), .string (Tx.mk (Cx.qt p.cap.data.toList))] 9))
     have HJ : Hid (∀ V : World, Calls Tryz.prog 31 #[.slice (some ⟨V.heap.size, 0, none⟩) 14 14, .string ⟨#[32]⟩] (V.alloc (.cells #[.string ⟨#[112, 104, 111, 116, 111]⟩, .string (Cx.num p.id), .string p.file, .string (Cx.num p.mom), .string (Cx.num p.zone), .string (Cx.num p.W), .string (Cx.num p.H), .string (Cx.num p.turn), .string (Cx.num p.stars), .string X, .string (Tx.mk (Ex.lst ((Ex.plc p).map Lib.itoa))), .string (Tx.mk (Ex.lst ((Ex.who p).map Lib.itoa))), .string (Tx.mk (Ex.lst (Ex.tags p))), .string (Tx.mk (Cx.qt p.cap.data.toList))] 9)) fun e w' => e = .returned (.string (Tx.mk (Ex.line p))) ∧ Below (V.heap.size + 1) (V.alloc (.cells #[.string ⟨#[112, 104, 111, 116, 111]⟩, .string (Cx.num p.id), .string p.file, .string (Cx.num p.mom), .string (Cx.num p.zone), .string (Cx.num p.W), .string (Cx.num p.H), .string (Cx.num p.turn), .string (Cx.num p.stars), .string X, .string (Tx.mk (Ex.lst ((Ex.plc p).map Lib.itoa))), .string (Tx.mk (Ex.lst ((Ex.who p).map Lib.itoa))), .string (Tx.mk (Ex.lst (Ex.tags p))), .string (Tx.mk (Cx.qt p.cap.data.toList))] 9)) w') := Lib.hid (fun V => by
      have := joinSR_is (Ex.words p) [32] (some ⟨V.heap.size, 0, none⟩) 14 _ (sr_lit V (Ex.words p) _ rfl) (by rw [Ex.words_len]; omega) (by rw [Ex.words_len]; omega) (by have := Ex.line_le HK.out; unfold Ex.line at this; omega)
      rw [Ex.words_len] at this
      simp only [World.size_alloc] at this
      rw [HXE.out]
      exact this)
     clear hu hs
     go_wp2_with (go_at_call 31; (with_reducible refine (HJ.out w4).mono ?_); rintro e w16 ⟨rfl, hq⟩)
     go_ret
     exact ⟨rfl, below_up HB1.out (below_up HBW.out (below_up HB2.out (below_up HB9.out (by simpa using hq))))⟩
end Go.Proofs.YtmpjnbhdlfneaaaGreatDoor
