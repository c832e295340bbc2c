/- Cleaned: a photo as a link shows it, by the document. -/
import Derived.Test.YtipmegkmkbbklaaDcMath
namespace Go.Proofs.Ytipmegkmkbbklaa
open Go.RowKit Go.Sort Go.Shelf
set_option linter.unusedVariables false
set_option linter.unusedSimpArgs false
theorem Far_is (a o a' o' d e : Int) (h : ∀ w : World, Calls Try.prog 80 #[.agg #[.int .i64 a, .int .i64 o], .agg #[.int .i64 a', .int .i64 o']] w fun r w' => r = .returned (.tuple #[.int .i64 d, .int .i64 e]) ∧ Below w.heap.size w w') (w : World) :
    Calls Try.prog 39 #[.agg #[.int .i64 a, .int .i64 o], .agg #[.int .i64 a', .int .i64 o']] w fun r w' => r = .returned (.int .i64 d) ∧ Below w.heap.size w w' := by
  obtain ⟨W1, hW1, hP1, hz1, hB1⟩ := box w #[.int .i64 a, .int .i64 o] 71
  obtain ⟨W2, hW2, hP2, hz2, hB2⟩ := box W1 #[.int .i64 a', .int .i64 o'] 71
  have HW1 := Lib.hid hW1; have HW2 := Lib.hid hW2
  rw [hz1] at hP2
  obtain ⟨p0, p1⟩ := (hP1.keep hB2).two
  obtain ⟨r0, r1⟩ := hP2.two
  have hB := below_up hB1 hB2
  have HD := Lib.hid h
  clear hW1 hW2 hz1 hz2 h
  go_enter Try.func39, Try.ntmps39
  go_wp2_with fail
  rw [HW1.out, HW2.out]
  go_wp2_with (go_at_call 80; (with_reducible refine (HD.out _).mono ?_); rintro e w4 ⟨rfl, hB4⟩)
  go_ret
  exact ⟨rfl, below_up hB hB4⟩
set_option maxRecDepth 100000 in
set_option maxHeartbeats 4000000 in
theorem cleaned_is (p : Ph) (hF : p.Few) (key album : ByteArray) (pl pe wo : Bool) (F T : Int) (ha : Option Addr) (hn hc : Nat) (la lo ra : Nat → Int) (near : Nat → Bool) (w : World) (hI : p.In w) (hA : Ars w ha hn la lo ra) (hnle : hn ≤ 9223372036854775807)
    (hnear : ∀ i, i < hn → ∃ d e : Int, (∀ w : World, Calls Try.prog 80 #[.agg #[.int .i64 (p.lat 0), .int .i64 (p.lon 0)], .agg #[.int .i64 (la i), .int .i64 (lo i)]] w fun r w' => r = .returned (.tuple #[.int .i64 d, .int .i64 e]) ∧ Below w.heap.size w w') ∧ near i = decide (d ≤ ra i)) :
    Calls Try.prog 9 #[.agg #[.int .i64 p.id, .string p.file, .int .i64 p.mom, .int .i64 p.zone, .slice p.wa p.wn p.wc, .int .i64 p.W, .int .i64 p.H, .int .i64 p.turn, .int .i64 p.stars, .slice p.ta p.tn p.tc, .string p.cap, .slice p.pa p.pn p.pc, .bool p.hid], .agg #[.string key, .string album, .bool pl, .bool pe, .bool wo, .int .i64 F, .int .i64 T], .slice ha hn hc] w fun e w' => ∃ r : Ph, e = .returned (.agg #[.int .i64 r.id, .string r.file, .int .i64 r.mom, .int .i64 r.zone, .slice r.wa r.wn r.wc, .int .i64 r.W, .int .i64 r.H, .int .i64 r.turn, .int .i64 r.stars, .slice r.ta r.tn r.tc, .string r.cap, .slice r.pa r.pn r.pc, .bool r.hid]) ∧ r.In w' ∧ p.Like r (pl && !Fd.hit near hn) pe wo ∧ Below w.heap.size w w' := by
  have hw := hF.w; have ht := hF.t; have hp := hF.p
  have HC1 := Lib.hid (fun V hV => cloneP_is p.wa p.wn p.wc (Fd.pair2 p.lat p.lon) (fun i _ => by unfold Fd.pair2; split <;> rfl) V hV hw (opt_ex _ _))
  have HC2 := Lib.hid (fun V hV => cloneS_is p.ta p.tn p.tc (fun i => .string (p.tag i)) (fun i _ => rfl) V hV ht (opt_ex _ _))
  have HC3 := Lib.hid (fun V hV => cloneI_is p.pa p.pn p.pc (fun i => .int .i64 (p.who i)) (fun i _ => rfl) V hV hp (opt_ex _ _))
  have R1 := Lib.hid (rowK_places hI.places)
  have R2 := Lib.hid (rowK_row hI.tags)
  have R3 := Lib.hid (rowK_row hI.people)
  have HA := Lib.hid hA
  have HNR := Lib.hid hnear
  clear hI hF hA hnear
  obtain ⟨W1, hW1, hP, hz1, hB1⟩ := box w #[.int .i64 p.id, .string p.file, .int .i64 p.mom, .int .i64 p.zone, .slice p.wa p.wn p.wc, .int .i64 p.W, .int .i64 p.H, .int .i64 p.turn, .int .i64 p.stars, .slice p.ta p.tn p.tc, .string p.cap, .slice p.pa p.pn p.pc, .bool p.hid] 26
  obtain ⟨W2, hW2, hL, hz2, hB2⟩ := box W1 #[.string key, .string album, .bool pl, .bool pe, .bool wo, .int .i64 F, .int .i64 T] 28
  obtain ⟨W3, hW3, hQ, hz3, hB3⟩ := box W2 #[.int .i64 0, .string ⟨#[]⟩, .int .i64 0, .int .i64 0, .slice none 0 0, .int .i64 0, .int .i64 0, .int .i64 0, .int .i64 0, .slice none 0 0, .string ⟨#[]⟩, .slice none 0 0, .bool false] 26
  have HW1 := Lib.hid hW1; have HW2 := Lib.hid hW2; have HW3 := Lib.hid hW3
  have hB23 := below_up hB2 hB3
  have hP := hP.keep hB23
  have hL := hL.keep hB3
  rw [hz1] at hL hz2
  rw [hz2] at hQ hz3
  have hB := below_up hB1 hB23
  clear hW1 hW2 hW3 hz1 hz2 hB1 hB2 hB3 hB23
  go_enter Try.func9, Try.ntmps9
  go_wp2_with fail
  rw [HW1.out, HW2.out, HW3.out]
  obtain ⟨q0, q1, q2, q3, q4, q5, q6, q7, q8, q9, q10, q11, q12⟩ := hP.photo
  have hHeld : (W3.drew).cell? ⟨w.heap.size, 4, none⟩ = some (.slice p.wa p.wn p.wc) ∧ (W3.drew).cell? ⟨w.heap.size, 9, none⟩ = some (.slice p.ta p.tn p.tc) ∧ (W3.drew).cell? ⟨w.heap.size, 11, none⟩ = some (.slice p.pa p.pn p.pc) := ⟨q4, q9, q11⟩
  have hBd := hB.drew
  have hPd := hP.drew; have hLd := hL.drew; have hQd := hQ.drew
  have hsz : w.heap.size + 3 ≤ (W3.drew).heap.size := by show _ ≤ W3.heap.size; omega
  clear q0 q1 q2 q3 q4 q5 q6 q7 q8 q9 q10 q11 q12
  refine wp_region_until (fun w' => w'.cell? ⟨w.heap.size, 4, none⟩ = some (.slice p.wa p.wn p.wc) ∧ w'.cell? ⟨w.heap.size, 9, none⟩ = some (.slice p.ta p.tn p.tc) ∧ w'.cell? ⟨w.heap.size, 11, none⟩ = some (.slice p.pa p.pn p.pc)) 10 (by kernel_rfl) ?_
  -- takes operation 0 first; : the marker
  refine anyM_take (i := 0) (v := ?_) rfl rfl (by kernel_rfl) (by decide) (by kernel_rfl) (by kernel_rfl) (by kernel_rfl) (fun _ _ _ h => h) (Or.inl ⟨by rfl, ?_⟩) (by rfl) (by assumption) ?_
  rotate_left
  · (intro w hSw; (try dsimp only at hSw); (try obtain ⟨hs1, hs2, hs3⟩ := hSw); go_simp; try (with_reducible rfl))
  try simp only [Act.put, List.setIfInBounds_toArray, List.set_cons_zero, List.set_cons_succ]
  -- takes operation 1 first; : the marker
  refine anyM_take (i := 1) (v := ?_) rfl rfl (by kernel_rfl) (by decide) (by kernel_rfl) (by kernel_rfl) (by kernel_rfl) (fun _ _ _ h => h) (Or.inl ⟨by rfl, ?_⟩) (by rfl) (by assumption) ?_
  rotate_left
  · (intro w hSw; (try dsimp only at hSw); (try obtain ⟨hs1, hs2, hs3⟩ := hSw); go_simp; try (with_reducible rfl))
  try simp only [Act.put, List.setIfInBounds_toArray, List.set_cons_zero, List.set_cons_succ]
  -- takes operation 3 first; : the marker
  refine anyM_take (i := 3) (v := ?_) rfl rfl (by kernel_rfl) (by decide) (by kernel_rfl) (by kernel_rfl) (by kernel_rfl) (fun _ _ _ h => h) (Or.inl ⟨by rfl, ?_⟩) (by rfl) (by assumption) ?_
  rotate_left
  · (intro w hSw; (try dsimp only at hSw); (try obtain ⟨hs1, hs2, hs3⟩ := hSw); go_simp; try (with_reducible rfl))
  try simp only [Act.put, List.setIfInBounds_toArray, List.set_cons_zero, List.set_cons_succ]
  -- takes operation 4 first; : the marker
  refine anyM_take (i := 4) (v := ?_) rfl rfl (by kernel_rfl) (by decide) (by kernel_rfl) (by kernel_rfl) (by kernel_rfl) (fun _ _ _ h => h) (Or.inl ⟨by rfl, ?_⟩) (by rfl) (by assumption) ?_
  rotate_left
  · (intro w hSw; (try dsimp only at hSw); (try obtain ⟨hs1, hs2, hs3⟩ := hSw); go_simp; try (with_reducible rfl))
  try simp only [Act.put, List.setIfInBounds_toArray, List.set_cons_zero, List.set_cons_succ]
  -- takes operation 6 first; : the marker
  refine anyM_take (i := 6) (v := ?_) rfl rfl (by kernel_rfl) (by decide) (by kernel_rfl) (by kernel_rfl) (by kernel_rfl) (fun _ _ _ h => h) (Or.inl ⟨by rfl, ?_⟩) (by rfl) (by assumption) ?_
  rotate_left
  · (intro w hSw; (try dsimp only at hSw); (try obtain ⟨hs1, hs2, hs3⟩ := hSw); go_simp; try (with_reducible rfl))
  try simp only [Act.put, List.setIfInBounds_toArray, List.set_cons_zero, List.set_cons_succ]
  -- takes operation 7 first; : the marker
  refine anyM_take (i := 7) (v := ?_) rfl rfl (by kernel_rfl) (by decide) (by kernel_rfl) (by kernel_rfl) (by kernel_rfl) (fun _ _ _ h => h) (Or.inl ⟨by rfl, ?_⟩) (by rfl) (by assumption) ?_
  rotate_left
  · (intro w hSw; (try dsimp only at hSw); (try obtain ⟨hs1, hs2, hs3⟩ := hSw); go_simp; try (with_reducible rfl))
  try simp only [Act.put, List.setIfInBounds_toArray, List.set_cons_zero, List.set_cons_succ]
  -- the call of operation 2: HC1.out _ (R1.out.keep hBd): its arm's contract; rintro e w3 ⟨a1, ca1, rfl, hc1, hd1, hr1, hn1, hB3⟩; have hn1 := hn1.down hsz: the names; hB3: the Below
  refine anyM_ready (rs := [2]) (by kernel_rfl) (by simp) ?_
  refine ReadyM.cons rfl (fun K hK => ?_) ReadyM.nil
  go_simp
  refine (HC1.out _ (R1.out.keep hBd)).mono ?_
  rintro e w3 ⟨a1, ca1, rfl, hc1, hd1, hr1, hn1, hB3⟩; have hn1 := hn1.down hsz
  have hPd := hPd.keep hB3; have hLd := hLd.keep hB3; have hQd := hQd.keep hB3
  have hBd := below_up hBd hB3
  have hsz := Nat.le_trans hsz hB3.size
  have hHeld := And.intro hPd.photo.2.2.2.2.1 (And.intro hPd.photo.2.2.2.2.2.2.2.2.2.1 hPd.photo.2.2.2.2.2.2.2.2.2.2.2.1)
  refine hK.out _ _ (fun _ => hHeld) ?_
  clear hK K
  try simp only [Act.put, List.setIfInBounds_toArray, List.set_cons_zero, List.set_cons_succ]
  -- takes operation 9 first; : the marker
  refine anyM_take (i := 9) (v := ?_) rfl rfl (by kernel_rfl) (by decide) (by kernel_rfl) (by kernel_rfl) (by kernel_rfl) (fun _ _ _ h => h) (Or.inl ⟨by rfl, ?_⟩) (by rfl) (by assumption) ?_
  rotate_left
  · (intro w hSw; (try dsimp only at hSw); (try obtain ⟨hs1, hs2, hs3⟩ := hSw); go_simp; try (with_reducible rfl))
  try simp only [Act.put, List.setIfInBounds_toArray, List.set_cons_zero, List.set_cons_succ]
  -- the call of operation 5: HC2.out _ (R2.out.keep hBd): its arm's contract; rintro e w4 ⟨a2, ca2, rfl, hc2, hd2, hr2, hn2, hB4⟩; have hn2 := hn2.down hsz: the names; hB4: the Below
  refine anyM_ready (rs := [5]) (by kernel_rfl) (by simp) ?_
  refine ReadyM.cons rfl (fun K hK => ?_) ReadyM.nil
  go_simp
  refine (HC2.out _ (R2.out.keep hBd)).mono ?_
  rintro e w4 ⟨a2, ca2, rfl, hc2, hd2, hr2, hn2, hB4⟩; have hn2 := hn2.down hsz
  have hPd := hPd.keep hB4; have hLd := hLd.keep hB4; have hQd := hQd.keep hB4
  have hBd := below_up hBd hB4
  have hsz := Nat.le_trans hsz hB4.size
  have hHeld := And.intro hPd.photo.2.2.2.2.1 (And.intro hPd.photo.2.2.2.2.2.2.2.2.2.1 hPd.photo.2.2.2.2.2.2.2.2.2.2.2.1)
  refine hK.out _ _ (fun _ => hHeld) ?_
  clear hK K
  try simp only [Act.put, List.setIfInBounds_toArray, List.set_cons_zero, List.set_cons_succ]
  -- the call of operation 8: HC3.out _ (R3.out.keep hBd): its arm's contract; rintro e w5 ⟨a3, ca3, rfl, hc3, hd3, hr3, hn3, hB5⟩; have hn3 := hn3.down hsz: the names; hB5: the Below
  refine anyM_ready (rs := [8]) (by kernel_rfl) (by simp) ?_
  refine ReadyM.cons rfl (fun K hK => ?_) ReadyM.nil
  go_simp
  refine (HC3.out _ (R3.out.keep hBd)).mono ?_
  rintro e w5 ⟨a3, ca3, rfl, hc3, hd3, hr3, hn3, hB5⟩; have hn3 := hn3.down hsz
  have hPd := hPd.keep hB5; have hLd := hLd.keep hB5; have hQd := hQd.keep hB5
  have hBd := below_up hBd hB5
  have hsz := Nat.le_trans hsz hB5.size
  have hHeld := And.intro hPd.photo.2.2.2.2.1 (And.intro hPd.photo.2.2.2.2.2.2.2.2.2.1 hPd.photo.2.2.2.2.2.2.2.2.2.2.2.1)
  refine hK.out _ _ (fun _ => hHeld) ?_
  clear hK K
  try simp only [Act.put, List.setIfInBounds_toArray, List.set_cons_zero, List.set_cons_succ]
  -- the store of operation 10 into cell 4: .slice a1 p.wn ca1
  obtain ⟨y0, y1, y2, y3, y4, y5, y6, y7, y8, y9, y10, y11, y12⟩ := hPd.photo
  have yf := hPd.free
  refine anyM_ready (rs := [10]) (by kernel_rfl) (by simp) ?_
  refine ReadyM.cons rfl (fun K hK => ?_) ReadyM.nil
  go_simp
  refine hK.out _ _ (fun h => absurd h (by simp)) ?_
  clear hK K y0 y1 y2 y3 y4 y5 y6 y7 y8 y9 y10 y11 y12 yf
  try simp only [Act.put, List.setIfInBounds_toArray, List.set_cons_zero, List.set_cons_succ]
  have hr1 := hr1.keep hB4
  have hr1 := hr1.keep hB5
  have hr2 := hr2.keep hB5
  clear hHeld
  -- the world behind the store into cell 4 under the name V1; .int .i64 p.id, .string p.file, .int .i64 p.mom, .int .i64 p.zone, (.slice a1 p.wn ca1), .int .i64 p.W, .int .i64 p.H, .int .i64 p.turn, .int .i64 p.stars, (.slice p.ta p.tn p.tc), .string p.cap, (.slice p.pa p.pn p.pc), .bool p.hid: its cells; .slice a1 p.wn ca1: the slice; w5: the old world
  have hPs := hPd.set 4 (.slice a1 p.wn ca1)
  have hLs := hLd.setOther (a := ⟨w.heap.size, 4, none⟩) (by simp) (.slice a1 p.wn ca1)
  have hQs := hQd.setOther (a := ⟨w.heap.size, 4, none⟩) (by simp <;> omega) (.slice a1 p.wn ca1)
  have hBs := hBd.setCell (p := ⟨w.heap.size, 4, none⟩) (by simp) (.slice a1 p.wn ca1)
  have hr1 := hr1.setNew hn1 (p := ⟨w.heap.size, 4, none⟩) (by simp) (.slice a1 p.wn ca1)
  have hr2 := hr2.setNew hn2 (p := ⟨w.heap.size, 4, none⟩) (by simp) (.slice a1 p.wn ca1)
  have hr3 := hr3.setNew hn3 (p := ⟨w.heap.size, 4, none⟩) (by simp) (.slice a1 p.wn ca1)
  have hsz := show w.heap.size + 3 ≤ (w5.setCell ⟨w.heap.size, 4, none⟩ (.slice a1 p.wn ca1)).heap.size by simp; omega
  generalize w5.setCell ⟨w.heap.size, 4, none⟩ (.slice a1 p.wn ca1) = V1 at *
  clear hPd hLd hQd hBd
  have hPd : Blk V1 w.heap.size #[.int .i64 p.id, .string p.file, .int .i64 p.mom, .int .i64 p.zone, (.slice a1 p.wn ca1), .int .i64 p.W, .int .i64 p.H, .int .i64 p.turn, .int .i64 p.stars, (.slice p.ta p.tn p.tc), .string p.cap, (.slice p.pa p.pn p.pc), .bool p.hid] 26 := hPs
  have hLd := hLs; have hQd := hQs; have hBd := hBs
  clear hPs hLs hQs hBs
  refine anyM_ready (rs := [11]) (by kernel_rfl) (by simp) ?_
  refine ReadyM.cons rfl (fun K hK => ?_) ReadyM.nil
  go_simp
  refine hK.out _ _ (fun h => absurd h (by simp)) ?_
  clear hK K
  try simp only [Act.put, List.setIfInBounds_toArray, List.set_cons_zero, List.set_cons_succ]
  -- the store of operation 12 into cell 9: .slice a2 p.tn ca2
  obtain ⟨y0, y1, y2, y3, y4, y5, y6, y7, y8, y9, y10, y11, y12⟩ := hPd.photo
  have yf := hPd.free
  refine anyM_ready (rs := [12]) (by kernel_rfl) (by simp) ?_
  refine ReadyM.cons rfl (fun K hK => ?_) ReadyM.nil
  go_simp
  refine hK.out _ _ (fun h => absurd h (by simp)) ?_
  clear hK K y0 y1 y2 y3 y4 y5 y6 y7 y8 y9 y10 y11 y12 yf
  try simp only [Act.put, List.setIfInBounds_toArray, List.set_cons_zero, List.set_cons_succ]
  -- the world behind the store into cell 9 under the name V2; .int .i64 p.id, .string p.file, .int .i64 p.mom, .int .i64 p.zone, (.slice a1 p.wn ca1), .int .i64 p.W, .int .i64 p.H, .int .i64 p.turn, .int .i64 p.stars, (.slice a2 p.tn ca2), .string p.cap, (.slice p.pa p.pn p.pc), .bool p.hid: its cells; .slice a2 p.tn ca2: the slice; V1: the old world
  have hPs := hPd.set 9 (.slice a2 p.tn ca2)
  have hLs := hLd.setOther (a := ⟨w.heap.size, 9, none⟩) (by simp) (.slice a2 p.tn ca2)
  have hQs := hQd.setOther (a := ⟨w.heap.size, 9, none⟩) (by simp <;> omega) (.slice a2 p.tn ca2)
  have hBs := hBd.setCell (p := ⟨w.heap.size, 9, none⟩) (by simp) (.slice a2 p.tn ca2)
  have hr1 := hr1.setNew hn1 (p := ⟨w.heap.size, 9, none⟩) (by simp) (.slice a2 p.tn ca2)
  have hr2 := hr2.setNew hn2 (p := ⟨w.heap.size, 9, none⟩) (by simp) (.slice a2 p.tn ca2)
  have hr3 := hr3.setNew hn3 (p := ⟨w.heap.size, 9, none⟩) (by simp) (.slice a2 p.tn ca2)
  have hsz := show w.heap.size + 3 ≤ (V1.setCell ⟨w.heap.size, 9, none⟩ (.slice a2 p.tn ca2)).heap.size by simp; omega
  generalize V1.setCell ⟨w.heap.size, 9, none⟩ (.slice a2 p.tn ca2) = V2 at *
  clear hPd hLd hQd hBd
  have hPd : Blk V2 w.heap.size #[.int .i64 p.id, .string p.file, .int .i64 p.mom, .int .i64 p.zone, (.slice a1 p.wn ca1), .int .i64 p.W, .int .i64 p.H, .int .i64 p.turn, .int .i64 p.stars, (.slice a2 p.tn ca2), .string p.cap, (.slice p.pa p.pn p.pc), .bool p.hid] 26 := hPs
  have hLd := hLs; have hQd := hQs; have hBd := hBs
  clear hPs hLs hQs hBs
  refine anyM_ready (rs := [13]) (by kernel_rfl) (by simp) ?_
  refine ReadyM.cons rfl (fun K hK => ?_) ReadyM.nil
  go_simp
  refine hK.out _ _ (fun h => absurd h (by simp)) ?_
  clear hK K
  try simp only [Act.put, List.setIfInBounds_toArray, List.set_cons_zero, List.set_cons_succ]
  -- the store of operation 14 into cell 11: .slice a3 p.pn ca3
  obtain ⟨y0, y1, y2, y3, y4, y5, y6, y7, y8, y9, y10, y11, y12⟩ := hPd.photo
  have yf := hPd.free
  refine anyM_ready (rs := [14]) (by kernel_rfl) (by simp) ?_
  refine ReadyM.cons rfl (fun K hK => ?_) ReadyM.nil
  go_simp
  refine hK.out _ _ (fun h => absurd h (by simp)) ?_
  clear hK K y0 y1 y2 y3 y4 y5 y6 y7 y8 y9 y10 y11 y12 yf
  try simp only [Act.put, List.setIfInBounds_toArray, List.set_cons_zero, List.set_cons_succ]
  -- the world behind the store into cell 11 under the name V3; .int .i64 p.id, .string p.file, .int .i64 p.mom, .int .i64 p.zone, (.slice a1 p.wn ca1), .int .i64 p.W, .int .i64 p.H, .int .i64 p.turn, .int .i64 p.stars, (.slice a2 p.tn ca2), .string p.cap, (.slice a3 p.pn ca3), .bool p.hid: its cells; .slice a3 p.pn ca3: the slice; V2: the old world
  have hPs := hPd.set 11 (.slice a3 p.pn ca3)
  have hLs := hLd.setOther (a := ⟨w.heap.size, 11, none⟩) (by simp) (.slice a3 p.pn ca3)
  have hQs := hQd.setOther (a := ⟨w.heap.size, 11, none⟩) (by simp <;> omega) (.slice a3 p.pn ca3)
  have hBs := hBd.setCell (p := ⟨w.heap.size, 11, none⟩) (by simp) (.slice a3 p.pn ca3)
  have hr1 := hr1.setNew hn1 (p := ⟨w.heap.size, 11, none⟩) (by simp) (.slice a3 p.pn ca3)
  have hr2 := hr2.setNew hn2 (p := ⟨w.heap.size, 11, none⟩) (by simp) (.slice a3 p.pn ca3)
  have hr3 := hr3.setNew hn3 (p := ⟨w.heap.size, 11, none⟩) (by simp) (.slice a3 p.pn ca3)
  have hsz := show w.heap.size + 3 ≤ (V2.setCell ⟨w.heap.size, 11, none⟩ (.slice a3 p.pn ca3)).heap.size by simp; omega
  generalize V2.setCell ⟨w.heap.size, 11, none⟩ (.slice a3 p.pn ca3) = V3 at *
  clear hPd hLd hQd hBd
  have hPd : Blk V3 w.heap.size #[.int .i64 p.id, .string p.file, .int .i64 p.mom, .int .i64 p.zone, (.slice a1 p.wn ca1), .int .i64 p.W, .int .i64 p.H, .int .i64 p.turn, .int .i64 p.stars, (.slice a2 p.tn ca2), .string p.cap, (.slice a3 p.pn ca3), .bool p.hid] 26 := hPs
  have hLd := hLs; have hQd := hQs; have hBd := hBs
  clear hPs hLs hQs hBs
  refine anyM_done (by kernel_rfl) ?_ _
  clear HC1 HC2 HC3 R1 R2 R3 hB3 hB4 hB5 hB hP hL hQ hz3
  go_wp2_with fail
  obtain ⟨hh, hhd⟩ : ∃ hh : Nat → Bool, (fun j => decide (0 < p.wn) && Fd.hit near j) = hh := ⟨_, rfl⟩
  have hh0 : hh 0 = false := by rw [← hhd]; simp [Fd.hit]
  have HHS := Lib.hid (fun j => show hh (j + 1) = (hh j || (decide (0 < p.wn) && near j)) by rw [← hhd]; simp only [Fd.hit]; cases decide (0 < p.wn) <;> simp)
  have HHE := Lib.hid (show hh hn = (decide (0 < p.wn) && Fd.hit near hn) by rw [← hhd])
  have hh0' := Lib.hid hh0
  clear hhd hh0
  go_loopg [23] hn (fun gk i wr => ∃ j : Nat, j ≤ hn ∧ gk = hn - j ∧ i = .int .i64 j ∧ Blk wr w.heap.size #[.int .i64 p.id, .string p.file, .int .i64 p.mom, .int .i64 p.zone, (if hh j = true then .slice none 0 0 else .slice a1 p.wn ca1), .int .i64 p.W, .int .i64 p.H, .int .i64 p.turn, .int .i64 p.stars, (.slice a2 p.tn ca2), .string p.cap, (.slice a3 p.pn ca3), .bool p.hid] 26 ∧ Blk wr (w.heap.size + 1) #[.string key, .string album, .bool pl, .bool pe, .bool wo, .int .i64 F, .int .i64 T] 28 ∧ Blk wr (w.heap.size + 1 + 1) #[.int .i64 0, .string ⟨#[]⟩, .int .i64 0, .int .i64 0, .slice none 0 0, .int .i64 0, .int .i64 0, .int .i64 0, .int .i64 0, .slice none 0 0, .string ⟨#[]⟩, .slice none 0 0, .bool false] 26 ∧ RowK wr a1 p.wn 2 (Fd.pair2 p.lat p.lon) ∧ RowK wr a2 p.tn 1 (fun i => .string (p.tag i)) ∧ RowK wr a3 p.pn 1 (fun i => .int .i64 (p.who i)) ∧ Below w.heap.size w wr ∧ w.heap.size + 3 ≤ wr.heap.size)
  case atStart => exact ⟨0, by omega, rfl, rfl, by rw [hh0'.out]; exact hPd, hLd, hQd, hr1, hr2, hr3, hBd, hsz⟩
  case round =>
    clear hPd hLd hQd hr1 hr2 hr3 hBd hsz
    obtain ⟨j, hj, rfl, rfl, hP, hL, hQ, hr1, hr2, hr3, hB, hsz⟩ := hrel
    by_cases hjn : j < hn
    · obtain ⟨ab, aof, rfl, hab, hac⟩ := (HA.out.keep hB) (by omega)
      obtain ⟨x0, x1, x2⟩ := hac j hjn
      obtain ⟨W4, hW4, hX, hz4, hB4⟩ := box wr #[.int .i64 (la j), .int .i64 (lo j), .int .i64 (ra j)] 77
      have HW4 := Lib.hid hW4
      clear hW4 hz4 hac
      have hP4 := hP.keep hB4
      have hB04 := below_up hB hB4
      have hsz4 := Nat.le_trans hsz hB4.size
      have hr14 := hr1.keep hB4
      go_upto_region 5 with fail
      rw [HW4.out]
      obtain ⟨b0, b1, b2⟩ := hX.three
      have hstep := HHS.out j
      cases hhj : hh j with
      | true =>
        rw [hhj] at hP4 hstep
        obtain ⟨y0, y1, y2, y3, y4, y5, y6, y7, y8, y9, y10, y11, y12⟩ := hP4.photo
        simp only [if_true] at y4
        have HHJ := Lib.hid hhj
        have HST := Lib.hid hstep
        clear hhj hstep
        go_wp2_with fail
        go_quiet (fail)
        go_wp2_with fail
        -- the round's end: show hh (j + 1) = true by rw [HST.out]; rfl: the fact of hh (j + 1); below_drewN (Below.refl W4.heap.size W4) nq: the world's Below from W4; hP4.keep hB5: the box
        have hB5 := below_drewN (Below.refl W4.heap.size W4) nq
        go_roundg (hn - (j + 1))
        case rel => exact ⟨j + 1, by omega, rfl, by go_num, by rw [show hh (j + 1) = true by rw [HST.out]; rfl]; exact hP4.keep hB5, ((hL.keep hB4).keep hB5), ((hQ.keep hB4).keep hB5), hr14.keep hB5, (hr2.keep hB4).keep hB5, (hr3.keep hB4).keep hB5, below_up hB04 hB5, Nat.le_trans hsz4 hB5.size⟩
        case measure => omega
      | false =>
        rw [hhj] at hP4 hstep
        obtain ⟨y0, y1, y2, y3, y4, y5, y6, y7, y8, y9, y10, y11, y12⟩ := hP4.photo
        simp only [Bool.false_eq_true, if_false] at y4
        have yf := hP4.free
        have HST := Lib.hid hstep
        clear hhj hstep
        by_cases hw0 : 0 < p.wn
        · obtain ⟨g, off, rfl, hg, hgc⟩ := hr14 hw0
          have c0 : W4.cell? ⟨g, off, none⟩ = some (.int .i64 (p.lat 0)) := by have := hgc 0 (by omega); exact this
          have c1 : W4.cell? ⟨g, off + 1, none⟩ = some (.int .i64 (p.lon 0)) := by have := hgc 1 (by omega); exact this
          obtain ⟨d, e, hd, hde⟩ := HNR.out j hjn
          have HFR := Lib.hid (fun dd os => Calls.regrown_of (Far_is _ _ _ _ d e hd (grow (redrawn W4 dd) os)))
          have hw1 : ((0 : Int) < (p.wn : Int)) = True := by simp; omega
          have hw2 : decide ((0 : Int) < (p.wn : Int)) = true := decide_eq_true (by omega)
          have hw3 : (0 < p.wn) = True := by simp; omega
          have hw2' : decide (0 < p.wn) = true := decide_eq_true hw0
          have k0 := cell_regrown c0
          have k1 := cell_regrown c1
          have k4 := cell_regrown y4
          have m0 := cell_regrown b0
          have m1 := cell_regrown b1
          have m2 := cell_regrown b2
          clear hgc hd
          go_wp2_with fail
          refine wp_region_quiet_below (by kernel_rfl) (by kernel_rfl) ?_
          repeat (go_big_quiet_step ((go_at_call 39; with_reducible exact HFR.out _ _)))
          refine wpQuiet_nil ?_
          intro _ hw'
          obtain ⟨⟨dq, osq⟩, hw''⟩ := hw'
          subst hw''
          have hBx3 := below_regrown W4 dq osq
          generalize grow (redrawn W4 dq) osq = x3 at *
          clear dq osq
          clear k0 k1 k4 m0 m1 m2
          by_cases hdr : d ≤ ra j
          · rw [decide_eq_true hdr] at hde
            have HH1 := Lib.hid (show hh (j + 1) = true by rw [HST.out, hde, hw2']; rfl)
            obtain ⟨z0, z1, z2, z3, z4, z5, z6, z7, z8, z9, z10, z11, z12⟩ := (hP4.keep hBx3).photo
            simp only [Bool.false_eq_true, if_false] at z4
            have zf := (hP4.keep hBx3).free
            clear hde y0 y1 y2 y3 y4 y5 y6 y7 y8 y9 y10 y11 y12 yf
            go_wp2_with fail
            go_roundg (hn - (j + 1))
            case rel => exact ⟨j + 1, by omega, rfl, by go_num, by rw [HH1.out]; exact (hP4.keep hBx3).set 4 _, ((hL.keep hB4).keep hBx3).setOther (by simp) _, ((hQ.keep hB4).keep hBx3).setOther (by simp <;> omega) _, (hr14.keep hBx3).setNew hn1 (by simp) _, ((hr2.keep hB4).keep hBx3).setNew hn2 (by simp) _, ((hr3.keep hB4).keep hBx3).setNew hn3 (by simp) _, (below_up hB04 hBx3).setCell (by simp) _, by have := hBx3.size; simp; omega⟩
            case measure => omega
          · rw [decide_eq_false hdr] at hde
            have HH1 := Lib.hid (show hh (j + 1) = false by rw [HST.out, hde]; simp)
            clear hde
            go_wp2_with fail
            -- the round's end: HH1.out: the fact of hh (j + 1); hBx3: the world's Below from W4; hP4.keep hB5: the box
            have hB5 := hBx3
            go_roundg (hn - (j + 1))
            case rel => exact ⟨j + 1, by omega, rfl, by go_num, by rw [HH1.out]; exact hP4.keep hB5, ((hL.keep hB4).keep hB5), ((hQ.keep hB4).keep hB5), hr14.keep hB5, (hr2.keep hB4).keep hB5, (hr3.keep hB4).keep hB5, below_up hB04 hB5, Nat.le_trans hsz4 hB5.size⟩
            case measure => omega
        · have hw1 : ¬ (0 : Int) < (p.wn : Int) := by omega
          have hw2 : decide ((0 : Int) < (p.wn : Int)) = false := by simpa using hw1
          have hw3 : (0 < p.wn) = False := by simpa using hw0
          have HH1 := Lib.hid (show hh (j + 1) = false by rw [HST.out, decide_eq_false hw0]; rfl)
          go_wp2_with fail
          go_quiet (fail)
          go_wp2_with fail
          -- the round's end: HH1.out: the fact of hh (j + 1); below_drewN (Below.refl W4.heap.size W4) nq: the world's Below from W4; hP4.keep hB5: the box
          have hB5 := below_drewN (Below.refl W4.heap.size W4) nq
          go_roundg (hn - (j + 1))
          case rel => exact ⟨j + 1, by omega, rfl, by go_num, by rw [HH1.out]; exact hP4.keep hB5, ((hL.keep hB4).keep hB5), ((hQ.keep hB4).keep hB5), hr14.keep hB5, (hr2.keep hB4).keep hB5, (hr3.keep hB4).keep hB5, below_up hB04 hB5, Nat.le_trans hsz4 hB5.size⟩
          case measure => omega
    · obtain rfl : j = hn := by omega
      obtain ⟨kh, hkh⟩ : ∃ b, hh j = b := ⟨_, rfl⟩
      have HL2 : Hid ((pl && !kh) = (pl && !Fd.hit near j) ∨ p.wn = 0) := by
        rw [← hkh, HHE.out]
        by_cases h0 : 0 < p.wn
        · left; rw [decide_eq_true h0]; rfl
        · right; omega
      rw [hkh] at hP
      clear hkh HHE HHS hh0' HNR HA
      obtain ⟨y0, y1, y2, y3, y4, y5, y6, y7, y8, y9, y10, y11, y12⟩ := hP.photo
      have yf := hP.free
      have l2 : wr.cell? ⟨w.heap.size + 1, 2, none⟩ = some (.bool pl) := by rw [hL.cell]; rfl
      have l3 : wr.cell? ⟨w.heap.size + 1, 3, none⟩ = some (.bool pe) := by rw [hL.cell]; rfl
      have l4 : wr.cell? ⟨w.heap.size + 1, 4, none⟩ = some (.bool wo) := by rw [hL.cell]; rfl
      have HR1 := Lib.hid hr1; have HR2 := Lib.hid hr2; have HR3 := Lib.hid hr3
      clear hr1 hr2 hr3 hP hL
      cases kh <;> cases pl <;> cases pe <;> cases wo
      all_goals simp only [Bool.false_eq_true, if_false, if_true] at y4
      · go_wp2_with (refine wpList_store_row rfl 26 _ _ rfl (w.heap.size + 1 + 1) _ rfl rfl 26 #[.int .i64 0, .string ⟨#[]⟩, .int .i64 0, .int .i64 0, .slice none 0 0, .int .i64 0, .int .i64 0, .int .i64 0, .int .i64 0, .slice none 0 0, .string ⟨#[]⟩, .slice none 0 0, .bool false] (by repeat (first | exact hQ | refine Blk.setOther ?_ (by simp <;> omega) _)) infoPh rfl (by simp [Value.oneCell']) ?_)
        refine bodyPost_ret (v := .agg #[.int .i64 (p.cl (false && !false) false false a1 ca1 a2 ca2 a3 ca3).id, .string (p.cl (false && !false) false false a1 ca1 a2 ca2 a3 ca3).file, .int .i64 (p.cl (false && !false) false false a1 ca1 a2 ca2 a3 ca3).mom, .int .i64 (p.cl (false && !false) false false a1 ca1 a2 ca2 a3 ca3).zone, .slice (p.cl (false && !false) false false a1 ca1 a2 ca2 a3 ca3).wa (p.cl (false && !false) false false a1 ca1 a2 ca2 a3 ca3).wn (p.cl (false && !false) false false a1 ca1 a2 ca2 a3 ca3).wc, .int .i64 (p.cl (false && !false) false false a1 ca1 a2 ca2 a3 ca3).W, .int .i64 (p.cl (false && !false) false false a1 ca1 a2 ca2 a3 ca3).H, .int .i64 (p.cl (false && !false) false false a1 ca1 a2 ca2 a3 ca3).turn, .int .i64 (p.cl (false && !false) false false a1 ca1 a2 ca2 a3 ca3).stars, .slice (p.cl (false && !false) false false a1 ca1 a2 ca2 a3 ca3).ta (p.cl (false && !false) false false a1 ca1 a2 ca2 a3 ca3).tn (p.cl (false && !false) false false a1 ca1 a2 ca2 a3 ca3).tc, .string (p.cl (false && !false) false false a1 ca1 a2 ca2 a3 ca3).cap, .slice (p.cl (false && !false) false false a1 ca1 a2 ca2 a3 ca3).pa (p.cl (false && !false) false false a1 ca1 a2 ca2 a3 ca3).pn (p.cl (false && !false) false false a1 ca1 a2 ca2 a3 ca3).pc, .bool (p.cl (false && !false) false false a1 ca1 a2 ca2 a3 ca3).hid]) (results_cell_row rfl _ _ (w.heap.size + 1 + 1) 26 _ (0, 0) _ rfl (setRow_heap _ (w.heap.size + 1 + 1) #[.int .i64 0, .string ⟨#[]⟩, .int .i64 0, .int .i64 0, .slice none 0 0, .int .i64 0, .int .i64 0, .int .i64 0, .int .i64 0, .slice none 0 0, .string ⟨#[]⟩, .slice none 0 0, .bool false] _ 26 (0, 0) (by repeat (first | exact hQ | refine Blk.setOther ?_ (by simp <;> omega) _))) Try.underlying26 rfl infoPh) rfl ⟨p.cl (false && !false) false false a1 ca1 a2 ca2 a3 ca3, rfl, Ph.cl_in ?_ ?_ ?_, Ph.cl_like HL2.out, below_setRow ?_ (by omega) _⟩
        · refine RowK.setRow ?_ hn1 (by omega) _
          repeat (first | exact HR1.out | refine RowK.setNew ?_ hn1 (by simp) _)
        · refine RowK.setRow ?_ hn2 (by omega) _
          repeat (first | exact HR2.out | refine RowK.setNew ?_ hn2 (by simp) _)
        · refine RowK.setRow ?_ hn3 (by omega) _
          repeat (first | exact HR3.out | refine RowK.setNew ?_ hn3 (by simp) _)
        · repeat (first | exact hB | refine Below.setCell ?_ (by simp) _)
      · go_wp2_with (refine wpList_store_row rfl 26 _ _ rfl (w.heap.size + 1 + 1) _ rfl rfl 26 #[.int .i64 0, .string ⟨#[]⟩, .int .i64 0, .int .i64 0, .slice none 0 0, .int .i64 0, .int .i64 0, .int .i64 0, .int .i64 0, .slice none 0 0, .string ⟨#[]⟩, .slice none 0 0, .bool false] (by repeat (first | exact hQ | refine Blk.setOther ?_ (by simp <;> omega) _)) infoPh rfl (by simp [Value.oneCell']) ?_)
        refine bodyPost_ret (v := .agg #[.int .i64 (p.cl (false && !false) false true a1 ca1 a2 ca2 a3 ca3).id, .string (p.cl (false && !false) false true a1 ca1 a2 ca2 a3 ca3).file, .int .i64 (p.cl (false && !false) false true a1 ca1 a2 ca2 a3 ca3).mom, .int .i64 (p.cl (false && !false) false true a1 ca1 a2 ca2 a3 ca3).zone, .slice (p.cl (false && !false) false true a1 ca1 a2 ca2 a3 ca3).wa (p.cl (false && !false) false true a1 ca1 a2 ca2 a3 ca3).wn (p.cl (false && !false) false true a1 ca1 a2 ca2 a3 ca3).wc, .int .i64 (p.cl (false && !false) false true a1 ca1 a2 ca2 a3 ca3).W, .int .i64 (p.cl (false && !false) false true a1 ca1 a2 ca2 a3 ca3).H, .int .i64 (p.cl (false && !false) false true a1 ca1 a2 ca2 a3 ca3).turn, .int .i64 (p.cl (false && !false) false true a1 ca1 a2 ca2 a3 ca3).stars, .slice (p.cl (false && !false) false true a1 ca1 a2 ca2 a3 ca3).ta (p.cl (false && !false) false true a1 ca1 a2 ca2 a3 ca3).tn (p.cl (false && !false) false true a1 ca1 a2 ca2 a3 ca3).tc, .string (p.cl (false && !false) false true a1 ca1 a2 ca2 a3 ca3).cap, .slice (p.cl (false && !false) false true a1 ca1 a2 ca2 a3 ca3).pa (p.cl (false && !false) false true a1 ca1 a2 ca2 a3 ca3).pn (p.cl (false && !false) false true a1 ca1 a2 ca2 a3 ca3).pc, .bool (p.cl (false && !false) false true a1 ca1 a2 ca2 a3 ca3).hid]) (results_cell_row rfl _ _ (w.heap.size + 1 + 1) 26 _ (0, 0) _ rfl (setRow_heap _ (w.heap.size + 1 + 1) #[.int .i64 0, .string ⟨#[]⟩, .int .i64 0, .int .i64 0, .slice none 0 0, .int .i64 0, .int .i64 0, .int .i64 0, .int .i64 0, .slice none 0 0, .string ⟨#[]⟩, .slice none 0 0, .bool false] _ 26 (0, 0) (by repeat (first | exact hQ | refine Blk.setOther ?_ (by simp <;> omega) _))) Try.underlying26 rfl infoPh) rfl ⟨p.cl (false && !false) false true a1 ca1 a2 ca2 a3 ca3, rfl, Ph.cl_in ?_ ?_ ?_, Ph.cl_like HL2.out, below_setRow ?_ (by omega) _⟩
        · refine RowK.setRow ?_ hn1 (by omega) _
          repeat (first | exact HR1.out | refine RowK.setNew ?_ hn1 (by simp) _)
        · refine RowK.setRow ?_ hn2 (by omega) _
          repeat (first | exact HR2.out | refine RowK.setNew ?_ hn2 (by simp) _)
        · refine RowK.setRow ?_ hn3 (by omega) _
          repeat (first | exact HR3.out | refine RowK.setNew ?_ hn3 (by simp) _)
        · repeat (first | exact hB | refine Below.setCell ?_ (by simp) _)
      · go_wp2_with (refine wpList_store_row rfl 26 _ _ rfl (w.heap.size + 1 + 1) _ rfl rfl 26 #[.int .i64 0, .string ⟨#[]⟩, .int .i64 0, .int .i64 0, .slice none 0 0, .int .i64 0, .int .i64 0, .int .i64 0, .int .i64 0, .slice none 0 0, .string ⟨#[]⟩, .slice none 0 0, .bool false] (by repeat (first | exact hQ | refine Blk.setOther ?_ (by simp <;> omega) _)) infoPh rfl (by simp [Value.oneCell']) ?_)
        refine bodyPost_ret (v := .agg #[.int .i64 (p.cl (false && !false) true false a1 ca1 a2 ca2 a3 ca3).id, .string (p.cl (false && !false) true false a1 ca1 a2 ca2 a3 ca3).file, .int .i64 (p.cl (false && !false) true false a1 ca1 a2 ca2 a3 ca3).mom, .int .i64 (p.cl (false && !false) true false a1 ca1 a2 ca2 a3 ca3).zone, .slice (p.cl (false && !false) true false a1 ca1 a2 ca2 a3 ca3).wa (p.cl (false && !false) true false a1 ca1 a2 ca2 a3 ca3).wn (p.cl (false && !false) true false a1 ca1 a2 ca2 a3 ca3).wc, .int .i64 (p.cl (false && !false) true false a1 ca1 a2 ca2 a3 ca3).W, .int .i64 (p.cl (false && !false) true false a1 ca1 a2 ca2 a3 ca3).H, .int .i64 (p.cl (false && !false) true false a1 ca1 a2 ca2 a3 ca3).turn, .int .i64 (p.cl (false && !false) true false a1 ca1 a2 ca2 a3 ca3).stars, .slice (p.cl (false && !false) true false a1 ca1 a2 ca2 a3 ca3).ta (p.cl (false && !false) true false a1 ca1 a2 ca2 a3 ca3).tn (p.cl (false && !false) true false a1 ca1 a2 ca2 a3 ca3).tc, .string (p.cl (false && !false) true false a1 ca1 a2 ca2 a3 ca3).cap, .slice (p.cl (false && !false) true false a1 ca1 a2 ca2 a3 ca3).pa (p.cl (false && !false) true false a1 ca1 a2 ca2 a3 ca3).pn (p.cl (false && !false) true false a1 ca1 a2 ca2 a3 ca3).pc, .bool (p.cl (false && !false) true false a1 ca1 a2 ca2 a3 ca3).hid]) (results_cell_row rfl _ _ (w.heap.size + 1 + 1) 26 _ (0, 0) _ rfl (setRow_heap _ (w.heap.size + 1 + 1) #[.int .i64 0, .string ⟨#[]⟩, .int .i64 0, .int .i64 0, .slice none 0 0, .int .i64 0, .int .i64 0, .int .i64 0, .int .i64 0, .slice none 0 0, .string ⟨#[]⟩, .slice none 0 0, .bool false] _ 26 (0, 0) (by repeat (first | exact hQ | refine Blk.setOther ?_ (by simp <;> omega) _))) Try.underlying26 rfl infoPh) rfl ⟨p.cl (false && !false) true false a1 ca1 a2 ca2 a3 ca3, rfl, Ph.cl_in ?_ ?_ ?_, Ph.cl_like HL2.out, below_setRow ?_ (by omega) _⟩
        · refine RowK.setRow ?_ hn1 (by omega) _
          repeat (first | exact HR1.out | refine RowK.setNew ?_ hn1 (by simp) _)
        · refine RowK.setRow ?_ hn2 (by omega) _
          repeat (first | exact HR2.out | refine RowK.setNew ?_ hn2 (by simp) _)
        · refine RowK.setRow ?_ hn3 (by omega) _
          repeat (first | exact HR3.out | refine RowK.setNew ?_ hn3 (by simp) _)
        · repeat (first | exact hB | refine Below.setCell ?_ (by simp) _)
      · go_wp2_with (refine wpList_store_row rfl 26 _ _ rfl (w.heap.size + 1 + 1) _ rfl rfl 26 #[.int .i64 0, .string ⟨#[]⟩, .int .i64 0, .int .i64 0, .slice none 0 0, .int .i64 0, .int .i64 0, .int .i64 0, .int .i64 0, .slice none 0 0, .string ⟨#[]⟩, .slice none 0 0, .bool false] (by repeat (first | exact hQ | refine Blk.setOther ?_ (by simp <;> omega) _)) infoPh rfl (by simp [Value.oneCell']) ?_)
        refine bodyPost_ret (v := .agg #[.int .i64 (p.cl (false && !false) true true a1 ca1 a2 ca2 a3 ca3).id, .string (p.cl (false && !false) true true a1 ca1 a2 ca2 a3 ca3).file, .int .i64 (p.cl (false && !false) true true a1 ca1 a2 ca2 a3 ca3).mom, .int .i64 (p.cl (false && !false) true true a1 ca1 a2 ca2 a3 ca3).zone, .slice (p.cl (false && !false) true true a1 ca1 a2 ca2 a3 ca3).wa (p.cl (false && !false) true true a1 ca1 a2 ca2 a3 ca3).wn (p.cl (false && !false) true true a1 ca1 a2 ca2 a3 ca3).wc, .int .i64 (p.cl (false && !false) true true a1 ca1 a2 ca2 a3 ca3).W, .int .i64 (p.cl (false && !false) true true a1 ca1 a2 ca2 a3 ca3).H, .int .i64 (p.cl (false && !false) true true a1 ca1 a2 ca2 a3 ca3).turn, .int .i64 (p.cl (false && !false) true true a1 ca1 a2 ca2 a3 ca3).stars, .slice (p.cl (false && !false) true true a1 ca1 a2 ca2 a3 ca3).ta (p.cl (false && !false) true true a1 ca1 a2 ca2 a3 ca3).tn (p.cl (false && !false) true true a1 ca1 a2 ca2 a3 ca3).tc, .string (p.cl (false && !false) true true a1 ca1 a2 ca2 a3 ca3).cap, .slice (p.cl (false && !false) true true a1 ca1 a2 ca2 a3 ca3).pa (p.cl (false && !false) true true a1 ca1 a2 ca2 a3 ca3).pn (p.cl (false && !false) true true a1 ca1 a2 ca2 a3 ca3).pc, .bool (p.cl (false && !false) true true a1 ca1 a2 ca2 a3 ca3).hid]) (results_cell_row rfl _ _ (w.heap.size + 1 + 1) 26 _ (0, 0) _ rfl (setRow_heap _ (w.heap.size + 1 + 1) #[.int .i64 0, .string ⟨#[]⟩, .int .i64 0, .int .i64 0, .slice none 0 0, .int .i64 0, .int .i64 0, .int .i64 0, .int .i64 0, .slice none 0 0, .string ⟨#[]⟩, .slice none 0 0, .bool false] _ 26 (0, 0) (by repeat (first | exact hQ | refine Blk.setOther ?_ (by simp <;> omega) _))) Try.underlying26 rfl infoPh) rfl ⟨p.cl (false && !false) true true a1 ca1 a2 ca2 a3 ca3, rfl, Ph.cl_in ?_ ?_ ?_, Ph.cl_like HL2.out, below_setRow ?_ (by omega) _⟩
        · refine RowK.setRow ?_ hn1 (by omega) _
          repeat (first | exact HR1.out | refine RowK.setNew ?_ hn1 (by simp) _)
        · refine RowK.setRow ?_ hn2 (by omega) _
          repeat (first | exact HR2.out | refine RowK.setNew ?_ hn2 (by simp) _)
        · refine RowK.setRow ?_ hn3 (by omega) _
          repeat (first | exact HR3.out | refine RowK.setNew ?_ hn3 (by simp) _)
        · repeat (first | exact hB | refine Below.setCell ?_ (by simp) _)
      · go_wp2_with (refine wpList_store_row rfl 26 _ _ rfl (w.heap.size + 1 + 1) _ rfl rfl 26 #[.int .i64 0, .string ⟨#[]⟩, .int .i64 0, .int .i64 0, .slice none 0 0, .int .i64 0, .int .i64 0, .int .i64 0, .int .i64 0, .slice none 0 0, .string ⟨#[]⟩, .slice none 0 0, .bool false] (by repeat (first | exact hQ | refine Blk.setOther ?_ (by simp <;> omega) _)) infoPh rfl (by simp [Value.oneCell']) ?_)
        refine bodyPost_ret (v := .agg #[.int .i64 (p.cl (true && !false) false false a1 ca1 a2 ca2 a3 ca3).id, .string (p.cl (true && !false) false false a1 ca1 a2 ca2 a3 ca3).file, .int .i64 (p.cl (true && !false) false false a1 ca1 a2 ca2 a3 ca3).mom, .int .i64 (p.cl (true && !false) false false a1 ca1 a2 ca2 a3 ca3).zone, .slice (p.cl (true && !false) false false a1 ca1 a2 ca2 a3 ca3).wa (p.cl (true && !false) false false a1 ca1 a2 ca2 a3 ca3).wn (p.cl (true && !false) false false a1 ca1 a2 ca2 a3 ca3).wc, .int .i64 (p.cl (true && !false) false false a1 ca1 a2 ca2 a3 ca3).W, .int .i64 (p.cl (true && !false) false false a1 ca1 a2 ca2 a3 ca3).H, .int .i64 (p.cl (true && !false) false false a1 ca1 a2 ca2 a3 ca3).turn, .int .i64 (p.cl (true && !false) false false a1 ca1 a2 ca2 a3 ca3).stars, .slice (p.cl (true && !false) false false a1 ca1 a2 ca2 a3 ca3).ta (p.cl (true && !false) false false a1 ca1 a2 ca2 a3 ca3).tn (p.cl (true && !false) false false a1 ca1 a2 ca2 a3 ca3).tc, .string (p.cl (true && !false) false false a1 ca1 a2 ca2 a3 ca3).cap, .slice (p.cl (true && !false) false false a1 ca1 a2 ca2 a3 ca3).pa (p.cl (true && !false) false false a1 ca1 a2 ca2 a3 ca3).pn (p.cl (true && !false) false false a1 ca1 a2 ca2 a3 ca3).pc, .bool (p.cl (true && !false) false false a1 ca1 a2 ca2 a3 ca3).hid]) (results_cell_row rfl _ _ (w.heap.size + 1 + 1) 26 _ (0, 0) _ rfl (setRow_heap _ (w.heap.size + 1 + 1) #[.int .i64 0, .string ⟨#[]⟩, .int .i64 0, .int .i64 0, .slice none 0 0, .int .i64 0, .int .i64 0, .int .i64 0, .int .i64 0, .slice none 0 0, .string ⟨#[]⟩, .slice none 0 0, .bool false] _ 26 (0, 0) (by repeat (first | exact hQ | refine Blk.setOther ?_ (by simp <;> omega) _))) Try.underlying26 rfl infoPh) rfl ⟨p.cl (true && !false) false false a1 ca1 a2 ca2 a3 ca3, rfl, Ph.cl_in ?_ ?_ ?_, Ph.cl_like HL2.out, below_setRow ?_ (by omega) _⟩
        · refine RowK.setRow ?_ hn1 (by omega) _
          repeat (first | exact HR1.out | refine RowK.setNew ?_ hn1 (by simp) _)
        · refine RowK.setRow ?_ hn2 (by omega) _
          repeat (first | exact HR2.out | refine RowK.setNew ?_ hn2 (by simp) _)
        · refine RowK.setRow ?_ hn3 (by omega) _
          repeat (first | exact HR3.out | refine RowK.setNew ?_ hn3 (by simp) _)
        · repeat (first | exact hB | refine Below.setCell ?_ (by simp) _)
      · go_wp2_with (refine wpList_store_row rfl 26 _ _ rfl (w.heap.size + 1 + 1) _ rfl rfl 26 #[.int .i64 0, .string ⟨#[]⟩, .int .i64 0, .int .i64 0, .slice none 0 0, .int .i64 0, .int .i64 0, .int .i64 0, .int .i64 0, .slice none 0 0, .string ⟨#[]⟩, .slice none 0 0, .bool false] (by repeat (first | exact hQ | refine Blk.setOther ?_ (by simp <;> omega) _)) infoPh rfl (by simp [Value.oneCell']) ?_)
        refine bodyPost_ret (v := .agg #[.int .i64 (p.cl (true && !false) false true a1 ca1 a2 ca2 a3 ca3).id, .string (p.cl (true && !false) false true a1 ca1 a2 ca2 a3 ca3).file, .int .i64 (p.cl (true && !false) false true a1 ca1 a2 ca2 a3 ca3).mom, .int .i64 (p.cl (true && !false) false true a1 ca1 a2 ca2 a3 ca3).zone, .slice (p.cl (true && !false) false true a1 ca1 a2 ca2 a3 ca3).wa (p.cl (true && !false) false true a1 ca1 a2 ca2 a3 ca3).wn (p.cl (true && !false) false true a1 ca1 a2 ca2 a3 ca3).wc, .int .i64 (p.cl (true && !false) false true a1 ca1 a2 ca2 a3 ca3).W, .int .i64 (p.cl (true && !false) false true a1 ca1 a2 ca2 a3 ca3).H, .int .i64 (p.cl (true && !false) false true a1 ca1 a2 ca2 a3 ca3).turn, .int .i64 (p.cl (true && !false) false true a1 ca1 a2 ca2 a3 ca3).stars, .slice (p.cl (true && !false) false true a1 ca1 a2 ca2 a3 ca3).ta (p.cl (true && !false) false true a1 ca1 a2 ca2 a3 ca3).tn (p.cl (true && !false) false true a1 ca1 a2 ca2 a3 ca3).tc, .string (p.cl (true && !false) false true a1 ca1 a2 ca2 a3 ca3).cap, .slice (p.cl (true && !false) false true a1 ca1 a2 ca2 a3 ca3).pa (p.cl (true && !false) false true a1 ca1 a2 ca2 a3 ca3).pn (p.cl (true && !false) false true a1 ca1 a2 ca2 a3 ca3).pc, .bool (p.cl (true && !false) false true a1 ca1 a2 ca2 a3 ca3).hid]) (results_cell_row rfl _ _ (w.heap.size + 1 + 1) 26 _ (0, 0) _ rfl (setRow_heap _ (w.heap.size + 1 + 1) #[.int .i64 0, .string ⟨#[]⟩, .int .i64 0, .int .i64 0, .slice none 0 0, .int .i64 0, .int .i64 0, .int .i64 0, .int .i64 0, .slice none 0 0, .string ⟨#[]⟩, .slice none 0 0, .bool false] _ 26 (0, 0) (by repeat (first | exact hQ | refine Blk.setOther ?_ (by simp <;> omega) _))) Try.underlying26 rfl infoPh) rfl ⟨p.cl (true && !false) false true a1 ca1 a2 ca2 a3 ca3, rfl, Ph.cl_in ?_ ?_ ?_, Ph.cl_like HL2.out, below_setRow ?_ (by omega) _⟩
        · refine RowK.setRow ?_ hn1 (by omega) _
          repeat (first | exact HR1.out | refine RowK.setNew ?_ hn1 (by simp) _)
        · refine RowK.setRow ?_ hn2 (by omega) _
          repeat (first | exact HR2.out | refine RowK.setNew ?_ hn2 (by simp) _)
        · refine RowK.setRow ?_ hn3 (by omega) _
          repeat (first | exact HR3.out | refine RowK.setNew ?_ hn3 (by simp) _)
        · repeat (first | exact hB | refine Below.setCell ?_ (by simp) _)
      · go_wp2_with (refine wpList_store_row rfl 26 _ _ rfl (w.heap.size + 1 + 1) _ rfl rfl 26 #[.int .i64 0, .string ⟨#[]⟩, .int .i64 0, .int .i64 0, .slice none 0 0, .int .i64 0, .int .i64 0, .int .i64 0, .int .i64 0, .slice none 0 0, .string ⟨#[]⟩, .slice none 0 0, .bool false] (by repeat (first | exact hQ | refine Blk.setOther ?_ (by simp <;> omega) _)) infoPh rfl (by simp [Value.oneCell']) ?_)
        refine bodyPost_ret (v := .agg #[.int .i64 (p.cl (true && !false) true false a1 ca1 a2 ca2 a3 ca3).id, .string (p.cl (true && !false) true false a1 ca1 a2 ca2 a3 ca3).file, .int .i64 (p.cl (true && !false) true false a1 ca1 a2 ca2 a3 ca3).mom, .int .i64 (p.cl (true && !false) true false a1 ca1 a2 ca2 a3 ca3).zone, .slice (p.cl (true && !false) true false a1 ca1 a2 ca2 a3 ca3).wa (p.cl (true && !false) true false a1 ca1 a2 ca2 a3 ca3).wn (p.cl (true && !false) true false a1 ca1 a2 ca2 a3 ca3).wc, .int .i64 (p.cl (true && !false) true false a1 ca1 a2 ca2 a3 ca3).W, .int .i64 (p.cl (true && !false) true false a1 ca1 a2 ca2 a3 ca3).H, .int .i64 (p.cl (true && !false) true false a1 ca1 a2 ca2 a3 ca3).turn, .int .i64 (p.cl (true && !false) true false a1 ca1 a2 ca2 a3 ca3).stars, .slice (p.cl (true && !false) true false a1 ca1 a2 ca2 a3 ca3).ta (p.cl (true && !false) true false a1 ca1 a2 ca2 a3 ca3).tn (p.cl (true && !false) true false a1 ca1 a2 ca2 a3 ca3).tc, .string (p.cl (true && !false) true false a1 ca1 a2 ca2 a3 ca3).cap, .slice (p.cl (true && !false) true false a1 ca1 a2 ca2 a3 ca3).pa (p.cl (true && !false) true false a1 ca1 a2 ca2 a3 ca3).pn (p.cl (true && !false) true false a1 ca1 a2 ca2 a3 ca3).pc, .bool (p.cl (true && !false) true false a1 ca1 a2 ca2 a3 ca3).hid]) (results_cell_row rfl _ _ (w.heap.size + 1 + 1) 26 _ (0, 0) _ rfl (setRow_heap _ (w.heap.size + 1 + 1) #[.int .i64 0, .string ⟨#[]⟩, .int .i64 0, .int .i64 0, .slice none 0 0, .int .i64 0, .int .i64 0, .int .i64 0, .int .i64 0, .slice none 0 0, .string ⟨#[]⟩, .slice none 0 0, .bool false] _ 26 (0, 0) (by repeat (first | exact hQ | refine Blk.setOther ?_ (by simp <;> omega) _))) Try.underlying26 rfl infoPh) rfl ⟨p.cl (true && !false) true false a1 ca1 a2 ca2 a3 ca3, rfl, Ph.cl_in ?_ ?_ ?_, Ph.cl_like HL2.out, below_setRow ?_ (by omega) _⟩
        · refine RowK.setRow ?_ hn1 (by omega) _
          repeat (first | exact HR1.out | refine RowK.setNew ?_ hn1 (by simp) _)
        · refine RowK.setRow ?_ hn2 (by omega) _
          repeat (first | exact HR2.out | refine RowK.setNew ?_ hn2 (by simp) _)
        · refine RowK.setRow ?_ hn3 (by omega) _
          repeat (first | exact HR3.out | refine RowK.setNew ?_ hn3 (by simp) _)
        · repeat (first | exact hB | refine Below.setCell ?_ (by simp) _)
      · go_wp2_with (refine wpList_store_row rfl 26 _ _ rfl (w.heap.size + 1 + 1) _ rfl rfl 26 #[.int .i64 0, .string ⟨#[]⟩, .int .i64 0, .int .i64 0, .slice none 0 0, .int .i64 0, .int .i64 0, .int .i64 0, .int .i64 0, .slice none 0 0, .string ⟨#[]⟩, .slice none 0 0, .bool false] (by repeat (first | exact hQ | refine Blk.setOther ?_ (by simp <;> omega) _)) infoPh rfl (by simp [Value.oneCell']) ?_)
        refine bodyPost_ret (v := .agg #[.int .i64 (p.cl (true && !false) true true a1 ca1 a2 ca2 a3 ca3).id, .string (p.cl (true && !false) true true a1 ca1 a2 ca2 a3 ca3).file, .int .i64 (p.cl (true && !false) true true a1 ca1 a2 ca2 a3 ca3).mom, .int .i64 (p.cl (true && !false) true true a1 ca1 a2 ca2 a3 ca3).zone, .slice (p.cl (true && !false) true true a1 ca1 a2 ca2 a3 ca3).wa (p.cl (true && !false) true true a1 ca1 a2 ca2 a3 ca3).wn (p.cl (true && !false) true true a1 ca1 a2 ca2 a3 ca3).wc, .int .i64 (p.cl (true && !false) true true a1 ca1 a2 ca2 a3 ca3).W, .int .i64 (p.cl (true && !false) true true a1 ca1 a2 ca2 a3 ca3).H, .int .i64 (p.cl (true && !false) true true a1 ca1 a2 ca2 a3 ca3).turn, .int .i64 (p.cl (true && !false) true true a1 ca1 a2 ca2 a3 ca3).stars, .slice (p.cl (true && !false) true true a1 ca1 a2 ca2 a3 ca3).ta (p.cl (true && !false) true true a1 ca1 a2 ca2 a3 ca3).tn (p.cl (true && !false) true true a1 ca1 a2 ca2 a3 ca3).tc, .string (p.cl (true && !false) true true a1 ca1 a2 ca2 a3 ca3).cap, .slice (p.cl (true && !false) true true a1 ca1 a2 ca2 a3 ca3).pa (p.cl (true && !false) true true a1 ca1 a2 ca2 a3 ca3).pn (p.cl (true && !false) true true a1 ca1 a2 ca2 a3 ca3).pc, .bool (p.cl (true && !false) true true a1 ca1 a2 ca2 a3 ca3).hid]) (results_cell_row rfl _ _ (w.heap.size + 1 + 1) 26 _ (0, 0) _ rfl (setRow_heap _ (w.heap.size + 1 + 1) #[.int .i64 0, .string ⟨#[]⟩, .int .i64 0, .int .i64 0, .slice none 0 0, .int .i64 0, .int .i64 0, .int .i64 0, .int .i64 0, .slice none 0 0, .string ⟨#[]⟩, .slice none 0 0, .bool false] _ 26 (0, 0) (by repeat (first | exact hQ | refine Blk.setOther ?_ (by simp <;> omega) _))) Try.underlying26 rfl infoPh) rfl ⟨p.cl (true && !false) true true a1 ca1 a2 ca2 a3 ca3, rfl, Ph.cl_in ?_ ?_ ?_, Ph.cl_like HL2.out, below_setRow ?_ (by omega) _⟩
        · refine RowK.setRow ?_ hn1 (by omega) _
          repeat (first | exact HR1.out | refine RowK.setNew ?_ hn1 (by simp) _)
        · refine RowK.setRow ?_ hn2 (by omega) _
          repeat (first | exact HR2.out | refine RowK.setNew ?_ hn2 (by simp) _)
        · refine RowK.setRow ?_ hn3 (by omega) _
          repeat (first | exact HR3.out | refine RowK.setNew ?_ hn3 (by simp) _)
        · repeat (first | exact hB | refine Below.setCell ?_ (by simp) _)
      · go_wp2_with (refine wpList_store_row rfl 26 _ _ rfl (w.heap.size + 1 + 1) _ rfl rfl 26 #[.int .i64 0, .string ⟨#[]⟩, .int .i64 0, .int .i64 0, .slice none 0 0, .int .i64 0, .int .i64 0, .int .i64 0, .int .i64 0, .slice none 0 0, .string ⟨#[]⟩, .slice none 0 0, .bool false] (by repeat (first | exact hQ | refine Blk.setOther ?_ (by simp <;> omega) _)) infoPh rfl (by simp [Value.oneCell']) ?_)
        refine bodyPost_ret (v := .agg #[.int .i64 (p.cl (false && !true) false false a1 ca1 a2 ca2 a3 ca3).id, .string (p.cl (false && !true) false false a1 ca1 a2 ca2 a3 ca3).file, .int .i64 (p.cl (false && !true) false false a1 ca1 a2 ca2 a3 ca3).mom, .int .i64 (p.cl (false && !true) false false a1 ca1 a2 ca2 a3 ca3).zone, .slice (p.cl (false && !true) false false a1 ca1 a2 ca2 a3 ca3).wa (p.cl (false && !true) false false a1 ca1 a2 ca2 a3 ca3).wn (p.cl (false && !true) false false a1 ca1 a2 ca2 a3 ca3).wc, .int .i64 (p.cl (false && !true) false false a1 ca1 a2 ca2 a3 ca3).W, .int .i64 (p.cl (false && !true) false false a1 ca1 a2 ca2 a3 ca3).H, .int .i64 (p.cl (false && !true) false false a1 ca1 a2 ca2 a3 ca3).turn, .int .i64 (p.cl (false && !true) false false a1 ca1 a2 ca2 a3 ca3).stars, .slice (p.cl (false && !true) false false a1 ca1 a2 ca2 a3 ca3).ta (p.cl (false && !true) false false a1 ca1 a2 ca2 a3 ca3).tn (p.cl (false && !true) false false a1 ca1 a2 ca2 a3 ca3).tc, .string (p.cl (false && !true) false false a1 ca1 a2 ca2 a3 ca3).cap, .slice (p.cl (false && !true) false false a1 ca1 a2 ca2 a3 ca3).pa (p.cl (false && !true) false false a1 ca1 a2 ca2 a3 ca3).pn (p.cl (false && !true) false false a1 ca1 a2 ca2 a3 ca3).pc, .bool (p.cl (false && !true) false false a1 ca1 a2 ca2 a3 ca3).hid]) (results_cell_row rfl _ _ (w.heap.size + 1 + 1) 26 _ (0, 0) _ rfl (setRow_heap _ (w.heap.size + 1 + 1) #[.int .i64 0, .string ⟨#[]⟩, .int .i64 0, .int .i64 0, .slice none 0 0, .int .i64 0, .int .i64 0, .int .i64 0, .int .i64 0, .slice none 0 0, .string ⟨#[]⟩, .slice none 0 0, .bool false] _ 26 (0, 0) (by repeat (first | exact hQ | refine Blk.setOther ?_ (by simp <;> omega) _))) Try.underlying26 rfl infoPh) rfl ⟨p.cl (false && !true) false false a1 ca1 a2 ca2 a3 ca3, rfl, Ph.cl_in ?_ ?_ ?_, Ph.cl_like HL2.out, below_setRow ?_ (by omega) _⟩
        · refine RowK.setRow ?_ hn1 (by omega) _
          repeat (first | exact HR1.out | refine RowK.setNew ?_ hn1 (by simp) _)
        · refine RowK.setRow ?_ hn2 (by omega) _
          repeat (first | exact HR2.out | refine RowK.setNew ?_ hn2 (by simp) _)
        · refine RowK.setRow ?_ hn3 (by omega) _
          repeat (first | exact HR3.out | refine RowK.setNew ?_ hn3 (by simp) _)
        · repeat (first | exact hB | refine Below.setCell ?_ (by simp) _)
      · go_wp2_with (refine wpList_store_row rfl 26 _ _ rfl (w.heap.size + 1 + 1) _ rfl rfl 26 #[.int .i64 0, .string ⟨#[]⟩, .int .i64 0, .int .i64 0, .slice none 0 0, .int .i64 0, .int .i64 0, .int .i64 0, .int .i64 0, .slice none 0 0, .string ⟨#[]⟩, .slice none 0 0, .bool false] (by repeat (first | exact hQ | refine Blk.setOther ?_ (by simp <;> omega) _)) infoPh rfl (by simp [Value.oneCell']) ?_)
        refine bodyPost_ret (v := .agg #[.int .i64 (p.cl (false && !true) false true a1 ca1 a2 ca2 a3 ca3).id, .string (p.cl (false && !true) false true a1 ca1 a2 ca2 a3 ca3).file, .int .i64 (p.cl (false && !true) false true a1 ca1 a2 ca2 a3 ca3).mom, .int .i64 (p.cl (false && !true) false true a1 ca1 a2 ca2 a3 ca3).zone, .slice (p.cl (false && !true) false true a1 ca1 a2 ca2 a3 ca3).wa (p.cl (false && !true) false true a1 ca1 a2 ca2 a3 ca3).wn (p.cl (false && !true) false true a1 ca1 a2 ca2 a3 ca3).wc, .int .i64 (p.cl (false && !true) false true a1 ca1 a2 ca2 a3 ca3).W, .int .i64 (p.cl (false && !true) false true a1 ca1 a2 ca2 a3 ca3).H, .int .i64 (p.cl (false && !true) false true a1 ca1 a2 ca2 a3 ca3).turn, .int .i64 (p.cl (false && !true) false true a1 ca1 a2 ca2 a3 ca3).stars, .slice (p.cl (false && !true) false true a1 ca1 a2 ca2 a3 ca3).ta (p.cl (false && !true) false true a1 ca1 a2 ca2 a3 ca3).tn (p.cl (false && !true) false true a1 ca1 a2 ca2 a3 ca3).tc, .string (p.cl (false && !true) false true a1 ca1 a2 ca2 a3 ca3).cap, .slice (p.cl (false && !true) false true a1 ca1 a2 ca2 a3 ca3).pa (p.cl (false && !true) false true a1 ca1 a2 ca2 a3 ca3).pn (p.cl (false && !true) false true a1 ca1 a2 ca2 a3 ca3).pc, .bool (p.cl (false && !true) false true a1 ca1 a2 ca2 a3 ca3).hid]) (results_cell_row rfl _ _ (w.heap.size + 1 + 1) 26 _ (0, 0) _ rfl (setRow_heap _ (w.heap.size + 1 + 1) #[.int .i64 0, .string ⟨#[]⟩, .int .i64 0, .int .i64 0, .slice none 0 0, .int .i64 0, .int .i64 0, .int .i64 0, .int .i64 0, .slice none 0 0, .string ⟨#[]⟩, .slice none 0 0, .bool false] _ 26 (0, 0) (by repeat (first | exact hQ | refine Blk.setOther ?_ (by simp <;> omega) _))) Try.underlying26 rfl infoPh) rfl ⟨p.cl (false && !true) false true a1 ca1 a2 ca2 a3 ca3, rfl, Ph.cl_in ?_ ?_ ?_, Ph.cl_like HL2.out, below_setRow ?_ (by omega) _⟩
        · refine RowK.setRow ?_ hn1 (by omega) _
          repeat (first | exact HR1.out | refine RowK.setNew ?_ hn1 (by simp) _)
        · refine RowK.setRow ?_ hn2 (by omega) _
          repeat (first | exact HR2.out | refine RowK.setNew ?_ hn2 (by simp) _)
        · refine RowK.setRow ?_ hn3 (by omega) _
          repeat (first | exact HR3.out | refine RowK.setNew ?_ hn3 (by simp) _)
        · repeat (first | exact hB | refine Below.setCell ?_ (by simp) _)
      · go_wp2_with (refine wpList_store_row rfl 26 _ _ rfl (w.heap.size + 1 + 1) _ rfl rfl 26 #[.int .i64 0, .string ⟨#[]⟩, .int .i64 0, .int .i64 0, .slice none 0 0, .int .i64 0, .int .i64 0, .int .i64 0, .int .i64 0, .slice none 0 0, .string ⟨#[]⟩, .slice none 0 0, .bool false] (by repeat (first | exact hQ | refine Blk.setOther ?_ (by simp <;> omega) _)) infoPh rfl (by simp [Value.oneCell']) ?_)
        refine bodyPost_ret (v := .agg #[.int .i64 (p.cl (false && !true) true false a1 ca1 a2 ca2 a3 ca3).id, .string (p.cl (false && !true) true false a1 ca1 a2 ca2 a3 ca3).file, .int .i64 (p.cl (false && !true) true false a1 ca1 a2 ca2 a3 ca3).mom, .int .i64 (p.cl (false && !true) true false a1 ca1 a2 ca2 a3 ca3).zone, .slice (p.cl (false && !true) true false a1 ca1 a2 ca2 a3 ca3).wa (p.cl (false && !true) true false a1 ca1 a2 ca2 a3 ca3).wn (p.cl (false && !true) true false a1 ca1 a2 ca2 a3 ca3).wc, .int .i64 (p.cl (false && !true) true false a1 ca1 a2 ca2 a3 ca3).W, .int .i64 (p.cl (false && !true) true false a1 ca1 a2 ca2 a3 ca3).H, .int .i64 (p.cl (false && !true) true false a1 ca1 a2 ca2 a3 ca3).turn, .int .i64 (p.cl (false && !true) true false a1 ca1 a2 ca2 a3 ca3).stars, .slice (p.cl (false && !true) true false a1 ca1 a2 ca2 a3 ca3).ta (p.cl (false && !true) true false a1 ca1 a2 ca2 a3 ca3).tn (p.cl (false && !true) true false a1 ca1 a2 ca2 a3 ca3).tc, .string (p.cl (false && !true) true false a1 ca1 a2 ca2 a3 ca3).cap, .slice (p.cl (false && !true) true false a1 ca1 a2 ca2 a3 ca3).pa (p.cl (false && !true) true false a1 ca1 a2 ca2 a3 ca3).pn (p.cl (false && !true) true false a1 ca1 a2 ca2 a3 ca3).pc, .bool (p.cl (false && !true) true false a1 ca1 a2 ca2 a3 ca3).hid]) (results_cell_row rfl _ _ (w.heap.size + 1 + 1) 26 _ (0, 0) _ rfl (setRow_heap _ (w.heap.size + 1 + 1) #[.int .i64 0, .string ⟨#[]⟩, .int .i64 0, .int .i64 0, .slice none 0 0, .int .i64 0, .int .i64 0, .int .i64 0, .int .i64 0, .slice none 0 0, .string ⟨#[]⟩, .slice none 0 0, .bool false] _ 26 (0, 0) (by repeat (first | exact hQ | refine Blk.setOther ?_ (by simp <;> omega) _))) Try.underlying26 rfl infoPh) rfl ⟨p.cl (false && !true) true false a1 ca1 a2 ca2 a3 ca3, rfl, Ph.cl_in ?_ ?_ ?_, Ph.cl_like HL2.out, below_setRow ?_ (by omega) _⟩
        · refine RowK.setRow ?_ hn1 (by omega) _
          repeat (first | exact HR1.out | refine RowK.setNew ?_ hn1 (by simp) _)
        · refine RowK.setRow ?_ hn2 (by omega) _
          repeat (first | exact HR2.out | refine RowK.setNew ?_ hn2 (by simp) _)
        · refine RowK.setRow ?_ hn3 (by omega) _
          repeat (first | exact HR3.out | refine RowK.setNew ?_ hn3 (by simp) _)
        · repeat (first | exact hB | refine Below.setCell ?_ (by simp) _)
      · go_wp2_with (refine wpList_store_row rfl 26 _ _ rfl (w.heap.size + 1 + 1) _ rfl rfl 26 #[.int .i64 0, .string ⟨#[]⟩, .int .i64 0, .int .i64 0, .slice none 0 0, .int .i64 0, .int .i64 0, .int .i64 0, .int .i64 0, .slice none 0 0, .string ⟨#[]⟩, .slice none 0 0, .bool false] (by repeat (first | exact hQ | refine Blk.setOther ?_ (by simp <;> omega) _)) infoPh rfl (by simp [Value.oneCell']) ?_)
        refine bodyPost_ret (v := .agg #[.int .i64 (p.cl (false && !true) true true a1 ca1 a2 ca2 a3 ca3).id, .string (p.cl (false && !true) true true a1 ca1 a2 ca2 a3 ca3).file, .int .i64 (p.cl (false && !true) true true a1 ca1 a2 ca2 a3 ca3).mom, .int .i64 (p.cl (false && !true) true true a1 ca1 a2 ca2 a3 ca3).zone, .slice (p.cl (false && !true) true true a1 ca1 a2 ca2 a3 ca3).wa (p.cl (false && !true) true true a1 ca1 a2 ca2 a3 ca3).wn (p.cl (false && !true) true true a1 ca1 a2 ca2 a3 ca3).wc, .int .i64 (p.cl (false && !true) true true a1 ca1 a2 ca2 a3 ca3).W, .int .i64 (p.cl (false && !true) true true a1 ca1 a2 ca2 a3 ca3).H, .int .i64 (p.cl (false && !true) true true a1 ca1 a2 ca2 a3 ca3).turn, .int .i64 (p.cl (false && !true) true true a1 ca1 a2 ca2 a3 ca3).stars, .slice (p.cl (false && !true) true true a1 ca1 a2 ca2 a3 ca3).ta (p.cl (false && !true) true true a1 ca1 a2 ca2 a3 ca3).tn (p.cl (false && !true) true true a1 ca1 a2 ca2 a3 ca3).tc, .string (p.cl (false && !true) true true a1 ca1 a2 ca2 a3 ca3).cap, .slice (p.cl (false && !true) true true a1 ca1 a2 ca2 a3 ca3).pa (p.cl (false && !true) true true a1 ca1 a2 ca2 a3 ca3).pn (p.cl (false && !true) true true a1 ca1 a2 ca2 a3 ca3).pc, .bool (p.cl (false && !true) true true a1 ca1 a2 ca2 a3 ca3).hid]) (results_cell_row rfl _ _ (w.heap.size + 1 + 1) 26 _ (0, 0) _ rfl (setRow_heap _ (w.heap.size + 1 + 1) #[.int .i64 0, .string ⟨#[]⟩, .int .i64 0, .int .i64 0, .slice none 0 0, .int .i64 0, .int .i64 0, .int .i64 0, .int .i64 0, .slice none 0 0, .string ⟨#[]⟩, .slice none 0 0, .bool false] _ 26 (0, 0) (by repeat (first | exact hQ | refine Blk.setOther ?_ (by simp <;> omega) _))) Try.underlying26 rfl infoPh) rfl ⟨p.cl (false && !true) true true a1 ca1 a2 ca2 a3 ca3, rfl, Ph.cl_in ?_ ?_ ?_, Ph.cl_like HL2.out, below_setRow ?_ (by omega) _⟩
        · refine RowK.setRow ?_ hn1 (by omega) _
          repeat (first | exact HR1.out | refine RowK.setNew ?_ hn1 (by simp) _)
        · refine RowK.setRow ?_ hn2 (by omega) _
          repeat (first | exact HR2.out | refine RowK.setNew ?_ hn2 (by simp) _)
        · refine RowK.setRow ?_ hn3 (by omega) _
          repeat (first | exact HR3.out | refine RowK.setNew ?_ hn3 (by simp) _)
        · repeat (first | exact hB | refine Below.setCell ?_ (by simp) _)
      · go_wp2_with (refine wpList_store_row rfl 26 _ _ rfl (w.heap.size + 1 + 1) _ rfl rfl 26 #[.int .i64 0, .string ⟨#[]⟩, .int .i64 0, .int .i64 0, .slice none 0 0, .int .i64 0, .int .i64 0, .int .i64 0, .int .i64 0, .slice none 0 0, .string ⟨#[]⟩, .slice none 0 0, .bool false] (by repeat (first | exact hQ | refine Blk.setOther ?_ (by simp <;> omega) _)) infoPh rfl (by simp [Value.oneCell']) ?_)
        refine bodyPost_ret (v := .agg #[.int .i64 (p.cl (true && !true) false false a1 ca1 a2 ca2 a3 ca3).id, .string (p.cl (true && !true) false false a1 ca1 a2 ca2 a3 ca3).file, .int .i64 (p.cl (true && !true) false false a1 ca1 a2 ca2 a3 ca3).mom, .int .i64 (p.cl (true && !true) false false a1 ca1 a2 ca2 a3 ca3).zone, .slice (p.cl (true && !true) false false a1 ca1 a2 ca2 a3 ca3).wa (p.cl (true && !true) false false a1 ca1 a2 ca2 a3 ca3).wn (p.cl (true && !true) false false a1 ca1 a2 ca2 a3 ca3).wc, .int .i64 (p.cl (true && !true) false false a1 ca1 a2 ca2 a3 ca3).W, .int .i64 (p.cl (true && !true) false false a1 ca1 a2 ca2 a3 ca3).H, .int .i64 (p.cl (true && !true) false false a1 ca1 a2 ca2 a3 ca3).turn, .int .i64 (p.cl (true && !true) false false a1 ca1 a2 ca2 a3 ca3).stars, .slice (p.cl (true && !true) false false a1 ca1 a2 ca2 a3 ca3).ta (p.cl (true && !true) false false a1 ca1 a2 ca2 a3 ca3).tn (p.cl (true && !true) false false a1 ca1 a2 ca2 a3 ca3).tc, .string (p.cl (true && !true) false false a1 ca1 a2 ca2 a3 ca3).cap, .slice (p.cl (true && !true) false false a1 ca1 a2 ca2 a3 ca3).pa (p.cl (true && !true) false false a1 ca1 a2 ca2 a3 ca3).pn (p.cl (true && !true) false false a1 ca1 a2 ca2 a3 ca3).pc, .bool (p.cl (true && !true) false false a1 ca1 a2 ca2 a3 ca3).hid]) (results_cell_row rfl _ _ (w.heap.size + 1 + 1) 26 _ (0, 0) _ rfl (setRow_heap _ (w.heap.size + 1 + 1) #[.int .i64 0, .string ⟨#[]⟩, .int .i64 0, .int .i64 0, .slice none 0 0, .int .i64 0, .int .i64 0, .int .i64 0, .int .i64 0, .slice none 0 0, .string ⟨#[]⟩, .slice none 0 0, .bool false] _ 26 (0, 0) (by repeat (first | exact hQ | refine Blk.setOther ?_ (by simp <;> omega) _))) Try.underlying26 rfl infoPh) rfl ⟨p.cl (true && !true) false false a1 ca1 a2 ca2 a3 ca3, rfl, Ph.cl_in ?_ ?_ ?_, Ph.cl_like HL2.out, below_setRow ?_ (by omega) _⟩
        · refine RowK.setRow ?_ hn1 (by omega) _
          repeat (first | exact HR1.out | refine RowK.setNew ?_ hn1 (by simp) _)
        · refine RowK.setRow ?_ hn2 (by omega) _
          repeat (first | exact HR2.out | refine RowK.setNew ?_ hn2 (by simp) _)
        · refine RowK.setRow ?_ hn3 (by omega) _
          repeat (first | exact HR3.out | refine RowK.setNew ?_ hn3 (by simp) _)
        · repeat (first | exact hB | refine Below.setCell ?_ (by simp) _)
      · go_wp2_with (refine wpList_store_row rfl 26 _ _ rfl (w.heap.size + 1 + 1) _ rfl rfl 26 #[.int .i64 0, .string ⟨#[]⟩, .int .i64 0, .int .i64 0, .slice none 0 0, .int .i64 0, .int .i64 0, .int .i64 0, .int .i64 0, .slice none 0 0, .string ⟨#[]⟩, .slice none 0 0, .bool false] (by repeat (first | exact hQ | refine Blk.setOther ?_ (by simp <;> omega) _)) infoPh rfl (by simp [Value.oneCell']) ?_)
        refine bodyPost_ret (v := .agg #[.int .i64 (p.cl (true && !true) false true a1 ca1 a2 ca2 a3 ca3).id, .string (p.cl (true && !true) false true a1 ca1 a2 ca2 a3 ca3).file, .int .i64 (p.cl (true && !true) false true a1 ca1 a2 ca2 a3 ca3).mom, .int .i64 (p.cl (true && !true) false true a1 ca1 a2 ca2 a3 ca3).zone, .slice (p.cl (true && !true) false true a1 ca1 a2 ca2 a3 ca3).wa (p.cl (true && !true) false true a1 ca1 a2 ca2 a3 ca3).wn (p.cl (true && !true) false true a1 ca1 a2 ca2 a3 ca3).wc, .int .i64 (p.cl (true && !true) false true a1 ca1 a2 ca2 a3 ca3).W, .int .i64 (p.cl (true && !true) false true a1 ca1 a2 ca2 a3 ca3).H, .int .i64 (p.cl (true && !true) false true a1 ca1 a2 ca2 a3 ca3).turn, .int .i64 (p.cl (true && !true) false true a1 ca1 a2 ca2 a3 ca3).stars, .slice (p.cl (true && !true) false true a1 ca1 a2 ca2 a3 ca3).ta (p.cl (true && !true) false true a1 ca1 a2 ca2 a3 ca3).tn (p.cl (true && !true) false true a1 ca1 a2 ca2 a3 ca3).tc, .string (p.cl (true && !true) false true a1 ca1 a2 ca2 a3 ca3).cap, .slice (p.cl (true && !true) false true a1 ca1 a2 ca2 a3 ca3).pa (p.cl (true && !true) false true a1 ca1 a2 ca2 a3 ca3).pn (p.cl (true && !true) false true a1 ca1 a2 ca2 a3 ca3).pc, .bool (p.cl (true && !true) false true a1 ca1 a2 ca2 a3 ca3).hid]) (results_cell_row rfl _ _ (w.heap.size + 1 + 1) 26 _ (0, 0) _ rfl (setRow_heap _ (w.heap.size + 1 + 1) #[.int .i64 0, .string ⟨#[]⟩, .int .i64 0, .int .i64 0, .slice none 0 0, .int .i64 0, .int .i64 0, .int .i64 0, .int .i64 0, .slice none 0 0, .string ⟨#[]⟩, .slice none 0 0, .bool false] _ 26 (0, 0) (by repeat (first | exact hQ | refine Blk.setOther ?_ (by simp <;> omega) _))) Try.underlying26 rfl infoPh) rfl ⟨p.cl (true && !true) false true a1 ca1 a2 ca2 a3 ca3, rfl, Ph.cl_in ?_ ?_ ?_, Ph.cl_like HL2.out, below_setRow ?_ (by omega) _⟩
        · refine RowK.setRow ?_ hn1 (by omega) _
          repeat (first | exact HR1.out | refine RowK.setNew ?_ hn1 (by simp) _)
        · refine RowK.setRow ?_ hn2 (by omega) _
          repeat (first | exact HR2.out | refine RowK.setNew ?_ hn2 (by simp) _)
        · refine RowK.setRow ?_ hn3 (by omega) _
          repeat (first | exact HR3.out | refine RowK.setNew ?_ hn3 (by simp) _)
        · repeat (first | exact hB | refine Below.setCell ?_ (by simp) _)
      · go_wp2_with (refine wpList_store_row rfl 26 _ _ rfl (w.heap.size + 1 + 1) _ rfl rfl 26 #[.int .i64 0, .string ⟨#[]⟩, .int .i64 0, .int .i64 0, .slice none 0 0, .int .i64 0, .int .i64 0, .int .i64 0, .int .i64 0, .slice none 0 0, .string ⟨#[]⟩, .slice none 0 0, .bool false] (by repeat (first | exact hQ | refine Blk.setOther ?_ (by simp <;> omega) _)) infoPh rfl (by simp [Value.oneCell']) ?_)
        refine bodyPost_ret (v := .agg #[.int .i64 (p.cl (true && !true) true false a1 ca1 a2 ca2 a3 ca3).id, .string (p.cl (true && !true) true false a1 ca1 a2 ca2 a3 ca3).file, .int .i64 (p.cl (true && !true) true false a1 ca1 a2 ca2 a3 ca3).mom, .int .i64 (p.cl (true && !true) true false a1 ca1 a2 ca2 a3 ca3).zone, .slice (p.cl (true && !true) true false a1 ca1 a2 ca2 a3 ca3).wa (p.cl (true && !true) true false a1 ca1 a2 ca2 a3 ca3).wn (p.cl (true && !true) true false a1 ca1 a2 ca2 a3 ca3).wc, .int .i64 (p.cl (true && !true) true false a1 ca1 a2 ca2 a3 ca3).W, .int .i64 (p.cl (true && !true) true false a1 ca1 a2 ca2 a3 ca3).H, .int .i64 (p.cl (true && !true) true false a1 ca1 a2 ca2 a3 ca3).turn, .int .i64 (p.cl (true && !true) true false a1 ca1 a2 ca2 a3 ca3).stars, .slice (p.cl (true && !true) true false a1 ca1 a2 ca2 a3 ca3).ta (p.cl (true && !true) true false a1 ca1 a2 ca2 a3 ca3).tn (p.cl (true && !true) true false a1 ca1 a2 ca2 a3 ca3).tc, .string (p.cl (true && !true) true false a1 ca1 a2 ca2 a3 ca3).cap, .slice (p.cl (true && !true) true false a1 ca1 a2 ca2 a3 ca3).pa (p.cl (true && !true) true false a1 ca1 a2 ca2 a3 ca3).pn (p.cl (true && !true) true false a1 ca1 a2 ca2 a3 ca3).pc, .bool (p.cl (true && !true) true false a1 ca1 a2 ca2 a3 ca3).hid]) (results_cell_row rfl _ _ (w.heap.size + 1 + 1) 26 _ (0, 0) _ rfl (setRow_heap _ (w.heap.size + 1 + 1) #[.int .i64 0, .string ⟨#[]⟩, .int .i64 0, .int .i64 0, .slice none 0 0, .int .i64 0, .int .i64 0, .int .i64 0, .int .i64 0, .slice none 0 0, .string ⟨#[]⟩, .slice none 0 0, .bool false] _ 26 (0, 0) (by repeat (first | exact hQ | refine Blk.setOther ?_ (by simp <;> omega) _))) Try.underlying26 rfl infoPh) rfl ⟨p.cl (true && !true) true false a1 ca1 a2 ca2 a3 ca3, rfl, Ph.cl_in ?_ ?_ ?_, Ph.cl_like HL2.out, below_setRow ?_ (by omega) _⟩
        · refine RowK.setRow ?_ hn1 (by omega) _
          repeat (first | exact HR1.out | refine RowK.setNew ?_ hn1 (by simp) _)
        · refine RowK.setRow ?_ hn2 (by omega) _
          repeat (first | exact HR2.out | refine RowK.setNew ?_ hn2 (by simp) _)
        · refine RowK.setRow ?_ hn3 (by omega) _
          repeat (first | exact HR3.out | refine RowK.setNew ?_ hn3 (by simp) _)
        · repeat (first | exact hB | refine Below.setCell ?_ (by simp) _)
      · go_wp2_with (refine wpList_store_row rfl 26 _ _ rfl (w.heap.size + 1 + 1) _ rfl rfl 26 #[.int .i64 0, .string ⟨#[]⟩, .int .i64 0, .int .i64 0, .slice none 0 0, .int .i64 0, .int .i64 0, .int .i64 0, .int .i64 0, .slice none 0 0, .string ⟨#[]⟩, .slice none 0 0, .bool false] (by repeat (first | exact hQ | refine Blk.setOther ?_ (by simp <;> omega) _)) infoPh rfl (by simp [Value.oneCell']) ?_)
        refine bodyPost_ret (v := .agg #[.int .i64 (p.cl (true && !true) true true a1 ca1 a2 ca2 a3 ca3).id, .string (p.cl (true && !true) true true a1 ca1 a2 ca2 a3 ca3).file, .int .i64 (p.cl (true && !true) true true a1 ca1 a2 ca2 a3 ca3).mom, .int .i64 (p.cl (true && !true) true true a1 ca1 a2 ca2 a3 ca3).zone, .slice (p.cl (true && !true) true true a1 ca1 a2 ca2 a3 ca3).wa (p.cl (true && !true) true true a1 ca1 a2 ca2 a3 ca3).wn (p.cl (true && !true) true true a1 ca1 a2 ca2 a3 ca3).wc, .int .i64 (p.cl (true && !true) true true a1 ca1 a2 ca2 a3 ca3).W, .int .i64 (p.cl (true && !true) true true a1 ca1 a2 ca2 a3 ca3).H, .int .i64 (p.cl (true && !true) true true a1 ca1 a2 ca2 a3 ca3).turn, .int .i64 (p.cl (true && !true) true true a1 ca1 a2 ca2 a3 ca3).stars, .slice (p.cl (true && !true) true true a1 ca1 a2 ca2 a3 ca3).ta (p.cl (true && !true) true true a1 ca1 a2 ca2 a3 ca3).tn (p.cl (true && !true) true true a1 ca1 a2 ca2 a3 ca3).tc, .string (p.cl (true && !true) true true a1 ca1 a2 ca2 a3 ca3).cap, .slice (p.cl (true && !true) true true a1 ca1 a2 ca2 a3 ca3).pa (p.cl (true && !true) true true a1 ca1 a2 ca2 a3 ca3).pn (p.cl (true && !true) true true a1 ca1 a2 ca2 a3 ca3).pc, .bool (p.cl (true && !true) true true a1 ca1 a2 ca2 a3 ca3).hid]) (results_cell_row rfl _ _ (w.heap.size + 1 + 1) 26 _ (0, 0) _ rfl (setRow_heap _ (w.heap.size + 1 + 1) #[.int .i64 0, .string ⟨#[]⟩, .int .i64 0, .int .i64 0, .slice none 0 0, .int .i64 0, .int .i64 0, .int .i64 0, .int .i64 0, .slice none 0 0, .string ⟨#[]⟩, .slice none 0 0, .bool false] _ 26 (0, 0) (by repeat (first | exact hQ | refine Blk.setOther ?_ (by simp <;> omega) _))) Try.underlying26 rfl infoPh) rfl ⟨p.cl (true && !true) true true a1 ca1 a2 ca2 a3 ca3, rfl, Ph.cl_in ?_ ?_ ?_, Ph.cl_like HL2.out, below_setRow ?_ (by omega) _⟩
        · refine RowK.setRow ?_ hn1 (by omega) _
          repeat (first | exact HR1.out | refine RowK.setNew ?_ hn1 (by simp) _)
        · refine RowK.setRow ?_ hn2 (by omega) _
          repeat (first | exact HR2.out | refine RowK.setNew ?_ hn2 (by simp) _)
        · refine RowK.setRow ?_ hn3 (by omega) _
          repeat (first | exact HR3.out | refine RowK.setNew ?_ hn3 (by simp) _)
        · repeat (first | exact hB | refine Below.setCell ?_ (by simp) _)
end Go.Proofs.Ytipmegkmkbbklaa
