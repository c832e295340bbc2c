/- desk.clean: no place. -/
import Derived.Test.YtipmegkmkbbklaaDcClean
namespace Go.Proofs.Ytipmegkmkbbklaa
open Go.RowKit Go.Sort Go.Shelf
set_option linter.unusedVariables false
set_option linter.unusedSimpArgs false
set_option maxRecDepth 100000 in
set_option maxHeartbeats 4000000 in
theorem clean_none (p : Ph) (hF : p.Few) (key album : ByteArray) (pl pe wo : Bool) (F T : Int) (ha : Option Addr) (hn hc : Nat) (la lo ra : Nat → Int) (near : Nat → Bool) (w : World) (hI : p.In w) (hA : Ars w ha hn la lo ra) (hnle : hn ≤ 9223372036854775807) (hnear : ∀ i, i < hn → ∃ d e : Int, (∀ w : World, Calls Try.prog 80 #[.agg #[.int .i64 (p.lat 0), .int .i64 (p.lon 0)], .agg #[.int .i64 (la i), .int .i64 (lo i)]] w fun r w' => r = .returned (.tuple #[.int .i64 d, .int .i64 e]) ∧ Below w.heap.size w w') ∧ near i = decide (d ≤ ra i)) (hw0 : ¬ 0 < p.wn) : Calls Try.prog 30 #[.agg #[.int .i64 p.id, .string p.file, .int .i64 p.mom, .int .i64 p.zone, .slice p.wa p.wn p.wc, .int .i64 p.W, .int .i64 p.H, .int .i64 p.turn, .int .i64 p.stars, .slice p.ta p.tn p.tc, .string p.cap, .slice p.pa p.pn p.pc, .bool p.hid], .agg #[.string key, .string album, .bool pl, .bool pe, .bool wo, .int .i64 F, .int .i64 T], .slice ha hn hc] w fun e w' => ∃ r : Ph, e = .returned (.agg #[.int .i64 r.id, .string r.file, .int .i64 r.mom, .int .i64 r.zone, .slice r.wa r.wn r.wc, .int .i64 r.W, .int .i64 r.H, .int .i64 r.turn, .int .i64 r.stars, .slice r.ta r.tn r.tc, .string r.cap, .slice r.pa r.pn r.pc, .bool r.hid]) ∧ r.In w' ∧ p.Like r (pl && !Fd.hit near hn) pe wo ∧ r.New w.heap.size ∧ Below w.heap.size w w' := by
  have HCP := Lib.hid (fun V (hV : p.In V) => copyPhoto_is p hF V hV)
  have HI := Lib.hid hI
  have HA := Lib.hid hA
  have HNR := Lib.hid hnear
  clear hI hA hnear
  obtain ⟨W1, hW1, hP, hz1, hB1⟩ := box w #[.int .i64 p.id, .string p.file, .int .i64 p.mom, .int .i64 p.zone, .slice p.wa p.wn p.wc, .int .i64 p.W, .int .i64 p.H, .int .i64 p.turn, .int .i64 p.stars, .slice p.ta p.tn p.tc, .string p.cap, .slice p.pa p.pn p.pc, .bool p.hid] 26
  obtain ⟨W2, hW2, hL, hz2, hB2⟩ := box W1 #[.string key, .string album, .bool pl, .bool pe, .bool wo, .int .i64 F, .int .i64 T] 28
  obtain ⟨W3, hW3, hQ, hz3, hB3⟩ := box W2 #[.int .i64 0, .string ⟨#[]⟩, .int .i64 0, .int .i64 0, .slice none 0 0, .int .i64 0, .int .i64 0, .int .i64 0, .int .i64 0, .slice none 0 0, .string ⟨#[]⟩, .slice none 0 0, .bool false] 26
  have HW1 := Lib.hid hW1; have HW2 := Lib.hid hW2; have HW3 := Lib.hid hW3
  have hB23 := below_up hB2 hB3
  have hP := hP.keep hB23
  have hL := hL.keep hB3
  rw [hz1] at hL hz2
  rw [hz2] at hQ hz3
  have hB := below_up hB1 hB23
  have hsz : w.heap.size + 3 ≤ W3.heap.size := by omega
  clear hW1 hW2 hW3 hz1 hz2 hz3 hB1 hB2 hB3 hB23
  go_enter Try.func30, Try.ntmps30
  go_wp2_with fail
  rw [HW1.out, HW2.out, HW3.out]
  obtain ⟨q0, q1, q2, q3, q4, q5, q6, q7, q8, q9, q10, q11, q12⟩ := hP.photo
  go_wp2_with fail
  go_at_call 43
  refine (HCP.out _ (HI.out.keep hB)).mono ?_
  rintro e w4 ⟨a1, a2, a3, rfl, hI4, ⟨hn1, hn2, hn3⟩, hB4⟩
  have hn1 := hn1.down hsz
  have hn2 := hn2.down hsz
  have hn3 := hn3.down hsz
  have hr1 : RowK w4 a1 p.wn 2 (Fd.pair2 p.lat p.lon) := rowK_places hI4.places
  have hr2 : RowK w4 a2 p.tn 1 (fun i => .string (p.tag i)) := rowK_row hI4.tags
  have hr3 : RowK w4 a3 p.pn 1 (fun i => .int .i64 (p.who i)) := rowK_row hI4.people
  have hP4 := hP.keep hB4
  have hL4 := hL.keep hB4
  have hQ4 := hQ.keep hB4
  have hB04 := below_up hB hB4
  clear q0 q1 q2 q3 q4 q5 q6 q7 q8 q9 q10 q11 q12 hP hL hQ hB hI4
  go_upto_region 3 with (refine wpList_store_row rfl 26 _ _ rfl w.heap.size #[.int .i64 p.id, .string p.file, .int .i64 p.mom, .int .i64 p.zone, .slice a1 p.wn p.wn, .int .i64 p.W, .int .i64 p.H, .int .i64 p.turn, .int .i64 p.stars, .slice a2 p.tn p.tn, .string p.cap, .slice a3 p.pn p.pn, .bool p.hid] rfl rfl 26 _ hP4 infoPh rfl (by simp [Value.oneCell']) ?_)
  have hP : Blk (w4.setRow w.heap.size #[.int .i64 p.id, .string p.file, .int .i64 p.mom, .int .i64 p.zone, .slice a1 p.wn p.wn, .int .i64 p.W, .int .i64 p.H, .int .i64 p.turn, .int .i64 p.stars, .slice a2 p.tn p.tn, .string p.cap, .slice a3 p.pn p.pn, .bool p.hid]) w.heap.size #[.int .i64 p.id, .string p.file, .int .i64 p.mom, .int .i64 p.zone, .slice a1 p.wn p.wn, .int .i64 p.W, .int .i64 p.H, .int .i64 p.turn, .int .i64 p.stars, .slice a2 p.tn p.tn, .string p.cap, .slice a3 p.pn p.pn, .bool p.hid] 26 := blk_setRow_same hP4
  have hL := blk_setRow hL4 (show w.heap.size + 1 ≠ w.heap.size by omega) (cs := #[.int .i64 p.id, .string p.file, .int .i64 p.mom, .int .i64 p.zone, .slice a1 p.wn p.wn, .int .i64 p.W, .int .i64 p.H, .int .i64 p.turn, .int .i64 p.stars, .slice a2 p.tn p.tn, .string p.cap, .slice a3 p.pn p.pn, .bool p.hid])
  have hQ := blk_setRow hQ4 (show w.heap.size + 1 + 1 ≠ w.heap.size by omega) (cs := #[.int .i64 p.id, .string p.file, .int .i64 p.mom, .int .i64 p.zone, .slice a1 p.wn p.wn, .int .i64 p.W, .int .i64 p.H, .int .i64 p.turn, .int .i64 p.stars, .slice a2 p.tn p.tn, .string p.cap, .slice a3 p.pn p.pn, .bool p.hid])
  have hB := below_setRow hB04 (Nat.le_refl _) #[.int .i64 p.id, .string p.file, .int .i64 p.mom, .int .i64 p.zone, .slice a1 p.wn p.wn, .int .i64 p.W, .int .i64 p.H, .int .i64 p.turn, .int .i64 p.stars, .slice a2 p.tn p.tn, .string p.cap, .slice a3 p.pn p.pn, .bool p.hid]
  have hr1 := hr1.setRow hn1 (show w.heap.size < w.heap.size + 3 by omega) #[.int .i64 p.id, .string p.file, .int .i64 p.mom, .int .i64 p.zone, .slice a1 p.wn p.wn, .int .i64 p.W, .int .i64 p.H, .int .i64 p.turn, .int .i64 p.stars, .slice a2 p.tn p.tn, .string p.cap, .slice a3 p.pn p.pn, .bool p.hid]
  have hr2 := hr2.setRow hn2 (show w.heap.size < w.heap.size + 3 by omega) #[.int .i64 p.id, .string p.file, .int .i64 p.mom, .int .i64 p.zone, .slice a1 p.wn p.wn, .int .i64 p.W, .int .i64 p.H, .int .i64 p.turn, .int .i64 p.stars, .slice a2 p.tn p.tn, .string p.cap, .slice a3 p.pn p.pn, .bool p.hid]
  have hr3 := hr3.setRow hn3 (show w.heap.size < w.heap.size + 3 by omega) #[.int .i64 p.id, .string p.file, .int .i64 p.mom, .int .i64 p.zone, .slice a1 p.wn p.wn, .int .i64 p.W, .int .i64 p.H, .int .i64 p.turn, .int .i64 p.stars, .slice a2 p.tn p.tn, .string p.cap, .slice a3 p.pn p.pn, .bool p.hid]
  have hsz := show w.heap.size + 3 ≤ (w4.setRow w.heap.size #[.int .i64 p.id, .string p.file, .int .i64 p.mom, .int .i64 p.zone, .slice a1 p.wn p.wn, .int .i64 p.W, .int .i64 p.H, .int .i64 p.turn, .int .i64 p.stars, .slice a2 p.tn p.tn, .string p.cap, .slice a3 p.pn p.pn, .bool p.hid]).heap.size by have := hB4.size; simp; omega
  generalize w4.setRow w.heap.size #[.int .i64 p.id, .string p.file, .int .i64 p.mom, .int .i64 p.zone, .slice a1 p.wn p.wn, .int .i64 p.W, .int .i64 p.H, .int .i64 p.turn, .int .i64 p.stars, .slice a2 p.tn p.tn, .string p.cap, .slice a3 p.pn p.pn, .bool p.hid] = V1 at *
  clear hP4 hL4 hQ4 hB04 hB4 HCP HI
  have hw1 : ((0 : Int) < (p.wn : Int)) = False := by simp; omega
  have hw2 : decide ((0 : Int) < (p.wn : Int)) = false := decide_eq_false (by omega)
  have hw3 : (0 < p.wn) = False := by simp; omega
  have HL2 : Hid (true = (pl && !Fd.hit near hn) ∨ p.wn = 0) := .inr (by omega)
  have HR1 := Lib.hid hr1; have HR2 := Lib.hid hr2; have HR3 := Lib.hid hr3
  obtain ⟨y0, y1, y2, y3, y4, y5, y6, y7, y8, y9, y10, y11, y12⟩ := hP.photo
  have yf := hP.free
  have l2 : V1.cell? ⟨w.heap.size + 1, 2, none⟩ = some (.bool pl) := by rw [hL.cell]; rfl
  have l3 : V1.cell? ⟨w.heap.size + 1, 3, none⟩ = some (.bool pe) := by rw [hL.cell]; rfl
  have l4 : V1.cell? ⟨w.heap.size + 1, 4, none⟩ = some (.bool wo) := by rw [hL.cell]; rfl
  clear hr1 hr2 hr3 hP hL HNR HA
  -- the four ends; true: is the place kept?
  cases pe <;> cases wo
  · go_wp2_with (refine wpList_store_row rfl 26 _ _ rfl (w.heap.size + 1 + 1) _ rfl rfl 26 #[.int .i64 0, .string ⟨#[]⟩, .int .i64 0, .int .i64 0, .slice none 0 0, .int .i64 0, .int .i64 0, .int .i64 0, .int .i64 0, .slice none 0 0, .string ⟨#[]⟩, .slice none 0 0, .bool false] (by repeat (first | exact hQ | refine Blk.setOther ?_ (by simp <;> omega) _)) infoPh rfl (by simp [Value.oneCell']) ?_)
    refine bodyPost_ret (v := .agg #[.int .i64 (p.cl true false false a1 p.wn a2 p.tn a3 p.pn).id, .string (p.cl true false false a1 p.wn a2 p.tn a3 p.pn).file, .int .i64 (p.cl true false false a1 p.wn a2 p.tn a3 p.pn).mom, .int .i64 (p.cl true false false a1 p.wn a2 p.tn a3 p.pn).zone, .slice (p.cl true false false a1 p.wn a2 p.tn a3 p.pn).wa (p.cl true false false a1 p.wn a2 p.tn a3 p.pn).wn (p.cl true false false a1 p.wn a2 p.tn a3 p.pn).wc, .int .i64 (p.cl true false false a1 p.wn a2 p.tn a3 p.pn).W, .int .i64 (p.cl true false false a1 p.wn a2 p.tn a3 p.pn).H, .int .i64 (p.cl true false false a1 p.wn a2 p.tn a3 p.pn).turn, .int .i64 (p.cl true false false a1 p.wn a2 p.tn a3 p.pn).stars, .slice (p.cl true false false a1 p.wn a2 p.tn a3 p.pn).ta (p.cl true false false a1 p.wn a2 p.tn a3 p.pn).tn (p.cl true false false a1 p.wn a2 p.tn a3 p.pn).tc, .string (p.cl true false false a1 p.wn a2 p.tn a3 p.pn).cap, .slice (p.cl true false false a1 p.wn a2 p.tn a3 p.pn).pa (p.cl true false false a1 p.wn a2 p.tn a3 p.pn).pn (p.cl true false false a1 p.wn a2 p.tn a3 p.pn).pc, .bool (p.cl true false false a1 p.wn a2 p.tn a3 p.pn).hid]) (results_cell_row rfl _ _ (w.heap.size + 1 + 1) 26 _ (0, 0) _ rfl (setRow_heap _ (w.heap.size + 1 + 1) #[.int .i64 0, .string ⟨#[]⟩, .int .i64 0, .int .i64 0, .slice none 0 0, .int .i64 0, .int .i64 0, .int .i64 0, .int .i64 0, .slice none 0 0, .string ⟨#[]⟩, .slice none 0 0, .bool false] _ 26 (0, 0) (by repeat (first | exact hQ | refine Blk.setOther ?_ (by simp <;> omega) _))) Try.underlying26 rfl infoPh) rfl ⟨p.cl true false false a1 p.wn a2 p.tn a3 p.pn, rfl, Ph.cl_in ?_ ?_ ?_, Ph.cl_like HL2.out, Ph.cl_new hn1 hn2 hn3 (by omega), below_setRow ?_ (by omega) _⟩
    · refine RowK.setRow ?_ hn1 (by omega) _
      repeat (first | exact HR1.out | refine RowK.setNew ?_ hn1 (by simp) _)
    · refine RowK.setRow ?_ hn2 (by omega) _
      repeat (first | exact HR2.out | refine RowK.setNew ?_ hn2 (by simp) _)
    · refine RowK.setRow ?_ hn3 (by omega) _
      repeat (first | exact HR3.out | refine RowK.setNew ?_ hn3 (by simp) _)
    · repeat (first | exact hB | refine Below.setCell ?_ (by simp) _)
  · go_wp2_with (refine wpList_store_row rfl 26 _ _ rfl (w.heap.size + 1 + 1) _ rfl rfl 26 #[.int .i64 0, .string ⟨#[]⟩, .int .i64 0, .int .i64 0, .slice none 0 0, .int .i64 0, .int .i64 0, .int .i64 0, .int .i64 0, .slice none 0 0, .string ⟨#[]⟩, .slice none 0 0, .bool false] (by repeat (first | exact hQ | refine Blk.setOther ?_ (by simp <;> omega) _)) infoPh rfl (by simp [Value.oneCell']) ?_)
    refine bodyPost_ret (v := .agg #[.int .i64 (p.cl true false true a1 p.wn a2 p.tn a3 p.pn).id, .string (p.cl true false true a1 p.wn a2 p.tn a3 p.pn).file, .int .i64 (p.cl true false true a1 p.wn a2 p.tn a3 p.pn).mom, .int .i64 (p.cl true false true a1 p.wn a2 p.tn a3 p.pn).zone, .slice (p.cl true false true a1 p.wn a2 p.tn a3 p.pn).wa (p.cl true false true a1 p.wn a2 p.tn a3 p.pn).wn (p.cl true false true a1 p.wn a2 p.tn a3 p.pn).wc, .int .i64 (p.cl true false true a1 p.wn a2 p.tn a3 p.pn).W, .int .i64 (p.cl true false true a1 p.wn a2 p.tn a3 p.pn).H, .int .i64 (p.cl true false true a1 p.wn a2 p.tn a3 p.pn).turn, .int .i64 (p.cl true false true a1 p.wn a2 p.tn a3 p.pn).stars, .slice (p.cl true false true a1 p.wn a2 p.tn a3 p.pn).ta (p.cl true false true a1 p.wn a2 p.tn a3 p.pn).tn (p.cl true false true a1 p.wn a2 p.tn a3 p.pn).tc, .string (p.cl true false true a1 p.wn a2 p.tn a3 p.pn).cap, .slice (p.cl true false true a1 p.wn a2 p.tn a3 p.pn).pa (p.cl true false true a1 p.wn a2 p.tn a3 p.pn).pn (p.cl true false true a1 p.wn a2 p.tn a3 p.pn).pc, .bool (p.cl true false true a1 p.wn a2 p.tn a3 p.pn).hid]) (results_cell_row rfl _ _ (w.heap.size + 1 + 1) 26 _ (0, 0) _ rfl (setRow_heap _ (w.heap.size + 1 + 1) #[.int .i64 0, .string ⟨#[]⟩, .int .i64 0, .int .i64 0, .slice none 0 0, .int .i64 0, .int .i64 0, .int .i64 0, .int .i64 0, .slice none 0 0, .string ⟨#[]⟩, .slice none 0 0, .bool false] _ 26 (0, 0) (by repeat (first | exact hQ | refine Blk.setOther ?_ (by simp <;> omega) _))) Try.underlying26 rfl infoPh) rfl ⟨p.cl true false true a1 p.wn a2 p.tn a3 p.pn, rfl, Ph.cl_in ?_ ?_ ?_, Ph.cl_like HL2.out, Ph.cl_new hn1 hn2 hn3 (by omega), below_setRow ?_ (by omega) _⟩
    · refine RowK.setRow ?_ hn1 (by omega) _
      repeat (first | exact HR1.out | refine RowK.setNew ?_ hn1 (by simp) _)
    · refine RowK.setRow ?_ hn2 (by omega) _
      repeat (first | exact HR2.out | refine RowK.setNew ?_ hn2 (by simp) _)
    · refine RowK.setRow ?_ hn3 (by omega) _
      repeat (first | exact HR3.out | refine RowK.setNew ?_ hn3 (by simp) _)
    · repeat (first | exact hB | refine Below.setCell ?_ (by simp) _)
  · go_wp2_with (refine wpList_store_row rfl 26 _ _ rfl (w.heap.size + 1 + 1) _ rfl rfl 26 #[.int .i64 0, .string ⟨#[]⟩, .int .i64 0, .int .i64 0, .slice none 0 0, .int .i64 0, .int .i64 0, .int .i64 0, .int .i64 0, .slice none 0 0, .string ⟨#[]⟩, .slice none 0 0, .bool false] (by repeat (first | exact hQ | refine Blk.setOther ?_ (by simp <;> omega) _)) infoPh rfl (by simp [Value.oneCell']) ?_)
    refine bodyPost_ret (v := .agg #[.int .i64 (p.cl true true false a1 p.wn a2 p.tn a3 p.pn).id, .string (p.cl true true false a1 p.wn a2 p.tn a3 p.pn).file, .int .i64 (p.cl true true false a1 p.wn a2 p.tn a3 p.pn).mom, .int .i64 (p.cl true true false a1 p.wn a2 p.tn a3 p.pn).zone, .slice (p.cl true true false a1 p.wn a2 p.tn a3 p.pn).wa (p.cl true true false a1 p.wn a2 p.tn a3 p.pn).wn (p.cl true true false a1 p.wn a2 p.tn a3 p.pn).wc, .int .i64 (p.cl true true false a1 p.wn a2 p.tn a3 p.pn).W, .int .i64 (p.cl true true false a1 p.wn a2 p.tn a3 p.pn).H, .int .i64 (p.cl true true false a1 p.wn a2 p.tn a3 p.pn).turn, .int .i64 (p.cl true true false a1 p.wn a2 p.tn a3 p.pn).stars, .slice (p.cl true true false a1 p.wn a2 p.tn a3 p.pn).ta (p.cl true true false a1 p.wn a2 p.tn a3 p.pn).tn (p.cl true true false a1 p.wn a2 p.tn a3 p.pn).tc, .string (p.cl true true false a1 p.wn a2 p.tn a3 p.pn).cap, .slice (p.cl true true false a1 p.wn a2 p.tn a3 p.pn).pa (p.cl true true false a1 p.wn a2 p.tn a3 p.pn).pn (p.cl true true false a1 p.wn a2 p.tn a3 p.pn).pc, .bool (p.cl true true false a1 p.wn a2 p.tn a3 p.pn).hid]) (results_cell_row rfl _ _ (w.heap.size + 1 + 1) 26 _ (0, 0) _ rfl (setRow_heap _ (w.heap.size + 1 + 1) #[.int .i64 0, .string ⟨#[]⟩, .int .i64 0, .int .i64 0, .slice none 0 0, .int .i64 0, .int .i64 0, .int .i64 0, .int .i64 0, .slice none 0 0, .string ⟨#[]⟩, .slice none 0 0, .bool false] _ 26 (0, 0) (by repeat (first | exact hQ | refine Blk.setOther ?_ (by simp <;> omega) _))) Try.underlying26 rfl infoPh) rfl ⟨p.cl true true false a1 p.wn a2 p.tn a3 p.pn, rfl, Ph.cl_in ?_ ?_ ?_, Ph.cl_like HL2.out, Ph.cl_new hn1 hn2 hn3 (by omega), below_setRow ?_ (by omega) _⟩
    · refine RowK.setRow ?_ hn1 (by omega) _
      repeat (first | exact HR1.out | refine RowK.setNew ?_ hn1 (by simp) _)
    · refine RowK.setRow ?_ hn2 (by omega) _
      repeat (first | exact HR2.out | refine RowK.setNew ?_ hn2 (by simp) _)
    · refine RowK.setRow ?_ hn3 (by omega) _
      repeat (first | exact HR3.out | refine RowK.setNew ?_ hn3 (by simp) _)
    · repeat (first | exact hB | refine Below.setCell ?_ (by simp) _)
  · go_wp2_with (refine wpList_store_row rfl 26 _ _ rfl (w.heap.size + 1 + 1) _ rfl rfl 26 #[.int .i64 0, .string ⟨#[]⟩, .int .i64 0, .int .i64 0, .slice none 0 0, .int .i64 0, .int .i64 0, .int .i64 0, .int .i64 0, .slice none 0 0, .string ⟨#[]⟩, .slice none 0 0, .bool false] (by repeat (first | exact hQ | refine Blk.setOther ?_ (by simp <;> omega) _)) infoPh rfl (by simp [Value.oneCell']) ?_)
    refine bodyPost_ret (v := .agg #[.int .i64 (p.cl true true true a1 p.wn a2 p.tn a3 p.pn).id, .string (p.cl true true true a1 p.wn a2 p.tn a3 p.pn).file, .int .i64 (p.cl true true true a1 p.wn a2 p.tn a3 p.pn).mom, .int .i64 (p.cl true true true a1 p.wn a2 p.tn a3 p.pn).zone, .slice (p.cl true true true a1 p.wn a2 p.tn a3 p.pn).wa (p.cl true true true a1 p.wn a2 p.tn a3 p.pn).wn (p.cl true true true a1 p.wn a2 p.tn a3 p.pn).wc, .int .i64 (p.cl true true true a1 p.wn a2 p.tn a3 p.pn).W, .int .i64 (p.cl true true true a1 p.wn a2 p.tn a3 p.pn).H, .int .i64 (p.cl true true true a1 p.wn a2 p.tn a3 p.pn).turn, .int .i64 (p.cl true true true a1 p.wn a2 p.tn a3 p.pn).stars, .slice (p.cl true true true a1 p.wn a2 p.tn a3 p.pn).ta (p.cl true true true a1 p.wn a2 p.tn a3 p.pn).tn (p.cl true true true a1 p.wn a2 p.tn a3 p.pn).tc, .string (p.cl true true true a1 p.wn a2 p.tn a3 p.pn).cap, .slice (p.cl true true true a1 p.wn a2 p.tn a3 p.pn).pa (p.cl true true true a1 p.wn a2 p.tn a3 p.pn).pn (p.cl true true true a1 p.wn a2 p.tn a3 p.pn).pc, .bool (p.cl true true true a1 p.wn a2 p.tn a3 p.pn).hid]) (results_cell_row rfl _ _ (w.heap.size + 1 + 1) 26 _ (0, 0) _ rfl (setRow_heap _ (w.heap.size + 1 + 1) #[.int .i64 0, .string ⟨#[]⟩, .int .i64 0, .int .i64 0, .slice none 0 0, .int .i64 0, .int .i64 0, .int .i64 0, .int .i64 0, .slice none 0 0, .string ⟨#[]⟩, .slice none 0 0, .bool false] _ 26 (0, 0) (by repeat (first | exact hQ | refine Blk.setOther ?_ (by simp <;> omega) _))) Try.underlying26 rfl infoPh) rfl ⟨p.cl true true true a1 p.wn a2 p.tn a3 p.pn, rfl, Ph.cl_in ?_ ?_ ?_, Ph.cl_like HL2.out, Ph.cl_new hn1 hn2 hn3 (by omega), below_setRow ?_ (by omega) _⟩
    · refine RowK.setRow ?_ hn1 (by omega) _
      repeat (first | exact HR1.out | refine RowK.setNew ?_ hn1 (by simp) _)
    · refine RowK.setRow ?_ hn2 (by omega) _
      repeat (first | exact HR2.out | refine RowK.setNew ?_ hn2 (by simp) _)
    · refine RowK.setRow ?_ hn3 (by omega) _
      repeat (first | exact HR3.out | refine RowK.setNew ?_ hn3 (by simp) _)
    · repeat (first | exact hB | refine Below.setCell ?_ (by simp) _)
end Go.Proofs.Ytipmegkmkbbklaa
