/- find.CopyPhoto: an equal photo in new memory. -/
import Derived.Test.YtipmegkmkbbklaaCpy
import Derived.Deep.DeepCutAuto
import Derived.Laws.Tables
import Derived.Laws.Rows
import Derived.Laws.CopyOwn
namespace Go.Proofs.Ytipmegkmkbbklaa
open Go.RowKit Go.Sort Go.Shelf
set_option linter.unusedVariables false
theorem infoPh : (Try.prog.info? 26).map (·.size) = some 13 := by kernel_rfl
theorem RowK.setRow {w : World} {a : Option Addr} {n k B : Nat} {F : Nat → Value} (h : RowK w a n k F) (hn : NewK B a n) {b0 : Nat} (hp : b0 < B) (cs : Array Value) : RowK (w.setRow b0 cs) a n k F := by
  intro h0
  obtain ⟨b, off, rfl, hb, hc⟩ := h h0
  obtain ⟨g, hg, hB⟩ := hn h0
  injection hg with hg
  injection hg with hg1 hg2
  subst hg1 hg2
  exact ⟨b, 0, rfl, by simpa using hb, fun i hi => (cell_setRow_other w b0 cs ⟨b, 0 + i, none⟩ (by simp; omega)).trans (hc i hi)⟩
/-- The photo with other slices of the same data. -/
def Ph.moved (p : Ph) (a1 a2 a3 : Option Addr) : Ph := { p with wa := a1, wc := p.wn, ta := a2, tc := p.tn, pa := a3, pc := p.pn }
def Fd.pair2 (f g : Nat → Int) (i : Nat) : Value := if i % 2 = 0 then .int .i64 (f (i / 2)) else .int .i64 (g (i / 2))
theorem rowK_places {w : World} {a : Option Addr} {n : Nat} {f g : Nat → Int} (h : Row2 w a n (fun i => .int .i64 (f i)) (fun i => .int .i64 (g i))) : RowK w a n 2 (Fd.pair2 f g) := by
  intro h0
  obtain ⟨b, off, rfl, hb, hc⟩ := h h0
  refine ⟨b, off, rfl, hb, fun i hi => ?_⟩
  obtain ⟨c1, c2⟩ := hc (i / 2) (by omega)
  unfold Fd.pair2
  split
  · rw [show off + i = off + i / 2 * 2 by omega]; exact c1
  · rw [show off + i = off + i / 2 * 2 + 1 by omega]; exact c2
theorem places_rowK {w : World} {a : Option Addr} {n : Nat} {f g : Nat → Int} (h : RowK w a n 2 (Fd.pair2 f g)) : Row2 w a n (fun i => .int .i64 (f i)) (fun i => .int .i64 (g i)) := by
  intro h0
  obtain ⟨b, off, rfl, hb, hc⟩ := h h0
  refine ⟨b, off, rfl, hb, fun i hi => ⟨?_, ?_⟩⟩
  · have := hc (i * 2) (by omega)
    unfold Fd.pair2 at this
    rw [if_pos (by omega), show i * 2 / 2 = i by omega] at this; exact this
  · have := hc (i * 2 + 1) (by omega)
    unfold Fd.pair2 at this
    rw [if_neg (by omega), show (i * 2 + 1) / 2 = i by omega] at this; exact this
theorem rowK_row {w : World} {a : Option Addr} {n : Nat} {F : Nat → Value} (h : Row w a n F) : RowK w a n 1 F := by
  intro h0
  obtain ⟨b, off, rfl, hb, hc⟩ := h h0
  exact ⟨b, off, rfl, hb, fun i hi => hc i (by omega)⟩
theorem row_rowK {w : World} {a : Option Addr} {n : Nat} {F : Nat → Value} (h : RowK w a n 1 F) : Row w a n F := by
  intro h0
  obtain ⟨b, off, rfl, hb, hc⟩ := h h0
  exact ⟨b, off, rfl, hb, fun i hi => hc i (by omega)⟩
theorem RowK.keep {w w' : World} {a : Option Addr} {n k : Nat} {F : Nat → Value} (h : RowK w a n k F) (hb : Below w.heap.size w w') : RowK w' a n k F := by
  intro h0
  obtain ⟨b, off, rfl, hlt, hc⟩ := h h0
  exact ⟨b, off, rfl, Nat.lt_of_lt_of_le hlt hb.size, fun i hi => (hb.cell (p := ⟨b, off + i, none⟩) hlt).trans (hc i hi)⟩
/-- The sizes of a photo that is right. -/
structure Ph.Few (p : Ph) : Prop where
  w : p.wn ≤ 1000000
  t : p.tn ≤ 1000000
  p : p.pn ≤ 1000000
theorem opt_ex (n : Nat) (a : Option Addr) : 0 < n ∨ a = none ∨ ∃ p, a = some p := by cases a with | none => exact .inr (.inl rfl) | some p => exact .inr (.inr ⟨p, rfl⟩)
set_option maxRecDepth 100000 in
set_option maxHeartbeats 4000000 in
theorem copyPhoto_is (p : Ph) (hF : p.Few) (w : World) (hI : p.In w) : Calls Try.prog 43 #[.agg #[.int .i64 p.id, .string p.file, .int .i64 p.mom, .int .i64 p.zone, .slice p.wa p.wn p.wc, .int .i64 p.W, .int .i64 p.H, .int .i64 p.turn, .int .i64 p.stars, .slice p.ta p.tn p.tc, .string p.cap, .slice p.pa p.pn p.pc, .bool p.hid]] w fun e w' => ∃ a1 a2 a3, e = .returned (.agg #[.int .i64 p.id, .string p.file, .int .i64 p.mom, .int .i64 p.zone, .slice a1 p.wn p.wn, .int .i64 p.W, .int .i64 p.H, .int .i64 p.turn, .int .i64 p.stars, .slice a2 p.tn p.tn, .string p.cap, .slice a3 p.pn p.pn, .bool p.hid]) ∧ (p.moved a1 a2 a3).In w' ∧ (NewK w.heap.size a1 p.wn ∧ NewK w.heap.size a2 p.tn ∧ NewK w.heap.size a3 p.pn) ∧ Below w.heap.size w w' := by
  have hw := hF.w; have ht := hF.t; have hp := hF.p
  have HC1 := Lib.hid (fun V hV => cloneP_is p.wa p.wn p.wc (Fd.pair2 p.lat p.lon) (fun i _ => by unfold Fd.pair2; split <;> rfl) V hV hw (opt_ex _ _))
  have HC2 := Lib.hid (fun V hV => cloneS_is p.ta p.tn p.tc (fun i => .string (p.tag i)) (fun i _ => rfl) V hV ht (opt_ex _ _))
  have HC3 := Lib.hid (fun V hV => cloneI_is p.pa p.pn p.pc (fun i => .int .i64 (p.who i)) (fun i _ => rfl) V hV hp (opt_ex _ _))
  have R1 := Lib.hid (rowK_places hI.places)
  have R2 := Lib.hid (rowK_row hI.tags)
  have R3 := Lib.hid (rowK_row hI.people)
  clear hI hF
  obtain ⟨W1, hW1, hP, hz1, hB1⟩ := box w #[.int .i64 p.id, .string p.file, .int .i64 p.mom, .int .i64 p.zone, .slice p.wa p.wn p.wc, .int .i64 p.W, .int .i64 p.H, .int .i64 p.turn, .int .i64 p.stars, .slice p.ta p.tn p.tc, .string p.cap, .slice p.pa p.pn p.pc, .bool p.hid] 26
  obtain ⟨W2, hW2, hQ, hz2, hB2⟩ := box W1 #[.int .i64 0, .string ⟨#[]⟩, .int .i64 0, .int .i64 0, .slice none 0 0, .int .i64 0, .int .i64 0, .int .i64 0, .int .i64 0, .slice none 0 0, .string ⟨#[]⟩, .slice none 0 0, .bool false] 26
  have HW1 := Lib.hid hW1; have HW2 := Lib.hid hW2
  have hP := hP.keep hB2
  rw [hz1] at hQ
  have hB := below_up hB1 hB2
  have hs2 : w.heap.size + 1 < W2.heap.size := by omega
  clear hW1 hW2 hz1 hz2
  go_enter Try.func43, Try.ntmps43
  go_wp2_with fail
  rw [HW1.out, HW2.out]
  obtain ⟨q0, q1, q2, q3, q4, q5, q6, q7, q8, q9, q10, q11, q12⟩ := hP.photo
  have qf := hP.free
  go_wp2_with fail
  go_at_call 36
  refine (HC1.out _ (R1.out.keep hB)).mono ?_
  rintro e w3 ⟨a1, ca1, rfl, hc1, hd1, hr1, hn1, hB3⟩
  have HCL := Lib.hid (fun V => cloneP_clip a1 p.wn ca1 V hc1 hd1)
  have hn1 := hn1.down (show w.heap.size + 2 ≤ W2.heap.size by omega)
  have hs2 : w.heap.size + 2 ≤ W2.heap.size := by omega
  -- behind a Clone: w3: the world; hB3: its Below; 4: the cell; .slice a1 p.wn p.wn: the slice; 2: the next region; slices.Clip[[]tintype/api.Place,tintype/api.Place]: Clip; W2: the old world
  have hP3 := hP.keep hB3
  have hQ3 := hQ.keep hB3
  have hB03 := below_up hB hB3
  clear q0 q1 q2 q3 q4 q5 q6 q7 q8 q9 q10 q11 q12 qf
  obtain ⟨q0, q1, q2, q3, q4, q5, q6, q7, q8, q9, q10, q11, q12⟩ := hP3.photo
  have qf := hP3.free
  go_upto_region 2 with (go_at_call 85; (with_reducible refine (HCL.out _).mono ?_); rintro e wc ⟨rfl, rfl⟩)
  have hPs := hP3.set 4 (.slice a1 p.wn p.wn)
  have hQs := hQ3.setOther (a := ⟨w.heap.size, 4, none⟩) (by simp) (.slice a1 p.wn p.wn)
  have hBs := hB03.setCell (p := ⟨w.heap.size, 4, none⟩) (by simp) (.slice a1 p.wn p.wn)
  clear q0 q1 q2 q3 q4 q5 q6 q7 q8 q9 q10 q11 q12 qf hP3 hQ3 hB03 hP hQ hB HCL
  have hr1 := hr1.setNew hn1 (p := ⟨w.heap.size, 4, none⟩) (by simp) (.slice a1 p.wn p.wn)
  obtain ⟨V3, hV3⟩ : ∃ V, w3.setCell ⟨w.heap.size, 4, none⟩ (.slice a1 p.wn p.wn) = V := ⟨_, rfl⟩
  rw [hV3] at hPs hQs hBs hr1 ⊢
  replace hP : Blk V3 w.heap.size #[.int .i64 p.id, .string p.file, .int .i64 p.mom, .int .i64 p.zone, .slice a1 p.wn p.wn, .int .i64 p.W, .int .i64 p.H, .int .i64 p.turn, .int .i64 p.stars, .slice p.ta p.tn p.tc, .string p.cap, .slice p.pa p.pn p.pc, .bool p.hid] 26 := hPs
  have hQ := hQs; have hB := hBs
  have hs3 : w.heap.size + 2 ≤ V3.heap.size := by have := hB3.size; rw [← hV3]; simp; omega
  clear hPs hQs hBs hV3 hB3
  obtain ⟨q0, q1, q2, q3, q4, q5, q6, q7, q8, q9, q10, q11, q12⟩ := hP.photo
  have qf := hP.free
  go_wp2_with fail
  go_at_call 37
  refine (HC2.out _ (R2.out.keep hB)).mono ?_
  rintro e w4 ⟨a2, ca2, rfl, hc2, hd2, hr2, hn2, hB4⟩
  have HCL := Lib.hid (fun V => cloneS_clip a2 p.tn ca2 V hc2 hd2)
  have hn2 := hn2.down hs3
  have hr1 := hr1.keep hB4
  -- behind a Clone: w4: the world; hB4: its Below; 9: the cell; .slice a2 p.tn p.tn: the slice; 3: the next region; slices.Clip[[]string,string]: Clip; : the old world
  have hP3 := hP.keep hB4
  have hQ3 := hQ.keep hB4
  have hB03 := below_up hB hB4
  clear q0 q1 q2 q3 q4 q5 q6 q7 q8 q9 q10 q11 q12 qf
  obtain ⟨q0, q1, q2, q3, q4, q5, q6, q7, q8, q9, q10, q11, q12⟩ := hP3.photo
  have qf := hP3.free
  go_upto_region 3 with (go_at_call 86; (with_reducible refine (HCL.out _).mono ?_); rintro e wc ⟨rfl, rfl⟩)
  have hPs := hP3.set 9 (.slice a2 p.tn p.tn)
  have hQs := hQ3.setOther (a := ⟨w.heap.size, 9, none⟩) (by simp) (.slice a2 p.tn p.tn)
  have hBs := hB03.setCell (p := ⟨w.heap.size, 9, none⟩) (by simp) (.slice a2 p.tn p.tn)
  clear q0 q1 q2 q3 q4 q5 q6 q7 q8 q9 q10 q11 q12 qf hP3 hQ3 hB03 hP hQ hB HCL
  have hr1 := hr1.setNew hn1 (p := ⟨w.heap.size, 9, none⟩) (by simp) (.slice a2 p.tn p.tn)
  have hr2 := hr2.setNew hn2 (p := ⟨w.heap.size, 9, none⟩) (by simp) (.slice a2 p.tn p.tn)
  obtain ⟨V4, hV4⟩ : ∃ V, w4.setCell ⟨w.heap.size, 9, none⟩ (.slice a2 p.tn p.tn) = V := ⟨_, rfl⟩
  rw [hV4] at hPs hQs hBs hr1 hr2 ⊢
  replace hP : Blk V4 w.heap.size #[.int .i64 p.id, .string p.file, .int .i64 p.mom, .int .i64 p.zone, .slice a1 p.wn p.wn, .int .i64 p.W, .int .i64 p.H, .int .i64 p.turn, .int .i64 p.stars, .slice a2 p.tn p.tn, .string p.cap, .slice p.pa p.pn p.pc, .bool p.hid] 26 := hPs
  have hQ := hQs; have hB := hBs
  have hs4 : w.heap.size + 2 ≤ V4.heap.size := by have := hB4.size; rw [← hV4]; simp; omega
  clear hPs hQs hBs hV4 hB4
  obtain ⟨q0, q1, q2, q3, q4, q5, q6, q7, q8, q9, q10, q11, q12⟩ := hP.photo
  have qf := hP.free
  go_wp2_with fail
  go_at_call 38
  refine (HC3.out _ (R3.out.keep hB)).mono ?_
  rintro e w5 ⟨a3, ca3, rfl, hc3, hd3, hr3, hn3, hB5⟩
  have HCL := Lib.hid (fun V => cloneI_clip a3 p.pn ca3 V hc3 hd3)
  have hn3 := hn3.down hs4
  have hr1 := hr1.keep hB5
  have hr2 := hr2.keep hB5
  -- behind a Clone: w5: the world; hB5: its Below; 11: the cell; .slice a3 p.pn p.pn: the slice; 4: the next region; slices.Clip[[]int,int]: Clip; : the old world
  have hP3 := hP.keep hB5
  have hQ3 := hQ.keep hB5
  have hB03 := below_up hB hB5
  clear q0 q1 q2 q3 q4 q5 q6 q7 q8 q9 q10 q11 q12 qf
  obtain ⟨q0, q1, q2, q3, q4, q5, q6, q7, q8, q9, q10, q11, q12⟩ := hP3.photo
  have qf := hP3.free
  go_upto_region 4 with (go_at_call 87; (with_reducible refine (HCL.out _).mono ?_); rintro e wc ⟨rfl, rfl⟩)
  have hPs := hP3.set 11 (.slice a3 p.pn p.pn)
  have hQs := hQ3.setOther (a := ⟨w.heap.size, 11, none⟩) (by simp) (.slice a3 p.pn p.pn)
  have hBs := hB03.setCell (p := ⟨w.heap.size, 11, none⟩) (by simp) (.slice a3 p.pn p.pn)
  clear q0 q1 q2 q3 q4 q5 q6 q7 q8 q9 q10 q11 q12 qf hP3 hQ3 hB03 hP hQ hB HCL
  have hr1 := hr1.setNew hn1 (p := ⟨w.heap.size, 11, none⟩) (by simp) (.slice a3 p.pn p.pn)
  have hr2 := hr2.setNew hn2 (p := ⟨w.heap.size, 11, none⟩) (by simp) (.slice a3 p.pn p.pn)
  have hr3 := hr3.setNew hn3 (p := ⟨w.heap.size, 11, none⟩) (by simp) (.slice a3 p.pn p.pn)
  obtain ⟨V5, hV5⟩ : ∃ V, w5.setCell ⟨w.heap.size, 11, none⟩ (.slice a3 p.pn p.pn) = V := ⟨_, rfl⟩
  rw [hV5] at hPs hQs hBs hr1 hr2 hr3 ⊢
  replace hP : Blk V5 w.heap.size #[.int .i64 p.id, .string p.file, .int .i64 p.mom, .int .i64 p.zone, .slice a1 p.wn p.wn, .int .i64 p.W, .int .i64 p.H, .int .i64 p.turn, .int .i64 p.stars, .slice a2 p.tn p.tn, .string p.cap, .slice a3 p.pn p.pn, .bool p.hid] 26 := hPs
  have hQ := hQs; have hB := hBs
  clear hPs hQs hBs hV5 hB5
  obtain ⟨q0, q1, q2, q3, q4, q5, q6, q7, q8, q9, q10, q11, q12⟩ := hP.photo
  go_wp2_with (refine wpList_store_row rfl 26 _ _ rfl (w.heap.size + 1) #[.int .i64 p.id, .string p.file, .int .i64 p.mom, .int .i64 p.zone, .slice a1 p.wn p.wn, .int .i64 p.W, .int .i64 p.H, .int .i64 p.turn, .int .i64 p.stars, .slice a2 p.tn p.tn, .string p.cap, .slice a3 p.pn p.pn, .bool p.hid] rfl rfl 26 _ hQ infoPh rfl (by simp [Value.oneCell']) ?_)
  have hrow := setRow_heap V5 (w.heap.size + 1) _ #[.int .i64 p.id, .string p.file, .int .i64 p.mom, .int .i64 p.zone, .slice a1 p.wn p.wn, .int .i64 p.W, .int .i64 p.H, .int .i64 p.turn, .int .i64 p.stars, .slice a2 p.tn p.tn, .string p.cap, .slice a3 p.pn p.pn, .bool p.hid] 26 (0, 0) hQ
  refine bodyPost_ret (v := .agg #[.int .i64 p.id, .string p.file, .int .i64 p.mom, .int .i64 p.zone, .slice a1 p.wn p.wn, .int .i64 p.W, .int .i64 p.H, .int .i64 p.turn, .int .i64 p.stars, .slice a2 p.tn p.tn, .string p.cap, .slice a3 p.pn p.pn, .bool p.hid]) (results_cell_row rfl _ _ (w.heap.size + 1) 26 _ (0, 0) _ rfl hrow Try.underlying26 rfl infoPh) rfl ⟨a1, a2, a3, rfl, ⟨places_rowK (hr1.setRow hn1 (by omega) _), row_rowK (hr2.setRow hn2 (by omega) _), row_rowK (hr3.setRow hn3 (by omega) _)⟩, ⟨hn1.down (by omega), hn2.down (by omega), hn3.down (by omega)⟩, below_setRow hB (by omega) _⟩
end Go.Proofs.Ytipmegkmkbbklaa
