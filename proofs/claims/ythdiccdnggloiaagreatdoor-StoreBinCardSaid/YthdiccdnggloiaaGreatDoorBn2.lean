/- Parts of the proof, no condition: StCpy, StApp, StChp, StDg, StEq, StSm. -/
import Derived.Test.YthdiccdnggloiaaGreatDoorEv16
import Derived.Test.YthdiccdnggloiaaGreatDoorEv17
import Derived.Test.YthdiccdnggloiaaGreatDoorBn1
import Derived.Laws.Tables
import Derived.Laws.Rows
import Derived.Deep.AppendLies
import Derived.Laws.Bits64
import Derived.Deep.QuietTactic
import Derived.BigQuiet
set_option maxRecDepth 100000
set_option maxHeartbeats 8000000
set_option linter.unusedSimpArgs false
set_option linter.unusedVariables false
namespace Go.Proofs.YthdiccdnggloiaaGreatDoor
open Go.RowKit Go.Sort Go.Shelf Go.Maps
structure StSz (s : Sto) : Prop where
 tz : ∀ t ∈ s.tiers, t.name.size ≤ 9223372036854775807
 fz : ∀ f ∈ s.files, f.dig.size ≤ 9223372036854775807 ∧ f.frm.size ≤ 9223372036854775807
 cz : ∀ c ∈ s.copies, c.dig.size ≤ 9223372036854775807 ∧ c.tier.size ≤ 9223372036854775807
 hz : ∀ d ∈ s.held, d.size ≤ 9223372036854775807
 bz : ∀ g ∈ s.bin, g.dig.size ≤ 9223372036854775807
theorem StIn.sz {w : World} {s : Sto} {a : StA} (h : StIn w s a) : StSz s := ⟨h.tz, h.fz, h.cz, h.hz, h.bz⟩
theorem StOwn.in_ {w : World} {B : Nat} {s : Sto} {a : StA} (h : StOwn w B s a) (z : StSz s) : StIn w s a :=
 ⟨RowE.ofV (E := St.eT) h.ti, RowE.ofV (E := St.eF) h.fi, RowE.ofV (E := St.eC) h.co, RowE.ofV (E := St.eS) h.he, RowE.ofV (E := St.eG) h.bi, h.ti.caps, h.fi.caps, h.co.caps, h.he.caps, h.bi.caps, z.tz, z.fz, z.cz, z.hz, z.bz⟩
def StLen (s : Sto) : Prop := s.tiers.length ≤ 8 ∧ s.files.length ≤ 500 ∧ s.copies.length ≤ 4000 ∧ s.held.length ≤ 500 ∧ s.bin.length ≤ 500
theorem infoSto : (Tryz.prog.info? 28).map (·.size) = some 7 := by kernel_rfl
def CpyPost (w : World) (s : Sto) (e : Ending) (w' : World) : Prop := ∃ a' : StA, e = .returned (.agg #[.int .i64 s.least, .int .i64 s.wait, .slice a'.ta s.tiers.length a'.tc, .slice a'.fa s.files.length a'.fc, .slice a'.ca s.copies.length a'.cc, .slice a'.ha s.held.length a'.hc, .slice a'.ba s.bin.length a'.bc]) ∧ StOwn w' w.heap.size s a' ∧ Below w.heap.size w w'
theorem copyStore_is (s : Sto) (a : StA) (w : World) (hI : StIn w s a) (hn : StLen s) : Calls Tryz.prog 51 #[.agg #[.int .i64 s.least, .int .i64 s.wait, .slice a.ta s.tiers.length a.tc, .slice a.fa s.files.length a.fc, .slice a.ca s.copies.length a.cc, .slice a.ha s.held.length a.hc, .slice a.ba s.bin.length a.bc]] w (CpyPost w s) := by
 obtain ⟨n2, n3, n4, n5, n6⟩ := hn
 have z := Lib.hid hI.sz
 have HC2 : Hid (∀ V, Below w.heap.size w V → Calls Tryz.prog 135 #[.slice a.ta s.tiers.length a.tc] V (ClnPost St.eT 46 V s.tiers)) := Lib.hid fun V hV => clnT_is a.ta a.tc V (hI.ti.keep hV) (by omega)
 have HC3 : Hid (∀ V, Below w.heap.size w V → Calls Tryz.prog 137 #[.slice a.fa s.files.length a.fc] V (ClnPost St.eF 30 V s.files)) := Lib.hid fun V hV => clnF_is a.fa a.fc V (hI.fi.keep hV) (by omega)
 have HC4 : Hid (∀ V, Below w.heap.size w V → Calls Tryz.prog 139 #[.slice a.ca s.copies.length a.cc] V (ClnPost St.eC 74 V s.copies)) := Lib.hid fun V hV => clnC_is a.ca a.cc V (hI.co.keep hV) (by omega)
 have HC5 : Hid (∀ V, Below w.heap.size w V → Calls Tryz.prog 140 #[.slice a.ha s.held.length a.hc] V (ClnPost St.eS 9 V s.held)) := Lib.hid fun V hV => clnS_is a.ha a.hc V (hI.he.keep hV) (by omega)
 have HC6 : Hid (∀ V, Below w.heap.size w V → Calls Tryz.prog 141 #[.slice a.ba s.bin.length a.bc] V (ClnPost St.eG 112 V s.bin)) := Lib.hid fun V hV => clnG_is a.ba a.bc V (hI.bi.keep hV) (by omega)
 clear hI
 obtain ⟨W1, hW1, hP, hz1, hB1⟩ := box w #[.int .i64 s.least, .int .i64 s.wait, .slice a.ta s.tiers.length a.tc, .slice a.fa s.files.length a.fc, .slice a.ca s.copies.length a.cc, .slice a.ha s.held.length a.hc, .slice a.ba s.bin.length a.bc] 28
 obtain ⟨W2, hW2, hQ, hz2, hB2⟩ := box W1 #[.int .i64 0, .int .i64 0, .slice none 0 0, .slice none 0 0, .slice none 0 0, .slice none 0 0, .slice none 0 0] 28
 have HW1 := Lib.hid hW1; have HW2 := Lib.hid hW2
 have hP := hP.keep hB2
 rw [hz1] at hQ hz2
 have hB := below_up hB1 hB2
 have hs : w.heap.size + 2 ≤ W2.heap.size := by omega
 clear hW1 hW2 hz1 hz2 hB1 hB2
 go_enter Tryz.func51, Tryz.ntmps51
 go_upto_region 1 with fail
 rw [HW1.out, HW2.out]
 obtain ⟨q0, q1, q2, q3, q4, q5, q6⟩ := hP.seven
 have qf := hP.free
 go_wp2_with fail
 go_at_call 135
 refine (HC2.out _ hB).mono ?_
 rintro e w2 ⟨b2, d2, rfl, ho, hq⟩
 obtain ⟨l1, l2⟩ := ho.caps
 clear q0 q1 q2 q3 q4 q5 q6 qf
 obtain ⟨q0, q1, q2, q3, q4, q5, q6⟩ := (hP.keep hq).seven
 have qf := (hP.keep hq).free
 go_upto_region 2 with (go_at_call 134; (with_reducible refine (clnT_clip _ _ _ _ l1 l2).mono ?_); rintro e wc ⟨rfl, rfl⟩)
 have hPs := (hP.keep hq).set 2 (.slice b2 s.tiers.length s.tiers.length)
 have hQs := (hQ.keep hq).setOther (a := ⟨w.heap.size, 2, none⟩) (by simp) (.slice b2 s.tiers.length s.tiers.length)
 have hBs := (below_up hB hq).setCell (p := ⟨w.heap.size, 2, none⟩) (by simp) (.slice b2 s.tiers.length s.tiers.length)
 have o2 := ((ho.clip.down hs).next (i := 2) (b := w.heap.size) (u := .slice b2 s.tiers.length s.tiers.length) (Below.refl _ _) (by omega))
 have hs' : w.heap.size + 2 ≤ (w2.setCell ⟨w.heap.size, 2, none⟩ (.slice b2 s.tiers.length s.tiers.length)).heap.size := by have := hq.size; simp; omega
 obtain ⟨V2, hV2⟩ : ∃ V, w2.setCell ⟨w.heap.size, 2, none⟩ (.slice b2 s.tiers.length s.tiers.length) = V := ⟨_, rfl⟩
 rw [hV2] at hPs hQs hBs hs' o2 ⊢
 clear q0 q1 q2 q3 q4 q5 q6 qf hV2 hP hQ hB hs ho hq l1 l2
 have hP : Blk V2 w.heap.size #[.int .i64 s.least, .int .i64 s.wait, .slice b2 s.tiers.length s.tiers.length, .slice a.fa s.files.length a.fc, .slice a.ca s.copies.length a.cc, .slice a.ha s.held.length a.hc, .slice a.ba s.bin.length a.bc] 28 := hPs
 have hQ := hQs; have hB := hBs; have hs := hs'
 clear hPs hQs hBs hs'
 obtain ⟨q0, q1, q2, q3, q4, q5, q6⟩ := hP.seven
 have qf := hP.free
 go_wp2_with fail
 go_at_call 137
 refine (HC3.out _ hB).mono ?_
 rintro e w3 ⟨b3, d3, rfl, ho, hq⟩
 obtain ⟨l1, l2⟩ := ho.caps
 clear q0 q1 q2 q3 q4 q5 q6 qf
 obtain ⟨q0, q1, q2, q3, q4, q5, q6⟩ := (hP.keep hq).seven
 have qf := (hP.keep hq).free
 go_upto_region 3 with (go_at_call 136; (with_reducible refine (clnF_clip _ _ _ _ l1 l2).mono ?_); rintro e wc ⟨rfl, rfl⟩)
 have hPs := (hP.keep hq).set 3 (.slice b3 s.files.length s.files.length)
 have hQs := (hQ.keep hq).setOther (a := ⟨w.heap.size, 3, none⟩) (by simp) (.slice b3 s.files.length s.files.length)
 have hBs := (below_up hB hq).setCell (p := ⟨w.heap.size, 3, none⟩) (by simp) (.slice b3 s.files.length s.files.length)
 have o3 := ((ho.clip.down hs).next (i := 3) (b := w.heap.size) (u := .slice b3 s.files.length s.files.length) (Below.refl _ _) (by omega))
 have o2 := o2.next (i := 3) (b := w.heap.size) (u := .slice b3 s.files.length s.files.length) hq (by omega)
 have hs' : w.heap.size + 2 ≤ (w3.setCell ⟨w.heap.size, 3, none⟩ (.slice b3 s.files.length s.files.length)).heap.size := by have := hq.size; simp; omega
 obtain ⟨V3, hV3⟩ : ∃ V, w3.setCell ⟨w.heap.size, 3, none⟩ (.slice b3 s.files.length s.files.length) = V := ⟨_, rfl⟩
 rw [hV3] at hPs hQs hBs hs' o2 o3 ⊢
 clear q0 q1 q2 q3 q4 q5 q6 qf hV3 hP hQ hB hs ho hq l1 l2
 have hP : Blk V3 w.heap.size #[.int .i64 s.least, .int .i64 s.wait, .slice b2 s.tiers.length s.tiers.length, .slice b3 s.files.length s.files.length, .slice a.ca s.copies.length a.cc, .slice a.ha s.held.length a.hc, .slice a.ba s.bin.length a.bc] 28 := hPs
 have hQ := hQs; have hB := hBs; have hs := hs'
 clear hPs hQs hBs hs'
 obtain ⟨q0, q1, q2, q3, q4, q5, q6⟩ := hP.seven
 have qf := hP.free
 go_wp2_with fail
 go_at_call 139
 refine (HC4.out _ hB).mono ?_
 rintro e w4 ⟨b4, d4, rfl, ho, hq⟩
 obtain ⟨l1, l2⟩ := ho.caps
 clear q0 q1 q2 q3 q4 q5 q6 qf
 obtain ⟨q0, q1, q2, q3, q4, q5, q6⟩ := (hP.keep hq).seven
 have qf := (hP.keep hq).free
 go_upto_region 4 with (go_at_call 138; (with_reducible refine (clnC_clip _ _ _ _ l1 l2).mono ?_); rintro e wc ⟨rfl, rfl⟩)
 have hPs := (hP.keep hq).set 4 (.slice b4 s.copies.length s.copies.length)
 have hQs := (hQ.keep hq).setOther (a := ⟨w.heap.size, 4, none⟩) (by simp) (.slice b4 s.copies.length s.copies.length)
 have hBs := (below_up hB hq).setCell (p := ⟨w.heap.size, 4, none⟩) (by simp) (.slice b4 s.copies.length s.copies.length)
 have o4 := ((ho.clip.down hs).next (i := 4) (b := w.heap.size) (u := .slice b4 s.copies.length s.copies.length) (Below.refl _ _) (by omega))
 have o2 := o2.next (i := 4) (b := w.heap.size) (u := .slice b4 s.copies.length s.copies.length) hq (by omega)
 have o3 := o3.next (i := 4) (b := w.heap.size) (u := .slice b4 s.copies.length s.copies.length) hq (by omega)
 have hs' : w.heap.size + 2 ≤ (w4.setCell ⟨w.heap.size, 4, none⟩ (.slice b4 s.copies.length s.copies.length)).heap.size := by have := hq.size; simp; omega
 obtain ⟨V4, hV4⟩ : ∃ V, w4.setCell ⟨w.heap.size, 4, none⟩ (.slice b4 s.copies.length s.copies.length) = V := ⟨_, rfl⟩
 rw [hV4] at hPs hQs hBs hs' o2 o3 o4 ⊢
 clear q0 q1 q2 q3 q4 q5 q6 qf hV4 hP hQ hB hs ho hq l1 l2
 have hP : Blk V4 w.heap.size #[.int .i64 s.least, .int .i64 s.wait, .slice b2 s.tiers.length s.tiers.length, .slice b3 s.files.length s.files.length, .slice b4 s.copies.length s.copies.length, .slice a.ha s.held.length a.hc, .slice a.ba s.bin.length a.bc] 28 := hPs
 have hQ := hQs; have hB := hBs; have hs := hs'
 clear hPs hQs hBs hs'
 obtain ⟨q0, q1, q2, q3, q4, q5, q6⟩ := hP.seven
 have qf := hP.free
 go_wp2_with fail
 go_at_call 140
 refine (HC5.out _ hB).mono ?_
 rintro e w5 ⟨b5, d5, rfl, ho, hq⟩
 obtain ⟨l1, l2⟩ := ho.caps
 clear q0 q1 q2 q3 q4 q5 q6 qf
 obtain ⟨q0, q1, q2, q3, q4, q5, q6⟩ := (hP.keep hq).seven
 have qf := (hP.keep hq).free
 go_upto_region 5 with (go_at_call 104; (with_reducible refine (clnS_clip _ _ _ _ l1 l2).mono ?_); rintro e wc ⟨rfl, rfl⟩)
 have hPs := (hP.keep hq).set 5 (.slice b5 s.held.length s.held.length)
 have hQs := (hQ.keep hq).setOther (a := ⟨w.heap.size, 5, none⟩) (by simp) (.slice b5 s.held.length s.held.length)
 have hBs := (below_up hB hq).setCell (p := ⟨w.heap.size, 5, none⟩) (by simp) (.slice b5 s.held.length s.held.length)
 have o5 := ((ho.clip.down hs).next (i := 5) (b := w.heap.size) (u := .slice b5 s.held.length s.held.length) (Below.refl _ _) (by omega))
 have o2 := o2.next (i := 5) (b := w.heap.size) (u := .slice b5 s.held.length s.held.length) hq (by omega)
 have o3 := o3.next (i := 5) (b := w.heap.size) (u := .slice b5 s.held.length s.held.length) hq (by omega)
 have o4 := o4.next (i := 5) (b := w.heap.size) (u := .slice b5 s.held.length s.held.length) hq (by omega)
 have hs' : w.heap.size + 2 ≤ (w5.setCell ⟨w.heap.size, 5, none⟩ (.slice b5 s.held.length s.held.length)).heap.size := by have := hq.size; simp; omega
 obtain ⟨V5, hV5⟩ : ∃ V, w5.setCell ⟨w.heap.size, 5, none⟩ (.slice b5 s.held.length s.held.length) = V := ⟨_, rfl⟩
 rw [hV5] at hPs hQs hBs hs' o2 o3 o4 o5 ⊢
 clear q0 q1 q2 q3 q4 q5 q6 qf hV5 hP hQ hB hs ho hq l1 l2
 have hP : Blk V5 w.heap.size #[.int .i64 s.least, .int .i64 s.wait, .slice b2 s.tiers.length s.tiers.length, .slice b3 s.files.length s.files.length, .slice b4 s.copies.length s.copies.length, .slice b5 s.held.length s.held.length, .slice a.ba s.bin.length a.bc] 28 := hPs
 have hQ := hQs; have hB := hBs; have hs := hs'
 clear hPs hQs hBs hs'
 obtain ⟨q0, q1, q2, q3, q4, q5, q6⟩ := hP.seven
 have qf := hP.free
 go_wp2_with fail
 go_at_call 141
 refine (HC6.out _ hB).mono ?_
 rintro e w6 ⟨b6, d6, rfl, ho, hq⟩
 obtain ⟨l1, l2⟩ := ho.caps
 clear q0 q1 q2 q3 q4 q5 q6 qf
 obtain ⟨q0, q1, q2, q3, q4, q5, q6⟩ := (hP.keep hq).seven
 have qf := (hP.keep hq).free
 go_upto_region 6 with (go_at_call 67; (with_reducible refine (clnG_clip _ _ _ _ l1 l2).mono ?_); rintro e wc ⟨rfl, rfl⟩)
 have hPs := (hP.keep hq).set 6 (.slice b6 s.bin.length s.bin.length)
 have hQs := (hQ.keep hq).setOther (a := ⟨w.heap.size, 6, none⟩) (by simp) (.slice b6 s.bin.length s.bin.length)
 have hBs := (below_up hB hq).setCell (p := ⟨w.heap.size, 6, none⟩) (by simp) (.slice b6 s.bin.length s.bin.length)
 have o6 := ((ho.clip.down hs).next (i := 6) (b := w.heap.size) (u := .slice b6 s.bin.length s.bin.length) (Below.refl _ _) (by omega))
 have o2 := o2.next (i := 6) (b := w.heap.size) (u := .slice b6 s.bin.length s.bin.length) hq (by omega)
 have o3 := o3.next (i := 6) (b := w.heap.size) (u := .slice b6 s.bin.length s.bin.length) hq (by omega)
 have o4 := o4.next (i := 6) (b := w.heap.size) (u := .slice b6 s.bin.length s.bin.length) hq (by omega)
 have o5 := o5.next (i := 6) (b := w.heap.size) (u := .slice b6 s.bin.length s.bin.length) hq (by omega)
 have hs' : w.heap.size + 2 ≤ (w6.setCell ⟨w.heap.size, 6, none⟩ (.slice b6 s.bin.length s.bin.length)).heap.size := by have := hq.size; simp; omega
 obtain ⟨V6, hV6⟩ : ∃ V, w6.setCell ⟨w.heap.size, 6, none⟩ (.slice b6 s.bin.length s.bin.length) = V := ⟨_, rfl⟩
 rw [hV6] at hPs hQs hBs hs' o2 o3 o4 o5 o6 ⊢
 clear q0 q1 q2 q3 q4 q5 q6 qf hV6 hP hQ hB hs ho hq l1 l2
 have hP : Blk V6 w.heap.size #[.int .i64 s.least, .int .i64 s.wait, .slice b2 s.tiers.length s.tiers.length, .slice b3 s.files.length s.files.length, .slice b4 s.copies.length s.copies.length, .slice b5 s.held.length s.held.length, .slice b6 s.bin.length s.bin.length] 28 := hPs
 have hQ := hQs; have hB := hBs; have hs := hs'
 clear hPs hQs hBs hs'
 obtain ⟨q0, q1, q2, q3, q4, q5, q6⟩ := hP.seven
 go_wp2_with (refine wpList_store_row rfl 28 _ _ rfl (w.heap.size + 1) #[.int .i64 s.least, .int .i64 s.wait, .slice b2 s.tiers.length s.tiers.length, .slice b3 s.files.length s.files.length, .slice b4 s.copies.length s.copies.length, .slice b5 s.held.length s.held.length, .slice b6 s.bin.length s.bin.length] rfl rfl 28 _ hQ infoSto rfl (by simp [Value.oneCell']) ?_)
 have hrow := setRow_heap V6 (w.heap.size + 1) _ #[.int .i64 s.least, .int .i64 s.wait, .slice b2 s.tiers.length s.tiers.length, .slice b3 s.files.length s.files.length, .slice b4 s.copies.length s.copies.length, .slice b5 s.held.length s.held.length, .slice b6 s.bin.length s.bin.length] 28 (0, 0) hQ
 refine bodyPost_ret (v := .agg #[.int .i64 s.least, .int .i64 s.wait, .slice b2 s.tiers.length s.tiers.length, .slice b3 s.files.length s.files.length, .slice b4 s.copies.length s.copies.length, .slice b5 s.held.length s.held.length, .slice b6 s.bin.length s.bin.length]) (results_cell_row rfl _ _ (w.heap.size + 1) 28 _ (0, 0) _ rfl hrow Tryz.underlying28 rfl infoSto) rfl ⟨⟨b2, s.tiers.length, b3, s.files.length, b4, s.copies.length, b5, s.held.length, b6, s.bin.length⟩, rfl, ⟨(o2.setRow (by omega) _).down (by omega), (o3.setRow (by omega) _).down (by omega), (o4.setRow (by omega) _).down (by omega), (o5.setRow (by omega) _).down (by omega), (o6.setRow (by omega) _).down (by omega)⟩, below_setRow hB (by omega) _⟩



theorem list_appS {ops : Array Oper} {rest : List Oper} {o : Oper} {a : Act} {V : World} {cs : Array Value} {Q : Exit → Act → World → Prop} (hgd : o.guard = none) (s x : Operand)
  (ho : o.op = .call { callee := .builtin .append, args := #[s, x], argTypes := #[25, 25] }) (base : Nat) (v : Value) (n : Nat) (xs : List Value) (hs : a.eval s = v) (hx : a.eval x = .slice (some ⟨V.heap.size, 0, none⟩) 1 1)
  (hown : V.ownsRow base 9 1 v n xs) (hn : n ≤ 1000000) (hb : base ≤ V.heap.size) (hcs : cs.toList.length = 1 * 1) (h1 : ∀ u ∈ cs.toList, u.oneCell' = true)
  (h : ∀ g cap w', w'.ownsRow base 9 1 (.slice (some ⟨g, 0, none⟩) (n + 1) cap) (n + 1) (xs ++ cs.toList) → (V.alloc (.cells cs 9)).grownBy w' v.ownBlock → wpList Tryz.prog ops Q rest (a.put o.dst (.slice (some ⟨g, 0, none⟩) (n + 1) cap)) w') :
  wpList Tryz.prog ops Q (o :: rest) a (V.alloc (.cells cs 9)) := by
 obtain ⟨i0, hi0, hi1, hi2, hi3⟩ := info_parts infoStS
 exact wpList_append_own2 _ hgd s x _ ho base 9 i0 (.string ByteArray.empty) 1 16 Tryz.underlying25 hi0 hi1 hi2 hi3 rfl (by decide) v n xs hs (hown.alloc _) ⟨V.heap.size, 0, none⟩ 1 1 cs.toList hx (by decide) hcs
  (World.news_of_block (cs := cs) (t := 9) (fr := (0, 0)) (Blk.new V cs 9)) h1 (by unfold maxLen; omega) (by omega) (by simp; omega) (fun g cap w' h1 h2 _ => h g cap w' h1 h2)
theorem Blk.setRowAt {w : World} {b : Nat} {c : Array Value} {t : TypeId} (h : Blk w b c t) (cs : Array Value) : Blk (w.setRow b cs) b cs t := setRow_heap w b c cs t (0, 0) h
theorem Blk.setRowOther {w : World} {b b' : Nat} {c : Array Value} {t : TypeId} (h : Blk w b c t) (hb : b ≠ b') (cs : Array Value) : Blk (w.setRow b' cs) b c t := h.of_block (setRow_other w b' b cs hb)
end Go.Proofs.YthdiccdnggloiaaGreatDoor
namespace Go.Proofs.YthdiccdnggloiaaGreatDoor
open Go.RowKit Go.Sort Go.Shelf
theorem Lay.extRep : Builder.Extra Tryz.prog Lay.repeatS_ren := {
 sizeBuilder := by kernel_rfl
 liesBuilder := by kernel_rfl
 t5 := Tryz.underlying5
 a5 := Tryz.isAgg5
 z5 := Tryz.sizeOf5
 v5 := Tryz.zeroValue5
 infoByte := by kernel_rfl
 cellsByte := by kernel_rfl
 sizeByte := by kernel_rfl
 neB5 := by decide }
theorem repL48 : ∀ c, Lib.repeatL [48] c = List.replicate c 48
 | 0 => rfl
 | c + 1 => by
   show [48] ++ Lib.repeatL [48] c = _
   rw [repL48 c]; rfl
theorem rep48 (c : Nat) (hc : c ≤ 16) (w : World) : Calls Tryz.prog 107 #[.string ⟨#[48]⟩, .int .i64 c] w fun e w' => e = .returned (.string ⟨(List.replicate c 48).toArray⟩) ∧ Below w.heap.size w w' := by
 have h := Any.strings_Repeat Lay.repeatS Lay.extRep ⟨#[48]⟩ c w (by omega) (by show 1 * c ≤ _; omega)
 have e : Lib.repeatL (ByteArray.mk #[48]).data.toList c = List.replicate c 48 := repL48 c
 rw [e] at h
 exact h
theorem digest_is (s : ByteArray) (hs : s.size ≤ 9223372036854775807) (w : World) (hd : Hx.DB w) : Calls Tryz.prog 30 #[.string s] w fun e w' => e = .returned (.string (Hx.dig s.data.toList)) ∧ Below w.heap.size w w' := by
 obtain ⟨n, hn⟩ : ∃ n, s.size = n := ⟨_, rfl⟩
 have HN := Lib.hid hn
 have HD := Lib.hid hd
 rw [hn] at hs
 clear hd
 go_enter Tryz.func30, Tryz.ntmps30
 go_wp2_with fail
 go_loopg [3, 8] n (fun gk u i wr => ∃ (j h : Nat), j ≤ n ∧ gk = n - j ∧ i = .int .i64 j ∧ u = .int .u64 h ∧ h = Hx.fnv (s.data.toList.take j) ∧ w = wr)
 case atStart => exact ⟨0, _, by omega, rfl, rfl, rfl, rfl, rfl⟩
 case round =>
  obtain ⟨j, h, hj, rfl, rfl, rfl, hh, rfl⟩ := hrel
  have h64 : h < 18446744073709551616 := by rw [hh]; exact Hx.fnv_lt _
  have HH := Lib.hid hh
  clear hh
  by_cases hlt : j < n
  ·obtain ⟨b, hb⟩ : ∃ b, s[j]'(by rw [HN.out]; exact hlt) = b := ⟨_, rfl⟩
   have hj0 : (0 : Int) ≤ (j : Int) := by omega
   have hj1 : (j : Int) < (n : Int) := by omega
   have hbw : IntKind.u64.wrap (b.toNat : Int) = (b.toNat : Int) := by have := b.toNat_lt; rw [IntKind.wrap_u64]; omega
   have hxr := bits_xor_u64_nat h b.toNat (by omega) (by have := b.toNat_lt; omega)
   have hmu : IntKind.u64.wrap (((h ^^^ b.toNat : Nat) : Int) * 1099511628211) = ((Hx.step h b : Nat) : Int) := by
    rw [IntKind.wrap_u64]
    unfold Hx.step
    omega
   have hjs : j < s.size := by rw [HN.out]; exact hlt
   have HB : Hid (s.data.toList[j]? = some b) := Lib.hid (by
    rw [← hb]
    show _ = some (s.data[j]'_)
    rw [Array.getElem?_toList, Array.getElem?_eq_getElem])
   go_wp2_with fail
   go_roundg (n - (j + 1))
   case rel => exact ⟨j + 1, Hx.step h b, by omega, rfl, by go_num, rfl, by rw [Hx.fnv_next HB.out, HH.out], rfl⟩
   case measure => omega
  ·obtain rfl : j = n := by omega
   have HFN : Hid (h = Hx.fnv s.data.toList) := Lib.hid (by
    rw [HH.out, List.take_of_length_le (by rw [Array.length_toList]; exact Nat.le_of_eq HN.out)])
   have HFM := Lib.hid (fmtUint_16 h h64 w HD.out)
   obtain ⟨hl16, hlow⟩ := Hx.digs_low 15 h (by simpa using h64)
   have HE : Hid ((⟨(List.replicate (16 - (Hx.digs h).length) 48).toArray⟩ : ByteArray) ++ ⟨(Hx.digs h).toArray⟩ = Hx.dig s.data.toList) := Lib.hid (by
    unfold Hx.dig
    rw [← HFN.out, ← hlow]
    apply ByteArray.ext
    rw [ByteArray.data_append]
    simp)
   obtain ⟨D, hD⟩ : ∃ D : ByteArray, (⟨(Hx.digs h).toArray⟩ : ByteArray) = D := ⟨_, rfl⟩
   have hDs : D.size = (Hx.digs h).length := by rw [← hD]; show (Hx.digs h).toArray.size = _; simp
   rw [hD] at HFM HE
   obtain ⟨l, hl⟩ : ∃ l, (Hx.digs h).length = l := ⟨_, rfl⟩
   rw [hl] at hDs HE hl16
   obtain ⟨c, hc⟩ : ∃ c, 16 - l = c := ⟨_, rfl⟩
   have hci : IntKind.i64.wrap (16 - (l : Int)) = (c : Int) := by rw [IntKind.wrap_i64]; omega
   rw [hc] at HE
   have HRP := Lib.hid (fun V => rep48 c (by omega) V)
   have hadd : ∀ V, (Op.stringOp .add (⟨(List.replicate c 48).toArray⟩ : ByteArray) D).run Tryz.prog V = .ok (.string ((⟨(List.replicate c 48).toArray⟩ : ByteArray) ++ D)) V := fun V => run_string_add_sum V _ _ (by
    have h1 : (⟨(List.replicate c 48).toArray⟩ : ByteArray).size = c := by show (List.replicate c 48).toArray.size = c; simp
    rw [h1]; omega)
   generalize (⟨(List.replicate c 48).toArray⟩ : ByteArray) = R at *
   clear hD hl hlow
   go_wp2_with (first
    | (go_at_call 106; (with_reducible refine HFM.out.mono ?_); rintro e w3 ⟨rfl, hB3⟩)
    | (go_at_call 107; (with_reducible refine (HRP.out _).mono ?_); rintro e w4 ⟨rfl, hB4⟩))
   go_ret
   exact ⟨by rw [HE.out]; rfl, below_up hB3 hB4⟩
end Go.Proofs.YthdiccdnggloiaaGreatDoor
namespace Go.Proofs.YthdiccdnggloiaaGreatDoor
open Go.RowKit Go.Sort Go.Shelf Go.Maps




theorem guardTir : Tryz.prog.eqGuardType Tryz.prog.depth 46 = false := by kernel_rfl
theorem guardFil : Tryz.prog.eqGuardType Tryz.prog.depth 30 = false := by kernel_rfl
theorem guardGon : Tryz.prog.eqGuardType Tryz.prog.depth 112 = false := by kernel_rfl
theorem St.bool_of (p : Prop) : ∃ q : Bool, (q = true ↔ p) := by
 by_cases h : p
 ·exact ⟨true, by simp [h]⟩
 ·exact ⟨false, by simp [h]⟩
theorem St.toList_iff {a b : ByteArray} : a.toList = b.toList ↔ a = b := by
 have h := St.eq_iff (a := a) (b := b)
 rw [← h]
 unfold St.eq
 simp

theorem neqT (z x : Tir) (w : World) (q : Bool) (hq : q = true ↔ z = x) : Sem.run Tryz.prog (binOp .neq 46 (.agg #[.string z.name, .int .i64 z.room, .int .i64 z.cost, .bool z.away]) (.agg #[.string x.name, .int .i64 x.room, .int .i64 x.cost, .bool x.away])) w = .ok (.bool (!q)) w := by
 have u3 := Tryz.underlying3
 have a3 := Tryz.isAgg3
 have z3 := Tryz.sizeOf3
 have u9 := Tryz.underlying9
 have a9 := Tryz.isAgg9
 have z9 := Tryz.sizeOf9
 have u4 := Tryz.underlying4
 have a4 := Tryz.isAgg4
 have z4 := Tryz.sizeOf4
 have hS : Tryz.prog.underlying 46 = some (.struct (Tryz.prog.fieldsOf 46)) := by kernel_rfl
 have hp : Tryz.prog.stoodInHeld 46 = false := by kernel_rfl
 obtain ⟨zn, zr, zc, za⟩ := z
 obtain ⟨xn, xr, xc, xa⟩ := x
 obtain rfl : q = ((zn.toList == xn.toList) && ((zr == xr) && ((zc == xc) && (za == xa)))) := by
  rw [Bool.eq_iff_iff, hq]
  simp only [Bool.and_eq_true, beq_iff_eq, Tir.mk.injEq]
  first
   | rw [St.toList_iff, St.toList_iff]
   | rw [St.toList_iff]
   | skip
 rw [run_neq_struct, show (10000 : Nat) = 9999 + 1 from rfl, run_equalIn_agg w 9999 46 _ _ hS hp]
 simp only [Program.fieldsOf, Tryz.underlying46]
 cases h1 : (zn.toList == xn.toList) <;> cases h2 : (zr == xr) <;> cases h3 : (zc == xc) <;> cases za <;> cases xa
 all_goals
  go_simp
  try simp

theorem neqF (z x : Fil) (w : World) (q : Bool) (hq : q = true ↔ z = x) : Sem.run Tryz.prog (binOp .neq 30 (.agg #[.string z.dig, .int .i64 z.size, .int .i64 z.kind, .string z.frm]) (.agg #[.string x.dig, .int .i64 x.size, .int .i64 x.kind, .string x.frm])) w = .ok (.bool (!q)) w := by
 have u3 := Tryz.underlying3
 have a3 := Tryz.isAgg3
 have z3 := Tryz.sizeOf3
 have u9 := Tryz.underlying9
 have a9 := Tryz.isAgg9
 have z9 := Tryz.sizeOf9
 have u4 := Tryz.underlying4
 have a4 := Tryz.isAgg4
 have z4 := Tryz.sizeOf4
 have hS : Tryz.prog.underlying 30 = some (.struct (Tryz.prog.fieldsOf 30)) := by kernel_rfl
 have hp : Tryz.prog.stoodInHeld 30 = false := by kernel_rfl
 obtain ⟨zn, zr, zc, za⟩ := z
 obtain ⟨xn, xr, xc, xa⟩ := x
 obtain rfl : q = ((zn.toList == xn.toList) && ((zr == xr) && ((zc == xc) && (za.toList == xa.toList)))) := by
  rw [Bool.eq_iff_iff, hq]
  simp only [Bool.and_eq_true, beq_iff_eq, Fil.mk.injEq]
  first
   | rw [St.toList_iff, St.toList_iff]
   | rw [St.toList_iff]
   | skip
 rw [run_neq_struct, show (10000 : Nat) = 9999 + 1 from rfl, run_equalIn_agg w 9999 30 _ _ hS hp]
 simp only [Program.fieldsOf, Tryz.underlying30]
 cases h1 : (zn.toList == xn.toList) <;> cases h2 : (zr == xr) <;> cases h3 : (zc == xc) <;> cases h4 : (za.toList == xa.toList)
 all_goals
  go_simp
  try simp

theorem neqC (z x : Cop) (w : World) (q : Bool) (hq : q = true ↔ z = x) : Sem.run Tryz.prog (binOp .neq 74 (.agg #[.string z.dig, .string z.tier, .bool z.good, .int .i64 z.asked]) (.agg #[.string x.dig, .string x.tier, .bool x.good, .int .i64 x.asked])) w = .ok (.bool (!q)) w := by
 have u3 := Tryz.underlying3
 have a3 := Tryz.isAgg3
 have z3 := Tryz.sizeOf3
 have u9 := Tryz.underlying9
 have a9 := Tryz.isAgg9
 have z9 := Tryz.sizeOf9
 have u4 := Tryz.underlying4
 have a4 := Tryz.isAgg4
 have z4 := Tryz.sizeOf4
 have hS : Tryz.prog.underlying 74 = some (.struct (Tryz.prog.fieldsOf 74)) := by kernel_rfl
 have hp : Tryz.prog.stoodInHeld 74 = false := by kernel_rfl
 obtain ⟨zn, zr, zc, za⟩ := z
 obtain ⟨xn, xr, xc, xa⟩ := x
 obtain rfl : q = ((zn.toList == xn.toList) && ((zr.toList == xr.toList) && ((zc == xc) && (za == xa)))) := by
  rw [Bool.eq_iff_iff, hq]
  simp only [Bool.and_eq_true, beq_iff_eq, Cop.mk.injEq]
  first
   | rw [St.toList_iff, St.toList_iff]
   | rw [St.toList_iff]
   | skip
 rw [run_neq_struct, show (10000 : Nat) = 9999 + 1 from rfl, run_equalIn_agg w 9999 74 _ _ hS hp]
 simp only [Program.fieldsOf, Tryz.underlying74]
 cases h1 : (zn.toList == xn.toList) <;> cases h2 : (zr.toList == xr.toList) <;> cases zc <;> cases xc <;> cases h4 : (za == xa)
 all_goals
  go_simp
  try simp

theorem neqG (z x : Gon) (w : World) (q : Bool) (hq : q = true ↔ z = x) : Sem.run Tryz.prog (binOp .neq 112 (.agg #[.string z.dig, .int .i64 z.day]) (.agg #[.string x.dig, .int .i64 x.day])) w = .ok (.bool (!q)) w := by
 have u3 := Tryz.underlying3
 have a3 := Tryz.isAgg3
 have z3 := Tryz.sizeOf3
 have u9 := Tryz.underlying9
 have a9 := Tryz.isAgg9
 have z9 := Tryz.sizeOf9
 have u4 := Tryz.underlying4
 have a4 := Tryz.isAgg4
 have z4 := Tryz.sizeOf4
 have hS : Tryz.prog.underlying 112 = some (.struct (Tryz.prog.fieldsOf 112)) := by kernel_rfl
 have hp : Tryz.prog.stoodInHeld 112 = false := by kernel_rfl
 obtain ⟨zn, zr⟩ := z
 obtain ⟨xn, xr⟩ := x
 obtain rfl : q = ((zn.toList == xn.toList) && (zr == xr)) := by
  rw [Bool.eq_iff_iff, hq]
  simp only [Bool.and_eq_true, beq_iff_eq, Gon.mk.injEq]
  first
   | rw [St.toList_iff, St.toList_iff]
   | rw [St.toList_iff]
   | skip
 rw [run_neq_struct, show (10000 : Nat) = 9999 + 1 from rfl, run_equalIn_agg w 9999 112 _ _ hS hp]
 simp only [Program.fieldsOf, Tryz.underlying112]
 cases h1 : (zn.toList == xn.toList) <;> cases h2 : (zr == xr)
 all_goals
  go_simp
  try simp
theorem St.take_same {α : Type} {A B : List α} {j : Nat} (h : A.take j = B.take j) {x y : α} (hx : A[j]? = some x) (hy : B[j]? = some y) (he : x = y) : A.take (j + 1) = B.take (j + 1) := by
 rw [List.take_add_one, List.take_add_one, h, hx, hy, he]

theorem eqT_any (A B : List Tir) (a b : Option Addr) (ca cb : Nat) (w : World) (hx : RowE St.eT w a A) (hy : RowE St.eT w b B) (hn : A.length ≤ 9223372036854775807) (hm : B.length ≤ 9223372036854775807) (q : Bool) (hq : q = true ↔ A = B) :
  Calls Tryz.prog 113 #[.slice a A.length ca, .slice b B.length cb] w fun e w' => e = .returned (.bool q) ∧ Below w.heap.size w w' := by
 have HX := Lib.hid hx; have HY := Lib.hid hy; have HQ := Lib.hid hq
 obtain ⟨n, hnn⟩ : ∃ n, A.length = n := ⟨_, rfl⟩
 obtain ⟨m, hmm⟩ : ∃ m, B.length = m := ⟨_, rfl⟩
 have HN := Lib.hid hnn; have HM := Lib.hid hmm
 rw [hnn] at hn ⊢
 rw [hmm] at hm ⊢
 clear hx hy hnn hmm hq
 by_cases hl : n = m
 ·subst hl
  have hl' : ((n : Int) == (n : Int)) = true := by simp
  go_enter Tryz.func113, Tryz.ntmps113
  go_wp2_with fail
  go_loopg [13] n (fun gk i wr => ∃ j : Nat, j ≤ n ∧ gk = n - j ∧ i = .int .i64 j ∧ A.take j = B.take j ∧ Below w.heap.size w wr)
  case atStart => exact ⟨0, by omega, rfl, rfl, rfl, Below.refl _ _⟩
  case round =>
   obtain ⟨j, hj, rfl, rfl, htk, hB⟩ := hrel
   have HTK := Lib.hid htk
   clear htk
   by_cases hlt : j < n
   ·obtain ⟨x, hqx⟩ : ∃ x, A[j]? = some x := ⟨_, List.getElem?_eq_getElem (by rw [HN.out]; exact hlt)⟩
    obtain ⟨y, hqy⟩ : ∃ y, B[j]? = some y := ⟨_, List.getElem?_eq_getElem (by rw [HM.out]; exact hlt)⟩
    obtain ⟨b1, o1, ha1, hb1, hc1⟩ := HX.out.keep hB (by rw [HN.out]; omega)
    obtain ⟨b2, o2, ha2, hb2, hc2⟩ := HY.out.keep hB (by rw [HM.out]; omega)
    have c0 : wr.cell? ⟨b1, o1 + j * 4, none⟩ = some (.string x.name) := hc1 j x hqx 0 (.string x.name) rfl
    have c1 : wr.cell? ⟨b1, o1 + j * 4 + 1, none⟩ = some (.int .i64 x.room) := hc1 j x hqx 1 (.int .i64 x.room) rfl
    have c2 : wr.cell? ⟨b1, o1 + j * 4 + 2, none⟩ = some (.int .i64 x.cost) := hc1 j x hqx 2 (.int .i64 x.cost) rfl
    have c3 : wr.cell? ⟨b1, o1 + j * 4 + 3, none⟩ = some (.bool x.away) := hc1 j x hqx 3 (.bool x.away) rfl
    have d0 : wr.cell? ⟨b2, o2 + j * 4, none⟩ = some (.string y.name) := hc2 j y hqy 0 (.string y.name) rfl
    have d1 : wr.cell? ⟨b2, o2 + j * 4 + 1, none⟩ = some (.int .i64 y.room) := hc2 j y hqy 1 (.int .i64 y.room) rfl
    have d2 : wr.cell? ⟨b2, o2 + j * 4 + 2, none⟩ = some (.int .i64 y.cost) := hc2 j y hqy 2 (.int .i64 y.cost) rfl
    have d3 : wr.cell? ⟨b2, o2 + j * 4 + 3, none⟩ = some (.bool y.away) := hc2 j y hqy 3 (.bool y.away) rfl
    have hj0 : (0 : Int) ≤ (j : Int) := by omega
    have hj1 : (j : Int) < (n : Int) := by omega
    obtain ⟨p, hp⟩ := St.bool_of (x = y)
    have hne := fun V => neqT x y V p hp; have hgd := guardTir
    have HNX := Lib.hid (fun e : x = y => St.take_same HTK.out hqx hqy e)
    have HNO : Hid (x ≠ y → A ≠ B) := Lib.hid (fun hne e => hne (by subst e; rw [hqx] at hqy; exact Option.some.inj hqy))
    have HP := Lib.hid hp
    clear hc1 hc2 hqx hqy hp
    rw [ha1, ha2]
    cases p
    ·have hq0 : q = false := by
      cases hqq : q with
      | false => rfl
      | true => exact absurd (HQ.out.1 hqq) (HNO.out (fun e => absurd (HP.out.2 e) (by decide)))
     subst hq0
     go_wp2_with fail
     go_quiet (fail)
     go_wp2_with fail
     go_ret
     exact ⟨rfl, below_drewN hB _⟩
    ·go_wp2_with fail
     go_quiet (fail)
     go_wp2_with fail
     rw [← ha1, ← ha2]
     go_roundg (n - (j + 1))
     case rel => exact ⟨j + 1, by omega, rfl, by go_num, HNX.out (HP.out.1 (by first | rfl | trivial)), below_drewN hB _⟩
     case measure => omega
   ·obtain rfl : j = n := by omega
    have hjn : ¬ ((j : Int) < (j : Int)) := by omega
    have hq1 : q = true := HQ.out.2 (by
     have h := HTK.out
     rw [List.take_of_length_le (by rw [HN.out]; exact Nat.le_refl _), List.take_of_length_le (by rw [HM.out]; exact Nat.le_refl _)] at h
     exact h)
    subst hq1
    go_wp2_with fail
    go_ret
    exact ⟨rfl, hB⟩
 ·have hl' : ((n : Int) == (m : Int)) = false := by simp; omega
  have hq0 : q = false := by
   cases hqq : q with
   | false => rfl
   | true => exact absurd (by rw [← HN.out, ← HM.out, HQ.out.1 hqq]) hl
  subst hq0
  go_enter Tryz.func113, Tryz.ntmps113
  go_wp2_with fail
  go_ret
  exact ⟨rfl, Below.refl _ _⟩

theorem eqF_any (A B : List Fil) (a b : Option Addr) (ca cb : Nat) (w : World) (hx : RowE St.eF w a A) (hy : RowE St.eF w b B) (hn : A.length ≤ 9223372036854775807) (hm : B.length ≤ 9223372036854775807) (q : Bool) (hq : q = true ↔ A = B) :
  Calls Tryz.prog 114 #[.slice a A.length ca, .slice b B.length cb] w fun e w' => e = .returned (.bool q) ∧ Below w.heap.size w w' := by
 have HX := Lib.hid hx; have HY := Lib.hid hy; have HQ := Lib.hid hq
 obtain ⟨n, hnn⟩ : ∃ n, A.length = n := ⟨_, rfl⟩
 obtain ⟨m, hmm⟩ : ∃ m, B.length = m := ⟨_, rfl⟩
 have HN := Lib.hid hnn; have HM := Lib.hid hmm
 rw [hnn] at hn ⊢
 rw [hmm] at hm ⊢
 clear hx hy hnn hmm hq
 by_cases hl : n = m
 ·subst hl
  have hl' : ((n : Int) == (n : Int)) = true := by simp
  go_enter Tryz.func114, Tryz.ntmps114
  go_wp2_with fail
  go_loopg [13] n (fun gk i wr => ∃ j : Nat, j ≤ n ∧ gk = n - j ∧ i = .int .i64 j ∧ A.take j = B.take j ∧ Below w.heap.size w wr)
  case atStart => exact ⟨0, by omega, rfl, rfl, rfl, Below.refl _ _⟩
  case round =>
   obtain ⟨j, hj, rfl, rfl, htk, hB⟩ := hrel
   have HTK := Lib.hid htk
   clear htk
   by_cases hlt : j < n
   ·obtain ⟨x, hqx⟩ : ∃ x, A[j]? = some x := ⟨_, List.getElem?_eq_getElem (by rw [HN.out]; exact hlt)⟩
    obtain ⟨y, hqy⟩ : ∃ y, B[j]? = some y := ⟨_, List.getElem?_eq_getElem (by rw [HM.out]; exact hlt)⟩
    obtain ⟨b1, o1, ha1, hb1, hc1⟩ := HX.out.keep hB (by rw [HN.out]; omega)
    obtain ⟨b2, o2, ha2, hb2, hc2⟩ := HY.out.keep hB (by rw [HM.out]; omega)
    have c0 : wr.cell? ⟨b1, o1 + j * 4, none⟩ = some (.string x.dig) := hc1 j x hqx 0 (.string x.dig) rfl
    have c1 : wr.cell? ⟨b1, o1 + j * 4 + 1, none⟩ = some (.int .i64 x.size) := hc1 j x hqx 1 (.int .i64 x.size) rfl
    have c2 : wr.cell? ⟨b1, o1 + j * 4 + 2, none⟩ = some (.int .i64 x.kind) := hc1 j x hqx 2 (.int .i64 x.kind) rfl
    have c3 : wr.cell? ⟨b1, o1 + j * 4 + 3, none⟩ = some (.string x.frm) := hc1 j x hqx 3 (.string x.frm) rfl
    have d0 : wr.cell? ⟨b2, o2 + j * 4, none⟩ = some (.string y.dig) := hc2 j y hqy 0 (.string y.dig) rfl
    have d1 : wr.cell? ⟨b2, o2 + j * 4 + 1, none⟩ = some (.int .i64 y.size) := hc2 j y hqy 1 (.int .i64 y.size) rfl
    have d2 : wr.cell? ⟨b2, o2 + j * 4 + 2, none⟩ = some (.int .i64 y.kind) := hc2 j y hqy 2 (.int .i64 y.kind) rfl
    have d3 : wr.cell? ⟨b2, o2 + j * 4 + 3, none⟩ = some (.string y.frm) := hc2 j y hqy 3 (.string y.frm) rfl
    have hj0 : (0 : Int) ≤ (j : Int) := by omega
    have hj1 : (j : Int) < (n : Int) := by omega
    obtain ⟨p, hp⟩ := St.bool_of (x = y)
    have hne := fun V => neqF x y V p hp; have hgd := guardFil
    have HNX := Lib.hid (fun e : x = y => St.take_same HTK.out hqx hqy e)
    have HNO : Hid (x ≠ y → A ≠ B) := Lib.hid (fun hne e => hne (by subst e; rw [hqx] at hqy; exact Option.some.inj hqy))
    have HP := Lib.hid hp
    clear hc1 hc2 hqx hqy hp
    rw [ha1, ha2]
    cases p
    ·have hq0 : q = false := by
      cases hqq : q with
      | false => rfl
      | true => exact absurd (HQ.out.1 hqq) (HNO.out (fun e => absurd (HP.out.2 e) (by decide)))
     subst hq0
     go_wp2_with fail
     go_quiet (fail)
     go_wp2_with fail
     go_ret
     exact ⟨rfl, below_drewN hB _⟩
    ·go_wp2_with fail
     go_quiet (fail)
     go_wp2_with fail
     rw [← ha1, ← ha2]
     go_roundg (n - (j + 1))
     case rel => exact ⟨j + 1, by omega, rfl, by go_num, HNX.out (HP.out.1 (by first | rfl | trivial)), below_drewN hB _⟩
     case measure => omega
   ·obtain rfl : j = n := by omega
    have hjn : ¬ ((j : Int) < (j : Int)) := by omega
    have hq1 : q = true := HQ.out.2 (by
     have h := HTK.out
     rw [List.take_of_length_le (by rw [HN.out]; exact Nat.le_refl _), List.take_of_length_le (by rw [HM.out]; exact Nat.le_refl _)] at h
     exact h)
    subst hq1
    go_wp2_with fail
    go_ret
    exact ⟨rfl, hB⟩
 ·have hl' : ((n : Int) == (m : Int)) = false := by simp; omega
  have hq0 : q = false := by
   cases hqq : q with
   | false => rfl
   | true => exact absurd (by rw [← HN.out, ← HM.out, HQ.out.1 hqq]) hl
  subst hq0
  go_enter Tryz.func114, Tryz.ntmps114
  go_wp2_with fail
  go_ret
  exact ⟨rfl, Below.refl _ _⟩

theorem eqC_any (A B : List Cop) (a b : Option Addr) (ca cb : Nat) (w : World) (hx : RowE St.eC w a A) (hy : RowE St.eC w b B) (hn : A.length ≤ 9223372036854775807) (hm : B.length ≤ 9223372036854775807) (q : Bool) (hq : q = true ↔ A = B) :
  Calls Tryz.prog 42 #[.slice a A.length ca, .slice b B.length cb] w fun e w' => e = .returned (.bool q) ∧ Below w.heap.size w w' := by
 have HX := Lib.hid hx; have HY := Lib.hid hy; have HQ := Lib.hid hq
 obtain ⟨n, hnn⟩ : ∃ n, A.length = n := ⟨_, rfl⟩
 obtain ⟨m, hmm⟩ : ∃ m, B.length = m := ⟨_, rfl⟩
 have HN := Lib.hid hnn; have HM := Lib.hid hmm
 rw [hnn] at hn ⊢
 rw [hmm] at hm ⊢
 clear hx hy hnn hmm hq
 by_cases hl : n = m
 ·subst hl
  have hl' : ((n : Int) == (n : Int)) = true := by simp
  go_enter Tryz.func42, Tryz.ntmps42
  go_wp2_with fail
  go_loopg [13] n (fun gk i wr => ∃ j : Nat, j ≤ n ∧ gk = n - j ∧ i = .int .i64 j ∧ A.take j = B.take j ∧ Below w.heap.size w wr)
  case atStart => exact ⟨0, by omega, rfl, rfl, rfl, Below.refl _ _⟩
  case round =>
   obtain ⟨j, hj, rfl, rfl, htk, hB⟩ := hrel
   have HTK := Lib.hid htk
   clear htk
   by_cases hlt : j < n
   ·obtain ⟨x, hqx⟩ : ∃ x, A[j]? = some x := ⟨_, List.getElem?_eq_getElem (by rw [HN.out]; exact hlt)⟩
    obtain ⟨y, hqy⟩ : ∃ y, B[j]? = some y := ⟨_, List.getElem?_eq_getElem (by rw [HM.out]; exact hlt)⟩
    obtain ⟨b1, o1, ha1, hb1, hc1⟩ := HX.out.keep hB (by rw [HN.out]; omega)
    obtain ⟨b2, o2, ha2, hb2, hc2⟩ := HY.out.keep hB (by rw [HM.out]; omega)
    have c0 : wr.cell? ⟨b1, o1 + j * 4, none⟩ = some (.string x.dig) := hc1 j x hqx 0 (.string x.dig) rfl
    have c1 : wr.cell? ⟨b1, o1 + j * 4 + 1, none⟩ = some (.string x.tier) := hc1 j x hqx 1 (.string x.tier) rfl
    have c2 : wr.cell? ⟨b1, o1 + j * 4 + 2, none⟩ = some (.bool x.good) := hc1 j x hqx 2 (.bool x.good) rfl
    have c3 : wr.cell? ⟨b1, o1 + j * 4 + 3, none⟩ = some (.int .i64 x.asked) := hc1 j x hqx 3 (.int .i64 x.asked) rfl
    have d0 : wr.cell? ⟨b2, o2 + j * 4, none⟩ = some (.string y.dig) := hc2 j y hqy 0 (.string y.dig) rfl
    have d1 : wr.cell? ⟨b2, o2 + j * 4 + 1, none⟩ = some (.string y.tier) := hc2 j y hqy 1 (.string y.tier) rfl
    have d2 : wr.cell? ⟨b2, o2 + j * 4 + 2, none⟩ = some (.bool y.good) := hc2 j y hqy 2 (.bool y.good) rfl
    have d3 : wr.cell? ⟨b2, o2 + j * 4 + 3, none⟩ = some (.int .i64 y.asked) := hc2 j y hqy 3 (.int .i64 y.asked) rfl
    have hj0 : (0 : Int) ≤ (j : Int) := by omega
    have hj1 : (j : Int) < (n : Int) := by omega
    obtain ⟨p, hp⟩ := St.bool_of (x = y)
    have hne := fun V => neqC x y V p hp; have hgd := guardCop
    have HNX := Lib.hid (fun e : x = y => St.take_same HTK.out hqx hqy e)
    have HNO : Hid (x ≠ y → A ≠ B) := Lib.hid (fun hne e => hne (by subst e; rw [hqx] at hqy; exact Option.some.inj hqy))
    have HP := Lib.hid hp
    clear hc1 hc2 hqx hqy hp
    rw [ha1, ha2]
    cases p
    ·have hq0 : q = false := by
      cases hqq : q with
      | false => rfl
      | true => exact absurd (HQ.out.1 hqq) (HNO.out (fun e => absurd (HP.out.2 e) (by decide)))
     subst hq0
     go_wp2_with fail
     go_quiet (fail)
     go_wp2_with fail
     go_ret
     exact ⟨rfl, below_drewN hB _⟩
    ·go_wp2_with fail
     go_quiet (fail)
     go_wp2_with fail
     rw [← ha1, ← ha2]
     go_roundg (n - (j + 1))
     case rel => exact ⟨j + 1, by omega, rfl, by go_num, HNX.out (HP.out.1 (by first | rfl | trivial)), below_drewN hB _⟩
     case measure => omega
   ·obtain rfl : j = n := by omega
    have hjn : ¬ ((j : Int) < (j : Int)) := by omega
    have hq1 : q = true := HQ.out.2 (by
     have h := HTK.out
     rw [List.take_of_length_le (by rw [HN.out]; exact Nat.le_refl _), List.take_of_length_le (by rw [HM.out]; exact Nat.le_refl _)] at h
     exact h)
    subst hq1
    go_wp2_with fail
    go_ret
    exact ⟨rfl, hB⟩
 ·have hl' : ((n : Int) == (m : Int)) = false := by simp; omega
  have hq0 : q = false := by
   cases hqq : q with
   | false => rfl
   | true => exact absurd (by rw [← HN.out, ← HM.out, HQ.out.1 hqq]) hl
  subst hq0
  go_enter Tryz.func42, Tryz.ntmps42
  go_wp2_with fail
  go_ret
  exact ⟨rfl, Below.refl _ _⟩

theorem eqG_any (A B : List Gon) (a b : Option Addr) (ca cb : Nat) (w : World) (hx : RowE St.eG w a A) (hy : RowE St.eG w b B) (hn : A.length ≤ 9223372036854775807) (hm : B.length ≤ 9223372036854775807) (q : Bool) (hq : q = true ↔ A = B) :
  Calls Tryz.prog 115 #[.slice a A.length ca, .slice b B.length cb] w fun e w' => e = .returned (.bool q) ∧ Below w.heap.size w w' := by
 have HX := Lib.hid hx; have HY := Lib.hid hy; have HQ := Lib.hid hq
 obtain ⟨n, hnn⟩ : ∃ n, A.length = n := ⟨_, rfl⟩
 obtain ⟨m, hmm⟩ : ∃ m, B.length = m := ⟨_, rfl⟩
 have HN := Lib.hid hnn; have HM := Lib.hid hmm
 rw [hnn] at hn ⊢
 rw [hmm] at hm ⊢
 clear hx hy hnn hmm hq
 by_cases hl : n = m
 ·subst hl
  have hl' : ((n : Int) == (n : Int)) = true := by simp
  go_enter Tryz.func115, Tryz.ntmps115
  go_wp2_with fail
  go_loopg [13] n (fun gk i wr => ∃ j : Nat, j ≤ n ∧ gk = n - j ∧ i = .int .i64 j ∧ A.take j = B.take j ∧ Below w.heap.size w wr)
  case atStart => exact ⟨0, by omega, rfl, rfl, rfl, Below.refl _ _⟩
  case round =>
   obtain ⟨j, hj, rfl, rfl, htk, hB⟩ := hrel
   have HTK := Lib.hid htk
   clear htk
   by_cases hlt : j < n
   ·obtain ⟨x, hqx⟩ : ∃ x, A[j]? = some x := ⟨_, List.getElem?_eq_getElem (by rw [HN.out]; exact hlt)⟩
    obtain ⟨y, hqy⟩ : ∃ y, B[j]? = some y := ⟨_, List.getElem?_eq_getElem (by rw [HM.out]; exact hlt)⟩
    obtain ⟨b1, o1, ha1, hb1, hc1⟩ := HX.out.keep hB (by rw [HN.out]; omega)
    obtain ⟨b2, o2, ha2, hb2, hc2⟩ := HY.out.keep hB (by rw [HM.out]; omega)
    have c0 : wr.cell? ⟨b1, o1 + j * 2, none⟩ = some (.string x.dig) := hc1 j x hqx 0 (.string x.dig) rfl
    have c1 : wr.cell? ⟨b1, o1 + j * 2 + 1, none⟩ = some (.int .i64 x.day) := hc1 j x hqx 1 (.int .i64 x.day) rfl
    have d0 : wr.cell? ⟨b2, o2 + j * 2, none⟩ = some (.string y.dig) := hc2 j y hqy 0 (.string y.dig) rfl
    have d1 : wr.cell? ⟨b2, o2 + j * 2 + 1, none⟩ = some (.int .i64 y.day) := hc2 j y hqy 1 (.int .i64 y.day) rfl
    have hj0 : (0 : Int) ≤ (j : Int) := by omega
    have hj1 : (j : Int) < (n : Int) := by omega
    obtain ⟨p, hp⟩ := St.bool_of (x = y)
    have hne := fun V => neqG x y V p hp; have hgd := guardGon
    have HNX := Lib.hid (fun e : x = y => St.take_same HTK.out hqx hqy e)
    have HNO : Hid (x ≠ y → A ≠ B) := Lib.hid (fun hne e => hne (by subst e; rw [hqx] at hqy; exact Option.some.inj hqy))
    have HP := Lib.hid hp
    clear hc1 hc2 hqx hqy hp
    rw [ha1, ha2]
    cases p
    ·have hq0 : q = false := by
      cases hqq : q with
      | false => rfl
      | true => exact absurd (HQ.out.1 hqq) (HNO.out (fun e => absurd (HP.out.2 e) (by decide)))
     subst hq0
     go_wp2_with fail
     go_quiet (fail)
     go_wp2_with fail
     go_ret
     exact ⟨rfl, below_drewN hB _⟩
    ·go_wp2_with fail
     go_quiet (fail)
     go_wp2_with fail
     rw [← ha1, ← ha2]
     go_roundg (n - (j + 1))
     case rel => exact ⟨j + 1, by omega, rfl, by go_num, HNX.out (HP.out.1 (by first | rfl | trivial)), below_drewN hB _⟩
     case measure => omega
   ·obtain rfl : j = n := by omega
    have hjn : ¬ ((j : Int) < (j : Int)) := by omega
    have hq1 : q = true := HQ.out.2 (by
     have h := HTK.out
     rw [List.take_of_length_le (by rw [HN.out]; exact Nat.le_refl _), List.take_of_length_le (by rw [HM.out]; exact Nat.le_refl _)] at h
     exact h)
    subst hq1
    go_wp2_with fail
    go_ret
    exact ⟨rfl, hB⟩
 ·have hl' : ((n : Int) == (m : Int)) = false := by simp; omega
  have hq0 : q = false := by
   cases hqq : q with
   | false => rfl
   | true => exact absurd (by rw [← HN.out, ← HM.out, HQ.out.1 hqq]) hl
  subst hq0
  go_enter Tryz.func115, Tryz.ntmps115
  go_wp2_with fail
  go_ret
  exact ⟨rfl, Below.refl _ _⟩

theorem eqS_any (A B : List ByteArray) (a b : Option Addr) (ca cb : Nat) (w : World) (hx : RowE St.eS w a A) (hy : RowE St.eS w b B) (hn : A.length ≤ 9223372036854775807) (hm : B.length ≤ 9223372036854775807) (q : Bool) (hq : q = true ↔ A = B) :
  Calls Tryz.prog 37 #[.slice a A.length ca, .slice b B.length cb] w fun e w' => e = .returned (.bool q) ∧ Below w.heap.size w w' := by
 have HX := Lib.hid hx; have HY := Lib.hid hy; have HQ := Lib.hid hq
 obtain ⟨n, hnn⟩ : ∃ n, A.length = n := ⟨_, rfl⟩
 obtain ⟨m, hmm⟩ : ∃ m, B.length = m := ⟨_, rfl⟩
 have HN := Lib.hid hnn; have HM := Lib.hid hmm
 rw [hnn] at hn ⊢
 rw [hmm] at hm ⊢
 clear hx hy hnn hmm hq
 by_cases hl : n = m
 ·subst hl
  have hl' : ((n : Int) == (n : Int)) = true := by simp
  go_enter Tryz.func37, Tryz.ntmps37
  go_wp2_with fail
  go_loopg [13] n (fun gk i wr => ∃ j : Nat, j ≤ n ∧ gk = n - j ∧ i = .int .i64 j ∧ A.take j = B.take j ∧ Below w.heap.size w wr)
  case atStart => exact ⟨0, by omega, rfl, rfl, rfl, Below.refl _ _⟩
  case round =>
   obtain ⟨j, hj, rfl, rfl, htk, hB⟩ := hrel
   have HTK := Lib.hid htk
   clear htk
   by_cases hlt : j < n
   ·obtain ⟨x, hqx⟩ : ∃ x, A[j]? = some x := ⟨_, List.getElem?_eq_getElem (by rw [HN.out]; exact hlt)⟩
    obtain ⟨y, hqy⟩ : ∃ y, B[j]? = some y := ⟨_, List.getElem?_eq_getElem (by rw [HM.out]; exact hlt)⟩
    obtain ⟨b1, o1, ha1, hb1, hc1⟩ := HX.out.keep hB (by rw [HN.out]; omega)
    obtain ⟨b2, o2, ha2, hb2, hc2⟩ := HY.out.keep hB (by rw [HM.out]; omega)
    have c0 : wr.cell? ⟨b1, o1 + j, none⟩ = some (.string x) := by have := hc1 j x hqx 0 (.string x) rfl; rw [show o1 + j * St.eS.k + 0 = o1 + j by simp [St.eS]] at this; exact this
    have d0 : wr.cell? ⟨b2, o2 + j, none⟩ = some (.string y) := by have := hc2 j y hqy 0 (.string y) rfl; rw [show o2 + j * St.eS.k + 0 = o2 + j by simp [St.eS]] at this; exact this
    have hj0 : (0 : Int) ≤ (j : Int) := by omega
    have hj1 : (j : Int) < (n : Int) := by omega
    obtain ⟨p, hp⟩ := St.bool_of (x = y)
    have hne : (x.toList == y.toList) = p := (by rw [Bool.eq_iff_iff, hp]; simp [St.toList_iff]); have hnn : (x.toList != y.toList) = !p := (by rw [← hne]; rfl)
    have HNX := Lib.hid (fun e : x = y => St.take_same HTK.out hqx hqy e)
    have HNO : Hid (x ≠ y → A ≠ B) := Lib.hid (fun hne e => hne (by subst e; rw [hqx] at hqy; exact Option.some.inj hqy))
    have HP := Lib.hid hp
    clear hc1 hc2 hqx hqy hp
    rw [ha1, ha2]
    cases p
    ·have hq0 : q = false := by
      cases hqq : q with
      | false => rfl
      | true => exact absurd (HQ.out.1 hqq) (HNO.out (fun e => absurd (HP.out.2 e) (by decide)))
     subst hq0
     go_wp2_with fail
     go_quiet (fail)
     go_wp2_with fail
     go_ret
     exact ⟨rfl, below_drewN hB _⟩
    ·go_wp2_with fail
     go_quiet (fail)
     go_wp2_with fail
     rw [← ha1, ← ha2]
     go_roundg (n - (j + 1))
     case rel => exact ⟨j + 1, by omega, rfl, by go_num, HNX.out (HP.out.1 (by first | rfl | trivial)), below_drewN hB _⟩
     case measure => omega
   ·obtain rfl : j = n := by omega
    have hjn : ¬ ((j : Int) < (j : Int)) := by omega
    have hq1 : q = true := HQ.out.2 (by
     have h := HTK.out
     rw [List.take_of_length_le (by rw [HN.out]; exact Nat.le_refl _), List.take_of_length_le (by rw [HM.out]; exact Nat.le_refl _)] at h
     exact h)
    subst hq1
    go_wp2_with fail
    go_ret
    exact ⟨rfl, hB⟩
 ·have hl' : ((n : Int) == (m : Int)) = false := by simp; omega
  have hq0 : q = false := by
   cases hqq : q with
   | false => rfl
   | true => exact absurd (by rw [← HN.out, ← HM.out, HQ.out.1 hqq]) hl
  subst hq0
  go_enter Tryz.func37, Tryz.ntmps37
  go_wp2_with fail
  go_ret
  exact ⟨rfl, Below.refl _ _⟩
theorem Sto.eq_iff {s t : Sto} : s = t ↔ s.least = t.least ∧ s.wait = t.wait ∧ s.tiers = t.tiers ∧ s.files = t.files ∧ s.copies = t.copies ∧ s.held = t.held ∧ s.bin = t.bin := by
 cases s; cases t; simp
theorem sameP_any (s t : Sto) (a b : StA) (w : World) (hA : StIn w s a) (hB : StIn w t b) (q : Bool) (hq : q = true ↔ s = t) : Calls Tryz.prog 33 #[.agg #[.int .i64 s.least, .int .i64 s.wait, .slice a.ta s.tiers.length a.tc, .slice a.fa s.files.length a.fc, .slice a.ca s.copies.length a.cc, .slice a.ha s.held.length a.hc, .slice a.ba s.bin.length a.bc], .agg #[.int .i64 t.least, .int .i64 t.wait, .slice b.ta t.tiers.length b.tc, .slice b.fa t.files.length b.fc, .slice b.ca t.copies.length b.cc, .slice b.ha t.held.length b.hc, .slice b.ba t.bin.length b.bc]] w fun e w' => e = .returned (.bool q) ∧ Below w.heap.size w w' := by
 obtain ⟨W1, hW1, hP, hz1, hB1⟩ := box w #[.int .i64 s.least, .int .i64 s.wait, .slice a.ta s.tiers.length a.tc, .slice a.fa s.files.length a.fc, .slice a.ca s.copies.length a.cc, .slice a.ha s.held.length a.hc, .slice a.ba s.bin.length a.bc] 28
 obtain ⟨W2, hW2, hQ, hz2, hB2⟩ := box W1 #[.int .i64 t.least, .int .i64 t.wait, .slice b.ta t.tiers.length b.tc, .slice b.fa t.files.length b.fc, .slice b.ca t.copies.length b.cc, .slice b.ha t.held.length b.hc, .slice b.ba t.bin.length b.bc] 28
 have HW1 := Lib.hid hW1; have HW2 := Lib.hid hW2
 have hP := hP.keep hB2
 rw [hz1] at hQ
 have hBB := below_up hB1 hB2
 have HBB := Lib.hid hBB
 have HCL : Hid (∀ V, Below W2.heap.size W2 V → (V.cell? ⟨w.heap.size, 0, none⟩ = some (.int .i64 s.least) ∧ V.cell? ⟨w.heap.size, 1, none⟩ = some (.int .i64 s.wait) ∧ V.cell? ⟨w.heap.size, 2, none⟩ = some (.slice a.ta s.tiers.length a.tc) ∧ V.cell? ⟨w.heap.size, 3, none⟩ = some (.slice a.fa s.files.length a.fc) ∧ V.cell? ⟨w.heap.size, 4, none⟩ = some (.slice a.ca s.copies.length a.cc) ∧ V.cell? ⟨w.heap.size, 5, none⟩ = some (.slice a.ha s.held.length a.hc) ∧ V.cell? ⟨w.heap.size, 6, none⟩ = some (.slice a.ba s.bin.length a.bc)) ∧ V.cell? ⟨w.heap.size + 1, 0, none⟩ = some (.int .i64 t.least) ∧ V.cell? ⟨w.heap.size + 1, 1, none⟩ = some (.int .i64 t.wait) ∧ V.cell? ⟨w.heap.size + 1, 2, none⟩ = some (.slice b.ta t.tiers.length b.tc) ∧ V.cell? ⟨w.heap.size + 1, 3, none⟩ = some (.slice b.fa t.files.length b.fc) ∧ V.cell? ⟨w.heap.size + 1, 4, none⟩ = some (.slice b.ca t.copies.length b.cc) ∧ V.cell? ⟨w.heap.size + 1, 5, none⟩ = some (.slice b.ha t.held.length b.hc) ∧ V.cell? ⟨w.heap.size + 1, 6, none⟩ = some (.slice b.ba t.bin.length b.bc)) := Lib.hid fun V hv => ⟨(hP.keep hv).seven, (hQ.keep hv).seven⟩
 have IA := Lib.hid (fun V (hv : Below W2.heap.size W2 V) => hA.keep (below_up hBB hv))
 have IB := Lib.hid (fun V (hv : Below W2.heap.size W2 V) => hB.keep (below_up hBB hv))
 have t1 := hA.tl; have t2 := hA.fl; have t3 := hA.cl; have t4 := hA.hl; have t5 := hA.bl
 have v1 := hB.tl; have v2 := hB.fl; have v3 := hB.cl; have v4 := hB.hl; have v5 := hB.bl
 obtain ⟨k1, h1⟩ := St.bool_of (s.tiers = t.tiers)
 obtain ⟨k2, h2⟩ := St.bool_of (s.files = t.files)
 obtain ⟨k3, h3⟩ := St.bool_of (s.copies = t.copies)
 obtain ⟨k4, h4⟩ := St.bool_of (s.held = t.held)
 obtain ⟨k5, h5⟩ := St.bool_of (s.bin = t.bin)
 obtain ⟨l1, g1⟩ : ∃ l1, (s.least == t.least) = l1 := ⟨_, rfl⟩
 obtain ⟨l2, g2⟩ : ∃ l2, (s.wait == t.wait) = l2 := ⟨_, rfl⟩
 have HQ : Hid (q = (l1 && (l2 && (k1 && (k2 && (k3 && (k4 && k5))))))) := Lib.hid (by
  rw [Bool.eq_iff_iff, hq, Sto.eq_iff, ← g1, ← g2]
  simp only [Bool.and_eq_true, beq_iff_eq, h1, h2, h3, h4, h5])
 have HE1 := Lib.hid (fun V hv => eqT_any s.tiers t.tiers a.ta b.ta a.tc b.tc V (IA.out V hv).ti (IB.out V hv).ti (by omega) (by omega) k1 h1)
 have HE2 := Lib.hid (fun V hv => eqF_any s.files t.files a.fa b.fa a.fc b.fc V (IA.out V hv).fi (IB.out V hv).fi (by omega) (by omega) k2 h2)
 have HE3 := Lib.hid (fun V hv => eqC_any s.copies t.copies a.ca b.ca a.cc b.cc V (IA.out V hv).co (IB.out V hv).co (by omega) (by omega) k3 h3)
 have HE4 := Lib.hid (fun V hv => eqS_any s.held t.held a.ha b.ha a.hc b.hc V (IA.out V hv).he (IB.out V hv).he (by omega) (by omega) k4 h4)
 have HE5 := Lib.hid (fun V hv => eqG_any s.bin t.bin a.ba b.ba a.bc b.bc V (IA.out V hv).bi (IB.out V hv).bi (by omega) (by omega) k5 h5)
 clear hA hB hW1 hW2 hP hQ hz1 hz2 hB1 hB2 hBB t1 t2 t3 t4 t5 v1 v2 v3 v4 v5 h1 h2 h3 h4 h5 hq
 have hv : Below W2.heap.size W2 W2 := Below.refl _ _
 obtain ⟨⟨p0, p1, p2, p3, p4, p5, p6⟩, q0, q1, q2, q3, q4, q5, q6⟩ := HCL.out _ hv
 go_enter Tryz.func33, Tryz.ntmps33
 go_upto_region 1 with fail
 rw [HW1.out, HW2.out]
 cases l1
 ·go_wp2_with (first | (go_at_call 113; (with_reducible refine (HE1.out _ hv).mono ?_); rintro e wq ⟨rfl, hq⟩; have hv := below_up hv hq; obtain ⟨⟨p0, p1, p2, p3, p4, p5, p6⟩, q0, q1, q2, q3, q4, q5, q6⟩ := HCL.out _ hv) | (go_at_call 114; (with_reducible refine (HE2.out _ hv).mono ?_); rintro e wq ⟨rfl, hq⟩; have hv := below_up hv hq; obtain ⟨⟨p0, p1, p2, p3, p4, p5, p6⟩, q0, q1, q2, q3, q4, q5, q6⟩ := HCL.out _ hv) | (go_at_call 42; (with_reducible refine (HE3.out _ hv).mono ?_); rintro e wq ⟨rfl, hq⟩; have hv := below_up hv hq; obtain ⟨⟨p0, p1, p2, p3, p4, p5, p6⟩, q0, q1, q2, q3, q4, q5, q6⟩ := HCL.out _ hv) | (go_at_call 37; (with_reducible refine (HE4.out _ hv).mono ?_); rintro e wq ⟨rfl, hq⟩; have hv := below_up hv hq; obtain ⟨⟨p0, p1, p2, p3, p4, p5, p6⟩, q0, q1, q2, q3, q4, q5, q6⟩ := HCL.out _ hv) | (go_at_call 115; (with_reducible refine (HE5.out _ hv).mono ?_); rintro e wq ⟨rfl, hq⟩; have hv := below_up hv hq))
  go_ret
  exact ⟨ret_bool (by rw [HQ.out]; simp), below_up HBB.out hv⟩
 ·cases l2
  ·go_wp2_with (first | (go_at_call 113; (with_reducible refine (HE1.out _ hv).mono ?_); rintro e wq ⟨rfl, hq⟩; have hv := below_up hv hq; obtain ⟨⟨p0, p1, p2, p3, p4, p5, p6⟩, q0, q1, q2, q3, q4, q5, q6⟩ := HCL.out _ hv) | (go_at_call 114; (with_reducible refine (HE2.out _ hv).mono ?_); rintro e wq ⟨rfl, hq⟩; have hv := below_up hv hq; obtain ⟨⟨p0, p1, p2, p3, p4, p5, p6⟩, q0, q1, q2, q3, q4, q5, q6⟩ := HCL.out _ hv) | (go_at_call 42; (with_reducible refine (HE3.out _ hv).mono ?_); rintro e wq ⟨rfl, hq⟩; have hv := below_up hv hq; obtain ⟨⟨p0, p1, p2, p3, p4, p5, p6⟩, q0, q1, q2, q3, q4, q5, q6⟩ := HCL.out _ hv) | (go_at_call 37; (with_reducible refine (HE4.out _ hv).mono ?_); rintro e wq ⟨rfl, hq⟩; have hv := below_up hv hq; obtain ⟨⟨p0, p1, p2, p3, p4, p5, p6⟩, q0, q1, q2, q3, q4, q5, q6⟩ := HCL.out _ hv) | (go_at_call 115; (with_reducible refine (HE5.out _ hv).mono ?_); rintro e wq ⟨rfl, hq⟩; have hv := below_up hv hq))
   go_ret
   exact ⟨ret_bool (by rw [HQ.out]; simp), below_up HBB.out hv⟩
  ·cases k1
   ·go_wp2_with (first | (go_at_call 113; (with_reducible refine (HE1.out _ hv).mono ?_); rintro e wq ⟨rfl, hq⟩; have hv := below_up hv hq; obtain ⟨⟨p0, p1, p2, p3, p4, p5, p6⟩, q0, q1, q2, q3, q4, q5, q6⟩ := HCL.out _ hv) | (go_at_call 114; (with_reducible refine (HE2.out _ hv).mono ?_); rintro e wq ⟨rfl, hq⟩; have hv := below_up hv hq; obtain ⟨⟨p0, p1, p2, p3, p4, p5, p6⟩, q0, q1, q2, q3, q4, q5, q6⟩ := HCL.out _ hv) | (go_at_call 42; (with_reducible refine (HE3.out _ hv).mono ?_); rintro e wq ⟨rfl, hq⟩; have hv := below_up hv hq; obtain ⟨⟨p0, p1, p2, p3, p4, p5, p6⟩, q0, q1, q2, q3, q4, q5, q6⟩ := HCL.out _ hv) | (go_at_call 37; (with_reducible refine (HE4.out _ hv).mono ?_); rintro e wq ⟨rfl, hq⟩; have hv := below_up hv hq; obtain ⟨⟨p0, p1, p2, p3, p4, p5, p6⟩, q0, q1, q2, q3, q4, q5, q6⟩ := HCL.out _ hv) | (go_at_call 115; (with_reducible refine (HE5.out _ hv).mono ?_); rintro e wq ⟨rfl, hq⟩; have hv := below_up hv hq))
    go_ret
    exact ⟨ret_bool (by rw [HQ.out]; simp), below_up HBB.out hv⟩
   ·cases k2
    ·go_wp2_with (first | (go_at_call 113; (with_reducible refine (HE1.out _ hv).mono ?_); rintro e wq ⟨rfl, hq⟩; have hv := below_up hv hq; obtain ⟨⟨p0, p1, p2, p3, p4, p5, p6⟩, q0, q1, q2, q3, q4, q5, q6⟩ := HCL.out _ hv) | (go_at_call 114; (with_reducible refine (HE2.out _ hv).mono ?_); rintro e wq ⟨rfl, hq⟩; have hv := below_up hv hq; obtain ⟨⟨p0, p1, p2, p3, p4, p5, p6⟩, q0, q1, q2, q3, q4, q5, q6⟩ := HCL.out _ hv) | (go_at_call 42; (with_reducible refine (HE3.out _ hv).mono ?_); rintro e wq ⟨rfl, hq⟩; have hv := below_up hv hq; obtain ⟨⟨p0, p1, p2, p3, p4, p5, p6⟩, q0, q1, q2, q3, q4, q5, q6⟩ := HCL.out _ hv) | (go_at_call 37; (with_reducible refine (HE4.out _ hv).mono ?_); rintro e wq ⟨rfl, hq⟩; have hv := below_up hv hq; obtain ⟨⟨p0, p1, p2, p3, p4, p5, p6⟩, q0, q1, q2, q3, q4, q5, q6⟩ := HCL.out _ hv) | (go_at_call 115; (with_reducible refine (HE5.out _ hv).mono ?_); rintro e wq ⟨rfl, hq⟩; have hv := below_up hv hq))
     go_ret
     exact ⟨ret_bool (by rw [HQ.out]; simp), below_up HBB.out hv⟩
    ·cases k3
     ·go_wp2_with (first | (go_at_call 113; (with_reducible refine (HE1.out _ hv).mono ?_); rintro e wq ⟨rfl, hq⟩; have hv := below_up hv hq; obtain ⟨⟨p0, p1, p2, p3, p4, p5, p6⟩, q0, q1, q2, q3, q4, q5, q6⟩ := HCL.out _ hv) | (go_at_call 114; (with_reducible refine (HE2.out _ hv).mono ?_); rintro e wq ⟨rfl, hq⟩; have hv := below_up hv hq; obtain ⟨⟨p0, p1, p2, p3, p4, p5, p6⟩, q0, q1, q2, q3, q4, q5, q6⟩ := HCL.out _ hv) | (go_at_call 42; (with_reducible refine (HE3.out _ hv).mono ?_); rintro e wq ⟨rfl, hq⟩; have hv := below_up hv hq; obtain ⟨⟨p0, p1, p2, p3, p4, p5, p6⟩, q0, q1, q2, q3, q4, q5, q6⟩ := HCL.out _ hv) | (go_at_call 37; (with_reducible refine (HE4.out _ hv).mono ?_); rintro e wq ⟨rfl, hq⟩; have hv := below_up hv hq; obtain ⟨⟨p0, p1, p2, p3, p4, p5, p6⟩, q0, q1, q2, q3, q4, q5, q6⟩ := HCL.out _ hv) | (go_at_call 115; (with_reducible refine (HE5.out _ hv).mono ?_); rintro e wq ⟨rfl, hq⟩; have hv := below_up hv hq))
      go_ret
      exact ⟨ret_bool (by rw [HQ.out]; simp), below_up HBB.out hv⟩
     ·cases k4
      ·go_wp2_with (first | (go_at_call 113; (with_reducible refine (HE1.out _ hv).mono ?_); rintro e wq ⟨rfl, hq⟩; have hv := below_up hv hq; obtain ⟨⟨p0, p1, p2, p3, p4, p5, p6⟩, q0, q1, q2, q3, q4, q5, q6⟩ := HCL.out _ hv) | (go_at_call 114; (with_reducible refine (HE2.out _ hv).mono ?_); rintro e wq ⟨rfl, hq⟩; have hv := below_up hv hq; obtain ⟨⟨p0, p1, p2, p3, p4, p5, p6⟩, q0, q1, q2, q3, q4, q5, q6⟩ := HCL.out _ hv) | (go_at_call 42; (with_reducible refine (HE3.out _ hv).mono ?_); rintro e wq ⟨rfl, hq⟩; have hv := below_up hv hq; obtain ⟨⟨p0, p1, p2, p3, p4, p5, p6⟩, q0, q1, q2, q3, q4, q5, q6⟩ := HCL.out _ hv) | (go_at_call 37; (with_reducible refine (HE4.out _ hv).mono ?_); rintro e wq ⟨rfl, hq⟩; have hv := below_up hv hq; obtain ⟨⟨p0, p1, p2, p3, p4, p5, p6⟩, q0, q1, q2, q3, q4, q5, q6⟩ := HCL.out _ hv) | (go_at_call 115; (with_reducible refine (HE5.out _ hv).mono ?_); rintro e wq ⟨rfl, hq⟩; have hv := below_up hv hq))
       go_ret
       exact ⟨ret_bool (by rw [HQ.out]; simp), below_up HBB.out hv⟩
      ·go_wp2_with (first | (go_at_call 113; (with_reducible refine (HE1.out _ hv).mono ?_); rintro e wq ⟨rfl, hq⟩; have hv := below_up hv hq; obtain ⟨⟨p0, p1, p2, p3, p4, p5, p6⟩, q0, q1, q2, q3, q4, q5, q6⟩ := HCL.out _ hv) | (go_at_call 114; (with_reducible refine (HE2.out _ hv).mono ?_); rintro e wq ⟨rfl, hq⟩; have hv := below_up hv hq; obtain ⟨⟨p0, p1, p2, p3, p4, p5, p6⟩, q0, q1, q2, q3, q4, q5, q6⟩ := HCL.out _ hv) | (go_at_call 42; (with_reducible refine (HE3.out _ hv).mono ?_); rintro e wq ⟨rfl, hq⟩; have hv := below_up hv hq; obtain ⟨⟨p0, p1, p2, p3, p4, p5, p6⟩, q0, q1, q2, q3, q4, q5, q6⟩ := HCL.out _ hv) | (go_at_call 37; (with_reducible refine (HE4.out _ hv).mono ?_); rintro e wq ⟨rfl, hq⟩; have hv := below_up hv hq; obtain ⟨⟨p0, p1, p2, p3, p4, p5, p6⟩, q0, q1, q2, q3, q4, q5, q6⟩ := HCL.out _ hv) | (go_at_call 115; (with_reducible refine (HE5.out _ hv).mono ?_); rintro e wq ⟨rfl, hq⟩; have hv := below_up hv hq))
       go_ret
       exact ⟨ret_bool (by rw [HQ.out]; simp), below_up HBB.out hv⟩
end Go.Proofs.YthdiccdnggloiaaGreatDoor
