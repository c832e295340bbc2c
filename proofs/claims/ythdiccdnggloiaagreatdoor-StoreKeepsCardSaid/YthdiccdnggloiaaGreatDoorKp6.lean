/- Parts of the proof, no condition: StCpy, StMem, StHas, StWthS. -/
import Derived.Test.YthdiccdnggloiaaGreatDoorKp2
import Derived.Test.YthdiccdnggloiaaGreatDoorKp5
import Derived.Test.YthdiccdnggloiaaGreatDoorKp1
import Derived.Laws.Tables
import Derived.Laws.Rows
import Derived.Shelf.Abstract
import Derived.Test.YthdiccdnggloiaaGreatDoorKp3
import Derived.Deep.RegionHeld3
import Derived.Maps.RangeWalk
set_option maxRecDepth 100000
set_option maxHeartbeats 8000000
set_option linter.unusedSimpArgs false
set_option linter.unusedVariables false
namespace Go.Proofs.YthdiccdnggloiaaGreatDoor
open Go.RowKit Go.Sort Go.Shelf Go.Maps
theorem OwnV.down {w : World} {B B' k n : Nat} {e : TypeId} {v : Value} {xs : List Value} (h : OwnV w B e k v n xs) (hb : B' ≤ B) : OwnV w B' e k v n xs := by
 rcases h with h | ⟨g, cap, h, hc⟩
 ·exact .inl h
 ·exact .inr ⟨g, cap, h, hc.down hb⟩
theorem OwnV.next {V w3 : World} {B k n b i : Nat} {e : TypeId} {v u : Value} {xs : List Value} (h : OwnV V B e k v n xs) (hq : Below V.heap.size V w3) (hb : b < B) : OwnV (w3.setCell ⟨b, i, none⟩ u) B e k v n xs := by
 rcases h with h | ⟨g, cap, h, hc⟩
 ·exact .inl h
 ·refine .inr ⟨g, cap, h, (hc.keep hq).of_block (Below.heap_setCell w3 _ u g ?_)⟩
  have := hc.lt.1
  show g ≠ b
  omega
theorem OwnV.caps {w : World} {B k n ca : Nat} {e : TypeId} {a : Option Addr} {xs : List Value} (h : OwnV w B e k (.slice a n ca) n xs) : n ≤ ca ∧ ca ≤ 9223372036854775807 := by
 obtain ⟨a', ca', e1, h1, h2⟩ := h.form
 cases e1
 exact ⟨h1, h2⟩
structure StSz (s : Sto) : Prop where
 tz : ∀ t ∈ s.tiers, t.name.size ≤ 9223372036854775807
 fz : ∀ f ∈ s.files, f.dig.size ≤ 9223372036854775807 ∧ f.frm.size ≤ 9223372036854775807
 cz : ∀ c ∈ s.copies, c.dig.size ≤ 9223372036854775807 ∧ c.tier.size ≤ 9223372036854775807
 hz : ∀ d ∈ s.held, d.size ≤ 9223372036854775807
 bz : ∀ g ∈ s.bin, g.dig.size ≤ 9223372036854775807
theorem StIn.sz {w : World} {s : Sto} {a : StA} (h : StIn w s a) : StSz s := ⟨h.tz, h.fz, h.cz, h.hz, h.bz⟩
structure StOwn (w : World) (B : Nat) (s : Sto) (a : StA) : Prop where
 ti : OwnV w B 46 4 (.slice a.ta s.tiers.length a.tc) s.tiers.length (St.eT.flat s.tiers)
 fi : OwnV w B 30 4 (.slice a.fa s.files.length a.fc) s.files.length (St.eF.flat s.files)
 co : OwnV w B 74 4 (.slice a.ca s.copies.length a.cc) s.copies.length (St.eC.flat s.copies)
 he : OwnV w B 9 1 (.slice a.ha s.held.length a.hc) s.held.length (St.eS.flat s.held)
 bi : OwnV w B 112 2 (.slice a.ba s.bin.length a.bc) s.bin.length (St.eG.flat s.bin)
theorem RowE.ofV {α : Type} {E : Enc α} {w : World} {B ca : Nat} {e : TypeId} {a : Option Addr} {L : List α} (h : OwnV w B e E.k (.slice a L.length ca) L.length (E.flat L)) : RowE E w a L := by
 obtain ⟨a', ca', e1, _, _, hr⟩ := RowE.of_own h rfl
 cases e1
 exact hr
theorem StOwn.in_ {w : World} {B : Nat} {s : Sto} {a : StA} (h : StOwn w B s a) (z : StSz s) : StIn w s a :=
 ⟨RowE.ofV (E := St.eT) h.ti, RowE.ofV (E := St.eF) h.fi, RowE.ofV (E := St.eC) h.co, RowE.ofV (E := St.eS) h.he, RowE.ofV (E := St.eG) h.bi, h.ti.caps, h.fi.caps, h.co.caps, h.he.caps, h.bi.caps, z.tz, z.fz, z.cz, z.hz, z.bz⟩
theorem StOwn.down {w : World} {B B' : Nat} {s : Sto} {a : StA} (h : StOwn w B s a) (hb : B' ≤ B) : StOwn w B' s a := ⟨h.ti.down hb, h.fi.down hb, h.co.down hb, h.he.down hb, h.bi.down hb⟩
theorem StOwn.keep {w w' : World} {B : Nat} {s : Sto} {a : StA} (h : StOwn w B s a) (hb : Below w.heap.size w w') : StOwn w' B s a := ⟨h.ti.keep hb, h.fi.keep hb, h.co.keep hb, h.he.keep hb, h.bi.keep hb⟩
def StLen (s : Sto) : Prop := s.tiers.length ≤ 8 ∧ s.files.length ≤ 500 ∧ s.copies.length ≤ 4000 ∧ s.held.length ≤ 500 ∧ s.bin.length ≤ 500
theorem Blk.seven {w : World} {b : Nat} {t : TypeId} {x0 x1 x2 x3 x4 x5 x6 : Value} (h : Blk w b #[x0, x1, x2, x3, x4, x5, x6] t) : w.cell? ⟨b, 0, none⟩ = some x0 ∧ w.cell? ⟨b, 1, none⟩ = some x1 ∧ w.cell? ⟨b, 2, none⟩ = some x2 ∧ w.cell? ⟨b, 3, none⟩ = some x3 ∧ w.cell? ⟨b, 4, none⟩ = some x4 ∧ w.cell? ⟨b, 5, none⟩ = some x5 ∧ w.cell? ⟨b, 6, none⟩ = some x6 :=
 ⟨by rw [h.cell]; rfl, by rw [h.cell]; rfl, by rw [h.cell]; rfl, by rw [h.cell]; rfl, by rw [h.cell]; rfl, by rw [h.cell]; rfl, by rw [h.cell]; rfl⟩
theorem infoSto : (Tryz.prog.info? 28).map (·.size) = some 7 := by kernel_rfl
theorem OwnV.setRow {w : World} {B k n b : Nat} {e : TypeId} {v : Value} {xs : List Value} (h : OwnV w B e k v n xs) (hb : b < B) (cs : Array Value) : OwnV (w.setRow b cs) B e k v n xs := by
 rcases h with h | ⟨g, cap, h, hc⟩
 ·exact .inl h
 ·refine .inr ⟨g, cap, h, hc.of_block (setRow_other w b g cs ?_)⟩
  have := hc.lt.1
  omega
theorem StOwn.setRow {w : World} {B b : Nat} {s : Sto} {a : StA} (h : StOwn w B s a) (hb : b < B) (cs : Array Value) : StOwn (w.setRow b cs) B s a := ⟨h.ti.setRow hb cs, h.fi.setRow hb cs, h.co.setRow hb cs, h.he.setRow hb cs, h.bi.setRow hb cs⟩
def CpyPost (w : World) (s : Sto) (e : Ending) (w' : World) : Prop := ∃ a' : StA, e = .returned (.agg #[.int .i64 s.least, .int .i64 s.wait, .slice a'.ta s.tiers.length a'.tc, .slice a'.fa s.files.length a'.fc, .slice a'.ca s.copies.length a'.cc, .slice a'.ha s.held.length a'.hc, .slice a'.ba s.bin.length a'.bc]) ∧ StOwn w' w.heap.size s a' ∧ Below w.heap.size w w'
theorem copyStore_is (s : Sto) (a : StA) (w : World) (hI : StIn w s a) (hn : StLen s) : Calls Tryz.prog 51 #[.agg #[.int .i64 s.least, .int .i64 s.wait, .slice a.ta s.tiers.length a.tc, .slice a.fa s.files.length a.fc, .slice a.ca s.copies.length a.cc, .slice a.ha s.held.length a.hc, .slice a.ba s.bin.length a.bc]] w (CpyPost w s) := by
 obtain ⟨n2, n3, n4, n5, n6⟩ := hn
 have z := Lib.hid hI.sz
 have HC2 : Hid (∀ V, Below w.heap.size w V → Calls Tryz.prog 135 #[.slice a.ta s.tiers.length a.tc] V (ClnPost St.eT 46 V s.tiers)) := Lib.hid fun V hV => clnT_is a.ta a.tc V (hI.ti.keep hV) (by omega)
 have HC3 : Hid (∀ V, Below w.heap.size w V → Calls Tryz.prog 137 #[.slice a.fa s.files.length a.fc] V (ClnPost St.eF 30 V s.files)) := Lib.hid fun V hV => clnF_is a.fa a.fc V (hI.fi.keep hV) (by omega)
 have HC4 : Hid (∀ V, Below w.heap.size w V → Calls Tryz.prog 139 #[.slice a.ca s.copies.length a.cc] V (ClnPost St.eC 74 V s.copies)) := Lib.hid fun V hV => clnC_is a.ca a.cc V (hI.co.keep hV) (by omega)
 have HC5 : Hid (∀ V, Below w.heap.size w V → Calls Tryz.prog 140 #[.slice a.ha s.held.length a.hc] V (ClnPost St.eS 9 V s.held)) := Lib.hid fun V hV => clnS_is a.ha a.hc V (hI.he.keep hV) (by omega)
 have HC6 : Hid (∀ V, Below w.heap.size w V → Calls Tryz.prog 141 #[.slice a.ba s.bin.length a.bc] V (ClnPost St.eG 112 V s.bin)) := Lib.hid fun V hV => clnG_is a.ba a.bc V (hI.bi.keep hV) (by omega)
 clear hI
 obtain ⟨W1, hW1, hP, hz1, hB1⟩ := box w #[.int .i64 s.least, .int .i64 s.wait, .slice a.ta s.tiers.length a.tc, .slice a.fa s.files.length a.fc, .slice a.ca s.copies.length a.cc, .slice a.ha s.held.length a.hc, .slice a.ba s.bin.length a.bc] 28
 obtain ⟨W2, hW2, hQ, hz2, hB2⟩ := box W1 #[.int .i64 0, .int .i64 0, .slice none 0 0, .slice none 0 0, .slice none 0 0, .slice none 0 0, .slice none 0 0] 28
 have HW1 := Lib.hid hW1; have HW2 := Lib.hid hW2
 have hP := hP.keep hB2
 rw [hz1] at hQ hz2
 have hB := below_up hB1 hB2
 have hs : w.heap.size + 2 ≤ W2.heap.size := by omega
 clear hW1 hW2 hz1 hz2 hB1 hB2
 go_enter Tryz.func51, Tryz.ntmps51
 go_upto_region 1 with fail
 rw [HW1.out, HW2.out]
 obtain ⟨q0, q1, q2, q3, q4, q5, q6⟩ := hP.seven
 have qf := hP.free
 go_wp2_with fail
 go_at_call 135
 refine (HC2.out _ hB).mono ?_
 rintro e w2 ⟨b2, d2, rfl, ho, hq⟩
 obtain ⟨l1, l2⟩ := ho.caps
 clear q0 q1 q2 q3 q4 q5 q6 qf
 obtain ⟨q0, q1, q2, q3, q4, q5, q6⟩ := (hP.keep hq).seven
 have qf := (hP.keep hq).free
 go_upto_region 2 with (go_at_call 134; (with_reducible refine (clnT_clip _ _ _ _ l1 l2).mono ?_); rintro e wc ⟨rfl, rfl⟩)
 have hPs := (hP.keep hq).set 2 (.slice b2 s.tiers.length s.tiers.length)
 have hQs := (hQ.keep hq).setOther (a := ⟨w.heap.size, 2, none⟩) (by simp) (.slice b2 s.tiers.length s.tiers.length)
 have hBs := (below_up hB hq).setCell (p := ⟨w.heap.size, 2, none⟩) (by simp) (.slice b2 s.tiers.length s.tiers.length)
 have o2 := ((ho.clip.down hs).next (i := 2) (b := w.heap.size) (u := .slice b2 s.tiers.length s.tiers.length) (Below.refl _ _) (by omega))
 have hs' : w.heap.size + 2 ≤ (w2.setCell ⟨w.heap.size, 2, none⟩ (.slice b2 s.tiers.length s.tiers.length)).heap.size := by have := hq.size; simp; omega
 obtain ⟨V2, hV2⟩ : ∃ V, w2.setCell ⟨w.heap.size, 2, none⟩ (.slice b2 s.tiers.length s.tiers.length) = V := ⟨_, rfl⟩
 rw [hV2] at hPs hQs hBs hs' o2 ⊢
 clear q0 q1 q2 q3 q4 q5 q6 qf hV2 hP hQ hB hs ho hq l1 l2
 have hP : Blk V2 w.heap.size #[.int .i64 s.least, .int .i64 s.wait, .slice b2 s.tiers.length s.tiers.length, .slice a.fa s.files.length a.fc, .slice a.ca s.copies.length a.cc, .slice a.ha s.held.length a.hc, .slice a.ba s.bin.length a.bc] 28 := hPs
 have hQ := hQs; have hB := hBs; have hs := hs'
 clear hPs hQs hBs hs'
 obtain ⟨q0, q1, q2, q3, q4, q5, q6⟩ := hP.seven
 have qf := hP.free
 go_wp2_with fail
 go_at_call 137
 refine (HC3.out _ hB).mono ?_
 rintro e w3 ⟨b3, d3, rfl, ho, hq⟩
 obtain ⟨l1, l2⟩ := ho.caps
 clear q0 q1 q2 q3 q4 q5 q6 qf
 obtain ⟨q0, q1, q2, q3, q4, q5, q6⟩ := (hP.keep hq).seven
 have qf := (hP.keep hq).free
 go_upto_region 3 with (go_at_call 136; (with_reducible refine (clnF_clip _ _ _ _ l1 l2).mono ?_); rintro e wc ⟨rfl, rfl⟩)
 have hPs := (hP.keep hq).set 3 (.slice b3 s.files.length s.files.length)
 have hQs := (hQ.keep hq).setOther (a := ⟨w.heap.size, 3, none⟩) (by simp) (.slice b3 s.files.length s.files.length)
 have hBs := (below_up hB hq).setCell (p := ⟨w.heap.size, 3, none⟩) (by simp) (.slice b3 s.files.length s.files.length)
 have o3 := ((ho.clip.down hs).next (i := 3) (b := w.heap.size) (u := .slice b3 s.files.length s.files.length) (Below.refl _ _) (by omega))
 have o2 := o2.next (i := 3) (b := w.heap.size) (u := .slice b3 s.files.length s.files.length) hq (by omega)
 have hs' : w.heap.size + 2 ≤ (w3.setCell ⟨w.heap.size, 3, none⟩ (.slice b3 s.files.length s.files.length)).heap.size := by have := hq.size; simp; omega
 obtain ⟨V3, hV3⟩ : ∃ V, w3.setCell ⟨w.heap.size, 3, none⟩ (.slice b3 s.files.length s.files.length) = V := ⟨_, rfl⟩
 rw [hV3] at hPs hQs hBs hs' o2 o3 ⊢
 clear q0 q1 q2 q3 q4 q5 q6 qf hV3 hP hQ hB hs ho hq l1 l2
 have hP : Blk V3 w.heap.size #[.int .i64 s.least, .int .i64 s.wait, .slice b2 s.tiers.length s.tiers.length, .slice b3 s.files.length s.files.length, .slice a.ca s.copies.length a.cc, .slice a.ha s.held.length a.hc, .slice a.ba s.bin.length a.bc] 28 := hPs
 have hQ := hQs; have hB := hBs; have hs := hs'
 clear hPs hQs hBs hs'
 obtain ⟨q0, q1, q2, q3, q4, q5, q6⟩ := hP.seven
 have qf := hP.free
 go_wp2_with fail
 go_at_call 139
 refine (HC4.out _ hB).mono ?_
 rintro e w4 ⟨b4, d4, rfl, ho, hq⟩
 obtain ⟨l1, l2⟩ := ho.caps
 clear q0 q1 q2 q3 q4 q5 q6 qf
 obtain ⟨q0, q1, q2, q3, q4, q5, q6⟩ := (hP.keep hq).seven
 have qf := (hP.keep hq).free
 go_upto_region 4 with (go_at_call 138; (with_reducible refine (clnC_clip _ _ _ _ l1 l2).mono ?_); rintro e wc ⟨rfl, rfl⟩)
 have hPs := (hP.keep hq).set 4 (.slice b4 s.copies.length s.copies.length)
 have hQs := (hQ.keep hq).setOther (a := ⟨w.heap.size, 4, none⟩) (by simp) (.slice b4 s.copies.length s.copies.length)
 have hBs := (below_up hB hq).setCell (p := ⟨w.heap.size, 4, none⟩) (by simp) (.slice b4 s.copies.length s.copies.length)
 have o4 := ((ho.clip.down hs).next (i := 4) (b := w.heap.size) (u := .slice b4 s.copies.length s.copies.length) (Below.refl _ _) (by omega))
 have o2 := o2.next (i := 4) (b := w.heap.size) (u := .slice b4 s.copies.length s.copies.length) hq (by omega)
 have o3 := o3.next (i := 4) (b := w.heap.size) (u := .slice b4 s.copies.length s.copies.length) hq (by omega)
 have hs' : w.heap.size + 2 ≤ (w4.setCell ⟨w.heap.size, 4, none⟩ (.slice b4 s.copies.length s.copies.length)).heap.size := by have := hq.size; simp; omega
 obtain ⟨V4, hV4⟩ : ∃ V, w4.setCell ⟨w.heap.size, 4, none⟩ (.slice b4 s.copies.length s.copies.length) = V := ⟨_, rfl⟩
 rw [hV4] at hPs hQs hBs hs' o2 o3 o4 ⊢
 clear q0 q1 q2 q3 q4 q5 q6 qf hV4 hP hQ hB hs ho hq l1 l2
 have hP : Blk V4 w.heap.size #[.int .i64 s.least, .int .i64 s.wait, .slice b2 s.tiers.length s.tiers.length, .slice b3 s.files.length s.files.length, .slice b4 s.copies.length s.copies.length, .slice a.ha s.held.length a.hc, .slice a.ba s.bin.length a.bc] 28 := hPs
 have hQ := hQs; have hB := hBs; have hs := hs'
 clear hPs hQs hBs hs'
 obtain ⟨q0, q1, q2, q3, q4, q5, q6⟩ := hP.seven
 have qf := hP.free
 go_wp2_with fail
 go_at_call 140
 refine (HC5.out _ hB).mono ?_
 rintro e w5 ⟨b5, d5, rfl, ho, hq⟩
 obtain ⟨l1, l2⟩ := ho.caps
 clear q0 q1 q2 q3 q4 q5 q6 qf
 obtain ⟨q0, q1, q2, q3, q4, q5, q6⟩ := (hP.keep hq).seven
 have qf := (hP.keep hq).free
 go_upto_region 5 with (go_at_call 104; (with_reducible refine (clnS_clip _ _ _ _ l1 l2).mono ?_); rintro e wc ⟨rfl, rfl⟩)
 have hPs := (hP.keep hq).set 5 (.slice b5 s.held.length s.held.length)
 have hQs := (hQ.keep hq).setOther (a := ⟨w.heap.size, 5, none⟩) (by simp) (.slice b5 s.held.length s.held.length)
 have hBs := (below_up hB hq).setCell (p := ⟨w.heap.size, 5, none⟩) (by simp) (.slice b5 s.held.length s.held.length)
 have o5 := ((ho.clip.down hs).next (i := 5) (b := w.heap.size) (u := .slice b5 s.held.length s.held.length) (Below.refl _ _) (by omega))
 have o2 := o2.next (i := 5) (b := w.heap.size) (u := .slice b5 s.held.length s.held.length) hq (by omega)
 have o3 := o3.next (i := 5) (b := w.heap.size) (u := .slice b5 s.held.length s.held.length) hq (by omega)
 have o4 := o4.next (i := 5) (b := w.heap.size) (u := .slice b5 s.held.length s.held.length) hq (by omega)
 have hs' : w.heap.size + 2 ≤ (w5.setCell ⟨w.heap.size, 5, none⟩ (.slice b5 s.held.length s.held.length)).heap.size := by have := hq.size; simp; omega
 obtain ⟨V5, hV5⟩ : ∃ V, w5.setCell ⟨w.heap.size, 5, none⟩ (.slice b5 s.held.length s.held.length) = V := ⟨_, rfl⟩
 rw [hV5] at hPs hQs hBs hs' o2 o3 o4 o5 ⊢
 clear q0 q1 q2 q3 q4 q5 q6 qf hV5 hP hQ hB hs ho hq l1 l2
 have hP : Blk V5 w.heap.size #[.int .i64 s.least, .int .i64 s.wait, .slice b2 s.tiers.length s.tiers.length, .slice b3 s.files.length s.files.length, .slice b4 s.copies.length s.copies.length, .slice b5 s.held.length s.held.length, .slice a.ba s.bin.length a.bc] 28 := hPs
 have hQ := hQs; have hB := hBs; have hs := hs'
 clear hPs hQs hBs hs'
 obtain ⟨q0, q1, q2, q3, q4, q5, q6⟩ := hP.seven
 have qf := hP.free
 go_wp2_with fail
 go_at_call 141
 refine (HC6.out _ hB).mono ?_
 rintro e w6 ⟨b6, d6, rfl, ho, hq⟩
 obtain ⟨l1, l2⟩ := ho.caps
 clear q0 q1 q2 q3 q4 q5 q6 qf
 obtain ⟨q0, q1, q2, q3, q4, q5, q6⟩ := (hP.keep hq).seven
 have qf := (hP.keep hq).free
 go_upto_region 6 with (go_at_call 67; (with_reducible refine (clnG_clip _ _ _ _ l1 l2).mono ?_); rintro e wc ⟨rfl, rfl⟩)
 have hPs := (hP.keep hq).set 6 (.slice b6 s.bin.length s.bin.length)
 have hQs := (hQ.keep hq).setOther (a := ⟨w.heap.size, 6, none⟩) (by simp) (.slice b6 s.bin.length s.bin.length)
 have hBs := (below_up hB hq).setCell (p := ⟨w.heap.size, 6, none⟩) (by simp) (.slice b6 s.bin.length s.bin.length)
 have o6 := ((ho.clip.down hs).next (i := 6) (b := w.heap.size) (u := .slice b6 s.bin.length s.bin.length) (Below.refl _ _) (by omega))
 have o2 := o2.next (i := 6) (b := w.heap.size) (u := .slice b6 s.bin.length s.bin.length) hq (by omega)
 have o3 := o3.next (i := 6) (b := w.heap.size) (u := .slice b6 s.bin.length s.bin.length) hq (by omega)
 have o4 := o4.next (i := 6) (b := w.heap.size) (u := .slice b6 s.bin.length s.bin.length) hq (by omega)
 have o5 := o5.next (i := 6) (b := w.heap.size) (u := .slice b6 s.bin.length s.bin.length) hq (by omega)
 have hs' : w.heap.size + 2 ≤ (w6.setCell ⟨w.heap.size, 6, none⟩ (.slice b6 s.bin.length s.bin.length)).heap.size := by have := hq.size; simp; omega
 obtain ⟨V6, hV6⟩ : ∃ V, w6.setCell ⟨w.heap.size, 6, none⟩ (.slice b6 s.bin.length s.bin.length) = V := ⟨_, rfl⟩
 rw [hV6] at hPs hQs hBs hs' o2 o3 o4 o5 o6 ⊢
 clear q0 q1 q2 q3 q4 q5 q6 qf hV6 hP hQ hB hs ho hq l1 l2
 have hP : Blk V6 w.heap.size #[.int .i64 s.least, .int .i64 s.wait, .slice b2 s.tiers.length s.tiers.length, .slice b3 s.files.length s.files.length, .slice b4 s.copies.length s.copies.length, .slice b5 s.held.length s.held.length, .slice b6 s.bin.length s.bin.length] 28 := hPs
 have hQ := hQs; have hB := hBs; have hs := hs'
 clear hPs hQs hBs hs'
 obtain ⟨q0, q1, q2, q3, q4, q5, q6⟩ := hP.seven
 go_wp2_with (refine wpList_store_row rfl 28 _ _ rfl (w.heap.size + 1) #[.int .i64 s.least, .int .i64 s.wait, .slice b2 s.tiers.length s.tiers.length, .slice b3 s.files.length s.files.length, .slice b4 s.copies.length s.copies.length, .slice b5 s.held.length s.held.length, .slice b6 s.bin.length s.bin.length] rfl rfl 28 _ hQ infoSto rfl (by simp [Value.oneCell']) ?_)
 have hrow := setRow_heap V6 (w.heap.size + 1) _ #[.int .i64 s.least, .int .i64 s.wait, .slice b2 s.tiers.length s.tiers.length, .slice b3 s.files.length s.files.length, .slice b4 s.copies.length s.copies.length, .slice b5 s.held.length s.held.length, .slice b6 s.bin.length s.bin.length] 28 (0, 0) hQ
 refine bodyPost_ret (v := .agg #[.int .i64 s.least, .int .i64 s.wait, .slice b2 s.tiers.length s.tiers.length, .slice b3 s.files.length s.files.length, .slice b4 s.copies.length s.copies.length, .slice b5 s.held.length s.held.length, .slice b6 s.bin.length s.bin.length]) (results_cell_row rfl _ _ (w.heap.size + 1) 28 _ (0, 0) _ rfl hrow Tryz.underlying28 rfl infoSto) rfl ⟨⟨b2, s.tiers.length, b3, s.files.length, b4, s.copies.length, b5, s.held.length, b6, s.bin.length⟩, rfl, ⟨(o2.setRow (by omega) _).down (by omega), (o3.setRow (by omega) _).down (by omega), (o4.setRow (by omega) _).down (by omega), (o5.setRow (by omega) _).down (by omega), (o6.setRow (by omega) _).down (by omega)⟩, below_setRow hB (by omega) _⟩
theorem twin_is (s : Sto) (a : StA) (w : World) (hI : StIn w s a) (hn : StLen s) : Calls Tryz.prog 81 #[.agg #[.int .i64 s.least, .int .i64 s.wait, .slice a.ta s.tiers.length a.tc, .slice a.fa s.files.length a.fc, .slice a.ca s.copies.length a.cc, .slice a.ha s.held.length a.hc, .slice a.ba s.bin.length a.bc]] w (CpyPost w s) := by
 obtain ⟨n2, n3, n4, n5, n6⟩ := hn
 have z := Lib.hid hI.sz
 have HC2 : Hid (∀ V, Below w.heap.size w V → Calls Tryz.prog 135 #[.slice a.ta s.tiers.length a.tc] V (ClnPost St.eT 46 V s.tiers)) := Lib.hid fun V hV => clnT_is a.ta a.tc V (hI.ti.keep hV) (by omega)
 have HC3 : Hid (∀ V, Below w.heap.size w V → Calls Tryz.prog 137 #[.slice a.fa s.files.length a.fc] V (ClnPost St.eF 30 V s.files)) := Lib.hid fun V hV => clnF_is a.fa a.fc V (hI.fi.keep hV) (by omega)
 have HC4 : Hid (∀ V, Below w.heap.size w V → Calls Tryz.prog 139 #[.slice a.ca s.copies.length a.cc] V (ClnPost St.eC 74 V s.copies)) := Lib.hid fun V hV => clnC_is a.ca a.cc V (hI.co.keep hV) (by omega)
 have HC5 : Hid (∀ V, Below w.heap.size w V → Calls Tryz.prog 140 #[.slice a.ha s.held.length a.hc] V (ClnPost St.eS 9 V s.held)) := Lib.hid fun V hV => clnS_is a.ha a.hc V (hI.he.keep hV) (by omega)
 have HC6 : Hid (∀ V, Below w.heap.size w V → Calls Tryz.prog 141 #[.slice a.ba s.bin.length a.bc] V (ClnPost St.eG 112 V s.bin)) := Lib.hid fun V hV => clnG_is a.ba a.bc V (hI.bi.keep hV) (by omega)
 clear hI
 obtain ⟨W1, hW1, hP, hz1, hB1⟩ := box w #[.int .i64 s.least, .int .i64 s.wait, .slice a.ta s.tiers.length a.tc, .slice a.fa s.files.length a.fc, .slice a.ca s.copies.length a.cc, .slice a.ha s.held.length a.hc, .slice a.ba s.bin.length a.bc] 28
 obtain ⟨W2, hW2, hQ, hz2, hB2⟩ := box W1 #[.int .i64 0, .int .i64 0, .slice none 0 0, .slice none 0 0, .slice none 0 0, .slice none 0 0, .slice none 0 0] 28
 have HW1 := Lib.hid hW1; have HW2 := Lib.hid hW2
 have hP := hP.keep hB2
 rw [hz1] at hQ hz2
 have hB := below_up hB1 hB2
 have hs : w.heap.size + 2 ≤ W2.heap.size := by omega
 clear hW1 hW2 hz1 hz2 hB1 hB2
 go_enter Tryz.func81, Tryz.ntmps81
 go_upto_region 1 with fail
 rw [HW1.out, HW2.out]
 have hHeld : (W2.drew).cell? ⟨w.heap.size, 2, none⟩ = some (.slice a.ta s.tiers.length a.tc) ∧ (W2.drew).cell? ⟨w.heap.size, 3, none⟩ = some (.slice a.fa s.files.length a.fc) ∧ (W2.drew).cell? ⟨w.heap.size, 4, none⟩ = some (.slice a.ca s.copies.length a.cc) ∧ (W2.drew).cell? ⟨w.heap.size, 5, none⟩ = some (.slice a.ha s.held.length a.hc) ∧ (W2.drew).cell? ⟨w.heap.size, 6, none⟩ = some (.slice a.ba s.bin.length a.bc) := hP.seven.2.2
 have hBd := hB.drew
 have hPd := hP.drew; have hQd := hQ.drew
 have hsz : w.heap.size + 2 ≤ (W2.drew).heap.size := hs
 refine wp_region_until (fun w' => w'.cell? ⟨w.heap.size, 2, none⟩ = some (.slice a.ta s.tiers.length a.tc) ∧ w'.cell? ⟨w.heap.size, 3, none⟩ = some (.slice a.fa s.files.length a.fc) ∧ w'.cell? ⟨w.heap.size, 4, none⟩ = some (.slice a.ca s.copies.length a.cc) ∧ w'.cell? ⟨w.heap.size, 5, none⟩ = some (.slice a.ha s.held.length a.hc) ∧ w'.cell? ⟨w.heap.size, 6, none⟩ = some (.slice a.ba s.bin.length a.bc)) 16 (by kernel_rfl) ?_
 refine anyM_take (i := 0) (v := ?_) rfl rfl (by kernel_rfl) (by decide) (by kernel_rfl) (by kernel_rfl) (by kernel_rfl) (fun _ _ _ h => h) (Or.inl ⟨by rfl, ?_⟩) (by rfl) (by assumption) ?_
 rotate_left
 ·(intro w hSw; (try dsimp only at hSw); (try obtain ⟨hs1, hs2, hs3, hs4, hs5⟩ := hSw); go_simp; try (with_reducible rfl))
 try go_frame
 refine anyM_take (i := 1) (v := ?_) rfl rfl (by kernel_rfl) (by decide) (by kernel_rfl) (by kernel_rfl) (by kernel_rfl) (fun _ _ _ h => h) (Or.inl ⟨by rfl, ?_⟩) (by rfl) (by assumption) ?_
 rotate_left
 ·(intro w hSw; (try dsimp only at hSw); (try obtain ⟨hs1, hs2, hs3, hs4, hs5⟩ := hSw); go_simp; try (with_reducible rfl))
 try go_frame
 refine anyM_take (i := 3) (v := ?_) rfl rfl (by kernel_rfl) (by decide) (by kernel_rfl) (by kernel_rfl) (by kernel_rfl) (fun _ _ _ h => h) (Or.inl ⟨by rfl, ?_⟩) (by rfl) (by assumption) ?_
 rotate_left
 ·(intro w hSw; (try dsimp only at hSw); (try obtain ⟨hs1, hs2, hs3, hs4, hs5⟩ := hSw); go_simp; try (with_reducible rfl))
 try go_frame
 refine anyM_take (i := 4) (v := ?_) rfl rfl (by kernel_rfl) (by decide) (by kernel_rfl) (by kernel_rfl) (by kernel_rfl) (fun _ _ _ h => h) (Or.inl ⟨by rfl, ?_⟩) (by rfl) (by assumption) ?_
 rotate_left
 ·(intro w hSw; (try dsimp only at hSw); (try obtain ⟨hs1, hs2, hs3, hs4, hs5⟩ := hSw); go_simp; try (with_reducible rfl))
 try go_frame
 refine anyM_take (i := 6) (v := ?_) rfl rfl (by kernel_rfl) (by decide) (by kernel_rfl) (by kernel_rfl) (by kernel_rfl) (fun _ _ _ h => h) (Or.inl ⟨by rfl, ?_⟩) (by rfl) (by assumption) ?_
 rotate_left
 ·(intro w hSw; (try dsimp only at hSw); (try obtain ⟨hs1, hs2, hs3, hs4, hs5⟩ := hSw); go_simp; try (with_reducible rfl))
 try go_frame
 refine anyM_take (i := 7) (v := ?_) rfl rfl (by kernel_rfl) (by decide) (by kernel_rfl) (by kernel_rfl) (by kernel_rfl) (fun _ _ _ h => h) (Or.inl ⟨by rfl, ?_⟩) (by rfl) (by assumption) ?_
 rotate_left
 ·(intro w hSw; (try dsimp only at hSw); (try obtain ⟨hs1, hs2, hs3, hs4, hs5⟩ := hSw); go_simp; try (with_reducible rfl))
 try go_frame
 refine anyM_take (i := 9) (v := ?_) rfl rfl (by kernel_rfl) (by decide) (by kernel_rfl) (by kernel_rfl) (by kernel_rfl) (fun _ _ _ h => h) (Or.inl ⟨by rfl, ?_⟩) (by rfl) (by assumption) ?_
 rotate_left
 ·(intro w hSw; (try dsimp only at hSw); (try obtain ⟨hs1, hs2, hs3, hs4, hs5⟩ := hSw); go_simp; try (with_reducible rfl))
 try go_frame
 refine anyM_take (i := 10) (v := ?_) rfl rfl (by kernel_rfl) (by decide) (by kernel_rfl) (by kernel_rfl) (by kernel_rfl) (fun _ _ _ h => h) (Or.inl ⟨by rfl, ?_⟩) (by rfl) (by assumption) ?_
 rotate_left
 ·(intro w hSw; (try dsimp only at hSw); (try obtain ⟨hs1, hs2, hs3, hs4, hs5⟩ := hSw); go_simp; try (with_reducible rfl))
 try go_frame
 refine anyM_take (i := 12) (v := ?_) rfl rfl (by kernel_rfl) (by decide) (by kernel_rfl) (by kernel_rfl) (by kernel_rfl) (fun _ _ _ h => h) (Or.inl ⟨by rfl, ?_⟩) (by rfl) (by assumption) ?_
 rotate_left
 ·(intro w hSw; (try dsimp only at hSw); (try obtain ⟨hs1, hs2, hs3, hs4, hs5⟩ := hSw); go_simp; try (with_reducible rfl))
 try go_frame
 refine anyM_take (i := 13) (v := ?_) rfl rfl (by kernel_rfl) (by decide) (by kernel_rfl) (by kernel_rfl) (by kernel_rfl) (fun _ _ _ h => h) (Or.inl ⟨by rfl, ?_⟩) (by rfl) (by assumption) ?_
 rotate_left
 ·(intro w hSw; (try dsimp only at hSw); (try obtain ⟨hs1, hs2, hs3, hs4, hs5⟩ := hSw); go_simp; try (with_reducible rfl))
 try go_frame
 refine anyM_ready (rs := [2]) (by kernel_rfl) (by simp) ?_
 refine ReadyM.cons rfl (fun K hK => ?_) ReadyM.nil
 go_simp
 refine (HC2.out _ hBd).mono ?_
 rintro e w2 ⟨b2, d2, rfl, o2, hq2⟩; have o2 := o2.down hsz
 have hPd := hPd.keep hq2; have hQd := hQd.keep hq2
 have hBd := below_up hBd hq2
 have hsz := Nat.le_trans hsz hq2.size
 have hHeld := hPd.seven.2.2
 refine hK.out _ _ (fun _ => hHeld) ?_
 clear hK K
 try go_frame
 refine anyM_take (i := 15) (v := ?_) rfl rfl (by kernel_rfl) (by decide) (by kernel_rfl) (by kernel_rfl) (by kernel_rfl) (fun _ _ _ h => h) (Or.inl ⟨by rfl, ?_⟩) (by rfl) (by assumption) ?_
 rotate_left
 ·(intro w hSw; (try dsimp only at hSw); (try obtain ⟨hs1, hs2, hs3, hs4, hs5⟩ := hSw); go_simp; try (with_reducible rfl))
 try go_frame
 refine anyM_ready (rs := [5]) (by kernel_rfl) (by simp) ?_
 refine ReadyM.cons rfl (fun K hK => ?_) ReadyM.nil
 go_simp
 refine (HC3.out _ hBd).mono ?_
 rintro e w3 ⟨b3, d3, rfl, o3, hq3⟩; have o3 := o3.down hsz
 have hPd := hPd.keep hq3; have hQd := hQd.keep hq3
 have hBd := below_up hBd hq3
 have hsz := Nat.le_trans hsz hq3.size
 have hHeld := hPd.seven.2.2
 refine hK.out _ _ (fun _ => hHeld) ?_
 clear hK K
 try go_frame
 refine anyM_ready (rs := [8]) (by kernel_rfl) (by simp) ?_
 refine ReadyM.cons rfl (fun K hK => ?_) ReadyM.nil
 go_simp
 refine (HC4.out _ hBd).mono ?_
 rintro e w4 ⟨b4, d4, rfl, o4, hq4⟩; have o4 := o4.down hsz
 have hPd := hPd.keep hq4; have hQd := hQd.keep hq4
 have hBd := below_up hBd hq4
 have hsz := Nat.le_trans hsz hq4.size
 have hHeld := hPd.seven.2.2
 refine hK.out _ _ (fun _ => hHeld) ?_
 clear hK K
 try go_frame
 refine anyM_ready (rs := [11]) (by kernel_rfl) (by simp) ?_
 refine ReadyM.cons rfl (fun K hK => ?_) ReadyM.nil
 go_simp
 refine (HC5.out _ hBd).mono ?_
 rintro e w5 ⟨b5, d5, rfl, o5, hq5⟩; have o5 := o5.down hsz
 have hPd := hPd.keep hq5; have hQd := hQd.keep hq5
 have hBd := below_up hBd hq5
 have hsz := Nat.le_trans hsz hq5.size
 have hHeld := hPd.seven.2.2
 refine hK.out _ _ (fun _ => hHeld) ?_
 clear hK K
 try go_frame
 refine anyM_ready (rs := [14]) (by kernel_rfl) (by simp) ?_
 refine ReadyM.cons rfl (fun K hK => ?_) ReadyM.nil
 go_simp
 refine (HC6.out _ hBd).mono ?_
 rintro e w6 ⟨b6, d6, rfl, o6, hq6⟩; have o6 := o6.down hsz
 have hPd := hPd.keep hq6; have hQd := hQd.keep hq6
 have hBd := below_up hBd hq6
 have hsz := Nat.le_trans hsz hq6.size
 have hHeld := hPd.seven.2.2
 refine hK.out _ _ (fun _ => hHeld) ?_
 clear hK K
 try go_frame
 have o2 := o2.keep hq3
 have o2 := o2.keep hq4
 have o2 := o2.keep hq5
 have o2 := o2.keep hq6
 have o3 := o3.keep hq4
 have o3 := o3.keep hq5
 have o3 := o3.keep hq6
 have o4 := o4.keep hq5
 have o4 := o4.keep hq6
 have o5 := o5.keep hq6
 clear hHeld
 obtain ⟨y0, y1, y2, y3, y4, y5, y6⟩ := hPd.seven
 have yf := hPd.free
 refine anyM_ready (rs := [16]) (by kernel_rfl) (by simp) ?_
 refine ReadyM.cons rfl (fun K hK => ?_) ReadyM.nil
 go_simp
 refine hK.out _ _ (fun h => absurd h (by simp)) ?_
 clear hK K y0 y1 y2 y3 y4 y5 y6 yf
 try go_frame
 have hPs := hPd.set 2 (.slice b2 s.tiers.length d2)
 have hQs := hQd.setOther (a := ⟨w.heap.size, 2, none⟩) (by simp) (.slice b2 s.tiers.length d2)
 have hBs := hBd.setCell (p := ⟨w.heap.size, 2, none⟩) (by simp) (.slice b2 s.tiers.length d2)
 have o2 := o2.next (i := 2) (b := w.heap.size) (u := .slice b2 s.tiers.length d2) (Below.refl _ _) (by omega)
 have o3 := o3.next (i := 2) (b := w.heap.size) (u := .slice b2 s.tiers.length d2) (Below.refl _ _) (by omega)
 have o4 := o4.next (i := 2) (b := w.heap.size) (u := .slice b2 s.tiers.length d2) (Below.refl _ _) (by omega)
 have o5 := o5.next (i := 2) (b := w.heap.size) (u := .slice b2 s.tiers.length d2) (Below.refl _ _) (by omega)
 have o6 := o6.next (i := 2) (b := w.heap.size) (u := .slice b2 s.tiers.length d2) (Below.refl _ _) (by omega)
 have hsz := show w.heap.size + 2 ≤ (w6.setCell ⟨w.heap.size, 2, none⟩ (.slice b2 s.tiers.length d2)).heap.size by simp; omega
 generalize w6.setCell ⟨w.heap.size, 2, none⟩ (.slice b2 s.tiers.length d2) = V2 at *
 clear hPd hQd hBd
 have hPd : Blk V2 w.heap.size #[.int .i64 s.least, .int .i64 s.wait, .slice b2 s.tiers.length d2, .slice a.fa s.files.length a.fc, .slice a.ca s.copies.length a.cc, .slice a.ha s.held.length a.hc, .slice a.ba s.bin.length a.bc] 28 := hPs
 have hQd := hQs; have hBd := hBs
 clear hPs hQs hBs
 refine anyM_ready (rs := [17]) (by kernel_rfl) (by simp) ?_
 refine ReadyM.cons rfl (fun K hK => ?_) ReadyM.nil
 go_simp
 refine hK.out _ _ (fun h => absurd h (by simp)) ?_
 clear hK K
 try go_frame
 obtain ⟨y0, y1, y2, y3, y4, y5, y6⟩ := hPd.seven
 have yf := hPd.free
 refine anyM_ready (rs := [18]) (by kernel_rfl) (by simp) ?_
 refine ReadyM.cons rfl (fun K hK => ?_) ReadyM.nil
 go_simp
 refine hK.out _ _ (fun h => absurd h (by simp)) ?_
 clear hK K y0 y1 y2 y3 y4 y5 y6 yf
 try go_frame
 have hPs := hPd.set 3 (.slice b3 s.files.length d3)
 have hQs := hQd.setOther (a := ⟨w.heap.size, 3, none⟩) (by simp) (.slice b3 s.files.length d3)
 have hBs := hBd.setCell (p := ⟨w.heap.size, 3, none⟩) (by simp) (.slice b3 s.files.length d3)
 have o2 := o2.next (i := 3) (b := w.heap.size) (u := .slice b3 s.files.length d3) (Below.refl _ _) (by omega)
 have o3 := o3.next (i := 3) (b := w.heap.size) (u := .slice b3 s.files.length d3) (Below.refl _ _) (by omega)
 have o4 := o4.next (i := 3) (b := w.heap.size) (u := .slice b3 s.files.length d3) (Below.refl _ _) (by omega)
 have o5 := o5.next (i := 3) (b := w.heap.size) (u := .slice b3 s.files.length d3) (Below.refl _ _) (by omega)
 have o6 := o6.next (i := 3) (b := w.heap.size) (u := .slice b3 s.files.length d3) (Below.refl _ _) (by omega)
 have hsz := show w.heap.size + 2 ≤ (V2.setCell ⟨w.heap.size, 3, none⟩ (.slice b3 s.files.length d3)).heap.size by simp; omega
 generalize V2.setCell ⟨w.heap.size, 3, none⟩ (.slice b3 s.files.length d3) = V3 at *
 clear hPd hQd hBd
 have hPd : Blk V3 w.heap.size #[.int .i64 s.least, .int .i64 s.wait, .slice b2 s.tiers.length d2, .slice b3 s.files.length d3, .slice a.ca s.copies.length a.cc, .slice a.ha s.held.length a.hc, .slice a.ba s.bin.length a.bc] 28 := hPs
 have hQd := hQs; have hBd := hBs
 clear hPs hQs hBs
 refine anyM_ready (rs := [19]) (by kernel_rfl) (by simp) ?_
 refine ReadyM.cons rfl (fun K hK => ?_) ReadyM.nil
 go_simp
 refine hK.out _ _ (fun h => absurd h (by simp)) ?_
 clear hK K
 try go_frame
 obtain ⟨y0, y1, y2, y3, y4, y5, y6⟩ := hPd.seven
 have yf := hPd.free
 refine anyM_ready (rs := [20]) (by kernel_rfl) (by simp) ?_
 refine ReadyM.cons rfl (fun K hK => ?_) ReadyM.nil
 go_simp
 refine hK.out _ _ (fun h => absurd h (by simp)) ?_
 clear hK K y0 y1 y2 y3 y4 y5 y6 yf
 try go_frame
 have hPs := hPd.set 4 (.slice b4 s.copies.length d4)
 have hQs := hQd.setOther (a := ⟨w.heap.size, 4, none⟩) (by simp) (.slice b4 s.copies.length d4)
 have hBs := hBd.setCell (p := ⟨w.heap.size, 4, none⟩) (by simp) (.slice b4 s.copies.length d4)
 have o2 := o2.next (i := 4) (b := w.heap.size) (u := .slice b4 s.copies.length d4) (Below.refl _ _) (by omega)
 have o3 := o3.next (i := 4) (b := w.heap.size) (u := .slice b4 s.copies.length d4) (Below.refl _ _) (by omega)
 have o4 := o4.next (i := 4) (b := w.heap.size) (u := .slice b4 s.copies.length d4) (Below.refl _ _) (by omega)
 have o5 := o5.next (i := 4) (b := w.heap.size) (u := .slice b4 s.copies.length d4) (Below.refl _ _) (by omega)
 have o6 := o6.next (i := 4) (b := w.heap.size) (u := .slice b4 s.copies.length d4) (Below.refl _ _) (by omega)
 have hsz := show w.heap.size + 2 ≤ (V3.setCell ⟨w.heap.size, 4, none⟩ (.slice b4 s.copies.length d4)).heap.size by simp; omega
 generalize V3.setCell ⟨w.heap.size, 4, none⟩ (.slice b4 s.copies.length d4) = V4 at *
 clear hPd hQd hBd
 have hPd : Blk V4 w.heap.size #[.int .i64 s.least, .int .i64 s.wait, .slice b2 s.tiers.length d2, .slice b3 s.files.length d3, .slice b4 s.copies.length d4, .slice a.ha s.held.length a.hc, .slice a.ba s.bin.length a.bc] 28 := hPs
 have hQd := hQs; have hBd := hBs
 clear hPs hQs hBs
 refine anyM_ready (rs := [21]) (by kernel_rfl) (by simp) ?_
 refine ReadyM.cons rfl (fun K hK => ?_) ReadyM.nil
 go_simp
 refine hK.out _ _ (fun h => absurd h (by simp)) ?_
 clear hK K
 try go_frame
 obtain ⟨y0, y1, y2, y3, y4, y5, y6⟩ := hPd.seven
 have yf := hPd.free
 refine anyM_ready (rs := [22]) (by kernel_rfl) (by simp) ?_
 refine ReadyM.cons rfl (fun K hK => ?_) ReadyM.nil
 go_simp
 refine hK.out _ _ (fun h => absurd h (by simp)) ?_
 clear hK K y0 y1 y2 y3 y4 y5 y6 yf
 try go_frame
 have hPs := hPd.set 5 (.slice b5 s.held.length d5)
 have hQs := hQd.setOther (a := ⟨w.heap.size, 5, none⟩) (by simp) (.slice b5 s.held.length d5)
 have hBs := hBd.setCell (p := ⟨w.heap.size, 5, none⟩) (by simp) (.slice b5 s.held.length d5)
 have o2 := o2.next (i := 5) (b := w.heap.size) (u := .slice b5 s.held.length d5) (Below.refl _ _) (by omega)
 have o3 := o3.next (i := 5) (b := w.heap.size) (u := .slice b5 s.held.length d5) (Below.refl _ _) (by omega)
 have o4 := o4.next (i := 5) (b := w.heap.size) (u := .slice b5 s.held.length d5) (Below.refl _ _) (by omega)
 have o5 := o5.next (i := 5) (b := w.heap.size) (u := .slice b5 s.held.length d5) (Below.refl _ _) (by omega)
 have o6 := o6.next (i := 5) (b := w.heap.size) (u := .slice b5 s.held.length d5) (Below.refl _ _) (by omega)
 have hsz := show w.heap.size + 2 ≤ (V4.setCell ⟨w.heap.size, 5, none⟩ (.slice b5 s.held.length d5)).heap.size by simp; omega
 generalize V4.setCell ⟨w.heap.size, 5, none⟩ (.slice b5 s.held.length d5) = V5 at *
 clear hPd hQd hBd
 have hPd : Blk V5 w.heap.size #[.int .i64 s.least, .int .i64 s.wait, .slice b2 s.tiers.length d2, .slice b3 s.files.length d3, .slice b4 s.copies.length d4, .slice b5 s.held.length d5, .slice a.ba s.bin.length a.bc] 28 := hPs
 have hQd := hQs; have hBd := hBs
 clear hPs hQs hBs
 refine anyM_ready (rs := [23]) (by kernel_rfl) (by simp) ?_
 refine ReadyM.cons rfl (fun K hK => ?_) ReadyM.nil
 go_simp
 refine hK.out _ _ (fun h => absurd h (by simp)) ?_
 clear hK K
 try go_frame
 obtain ⟨y0, y1, y2, y3, y4, y5, y6⟩ := hPd.seven
 have yf := hPd.free
 refine anyM_ready (rs := [24]) (by kernel_rfl) (by simp) ?_
 refine ReadyM.cons rfl (fun K hK => ?_) ReadyM.nil
 go_simp
 refine hK.out _ _ (fun h => absurd h (by simp)) ?_
 clear hK K y0 y1 y2 y3 y4 y5 y6 yf
 try go_frame
 have hPs := hPd.set 6 (.slice b6 s.bin.length d6)
 have hQs := hQd.setOther (a := ⟨w.heap.size, 6, none⟩) (by simp) (.slice b6 s.bin.length d6)
 have hBs := hBd.setCell (p := ⟨w.heap.size, 6, none⟩) (by simp) (.slice b6 s.bin.length d6)
 have o2 := o2.next (i := 6) (b := w.heap.size) (u := .slice b6 s.bin.length d6) (Below.refl _ _) (by omega)
 have o3 := o3.next (i := 6) (b := w.heap.size) (u := .slice b6 s.bin.length d6) (Below.refl _ _) (by omega)
 have o4 := o4.next (i := 6) (b := w.heap.size) (u := .slice b6 s.bin.length d6) (Below.refl _ _) (by omega)
 have o5 := o5.next (i := 6) (b := w.heap.size) (u := .slice b6 s.bin.length d6) (Below.refl _ _) (by omega)
 have o6 := o6.next (i := 6) (b := w.heap.size) (u := .slice b6 s.bin.length d6) (Below.refl _ _) (by omega)
 have hsz := show w.heap.size + 2 ≤ (V5.setCell ⟨w.heap.size, 6, none⟩ (.slice b6 s.bin.length d6)).heap.size by simp; omega
 generalize V5.setCell ⟨w.heap.size, 6, none⟩ (.slice b6 s.bin.length d6) = V6 at *
 clear hPd hQd hBd
 have hPd : Blk V6 w.heap.size #[.int .i64 s.least, .int .i64 s.wait, .slice b2 s.tiers.length d2, .slice b3 s.files.length d3, .slice b4 s.copies.length d4, .slice b5 s.held.length d5, .slice b6 s.bin.length d6] 28 := hPs
 have hQd := hQs; have hBd := hBs
 clear hPs hQs hBs
 refine anyM_done (by kernel_rfl) ?_ _
 clear HC2 HC3 HC4 HC5 HC6 hq2 hq3 hq4 hq5 hq6 hB hP hQ
 obtain ⟨q0, q1, q2, q3, q4, q5, q6⟩ := hPd.seven
 go_wp2_with (refine wpList_store_row rfl 28 _ _ rfl (w.heap.size + 1) #[.int .i64 s.least, .int .i64 s.wait, .slice b2 s.tiers.length d2, .slice b3 s.files.length d3, .slice b4 s.copies.length d4, .slice b5 s.held.length d5, .slice b6 s.bin.length d6] rfl rfl 28 _ hQd infoSto rfl (by simp [Value.oneCell']) ?_)
 have hrow := setRow_heap V6 (w.heap.size + 1) _ #[.int .i64 s.least, .int .i64 s.wait, .slice b2 s.tiers.length d2, .slice b3 s.files.length d3, .slice b4 s.copies.length d4, .slice b5 s.held.length d5, .slice b6 s.bin.length d6] 28 (0, 0) hQd
 refine bodyPost_ret (v := .agg #[.int .i64 s.least, .int .i64 s.wait, .slice b2 s.tiers.length d2, .slice b3 s.files.length d3, .slice b4 s.copies.length d4, .slice b5 s.held.length d5, .slice b6 s.bin.length d6]) (results_cell_row rfl _ _ (w.heap.size + 1) 28 _ (0, 0) _ rfl hrow Tryz.underlying28 rfl infoSto) rfl ⟨⟨b2, d2, b3, d3, b4, d4, b5, d5, b6, d6⟩, rfl, ⟨(o2.setRow (by omega) _).down (by omega), (o3.setRow (by omega) _).down (by omega), (o4.setRow (by omega) _).down (by omega), (o5.setRow (by omega) _).down (by omega), (o6.setRow (by omega) _).down (by omega)⟩, below_setRow hBd (by omega) _⟩
theorem OwnC.setCell {w : World} {B k g n cap : Nat} {e : TypeId} {xs : List Value} (h : OwnC w B e k g n cap xs) {p : Nat} (hp : p < n * k) (v : Value) : OwnC (w.setCell ⟨g, p, none⟩ v) B e k g n cap (xs.set p v) := by
 obtain ⟨cur, hB, hc, hn, hm, hs, ht, hl⟩ := h
 have hb : Blk w g cur e := hc
 refine ⟨cur.setIfInBounds p v, hB, hb.set p v, hn, hm, by simpa using hs, ?_, by simpa using hl⟩
 rw [← ht, Array.toList_setIfInBounds, List.take_set]
theorem OwnV.setFar {w : World} {B k n g p : Nat} {e e' : TypeId} {v u : Value} {xs : List Value} {cur : Array Value} (h : OwnV w B e k v n xs) (hg : w.heap[g]? = some (.cells cur e' (0, 0))) (hne : e ≠ e') : OwnV (w.setCell ⟨g, p, none⟩ u) B e k v n xs := by
 rcases h with h | ⟨g0, cap, h, hc⟩
 ·exact .inl h
 ·refine .inr ⟨g0, cap, h, hc.of_block (Below.heap_setCell w _ u g0 ?_)⟩
  obtain ⟨cur0, _, h0, _⟩ := hc
  show g0 ≠ g
  rintro rfl
  rw [hg] at h0
  cases h0
  exact hne rfl
theorem Enc.flat_set1 {α : Type} (E : Enc α) (v : Value) (j : Nat) (hj : j < E.k) (x x' : α) (hx : E.cells x' = (E.cells x).set j v) : ∀ (L : List α) (i : Nat), L[i]? = some x → E.flat (L.set i x') = (E.flat L).set (i * E.k + j) v
 | [], i, h => by simp at h
 | y :: L, 0, h => by
   obtain rfl : y = x := by simpa using h
   rw [List.set_cons_zero, flat_cons, flat_cons, hx, Nat.zero_mul, Nat.zero_add, List.set_append_left _ _ (by rw [E.len]; exact hj)]
 | y :: L, i + 1, h => by
   rw [List.getElem?_cons_succ] at h
   have ih := Enc.flat_set1 E v j hj x x' hx L i h
   rw [List.set_cons_succ, flat_cons, flat_cons, ih, List.set_append_right _ _ (by rw [E.len, Nat.succ_mul]; omega), E.len, show (i + 1) * E.k + j - E.k = i * E.k + j by rw [Nat.succ_mul]; omega]
theorem StOwn.setCop {w : World} {B : Nat} {s : Sto} {a : StA} (h : StOwn w B s a) {j : Nat} {c c' : Cop} (hc : s.copies[j]? = some c) {i : Nat} {v : Value} (hi : i < 4) (hv : St.eC.cells c' = (St.eC.cells c).set i v) :
  ∃ g, a.ca = some ⟨g, 0, none⟩ ∧ B ≤ g ∧ g < w.heap.size ∧ w.cell? ⟨g, j * 4 + i, none⟩ = (St.eC.cells c)[i]? ∧ w.frozen? ⟨g, j * 4 + i, none⟩ = false ∧ StOwn (w.setCell ⟨g, j * 4 + i, none⟩ v) B { s with copies := s.copies.set j c' } a := by
 have hlt := (List.getElem?_eq_some_iff.1 hc).1
 obtain ⟨g, cap, hsl, hco⟩ : ∃ g cap, (Value.slice a.ca s.copies.length a.cc) = .slice (some ⟨g, 0, none⟩) s.copies.length cap ∧ OwnC w B 74 4 g s.copies.length cap (St.eC.flat s.copies) := by
  rcases h.co with ⟨h0, h1, _⟩ | h1
  ·omega
  ·exact h1
 have ha : a.ca = some ⟨g, 0, none⟩ := by injection hsl
 have hcap : a.cc = cap := by injection hsl
 have hb : j * 4 + i < s.copies.length * 4 := by omega
 obtain ⟨cur, _, hcur, _⟩ := id hco
 refine ⟨g, ha, hco.lt.1, hco.lt.2, ?_, frozen_of hcur _, h.ti.setFar hcur (by decide), h.fi.setFar hcur (by decide), ?_, h.he.setFar hcur (by decide), h.bi.setFar hcur (by decide)⟩
 ·rw [hco.cellAt _ hb]
  exact St.eC.flat_get s.copies j c hc i hi
 ·have h1 := hco.setCell hb v
  have h2 : St.eC.flat (s.copies.set j c') = (St.eC.flat s.copies).set (j * 4 + i) v := Enc.flat_set1 St.eC v i hi c c' hv s.copies j hc
  rw [← h2] at h1
  show OwnV _ B _ 4 (.slice a.ca (s.copies.set j c').length a.cc) (s.copies.set j c').length _
  rw [List.length_set, ha, hcap]
  exact .inr ⟨g, cap, rfl, h1⟩
theorem StOwn.copAt {w : World} {B : Nat} {s : Sto} {a : StA} (h : StOwn w B s a) {j : Nat} {c : Cop} (hc : s.copies[j]? = some c) :
  ∃ g, a.ca = some ⟨g, 0, none⟩ ∧ B ≤ g ∧ g < w.heap.size ∧ (∀ i, i < 4 → w.cell? ⟨g, j * 4 + i, none⟩ = (St.eC.cells c)[i]? ∧ w.frozen? ⟨g, j * 4 + i, none⟩ = false) ∧
    (∀ (c' : Cop) (i : Nat) (v : Value), i < 4 → St.eC.cells c' = (St.eC.cells c).set i v → StOwn (w.setCell ⟨g, j * 4 + i, none⟩ v) B { s with copies := s.copies.set j c' } a) := by
 obtain ⟨g, hga, h1, h2, h3, h4, h5⟩ := h.setCop hc (c' := { c with good := c.good }) (i := 2) (v := .bool c.good) (by decide) rfl
 have key : ∀ (c' : Cop) (i : Nat) (v : Value), i < 4 → St.eC.cells c' = (St.eC.cells c).set i v → w.cell? ⟨g, j * 4 + i, none⟩ = (St.eC.cells c)[i]? ∧ w.frozen? ⟨g, j * 4 + i, none⟩ = false ∧ StOwn (w.setCell ⟨g, j * 4 + i, none⟩ v) B { s with copies := s.copies.set j c' } a := by
  intro c' i v hi hv
  obtain ⟨g', hga', _, _, k3, k4, k5⟩ := h.setCop hc (c' := c') (i := i) (v := v) hi hv
  rw [hga] at hga'
  injection hga' with e
  injection e with e
  subst e
  exact ⟨k3, k4, k5⟩
 refine ⟨g, hga, h1, h2, fun i hi => ?_, fun c' i v hi hv => (key c' i v hi hv).2.2⟩
 have hz : (St.eC.cells c)[i]? = some ((St.eC.cells c)[i]'(by rw [St.eC.len]; exact hi)) := List.getElem?_eq_getElem _
 have hs : St.eC.cells c = (St.eC.cells c).set i ((St.eC.cells c)[i]'(by rw [St.eC.len]; exact hi)) := by simp
 have := key c i _ hi hs
 exact ⟨this.1, this.2.1⟩
namespace St
def cmpS (a b : ByteArray) : Int := if lt a b = true then -1 else if lt b a = true then 1 else 0
theorem cmpS_lt {a b : ByteArray} : cmpS a b < 0 ↔ lt a b = true := by
 unfold cmpS
 cases lt a b <;> cases lt b a <;> simp
theorem cmpS_eq {a b : ByteArray} : (cmpS a b == 0) = eq a b := by
 have h := le_not (a := a) (b := b)
 unfold le at h
 unfold cmpS
 have h0 : Op.bytesLess a.toList b.toList = lt a b := rfl
 have h1 : (a.toList == b.toList) = eq a b := rfl
 rw [h0, h1] at h
 cases h2 : eq a b with
 | true =>
   obtain rfl := eq_iff.1 h2
   rw [lt_irr]; rfl
 | false =>
   rw [h2, Bool.or_false] at h
   rw [h]
   cases lt b a <;> rfl
end St
theorem isNaNs_is (a : ByteArray) (w : World) : Calls Tryz.prog 191 #[.string a] w fun e w' => e = .returned (.bool false) ∧ w = w' := by
 go_enter Tryz.func191, Tryz.ntmps191
 go_wp2_with fail
 go_ret
 exact ⟨by simp, rfl⟩
theorem cmpStr_is (a b : ByteArray) (w : World) : Calls Tryz.prog 147 #[.string a, .string b] w fun e w' => e = .returned (.int .i64 (St.cmpS a b)) ∧ w = w' := by
 have HN := Lib.hid (fun x W => isNaNs_is x W)
 obtain ⟨q, hq⟩ : ∃ q, St.cmpS a b = q := ⟨_, rfl⟩
 rw [hq]
 unfold St.cmpS at hq
 have h1 : St.lt a b = Op.bytesLess a.toList b.toList := rfl
 have h2 : St.lt b a = Op.bytesLess b.toList a.toList := rfl
 rw [h1, h2] at hq
 clear h1 h2
 cases hx : Op.bytesLess a.toList b.toList
 ·have hle := St.le_not (a := a) (b := b)
  unfold St.le at hle
  rw [hx, Bool.false_or] at hle
  have hlb : Op.bytesLess b.toList a.toList = St.lt b a := rfl
  rw [hlb] at hq
  cases hy : (a.toList == b.toList)
  case true =>
   have HQ : Hid ((0 : Int) = q) := Lib.hid (by rw [← hq, hx]; rw [hy] at hle; cases hb : St.lt b a; rfl; rw [hb] at hle; cases hle)
   clear hq hle hlb
   go_enter Tryz.func147, Tryz.ntmps147
   go_wp2_with (go_at_call 191; (with_reducible refine (HN.out _ _).mono ?_); rintro e w4 ⟨rfl, rfl⟩)
   go_ret
   exact ⟨ret_int HQ.out, rfl⟩
  case false =>
   have HQ : Hid ((1 : Int) = q) := Lib.hid (by rw [← hq, hx]; rw [hy] at hle; cases hb : St.lt b a; rw [hb] at hle; cases hle; rfl)
   clear hq hle hlb
   go_enter Tryz.func147, Tryz.ntmps147
   go_wp2_with (go_at_call 191; (with_reducible refine (HN.out _ _).mono ?_); rintro e w4 ⟨rfl, rfl⟩)
   go_ret
   exact ⟨ret_int HQ.out, rfl⟩
 ·have HQ : Hid ((-1 : Int) = q) := Lib.hid (by rw [← hq, hx]; rfl)
  clear hq
  go_enter Tryz.func147, Tryz.ntmps147
  go_wp2_with (go_at_call 191; (with_reducible refine (HN.out _ _).mono ?_); rintro e w4 ⟨rfl, rfl⟩)
  go_ret
  exact ⟨ret_int HQ.out, rfl⟩
theorem enters_held : ∀ args w, (callFunc 149 args).run Tryz.prog w = .ok (.enter 149 args) w := enters_of Tryz.func149 (by kernel_rfl) rfl
theorem enters_place : ∀ args w, (callFunc 195 args).run Tryz.prog w = .ok (.enter 195 args) w := enters_of Tryz.func195 (by kernel_rfl) rfl
theorem heldK_is (x : ByteArray) (w : World) : Calls Tryz.prog 149 #[.string x] w fun e w' => e = .returned (.string x) ∧ w = w' := by
 go_enter Tryz.func149, Tryz.ntmps149
 go_wp2_with fail
 go_ret
 exact ⟨rfl, rfl⟩
theorem placeK_is (x k : ByteArray) (a : Option Addr) (n ca bk : Nat) (t : TypeId) (w : World) (hs : Blk w bk #[.func (.func 149) #[] #[], .slice a n ca] t) :
  Calls Tryz.prog 195 #[.string x, .string k, .pointer (some ⟨bk, 0, none⟩)] w fun e w' => e = .returned (.int .i64 (St.cmpS x k)) ∧ w = w' := by
 have r0 : w.cell? ⟨bk, 0, none⟩ = some (.func (.func 149) #[] #[]) := (hs.cell 0).trans rfl
 have eg := enters_held
 have HK := Lib.hid (fun W => heldK_is x W)
 have HC := Lib.hid (fun W => cmpStr_is x k W)
 clear hs
 go_enter Tryz.func195, Tryz.ntmps195
 go_wp2_with (first | (go_at_fn 149; (with_reducible refine (HK.out _).mono ?_); rintro e w4 ⟨rfl, rfl⟩) | (go_at_call 147; (with_reducible refine (HC.out _).mono ?_); rintro e w4 ⟨rfl, rfl⟩))
 go_ret
 exact ⟨rfl, rfl⟩
theorem bsS_is (L : List ByteArray) (hu : St.Up id L) (h1m : L.length ≤ 1000000) (k : ByteArray) (a : Option Addr) (ca bk : Nat) (t : TypeId) (w : World) (hl : L.length ≤ ca ∧ ca ≤ 9223372036854775807) (hr : RowE St.eS w a L) (hs : Blk w bk #[.func (.func 149) #[] #[], .slice a L.length ca] t) :
  Calls Tryz.prog 194 #[.slice a L.length ca, .string k, .func (.func 195) #[] #[.pointer (some ⟨bk, 0, none⟩)]] w fun e w' => e = .returned (.tuple #[.int .i64 (St.pos id k L), .bool (St.hasK id L k)]) ∧ w = w' := by
 have eg := enters_place
 have HR := Lib.hid hr; have HS := Lib.hid hs; have HU := Lib.hid hu
 obtain ⟨n, hn⟩ : ∃ n, L.length = n := ⟨_, rfl⟩
 have HN := Lib.hid hn
 have HC0 := Lib.hid (fun x => placeK_is x k a L.length ca bk t w hs)
 rw [hn] at hl h1m ⊢
 clear hr hs hu hn
 go_enter Tryz.func194, Tryz.ntmps194
 go_wp2_with fail
 go_loopg [9, 10] n (fun g s7 s8 wr => ∃ lo hi : Nat, s7 = .int .i64 lo ∧ s8 = .int .i64 hi ∧ lo ≤ hi ∧ hi ≤ n ∧ g = 0 + (hi - lo) ∧ w = wr ∧ (∀ i x, L[i]? = some x → i < lo → St.lt x k = true) ∧ (∀ i x, L[i]? = some x → hi ≤ i → St.lt x k = false))
 case atStart => exact ⟨0, n, rfl, rfl, Nat.zero_le _, Nat.le_refl _, by omega, rfl, fun i x _ h => absurd h (Nat.not_lt_zero _), fun i x hx h => by have := (List.getElem?_eq_some_iff.1 hx).1; have := HN.out; omega⟩
 case round =>
  obtain ⟨lo, hi, rfl, rfl, hlh, hin, rfl, rfl, h1, h2⟩ := hrel
  have I1 := Lib.hid h1; have I2 := Lib.hid h2
  clear h1 h2
  by_cases hlt : lo < hi
  ·obtain ⟨x, hx⟩ : ∃ x, L[(lo + hi) / 2]? = some x := ⟨_, List.getElem?_eq_getElem (by rw [HN.out]; omega)⟩
   obtain ⟨b, off, ha, hb, hcell⟩ := HR.out (by rw [HN.out]; omega)
   have c0 : w.cell? ⟨b, off + (lo + hi) / 2, none⟩ = some (.string x) := by have := hcell _ x hx 0 (.string x) rfl; rw [show off + (lo + hi) / 2 * St.eS.k + 0 = off + (lo + hi) / 2 by simp [St.eS]] at this; exact this
   clear hcell
   have HX := Lib.hid hx
   obtain ⟨s, hsg⟩ : ∃ s, St.cmpS x k = s := ⟨_, rfl⟩
   have HC := Lib.hid (HC0.out x)
   rw [hsg] at HC
   have HSG : Hid (s < 0 ↔ St.lt x k = true) := Lib.hid (by rw [← hsg]; exact St.cmpS_lt)
   rw [ha]
   clear hsg hx
   by_cases hyx : s < 0
   ·go_wp2_with (go_at_fn 195; (with_reducible refine HC.out.mono ?_); rintro e w4 ⟨rfl, rfl⟩)
    rw [← ha]
    go_roundg (hi - ((lo + hi) / 2 + 1))
    case measure => omega
    case rel =>
     refine ⟨(lo + hi) / 2 + 1, hi, by rw [show ((lo : Int) + (hi : Int)) / 2 + 1 = (((lo + hi) / 2 + 1 : Nat) : Int) by omega], rfl, by omega, hin, by omega, rfl, fun i y hy hi2 => ?_, I2.out⟩
     by_cases e : i = (lo + hi) / 2
     ·subst e; rw [HX.out] at hy; obtain rfl := Option.some.inj hy; exact HSG.out.1 hyx
     ·exact St.lt_trans (HU.out.lt hy HX.out (by omega)) (HSG.out.1 hyx)
   ·go_wp2_with (go_at_fn 195; (with_reducible refine HC.out.mono ?_); rintro e w4 ⟨rfl, rfl⟩)
    rw [← ha]
    go_roundg ((lo + hi) / 2 - lo)
    case measure => omega
    case rel =>
     refine ⟨lo, (lo + hi) / 2, rfl, by rw [show ((lo : Int) + (hi : Int)) / 2 = (((lo + hi) / 2 : Nat) : Int) by omega], by omega, by omega, by omega, rfl, I1.out, fun i y hy hi2 => ?_⟩
     have hxk : St.lt x k = false := by
      cases h : St.lt x k
      ·rfl
      ·exact absurd (HSG.out.2 h) (by omega)
     by_cases e : i = (lo + hi) / 2
     ·subst e; rw [HX.out] at hy; obtain rfl := Option.some.inj hy; exact hxk
     ·have h3 : St.lt x y = true := HU.out.lt HX.out hy (by omega)
      cases h : St.lt y k
      ·rfl
      ·rw [St.lt_trans h3 h] at hxk; cases hxk
  ·have : hi = lo := by omega
   subst this
   have HP : Hid (St.pos id k L = hi) := Lib.hid (St.pos_is (by rw [HN.out]; exact hin) (fun i x h1 h2 => I1.out i x h1 h2) (fun x hx => I2.out hi x hx (Nat.le_refl _)))
   by_cases hnn : hi < n
   ·obtain ⟨x, hx⟩ : ∃ x, L[hi]? = some x := ⟨_, List.getElem?_eq_getElem (by rw [HN.out]; omega)⟩
    have HH : Hid (St.hasK id L k = St.eq x k) := Lib.hid (by rw [St.has_pos HU.out, HP.out, hx]; rfl)
    obtain ⟨b, off, ha, hb, hcell⟩ := HR.out (by rw [HN.out]; omega)
    have c0 : w.cell? ⟨b, off + hi, none⟩ = some (.string x) := by have := hcell _ x hx 0 (.string x) rfl; rw [show off + hi * St.eS.k + 0 = off + hi by simp [St.eS]] at this; exact this
    clear hcell hx
    have HEQ : Hid ((St.cmpS x k == 0) = St.eq x k) := Lib.hid St.cmpS_eq
    have HC := Lib.hid (HC0.out x)
    have HV : Hid (St.hasK id L k = (St.cmpS x k == 0)) := Lib.hid (HH.out.trans HEQ.out.symm)
    clear HEQ HH
    generalize St.cmpS x k = s at HC HV
    rw [ha]
    by_cases hs0 : s = 0
    ·subst hs0
     go_wp2_with (go_at_fn 195; (with_reducible refine HC.out.mono ?_); rintro e w4 ⟨rfl, rfl⟩)
     go_ret2
     exact ⟨by rw [HP.out, HV.out]; rfl, rfl⟩
    ·have hs1 : (s == 0) = false := by simpa using hs0
     go_wp2_with (go_at_fn 195; (with_reducible refine HC.out.mono ?_); rintro e w4 ⟨rfl, rfl⟩)
     go_ret2
     exact ⟨by rw [HP.out, HV.out, hs1]; rfl, rfl⟩
   ·obtain rfl : n = hi := by omega
    have HH : Hid (St.hasK id L k = false) := Lib.hid (by rw [St.has_pos HU.out, HP.out, List.getElem?_eq_none (by rw [HN.out]; exact Nat.le_refl _)])
    go_wp2_with fail
    go_ret2
    exact ⟨by rw [HP.out, HH.out]; rfl, rfl⟩
theorem placeS_is (L : List ByteArray) (hu : St.Up id L) (h1m : L.length ≤ 1000000) (k : ByteArray) (a : Option Addr) (ca : Nat) (w : World) (hl : L.length ≤ ca ∧ ca ≤ 9223372036854775807) (hr : RowE St.eS w a L) :
  Calls Tryz.prog 150 #[.agg #[.func (.func 149) #[] #[], .slice a L.length ca], .string k] w fun e w' => e = .returned (.tuple #[.int .i64 (St.pos id k L), .bool (St.hasK id L k)]) ∧ Below w.heap.size w w' := by
 obtain ⟨W1, hW1, hP, hz1, hB1⟩ := box w #[.func (.func 149) #[] #[], .slice a L.length ca] 103
 have HW1 := Lib.hid hW1; have HB1 := Lib.hid hB1
 have r1 : W1.cell? ⟨w.heap.size, 1, none⟩ = some (.slice a L.length ca) := (hP.cell 1).trans rfl
 have HC := Lib.hid (bsS_is L hu h1m k a ca w.heap.size _ W1 hl (hr.keep hB1) hP)
 have hmf : ∀ (fn : Fn) (first cap : Array Value) (w : World), (Instr.makeFunc fn first cap).run Tryz.prog w = .ok (.func fn first cap) w := fun _ _ _ _ => rfl
 clear hW1 hP hz1 hB1 hr
 go_enter Tryz.func150, Tryz.ntmps150
 go_wp2_with fail
 rw [HW1.out]
 go_wp2_with (go_at_call 194; (with_reducible refine HC.out.mono ?_); rintro e w4 ⟨rfl, rfl⟩)
 go_ret2
 exact ⟨rfl, HB1.out⟩
theorem hasS_is (L : List ByteArray) (hu : St.Up id L) (h1m : L.length ≤ 1000000) (k : ByteArray) (a : Option Addr) (ca : Nat) (w : World) (hl : L.length ≤ ca ∧ ca ≤ 9223372036854775807) (hr : RowE St.eS w a L) :
  Calls Tryz.prog 63 #[.agg #[.func (.func 149) #[] #[], .slice a L.length ca], .string k] w fun e w' => e = .returned (.bool (St.hasS L k)) ∧ Below w.heap.size w w' := by
 obtain ⟨W1, hW1, hP, hz1, hB1⟩ := box w #[.func (.func 149) #[] #[], .slice a L.length ca] 103
 have HW1 := Lib.hid hW1; have HB1 := Lib.hid hB1
 have r0 : W1.cell? ⟨w.heap.size, 0, none⟩ = some (.func (.func 149) #[] #[]) := (hP.cell 0).trans rfl
 have r1 : W1.cell? ⟨w.heap.size, 1, none⟩ = some (.slice a L.length ca) := (hP.cell 1).trans rfl
 have HC := Lib.hid (placeS_is L hu h1m k a ca W1 hl (hr.keep hB1))
 have e : St.hasS L k = St.hasK id L k := rfl
 rw [e]
 clear hW1 hP hz1 hB1 hr e
 go_enter Tryz.func63, Tryz.ntmps63
 go_wp2_with fail
 rw [HW1.out]
 go_wp2_with (go_at_call 150; (with_reducible refine HC.out.mono ?_); rintro e w4 ⟨rfl, hB4⟩)
 go_ret
 exact ⟨rfl, below_up HB1.out hB4⟩
theorem flat_insS (L : List ByteArray) (x : ByteArray) (p : Nat) : (St.eS.flat L).take (p * 1) ++ [.string x] ++ (St.eS.flat L).drop (p * 1) = St.eS.flat (L.take p ++ x :: L.drop p) := by
 have h1 := Enc.flat_take St.eS L p
 have h2 := Enc.flat_drop St.eS L p
 have h3 : St.eS.k = 1 := rfl
 rw [h3] at h1 h2
 rw [h1, h2, Enc.flat_append, Enc.flat_cons, List.append_assoc]; rfl
theorem flat_putS (L : List ByteArray) (x : ByteArray) (p : Nat) (hp : p < L.length) : St.eS.flat (L.set p x) = (St.eS.flat L).set p (.string x) := by
 have := Enc.flat_set1 St.eS (.string x) 0 (by decide) (L[p]'hp) x rfl L p (List.getElem?_eq_getElem _)
 simpa [St.eS] using this
theorem withS_is (L : List ByteArray) (hu : St.Up id L) (h1m : L.length ≤ 900000) (x : ByteArray) (a : Option Addr) (ca : Nat) (w : World) (hl : L.length ≤ ca ∧ ca ≤ 9223372036854775807) (hr : RowE St.eS w a L) :
  Calls Tryz.prog 59 #[.agg #[.func (.func 149) #[] #[], .slice a L.length ca], .string x] w (ClnPost St.eS 9 w (St.wth id x L)) := by
 obtain ⟨W1, hW1, hP, hz1, hB1⟩ := box w #[.func (.func 149) #[] #[], .slice a L.length ca] 103
 have HW1 := Lib.hid hW1; have HBB := Lib.hid hB1; have HZS : Hid (w.heap.size ≤ W1.heap.size) := Lib.hid hB1.size
 have HCL : Hid (∀ V, Below W1.heap.size W1 V → V.cell? ⟨w.heap.size, 0, none⟩ = some (.func (.func 149) #[] #[]) ∧ V.cell? ⟨w.heap.size, 1, none⟩ = some (.slice a L.length ca)) := Lib.hid fun V hv => ⟨((hP.keep hv).cell 0).trans rfl, ((hP.keep hv).cell 1).trans rfl⟩
 have HK := Lib.hid (fun V => heldK_is x V)
 have HPL := Lib.hid (fun V (hv : Below W1.heap.size W1 V) => placeS_is L hu (by omega) (x) a ca V hl ((hr.keep HBB.out).keep hv))
 have HCN := Lib.hid (fun V (hv : Below W1.heap.size W1 V) => clnS_is (L := L) a ca V ((hr.keep HBB.out).keep hv) (by omega))
 unfold ClnPost at HCN
 have HW : Hid (St.wth id x L = if St.hasK id L (x) = true then L.set (St.pos id (x) L) x else L.take (St.pos id (x) L) ++ x :: L.drop (St.pos id (x) L)) := Lib.hid rfl
 have hpl := St.pos_le id (x) L
 have HPT := Lib.hid (fun h : St.hasK id L (x) = true => St.hasK_at hu h)
 obtain ⟨p, hp⟩ : ∃ p, St.pos id (x) L = p := ⟨_, rfl⟩
 obtain ⟨hb, hhb⟩ : ∃ hb, St.hasK id L (x) = hb := ⟨_, rfl⟩
 rw [hp, hhb] at HPL HW HPT
 rw [hp] at hpl
 obtain ⟨n, hn⟩ : ∃ n, L.length = n := ⟨_, rfl⟩
 have HN := Lib.hid hn
 rw [hn] at hl hpl h1m HCL HPL HCN HW1 ⊢
 have eg := enters_held
 have hmf : ∀ (fn : Fn) (first cap : Array Value) (w : World), (Instr.makeFunc fn first cap).run Tryz.prog w = .ok (.func fn first cap) w := fun _ _ _ _ => rfl
 clear hr hW1 hP hz1 hB1 hu hp hhb hn
 go_enter Tryz.func59, Tryz.ntmps59
 go_upto_region 1 with fail
 rw [HW1.out]
 have hv : Below W1.heap.size W1 W1.drew := (Below.refl _ _).drew
 obtain ⟨r0, r1⟩ := HCL.out _ hv
 go_region_held3 (fun W => W.cell? ⟨w.heap.size, 0, none⟩ = some (.func (.func 149) #[] #[]) ∧ W.cell? ⟨w.heap.size, 1, none⟩ = some (.slice a n ca))
  (first | (with_reducible exact ⟨r0, r1⟩) | go_keep)
  (first
   | (go_at_fn 149; (with_reducible refine (HK.out _).mono ?_); rintro e wq ⟨rfl, rfl⟩)
   | (go_at_call 150; (with_reducible refine (HPL.out _ hv).mono ?_); rintro e wp ⟨rfl, hq⟩; have hv := below_up hv hq; obtain ⟨r0, r1⟩ := HCL.out _ hv)
   | fail)
 have hp0 : (0 : Int) ≤ (p : Int) := by omega
 cases hb
 ·have hW := HW.out
  rw [if_neg (by decide)] at hW
  have HWL : Hid (St.wth id x L = L.take p ++ x :: L.drop p) := Lib.hid hW
  have HWN : Hid ((L.take p ++ x :: L.drop p).length = n + 1) := Lib.hid (by rw [List.length_append, List.length_cons, List.length_take, List.length_drop, HN.out]; omega)
  clear hW
  go_wp2_with (first
   | (go_at_call 140; (with_reducible refine (HCN.out _ hv).mono ?_); rintro e w4 ⟨g4, c4, rfl, ho4, hq⟩; have hs4 := hv.size; have HO4 : Hid (OwnV w4 w.heap.size 9 1 (.slice g4 n c4) n (St.eS.flat L)) := Lib.hid (ho4.down (Nat.le_trans HZS.out hs4)); have hv := below_up hv hq; obtain ⟨r0, r1⟩ := HCL.out _ hv; have HV4 := Lib.hid hv; have HINS := Lib.hid (fun V (hb : Below w4.heap.size w4 V) (bv : Nat) (hbv : V.heap[bv]? = some (.cells #[.string x] 9 (0, 0))) (hge : w4.heap.size ≤ bv) => sr_ins w.heap.size n p (.slice g4 n c4) (St.eS.flat L) [.string x] V (HO4.out.keep hb) (by have := HZS.out; have := HV4.out.size; have := hb.size; omega) hpl (by omega) (Enc.flat_one St.eS L) bv _ _ hbv (fun e => by have := (HO4.out.lt bv e).2; omega) rfl rfl (by simp [Value.oneCell'])); rw [flat_insS] at HINS; clear ho4 hq)
   | (go_at_call 151; (with_reducible refine (HINS.out _ (below_allocs (Below.refl _ _) _) _ (heap_alloc_new _ _) (Nat.le_refl _)).mono ?_); rintro e w8 ⟨g8, c8, rfl, hc8, hg8, hn8⟩; have HC8 := Lib.hid hc8; have HG8 := Lib.hid hg8; have l1 : n + 1 ≤ c8 := (by obtain ⟨_, _, _, h, _⟩ := HC8.out; exact h); have l2 : c8 ≤ 9223372036854775807 := (by obtain ⟨_, _, _, _, h, _⟩ := HC8.out; exact h); clear hc8 hg8 hn8)
   | (go_at_call 104; (with_reducible refine (clnS_clip _ _ _ _ l1 l2).mono ?_); rintro e wc ⟨rfl, rfl⟩))
  go_ret
  have hO4 := HO4.out.keep (below_allocs (Below.refl _ w4) (.cells #[.string x] 9))
  have hB4 := below_allocs (below_up HBB.out HV4.out) (.cells #[.string x] 9)
  refine ⟨some ⟨g8, 0, none⟩, n + 1, by rw [HWL.out, HWN.out]; rfl, ?_, below_ownI hB4 hO4 HG8.out (by have := hB4.size; omega)⟩
  rw [HWL.out, HWN.out]
  exact .inr ⟨g8, n + 1, rfl, HC8.out.clip⟩
 ·obtain ⟨y, hy, _⟩ := HPT.out rfl
  have hpn : p < n := by rw [← HN.out]; exact (List.getElem?_eq_some_iff.1 hy).1
  have hW := HW.out
  rw [if_pos rfl] at hW
  have HWL : Hid (St.wth id x L = L.set p x) := Lib.hid hW
  have HWN : Hid ((L.set p x).length = n) := Lib.hid (by rw [List.length_set, HN.out])
  have HPU := Lib.hid (flat_putS L x p (by rw [HN.out]; exact hpn))
  clear hW hy
  go_upto_region 4 with (go_at_call 140; (with_reducible refine (HCN.out _ hv).mono ?_); rintro e w4 ⟨g4, c4, rfl, ho4, hq⟩; have hs4 := hv.size; have ho : OwnV w4 w.heap.size 9 1 (.slice g4 n c4) n (St.eS.flat L) := ho4.down (Nat.le_trans HZS.out hs4); have HV4 := Lib.hid (below_up HBB.out (below_up hv hq)); have hv := below_up hv hq; obtain ⟨r0, r1⟩ := HCL.out _ hv; clear ho4 hq)
  rcases ho with ⟨_, h0, _⟩ | ⟨g, cap, h0, hc⟩
  ·omega
  ·cases h0
   have hcg := hc.lt
   obtain ⟨cur0, _, hcc0, _⟩ := id hc
   have hfz0 := frozen_of hcc0 (p)
   have hce0 : ∃ v, (w4).cell? ⟨g, p, none⟩ = some v := by
    have h := hc.cellAt (p) (by omega)
    exact ⟨_, h.trans (List.getElem?_eq_getElem (by first | (rw [St.eS.flat_len, HN.out]; show _ < n * 1; omega) | (simp only [List.length_set]; rw [St.eS.flat_len, HN.out]; show _ < n * 1; omega)))⟩
   obtain ⟨v0, hv0⟩ := hce0
   have hc0 := hc.setCell (p := p) (by omega) (.string x)
   rw [← HPU.out] at hc0
   have HCZ := Lib.hid hc0
   obtain ⟨_, _, _, l1, l2, _⟩ := id hc0
   have l2' : c4 ≤ 9223372036854775807 := l2
   have HBZ := Lib.hid ((HV4.out).setCell (p := ⟨g, p, none⟩) (by simpa using hcg.1) (.string x))
   clear hc hc0
   go_wp2_with (go_at_call 104; (with_reducible refine (clnS_clip _ _ _ _ l1 l2').mono ?_); rintro e wc ⟨rfl, rfl⟩)
   go_ret
   refine ⟨some ⟨g, 0, none⟩, n, by rw [HWL.out, HWN.out]; rfl, ?_, HBZ.out⟩
   rw [HWL.out, HWN.out]
   exact .inr ⟨g, n, rfl, HCZ.out.clip⟩
end Go.Proofs.YthdiccdnggloiaaGreatDoor
