/- Parts of the proof, no condition: StFet. -/
import Derived.Test.YthdiccdnggloiaaDoorRk7
import Derived.Test.YthdiccdnggloiaaDoorRk8
set_option maxRecDepth 100000
set_option maxHeartbeats 16000000
set_option linter.unusedSimpArgs false
set_option linter.unusedVariables false
namespace Go.Proofs.YthdiccdnggloiaaDoor
open Go.RowKit Go.Sort Go.Shelf Go.Maps
def FetErr (w : World) (q : Int) (e : Ending) (w' : World) : Prop := e = .returned (.tuple #[.agg #[.int .i64 0, .int .i64 0, .slice none 0 0, .slice none 0 0, .slice none 0 0, .slice none 0 0, .slice none 0 0], .string ⟨#[]⟩, .int .i64 q]) ∧ Below w.heap.size w w'
def FetOk (w : World) (t : Sto) (from_ : ByteArray) (e : Ending) (w' : World) : Prop := ∃ a' : StA, e = .returned (.tuple #[.agg #[.int .i64 t.least, .int .i64 t.wait, .slice a'.ta t.tiers.length a'.tc, .slice a'.fa t.files.length a'.fc, .slice a'.ca t.copies.length a'.cc, .slice a'.ha t.held.length a'.hc, .slice a'.ba t.bin.length a'.bc], .string from_, .int .i64 0]) ∧ StIn w' t a' ∧ Below w.heap.size w w'
theorem fetch_wrong (s : Sto) (a : StA) (d : ByteArray) (now : Int) (w : World) (hI : StIn w s a) (he : St.err s ≠ 0) :
  Calls Tryd.prog 5 #[.agg #[.int .i64 s.least, .int .i64 s.wait, .slice a.ta s.tiers.length a.tc, .slice a.fa s.files.length a.fc, .slice a.ca s.copies.length a.cc, .slice a.ha s.held.length a.hc, .slice a.ba s.bin.length a.bc], .string d, .int .i64 now] w (FetErr w (St.err s)) := by
 obtain ⟨W1, hW1, hP, hz1, hB1⟩ := box w #[.int .i64 s.least, .int .i64 s.wait, .slice a.ta s.tiers.length a.tc, .slice a.fa s.files.length a.fc, .slice a.ca s.copies.length a.cc, .slice a.ha s.held.length a.hc, .slice a.ba s.bin.length a.bc] 28
 obtain ⟨W2, hW2, hQ, hz2, hB2⟩ := box W1 #[.int .i64 0, .int .i64 0, .slice none 0 0, .slice none 0 0, .slice none 0 0, .slice none 0 0, .slice none 0 0] 28
 have HW1 := Lib.hid hW1; have HW2 := Lib.hid hW2
 have hP := hP.keep hB2
 rw [hz1] at hQ
 have HBB := Lib.hid (below_up hB1 hB2)
 have HQ := Lib.hid hQ
 have HI2 := Lib.hid (hI.keep HBB.out)
 have HCK := Lib.hid (check_is s a W2 HI2.out)
 obtain ⟨q0, q1, q2, q3, q4, q5, q6⟩ := hP.seven
 have HP := Lib.hid hP
 have hs2 : w.heap.size + 2 ≤ W2.heap.size := by omega
 clear hW1 hW2 hP hQ hz1 hz2 hB1 hB2
 have hq1 : (St.err s != 0) = true := by simpa using he
 generalize St.err s = q at *
 clear hI he
 go_enter Tryd.func5, Tryd.ntmps5
 go_upto_region 1 with fail
 rw [HW1.out, HW2.out]
 go_upto_region 3 with (go_at_call 13; (with_reducible refine HCK.out.mono ?_); rintro e w3 ⟨rfl, hB3⟩)
 have hQ3 := HQ.out.keep hB3
 have hB03 := below_up HBB.out hB3
 clear q0 q1 q2 q3 q4 q5 q6
 go_wp2_with (refine wpList_store_row rfl 28 _ _ rfl (w.heap.size + 1) #[.int .i64 0, .int .i64 0, .slice none 0 0, .slice none 0 0, .slice none 0 0, .slice none 0 0, .slice none 0 0] rfl rfl 28 _ hQ3 infoSto rfl (by simp [Value.oneCell']) ?_)
 obtain ⟨g0, g1, g2, g3, g4, g5, g6⟩ := (Blk.setRowAt hQ3 #[.int .i64 0, .int .i64 0, .slice none 0 0, .slice none 0 0, .slice none 0 0, .slice none 0 0, .slice none 0 0]).seven
 refine bodyPost_ret (v := .tuple #[.agg #[.int .i64 0, .int .i64 0, .slice none 0 0, .slice none 0 0, .slice none 0 0, .slice none 0 0, .slice none 0 0], .string ⟨#[]⟩, .int .i64 (q)]) (by simp [results, Tryd.results5, go_sem, g0, g1, g2, g3, g4, g5, g6]) rfl ⟨rfl, below_setRow hB03 (by omega) _⟩
theorem fldName (n : ByteArray) (r c : Int) (y : Bool) (w : World) : (Instr.field 53 (.agg #[.string n, .int .i64 r, .int .i64 c, .bool y]) 0).run Tryd.prog w = .ok (.string n) w := by kernel_rfl
theorem FMap.okD {w : World} {b : Nat} {L : List Fil} (h : FMap w b L) (hu : St.Up (·.dig) L) {d : ByteArray} (hd : d.size ≤ 9223372036854775807) :
  ∃ y : Fil, (Instr.lookup 41 (.map (some b)) (.string d) true).run Tryd.prog w = .ok (.tuple #[.agg #[.string y.dig, .int .i64 y.size, .int .i64 y.kind, .string y.frm], .bool (St.fileOf L d).isSome]) w ∧ y = St.filD L d := by
 refine ⟨(St.lastOf L d).getD St.zeroF, ?_, ?_⟩
 ·rw [h.look_ok hd, St.lastOf_up hu]; rfl
 ·rw [St.lastOf_up hu]; rfl
theorem St.askd_set {s : Sto} {j : Nat} {c : Cop} (h : s.copies[j]? = some c) (now m : Int) (hm : m = if c.asked < now then now else c.asked) : St.askd s j now = { s with copies := s.copies.set j { c with asked := m } } := by
 unfold St.askd
 congr 1
 apply List.ext_getElem?
 intro i
 rw [List.getElem?_modify, List.getElem?_set]
 by_cases e : j = i
 ·subst e
  have := (List.getElem?_eq_some_iff.1 h).1
  rw [if_pos rfl, if_pos this, h, hm]; simp
 ·rw [if_neg e]; cases s.copies[i]? <;> simp [e]
theorem StSz.askd {s : Sto} (z : StSz s) (j : Nat) (now : Int) : StSz (St.askd s j now) := by
 refine ⟨z.tz, z.fz, fun c hc => ?_, z.hz, z.bz⟩
 obtain ⟨i, hi⟩ := List.getElem?_of_mem hc
 unfold St.askd at hi
 rw [List.getElem?_modify] at hi
 obtain ⟨c0, h0, h1⟩ := Option.map_eq_some_iff.1 hi
 have h2 := z.cz c0 (List.mem_of_getElem? h0)
 split at h1 <;> (subst h1; exact h2)
theorem fetch_right (s : Sto) (a : StA) (d : ByteArray) (now : Int) (w : World) (hI : StIn w s a) (r : St.Right s) (hd : d.size ≤ 9223372036854775807) :
  Calls Tryd.prog 5 #[.agg #[.int .i64 s.least, .int .i64 s.wait, .slice a.ta s.tiers.length a.tc, .slice a.fa s.files.length a.fc, .slice a.ca s.copies.length a.cc, .slice a.ha s.held.length a.hc, .slice a.ba s.bin.length a.bc], .string d, .int .i64 now] w fun e w' => (St.fetE s d now ≠ 0 ∧ FetErr w (St.fetE s d now) e w') ∨ (St.fetE s d now = 0 ∧ FetOk w (St.fetS s d now) (St.fetT s d) e w') := by
 obtain ⟨W1, hW1, hP, hz1, hB1⟩ := box w #[.int .i64 s.least, .int .i64 s.wait, .slice a.ta s.tiers.length a.tc, .slice a.fa s.files.length a.fc, .slice a.ca s.copies.length a.cc, .slice a.ha s.held.length a.hc, .slice a.ba s.bin.length a.bc] 28
 obtain ⟨W2, hW2, hQ, hz2, hB2⟩ := box W1 #[.int .i64 0, .int .i64 0, .slice none 0 0, .slice none 0 0, .slice none 0 0, .slice none 0 0, .slice none 0 0] 28
 have HW1 := Lib.hid hW1; have HW2 := Lib.hid hW2
 have hP := hP.keep hB2
 rw [hz1] at hQ
 have HBB := Lib.hid (below_up hB1 hB2)
 have HQ := Lib.hid hQ
 have HI2 := Lib.hid (hI.keep HBB.out)
 have HCK := Lib.hid (check_is s a W2 HI2.out)
 obtain ⟨q0, q1, q2, q3, q4, q5, q6⟩ := hP.seven
 have HP := Lib.hid hP
 have hs2 : w.heap.size + 2 ≤ W2.heap.size := by omega
 clear hW1 hW2 hP hQ hz1 hz2 hB1 hB2
 rw [St.err_iff.2 r] at HCK
 obtain ⟨_, y1, y2, y3, y4, y5⟩ := St.sizes_iff.1 r.sizes
 have HCP := Lib.hid (fun V (hv : Below W2.heap.size W2 V) => copyStore_is s a V (HI2.out.keep hv) ⟨y1, y2, y3, y4, y5⟩)
 unfold CpyPost at HCP
 have HLK := Lib.hid (fun V (b : StA) (hb : StIn V s b) => look_is s b V hb (by omega))
 have HSZ := Lib.hid hI.sz
 have HMO := Lib.hid (fun V => isMomentS_is now V)
 have HGD := Lib.hid (fun V (b : StA) (mb : Nat) (hb : StIn V s b) (h16 : d.size = 16) => good_is s b mb d V hb r h16)
 have HMK := Lib.hid (fun V (b : StA) (mb : Nat) (hb : StIn V s b) (hM : FMap V mb s.files) => makeable_is s b mb d V hb hM r hd)
 have HR := Lib.hid r
 clear hI
 go_enter Tryd.func5, Tryd.ntmps5
 go_upto_region 1 with fail
 rw [HW1.out, HW2.out]
 go_upto_region 4 with (go_at_call 13; (with_reducible refine HCK.out.mono ?_); rintro e w3 ⟨rfl, hB3⟩)
 clear q0 q1 q2 q3 q4 q5 q6
 obtain ⟨q0, q1, q2, q3, q4, q5, q6⟩ := (HP.out.keep hB3).seven
 go_upto_region 5 with (first
  | (go_at_call 15; (with_reducible refine (HCP.out _ hB3).mono ?_); rintro e w4 ⟨b, rfl, hOwn, hB4⟩)
  | (go_at_call 14; (with_reducible refine (HLK.out _ b (hOwn.in_ HSZ.out)).mono ?_); rintro e w5 ⟨mb, rfl, hmb, hM, hB5⟩))
 have hO5 := hOwn.keep hB5
 have HO5 := Lib.hid hO5
 have hB35 := below_up hB4 hB5
 obtain ⟨W6, hW6, hX6, hz6, hB6⟩ := box w5 #[.int .i64 s.least, .int .i64 s.wait, .slice b.ta s.tiers.length b.tc, .slice b.fa s.files.length b.fc, .slice b.ca s.copies.length b.cc, .slice b.ha s.held.length b.hc, .slice b.ba s.bin.length b.bc, .map (some mb)] 43
 have HW6 := Lib.hid hW6
 have HO6 := Lib.hid (hO5.keep hB6); have HM6 := Lib.hid (hM.keep hB6)
 have HB36 := Lib.hid (below_up hB35 hB6)
 have hlt35 := hB35.size
 have hlt36 := HB36.out.size
 have hlt23 := hB3.size
 have HB06 := Lib.hid (below_up HBB.out (below_up hB3 HB36.out))
 have HQ6 := Lib.hid (HQ.out.keep (below_up hB3 HB36.out))
 obtain ⟨v0, v1, v2, v3, v4, v5, v6, v7⟩ := hX6.eight
 have HX6 := Lib.hid hX6
 obtain ⟨y, hlk, hy⟩ := HM6.out.okD r.fup hd
 have HLU := Lib.hid hlk
 have HY := Lib.hid hy
 rw [HW6.out]
 clear hy q0 q1 q2 q3 q4 q5 q6 hW6 hX6 hz6 hlk HCK HCP HLK hmb hM hOwn hO5 hB4 hB5 hB6 hB35
 go_upto_region 6 with fail
 rw [HLU.out]
 go_upto_region 6 with fail
 obtain ⟨W7, hW7, hX7, hz7, hB7⟩ := box W6 #[.string y.dig, .int .i64 y.size, .int .i64 y.kind, .string y.frm] 47
 have HW7 := Lib.hid hW7
 obtain ⟨u0, u1, u2, u3⟩ := hX7.four
 have HX7 := Lib.hid hX7
 have HB67 := Lib.hid hB7
 rw [HW7.out]
 have hFE : Hid (St.fetE s d now = match St.fileOf s.files d with | none => 7 | some f => if St.isMom now = true then (if (St.goodL s d).length = 0 then (if f.kind = 3 ∧ 0 < (St.goodL s f.frm).length then 0 else 11) else 0) else 2) := Lib.hid rfl
 clear v0 v1 v2 v3 v4 v5 v6 v7 hW7 hX7 hz7 hB7
 have hQ7 := HQ6.out.keep HB67.out
 have hB07 := below_up HB06.out HB67.out
 cases hf : St.fileOf s.files d with
 | none =>
   have hE : St.fetE s d now = 7 := by rw [hFE.out, hf]
   have HE := Lib.hid hE
   clear hE
   go_upto_region 7 with fail
   go_wp2_with (refine wpList_store_row rfl 28 _ _ rfl (w.heap.size + 1) #[.int .i64 0, .int .i64 0, .slice none 0 0, .slice none 0 0, .slice none 0 0, .slice none 0 0, .slice none 0 0] rfl rfl 28 _ hQ7 infoSto rfl (by simp [Value.oneCell']) ?_)
   obtain ⟨g0, g1, g2, g3, g4, g5, g6⟩ := (Blk.setRowAt hQ7 #[.int .i64 0, .int .i64 0, .slice none 0 0, .slice none 0 0, .slice none 0 0, .slice none 0 0, .slice none 0 0]).seven
   refine bodyPost_ret (v := .tuple #[.agg #[.int .i64 0, .int .i64 0, .slice none 0 0, .slice none 0 0, .slice none 0 0, .slice none 0 0, .slice none 0 0], .string ⟨#[]⟩, .int .i64 7]) (by simp [results, Tryd.results5, go_sem, g0, g1, g2, g3, g4, g5, g6]) rfl ?_
   rw [HE.out]
   exact .inl ⟨by decide, rfl, below_setRow hB07 (by omega) _⟩
 | some f =>
   have hE : Hid (St.fetE s d now = if St.isMom now = true then (if (St.goodL s d).length = 0 then (if f.kind = 3 ∧ 0 < (St.goodL s f.frm).length then 0 else 11) else 0) else 2) := Lib.hid (by rw [hFE.out, hf])
   have hyf : y = f := HY.out.trans (by unfold St.filD; rw [hf]; rfl)
   have h16 := St.file16 r hf
   have HMKE : Hid (St.mkb s d = (decide (f.kind = 3) && decide (0 < (St.goodL s f.frm).length))) := Lib.hid (by unfold St.mkb; rw [← HY.out, hyf])
   have HFI := Lib.hid (HY.out.symm.trans hyf)
   clear HY hFE HLU
   subst hyf
   obtain ⟨mo, hmo⟩ : ∃ mo, St.isMom now = mo := ⟨_, rfl⟩
   rw [hmo] at HMO hE
   cases mo with
   | false =>
     have HE : Hid (St.fetE s d now = 2) := Lib.hid (by rw [hE.out]; rfl)
     clear hmo hE
     go_upto_region 9 with (go_at_call 16; (with_reducible refine (HMO.out _).mono ?_); rintro e wm ⟨rfl, rfl⟩)
     go_wp2_with (refine wpList_store_row rfl 28 _ _ rfl (w.heap.size + 1) #[.int .i64 0, .int .i64 0, .slice none 0 0, .slice none 0 0, .slice none 0 0, .slice none 0 0, .slice none 0 0] rfl rfl 28 _ hQ7 infoSto rfl (by simp [Value.oneCell']) ?_)
     obtain ⟨g0, g1, g2, g3, g4, g5, g6⟩ := (Blk.setRowAt hQ7 #[.int .i64 0, .int .i64 0, .slice none 0 0, .slice none 0 0, .slice none 0 0, .slice none 0 0, .slice none 0 0]).seven
     refine bodyPost_ret (v := .tuple #[.agg #[.int .i64 0, .int .i64 0, .slice none 0 0, .slice none 0 0, .slice none 0 0, .slice none 0 0, .slice none 0 0], .string ⟨#[]⟩, .int .i64 2]) (by simp [results, Tryd.results5, go_sem, g0, g1, g2, g3, g4, g5, g6]) rfl ?_
     rw [HE.out]
     exact .inl ⟨by decide, rfl, below_setRow hB07 (by omega) _⟩
   | true =>
     have hE2 : Hid (St.fetE s d now = if (St.goodL s d).length = 0 then (if y.kind = 3 ∧ 0 < (St.goodL s y.frm).length then 0 else 11) else 0) := Lib.hid (by rw [hE.out]; rfl)
     clear hmo hE
     have hX7v := HX6.out.keep HB67.out
     obtain ⟨v0, v1, v2, v3, v4, v5, v6, v7⟩ := hX7v.eight
     have HO7 := Lib.hid (HO6.out.keep HB67.out)
     have HG := Lib.hid (HGD.out W7 b mb (HO7.out.in_ HSZ.out) h16)
     unfold TirPost at HG
     have HMK7 := Lib.hid (fun V (hv : Below W7.heap.size W7 V) => HMK.out V b mb ((HO7.out.keep hv).in_ HSZ.out) ((HM6.out.keep HB67.out).keep hv))
     have HVC : Hid (∀ V, Below W7.heap.size W7 V → V.cell? ⟨w5.heap.size, 0, none⟩ = some (.int .i64 s.least) ∧ V.cell? ⟨w5.heap.size, 1, none⟩ = some (.int .i64 s.wait) ∧ V.cell? ⟨w5.heap.size, 2, none⟩ = some (.slice b.ta s.tiers.length b.tc) ∧ V.cell? ⟨w5.heap.size, 3, none⟩ = some (.slice b.fa s.files.length b.fc) ∧ V.cell? ⟨w5.heap.size, 4, none⟩ = some (.slice b.ca s.copies.length b.cc) ∧ V.cell? ⟨w5.heap.size, 5, none⟩ = some (.slice b.ha s.held.length b.hc) ∧ V.cell? ⟨w5.heap.size, 6, none⟩ = some (.slice b.ba s.bin.length b.bc) ∧ V.cell? ⟨w5.heap.size, 7, none⟩ = some (.map (some mb))) := Lib.hid fun V hv => (hX7v.keep hv).eight
     have HUC : Hid (∀ V, Below W7.heap.size W7 V → V.cell? ⟨W6.heap.size, 3, none⟩ = some (.string y.frm)) := Lib.hid fun V hv => ((HX7.out.keep hv).four).2.2.2
     have HQ7 := Lib.hid hQ7
     have HB07 := Lib.hid hB07
     have HFS : Hid (St.fetS s d now = if (St.goodL s d).length = 0 then s else St.askd s (St.pos St.ckey (St.key d (St.fetTier s d)) s.copies) now) := Lib.hid rfl
     have HFT : Hid (St.fetT s d = if (St.goodL s d).length = 0 then y.frm else St.fetTier s d) := Lib.hid (by unfold St.fetT; rw [HFI.out])
     have HHAS := Lib.hid (St.fet_has r h16)
     have HCHE : Hid (St.fetTier s d = (St.cheap (St.goodL s d)).name) := Lib.hid rfl
     have hgl8 := St.goodL_len s d
     clear hX7v hQ7 hB07
     generalize St.goodL s d = GL at *
     obtain ⟨n, hn⟩ : ∃ n, GL.length = n := ⟨_, rfl⟩
     have HN := Lib.hid hn
     rw [hn] at HG hE2 HFS HFT HHAS hgl8
     clear hn
     by_cases hn0 : n = 0
     ·subst hn0
      have hE3 := hE2.out
      rw [if_pos rfl] at hE3
      have hFS := HFS.out
      rw [if_pos rfl] at hFS
      have hFT := HFT.out
      rw [if_pos rfl] at hFT
      cases hmk : St.mkb s d with
      | false =>
        have HE : Hid (St.fetE s d now = 11) := Lib.hid (by
         rw [hE3, if_neg]
         rintro ⟨h1, h2⟩
         have h3 := HMKE.out
         rw [hmk, h1] at h3
         simp [h2] at h3)
        rw [hmk] at HMK7
        clear hE3 hFS hFT hmk
        go_upto_region 14 with (first
         | (go_at_call 16; (with_reducible refine (HMO.out _).mono ?_); rintro e wm ⟨rfl, rfl⟩)
         | (go_at_call 17; (with_reducible refine HG.out.mono ?_); rintro e w8 ⟨g8, cap8, rfl, ho8, hB8⟩; obtain ⟨v0, v1, v2, v3, v4, v5, v6, v7⟩ := HVC.out _ hB8)
         | (go_at_call 18; (with_reducible refine (HMK7.out _ hB8).mono ?_); rintro e w9 ⟨rfl, hB9⟩))
        have hv9 := below_up hB8 hB9
        have hQ9 := HQ7.out.keep hv9
        have hB09 := below_up HB07.out hv9
        go_wp2_with (refine wpList_store_row rfl 28 _ _ rfl (w.heap.size + 1) #[.int .i64 0, .int .i64 0, .slice none 0 0, .slice none 0 0, .slice none 0 0, .slice none 0 0, .slice none 0 0] rfl rfl 28 _ hQ9 infoSto rfl (by simp [Value.oneCell']) ?_)
        obtain ⟨g0, g1, g2, g3, g4, g5, g6⟩ := (Blk.setRowAt hQ9 #[.int .i64 0, .int .i64 0, .slice none 0 0, .slice none 0 0, .slice none 0 0, .slice none 0 0, .slice none 0 0]).seven
        refine bodyPost_ret (v := .tuple #[.agg #[.int .i64 0, .int .i64 0, .slice none 0 0, .slice none 0 0, .slice none 0 0, .slice none 0 0, .slice none 0 0], .string ⟨#[]⟩, .int .i64 11]) (by simp [results, Tryd.results5, go_sem, g0, g1, g2, g3, g4, g5, g6]) rfl ?_
        rw [HE.out]
        exact .inl ⟨by decide, rfl, below_setRow hB09 (by omega) _⟩
      | true =>
        have HE : Hid (St.fetE s d now = 0) := Lib.hid (by
         rw [hE3, if_pos]
         have h3 := HMKE.out
         rw [hmk] at h3
         simpa using h3.symm)
        have HFS2 := Lib.hid hFS; have HFT2 := Lib.hid hFT
        rw [hmk] at HMK7
        clear hE3 hFS hFT hmk
        go_upto_region 12 with (first
         | (go_at_call 16; (with_reducible refine (HMO.out _).mono ?_); rintro e wm ⟨rfl, rfl⟩)
         | (go_at_call 17; (with_reducible refine HG.out.mono ?_); rintro e w8 ⟨g8, cap8, rfl, ho8, hB8⟩; obtain ⟨v0, v1, v2, v3, v4, v5, v6, v7⟩ := HVC.out _ hB8)
         | (go_at_call 18; (with_reducible refine (HMK7.out _ hB8).mono ?_); rintro e w9 ⟨rfl, hB9⟩))
        have hv9 := below_up hB8 hB9
        have hQd := HQ7.out.keep hv9
        have hBd := below_up HB07.out hv9
        have hOd := HO7.out.keep hv9
        have hltB : w.heap.size + 1 < w3.heap.size := by omega
        clear v0 v1 v2 v3 v4 v5 v6 v7 u0 u1 u2 u3
        obtain ⟨z0, z1, z2, z3, z4, z5, z6⟩ := (HQ7.out.keep hv9).seven
        have zf := (HQ7.out.keep hv9).free
        have n5 : ¬ w5.heap.size = w.heap.size + 1 := by omega
        have n6 : ¬ W6.heap.size = w.heap.size + 1 := by omega
        obtain ⟨x0, x1, x2, x3, x4, x5, x6, x7⟩ := HVC.out _ hv9
        have f4 := HUC.out _ hv9
        go_region
        have hZ := (((((((hQd.set 0 (.int .i64 s.least)).set 1 (.int .i64 s.wait)).set 2 (.slice b.ta s.tiers.length b.tc)).set 3 (.slice b.fa s.files.length b.fc)).set 4 (.slice b.ca s.copies.length b.cc)).set 5 (.slice b.ha s.held.length b.hc)).set 6 (.slice b.ba s.bin.length b.bc))
        have hBz := (((((((hBd.setCell (p := ⟨w.heap.size + 1, 0, none⟩) (by simp) (.int .i64 s.least)).setCell (p := ⟨w.heap.size + 1, 1, none⟩) (by simp) (.int .i64 s.wait)).setCell (p := ⟨w.heap.size + 1, 2, none⟩) (by simp) (.slice b.ta s.tiers.length b.tc)).setCell (p := ⟨w.heap.size + 1, 3, none⟩) (by simp) (.slice b.fa s.files.length b.fc)).setCell (p := ⟨w.heap.size + 1, 4, none⟩) (by simp) (.slice b.ca s.copies.length b.cc)).setCell (p := ⟨w.heap.size + 1, 5, none⟩) (by simp) (.slice b.ha s.held.length b.hc)).setCell (p := ⟨w.heap.size + 1, 6, none⟩) (by simp) (.slice b.ba s.bin.length b.bc))
        have o1 := (((((((hOd.ti.next (i := 0) (b := w.heap.size + 1) (u := .int .i64 s.least) (Below.refl _ _) hltB).next (i := 1) (b := w.heap.size + 1) (u := .int .i64 s.wait) (Below.refl _ _) hltB).next (i := 2) (b := w.heap.size + 1) (u := .slice b.ta s.tiers.length b.tc) (Below.refl _ _) hltB).next (i := 3) (b := w.heap.size + 1) (u := .slice b.fa s.files.length b.fc) (Below.refl _ _) hltB).next (i := 4) (b := w.heap.size + 1) (u := .slice b.ca s.copies.length b.cc) (Below.refl _ _) hltB).next (i := 5) (b := w.heap.size + 1) (u := .slice b.ha s.held.length b.hc) (Below.refl _ _) hltB).next (i := 6) (b := w.heap.size + 1) (u := .slice b.ba s.bin.length b.bc) (Below.refl _ _) hltB)
        have o2 := (((((((hOd.fi.next (i := 0) (b := w.heap.size + 1) (u := .int .i64 s.least) (Below.refl _ _) hltB).next (i := 1) (b := w.heap.size + 1) (u := .int .i64 s.wait) (Below.refl _ _) hltB).next (i := 2) (b := w.heap.size + 1) (u := .slice b.ta s.tiers.length b.tc) (Below.refl _ _) hltB).next (i := 3) (b := w.heap.size + 1) (u := .slice b.fa s.files.length b.fc) (Below.refl _ _) hltB).next (i := 4) (b := w.heap.size + 1) (u := .slice b.ca s.copies.length b.cc) (Below.refl _ _) hltB).next (i := 5) (b := w.heap.size + 1) (u := .slice b.ha s.held.length b.hc) (Below.refl _ _) hltB).next (i := 6) (b := w.heap.size + 1) (u := .slice b.ba s.bin.length b.bc) (Below.refl _ _) hltB)
        have o3 := (((((((hOd.co.next (i := 0) (b := w.heap.size + 1) (u := .int .i64 s.least) (Below.refl _ _) hltB).next (i := 1) (b := w.heap.size + 1) (u := .int .i64 s.wait) (Below.refl _ _) hltB).next (i := 2) (b := w.heap.size + 1) (u := .slice b.ta s.tiers.length b.tc) (Below.refl _ _) hltB).next (i := 3) (b := w.heap.size + 1) (u := .slice b.fa s.files.length b.fc) (Below.refl _ _) hltB).next (i := 4) (b := w.heap.size + 1) (u := .slice b.ca s.copies.length b.cc) (Below.refl _ _) hltB).next (i := 5) (b := w.heap.size + 1) (u := .slice b.ha s.held.length b.hc) (Below.refl _ _) hltB).next (i := 6) (b := w.heap.size + 1) (u := .slice b.ba s.bin.length b.bc) (Below.refl _ _) hltB)
        have o4 := (((((((hOd.he.next (i := 0) (b := w.heap.size + 1) (u := .int .i64 s.least) (Below.refl _ _) hltB).next (i := 1) (b := w.heap.size + 1) (u := .int .i64 s.wait) (Below.refl _ _) hltB).next (i := 2) (b := w.heap.size + 1) (u := .slice b.ta s.tiers.length b.tc) (Below.refl _ _) hltB).next (i := 3) (b := w.heap.size + 1) (u := .slice b.fa s.files.length b.fc) (Below.refl _ _) hltB).next (i := 4) (b := w.heap.size + 1) (u := .slice b.ca s.copies.length b.cc) (Below.refl _ _) hltB).next (i := 5) (b := w.heap.size + 1) (u := .slice b.ha s.held.length b.hc) (Below.refl _ _) hltB).next (i := 6) (b := w.heap.size + 1) (u := .slice b.ba s.bin.length b.bc) (Below.refl _ _) hltB)
        have o5 := (((((((hOd.bi.next (i := 0) (b := w.heap.size + 1) (u := .int .i64 s.least) (Below.refl _ _) hltB).next (i := 1) (b := w.heap.size + 1) (u := .int .i64 s.wait) (Below.refl _ _) hltB).next (i := 2) (b := w.heap.size + 1) (u := .slice b.ta s.tiers.length b.tc) (Below.refl _ _) hltB).next (i := 3) (b := w.heap.size + 1) (u := .slice b.fa s.files.length b.fc) (Below.refl _ _) hltB).next (i := 4) (b := w.heap.size + 1) (u := .slice b.ca s.copies.length b.cc) (Below.refl _ _) hltB).next (i := 5) (b := w.heap.size + 1) (u := .slice b.ha s.held.length b.hc) (Below.refl _ _) hltB).next (i := 6) (b := w.heap.size + 1) (u := .slice b.ba s.bin.length b.bc) (Below.refl _ _) hltB)
        have hZ := hZ.drew; have hBz := hBz.drew
        have o1 := o1.keep (Below.refl _ _).drew; have o2 := o2.keep (Below.refl _ _).drew; have o3 := o3.keep (Below.refl _ _).drew; have o4 := o4.keep (Below.refl _ _).drew; have o5 := o5.keep (Below.refl _ _).drew
        obtain ⟨V, hV⟩ : ∃ V, (((((((w9.setCell ⟨w.heap.size + 1, 0, none⟩ (.int .i64 s.least)).setCell ⟨w.heap.size + 1, 1, none⟩ (.int .i64 s.wait)).setCell ⟨w.heap.size + 1, 2, none⟩ (.slice b.ta s.tiers.length b.tc)).setCell ⟨w.heap.size + 1, 3, none⟩ (.slice b.fa s.files.length b.fc)).setCell ⟨w.heap.size + 1, 4, none⟩ (.slice b.ca s.copies.length b.cc)).setCell ⟨w.heap.size + 1, 5, none⟩ (.slice b.ha s.held.length b.hc)).setCell ⟨w.heap.size + 1, 6, none⟩ (.slice b.ba s.bin.length b.bc)).drew = V := ⟨_, rfl⟩
        rw [hV] at hZ hBz o1 o2 o3 o4 o5 ⊢
        have hZ : Blk V (w.heap.size + 1) #[.int .i64 s.least, .int .i64 s.wait, .slice b.ta s.tiers.length b.tc, .slice b.fa s.files.length b.fc, .slice b.ca s.copies.length b.cc, .slice b.ha s.held.length b.hc, .slice b.ba s.bin.length b.bc] 28 := hZ
        obtain ⟨g0, g1, g2, g3, g4, g5, g6⟩ := hZ.seven
        clear hV
        go_wp2_with fail
        refine bodyPost_ret (v := .tuple #[.agg #[.int .i64 s.least, .int .i64 s.wait, .slice b.ta s.tiers.length b.tc, .slice b.fa s.files.length b.fc, .slice b.ca s.copies.length b.cc, .slice b.ha s.held.length b.hc, .slice b.ba s.bin.length b.bc], .string y.frm, .int .i64 0]) (by simp [results, Tryd.results5, go_sem, g0, g1, g2, g3, g4, g5, g6]) rfl ?_
        rw [HE.out, HFS2.out, HFT2.out]
        exact .inr ⟨rfl, b, rfl, StOwn.in_ ⟨o1, o2, o3, o4, o5⟩ HSZ.out, hBz⟩
     ·have hnp : 0 < n := by omega
      have hE3 : St.fetE s d now = 0 := by rw [hE2.out, if_neg hn0]
      have hFS : St.fetS s d now = St.askd s (St.pos St.ckey (St.key d (St.fetTier s d)) s.copies) now := by rw [HFS.out, if_neg hn0]
      have hFT : St.fetT s d = St.fetTier s d := by rw [HFT.out, if_neg hn0]
      obtain ⟨hhk, hts⟩ := HHAS.out hnp
      have HE := Lib.hid hE3; have HFS2 := Lib.hid hFS; have HFT2 := Lib.hid hFT
      have HCHP : Hid (∀ V ad ca, RowE St.eT V ad GL → Calls Tryd.prog 19 #[.slice ad n ca] V fun e w' => e = .returned (.agg #[.string (St.cheap GL).name, .int .i64 (St.cheap GL).room, .int .i64 (St.cheap GL).cost, .bool (St.cheap GL).away]) ∧ Below V.heap.size V w') := Lib.hid fun V ad ca hr => by
       have h := cheapest_is GL (by rw [HN.out]; exact hnp) (by rw [HN.out]; omega) ad ca V hr
       rw [HN.out] at h
       exact h
      have hct := HCHE.out
      rw [hct] at HFS2 HFT2 hhk hts
      generalize St.cheap GL = ct at *
      have HFLD := Lib.hid (fldName ct.name ct.room ct.cost ct.away)
      have hfld := HFLD.out
      have hcz : ∀ x ∈ s.copies, x.dig.size ≤ 100 ∧ x.tier.size ≤ 100 := fun x hx => by
       obtain ⟨g1, g2, _⟩ := St.cop_good r hx
       omega
      have HCR := Lib.hid (fun V => copiesRow_is s b V)
      have HKY := Lib.hid (fun V => copyKey_is d ct.name (by omega) hts V)
      have HPL := Lib.hid (fun V (hV : Below W7.heap.size W7 V) => placeC_is s.copies (St.cop_up r) hcz (by omega) (St.key d ct.name) b.ca b.cc V ((HO7.out.keep hV).co.caps) (RowE.ofV (E := St.eC) (HO7.out.keep hV).co))
      obtain ⟨c, hc, hck⟩ := St.hasK_at (St.cop_up r) hhk
      have HC := Lib.hid hc
      rw [hhk] at HPL
      generalize St.key d ct.name = key at *
      obtain ⟨ps, hps⟩ : ∃ ps, St.pos St.ckey key s.copies = ps := ⟨_, rfl⟩
      rw [hps] at HPL HFS2 HC
      have hpc := (List.getElem?_eq_some_iff.1 HC.out).1
      have hn1 : ((n : Int) == 0) = false := by simp; omega
      clear hE3 hFS hFT hct hcz hc hck hps hhk
      go_upto_region 17 with (first
       | (go_at_call 16; (with_reducible refine (HMO.out _).mono ?_); rintro e wm ⟨rfl, rfl⟩)
       | (go_at_call 17; (with_reducible refine HG.out.mono ?_); rintro e w8 ⟨g8, cap8, rfl, ho8, hB8⟩; obtain ⟨v0, v1, v2, v3, v4, v5, v6, v7⟩ := HVC.out _ hB8)
       | (go_at_call 19; (refine (HCHP.out _ _ _ (RowE.ofV (E := St.eT) (by rw [HN.out]; exact ho8))).mono ?_); rintro e w9 ⟨rfl, hB9⟩; have hv9 := below_up hB8 hB9; obtain ⟨v0, v1, v2, v3, v4, v5, v6, v7⟩ := HVC.out _ hv9)
       | (go_at_call 20; (with_reducible refine (HCR.out _).mono ?_); rintro e w10 ⟨rfl, hB10⟩; have hv10 := below_up hv9 hB10)
       | (go_at_call 22; (with_reducible refine (HKY.out _).mono ?_); rintro e wo ⟨rfl, hwo⟩; subst hwo)
       | (go_at_call 21; (with_reducible refine (HPL.out _ hv10).mono ?_); rintro e w11 ⟨rfl, hB11⟩; have hv11 := below_up hv10 hB11))
      have HAS := Lib.hid (St.askd_set HC.out now (max c.asked now) (by rw [Int.max_def]; split <;> split <;> omega))
      obtain ⟨g, hga, hgB, hgl, hgc, hgf, hown⟩ := (HO7.out.keep hv11).setCop HC.out (i := 3) (v := .int .i64 (max c.asked now)) (c' := { c with asked := max c.asked now }) (by decide) rfl
      have f0 : w11.cell? ⟨g, ps * 4 + 3, none⟩ = some (.int .i64 c.asked) := hgc
      clear v0 v1 v2 v3 v4 v5 v6 v7 u0 u1 u2 u3 hgc
      obtain ⟨x0, x1, x2, x3, x4, x5, x6, x7⟩ := HVC.out _ hv11
      rw [hga] at x4
      have hq0 : (0 : Int) ≤ (ps : Int) := by omega
      have hq1 : (ps : Int) < (s.copies.length : Int) := by omega
      obtain ⟨g', hga', _, hgl', _⟩ := HO5.out.setCop HC.out (i := 3) (v := .int .i64 (max c.asked now)) (c' := { c with asked := max c.asked now }) (by decide) rfl
      rw [hga] at hga'
      injection hga' with hga'
      injection hga' with hga'
      subst hga'
      have hgw : ¬ g = w5.heap.size := by omega
      have hgr : ¬ w.heap.size + 1 = g := by omega
      have HOW := Lib.hid hown
      clear hown
      rw [hga]
      go_region
      have hVw := (HX6.out.keep (below_up HB67.out hv11)).setOther (a := ⟨g, ps * 4 + 3, none⟩) (fun e => hgw e.symm) (.int .i64 (max c.asked now))
      have hQw := (HQ7.out.keep hv11).setOther (a := ⟨g, ps * 4 + 3, none⟩) hgr (.int .i64 (max c.asked now))
      have hBw := (below_up HB07.out hv11).setCell (p := ⟨g, ps * 4 + 3, none⟩) (show w.heap.size ≤ g by omega) (.int .i64 (max c.asked now))
      have hVw := hVw.drew; have hQw := hQw.drew; have hBw := hBw.drew
      have hOw := HOW.out.keep (Below.refl _ _).drew
      have hSZw := HSZ.out.askd ps now
      obtain ⟨V, hV⟩ : ∃ V, (w11.setCell ⟨g, ps * 4 + 3, none⟩ (.int .i64 (max c.asked now))).drew = V := ⟨_, rfl⟩
      rw [hV] at hVw hQw hBw hOw ⊢
      have HOV := Lib.hid hOw
      clear hV hOw x0 x1 x2 x3 x4 x5 x6 x7 f0 hgf
      obtain ⟨x0, x1, x2, x3, x4, x5, x6, x7⟩ := hVw.eight
      rw [hga] at x4
      go_wp2_with (refine wpList_store_row rfl 28 _ _ rfl (w.heap.size + 1) #[.int .i64 s.least, .int .i64 s.wait, .slice b.ta s.tiers.length b.tc, .slice b.fa s.files.length b.fc, .slice (some ⟨g, 0, none⟩) s.copies.length b.cc, .slice b.ha s.held.length b.hc, .slice b.ba s.bin.length b.bc] rfl rfl 28 _ hQw infoSto rfl (by simp [Value.oneCell']) ?_)
      obtain ⟨g0, g1, g2, g3, g4, g5, g6⟩ := (Blk.setRowAt hQw #[.int .i64 s.least, .int .i64 s.wait, .slice b.ta s.tiers.length b.tc, .slice b.fa s.files.length b.fc, .slice (some ⟨g, 0, none⟩) s.copies.length b.cc, .slice b.ha s.held.length b.hc, .slice b.ba s.bin.length b.bc]).seven
      refine bodyPost_ret (v := .tuple #[.agg #[.int .i64 s.least, .int .i64 s.wait, .slice b.ta s.tiers.length b.tc, .slice b.fa s.files.length b.fc, .slice (some ⟨g, 0, none⟩) s.copies.length b.cc, .slice b.ha s.held.length b.hc, .slice b.ba s.bin.length b.bc], .string ct.name, .int .i64 0]) (by simp [results, Tryd.results5, go_sem, g0, g1, g2, g3, g4, g5, g6]) rfl ?_
      rw [HE.out, HFS2.out, HFT2.out]
      have hOZ := HOV.out.setRow (b := w.heap.size + 1) (by omega) #[.int .i64 s.least, .int .i64 s.wait, .slice b.ta s.tiers.length b.tc, .slice b.fa s.files.length b.fc, .slice (some ⟨g, 0, none⟩) s.copies.length b.cc, .slice b.ha s.held.length b.hc, .slice b.ba s.bin.length b.bc]
      rw [HAS.out] at hSZw ⊢
      refine .inr ⟨rfl, b, ?_, hOZ.in_ hSZw, below_setRow hBw (by omega) _⟩
      rw [hga]
      simp only [List.length_set]
end Go.Proofs.YthdiccdnggloiaaDoor
