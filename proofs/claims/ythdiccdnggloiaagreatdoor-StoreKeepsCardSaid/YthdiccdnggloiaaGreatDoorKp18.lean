/- Parts of the proof, no condition: StKpH, StKpI, StKpJ, StImq. -/
import Derived.Test.YthdiccdnggloiaaGreatDoorKp17
import Derived.Test.YthdiccdnggloiaaGreatDoorKp7
import Derived.Test.YthdiccdnggloiaaGreatDoorKp4
import Derived.Test.YthdiccdnggloiaaGreatDoorKp9
set_option maxRecDepth 100000
set_option maxHeartbeats 16000000
set_option linter.unusedSimpArgs false
set_option linter.unusedVariables false
namespace Go.Proofs.YthdiccdnggloiaaGreatDoor
open Go.RowKit Go.Sort Go.Shelf Go.Maps
theorem checkImportS_full (s : Sto) (a : StA) (f : Fil) (hfz : f.dig.size ≤ 9223372036854775807) (hf100 : f.frm.size ≤ 9223372036854775807) (tier : ByteArray) (now : Int) (w : World) (hI : StIn w s a) (r : St.Right s) (hq0 : St.faultE f = 0) (hd16 : f.dig.size = 16) (hko : f.kind = 1 ∨ St.kindOf s.files f.frm = 1) (hyo : (St.fileOf s.files f.dig).isSome = false ∨ St.filD s.files f.dig = f) (x : Tir) (hx : x.name = tier) (kk : Nat) (hkk : s.tiers[kk]? = some x) (hka : St.tierAt s.tiers tier = (kk : Int)) (hm : St.isMom now = true) (hk : St.copyAt s f.dig tier < 0) (hfr : x.room - St.used s.files tier s.copies < f.size) : Calls Tryz.prog 50 #[.agg #[.int .i64 s.least, .int .i64 s.wait, .slice a.ta s.tiers.length a.tc, .slice a.fa s.files.length a.fc, .slice a.ca s.copies.length a.cc, .slice a.ha s.held.length a.hc, .slice a.ba s.bin.length a.bc], .agg #[.string f.dig, .int .i64 f.size, .int .i64 f.kind, .string f.frm], .string tier, .int .i64 now] w (CkPost w 12) := by
 have HFZ2 := Lib.hid hfz
 have hM0 : St.Up (·.dig) s.files := r.fup
 have HFU := Lib.hid hM0
 have hcf := fun V => checkFile_is f ⟨#[]⟩ hfz V
 rw [show St.fileC f ⟨#[]⟩ = St.faultE f from (St.fileE_bef [] f).symm] at hcf
 have HCF := Lib.hid hcf
 clear hcf
 rw [hq0] at HCF
 have hy2 := (St.sizes_iff.1 r.sizes).2.2.1
 obtain ⟨W0, hW0, hP, hz0, hB0⟩ := box w #[.int .i64 s.least, .int .i64 s.wait, .slice a.ta s.tiers.length a.tc, .slice a.fa s.files.length a.fc, .slice a.ca s.copies.length a.cc, .slice a.ha s.held.length a.hc, .slice a.ba s.bin.length a.bc] 28
 obtain ⟨W1, hW1, hD, hz1, hB1⟩ := box W0 #[.string f.dig, .int .i64 f.size, .int .i64 f.kind, .string f.frm] 30
 rw [hz0] at hD hz1
 have hP := hP.keep hB1
 have hBB := below_up hB0 hB1
 have HW0 := Lib.hid hW0; have HW1 := Lib.hid hW1; have HP := Lib.hid hP; have HD := Lib.hid hD; have HBB := Lib.hid hBB
 have HI1 := Lib.hid (hI.keep hBB)
 obtain ⟨q0, q1, q2, q3, q4, q5, q6⟩ := hP.seven
 obtain ⟨d0, d1, d2, d3⟩ := hD.four
 have HSE := Lib.hid (fun V (hv : Below W1.heap.size W1 V) => storeError_is s a V (HI1.out.keep hv))
 clear hI hW0 hW1 hP hD hz0 hz1 hB0 hB1 hBB
 have hv : Below W1.heap.size W1 W1 := Below.refl _ _
 have HBY := Lib.hid (fun V (hv : Below W1.heap.size W1 V) => byDigest_is s a V (HI1.out.keep hv) hy2)
 have HTA := Lib.hid (fun V (hv : Below W1.heap.size W1 V) => tierAt_is s a tier V (HI1.out.keep hv))
 have HMO := Lib.hid (fun V => isMomentS_is now V)
 have HLO := Lib.hid (fun (V : World) mb (hM : FMap V mb s.files) => hM.okD r.fup hfz)
 have HLZ := Lib.hid (fun (V : World) mb (hM : FMap V mb s.files) => hM.kind r.fup hf100)
 obtain ⟨yb, hyb⟩ : ∃ yb, yb = (St.fileOf s.files f.dig).isSome := ⟨_, rfl⟩
 rw [← hyb] at HLO
 obtain ⟨bk, hbk⟩ : ∃ bk, (f.kind != 1) = bk := ⟨_, rfl⟩
 obtain ⟨bz, hbz⟩ : ∃ bz, (St.kindOf s.files f.frm != 1) = bz := ⟨_, rfl⟩
 have HBZ := Lib.hid (show ∀ z, z = St.filD s.files f.frm → (z.kind != 1) = bz from fun z hz => by rw [hz, ← hbz, St.filD_kind])
 have hgd := guardFil
 clear hq0 hy2 hM0 hbz
 have hkr : (bk && bz) = false := by
  rcases hko with h | h
  ·rw [← hbk, h]; rfl
  ·have := HBZ.out _ rfl
   rw [← this, St.filD_kind, h]; simp
 clear hko
 rw [← hyb] at hyo
 rw [hm] at HMO
 have hsz16 : f.dig.size ≤ 100 := by omega
 have htz : tier.size ≤ 100 := by
  have := St.nm40 (St.tier_good r (List.mem_of_getElem? hkk)).1
  rw [hx] at this; omega
 have HCKY := Lib.hid (fun V => copyKey_is f.dig tier hsz16 htz V)
 have HHS := Lib.hid (fun V (hI : StIn V s a) => hasC_is s.copies (St.cop_up r) (fun x hx => by have := St.cop_good r hx; omega) (by have := (St.sizes_iff.1 r.sizes).2.2.2.1; omega) (St.key f.dig tier) a.ca a.cc V hI.cl hI.co)
 have HFI := Lib.hid (fun V mb (hI : StIn V s a) (hM : FMap V mb s.files) => free_is s a x mb V hI hM r.fup (St.szs_of (F := s.files) (fun f hf => (r.dig f hf).2)) (St.sizes_iff.1 r.sizes).2.2.2.1 (St.tier_good r (List.mem_of_getElem? hkk)).2.1)
 have HKK := Lib.hid hkk; have HXN := Lib.hid hx
 have HKL : Hid (kk < s.tiers.length) := Lib.hid (List.getElem?_eq_some_iff.1 hkk).1
 rw [hx] at HFI
 rw [hka] at HTA
 have ht0 : ¬ ((kk : Int) < 0) := by omega
 have ht1 : decide ((kk : Int) < 0) = false := decide_eq_false ht0
 have hhk : St.hasK St.ckey s.copies (St.key f.dig tier) = false := by
  cases h : St.hasK St.ckey s.copies (St.key f.dig tier) with
  | false => rfl
  | true => have := (St.copyAt_pos (t := tier) r hd16).1 h; omega
 rw [hhk] at HHS
 generalize x.room - St.used s.files tier s.copies = fq at *
 have hf1 : decide (fq < f.size) = true := decide_eq_true hfr
 have hf2 : (fq < f.size) = True := eq_true hfr
 clear r hyb hm hk hhk hsz16 htz hx hkk hka hd16
 cases yb
 ·have HYT : Hid True := Lib.hid trivial
  clear hyo
  have hbb : bk = false ∨ (bk = true ∧ bz = false) := by cases bk <;> cases bz <;> first | exact .inl rfl | exact .inr ⟨rfl, rfl⟩ | cases hkr
  clear hkr
  rcases hbb with rfl | ⟨rfl, rfl⟩
  all_goals
   go_enter Tryz.func50, Tryz.ntmps50
   go_upto_region 1 with fail
   rw [HW0.out, HW1.out]
   go_upto_region 5 with (first
    | (go_at_call 131; (with_reducible refine (HCF.out _).mono ?_); rintro e w6 ⟨rfl, hq⟩; have hv := below_up hv hq; obtain ⟨q0, q1, q2, q3, q4, q5, q6⟩ := (HP.out.keep hv).seven; obtain ⟨d0, d1, d2, d3⟩ := (HD.out.keep hv).four)
    | (go_at_call 98; (with_reducible refine (HBY.out _ hv).mono ?_); rintro e w7 ⟨mb, rfl, hmb, hM, hq⟩; have hv := below_up hv hq; obtain ⟨q0, q1, q2, q3, q4, q5, q6⟩ := (HP.out.keep hv).seven; obtain ⟨d0, d1, d2, d3⟩ := (HD.out.keep hv).four))
   obtain ⟨y, hlk, hy⟩ := HLO.out _ mb hM
   obtain ⟨yq, hyq⟩ := St.bool_of (y = f)
   have hne := fun W => neqF y f W yq hyq
   have HY := Lib.hid hy; have HYQ := Lib.hid hyq
   clear hy hyq hmb
   go_upto_region 6 with fail
   obtain ⟨w8, hW8, hX8, hz8, hB8⟩ := box w7 #[.string y.dig, .int .i64 y.size, .int .i64 y.kind, .string y.frm] 30
   rw [hW8]
   have hv := below_up hv hB8
   have HX8 := Lib.hid hX8
   have hM := hM.keep hB8
   clear hW8 hX8 hz8 hB8 hlk
   obtain ⟨q0, q1, q2, q3, q4, q5, q6⟩ := (HP.out.keep hv).seven; obtain ⟨d0, d1, d2, d3⟩ := (HD.out.keep hv).four
   go_upto_region 7 with (go_at_call 91; (with_reducible refine (HTA.out _ hv).mono ?_); rintro e w9 ⟨rfl, hq⟩; have hv := below_up hv hq; obtain ⟨q0, q1, q2, q3, q4, q5, q6⟩ := (HP.out.keep hv).seven; obtain ⟨d0, d1, d2, d3⟩ := (HD.out.keep hv).four)
   obtain ⟨x0, x1, x2, x3⟩ := (HX8.out.keep hq).four
   have hM := hM.keep hq
   have HM := Lib.hid hM
   obtain ⟨z, hlz, hz⟩ := HLZ.out _ mb hM
   have hzb := HBZ.out z hz
   have hfk := fldKind z.dig z.frm z.size z.kind
   clear hz hM hq
   go_upto_region 15 with (go_at_call 132; (with_reducible refine (HMO.out _).mono ?_); rintro e w10 ⟨rfl, rfl⟩)
   have HBV := Lib.hid (below_up HBB.out hv)
   have HIV := Lib.hid (fun U (h : Below w9.heap.size w9 U) => HI1.out.keep (below_up hv h))
   have HMV := Lib.hid (fun U (h : Below w9.heap.size w9 U) => HM.out.keep h)
   have HCR := Lib.hid (fun d os => Calls.regrown_of (copiesRow_is s a (grow (redrawn w9 d) os)))
   have HKR := Lib.hid (fun d os => regrown_same (HCKY.out (grow (redrawn w9 d) os)))
   have HSR := Lib.hid (fun d os => Calls.regrown_of (HHS.out (grow (redrawn w9 d) os) (HIV.out _ (below_regrown w9 d os))))
   have HFR := Lib.hid (fun d os => Calls.regrown_of (HFI.out (grow (redrawn w9 d) os) mb (HIV.out _ (below_regrown w9 d os)) (HMV.out _ (below_regrown w9 d os))))
   obtain ⟨tb, off, ha, hb, hcell⟩ := (HIV.out _ (Below.refl _ _)).ti (by have := HKL.out; omega)
   have c0 : w9.cell? ⟨tb, off + kk * 4, none⟩ = some (.string tier) := by rw [← HXN.out]; exact hcell kk x HKK.out 0 (.string x.name) rfl
   have c1 : w9.cell? ⟨tb, off + kk * 4 + 1, none⟩ = some (.int .i64 x.room) := hcell kk x HKK.out 1 (.int .i64 x.room) rfl
   have c2 : w9.cell? ⟨tb, off + kk * 4 + 2, none⟩ = some (.int .i64 x.cost) := hcell kk x HKK.out 2 (.int .i64 x.cost) rfl
   have c3 : w9.cell? ⟨tb, off + kk * 4 + 3, none⟩ = some (.bool x.away) := hcell kk x HKK.out 3 (.bool x.away) rfl
   have hj0 : (0 : Int) ≤ (kk : Int) := by omega
   have hj1 : (kk : Int) < (s.tiers.length : Int) := by have := HKL.out; omega
   rw [ha] at q2 HCR HFR
   have k0 := cell_regrown q0
   have k1 := cell_regrown q1
   have k2 := cell_regrown q2
   have k3 := cell_regrown q3
   have k4 := cell_regrown q4
   have k5 := cell_regrown q5
   have k6 := cell_regrown q6
   have m0 := cell_regrown d0
   have m1 := cell_regrown d1
   have m2 := cell_regrown d2
   have m3 := cell_regrown d3
   have n0 := cell_regrown c0
   have n1 := cell_regrown c1
   have n2 := cell_regrown c2
   have n3 := cell_regrown c3
   clear q0 q1 q2 q3 q4 q5 q6 d0 d1 d2 d3 x0 x1 x2 x3 c0 c1 c2 c3 ha hb hcell hlz
   refine wp_region_quiet_below (by kernel_rfl) (by kernel_rfl) ?_
   repeat (go_big_quiet_step ((first | (go_at_call 54; with_reducible exact HCR.out _ _) | (go_at_call 56; with_reducible exact HKR.out _ _) | (go_at_call 133; with_reducible exact HSR.out _ _) | (go_at_call 97; with_reducible exact HFR.out _ _))))
   refine wpQuiet_nil ?_
   intro _ hw'
   obtain ⟨⟨dq, osq⟩, hw''⟩ := hw'
   subst hw''
   have hBu9 := below_regrown w9 dq osq
   generalize grow (redrawn w9 dq) osq = u9 at *
   clear dq osq
   have hv := below_up hv hBu9
   clear hBu9
   obtain ⟨q0, q1, q2, q3, q4, q5, q6⟩ := (HP.out.keep hv).seven; obtain ⟨d0, d1, d2, d3⟩ := (HD.out.keep hv).four
   have x0 := trivial; have x1 := trivial; have x2 := trivial; have x3 := trivial
   have HBW := Lib.hid (below_up HBB.out hv)
   go_wp2_with fail
   go_ret
   exact ⟨rfl, HBW.out⟩
 ·have HYT : Hid (St.filD s.files f.dig = f) := Lib.hid (hyo.resolve_left (by decide))
  clear hyo
  have hbb : bk = false ∨ (bk = true ∧ bz = false) := by cases bk <;> cases bz <;> first | exact .inl rfl | exact .inr ⟨rfl, rfl⟩ | cases hkr
  clear hkr
  rcases hbb with rfl | ⟨rfl, rfl⟩
  all_goals
   go_enter Tryz.func50, Tryz.ntmps50
   go_upto_region 1 with fail
   rw [HW0.out, HW1.out]
   go_upto_region 5 with (first
    | (go_at_call 131; (with_reducible refine (HCF.out _).mono ?_); rintro e w6 ⟨rfl, hq⟩; have hv := below_up hv hq; obtain ⟨q0, q1, q2, q3, q4, q5, q6⟩ := (HP.out.keep hv).seven; obtain ⟨d0, d1, d2, d3⟩ := (HD.out.keep hv).four)
    | (go_at_call 98; (with_reducible refine (HBY.out _ hv).mono ?_); rintro e w7 ⟨mb, rfl, hmb, hM, hq⟩; have hv := below_up hv hq; obtain ⟨q0, q1, q2, q3, q4, q5, q6⟩ := (HP.out.keep hv).seven; obtain ⟨d0, d1, d2, d3⟩ := (HD.out.keep hv).four))
   obtain ⟨y, hlk, hy⟩ := HLO.out _ mb hM
   obtain ⟨yq, hyq⟩ := St.bool_of (y = f)
   have hne := fun W => neqF y f W yq hyq
   have HY := Lib.hid hy; have HYQ := Lib.hid hyq
   clear hy hyq hmb
   go_upto_region 6 with fail
   obtain ⟨w8, hW8, hX8, hz8, hB8⟩ := box w7 #[.string y.dig, .int .i64 y.size, .int .i64 y.kind, .string y.frm] 30
   rw [hW8]
   have hv := below_up hv hB8
   have HX8 := Lib.hid hX8
   have hM := hM.keep hB8
   clear hW8 hX8 hz8 hB8 hlk
   obtain ⟨q0, q1, q2, q3, q4, q5, q6⟩ := (HP.out.keep hv).seven; obtain ⟨d0, d1, d2, d3⟩ := (HD.out.keep hv).four
   go_upto_region 7 with (go_at_call 91; (with_reducible refine (HTA.out _ hv).mono ?_); rintro e w9 ⟨rfl, hq⟩; have hv := below_up hv hq; obtain ⟨q0, q1, q2, q3, q4, q5, q6⟩ := (HP.out.keep hv).seven; obtain ⟨d0, d1, d2, d3⟩ := (HD.out.keep hv).four)
   obtain ⟨x0, x1, x2, x3⟩ := (HX8.out.keep hq).four
   have hM := hM.keep hq
   have HM := Lib.hid hM
   obtain ⟨z, hlz, hz⟩ := HLZ.out _ mb hM
   have hzb := HBZ.out z hz
   have hfk := fldKind z.dig z.frm z.size z.kind
   clear hz hM hq
   obtain rfl : yq = true := HYQ.out.2 (HY.out.trans HYT.out)
   go_upto_region 15 with (go_at_call 132; (with_reducible refine (HMO.out _).mono ?_); rintro e w10 ⟨rfl, rfl⟩)
   have HBV := Lib.hid (below_up HBB.out hv)
   have HIV := Lib.hid (fun U (h : Below w9.heap.size w9 U) => HI1.out.keep (below_up hv h))
   have HMV := Lib.hid (fun U (h : Below w9.heap.size w9 U) => HM.out.keep h)
   have HCR := Lib.hid (fun d os => Calls.regrown_of (copiesRow_is s a (grow (redrawn w9 d) os)))
   have HKR := Lib.hid (fun d os => regrown_same (HCKY.out (grow (redrawn w9 d) os)))
   have HSR := Lib.hid (fun d os => Calls.regrown_of (HHS.out (grow (redrawn w9 d) os) (HIV.out _ (below_regrown w9 d os))))
   have HFR := Lib.hid (fun d os => Calls.regrown_of (HFI.out (grow (redrawn w9 d) os) mb (HIV.out _ (below_regrown w9 d os)) (HMV.out _ (below_regrown w9 d os))))
   obtain ⟨tb, off, ha, hb, hcell⟩ := (HIV.out _ (Below.refl _ _)).ti (by have := HKL.out; omega)
   have c0 : w9.cell? ⟨tb, off + kk * 4, none⟩ = some (.string tier) := by rw [← HXN.out]; exact hcell kk x HKK.out 0 (.string x.name) rfl
   have c1 : w9.cell? ⟨tb, off + kk * 4 + 1, none⟩ = some (.int .i64 x.room) := hcell kk x HKK.out 1 (.int .i64 x.room) rfl
   have c2 : w9.cell? ⟨tb, off + kk * 4 + 2, none⟩ = some (.int .i64 x.cost) := hcell kk x HKK.out 2 (.int .i64 x.cost) rfl
   have c3 : w9.cell? ⟨tb, off + kk * 4 + 3, none⟩ = some (.bool x.away) := hcell kk x HKK.out 3 (.bool x.away) rfl
   have hj0 : (0 : Int) ≤ (kk : Int) := by omega
   have hj1 : (kk : Int) < (s.tiers.length : Int) := by have := HKL.out; omega
   rw [ha] at q2 HCR HFR
   have k0 := cell_regrown q0
   have k1 := cell_regrown q1
   have k2 := cell_regrown q2
   have k3 := cell_regrown q3
   have k4 := cell_regrown q4
   have k5 := cell_regrown q5
   have k6 := cell_regrown q6
   have m0 := cell_regrown d0
   have m1 := cell_regrown d1
   have m2 := cell_regrown d2
   have m3 := cell_regrown d3
   have n0 := cell_regrown c0
   have n1 := cell_regrown c1
   have n2 := cell_regrown c2
   have n3 := cell_regrown c3
   clear q0 q1 q2 q3 q4 q5 q6 d0 d1 d2 d3 x0 x1 x2 x3 c0 c1 c2 c3 ha hb hcell hlz
   refine wp_region_quiet_below (by kernel_rfl) (by kernel_rfl) ?_
   repeat (go_big_quiet_step ((first | (go_at_call 54; with_reducible exact HCR.out _ _) | (go_at_call 56; with_reducible exact HKR.out _ _) | (go_at_call 133; with_reducible exact HSR.out _ _) | (go_at_call 97; with_reducible exact HFR.out _ _))))
   refine wpQuiet_nil ?_
   intro _ hw'
   obtain ⟨⟨dq, osq⟩, hw''⟩ := hw'
   subst hw''
   have hBu9 := below_regrown w9 dq osq
   generalize grow (redrawn w9 dq) osq = u9 at *
   clear dq osq
   have hv := below_up hv hBu9
   clear hBu9
   obtain ⟨q0, q1, q2, q3, q4, q5, q6⟩ := (HP.out.keep hv).seven; obtain ⟨d0, d1, d2, d3⟩ := (HD.out.keep hv).four
   have x0 := trivial; have x1 := trivial; have x2 := trivial; have x3 := trivial
   have HBW := Lib.hid (below_up HBB.out hv)
   go_wp2_with fail
   go_ret
   exact ⟨rfl, HBW.out⟩
theorem checkImportS_large (s : Sto) (a : StA) (f : Fil) (hfz : f.dig.size ≤ 9223372036854775807) (hf100 : f.frm.size ≤ 9223372036854775807) (tier : ByteArray) (now : Int) (w : World) (hI : StIn w s a) (r : St.Right s) (hq0 : St.faultE f = 0) (hd16 : f.dig.size = 16) (hko : f.kind = 1 ∨ St.kindOf s.files f.frm = 1) (hyo : (St.fileOf s.files f.dig).isSome = false) (x : Tir) (hx : x.name = tier) (kk : Nat) (hkk : s.tiers[kk]? = some x) (hka : St.tierAt s.tiers tier = (kk : Int)) (hm : St.isMom now = true) (hk : St.copyAt s f.dig tier < 0) (hfr : f.size ≤ x.room - St.used s.files tier s.copies) (hnl : 500 ≤ s.files.length) : Calls Tryz.prog 50 #[.agg #[.int .i64 s.least, .int .i64 s.wait, .slice a.ta s.tiers.length a.tc, .slice a.fa s.files.length a.fc, .slice a.ca s.copies.length a.cc, .slice a.ha s.held.length a.hc, .slice a.ba s.bin.length a.bc], .agg #[.string f.dig, .int .i64 f.size, .int .i64 f.kind, .string f.frm], .string tier, .int .i64 now] w (CkPost w 4) := by
 have HFZ2 := Lib.hid hfz
 have hM0 : St.Up (·.dig) s.files := r.fup
 have HFU := Lib.hid hM0
 have hcf := fun V => checkFile_is f ⟨#[]⟩ hfz V
 rw [show St.fileC f ⟨#[]⟩ = St.faultE f from (St.fileE_bef [] f).symm] at hcf
 have HCF := Lib.hid hcf
 clear hcf
 rw [hq0] at HCF
 have hy2 := (St.sizes_iff.1 r.sizes).2.2.1
 obtain ⟨W0, hW0, hP, hz0, hB0⟩ := box w #[.int .i64 s.least, .int .i64 s.wait, .slice a.ta s.tiers.length a.tc, .slice a.fa s.files.length a.fc, .slice a.ca s.copies.length a.cc, .slice a.ha s.held.length a.hc, .slice a.ba s.bin.length a.bc] 28
 obtain ⟨W1, hW1, hD, hz1, hB1⟩ := box W0 #[.string f.dig, .int .i64 f.size, .int .i64 f.kind, .string f.frm] 30
 rw [hz0] at hD hz1
 have hP := hP.keep hB1
 have hBB := below_up hB0 hB1
 have HW0 := Lib.hid hW0; have HW1 := Lib.hid hW1; have HP := Lib.hid hP; have HD := Lib.hid hD; have HBB := Lib.hid hBB
 have HI1 := Lib.hid (hI.keep hBB)
 obtain ⟨q0, q1, q2, q3, q4, q5, q6⟩ := hP.seven
 obtain ⟨d0, d1, d2, d3⟩ := hD.four
 have HSE := Lib.hid (fun V (hv : Below W1.heap.size W1 V) => storeError_is s a V (HI1.out.keep hv))
 clear hI hW0 hW1 hP hD hz0 hz1 hB0 hB1 hBB
 have hv : Below W1.heap.size W1 W1 := Below.refl _ _
 have HBY := Lib.hid (fun V (hv : Below W1.heap.size W1 V) => byDigest_is s a V (HI1.out.keep hv) hy2)
 have HTA := Lib.hid (fun V (hv : Below W1.heap.size W1 V) => tierAt_is s a tier V (HI1.out.keep hv))
 have HMO := Lib.hid (fun V => isMomentS_is now V)
 have HLO := Lib.hid (fun (V : World) mb (hM : FMap V mb s.files) => hM.okD r.fup hfz)
 have HLZ := Lib.hid (fun (V : World) mb (hM : FMap V mb s.files) => hM.kind r.fup hf100)
 obtain ⟨yb, hyb⟩ : ∃ yb, yb = (St.fileOf s.files f.dig).isSome := ⟨_, rfl⟩
 rw [← hyb] at HLO
 obtain ⟨bk, hbk⟩ : ∃ bk, (f.kind != 1) = bk := ⟨_, rfl⟩
 obtain ⟨bz, hbz⟩ : ∃ bz, (St.kindOf s.files f.frm != 1) = bz := ⟨_, rfl⟩
 have HBZ := Lib.hid (show ∀ z, z = St.filD s.files f.frm → (z.kind != 1) = bz from fun z hz => by rw [hz, ← hbz, St.filD_kind])
 have hgd := guardFil
 clear hq0 hy2 hM0 hbz
 have hkr : (bk && bz) = false := by
  rcases hko with h | h
  ·rw [← hbk, h]; rfl
  ·have := HBZ.out _ rfl
   rw [← this, St.filD_kind, h]; simp
 clear hko
 rw [hyo] at hyb
 rw [hm] at HMO
 have hsz16 : f.dig.size ≤ 100 := by omega
 have htz : tier.size ≤ 100 := by
  have := St.nm40 (St.tier_good r (List.mem_of_getElem? hkk)).1
  rw [hx] at this; omega
 have HCKY := Lib.hid (fun V => copyKey_is f.dig tier hsz16 htz V)
 have HHS := Lib.hid (fun V (hI : StIn V s a) => hasC_is s.copies (St.cop_up r) (fun x hx => by have := St.cop_good r hx; omega) (by have := (St.sizes_iff.1 r.sizes).2.2.2.1; omega) (St.key f.dig tier) a.ca a.cc V hI.cl hI.co)
 have HFI := Lib.hid (fun V mb (hI : StIn V s a) (hM : FMap V mb s.files) => free_is s a x mb V hI hM r.fup (St.szs_of (F := s.files) (fun f hf => (r.dig f hf).2)) (St.sizes_iff.1 r.sizes).2.2.2.1 (St.tier_good r (List.mem_of_getElem? hkk)).2.1)
 have HKK := Lib.hid hkk; have HXN := Lib.hid hx
 have HKL : Hid (kk < s.tiers.length) := Lib.hid (List.getElem?_eq_some_iff.1 hkk).1
 rw [hx] at HFI
 rw [hka] at HTA
 have ht0 : ¬ ((kk : Int) < 0) := by omega
 have ht1 : decide ((kk : Int) < 0) = false := decide_eq_false ht0
 have hhk : St.hasK St.ckey s.copies (St.key f.dig tier) = false := by
  cases h : St.hasK St.ckey s.copies (St.key f.dig tier) with
  | false => rfl
  | true => have := (St.copyAt_pos (t := tier) r hd16).1 h; omega
 rw [hhk] at HHS
 generalize x.room - St.used s.files tier s.copies = fq at *
 have hf0 : ¬ (fq < f.size) := by omega
 have hf1 : decide (fq < f.size) = false := decide_eq_false hf0
 have hf2 : (fq < f.size) = False := eq_false hf0
 have hn1 : (500 : Int) ≤ (s.files.length : Int) := by omega
 have hn2 : decide ((500 : Int) ≤ (s.files.length : Int)) = true := decide_eq_true hn1
 subst hyb
 clear r hm hk hhk hsz16 htz hx hkk hka hd16 hyo
 have hbb : bk = false ∨ (bk = true ∧ bz = false) := by cases bk <;> cases bz <;> first | exact .inl rfl | exact .inr ⟨rfl, rfl⟩ | cases hkr
 clear hkr
 rcases hbb with rfl | ⟨rfl, rfl⟩
 all_goals
  go_enter Tryz.func50, Tryz.ntmps50
  go_upto_region 1 with fail
  rw [HW0.out, HW1.out]
  go_upto_region 5 with (first
   | (go_at_call 131; (with_reducible refine (HCF.out _).mono ?_); rintro e w6 ⟨rfl, hq⟩; have hv := below_up hv hq; obtain ⟨q0, q1, q2, q3, q4, q5, q6⟩ := (HP.out.keep hv).seven; obtain ⟨d0, d1, d2, d3⟩ := (HD.out.keep hv).four)
   | (go_at_call 98; (with_reducible refine (HBY.out _ hv).mono ?_); rintro e w7 ⟨mb, rfl, hmb, hM, hq⟩; have hv := below_up hv hq; obtain ⟨q0, q1, q2, q3, q4, q5, q6⟩ := (HP.out.keep hv).seven; obtain ⟨d0, d1, d2, d3⟩ := (HD.out.keep hv).four))
  obtain ⟨y, hlk, hy⟩ := HLO.out _ mb hM
  obtain ⟨yq, hyq⟩ := St.bool_of (y = f)
  have hne := fun W => neqF y f W yq hyq
  have HY := Lib.hid hy; have HYQ := Lib.hid hyq
  clear hy hyq hmb
  go_upto_region 6 with fail
  obtain ⟨w8, hW8, hX8, hz8, hB8⟩ := box w7 #[.string y.dig, .int .i64 y.size, .int .i64 y.kind, .string y.frm] 30
  rw [hW8]
  have hv := below_up hv hB8
  have HX8 := Lib.hid hX8
  have hM := hM.keep hB8
  clear hW8 hX8 hz8 hB8 hlk
  obtain ⟨q0, q1, q2, q3, q4, q5, q6⟩ := (HP.out.keep hv).seven; obtain ⟨d0, d1, d2, d3⟩ := (HD.out.keep hv).four
  go_upto_region 7 with (go_at_call 91; (with_reducible refine (HTA.out _ hv).mono ?_); rintro e w9 ⟨rfl, hq⟩; have hv := below_up hv hq; obtain ⟨q0, q1, q2, q3, q4, q5, q6⟩ := (HP.out.keep hv).seven; obtain ⟨d0, d1, d2, d3⟩ := (HD.out.keep hv).four)
  obtain ⟨x0, x1, x2, x3⟩ := (HX8.out.keep hq).four
  have hM := hM.keep hq
  have HM := Lib.hid hM
  obtain ⟨z, hlz, hz⟩ := HLZ.out _ mb hM
  have hzb := HBZ.out z hz
  have hfk := fldKind z.dig z.frm z.size z.kind
  clear hz hM hq
  go_upto_region 15 with (go_at_call 132; (with_reducible refine (HMO.out _).mono ?_); rintro e w10 ⟨rfl, rfl⟩)
  have HBV := Lib.hid (below_up HBB.out hv)
  have HIV := Lib.hid (fun U (h : Below w9.heap.size w9 U) => HI1.out.keep (below_up hv h))
  have HMV := Lib.hid (fun U (h : Below w9.heap.size w9 U) => HM.out.keep h)
  have HCR := Lib.hid (fun d os => Calls.regrown_of (copiesRow_is s a (grow (redrawn w9 d) os)))
  have HKR := Lib.hid (fun d os => regrown_same (HCKY.out (grow (redrawn w9 d) os)))
  have HSR := Lib.hid (fun d os => Calls.regrown_of (HHS.out (grow (redrawn w9 d) os) (HIV.out _ (below_regrown w9 d os))))
  have HFR := Lib.hid (fun d os => Calls.regrown_of (HFI.out (grow (redrawn w9 d) os) mb (HIV.out _ (below_regrown w9 d os)) (HMV.out _ (below_regrown w9 d os))))
  obtain ⟨tb, off, ha, hb, hcell⟩ := (HIV.out _ (Below.refl _ _)).ti (by have := HKL.out; omega)
  have c0 : w9.cell? ⟨tb, off + kk * 4, none⟩ = some (.string tier) := by rw [← HXN.out]; exact hcell kk x HKK.out 0 (.string x.name) rfl
  have c1 : w9.cell? ⟨tb, off + kk * 4 + 1, none⟩ = some (.int .i64 x.room) := hcell kk x HKK.out 1 (.int .i64 x.room) rfl
  have c2 : w9.cell? ⟨tb, off + kk * 4 + 2, none⟩ = some (.int .i64 x.cost) := hcell kk x HKK.out 2 (.int .i64 x.cost) rfl
  have c3 : w9.cell? ⟨tb, off + kk * 4 + 3, none⟩ = some (.bool x.away) := hcell kk x HKK.out 3 (.bool x.away) rfl
  have hj0 : (0 : Int) ≤ (kk : Int) := by omega
  have hj1 : (kk : Int) < (s.tiers.length : Int) := by have := HKL.out; omega
  rw [ha] at q2 HCR HFR
  have k0 := cell_regrown q0
  have k1 := cell_regrown q1
  have k2 := cell_regrown q2
  have k3 := cell_regrown q3
  have k4 := cell_regrown q4
  have k5 := cell_regrown q5
  have k6 := cell_regrown q6
  have m0 := cell_regrown d0
  have m1 := cell_regrown d1
  have m2 := cell_regrown d2
  have m3 := cell_regrown d3
  have n0 := cell_regrown c0
  have n1 := cell_regrown c1
  have n2 := cell_regrown c2
  have n3 := cell_regrown c3
  clear q0 q1 q2 q3 q4 q5 q6 d0 d1 d2 d3 x0 x1 x2 x3 c0 c1 c2 c3 ha hb hcell hlz
  refine wp_region_quiet_below (by kernel_rfl) (by kernel_rfl) ?_
  repeat (go_big_quiet_step ((first | (go_at_call 54; with_reducible exact HCR.out _ _) | (go_at_call 56; with_reducible exact HKR.out _ _) | (go_at_call 133; with_reducible exact HSR.out _ _) | (go_at_call 97; with_reducible exact HFR.out _ _))))
  refine wpQuiet_nil ?_
  intro _ hw'
  obtain ⟨⟨dq, osq⟩, hw''⟩ := hw'
  subst hw''
  have hBu9 := below_regrown w9 dq osq
  generalize grow (redrawn w9 dq) osq = u9 at *
  clear dq osq
  have hv := below_up hv hBu9
  clear hBu9
  obtain ⟨q0, q1, q2, q3, q4, q5, q6⟩ := (HP.out.keep hv).seven; obtain ⟨d0, d1, d2, d3⟩ := (HD.out.keep hv).four
  have x0 := trivial; have x1 := trivial; have x2 := trivial; have x3 := trivial
  have HBW := Lib.hid (below_up HBB.out hv)
  go_wp2_with fail
  go_ret
  exact ⟨rfl, HBW.out⟩
theorem checkImportS_new (s : Sto) (a : StA) (f : Fil) (hfz : f.dig.size ≤ 9223372036854775807) (hf100 : f.frm.size ≤ 9223372036854775807) (tier : ByteArray) (now : Int) (w : World) (hI : StIn w s a) (r : St.Right s) (hq0 : St.faultE f = 0) (hd16 : f.dig.size = 16) (hko : f.kind = 1 ∨ St.kindOf s.files f.frm = 1) (hyo : (St.fileOf s.files f.dig).isSome = false) (x : Tir) (hx : x.name = tier) (kk : Nat) (hkk : s.tiers[kk]? = some x) (hka : St.tierAt s.tiers tier = (kk : Int)) (hm : St.isMom now = true) (hk : St.copyAt s f.dig tier < 0) (hfr : f.size ≤ x.room - St.used s.files tier s.copies) (hnl : s.files.length < 500) : Calls Tryz.prog 50 #[.agg #[.int .i64 s.least, .int .i64 s.wait, .slice a.ta s.tiers.length a.tc, .slice a.fa s.files.length a.fc, .slice a.ca s.copies.length a.cc, .slice a.ha s.held.length a.hc, .slice a.ba s.bin.length a.bc], .agg #[.string f.dig, .int .i64 f.size, .int .i64 f.kind, .string f.frm], .string tier, .int .i64 now] w (CkPost w 0) := by
 have HFZ2 := Lib.hid hfz
 have hM0 : St.Up (·.dig) s.files := r.fup
 have HFU := Lib.hid hM0
 have hcf := fun V => checkFile_is f ⟨#[]⟩ hfz V
 rw [show St.fileC f ⟨#[]⟩ = St.faultE f from (St.fileE_bef [] f).symm] at hcf
 have HCF := Lib.hid hcf
 clear hcf
 rw [hq0] at HCF
 have hy2 := (St.sizes_iff.1 r.sizes).2.2.1
 obtain ⟨W0, hW0, hP, hz0, hB0⟩ := box w #[.int .i64 s.least, .int .i64 s.wait, .slice a.ta s.tiers.length a.tc, .slice a.fa s.files.length a.fc, .slice a.ca s.copies.length a.cc, .slice a.ha s.held.length a.hc, .slice a.ba s.bin.length a.bc] 28
 obtain ⟨W1, hW1, hD, hz1, hB1⟩ := box W0 #[.string f.dig, .int .i64 f.size, .int .i64 f.kind, .string f.frm] 30
 rw [hz0] at hD hz1
 have hP := hP.keep hB1
 have hBB := below_up hB0 hB1
 have HW0 := Lib.hid hW0; have HW1 := Lib.hid hW1; have HP := Lib.hid hP; have HD := Lib.hid hD; have HBB := Lib.hid hBB
 have HI1 := Lib.hid (hI.keep hBB)
 obtain ⟨q0, q1, q2, q3, q4, q5, q6⟩ := hP.seven
 obtain ⟨d0, d1, d2, d3⟩ := hD.four
 have HSE := Lib.hid (fun V (hv : Below W1.heap.size W1 V) => storeError_is s a V (HI1.out.keep hv))
 clear hI hW0 hW1 hP hD hz0 hz1 hB0 hB1 hBB
 have hv : Below W1.heap.size W1 W1 := Below.refl _ _
 have HBY := Lib.hid (fun V (hv : Below W1.heap.size W1 V) => byDigest_is s a V (HI1.out.keep hv) hy2)
 have HTA := Lib.hid (fun V (hv : Below W1.heap.size W1 V) => tierAt_is s a tier V (HI1.out.keep hv))
 have HMO := Lib.hid (fun V => isMomentS_is now V)
 have HLO := Lib.hid (fun (V : World) mb (hM : FMap V mb s.files) => hM.okD r.fup hfz)
 have HLZ := Lib.hid (fun (V : World) mb (hM : FMap V mb s.files) => hM.kind r.fup hf100)
 obtain ⟨yb, hyb⟩ : ∃ yb, yb = (St.fileOf s.files f.dig).isSome := ⟨_, rfl⟩
 rw [← hyb] at HLO
 obtain ⟨bk, hbk⟩ : ∃ bk, (f.kind != 1) = bk := ⟨_, rfl⟩
 obtain ⟨bz, hbz⟩ : ∃ bz, (St.kindOf s.files f.frm != 1) = bz := ⟨_, rfl⟩
 have HBZ := Lib.hid (show ∀ z, z = St.filD s.files f.frm → (z.kind != 1) = bz from fun z hz => by rw [hz, ← hbz, St.filD_kind])
 have hgd := guardFil
 clear hq0 hy2 hM0 hbz
 have hkr : (bk && bz) = false := by
  rcases hko with h | h
  ·rw [← hbk, h]; rfl
  ·have := HBZ.out _ rfl
   rw [← this, St.filD_kind, h]; simp
 clear hko
 rw [hyo] at hyb
 rw [hm] at HMO
 have hsz16 : f.dig.size ≤ 100 := by omega
 have htz : tier.size ≤ 100 := by
  have := St.nm40 (St.tier_good r (List.mem_of_getElem? hkk)).1
  rw [hx] at this; omega
 have HCKY := Lib.hid (fun V => copyKey_is f.dig tier hsz16 htz V)
 have HHS := Lib.hid (fun V (hI : StIn V s a) => hasC_is s.copies (St.cop_up r) (fun x hx => by have := St.cop_good r hx; omega) (by have := (St.sizes_iff.1 r.sizes).2.2.2.1; omega) (St.key f.dig tier) a.ca a.cc V hI.cl hI.co)
 have HFI := Lib.hid (fun V mb (hI : StIn V s a) (hM : FMap V mb s.files) => free_is s a x mb V hI hM r.fup (St.szs_of (F := s.files) (fun f hf => (r.dig f hf).2)) (St.sizes_iff.1 r.sizes).2.2.2.1 (St.tier_good r (List.mem_of_getElem? hkk)).2.1)
 have HKK := Lib.hid hkk; have HXN := Lib.hid hx
 have HKL : Hid (kk < s.tiers.length) := Lib.hid (List.getElem?_eq_some_iff.1 hkk).1
 rw [hx] at HFI
 rw [hka] at HTA
 have ht0 : ¬ ((kk : Int) < 0) := by omega
 have ht1 : decide ((kk : Int) < 0) = false := decide_eq_false ht0
 have hhk : St.hasK St.ckey s.copies (St.key f.dig tier) = false := by
  cases h : St.hasK St.ckey s.copies (St.key f.dig tier) with
  | false => rfl
  | true => have := (St.copyAt_pos (t := tier) r hd16).1 h; omega
 rw [hhk] at HHS
 generalize x.room - St.used s.files tier s.copies = fq at *
 have hf0 : ¬ (fq < f.size) := by omega
 have hf1 : decide (fq < f.size) = false := decide_eq_false hf0
 have hf2 : (fq < f.size) = False := eq_false hf0
 have hn1 : ¬ ((500 : Int) ≤ (s.files.length : Int)) := by omega
 have hn2 : decide ((500 : Int) ≤ (s.files.length : Int)) = false := decide_eq_false hn1
 subst hyb
 clear r hm hk hhk hsz16 htz hx hkk hka hd16 hyo
 have hbb : bk = false ∨ (bk = true ∧ bz = false) := by cases bk <;> cases bz <;> first | exact .inl rfl | exact .inr ⟨rfl, rfl⟩ | cases hkr
 clear hkr
 rcases hbb with rfl | ⟨rfl, rfl⟩
 all_goals
  go_enter Tryz.func50, Tryz.ntmps50
  go_upto_region 1 with fail
  rw [HW0.out, HW1.out]
  go_upto_region 5 with (first
   | (go_at_call 131; (with_reducible refine (HCF.out _).mono ?_); rintro e w6 ⟨rfl, hq⟩; have hv := below_up hv hq; obtain ⟨q0, q1, q2, q3, q4, q5, q6⟩ := (HP.out.keep hv).seven; obtain ⟨d0, d1, d2, d3⟩ := (HD.out.keep hv).four)
   | (go_at_call 98; (with_reducible refine (HBY.out _ hv).mono ?_); rintro e w7 ⟨mb, rfl, hmb, hM, hq⟩; have hv := below_up hv hq; obtain ⟨q0, q1, q2, q3, q4, q5, q6⟩ := (HP.out.keep hv).seven; obtain ⟨d0, d1, d2, d3⟩ := (HD.out.keep hv).four))
  obtain ⟨y, hlk, hy⟩ := HLO.out _ mb hM
  obtain ⟨yq, hyq⟩ := St.bool_of (y = f)
  have hne := fun W => neqF y f W yq hyq
  have HY := Lib.hid hy; have HYQ := Lib.hid hyq
  clear hy hyq hmb
  go_upto_region 6 with fail
  obtain ⟨w8, hW8, hX8, hz8, hB8⟩ := box w7 #[.string y.dig, .int .i64 y.size, .int .i64 y.kind, .string y.frm] 30
  rw [hW8]
  have hv := below_up hv hB8
  have HX8 := Lib.hid hX8
  have hM := hM.keep hB8
  clear hW8 hX8 hz8 hB8 hlk
  obtain ⟨q0, q1, q2, q3, q4, q5, q6⟩ := (HP.out.keep hv).seven; obtain ⟨d0, d1, d2, d3⟩ := (HD.out.keep hv).four
  go_upto_region 7 with (go_at_call 91; (with_reducible refine (HTA.out _ hv).mono ?_); rintro e w9 ⟨rfl, hq⟩; have hv := below_up hv hq; obtain ⟨q0, q1, q2, q3, q4, q5, q6⟩ := (HP.out.keep hv).seven; obtain ⟨d0, d1, d2, d3⟩ := (HD.out.keep hv).four)
  obtain ⟨x0, x1, x2, x3⟩ := (HX8.out.keep hq).four
  have hM := hM.keep hq
  have HM := Lib.hid hM
  obtain ⟨z, hlz, hz⟩ := HLZ.out _ mb hM
  have hzb := HBZ.out z hz
  have hfk := fldKind z.dig z.frm z.size z.kind
  clear hz hM hq
  go_upto_region 15 with (go_at_call 132; (with_reducible refine (HMO.out _).mono ?_); rintro e w10 ⟨rfl, rfl⟩)
  have HBV := Lib.hid (below_up HBB.out hv)
  have HIV := Lib.hid (fun U (h : Below w9.heap.size w9 U) => HI1.out.keep (below_up hv h))
  have HMV := Lib.hid (fun U (h : Below w9.heap.size w9 U) => HM.out.keep h)
  have HCR := Lib.hid (fun d os => Calls.regrown_of (copiesRow_is s a (grow (redrawn w9 d) os)))
  have HKR := Lib.hid (fun d os => regrown_same (HCKY.out (grow (redrawn w9 d) os)))
  have HSR := Lib.hid (fun d os => Calls.regrown_of (HHS.out (grow (redrawn w9 d) os) (HIV.out _ (below_regrown w9 d os))))
  have HFR := Lib.hid (fun d os => Calls.regrown_of (HFI.out (grow (redrawn w9 d) os) mb (HIV.out _ (below_regrown w9 d os)) (HMV.out _ (below_regrown w9 d os))))
  obtain ⟨tb, off, ha, hb, hcell⟩ := (HIV.out _ (Below.refl _ _)).ti (by have := HKL.out; omega)
  have c0 : w9.cell? ⟨tb, off + kk * 4, none⟩ = some (.string tier) := by rw [← HXN.out]; exact hcell kk x HKK.out 0 (.string x.name) rfl
  have c1 : w9.cell? ⟨tb, off + kk * 4 + 1, none⟩ = some (.int .i64 x.room) := hcell kk x HKK.out 1 (.int .i64 x.room) rfl
  have c2 : w9.cell? ⟨tb, off + kk * 4 + 2, none⟩ = some (.int .i64 x.cost) := hcell kk x HKK.out 2 (.int .i64 x.cost) rfl
  have c3 : w9.cell? ⟨tb, off + kk * 4 + 3, none⟩ = some (.bool x.away) := hcell kk x HKK.out 3 (.bool x.away) rfl
  have hj0 : (0 : Int) ≤ (kk : Int) := by omega
  have hj1 : (kk : Int) < (s.tiers.length : Int) := by have := HKL.out; omega
  rw [ha] at q2 HCR HFR
  have k0 := cell_regrown q0
  have k1 := cell_regrown q1
  have k2 := cell_regrown q2
  have k3 := cell_regrown q3
  have k4 := cell_regrown q4
  have k5 := cell_regrown q5
  have k6 := cell_regrown q6
  have m0 := cell_regrown d0
  have m1 := cell_regrown d1
  have m2 := cell_regrown d2
  have m3 := cell_regrown d3
  have n0 := cell_regrown c0
  have n1 := cell_regrown c1
  have n2 := cell_regrown c2
  have n3 := cell_regrown c3
  clear q0 q1 q2 q3 q4 q5 q6 d0 d1 d2 d3 x0 x1 x2 x3 c0 c1 c2 c3 ha hb hcell hlz
  refine wp_region_quiet_below (by kernel_rfl) (by kernel_rfl) ?_
  repeat (go_big_quiet_step ((first | (go_at_call 54; with_reducible exact HCR.out _ _) | (go_at_call 56; with_reducible exact HKR.out _ _) | (go_at_call 133; with_reducible exact HSR.out _ _) | (go_at_call 97; with_reducible exact HFR.out _ _))))
  refine wpQuiet_nil ?_
  intro _ hw'
  obtain ⟨⟨dq, osq⟩, hw''⟩ := hw'
  subst hw''
  have hBu9 := below_regrown w9 dq osq
  generalize grow (redrawn w9 dq) osq = u9 at *
  clear dq osq
  have hv := below_up hv hBu9
  clear hBu9
  obtain ⟨q0, q1, q2, q3, q4, q5, q6⟩ := (HP.out.keep hv).seven; obtain ⟨d0, d1, d2, d3⟩ := (HD.out.keep hv).four
  have x0 := trivial; have x1 := trivial; have x2 := trivial; have x3 := trivial
  have HBW := Lib.hid (below_up HBB.out hv)
  go_wp2_with fail
  go_ret
  exact ⟨rfl, HBW.out⟩
theorem checkImportS_there (s : Sto) (a : StA) (f : Fil) (hfz : f.dig.size ≤ 9223372036854775807) (hf100 : f.frm.size ≤ 9223372036854775807) (tier : ByteArray) (now : Int) (w : World) (hI : StIn w s a) (r : St.Right s) (hq0 : St.faultE f = 0) (hd16 : f.dig.size = 16) (hko : f.kind = 1 ∨ St.kindOf s.files f.frm = 1) (hyo : (St.fileOf s.files f.dig).isSome = true ∧ St.filD s.files f.dig = f) (x : Tir) (hx : x.name = tier) (kk : Nat) (hkk : s.tiers[kk]? = some x) (hka : St.tierAt s.tiers tier = (kk : Int)) (hm : St.isMom now = true) (hk : St.copyAt s f.dig tier < 0) (hfr : f.size ≤ x.room - St.used s.files tier s.copies) : Calls Tryz.prog 50 #[.agg #[.int .i64 s.least, .int .i64 s.wait, .slice a.ta s.tiers.length a.tc, .slice a.fa s.files.length a.fc, .slice a.ca s.copies.length a.cc, .slice a.ha s.held.length a.hc, .slice a.ba s.bin.length a.bc], .agg #[.string f.dig, .int .i64 f.size, .int .i64 f.kind, .string f.frm], .string tier, .int .i64 now] w (CkPost w 0) := by
 have HFZ2 := Lib.hid hfz
 have hM0 : St.Up (·.dig) s.files := r.fup
 have HFU := Lib.hid hM0
 have hcf := fun V => checkFile_is f ⟨#[]⟩ hfz V
 rw [show St.fileC f ⟨#[]⟩ = St.faultE f from (St.fileE_bef [] f).symm] at hcf
 have HCF := Lib.hid hcf
 clear hcf
 rw [hq0] at HCF
 have hy2 := (St.sizes_iff.1 r.sizes).2.2.1
 obtain ⟨W0, hW0, hP, hz0, hB0⟩ := box w #[.int .i64 s.least, .int .i64 s.wait, .slice a.ta s.tiers.length a.tc, .slice a.fa s.files.length a.fc, .slice a.ca s.copies.length a.cc, .slice a.ha s.held.length a.hc, .slice a.ba s.bin.length a.bc] 28
 obtain ⟨W1, hW1, hD, hz1, hB1⟩ := box W0 #[.string f.dig, .int .i64 f.size, .int .i64 f.kind, .string f.frm] 30
 rw [hz0] at hD hz1
 have hP := hP.keep hB1
 have hBB := below_up hB0 hB1
 have HW0 := Lib.hid hW0; have HW1 := Lib.hid hW1; have HP := Lib.hid hP; have HD := Lib.hid hD; have HBB := Lib.hid hBB
 have HI1 := Lib.hid (hI.keep hBB)
 obtain ⟨q0, q1, q2, q3, q4, q5, q6⟩ := hP.seven
 obtain ⟨d0, d1, d2, d3⟩ := hD.four
 have HSE := Lib.hid (fun V (hv : Below W1.heap.size W1 V) => storeError_is s a V (HI1.out.keep hv))
 clear hI hW0 hW1 hP hD hz0 hz1 hB0 hB1 hBB
 have hv : Below W1.heap.size W1 W1 := Below.refl _ _
 have HBY := Lib.hid (fun V (hv : Below W1.heap.size W1 V) => byDigest_is s a V (HI1.out.keep hv) hy2)
 have HTA := Lib.hid (fun V (hv : Below W1.heap.size W1 V) => tierAt_is s a tier V (HI1.out.keep hv))
 have HMO := Lib.hid (fun V => isMomentS_is now V)
 have HLO := Lib.hid (fun (V : World) mb (hM : FMap V mb s.files) => hM.okD r.fup hfz)
 have HLZ := Lib.hid (fun (V : World) mb (hM : FMap V mb s.files) => hM.kind r.fup hf100)
 obtain ⟨yb, hyb⟩ : ∃ yb, yb = (St.fileOf s.files f.dig).isSome := ⟨_, rfl⟩
 rw [← hyb] at HLO
 obtain ⟨bk, hbk⟩ : ∃ bk, (f.kind != 1) = bk := ⟨_, rfl⟩
 obtain ⟨bz, hbz⟩ : ∃ bz, (St.kindOf s.files f.frm != 1) = bz := ⟨_, rfl⟩
 have HBZ := Lib.hid (show ∀ z, z = St.filD s.files f.frm → (z.kind != 1) = bz from fun z hz => by rw [hz, ← hbz, St.filD_kind])
 have hgd := guardFil
 clear hq0 hy2 hM0 hbz
 have hkr : (bk && bz) = false := by
  rcases hko with h | h
  ·rw [← hbk, h]; rfl
  ·have := HBZ.out _ rfl
   rw [← this, St.filD_kind, h]; simp
 clear hko
 rw [hyo.1] at hyb
 have HYT := Lib.hid hyo.2
 rw [hm] at HMO
 have hsz16 : f.dig.size ≤ 100 := by omega
 have htz : tier.size ≤ 100 := by
  have := St.nm40 (St.tier_good r (List.mem_of_getElem? hkk)).1
  rw [hx] at this; omega
 have HCKY := Lib.hid (fun V => copyKey_is f.dig tier hsz16 htz V)
 have HHS := Lib.hid (fun V (hI : StIn V s a) => hasC_is s.copies (St.cop_up r) (fun x hx => by have := St.cop_good r hx; omega) (by have := (St.sizes_iff.1 r.sizes).2.2.2.1; omega) (St.key f.dig tier) a.ca a.cc V hI.cl hI.co)
 have HFI := Lib.hid (fun V mb (hI : StIn V s a) (hM : FMap V mb s.files) => free_is s a x mb V hI hM r.fup (St.szs_of (F := s.files) (fun f hf => (r.dig f hf).2)) (St.sizes_iff.1 r.sizes).2.2.2.1 (St.tier_good r (List.mem_of_getElem? hkk)).2.1)
 have HKK := Lib.hid hkk; have HXN := Lib.hid hx
 have HKL : Hid (kk < s.tiers.length) := Lib.hid (List.getElem?_eq_some_iff.1 hkk).1
 rw [hx] at HFI
 rw [hka] at HTA
 have ht0 : ¬ ((kk : Int) < 0) := by omega
 have ht1 : decide ((kk : Int) < 0) = false := decide_eq_false ht0
 have hhk : St.hasK St.ckey s.copies (St.key f.dig tier) = false := by
  cases h : St.hasK St.ckey s.copies (St.key f.dig tier) with
  | false => rfl
  | true => have := (St.copyAt_pos (t := tier) r hd16).1 h; omega
 rw [hhk] at HHS
 generalize x.room - St.used s.files tier s.copies = fq at *
 have hf0 : ¬ (fq < f.size) := by omega
 have hf1 : decide (fq < f.size) = false := decide_eq_false hf0
 have hf2 : (fq < f.size) = False := eq_false hf0
 subst hyb
 clear r hm hk hhk hsz16 htz hx hkk hka hd16 hyo
 have hbb : bk = false ∨ (bk = true ∧ bz = false) := by cases bk <;> cases bz <;> first | exact .inl rfl | exact .inr ⟨rfl, rfl⟩ | cases hkr
 clear hkr
 rcases hbb with rfl | ⟨rfl, rfl⟩
 all_goals
  go_enter Tryz.func50, Tryz.ntmps50
  go_upto_region 1 with fail
  rw [HW0.out, HW1.out]
  go_upto_region 5 with (first
   | (go_at_call 131; (with_reducible refine (HCF.out _).mono ?_); rintro e w6 ⟨rfl, hq⟩; have hv := below_up hv hq; obtain ⟨q0, q1, q2, q3, q4, q5, q6⟩ := (HP.out.keep hv).seven; obtain ⟨d0, d1, d2, d3⟩ := (HD.out.keep hv).four)
   | (go_at_call 98; (with_reducible refine (HBY.out _ hv).mono ?_); rintro e w7 ⟨mb, rfl, hmb, hM, hq⟩; have hv := below_up hv hq; obtain ⟨q0, q1, q2, q3, q4, q5, q6⟩ := (HP.out.keep hv).seven; obtain ⟨d0, d1, d2, d3⟩ := (HD.out.keep hv).four))
  obtain ⟨y, hlk, hy⟩ := HLO.out _ mb hM
  obtain ⟨yq, hyq⟩ := St.bool_of (y = f)
  have hne := fun W => neqF y f W yq hyq
  have HY := Lib.hid hy; have HYQ := Lib.hid hyq
  clear hy hyq hmb
  go_upto_region 6 with fail
  obtain ⟨w8, hW8, hX8, hz8, hB8⟩ := box w7 #[.string y.dig, .int .i64 y.size, .int .i64 y.kind, .string y.frm] 30
  rw [hW8]
  have hv := below_up hv hB8
  have HX8 := Lib.hid hX8
  have hM := hM.keep hB8
  clear hW8 hX8 hz8 hB8 hlk
  obtain ⟨q0, q1, q2, q3, q4, q5, q6⟩ := (HP.out.keep hv).seven; obtain ⟨d0, d1, d2, d3⟩ := (HD.out.keep hv).four
  go_upto_region 7 with (go_at_call 91; (with_reducible refine (HTA.out _ hv).mono ?_); rintro e w9 ⟨rfl, hq⟩; have hv := below_up hv hq; obtain ⟨q0, q1, q2, q3, q4, q5, q6⟩ := (HP.out.keep hv).seven; obtain ⟨d0, d1, d2, d3⟩ := (HD.out.keep hv).four)
  obtain ⟨x0, x1, x2, x3⟩ := (HX8.out.keep hq).four
  have hM := hM.keep hq
  have HM := Lib.hid hM
  obtain ⟨z, hlz, hz⟩ := HLZ.out _ mb hM
  have hzb := HBZ.out z hz
  have hfk := fldKind z.dig z.frm z.size z.kind
  clear hz hM hq
  obtain rfl : yq = true := HYQ.out.2 (HY.out.trans HYT.out)
  go_upto_region 15 with (go_at_call 132; (with_reducible refine (HMO.out _).mono ?_); rintro e w10 ⟨rfl, rfl⟩)
  have HBV := Lib.hid (below_up HBB.out hv)
  have HIV := Lib.hid (fun U (h : Below w9.heap.size w9 U) => HI1.out.keep (below_up hv h))
  have HMV := Lib.hid (fun U (h : Below w9.heap.size w9 U) => HM.out.keep h)
  have HCR := Lib.hid (fun d os => Calls.regrown_of (copiesRow_is s a (grow (redrawn w9 d) os)))
  have HKR := Lib.hid (fun d os => regrown_same (HCKY.out (grow (redrawn w9 d) os)))
  have HSR := Lib.hid (fun d os => Calls.regrown_of (HHS.out (grow (redrawn w9 d) os) (HIV.out _ (below_regrown w9 d os))))
  have HFR := Lib.hid (fun d os => Calls.regrown_of (HFI.out (grow (redrawn w9 d) os) mb (HIV.out _ (below_regrown w9 d os)) (HMV.out _ (below_regrown w9 d os))))
  obtain ⟨tb, off, ha, hb, hcell⟩ := (HIV.out _ (Below.refl _ _)).ti (by have := HKL.out; omega)
  have c0 : w9.cell? ⟨tb, off + kk * 4, none⟩ = some (.string tier) := by rw [← HXN.out]; exact hcell kk x HKK.out 0 (.string x.name) rfl
  have c1 : w9.cell? ⟨tb, off + kk * 4 + 1, none⟩ = some (.int .i64 x.room) := hcell kk x HKK.out 1 (.int .i64 x.room) rfl
  have c2 : w9.cell? ⟨tb, off + kk * 4 + 2, none⟩ = some (.int .i64 x.cost) := hcell kk x HKK.out 2 (.int .i64 x.cost) rfl
  have c3 : w9.cell? ⟨tb, off + kk * 4 + 3, none⟩ = some (.bool x.away) := hcell kk x HKK.out 3 (.bool x.away) rfl
  have hj0 : (0 : Int) ≤ (kk : Int) := by omega
  have hj1 : (kk : Int) < (s.tiers.length : Int) := by have := HKL.out; omega
  rw [ha] at q2 HCR HFR
  have k0 := cell_regrown q0
  have k1 := cell_regrown q1
  have k2 := cell_regrown q2
  have k3 := cell_regrown q3
  have k4 := cell_regrown q4
  have k5 := cell_regrown q5
  have k6 := cell_regrown q6
  have m0 := cell_regrown d0
  have m1 := cell_regrown d1
  have m2 := cell_regrown d2
  have m3 := cell_regrown d3
  have n0 := cell_regrown c0
  have n1 := cell_regrown c1
  have n2 := cell_regrown c2
  have n3 := cell_regrown c3
  clear q0 q1 q2 q3 q4 q5 q6 d0 d1 d2 d3 x0 x1 x2 x3 c0 c1 c2 c3 ha hb hcell hlz
  refine wp_region_quiet_below (by kernel_rfl) (by kernel_rfl) ?_
  repeat (go_big_quiet_step ((first | (go_at_call 54; with_reducible exact HCR.out _ _) | (go_at_call 56; with_reducible exact HKR.out _ _) | (go_at_call 133; with_reducible exact HSR.out _ _) | (go_at_call 97; with_reducible exact HFR.out _ _))))
  refine wpQuiet_nil ?_
  intro _ hw'
  obtain ⟨⟨dq, osq⟩, hw''⟩ := hw'
  subst hw''
  have hBu9 := below_regrown w9 dq osq
  generalize grow (redrawn w9 dq) osq = u9 at *
  clear dq osq
  have hv := below_up hv hBu9
  clear hBu9
  obtain ⟨q0, q1, q2, q3, q4, q5, q6⟩ := (HP.out.keep hv).seven; obtain ⟨d0, d1, d2, d3⟩ := (HD.out.keep hv).four
  have x0 := trivial; have x1 := trivial; have x2 := trivial; have x3 := trivial
  have HBW := Lib.hid (below_up HBB.out hv)
  go_wp2_with fail
  go_ret
  exact ⟨rfl, HBW.out⟩
theorem checkImportS_kept (s : Sto) (a : StA) (f : Fil) (hfz : f.dig.size ≤ 9223372036854775807) (hf100 : f.frm.size ≤ 9223372036854775807) (tier : ByteArray) (now : Int) (w : World) (hI : StIn w s a) (r : St.Right s) (hq0 : St.faultE f = 0) (hd16 : f.dig.size = 16) (hko : f.kind = 1 ∨ St.kindOf s.files f.frm = 1) (hyo : (St.fileOf s.files f.dig).isSome = true ∧ St.filD s.files f.dig = f) (x : Tir) (hx : x.name = tier) (kk : Nat) (hkk : s.tiers[kk]? = some x) (hka : St.tierAt s.tiers tier = (kk : Int)) (hm : St.isMom now = true) (kc : Nat) (hk : St.copyAt s f.dig tier = (kc : Int)) : Calls Tryz.prog 50 #[.agg #[.int .i64 s.least, .int .i64 s.wait, .slice a.ta s.tiers.length a.tc, .slice a.fa s.files.length a.fc, .slice a.ca s.copies.length a.cc, .slice a.ha s.held.length a.hc, .slice a.ba s.bin.length a.bc], .agg #[.string f.dig, .int .i64 f.size, .int .i64 f.kind, .string f.frm], .string tier, .int .i64 now] w (CkPost w 0) := by
 have HFZ2 := Lib.hid hfz
 have hM0 : St.Up (·.dig) s.files := r.fup
 have HFU := Lib.hid hM0
 have hcf := fun V => checkFile_is f ⟨#[]⟩ hfz V
 rw [show St.fileC f ⟨#[]⟩ = St.faultE f from (St.fileE_bef [] f).symm] at hcf
 have HCF := Lib.hid hcf
 clear hcf
 rw [hq0] at HCF
 have hy2 := (St.sizes_iff.1 r.sizes).2.2.1
 obtain ⟨W0, hW0, hP, hz0, hB0⟩ := box w #[.int .i64 s.least, .int .i64 s.wait, .slice a.ta s.tiers.length a.tc, .slice a.fa s.files.length a.fc, .slice a.ca s.copies.length a.cc, .slice a.ha s.held.length a.hc, .slice a.ba s.bin.length a.bc] 28
 obtain ⟨W1, hW1, hD, hz1, hB1⟩ := box W0 #[.string f.dig, .int .i64 f.size, .int .i64 f.kind, .string f.frm] 30
 rw [hz0] at hD hz1
 have hP := hP.keep hB1
 have hBB := below_up hB0 hB1
 have HW0 := Lib.hid hW0; have HW1 := Lib.hid hW1; have HP := Lib.hid hP; have HD := Lib.hid hD; have HBB := Lib.hid hBB
 have HI1 := Lib.hid (hI.keep hBB)
 obtain ⟨q0, q1, q2, q3, q4, q5, q6⟩ := hP.seven
 obtain ⟨d0, d1, d2, d3⟩ := hD.four
 have HSE := Lib.hid (fun V (hv : Below W1.heap.size W1 V) => storeError_is s a V (HI1.out.keep hv))
 clear hI hW0 hW1 hP hD hz0 hz1 hB0 hB1 hBB
 have hv : Below W1.heap.size W1 W1 := Below.refl _ _
 have HBY := Lib.hid (fun V (hv : Below W1.heap.size W1 V) => byDigest_is s a V (HI1.out.keep hv) hy2)
 have HTA := Lib.hid (fun V (hv : Below W1.heap.size W1 V) => tierAt_is s a tier V (HI1.out.keep hv))
 have HMO := Lib.hid (fun V => isMomentS_is now V)
 have HLO := Lib.hid (fun (V : World) mb (hM : FMap V mb s.files) => hM.okD r.fup hfz)
 have HLZ := Lib.hid (fun (V : World) mb (hM : FMap V mb s.files) => hM.kind r.fup hf100)
 obtain ⟨yb, hyb⟩ : ∃ yb, yb = (St.fileOf s.files f.dig).isSome := ⟨_, rfl⟩
 rw [← hyb] at HLO
 obtain ⟨bk, hbk⟩ : ∃ bk, (f.kind != 1) = bk := ⟨_, rfl⟩
 obtain ⟨bz, hbz⟩ : ∃ bz, (St.kindOf s.files f.frm != 1) = bz := ⟨_, rfl⟩
 have HBZ := Lib.hid (show ∀ z, z = St.filD s.files f.frm → (z.kind != 1) = bz from fun z hz => by rw [hz, ← hbz, St.filD_kind])
 have hgd := guardFil
 clear hq0 hy2 hM0 hbz
 have hkr : (bk && bz) = false := by
  rcases hko with h | h
  ·rw [← hbk, h]; rfl
  ·have := HBZ.out _ rfl
   rw [← this, St.filD_kind, h]; simp
 clear hko
 rw [hyo.1] at hyb
 have HYT := Lib.hid hyo.2
 rw [hm] at HMO
 have hsz16 : f.dig.size ≤ 100 := by omega
 have htz : tier.size ≤ 100 := by
  have := St.nm40 (St.tier_good r (List.mem_of_getElem? hkk)).1
  rw [hx] at this; omega
 have HCKY := Lib.hid (fun V => copyKey_is f.dig tier hsz16 htz V)
 have HHS := Lib.hid (fun V (hI : StIn V s a) => hasC_is s.copies (St.cop_up r) (fun x hx => by have := St.cop_good r hx; omega) (by have := (St.sizes_iff.1 r.sizes).2.2.2.1; omega) (St.key f.dig tier) a.ca a.cc V hI.cl hI.co)
 have HFI := Lib.hid (fun V mb (hI : StIn V s a) (hM : FMap V mb s.files) => free_is s a x mb V hI hM r.fup (St.szs_of (F := s.files) (fun f hf => (r.dig f hf).2)) (St.sizes_iff.1 r.sizes).2.2.2.1 (St.tier_good r (List.mem_of_getElem? hkk)).2.1)
 have HKK := Lib.hid hkk; have HXN := Lib.hid hx
 have HKL : Hid (kk < s.tiers.length) := Lib.hid (List.getElem?_eq_some_iff.1 hkk).1
 rw [hx] at HFI
 rw [hka] at HTA
 have ht0 : ¬ ((kk : Int) < 0) := by omega
 have ht1 : decide ((kk : Int) < 0) = false := decide_eq_false ht0
 have hhk : St.hasK St.ckey s.copies (St.key f.dig tier) = true := by
  cases h : St.hasK St.ckey s.copies (St.key f.dig tier) with
  | true => rfl
  | false => have := (St.copyAt_pos (t := tier) r hd16).2 h; omega
 rw [hhk] at HHS
 subst hyb
 clear r hm hk hhk hsz16 htz hx hkk hka hd16 hyo
 have hbb : bk = false ∨ (bk = true ∧ bz = false) := by cases bk <;> cases bz <;> first | exact .inl rfl | exact .inr ⟨rfl, rfl⟩ | cases hkr
 clear hkr
 rcases hbb with rfl | ⟨rfl, rfl⟩
 all_goals
  go_enter Tryz.func50, Tryz.ntmps50
  go_upto_region 1 with fail
  rw [HW0.out, HW1.out]
  go_upto_region 5 with (first
   | (go_at_call 131; (with_reducible refine (HCF.out _).mono ?_); rintro e w6 ⟨rfl, hq⟩; have hv := below_up hv hq; obtain ⟨q0, q1, q2, q3, q4, q5, q6⟩ := (HP.out.keep hv).seven; obtain ⟨d0, d1, d2, d3⟩ := (HD.out.keep hv).four)
   | (go_at_call 98; (with_reducible refine (HBY.out _ hv).mono ?_); rintro e w7 ⟨mb, rfl, hmb, hM, hq⟩; have hv := below_up hv hq; obtain ⟨q0, q1, q2, q3, q4, q5, q6⟩ := (HP.out.keep hv).seven; obtain ⟨d0, d1, d2, d3⟩ := (HD.out.keep hv).four))
  obtain ⟨y, hlk, hy⟩ := HLO.out _ mb hM
  obtain ⟨yq, hyq⟩ := St.bool_of (y = f)
  have hne := fun W => neqF y f W yq hyq
  have HY := Lib.hid hy; have HYQ := Lib.hid hyq
  clear hy hyq hmb
  go_upto_region 6 with fail
  obtain ⟨w8, hW8, hX8, hz8, hB8⟩ := box w7 #[.string y.dig, .int .i64 y.size, .int .i64 y.kind, .string y.frm] 30
  rw [hW8]
  have hv := below_up hv hB8
  have HX8 := Lib.hid hX8
  have hM := hM.keep hB8
  clear hW8 hX8 hz8 hB8 hlk
  obtain ⟨q0, q1, q2, q3, q4, q5, q6⟩ := (HP.out.keep hv).seven; obtain ⟨d0, d1, d2, d3⟩ := (HD.out.keep hv).four
  go_upto_region 7 with (go_at_call 91; (with_reducible refine (HTA.out _ hv).mono ?_); rintro e w9 ⟨rfl, hq⟩; have hv := below_up hv hq; obtain ⟨q0, q1, q2, q3, q4, q5, q6⟩ := (HP.out.keep hv).seven; obtain ⟨d0, d1, d2, d3⟩ := (HD.out.keep hv).four)
  obtain ⟨x0, x1, x2, x3⟩ := (HX8.out.keep hq).four
  have hM := hM.keep hq
  have HM := Lib.hid hM
  obtain ⟨z, hlz, hz⟩ := HLZ.out _ mb hM
  have hzb := HBZ.out z hz
  have hfk := fldKind z.dig z.frm z.size z.kind
  clear hz hM hq
  obtain rfl : yq = true := HYQ.out.2 (HY.out.trans HYT.out)
  go_upto_region 15 with (go_at_call 132; (with_reducible refine (HMO.out _).mono ?_); rintro e w10 ⟨rfl, rfl⟩)
  have HBV := Lib.hid (below_up HBB.out hv)
  have HIV := Lib.hid (fun U (h : Below w9.heap.size w9 U) => HI1.out.keep (below_up hv h))
  have HMV := Lib.hid (fun U (h : Below w9.heap.size w9 U) => HM.out.keep h)
  have HCR := Lib.hid (fun d os => Calls.regrown_of (copiesRow_is s a (grow (redrawn w9 d) os)))
  have HKR := Lib.hid (fun d os => regrown_same (HCKY.out (grow (redrawn w9 d) os)))
  have HSR := Lib.hid (fun d os => Calls.regrown_of (HHS.out (grow (redrawn w9 d) os) (HIV.out _ (below_regrown w9 d os))))
  have HFR := Lib.hid (fun d os => Calls.regrown_of (HFI.out (grow (redrawn w9 d) os) mb (HIV.out _ (below_regrown w9 d os)) (HMV.out _ (below_regrown w9 d os))))
  obtain ⟨tb, off, ha, hb, hcell⟩ := (HIV.out _ (Below.refl _ _)).ti (by have := HKL.out; omega)
  have c0 : w9.cell? ⟨tb, off + kk * 4, none⟩ = some (.string tier) := by rw [← HXN.out]; exact hcell kk x HKK.out 0 (.string x.name) rfl
  have c1 : w9.cell? ⟨tb, off + kk * 4 + 1, none⟩ = some (.int .i64 x.room) := hcell kk x HKK.out 1 (.int .i64 x.room) rfl
  have c2 : w9.cell? ⟨tb, off + kk * 4 + 2, none⟩ = some (.int .i64 x.cost) := hcell kk x HKK.out 2 (.int .i64 x.cost) rfl
  have c3 : w9.cell? ⟨tb, off + kk * 4 + 3, none⟩ = some (.bool x.away) := hcell kk x HKK.out 3 (.bool x.away) rfl
  have hj0 : (0 : Int) ≤ (kk : Int) := by omega
  have hj1 : (kk : Int) < (s.tiers.length : Int) := by have := HKL.out; omega
  rw [ha] at q2 HCR HFR
  have k0 := cell_regrown q0
  have k1 := cell_regrown q1
  have k2 := cell_regrown q2
  have k3 := cell_regrown q3
  have k4 := cell_regrown q4
  have k5 := cell_regrown q5
  have k6 := cell_regrown q6
  have m0 := cell_regrown d0
  have m1 := cell_regrown d1
  have m2 := cell_regrown d2
  have m3 := cell_regrown d3
  have n0 := cell_regrown c0
  have n1 := cell_regrown c1
  have n2 := cell_regrown c2
  have n3 := cell_regrown c3
  clear q0 q1 q2 q3 q4 q5 q6 d0 d1 d2 d3 x0 x1 x2 x3 c0 c1 c2 c3 ha hb hcell hlz
  refine wp_region_quiet_below (by kernel_rfl) (by kernel_rfl) ?_
  repeat (go_big_quiet_step ((first | (go_at_call 54; with_reducible exact HCR.out _ _) | (go_at_call 56; with_reducible exact HKR.out _ _) | (go_at_call 133; with_reducible exact HSR.out _ _) | (go_at_call 97; with_reducible exact HFR.out _ _))))
  refine wpQuiet_nil ?_
  intro _ hw'
  obtain ⟨⟨dq, osq⟩, hw''⟩ := hw'
  subst hw''
  have hBu9 := below_regrown w9 dq osq
  generalize grow (redrawn w9 dq) osq = u9 at *
  clear dq osq
  have hv := below_up hv hBu9
  clear hBu9
  obtain ⟨q0, q1, q2, q3, q4, q5, q6⟩ := (HP.out.keep hv).seven; obtain ⟨d0, d1, d2, d3⟩ := (HD.out.keep hv).four
  have x0 := trivial; have x1 := trivial; have x2 := trivial; have x3 := trivial
  have HBW := Lib.hid (below_up HBB.out hv)
  go_wp2_with fail
  go_ret
  exact ⟨rfl, HBW.out⟩
namespace St
inductive ImpWay (s : Sto) (f : Fil) (tier : ByteArray) : Prop where
 | new (h : (fileOf s.files f.dig).isSome = false) (hk : copyAt s f.dig tier < 0) (x : Tir) (hx : x.name = tier) (kk : Nat) (hkk : s.tiers[kk]? = some x) (hka : tierAt s.tiers tier = (kk : Int)) (hfr : f.size ≤ x.room - used s.files tier s.copies) (hnl : s.files.length < 500)
 | there (h : (fileOf s.files f.dig).isSome = true ∧ filD s.files f.dig = f) (hk : copyAt s f.dig tier < 0) (x : Tir) (hx : x.name = tier) (kk : Nat) (hkk : s.tiers[kk]? = some x) (hka : tierAt s.tiers tier = (kk : Int)) (hfr : f.size ≤ x.room - used s.files tier s.copies)
 | kept (h : (fileOf s.files f.dig).isSome = true ∧ filD s.files f.dig = f) (kc : Nat) (hk : copyAt s f.dig tier = (kc : Int)) (x : Tir) (hx : x.name = tier) (kk : Nat) (hkk : s.tiers[kk]? = some x) (hka : tierAt s.tiers tier = (kk : Int))
theorem copy_there {s : Sto} (r : Right s) {d t : ByteArray} (h : hasCopy s d t = true) : (fileOf s.files d).isSome = true := by
 unfold hasCopy at h
 obtain ⟨c, hcm, hcd⟩ := List.any_eq_true.1 h
 have h5 := (r.cop c hcm).1
 rw [Bool.and_eq_true] at hcd
 rwa [eq_iff.1 hcd.1] at h5
theorem imp_way {s : Sto} (r : Right s) {f : Fil} {tier : ByteArray} {now : Int} (h : impE s f tier now = 0) :
  faultE f = 0 ∧ (f.kind = 1 ∨ kindOf s.files f.frm = 1) ∧ isMom now = true ∧ ImpWay s f tier := by
 rw [impE_eq] at h
 by_cases h0 : faultE f = 0
 ·rw [if_pos h0] at h
  by_cases h1 : f.kind ≠ 1 ∧ kindOf s.files f.frm ≠ 1
  ·rw [if_pos h1] at h; cases h
  ·rw [if_neg h1] at h
   have hko : f.kind = 1 ∨ kindOf s.files f.frm = 1 := by
    by_cases h2 : f.kind = 1
    ·exact .inl h2
    ·by_cases h3 : kindOf s.files f.frm = 1
     ·exact .inr h3
     ·exact absurd ⟨h2, h3⟩ h1
   by_cases hb : (fileOf s.files f.dig).isSome = true ∧ filD s.files f.dig ≠ f
   ·rw [if_pos hb] at h; cases h
   ·rw [if_neg hb] at h
    cases ht : hasTier s.tiers tier with
    | false => rw [ht, if_neg (by decide)] at h; cases h
    | true =>
      rw [ht, if_pos rfl] at h
      have hh := hasTier_idx s.tiers tier
      rw [ht] at hh
      have ht0 : 0 ≤ tierAt s.tiers tier := of_decide_eq_true hh.symm
      obtain ⟨k, x, hk, hka, hx⟩ := tier_get ht0
      cases hm : isMom now with
      | false => rw [hm, if_neg (by decide)] at h; cases h
      | true =>
        rw [hm, if_pos rfl] at h
        have hfree : freeIn s tier = x.room - used s.files tier s.copies := by unfold freeIn; rw [room_get hk hka]
        rw [hfree] at h
        refine ⟨h0, hko, rfl, ?_⟩
        by_cases hc : hasCopy s f.dig tier = false ∧ x.room - used s.files tier s.copies < f.size
        ·rw [if_pos hc] at h; cases h
        ·rw [if_neg hc] at h
         by_cases hl : (fileOf s.files f.dig).isSome = false ∧ 500 ≤ s.files.length
         ·rw [if_pos hl] at h; cases h
         ·clear h
          have hth : (fileOf s.files f.dig).isSome = true → (fileOf s.files f.dig).isSome = true ∧ filD s.files f.dig = f := fun g => ⟨g, by
           by_cases e : filD s.files f.dig = f
           ·exact e
           ·exact absurd ⟨g, e⟩ hb⟩
          cases hcc : hasCopy s f.dig tier with
          | true =>
            have hn : ¬ copyAt s f.dig tier < 0 := fun g => by rw [(copy_none _ _ _).2 g] at hcc; cases hcc
            exact .kept (hth (copy_there r hcc)) (copyAt s f.dig tier).toNat (by omega) x hx k hk hka
          | false =>
            have hkn := (copy_none _ _ _).1 hcc
            have hfr : f.size ≤ x.room - used s.files tier s.copies := by
             rcases Int.lt_or_le (x.room - used s.files tier s.copies) f.size with g | g
             ·exact absurd ⟨hcc, g⟩ hc
             ·exact g
            cases ho : (fileOf s.files f.dig).isSome with
            | true => exact .there (hth ho) hkn x hx k hk hka hfr
            | false =>
              refine .new ho hkn x hx k hk hka hfr ?_
              rcases Nat.lt_or_ge s.files.length 500 with g | g
              ·exact g
              ·exact absurd ⟨ho, g⟩ hl
 ·rw [if_neg h0] at h; exact absurd h h0
theorem fault16 {f : Fil} (h : faultE f = 0) : f.dig.size = 16 := by
 unfold faultE at h
 cases hd : Fd.fileB f.dig with
 | true => exact dig16 hd
 | false => rw [hd, if_neg (by decide)] at h; cases h
end St
theorem checkImportS_is (s : Sto) (a : StA) (f : Fil) (hfz : f.dig.size ≤ 9223372036854775807) (hf100 : f.frm.size ≤ 9223372036854775807) (tier : ByteArray) (now : Int) (w : World) (hI : StIn w s a) (r : St.Right s) (q : Int) (hq : St.impE s f tier now = q) : Calls Tryz.prog 50 #[.agg #[.int .i64 s.least, .int .i64 s.wait, .slice a.ta s.tiers.length a.tc, .slice a.fa s.files.length a.fc, .slice a.ca s.copies.length a.cc, .slice a.ha s.held.length a.hc, .slice a.ba s.bin.length a.bc], .agg #[.string f.dig, .int .i64 f.size, .int .i64 f.kind, .string f.frm], .string tier, .int .i64 now] w (CkPost w q) := by
 by_cases hq0 : q = 0
 ·subst hq0
  obtain ⟨h0, hko, hm, hw⟩ := St.imp_way r hq
  have h16 := St.fault16 h0
  cases hw with
  | new h hk x hx kk hkk hka hfr hnl => exact checkImportS_new s a f hfz hf100 tier now w hI r h0 h16 hko h x hx kk hkk hka hm hk hfr hnl
  | there h hk x hx kk hkk hka hfr => exact checkImportS_there s a f hfz hf100 tier now w hI r h0 h16 hko h x hx kk hkk hka hm hk hfr
  | kept h kc hk x hx kk hkk hka => exact checkImportS_kept s a f hfz hf100 tier now w hI r h0 h16 hko h x hx kk hkk hka hm kc hk
 ·rw [St.impE_eq] at hq
  by_cases h0 : St.faultE f = 0
  ·rw [if_pos h0] at hq
   have h16 := St.fault16 h0
   by_cases h1 : f.kind ≠ 1 ∧ St.kindOf s.files f.frm ≠ 1
   ·rw [if_pos h1] at hq
    subst hq
    exact checkImportS_orig s a f hfz hf100 tier now w hI r h0 h1.1 h1.2
   ·rw [if_neg h1] at hq
    have hko : f.kind = 1 ∨ St.kindOf s.files f.frm = 1 := by
     by_cases h2 : f.kind = 1
     ·exact .inl h2
     ·by_cases h3 : St.kindOf s.files f.frm = 1
      ·exact .inr h3
      ·exact absurd ⟨h2, h3⟩ h1
    by_cases hb : (St.fileOf s.files f.dig).isSome = true ∧ St.filD s.files f.dig ≠ f
    ·rw [if_pos hb] at hq
     subst hq
     exact checkImportS_form s a f hfz hf100 tier now w hI r h0 hko hb
    ·rw [if_neg hb] at hq
     have hyo : (St.fileOf s.files f.dig).isSome = false ∨ St.filD s.files f.dig = f := by
      cases ho : (St.fileOf s.files f.dig).isSome with
      | false => exact .inl rfl
      | true =>
        by_cases he : St.filD s.files f.dig = f
        ·exact .inr he
        ·exact absurd ⟨ho, he⟩ hb
     cases ht : St.hasTier s.tiers tier with
     | false =>
       rw [ht, if_neg (by decide)] at hq
       subst hq
       have hh := St.hasTier_idx s.tiers tier
       rw [ht] at hh
       exact checkImportS_tier s a f hfz hf100 tier now w hI r h0 hko hyo (by have := of_decide_eq_false hh.symm; omega)
     | true =>
       rw [ht, if_pos rfl] at hq
       have hh := St.hasTier_idx s.tiers tier
       rw [ht] at hh
       have ht0 : 0 ≤ St.tierAt s.tiers tier := of_decide_eq_true hh.symm
       obtain ⟨k, x, hk, hka, hx⟩ := St.tier_get ht0
       cases hm : St.isMom now with
       | false =>
         rw [hm, if_neg (by decide)] at hq
         subst hq
         exact checkImportS_range s a f hfz hf100 tier now w hI r h0 hko hyo ht0 hm
       | true =>
         rw [hm, if_pos rfl] at hq
         have hfree : St.freeIn s tier = x.room - St.used s.files tier s.copies := by unfold St.freeIn; rw [St.room_get hk hka]
         rw [hfree] at hq
         by_cases hc : St.hasCopy s f.dig tier = false ∧ x.room - St.used s.files tier s.copies < f.size
         ·rw [if_pos hc] at hq
          subst hq
          exact checkImportS_full s a f hfz hf100 tier now w hI r h0 h16 hko hyo x hx k hk hka hm ((St.copy_none _ _ _).1 hc.1) hc.2
         ·rw [if_neg hc] at hq
          by_cases hl : (St.fileOf s.files f.dig).isSome = false ∧ 500 ≤ s.files.length
          ·rw [if_pos hl] at hq
           subst hq
           have hcn : St.hasCopy s f.dig tier = false := by
            cases hcc : St.hasCopy s f.dig tier with
            | false => rfl
            | true => have := St.copy_there r hcc; rw [hl.1] at this; cases this
           have hfr : f.size ≤ x.room - St.used s.files tier s.copies := by
            rcases Int.lt_or_le (x.room - St.used s.files tier s.copies) f.size with h | h
            ·exact absurd ⟨hcn, h⟩ hc
            ·exact h
           exact checkImportS_large s a f hfz hf100 tier now w hI r h0 h16 hko hl.1 x hx k hk hka hm ((St.copy_none _ _ _).1 hcn) hfr hl.2
          ·rw [if_neg hl] at hq
           exact absurd hq.symm hq0
  ·rw [if_neg h0] at hq
   subst hq
   refine checkImportS_fault s a f tier now _ h0 w hI fun V => ?_
   have h := checkFile_is f ⟨#[]⟩ hfz V
   rw [show St.fileC f ⟨#[]⟩ = St.faultE f from (St.fileE_bef [] f).symm] at h
   exact h
end Go.Proofs.YthdiccdnggloiaaGreatDoor
namespace Go.Proofs.YthdiccdnggloiaaGreatDoor
open Go.RowKit
namespace St
theorem imp_there {s : Sto} (r : Right s) {f : Fil} (h1 : (fileOf s.files f.dig).isSome = true) (h2 : filD s.files f.dig = f) : wth fdig f s.files = s.files := by
 refine wth_same r.fup ?_
 obtain ⟨g, hg⟩ := Option.isSome_iff_exists.1 h1
 have h3 : filD s.files f.dig = g := by unfold filD; rw [hg]; rfl
 rw [← h2, h3]
 exact (find_mem hg).1
theorem imp_new_cop {s : Sto} (r : Right s) {d t : ByteArray} {now : Int} (hd : d.size = 16) (hk : copyAt s d t < 0) :
  wth ckey ⟨d, t, true, askedOf s d t now⟩ s.copies = s.copies.take (pos ckey (key d t) s.copies) ++ (⟨d, t, true, now⟩ : Cop) :: s.copies.drop (pos ckey (key d t) s.copies) ∧ (∀ i x, s.copies[i]? = some x → i < pos ckey (key d t) s.copies → ahead x ⟨d, t, true, now⟩ = true) ∧ (∀ x, s.copies[pos ckey (key d t) s.copies]? = some x → ahead x ⟨d, t, true, now⟩ = false) := by
 have hhk : hasK ckey s.copies (key d t) = false := by
  cases h : hasK ckey s.copies (key d t) with
  | false => rfl
  | true => have := (copyAt_pos (t := t) r hd).1 h; omega
 have hak : askedOf s d t now = now := by
  unfold askedOf
  cases hq : s.copies.find? (fun c => eq c.dig d && eq c.tier t) with
  | none => rfl
  | some c =>
    have h3 := hasCopy_key (t := t) r hd
    rw [hhk] at h3
    have h4 : hasCopy s d t = true := List.any_eq_true.2 ⟨c, List.mem_of_find?_eq_some hq, List.find?_some (p := fun c : Cop => eq c.dig d && eq c.tier t) hq⟩
    rw [h4] at h3; cases h3
 rw [hak]
 refine ⟨wth_new (key := ckey) (x := (⟨d, t, true, now⟩ : Cop)) hhk, fun i x hx hi => ?_, fun x hx => ?_⟩
 ·rw [ahead_key (b := (⟨d, t, true, now⟩ : Cop)) ((cop_dig r (List.mem_of_getElem? hx)).trans hd.symm)]
  exact pos_before hx hi
 ·rw [ahead_key (b := (⟨d, t, true, now⟩ : Cop)) ((cop_dig r (List.mem_of_getElem? hx)).trans hd.symm)]
  exact pos_at hx
theorem imp_old_cop {s : Sto} (r : Right s) {d t : ByteArray} {now : Int} (hd : d.size = 16) {k : Nat} (hk : copyAt s d t = (k : Int)) :
  ∃ c, s.copies[k]? = some c ∧ c.dig = d ∧ c.tier = t ∧ wth ckey ⟨d, t, true, askedOf s d t now⟩ s.copies = s.copies.set k ⟨d, t, true, c.asked⟩ := by
 have hhk : hasK ckey s.copies (key d t) = true := by
  cases h : hasK ckey s.copies (key d t) with
  | true => rfl
  | false => have := (copyAt_pos (t := t) r hd).2 h; omega
 have hps := (copyAt_pos (t := t) r hd).1 hhk
 have hpk : pos ckey (key d t) s.copies = k := by omega
 have hfi := find_idx (p := isCop d t) (L := s.copies) (i := 0)
 cases hq : s.copies.find? (isCop d t) with
 | none =>
   have h1 : copyAt s d t = -1 := hfi.2 hq
   omega
 | some c =>
   obtain ⟨j, h1, h2⟩ := hfi.1 c hq
   have h3 : copyAt s d t = ((0 + j : Nat) : Int) := h1
   have h4 : j = k := by omega
   have hcd := List.find?_some hq
   unfold isCop at hcd
   rw [Bool.and_eq_true] at hcd
   have hak : askedOf s d t now = c.asked := by
    unfold askedOf
    have hq2 : s.copies.find? (fun c => eq c.dig d && eq c.tier t) = some c := hq
    rw [hq2]
   refine ⟨c, by rw [← h4]; exact h2, eq_iff.1 hcd.1, eq_iff.1 hcd.2, ?_⟩
   rw [hak, wth_old (key := ckey) (x := (⟨d, t, true, c.asked⟩ : Cop)) hhk]
   rw [show pos ckey (ckey (⟨d, t, true, c.asked⟩ : Cop)) s.copies = k from hpk]
end St
end Go.Proofs.YthdiccdnggloiaaGreatDoor
