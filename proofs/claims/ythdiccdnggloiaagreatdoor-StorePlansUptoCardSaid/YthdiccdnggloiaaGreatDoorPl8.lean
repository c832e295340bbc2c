/- Parts of the proof, no condition: StPlcG, StHasPG, StChk6, StChk7, StChk8. -/
import Derived.Test.YthdiccdnggloiaaGreatDoorPl3
import Derived.Test.YthdiccdnggloiaaGreatDoorPl5
import Derived.Lib.QuietBelow
set_option maxRecDepth 100000
set_option maxHeartbeats 16000000
set_option linter.unusedSimpArgs false
set_option linter.unusedVariables false
namespace Go.Proofs.YthdiccdnggloiaaGreatDoor
open Go.RowKit Go.Sort Go.Shelf Go.Maps
theorem entersKG : ∀ args w, (callFunc 152 args).run Tryz.prog w = .ok (.enter 152 args) w := enters_of Tryz.func152 (by kernel_rfl) rfl
theorem entersPG : ∀ args w, (callFunc 199 args).run Tryz.prog w = .ok (.enter 199 args) w := enters_of Tryz.func199 (by kernel_rfl) rfl
theorem keyKG_is (x : Gon) (w : World) : Calls Tryz.prog 152 #[.agg #[.string x.dig, .int .i64 x.day]] w fun e w' => e = .returned (.string (St.gdig x)) ∧ Below w.heap.size w w' := by
 obtain ⟨W1, hW1, hX, hz1, hB1⟩ := box w #[.string x.dig, .int .i64 x.day] 112
 have HW1 := Lib.hid hW1; have HB1 := Lib.hid hB1
 have c0 : W1.cell? ⟨w.heap.size, 0, none⟩ = some (.string x.dig) := (hX.cell 0).trans rfl
 have c1 : W1.cell? ⟨w.heap.size, 1, none⟩ = some (.int .i64 x.day) := (hX.cell 1).trans rfl
 clear hW1 hX hz1 hB1
 go_enter Tryz.func152, Tryz.ntmps152
 go_wp2_with fail
 rw [HW1.out]
 go_wp2_with fail
 go_ret
 exact ⟨rfl, HB1.out⟩
theorem placeGK_is (x : Gon) (k : ByteArray) (a : Option Addr) (n ca bk : Nat) (t : TypeId) (w : World) (hs : Blk w bk #[.func (.func 152) #[] #[], .slice a n ca] t) :
  Calls Tryz.prog 199 #[.agg #[.string x.dig, .int .i64 x.day], .string k, .pointer (some ⟨bk, 0, none⟩)] w fun e w' => e = .returned (.int .i64 (St.cmpS (St.gdig x) k)) ∧ Below w.heap.size w w' := by
 obtain ⟨W1, hW1, hX, hz1, hB1⟩ := box w #[.string x.dig, .int .i64 x.day] 112
 have HW1 := Lib.hid hW1; have HB1 := Lib.hid hB1
 have c0 : W1.cell? ⟨w.heap.size, 0, none⟩ = some (.string x.dig) := (hX.cell 0).trans rfl
 have c1 : W1.cell? ⟨w.heap.size, 1, none⟩ = some (.int .i64 x.day) := (hX.cell 1).trans rfl
 have r0 : W1.cell? ⟨bk, 0, none⟩ = some (.func (.func 152) #[] #[]) := ((hs.keep hB1).cell 0).trans rfl
 have eg := entersKG
 have HK := Lib.hid (fun W => keyKG_is x W)
 have HC := Lib.hid (fun W => cmpStr_is (St.gdig x) k W)
 generalize St.gdig x = kx at *
 clear hs hW1 hX hz1 hB1
 go_enter Tryz.func199, Tryz.ntmps199
 go_upto_region 1 with fail
 rw [HW1.out]
 go_wp2_with (first | (go_at_fn 152; (with_reducible refine (HK.out _).mono ?_); rintro e w4 ⟨rfl, hB4⟩) | (go_at_call 147; (with_reducible refine (HC.out _).mono ?_); rintro e w5 ⟨rfl, rfl⟩))
 go_ret
 exact ⟨rfl, below_up HB1.out hB4⟩
theorem bsG_is (L : List Gon) (hu : St.Up St.gdig L) (h1m : L.length ≤ 1000000) (k : ByteArray) (a : Option Addr) (ca bk : Nat) (t : TypeId) (w : World) (hl : L.length ≤ ca ∧ ca ≤ 9223372036854775807) (hr : RowE St.eG w a L) (hs : Blk w bk #[.func (.func 152) #[] #[], .slice a L.length ca] t) :
  Calls Tryz.prog 198 #[.slice a L.length ca, .string k, .func (.func 199) #[] #[.pointer (some ⟨bk, 0, none⟩)]] w fun e w' => e = .returned (.tuple #[.int .i64 (St.pos St.gdig k L), .bool (St.hasK St.gdig L k)]) ∧ Below w.heap.size w w' := by
 have eg := entersPG
 have HR := Lib.hid hr; have HS := Lib.hid hs; have HU := Lib.hid hu
 obtain ⟨n, hn⟩ : ∃ n, L.length = n := ⟨_, rfl⟩
 have HN := Lib.hid hn
 have HC0 : Hid (∀ (i : Nat) (x : Gon), L[i]? = some x → ∀ V, Below w.heap.size w V → Calls Tryz.prog 199 #[.agg #[.string x.dig, .int .i64 x.day], .string k, .pointer (some ⟨bk, 0, none⟩)] V fun e w' => e = .returned (.int .i64 (St.cmpS (St.gdig x) k)) ∧ Below V.heap.size V w') := Lib.hid fun i x hx V hv => placeGK_is x k a L.length ca bk t V (hs.keep hv)
 rw [hn] at hl h1m ⊢
 clear hr hs hu hn
 go_enter Tryz.func198, Tryz.ntmps198
 go_wp2_with fail
 go_loopg [9, 10] n (fun g s7 s8 wr => ∃ lo hi : Nat, s7 = .int .i64 lo ∧ s8 = .int .i64 hi ∧ lo ≤ hi ∧ hi ≤ n ∧ g = 0 + (hi - lo) ∧ Below w.heap.size w wr ∧ (∀ i x, L[i]? = some x → i < lo → St.lt (St.gdig x) k = true) ∧ (∀ i x, L[i]? = some x → hi ≤ i → St.lt (St.gdig x) k = false))
 case atStart => exact ⟨0, n, rfl, rfl, Nat.zero_le _, Nat.le_refl _, by omega, Below.refl _ _, fun i x _ h => absurd h (Nat.not_lt_zero _), fun i x hx h => by have := (List.getElem?_eq_some_iff.1 hx).1; have := HN.out; omega⟩
 case round =>
  obtain ⟨lo, hi, rfl, rfl, hlh, hin, rfl, hB, h1, h2⟩ := hrel
  have I1 := Lib.hid h1; have I2 := Lib.hid h2
  clear h1 h2
  by_cases hlt : lo < hi
  ·obtain ⟨x, hx⟩ : ∃ x, L[(lo + hi) / 2]? = some x := ⟨_, List.getElem?_eq_getElem (by rw [HN.out]; omega)⟩
   obtain ⟨b, off, ha, hb, hcell⟩ := (HR.out.keep hB) (by rw [HN.out]; omega)
   have c0 : wr.cell? ⟨b, off + (lo + hi) / 2 * 2, none⟩ = some (.string x.dig) := hcell _ x hx 0 (.string x.dig) rfl
   have c1 : wr.cell? ⟨b, off + (lo + hi) / 2 * 2 + 1, none⟩ = some (.int .i64 x.day) := hcell _ x hx 1 (.int .i64 x.day) rfl
   clear hcell
   have HX := Lib.hid hx
   obtain ⟨s, hsg⟩ : ∃ s, St.cmpS (St.gdig x) k = s := ⟨_, rfl⟩
   have HC := Lib.hid (HC0.out _ x hx _ hB)
   rw [hsg] at HC
   have HSG : Hid (s < 0 ↔ St.lt (St.gdig x) k = true) := Lib.hid (by rw [← hsg]; exact St.cmpS_lt)
   rw [ha]
   have HB := Lib.hid hB
   clear hsg hx hB
   by_cases hyx : s < 0
   ·go_wp2_with (go_at_fn 199; (with_reducible refine HC.out.mono ?_); rintro e w4 ⟨rfl, hB4⟩)
    rw [← ha]
    go_roundg (hi - ((lo + hi) / 2 + 1))
    case measure => omega
    case rel =>
     refine ⟨(lo + hi) / 2 + 1, hi, by rw [show ((lo : Int) + (hi : Int)) / 2 + 1 = (((lo + hi) / 2 + 1 : Nat) : Int) by omega], rfl, by omega, hin, by omega, below_up HB.out hB4, fun i y hy hi2 => ?_, I2.out⟩
     by_cases e : i = (lo + hi) / 2
     ·subst e; rw [HX.out] at hy; obtain rfl := Option.some.inj hy; exact HSG.out.1 hyx
     ·exact St.lt_trans (HU.out.lt hy HX.out (by omega)) (HSG.out.1 hyx)
   ·go_wp2_with (go_at_fn 199; (with_reducible refine HC.out.mono ?_); rintro e w4 ⟨rfl, hB4⟩)
    rw [← ha]
    go_roundg ((lo + hi) / 2 - lo)
    case measure => omega
    case rel =>
     refine ⟨lo, (lo + hi) / 2, rfl, by rw [show ((lo : Int) + (hi : Int)) / 2 = (((lo + hi) / 2 : Nat) : Int) by omega], by omega, by omega, by omega, below_up HB.out hB4, I1.out, fun i y hy hi2 => ?_⟩
     have hxk : St.lt (St.gdig x) k = false := by
      cases h : St.lt (St.gdig x) k
      ·rfl
      ·exact absurd (HSG.out.2 h) (by omega)
     by_cases e : i = (lo + hi) / 2
     ·subst e; rw [HX.out] at hy; obtain rfl := Option.some.inj hy; exact hxk
     ·have h3 : St.lt (St.gdig x) (St.gdig y) = true := HU.out.lt HX.out hy (by omega)
      cases h : St.lt (St.gdig y) k
      ·rfl
      ·rw [St.lt_trans h3 h] at hxk; cases hxk
  ·have : hi = lo := by omega
   subst this
   have HP : Hid (St.pos St.gdig k L = hi) := Lib.hid (St.pos_is (by rw [HN.out]; exact hin) (fun i x h1 h2 => I1.out i x h1 h2) (fun x hx => I2.out hi x hx (Nat.le_refl _)))
   by_cases hnn : hi < n
   ·obtain ⟨x, hx⟩ : ∃ x, L[hi]? = some x := ⟨_, List.getElem?_eq_getElem (by rw [HN.out]; omega)⟩
    have HH : Hid (St.hasK St.gdig L k = St.eq (St.gdig x) k) := Lib.hid (by rw [St.has_pos HU.out, HP.out, hx])
    obtain ⟨b, off, ha, hb, hcell⟩ := (HR.out.keep hB) (by rw [HN.out]; omega)
    have c0 : wr.cell? ⟨b, off + hi * 2, none⟩ = some (.string x.dig) := hcell _ x hx 0 (.string x.dig) rfl
    have c1 : wr.cell? ⟨b, off + hi * 2 + 1, none⟩ = some (.int .i64 x.day) := hcell _ x hx 1 (.int .i64 x.day) rfl
    have HEQ : Hid ((St.cmpS (St.gdig x) k == 0) = St.eq (St.gdig x) k) := Lib.hid St.cmpS_eq
    have HC := Lib.hid (HC0.out _ x hx _ hB)
    have HV : Hid (St.hasK St.gdig L k = (St.cmpS (St.gdig x) k == 0)) := Lib.hid (HH.out.trans HEQ.out.symm)
    clear HEQ HH hcell hx
    generalize St.cmpS (St.gdig x) k = s at HC HV
    have HB := Lib.hid hB
    clear hB
    rw [ha]
    by_cases hs0 : s = 0
    ·subst hs0
     go_wp2_with (go_at_fn 199; (with_reducible refine HC.out.mono ?_); rintro e w4 ⟨rfl, hB4⟩)
     go_ret2
     exact ⟨by rw [HP.out, HV.out]; rfl, below_up HB.out hB4⟩
    ·have hs1 : (s == 0) = false := by simpa using hs0
     go_wp2_with (go_at_fn 199; (with_reducible refine HC.out.mono ?_); rintro e w4 ⟨rfl, hB4⟩)
     go_ret2
     exact ⟨by rw [HP.out, HV.out, hs1]; rfl, below_up HB.out hB4⟩
   ·obtain rfl : n = hi := by omega
    have HH : Hid (St.hasK St.gdig L k = false) := Lib.hid (by rw [St.has_pos HU.out, HP.out, List.getElem?_eq_none (by rw [HN.out]; exact Nat.le_refl _)])
    go_wp2_with fail
    go_ret2
    exact ⟨by rw [HP.out, HH.out]; rfl, hB⟩
theorem placeG_is (L : List Gon) (hu : St.Up St.gdig L) (h1m : L.length ≤ 1000000) (k : ByteArray) (a : Option Addr) (ca : Nat) (w : World) (hl : L.length ≤ ca ∧ ca ≤ 9223372036854775807) (hr : RowE St.eG w a L) :
  Calls Tryz.prog 153 #[.agg #[.func (.func 152) #[] #[], .slice a L.length ca], .string k] w fun e w' => e = .returned (.tuple #[.int .i64 (St.pos St.gdig k L), .bool (St.hasK St.gdig L k)]) ∧ Below w.heap.size w w' := by
 obtain ⟨W1, hW1, hP, hz1, hB1⟩ := box w #[.func (.func 152) #[] #[], .slice a L.length ca] 108
 have HW1 := Lib.hid hW1; have HB1 := Lib.hid hB1
 have r1 : W1.cell? ⟨w.heap.size, 1, none⟩ = some (.slice a L.length ca) := (hP.cell 1).trans rfl
 have HC := Lib.hid (bsG_is L hu h1m k a ca w.heap.size _ W1 hl (hr.keep hB1) hP)
 have hmf : ∀ (fn : Fn) (first cap : Array Value) (w : World), (Instr.makeFunc fn first cap).run Tryz.prog w = .ok (.func fn first cap) w := fun _ _ _ _ => rfl
 clear hW1 hP hz1 hB1 hr
 go_enter Tryz.func153, Tryz.ntmps153
 go_wp2_with fail
 rw [HW1.out]
 go_wp2_with (go_at_call 198; (with_reducible refine HC.out.mono ?_); rintro e w4 ⟨rfl, hB4⟩)
 go_ret2
 exact ⟨rfl, below_up HB1.out hB4⟩
theorem binRow_is (s : Sto) (a : StA) (w : World) :
  Calls Tryz.prog 60 #[.agg #[.int .i64 s.least, .int .i64 s.wait, .slice a.ta s.tiers.length a.tc, .slice a.fa s.files.length a.fc, .slice a.ca s.copies.length a.cc, .slice a.ha s.held.length a.hc, .slice a.ba s.bin.length a.bc]] w fun e w' => e = .returned (.agg #[.func (.func 152) #[] #[], .slice a.ba s.bin.length a.bc]) ∧ Below w.heap.size w w' := by
 obtain ⟨W1, hW1, hP, hz1, hB1⟩ := box w #[.int .i64 s.least, .int .i64 s.wait, .slice a.ta s.tiers.length a.tc, .slice a.fa s.files.length a.fc, .slice a.ca s.copies.length a.cc, .slice a.ha s.held.length a.hc, .slice a.ba s.bin.length a.bc] 28
 have HW1 := Lib.hid hW1; have HB1 := Lib.hid hB1
 have q5 : W1.cell? ⟨w.heap.size, 6, none⟩ = some (.slice a.ba s.bin.length a.bc) := (hP.cell 6).trans rfl
 obtain ⟨W2, hW2, hX2, hz2, hB2⟩ := box W1 #[.func (.func 152) #[] #[], .slice a.ba s.bin.length a.bc] 108
 have HW2 := Lib.hid hW2
 rw [hz1] at hX2
 have HX2 := Lib.hid hX2; have HBB := Lib.hid (below_up hB1 hB2)
 have hsf : ∀ (fn : Fn) (x y : Array Value) (p : Addr) (m : Mode) (W : World), (store p (.func fn x y) m).run Tryz.prog W = stored Tryz.prog W p (.func fn x y) m := fun fn x y p m W => run_store Tryz.prog W p _ m rfl
 clear hW1 hP hW2 hX2 hB1 hB2
 go_enter Tryz.func60, Tryz.ntmps60
 go_wp2_with fail
 rw [HW1.out]
 go_wp2_with fail
 rw [HW2.out]
 have g0 : W2.cell? ⟨w.heap.size + 1, 0, none⟩ = some (.func (.func 152) #[] #[]) := (HX2.out.cell 0).trans rfl
 have g1 : W2.cell? ⟨w.heap.size + 1, 1, none⟩ = some (.slice a.ba s.bin.length a.bc) := (HX2.out.cell 1).trans rfl
 refine bodyPost_ret (v := .agg #[.func (.func 152) #[] #[], .slice a.ba s.bin.length a.bc]) (by simp [results, Tryz.results60, go_sem, g0, g1]) rfl ⟨rfl, HBB.out⟩
theorem hasG_is (L : List Gon) (hu : St.Up St.gdig L) (h1m : L.length ≤ 1000000) (k : ByteArray) (a : Option Addr) (ca : Nat) (w : World) (hl : L.length ≤ ca ∧ ca ≤ 9223372036854775807) (hr : RowE St.eG w a L) :
  Calls Tryz.prog 62 #[.agg #[.func (.func 152) #[] #[], .slice a L.length ca], .string k] w fun e w' => e = .returned (.bool (St.hasK St.gdig L k)) ∧ Below w.heap.size w w' := by
 obtain ⟨W1, hW1, hP, hz1, hB1⟩ := box w #[.func (.func 152) #[] #[], .slice a L.length ca] 108
 have HW1 := Lib.hid hW1; have HB1 := Lib.hid hB1
 have r0 : W1.cell? ⟨w.heap.size, 0, none⟩ = some (.func (.func 152) #[] #[]) := (hP.cell 0).trans rfl
 have r1 : W1.cell? ⟨w.heap.size, 1, none⟩ = some (.slice a L.length ca) := (hP.cell 1).trans rfl
 have HC := Lib.hid (placeG_is L hu h1m k a ca W1 hl (hr.keep hB1))
 clear hW1 hP hz1 hB1 hr
 go_enter Tryz.func62, Tryz.ntmps62
 go_wp2_with fail
 rw [HW1.out]
 go_wp2_with (go_at_call 153; (with_reducible refine HC.out.mono ?_); rintro e w4 ⟨rfl, hB4⟩)
 go_ret
 exact ⟨rfl, below_up HB1.out hB4⟩
namespace St
theorem tier_ok {L : List Tir} (h : scan tierE [] L = 0) {t : Tir} (ht : t ∈ L) : Fd.nameB t.name = true ∧ (0 ≤ t.room ∧ t.room ≤ 1000000000000) ∧ (0 ≤ t.cost ∧ t.cost ≤ 1000000) := by
 obtain ⟨i, hi⟩ := List.getElem?_of_mem ht
 have h := scan_iff.1 h i t hi
 unfold tierE at h
 split at h
 ·rename_i h1
  split at h
  ·cases h
  ·split at h
   ·rename_i h2
    exact ⟨h1, of_decide_eq_true h2.1, of_decide_eq_true h2.2⟩
   ·cases h
 ·cases h
theorem nm40 {n : ByteArray} (h : Fd.nameB n = true) : n.size ≤ 40 := by
 unfold Fd.nameB at h
 exact (of_decide_eq_true h).1.2
theorem files_ok {F : List Fil} (h : filesE F = 0) : scan fileE [] F = 0 ∧ Up (·.dig) F ∧ Szs F := by
 unfold filesE at h
 by_cases h1 : scan fileE [] F = 0
 ·exact ⟨h1, files_up h1, szs_of fun f hf => ((files_iff.1 h1).1 f hf).2⟩
 ·rw [if_neg h1] at h; exact absurd h h1
theorem cop_short {T : List Tir} {F : List Fil} (ht : scan tierE [] T = 0) (hf : scan fileE [] F = 0) {c : Cop} (h1 : (fileOf F c.dig).isSome = true) (h2 : hasTier T c.tier = true) : c.dig.size = 16 ∧ c.tier.size ≤ 40 := by
 constructor
 ·obtain ⟨f, h3⟩ := Option.isSome_iff_exists.1 h1
  obtain ⟨h4, h5⟩ := find_mem h3
  rw [← eq_iff.1 h5]
  exact file_dig16 hf h4
 ·unfold hasTier at h2
  obtain ⟨t, h3, h4⟩ := List.any_eq_true.1 h2
  rw [← eq_iff.1 h4]
  exact nm40 (tier_ok ht h3).1
end St
theorem checkCopies_is (s : Sto) (a : StA) (w : World) (hI : StIn w s a) (hsz : St.sizesE s = 0) (htr : St.scan St.tierE [] s.tiers = 0) (hfl : St.filesE s.files = 0) :
  Calls Tryz.prog 111 #[.agg #[.int .i64 s.least, .int .i64 s.wait, .slice a.ta s.tiers.length a.tc, .slice a.fa s.files.length a.fc, .slice a.ca s.copies.length a.cc, .slice a.ha s.held.length a.hc, .slice a.ba s.bin.length a.bc]] w fun e w' => e = .returned (.int .i64 (St.copiesE s)) ∧ Below w.heap.size w w' := by
 obtain ⟨W1, hW1, hP, hz1, hB1⟩ := box w #[.int .i64 s.least, .int .i64 s.wait, .slice a.ta s.tiers.length a.tc, .slice a.fa s.files.length a.fc, .slice a.ca s.copies.length a.cc, .slice a.ha s.held.length a.hc, .slice a.ba s.bin.length a.bc] 28
 have HW1 := Lib.hid hW1
 have HI1 := Lib.hid (hI.keep hB1)
 obtain ⟨q0, q1, q2, q3, q4, q5, q6⟩ := hP.sv7
 have HP := Lib.hid hP; have HB1 := Lib.hid hB1
 clear hW1 hP
 obtain ⟨_, _, z3, z4, _, _⟩ := St.sizes_iff.1 hsz
 obtain ⟨hf1, hf2, hf3⟩ := St.files_ok hfl
 have HU := Lib.hid hf2; have HSZ := Lib.hid hf3
 have HCZ := Lib.hid hI.cz
 have hcl := hI.cl; have htl := hI.tl
 obtain ⟨qa, hqa⟩ : ∃ qa, St.scan (St.copyE s.tiers s.files) [] s.copies = qa := ⟨_, rfl⟩
 obtain ⟨qb, hqb⟩ : ∃ qb, St.scan (St.fullE s.files s.copies) [] s.tiers = qb := ⟨_, rfl⟩
 have HF : Hid (St.copiesE s = if qa = 0 then qb else qa) := Lib.hid (by unfold St.copiesE; rw [hqa, hqb])
 have HQ1 : Hid (St.scan (St.copyE s.tiers s.files) (s.copies.take 0) (s.copies.drop 0) = qa) := Lib.hid hqa
 have HQ2 : Hid (St.scan (St.fullE s.files s.copies) (s.tiers.take 0) (s.tiers.drop 0) = qb) := Lib.hid hqb
 have HSH := Lib.hid (fun (c : Cop) h1 h2 => St.cop_short htr hf1 (c := c) h1 h2)
 have HTK := Lib.hid (fun (t : Tir) ht => (St.tier_ok htr (t := t) ht).2.1)
 have HBY := Lib.hid (byDigest_is s a W1 HI1.out z3)
 have HTW := Lib.hid (fun W (hb : Below W1.heap.size W1 W) (name : ByteArray) => tierAt_is s a name W (HI1.out.keep hb))
 have HFR := Lib.hid (fun W (hb : Below W1.heap.size W1 W) (x : Tir) (mb : Nat) hM hr => free_is s a x mb W (HI1.out.keep hb) hM hf2 hf3 z4 hr)
 have HCL : Hid (∀ W, Below W1.heap.size W1 W → W.cell? ⟨w.heap.size, 0, none⟩ = some (.int .i64 s.least) ∧ W.cell? ⟨w.heap.size, 1, none⟩ = some (.int .i64 s.wait) ∧ W.cell? ⟨w.heap.size, 2, none⟩ = some (.slice a.ta s.tiers.length a.tc) ∧ W.cell? ⟨w.heap.size, 3, none⟩ = some (.slice a.fa s.files.length a.fc) ∧ W.cell? ⟨w.heap.size, 4, none⟩ = some (.slice a.ca s.copies.length a.cc) ∧ W.cell? ⟨w.heap.size, 5, none⟩ = some (.slice a.ha s.held.length a.hc) ∧ W.cell? ⟨w.heap.size, 6, none⟩ = some (.slice a.ba s.bin.length a.bc)) := Lib.hid fun W hb =>
  have k := HP.out.keep hb
  ⟨(k.cell 0).trans rfl, (k.cell 1).trans rfl, (k.cell 2).trans rfl, (k.cell 3).trans rfl, (k.cell 4).trans rfl, (k.cell 5).trans rfl, (k.cell 6).trans rfl⟩
 clear hI hqa hqb hsz htr hfl hf1 hf2 hf3
 obtain ⟨n, hn⟩ : ∃ n, s.copies.length = n := ⟨_, rfl⟩
 have HN := Lib.hid hn
 obtain ⟨nt, hnt⟩ : ∃ nt, s.tiers.length = nt := ⟨_, rfl⟩
 have HNT := Lib.hid hnt
 rw [hn] at q4 hcl z4 HW1 HBY HTW HFR HCL ⊢
 rw [hnt] at q2 htl HW1 HBY HTW HFR HCL ⊢
 have HC4 : Hid (∀ W, Below W1.heap.size W1 W → W.cell? ⟨w.heap.size, 4, none⟩ = some (.slice a.ca n a.cc)) := Lib.hid fun W hb => (HCL.out W hb).2.2.2.2.1
 clear hn hnt
 go_enter Tryz.func111, Tryz.ntmps111
 go_wp2_with fail
 rw [HW1.out]
 go_wp2_with (go_at_call 98; refine HBY.out.mono ?_; rintro e w5 ⟨mb, rfl, hmb, hM, hB5⟩; have HM5 := Lib.hid hM; have HBW5 := Lib.hid hB5; have HB5 := Lib.hid (below_up HB1.out hB5); have n4 := HC4.out _ HBW5.out)
 clear q0 q1 q2 q3 q4 q5 q6 n4 hmb hM hB5
 go_loopg [15] n (fun gk i wr => ∃ j : Nat, j ≤ n ∧ gk = n - j ∧ i = .int .i64 j ∧ St.scan (St.copyE s.tiers s.files) (s.copies.take j) (s.copies.drop j) = qa ∧ (∀ k c, k < j → s.copies[k]? = some c → c.dig.size = 16 ∧ c.tier.size ≤ 40) ∧ Below w5.heap.size w5 wr)
 case atStart => exact ⟨0, by omega, rfl, rfl, HQ1.out, fun k c hk => absurd hk (Nat.not_lt_zero _), Below.refl _ _⟩
 case round =>
  obtain ⟨j, hj, rfl, rfl, hs, hsh, hB⟩ := hrel
  have HS := Lib.hid hs; have HSP := Lib.hid hsh; clear hs hsh
  have HBR := Lib.hid (below_up HB5.out hB)
  have hBW := below_up HBW5.out hB
  by_cases hlt : j < n
  ·obtain ⟨x, hx⟩ : ∃ x, s.copies[j]? = some x := ⟨_, List.getElem?_eq_getElem (by rw [HN.out]; exact hlt)⟩
   obtain ⟨b, off, ha, hb, hcell⟩ := ((HI1.out.keep hBW).co) (by rw [HN.out]; omega)
   have c0 : wr.cell? ⟨b, off + j * 4, none⟩ = some (.string x.dig) := hcell j x hx 0 (.string x.dig) rfl
   have c1 : wr.cell? ⟨b, off + j * 4 + 1, none⟩ = some (.string x.tier) := hcell j x hx 1 (.string x.tier) rfl
   have c2 : wr.cell? ⟨b, off + j * 4 + 2, none⟩ = some (.bool x.good) := hcell j x hx 2 (.bool x.good) rfl
   have c3 : wr.cell? ⟨b, off + j * 4 + 3, none⟩ = some (.int .i64 x.asked) := hcell j x hx 3 (.int .i64 x.asked) rfl
   clear hcell
   have HX := Lib.hid hx
   obtain ⟨W3, hW3, hX3, hz3, hB3⟩ := box wr #[.string x.dig, .string x.tier, .bool x.good, .int .i64 x.asked] 74
   have HW3 := Lib.hid hW3
   have HD : Hid (∀ W, Below W3.heap.size W3 W → W.cell? ⟨wr.heap.size, 0, none⟩ = some (.string x.dig) ∧ W.cell? ⟨wr.heap.size, 1, none⟩ = some (.string x.tier) ∧ W.cell? ⟨wr.heap.size, 2, none⟩ = some (.bool x.good) ∧ W.cell? ⟨wr.heap.size, 3, none⟩ = some (.int .i64 x.asked)) := Lib.hid fun W hb =>
    have k := hX3.keep hb
    ⟨(k.cell 0).trans rfl, (k.cell 1).trans rfl, (k.cell 2).trans rfl, (k.cell 3).trans rfl⟩
   obtain ⟨d0, d1, d2, d3⟩ := HD.out _ (Below.refl _ _)
   obtain ⟨y, hy⟩ : ∃ y, (St.lastOf s.files x.dig).getD St.zeroF = y := ⟨_, rfl⟩
   obtain ⟨bf, hbf⟩ : ∃ bf, (St.lastOf s.files x.dig).isSome = bf := ⟨_, rfl⟩
   have hlk : (Instr.lookup 133 (.map (some mb)) (.string x.dig) true).run Tryz.prog W3 = .ok (.tuple #[.agg #[.string y.dig, .int .i64 y.size, .int .i64 y.kind, .string y.frm], .bool bf]) W3 := by
    have := ((HM5.out.keep hB).keep hB3).look_ok (HCZ.out x (List.mem_of_getElem? hx)).1
    rw [hy, hbf] at this; exact this
   rw [St.lastOf_up HU.out] at hbf
   obtain ⟨W4, hW4, hX4, hz4, hB4⟩ := box W3 #[.string y.dig, .int .i64 y.size, .int .i64 y.kind, .string y.frm] 30
   have HW4 := Lib.hid hW4
   have HB34 := Lib.hid hB4
   have HAL4 := Lib.hid (below_up (below_up HBR.out hB3) hB4)
   have HAQ4 := Lib.hid (below_up (below_up hB hB3) hB4)
   have HAW4 := Lib.hid (below_up (below_up hBW hB3) hB4)
   obtain ⟨e0, e1, e2, e3⟩ := HD.out _ hB4
   obtain ⟨m0, m1, m2, m3, m4, m5, m6⟩ := HCL.out _ HAW4.out
   have HTA := Lib.hid (HTW.out _ HAW4.out x.tier)
   have HHT := Lib.hid (St.hasTier_idx s.tiers x.tier)
   have HMO := Lib.hid (fun W => isMomentS_is x.asked W)
   have HDF : Hid (St.copyE s.tiers s.files (s.copies.take j) x = if bf = true ∧ St.hasTier s.tiers x.tier = true then (match (s.copies.take j).getLast? with | some p => (if St.ahead p x = true then (if St.isMom x.asked = true then 0 else 2) else 5) | none => (if St.isMom x.asked = true then 0 else 2)) else 7) := Lib.hid (by unfold St.copyE; rw [hbf]; rfl)
   have HSX := Lib.hid (fun h1 h2 => HSH.out x (hbf.trans h1) h2)
   have hj0 : (0 : Int) ≤ (j : Int) := by omega
   have hj1 : (j : Int) < (n : Int) := by omega
   generalize St.tierAt s.tiers x.tier = ti at *
   clear hx hB hX3 hz3 hB3 hW3 hW4 hX4 hz4 hB4 hy hbf hBW
   have HPV : Hid (∀ W, Below W1.heap.size W1 W → ∀ i p, s.copies[i]? = some p → W.cell? ⟨b, off + i * 4, none⟩ = some (.string p.dig) ∧ W.cell? ⟨b, off + i * 4 + 1, none⟩ = some (.string p.tier)) := Lib.hid fun W hb i p hp => by
    obtain ⟨b2, off2, ha2, hb2, hc2⟩ := (HI1.out.keep hb).co (by rw [HN.out]; omega)
    rw [ha] at ha2; cases ha2
    exact ⟨hc2 i p hp 0 _ rfl, hc2 i p hp 1 _ rfl⟩
   rw [ha] at m4 HTA HC4 ⊢
   cases bf
   ·have HBD : Hid (St.copyE s.tiers s.files (s.copies.take j) x = 7) := Lib.hid (by rw [HDF.out, if_neg (by simp)])
    have HE := Lib.hid (St.scan_here HS.out HX.out (by rw [HBD.out]; decide))
    go_upto_region 5 with fail
    rw [HW3.out]
    go_upto_region 6 with fail
    rw [HW4.out]
    go_wp2_with (first | (go_at_call 91; (with_reducible refine HTA.out.mono ?_); rintro e w6 ⟨rfl, hB6⟩; have HB6 := Lib.hid hB6; obtain ⟨g0, g1, g2, g3⟩ := HD.out _ (below_up HB34.out hB6); have g4 := HC4.out _ (below_up HAW4.out hB6)) | (go_at_call 132; (with_reducible refine (HMO.out _).mono ?_); rintro e w8 ⟨rfl, rfl⟩))
    go_ret
    exact ⟨ret_int (by rw [HF.out, HE.out, HBD.out]; rfl), HAL4.out⟩
   by_cases hti : ti < 0
   ·have HBD : Hid (St.copyE s.tiers s.files (s.copies.take j) x = 7) := Lib.hid (by rw [HDF.out, if_neg (by rintro ⟨_, g⟩; rw [HHT.out, decide_eq_true_eq] at g; omega)])
    have HE := Lib.hid (St.scan_here HS.out HX.out (by rw [HBD.out]; decide))
    go_upto_region 5 with fail
    rw [HW3.out]
    go_upto_region 6 with fail
    rw [HW4.out]
    go_wp2_with (first | (go_at_call 91; (with_reducible refine HTA.out.mono ?_); rintro e w6 ⟨rfl, hB6⟩; have HB6 := Lib.hid hB6; obtain ⟨g0, g1, g2, g3⟩ := HD.out _ (below_up HB34.out hB6); have g4 := HC4.out _ (below_up HAW4.out hB6)) | (go_at_call 132; (with_reducible refine (HMO.out _).mono ?_); rintro e w8 ⟨rfl, rfl⟩))
    go_ret
    exact ⟨ret_int (by rw [HF.out, HE.out, HBD.out]; rfl), below_up HAL4.out HB6.out⟩
   ·have hht : St.hasTier s.tiers x.tier = true := by rw [HHT.out, decide_eq_true_eq]; omega
    have HDG : Hid (St.copyE s.tiers s.files (s.copies.take j) x = match (s.copies.take j).getLast? with | some p => (if St.ahead p x = true then (if St.isMom x.asked = true then 0 else 2) else 5) | none => (if St.isMom x.asked = true then 0 else 2)) := Lib.hid (by rw [HDF.out, if_pos ⟨rfl, hht⟩])
    have HXS := Lib.hid (HSX.out rfl hht)
    have HSN : Hid (∀ k c, k < j + 1 → s.copies[k]? = some c → c.dig.size = 16 ∧ c.tier.size ≤ 40) := Lib.hid fun k c hk hc => by
     by_cases e : k = j
     ·subst e; rw [HX.out] at hc; obtain rfl := Option.some.inj hc; exact HXS.out
     ·exact HSP.out k c (by omega) hc
    clear hht
    go_upto_region 5 with fail
    rw [HW3.out]
    go_upto_region 6 with fail
    rw [HW4.out]
    go_upto_region 8 with (first | (go_at_call 91; (with_reducible refine HTA.out.mono ?_); rintro e w6 ⟨rfl, hB6⟩; have HB6 := Lib.hid hB6; obtain ⟨g0, g1, g2, g3⟩ := HD.out _ (below_up HB34.out hB6); have g4 := HC4.out _ (below_up HAW4.out hB6)) | (go_at_call 132; (with_reducible refine (HMO.out _).mono ?_); rintro e w8 ⟨rfl, rfl⟩))
    have HAW6 := Lib.hid (below_up HAW4.out HB6.out)
    have HAL6 := Lib.hid (below_up HAL4.out HB6.out)
    have HAQ6 := Lib.hid (below_up HAQ4.out HB6.out)
    have HB36 := Lib.hid (below_up HB34.out HB6.out)
    clear d0 d1 d2 d3 e0 e1 e2 e3 m0 m1 m2 m3 m4 m5 m6 c0 c1 c2 c3 HTA
    obtain ⟨gd, hgd⟩ : ∃ gd, St.isMom x.asked = gd := ⟨_, rfl⟩
    have HGD := Lib.hid hgd
    rcases Nat.eq_zero_or_pos j with rfl | hjp
    ·have HDZ : Hid (St.copyE s.tiers s.files (s.copies.take 0) x = if gd = true then 0 else 2) := Lib.hid (by rw [HDG.out, St.last_zero, hgd])
     have k0 := cell_regrown g0
     have k1 := cell_regrown g1
     have k4 := cell_regrown g4
     refine wp_region_quiet_below (by kernel_rfl) (by kernel_rfl) ?_
     repeat (go_big_quiet_step ((fail)))
     refine wpQuiet_nil ?_
     intro _ hw'
     obtain ⟨⟨dq, osq⟩, hw''⟩ := hw'
     subst hw''
     have hBw7 := below_regrown w6 dq osq
     generalize grow (redrawn w6 dq) osq = w7 at *
     clear dq osq
     obtain ⟨r0, r1, r2, r3⟩ := HD.out _ (below_up HB36.out hBw7)
     have r4 := HC4.out _ (below_up HAW6.out hBw7)
     cases gd
     ·have HBD : Hid (St.copyE s.tiers s.files (s.copies.take (0)) x = 2) := Lib.hid (by rw [HDZ.out]; rfl)
      have HE := Lib.hid (St.scan_here HS.out HX.out (by rw [HBD.out]; decide))
      go_wp2_with (go_at_call 132; (with_reducible refine (HMO.out _).mono ?_); rw [HGD.out]; rintro e w8 ⟨rfl, rfl⟩)
      go_ret
      exact ⟨ret_int (by rw [HF.out, HE.out, HBD.out]; rfl), below_up HAL6.out hBw7⟩
     ·have HBD : Hid (St.copyE s.tiers s.files (s.copies.take (0)) x = 0) := Lib.hid (by rw [HDZ.out]; rfl)
      have HE := Lib.hid (St.scan_next HS.out HX.out HBD.out)
      go_wp2_with (go_at_call 132; (with_reducible refine (HMO.out _).mono ?_); rw [HGD.out]; rintro e w8 ⟨rfl, rfl⟩)
      rw [← ha]
      go_roundg (n - (0 + 1))
      case rel => exact ⟨0 + 1, by omega, rfl, by go_num, HE.out, HSN.out, below_up HAQ6.out hBw7⟩
      case measure => omega
    ·obtain ⟨p, hp, hlast⟩ := St.last_at (L := s.copies) (by rw [HN.out]; exact hlt) hjp
     obtain ⟨i, rfl⟩ : ∃ i, j = i + 1 := ⟨j - 1, by omega⟩
     rw [Nat.add_sub_cancel] at hp
     obtain ⟨p0, p1⟩ := HPV.out _ HAW6.out i p hp
     obtain ⟨s1, s2⟩ := HSP.out i p (by omega) hp
     obtain ⟨s3, s4⟩ := HXS.out
     have HLE := Lib.hid (St.le_key (d := p.dig) (t := p.tier) (d' := x.dig) (t' := x.tier) (s1.trans s3.symm))
     obtain ⟨ah, hah⟩ : ∃ ah, St.ahead p x = ah := ⟨_, rfl⟩
     have HLA : Hid (St.le (St.key x.dig x.tier) (St.key p.dig p.tier) = !ah) := Lib.hid (HLE.out.trans (by rw [← hah]; rfl))
     have HDZ : Hid (St.copyE s.tiers s.files (s.copies.take (i + 1)) x = if ah = true then (if gd = true then 0 else 2) else 5) := Lib.hid (by rw [HDG.out, hlast, ← hah, hgd])
     have HK1 := Lib.hid (fun d os => Calls.regrown_of (w := w6) (d := d) (os := os) (copyKey_is x.dig x.tier (by omega) (by omega) _ |>.mono fun _ _ h => ⟨h.1, by rw [← h.2]; exact Below.refl _ _⟩))
     have HK2 := Lib.hid (fun d os => Calls.regrown_of (w := w6) (d := d) (os := os) (copyKey_is p.dig p.tier (by omega) (by omega) _ |>.mono fun _ _ h => ⟨h.1, by rw [← h.2]; exact Below.refl _ _⟩))
     have k0 := cell_regrown g0
     have k1 := cell_regrown g1
     have k4 := cell_regrown g4
     have k5 := cell_regrown p0
     have k6 := cell_regrown p1
     clear hp hlast hah s1 s2 s3 s4 hgd
     refine wp_region_quiet_below (by kernel_rfl) (by kernel_rfl) ?_
     repeat (go_big_quiet_step ((go_at_call 56; first | (with_reducible exact HK1.out _ _) | (with_reducible exact HK2.out _ _))))
     refine wpQuiet_nil ?_
     intro _ hw'
     obtain ⟨⟨dq, osq⟩, hw''⟩ := hw'
     subst hw''
     have hBw7 := below_regrown w6 dq osq
     generalize grow (redrawn w6 dq) osq = w7 at *
     clear dq osq
     have LQ : ∀ b2 : Bool, (!ah) = b2 → (Op.bytesLess (St.key x.dig x.tier).toList (St.key p.dig p.tier).toList || (St.key x.dig x.tier).toList == (St.key p.dig p.tier).toList) = b2 := fun b2 h => HLA.out.trans h
     have HLQ := Lib.hid LQ; clear LQ
     cases ah
     ·have hcmp := HLQ.out true rfl
      simp only [hcmp]
      clear hcmp
      have HBD : Hid (St.copyE s.tiers s.files (s.copies.take (i + 1)) x = 5) := Lib.hid (by rw [HDZ.out]; rfl)
      have HE := Lib.hid (St.scan_here HS.out HX.out (by rw [HBD.out]; decide))
      go_wp2_with fail
      go_ret
      exact ⟨ret_int (by rw [HF.out, HE.out, HBD.out]; rfl), below_up HAL6.out hBw7⟩
     ·have hcmp := HLQ.out false rfl
      simp only [hcmp]
      clear hcmp
      obtain ⟨r0, r1, r2, r3⟩ := HD.out _ (below_up HB36.out hBw7)
      have r4 := HC4.out _ (below_up HAW6.out hBw7)
      cases gd
      ·have HBD : Hid (St.copyE s.tiers s.files (s.copies.take (i + 1)) x = 2) := Lib.hid (by rw [HDZ.out]; rfl)
       have HE := Lib.hid (St.scan_here HS.out HX.out (by rw [HBD.out]; decide))
       go_wp2_with (go_at_call 132; (with_reducible refine (HMO.out _).mono ?_); rw [HGD.out]; rintro e w8 ⟨rfl, rfl⟩)
       go_ret
       exact ⟨ret_int (by rw [HF.out, HE.out, HBD.out]; rfl), below_up HAL6.out hBw7⟩
      ·have HBD : Hid (St.copyE s.tiers s.files (s.copies.take (i + 1)) x = 0) := Lib.hid (by rw [HDZ.out]; rfl)
       have HE := Lib.hid (St.scan_next HS.out HX.out HBD.out)
       go_wp2_with (go_at_call 132; (with_reducible refine (HMO.out _).mono ?_); rw [HGD.out]; rintro e w8 ⟨rfl, rfl⟩)
       rw [← ha]
       go_roundg (n - (i + 1 + 1))
       case rel => exact ⟨i + 1 + 1, by omega, rfl, by go_num, HE.out, HSN.out, below_up HAQ6.out hBw7⟩
       case measure => omega
  ·obtain rfl : j = n := by omega
   have HE := HS.out
   rw [← HN.out] at HE
   have hq0 := St.scan_done HE
   have HF2 : Hid (St.copiesE s = qb) := Lib.hid (by rw [HF.out, if_pos hq0])
   clear HE hq0
   obtain ⟨m0, m1, m2, m3, m4, m5, m6⟩ := HCL.out _ hBW
   have HBWR := Lib.hid hBW
   have HBK := Lib.hid hB
   have HFG := Lib.hid HFR.out
   clear hBW hB HFR
   go_wp2_with fail
   clear m0 m1 m2 m3 m4 m5 m6
   go_loopg [72] nt (fun gk i wq => ∃ k : Nat, k ≤ nt ∧ gk = nt - k ∧ i = .int .i64 k ∧ St.scan (St.fullE s.files s.copies) (s.tiers.take k) (s.tiers.drop k) = qb ∧ Below w5.heap.size w5 wq)
   case atStart => exact ⟨0, by omega, rfl, rfl, HQ2.out, HBK.out⟩
   case round =>
    obtain ⟨k, hk, rfl, rfl, hs, hB⟩ := hrel
    have HS2 := Lib.hid hs; clear hs
    have HBQ := Lib.hid (below_up HB5.out hB)
    have hBWq := below_up HBW5.out hB
    by_cases hlt2 : k < nt
    ·obtain ⟨x, hx⟩ : ∃ x, s.tiers[k]? = some x := ⟨_, List.getElem?_eq_getElem (by rw [HNT.out]; exact hlt2)⟩
     obtain ⟨b, off, ha, hb, hcell⟩ := ((HI1.out.keep hBWq).ti) (by rw [HNT.out]; omega)
     have c0 : wr.cell? ⟨b, off + k * 4, none⟩ = some (.string x.name) := hcell k x hx 0 (.string x.name) rfl
     have c1 : wr.cell? ⟨b, off + k * 4 + 1, none⟩ = some (.int .i64 x.room) := hcell k x hx 1 (.int .i64 x.room) rfl
     have c2 : wr.cell? ⟨b, off + k * 4 + 2, none⟩ = some (.int .i64 x.cost) := hcell k x hx 2 (.int .i64 x.cost) rfl
     have c3 : wr.cell? ⟨b, off + k * 4 + 3, none⟩ = some (.bool x.away) := hcell k x hx 3 (.bool x.away) rfl
     clear hcell
     have HX := Lib.hid hx
     obtain ⟨W3, hW3, hX3, hz3, hB3⟩ := box wr #[.string x.name, .int .i64 x.room, .int .i64 x.cost, .bool x.away] 46
     have HW3 := Lib.hid hW3
     have d0 : W3.cell? ⟨wr.heap.size, 0, none⟩ = some (.string x.name) := (hX3.cell 0).trans rfl
     have d1 : W3.cell? ⟨wr.heap.size, 1, none⟩ = some (.int .i64 x.room) := (hX3.cell 1).trans rfl
     have d2 : W3.cell? ⟨wr.heap.size, 2, none⟩ = some (.int .i64 x.cost) := (hX3.cell 2).trans rfl
     have d3 : W3.cell? ⟨wr.heap.size, 3, none⟩ = some (.bool x.away) := (hX3.cell 3).trans rfl
     have HAL := Lib.hid (below_up HBQ.out hB3)
     have HAQ := Lib.hid (below_up hB hB3)
     have HAW := Lib.hid (below_up hBWq hB3)
     obtain ⟨m0, m1, m2, m3, m4, m5, m6⟩ := HCL.out _ HAW.out
     have HFE := Lib.hid (HFG.out _ HAW.out x mb ((HM5.out.keep hB).keep hB3) (HTK.out x (List.mem_of_getElem? hx)))
     obtain ⟨fr, hfr⟩ : ∃ fr, x.room - St.used s.files x.name s.copies = fr := ⟨_, rfl⟩
     have HDF : Hid (St.fullE s.files s.copies (s.tiers.take k) x = if fr < 0 then 12 else 0) := Lib.hid (by unfold St.fullE; rw [hfr])
     rw [hfr] at HFE
     have hj0 : (0 : Int) ≤ (k : Int) := by omega
     have hj1 : (k : Int) < (nt : Int) := by omega
     clear hx hB hX3 hz3 hB3 hW3 hBWq hfr
     rw [ha] at m2 HFE ⊢
     by_cases hf : fr < 0
     ·have HBD : Hid (St.fullE s.files s.copies (s.tiers.take k) x = 12) := Lib.hid (by rw [HDF.out, if_pos hf])
      have HE := Lib.hid (St.scan_here HS2.out HX.out (by rw [HBD.out]; decide))
      go_upto_region 16 with fail
      rw [HW3.out]
      go_wp2_with (go_at_call 97; (with_reducible refine HFE.out.mono ?_); rintro e w6 ⟨rfl, hB6⟩)
      go_ret
      exact ⟨ret_int (by rw [HF2.out, HE.out, HBD.out]), below_up HAL.out hB6⟩
     ·have HBD : Hid (St.fullE s.files s.copies (s.tiers.take k) x = 0) := Lib.hid (by rw [HDF.out, if_neg hf])
      have HE := Lib.hid (St.scan_next HS2.out HX.out HBD.out)
      go_upto_region 16 with fail
      rw [HW3.out]
      go_wp2_with (go_at_call 97; (with_reducible refine HFE.out.mono ?_); rintro e w6 ⟨rfl, hB6⟩)
      rw [← ha]
      go_roundg (nt - (k + 1))
      case rel => exact ⟨k + 1, by omega, rfl, by go_num, HE.out, below_up HAQ.out hB6⟩
      case measure => omega
    ·obtain rfl : k = nt := by omega
     have HE := HS2.out
     rw [← HNT.out] at HE
     have HE2 := Lib.hid (St.scan_done HE)
     clear HE
     go_wp2_with fail
     go_ret
     exact ⟨ret_int (by rw [HF2.out, HE2.out]), HBQ.out⟩
theorem held_is (s : Sto) (a : StA) (w : World) :
  Calls Tryz.prog 58 #[.agg #[.int .i64 s.least, .int .i64 s.wait, .slice a.ta s.tiers.length a.tc, .slice a.fa s.files.length a.fc, .slice a.ca s.copies.length a.cc, .slice a.ha s.held.length a.hc, .slice a.ba s.bin.length a.bc]] w fun e w' => e = .returned (.agg #[.func (.func 149) #[] #[], .slice a.ha s.held.length a.hc]) ∧ Below w.heap.size w w' := by
 obtain ⟨W1, hW1, hP, hz1, hB1⟩ := box w #[.int .i64 s.least, .int .i64 s.wait, .slice a.ta s.tiers.length a.tc, .slice a.fa s.files.length a.fc, .slice a.ca s.copies.length a.cc, .slice a.ha s.held.length a.hc, .slice a.ba s.bin.length a.bc] 28
 have HW1 := Lib.hid hW1; have HB1 := Lib.hid hB1
 have q5 : W1.cell? ⟨w.heap.size, 5, none⟩ = some (.slice a.ha s.held.length a.hc) := (hP.cell 5).trans rfl
 obtain ⟨W2, hW2, hX2, hz2, hB2⟩ := box W1 #[.func (.func 149) #[] #[], .slice a.ha s.held.length a.hc] 103
 have HW2 := Lib.hid hW2
 rw [hz1] at hX2
 have HX2 := Lib.hid hX2; have HBB := Lib.hid (below_up hB1 hB2)
 have hsf : ∀ (fn : Fn) (x y : Array Value) (p : Addr) (m : Mode) (W : World), (store p (.func fn x y) m).run Tryz.prog W = stored Tryz.prog W p (.func fn x y) m := fun fn x y p m W => run_store Tryz.prog W p _ m rfl
 clear hW1 hP hW2 hX2 hB1 hB2
 go_enter Tryz.func58, Tryz.ntmps58
 go_wp2_with fail
 rw [HW1.out]
 go_wp2_with fail
 rw [HW2.out]
 have g0 : W2.cell? ⟨w.heap.size + 1, 0, none⟩ = some (.func (.func 149) #[] #[]) := (HX2.out.cell 0).trans rfl
 have g1 : W2.cell? ⟨w.heap.size + 1, 1, none⟩ = some (.slice a.ha s.held.length a.hc) := (HX2.out.cell 1).trans rfl
 refine bodyPost_ret (v := .agg #[.func (.func 149) #[] #[], .slice a.ha s.held.length a.hc]) (by simp [results, Tryz.results58, go_sem, g0, g1]) rfl ⟨rfl, HBB.out⟩
namespace St
theorem held_up {F : List Fil} {L : List ByteArray} (h : scan (heldE F) [] L = 0) : Up id L := up_of_scan h fun pre x p hb hp => by
 unfold heldE at hb
 rw [hp] at hb
 split at hb
 ·have e : (if le x p = true then (5 : Int) else 0) = 0 := hb
  split at e
  ·cases e
  ·rename_i g
   rw [le_not] at g
   show lt p x = true
   simpa using g
 ·cases hb
end St
theorem checkNeeded_is (s : Sto) (a : StA) (w : World) (hI : StIn w s a) (hsz : St.sizesE s = 0) (hfu : St.Up (·.dig) s.files) :
  Calls Tryz.prog 112 #[.agg #[.int .i64 s.least, .int .i64 s.wait, .slice a.ta s.tiers.length a.tc, .slice a.fa s.files.length a.fc, .slice a.ca s.copies.length a.cc, .slice a.ha s.held.length a.hc, .slice a.ba s.bin.length a.bc]] w fun e w' => e = .returned (.int .i64 (St.keptE s)) ∧ Below w.heap.size w w' := by
 obtain ⟨W1, hW1, hP, hz1, hB1⟩ := box w #[.int .i64 s.least, .int .i64 s.wait, .slice a.ta s.tiers.length a.tc, .slice a.fa s.files.length a.fc, .slice a.ca s.copies.length a.cc, .slice a.ha s.held.length a.hc, .slice a.ba s.bin.length a.bc] 28
 have HW1 := Lib.hid hW1
 have HI1 := Lib.hid (hI.keep hB1)
 obtain ⟨q0, q1, q2, q3, q4, q5, q6⟩ := hP.sv7
 have HP := Lib.hid hP; have HB1 := Lib.hid hB1
 clear hW1 hP
 obtain ⟨_, _, z3, _, z5, z6⟩ := St.sizes_iff.1 hsz
 have HU := Lib.hid hfu
 have HHZ := Lib.hid hI.hz; have HBZ := Lib.hid hI.bz
 have hhl := hI.hl; have hbl := hI.bl
 obtain ⟨qa, hqa⟩ : ∃ qa, St.scan (St.heldE s.files) [] s.held = qa := ⟨_, rfl⟩
 obtain ⟨qb, hqb⟩ : ∃ qb, St.scan (St.binE s.files s.held) [] s.bin = qb := ⟨_, rfl⟩
 have HF : Hid (St.keptE s = if qa = 0 then qb else qa) := Lib.hid (by unfold St.keptE; rw [hqa, hqb])
 have HQ1 : Hid (St.scan (St.heldE s.files) (s.held.take 0) (s.held.drop 0) = qa) := Lib.hid hqa
 have HQ2 : Hid (St.scan (St.binE s.files s.held) (s.bin.take 0) (s.bin.drop 0) = qb) := Lib.hid hqb
 have HUH := Lib.hid (fun h0 : qa = 0 => St.held_up (hqa.trans h0))
 have HBY := Lib.hid (byDigest_is s a W1 HI1.out z3)
 have HHD := Lib.hid (fun W => held_is s a W)
 have HHT := Lib.hid (fun (h0 : qa = 0) (d : ByteArray) W (hb : Below W1.heap.size W1 W) => hasS_is s.held (HUH.out h0) (by omega) d a.ha a.hc W hhl (HI1.out.keep hb).he)
 have HID := Lib.hid (fun (n : Int) W => isDayS_is n W)
 have HCL : Hid (∀ W, Below W1.heap.size W1 W → W.cell? ⟨w.heap.size, 0, none⟩ = some (.int .i64 s.least) ∧ W.cell? ⟨w.heap.size, 1, none⟩ = some (.int .i64 s.wait) ∧ W.cell? ⟨w.heap.size, 2, none⟩ = some (.slice a.ta s.tiers.length a.tc) ∧ W.cell? ⟨w.heap.size, 3, none⟩ = some (.slice a.fa s.files.length a.fc) ∧ W.cell? ⟨w.heap.size, 4, none⟩ = some (.slice a.ca s.copies.length a.cc) ∧ W.cell? ⟨w.heap.size, 5, none⟩ = some (.slice a.ha s.held.length a.hc) ∧ W.cell? ⟨w.heap.size, 6, none⟩ = some (.slice a.ba s.bin.length a.bc)) := Lib.hid fun W hb =>
  have k := HP.out.keep hb
  ⟨(k.cell 0).trans rfl, (k.cell 1).trans rfl, (k.cell 2).trans rfl, (k.cell 3).trans rfl, (k.cell 4).trans rfl, (k.cell 5).trans rfl, (k.cell 6).trans rfl⟩
 clear hI hqa hqb hsz hfu
 obtain ⟨n, hn⟩ : ∃ n, s.held.length = n := ⟨_, rfl⟩
 have HN := Lib.hid hn
 obtain ⟨nt, hnt⟩ : ∃ nt, s.bin.length = nt := ⟨_, rfl⟩
 have HNT := Lib.hid hnt
 rw [hn] at q5 hhl z5 HW1 HBY HHD HHT HCL ⊢
 rw [hnt] at q6 hbl z6 HW1 HBY HHD HCL ⊢
 have HC5 : Hid (∀ W, Below W1.heap.size W1 W → W.cell? ⟨w.heap.size, 5, none⟩ = some (.slice a.ha n a.hc)) := Lib.hid fun W hb => (HCL.out W hb).2.2.2.2.2.1
 clear hn hnt
 go_enter Tryz.func112, Tryz.ntmps112
 go_wp2_with fail
 rw [HW1.out]
 go_wp2_with (go_at_call 98; refine HBY.out.mono ?_; rintro e w5 ⟨mb, rfl, hmb, hM, hB5⟩; have HM5 := Lib.hid hM; have HBW5 := Lib.hid hB5; have HB5 := Lib.hid (below_up HB1.out hB5); have n5 := HC5.out _ HBW5.out)
 clear q0 q1 q2 q3 q4 q5 q6 n5 hmb hM hB5
 go_loopg [13] n (fun gk i wr => ∃ j : Nat, j ≤ n ∧ gk = n - j ∧ i = .int .i64 j ∧ St.scan (St.heldE s.files) (s.held.take j) (s.held.drop j) = qa ∧ Below w5.heap.size w5 wr)
 case atStart => exact ⟨0, by omega, rfl, rfl, HQ1.out, Below.refl _ _⟩
 case round =>
  obtain ⟨j, hj, rfl, rfl, hs, hB⟩ := hrel
  have HS := Lib.hid hs; clear hs
  have HBR := Lib.hid (below_up HB5.out hB)
  have hBW := below_up HBW5.out hB
  by_cases hlt : j < n
  ·obtain ⟨x, hx⟩ : ∃ x, s.held[j]? = some x := ⟨_, List.getElem?_eq_getElem (by rw [HN.out]; exact hlt)⟩
   obtain ⟨b, off, ha, hb, hcell⟩ := (HI1.out.keep hBW).he (by rw [HN.out]; omega)
   have HCE : Hid (∀ (i : Nat) (y : ByteArray), s.held[i]? = some y → wr.cell? ⟨b, off + i, none⟩ = some (.string y)) := Lib.hid fun i y hy => by
    have := hcell i y hy 0 (.string y) rfl
    rw [show off + i * St.eS.k + 0 = off + i by simp [St.eS]] at this
    exact this
   have c0 := HCE.out j x hx
   clear hcell
   have HX := Lib.hid hx
   obtain ⟨y, hlk, hy⟩ := FMap.kind (HM5.out.keep hB) HU.out (HHZ.out x (List.mem_of_getElem? hx))
   have hyk : y.kind = St.kindOf s.files x := by rw [hy, St.filD_kind]
   have hfk := fldKind y.dig y.frm y.size y.kind
   have HDF : Hid (St.heldE s.files (s.held.take j) x = if y.kind = 1 then (match (s.held.take j).getLast? with | some p => (if St.le x p = true then 5 else 0) | none => 0) else 7) := Lib.hid (by rw [hyk]; rfl)
   have n5 := HC5.out _ hBW
   have hj0 : (0 : Int) ≤ (j : Int) := by omega
   have hj1 : (j : Int) < (n : Int) := by omega
   have HBW := Lib.hid hBW; have HBJ := Lib.hid hB
   clear hx hB hy hyk hBW
   rw [ha] at n5 ⊢
   by_cases hk1 : y.kind = 1
   ·have hkb : (y.kind != 1) = false := by simpa using hk1
    have HDG : Hid (St.heldE s.files (s.held.take j) x = (match (s.held.take j).getLast? with | some p => (if St.le x p = true then 5 else 0) | none => 0)) := Lib.hid (by rw [HDF.out, if_pos hk1])
    clear hk1
    go_upto_region 7 with fail
    rcases Nat.eq_zero_or_pos j with rfl | hjp
    ·have HBD : Hid (St.heldE s.files (s.held.take 0) x = 0) := Lib.hid (by rw [HDG.out, St.last_zero])
     have HE := Lib.hid (St.scan_next HS.out HX.out HBD.out)
     go_wp2_with fail
     rw [← ha]
     go_roundg (n - (0 + 1))
     case rel => exact ⟨0 + 1, by omega, rfl, by go_num, HE.out, HBJ.out⟩
     case measure => omega
    ·obtain ⟨p, hp, hlast⟩ := St.last_at (L := s.held) (by rw [HN.out]; exact hlt) hjp
     obtain ⟨i, rfl⟩ : ∃ i, j = i + 1 := ⟨j - 1, by omega⟩
     rw [Nat.add_sub_cancel] at hp
     have p0 := HCE.out i p hp
     obtain ⟨bl, hbq⟩ : ∃ bl, (Op.bytesLess x.toList p.toList || x.toList == p.toList) = bl := ⟨_, rfl⟩
     have HBQ : Hid (St.le x p = bl) := Lib.hid hbq
     have HDZ : Hid (St.heldE s.files (s.held.take (i + 1)) x = if bl = true then 5 else 0) := Lib.hid (by rw [HDG.out, hlast, ← HBQ.out])
     clear hp hlast
     cases bl
     ·have HBD : Hid (St.heldE s.files (s.held.take (i + 1)) x = 0) := Lib.hid (by rw [HDZ.out]; rfl)
      have HE := Lib.hid (St.scan_next HS.out HX.out HBD.out)
      go_wp2_with fail
      rw [← ha]
      go_roundg (n - (i + 1 + 1))
      case rel => exact ⟨i + 1 + 1, by omega, rfl, by go_num, HE.out, HBJ.out⟩
      case measure => omega
     ·have HBD : Hid (St.heldE s.files (s.held.take (i + 1)) x = 5) := Lib.hid (by rw [HDZ.out]; rfl)
      have HE := Lib.hid (St.scan_here HS.out HX.out (by rw [HBD.out]; decide))
      go_wp2_with fail
      go_ret
      exact ⟨ret_int (by rw [HF.out, HE.out, HBD.out]; rfl), HBR.out⟩
   ·have hkb : (y.kind != 1) = true := by simpa using hk1
    have HBD : Hid (St.heldE s.files (s.held.take j) x = 7) := Lib.hid (by rw [HDF.out, if_neg hk1])
    have HE := Lib.hid (St.scan_here HS.out HX.out (by rw [HBD.out]; decide))
    go_wp2_with fail
    go_ret
    exact ⟨ret_int (by rw [HF.out, HE.out, HBD.out]; rfl), HBR.out⟩
  ·obtain rfl : j = n := by omega
   have HE := HS.out
   rw [← HN.out] at HE
   have hq0 := St.scan_done HE
   have HF2 : Hid (St.keptE s = qb) := Lib.hid (by rw [HF.out, if_pos hq0])
   have HHS := Lib.hid (HHT.out hq0)
   clear HE hq0
   obtain ⟨m0, m1, m2, m3, m4, m5, m6⟩ := HCL.out _ hBW
   have HBK := Lib.hid hB
   clear hBW hB HHT
   go_wp2_with fail
   clear m0 m1 m2 m3 m4 m5 m6
   go_loopg [39] nt (fun gk i wq => ∃ k : Nat, k ≤ nt ∧ gk = nt - k ∧ i = .int .i64 k ∧ St.scan (St.binE s.files s.held) (s.bin.take k) (s.bin.drop k) = qb ∧ Below w5.heap.size w5 wq)
   case atStart => exact ⟨0, by omega, rfl, rfl, HQ2.out, HBK.out⟩
   case round =>
    obtain ⟨k, hk, rfl, rfl, hs, hB⟩ := hrel
    have HS2 := Lib.hid hs; clear hs
    have HBQ := Lib.hid (below_up HB5.out hB)
    have hBWq := below_up HBW5.out hB
    by_cases hlt2 : k < nt
    ·obtain ⟨x, hx⟩ : ∃ x, s.bin[k]? = some x := ⟨_, List.getElem?_eq_getElem (by rw [HNT.out]; exact hlt2)⟩
     obtain ⟨b, off, ha, hb, hcell⟩ := (HI1.out.keep hBWq).bi (by rw [HNT.out]; omega)
     have c0 : wr.cell? ⟨b, off + k * 2, none⟩ = some (.string x.dig) := hcell k x hx 0 (.string x.dig) rfl
     have c1 : wr.cell? ⟨b, off + k * 2 + 1, none⟩ = some (.int .i64 x.day) := hcell k x hx 1 (.int .i64 x.day) rfl
     clear hcell
     have HX := Lib.hid hx
     obtain ⟨W3, hW3, hX3, hz3, hB3⟩ := box wr #[.string x.dig, .int .i64 x.day] 112
     have HW3 := Lib.hid hW3
     have HD : Hid (∀ W, Below W3.heap.size W3 W → W.cell? ⟨wr.heap.size, 0, none⟩ = some (.string x.dig) ∧ W.cell? ⟨wr.heap.size, 1, none⟩ = some (.int .i64 x.day)) := Lib.hid fun W hb =>
      have k := hX3.keep hb
      ⟨(k.cell 0).trans rfl, (k.cell 1).trans rfl⟩
     obtain ⟨d0, d1⟩ := HD.out _ (Below.refl _ _)
     obtain ⟨y, hlk, hy⟩ := FMap.kind ((HM5.out.keep hB).keep hB3) HU.out (HBZ.out x (List.mem_of_getElem? hx))
     have hyk : y.kind = St.kindOf s.files x.dig := by rw [hy, St.filD_kind]
     have hfk := fldKind y.dig y.frm y.size y.kind
     have HDF : Hid (St.binE s.files s.held (s.bin.take k) x = if y.kind = 1 then (match (s.bin.take k).getLast? with | some p => (if St.le x.dig p.dig = true then 5 else St.binR s.held x) | none => St.binR s.held x) else 7) := Lib.hid (by rw [hyk]; rfl)
     have HAL6 := Lib.hid (below_up HBQ.out hB3)
     have HAQ6 := Lib.hid (below_up hB hB3)
     have HAW6 := Lib.hid (below_up hBWq hB3)
     obtain ⟨m0, m1, m2, m3, m4, m5, m6⟩ := HCL.out _ HAW6.out
     have hj0 : (0 : Int) ≤ (k : Int) := by omega
     have hj1 : (k : Int) < (nt : Int) := by omega
     have HPV : Hid (∀ W, Below W1.heap.size W1 W → ∀ (i : Nat) (y : Gon), s.bin[i]? = some y → W.cell? ⟨b, off + i * 2, none⟩ = some (.string y.dig)) := Lib.hid fun W hb i y hy => by
      obtain ⟨b2, off2, ha2, hb2, hc2⟩ := (HI1.out.keep hb).bi (by rw [HNT.out]; omega)
      rw [ha] at ha2; cases ha2
      exact hc2 i y hy 0 _ rfl
     clear hx hB hX3 hz3 hB3 hW3 hBWq hy hyk
     rw [ha] at m6 HHD HCL ⊢
     by_cases hk1 : y.kind = 1
     ·have hkb : (y.kind != 1) = false := by simpa using hk1
      have HDG : Hid (St.binE s.files s.held (s.bin.take k) x = (match (s.bin.take k).getLast? with | some p => (if St.le x.dig p.dig = true then 5 else St.binR s.held x) | none => St.binR s.held x)) := Lib.hid (by rw [HDF.out, if_pos hk1])
      have HB36 := Lib.hid (Below.refl W3.heap.size W3)
      obtain ⟨dy, hdy⟩ : ∃ dy, St.inB x.day 0 73048 = dy := ⟨_, rfl⟩
      have HDY := Lib.hid hdy
      clear hk1 hdy
      go_upto_region 13 with fail
      rw [HW3.out]
      go_upto_region 15 with fail
      have k0 := cell_regrown d0
      have k6 := cell_regrown m6
      clear c0 c1 m0 m1 m2 m3 m4 m5 m6 d0 d1 hlk
      rcases Nat.eq_zero_or_pos k with rfl | hjp
      ·have HDZ : Hid (St.binE s.files s.held (s.bin.take 0) x = St.binR s.held x) := Lib.hid (by rw [HDG.out, St.last_zero])
       refine wp_region_quiet_below (by kernel_rfl) (by kernel_rfl) ?_
       repeat (go_big_quiet_step ((fail)))
       refine wpQuiet_nil ?_
       intro _ hw'
       obtain ⟨⟨dq, osq⟩, hw''⟩ := hw'
       subst hw''
       have hBw7 := below_regrown W3 dq osq
       generalize grow (redrawn W3 dq) osq = w7 at *
       clear dq osq
       clear k0 k6
       obtain ⟨d0, d1⟩ := HD.out _ (below_up HB36.out hBw7)
       obtain ⟨m0, m1, m2, m3, m4, m5, m6⟩ := HCL.out _ (below_up HAW6.out hBw7)
       have HAW7 := Lib.hid (below_up HAW6.out hBw7)
       have HAL7 := Lib.hid (below_up HAL6.out hBw7)
       have HAQ7 := Lib.hid (below_up HAQ6.out hBw7)
       cases dy
       ·have HBD : Hid (St.binE s.files s.held (s.bin.take (0)) x = 2) := Lib.hid (by rw [HDZ.out]; unfold St.binR; rw [HDY.out]; rfl)
        have HE := Lib.hid (St.scan_here HS2.out HX.out (by rw [HBD.out]; decide))
        go_wp2_with (go_at_call 64; (with_reducible refine (HID.out _ _).mono ?_); rw [HDY.out]; rintro e w8 ⟨rfl, rfl⟩)
        go_ret
        exact ⟨ret_int (by rw [HF2.out, HE.out, HBD.out]), HAL7.out⟩
       ·have HH1 := Lib.hid (fun d os => Calls.regrown_of (w := w7) (d := d) (os := os) (HHD.out _))
        have HH2 := Lib.hid (fun d os => Calls.regrown_of (w := w7) (d := d) (os := os) (HHS.out x.dig _ (below_up HAW7.out (below_regrown w7 d os))))
        have k0 := cell_regrown m0
        have k1 := cell_regrown m1
        have k2 := cell_regrown m2
        have k3 := cell_regrown m3
        have k4 := cell_regrown m4
        have k5 := cell_regrown m5
        have k6 := cell_regrown m6
        have k7 := cell_regrown d0
        have k8 := cell_regrown d1
        obtain ⟨hh, hhh⟩ : ∃ hh, St.hasS s.held x.dig = hh := ⟨_, rfl⟩
        have HBR2 : Hid (St.binE s.files s.held (s.bin.take (0)) x = if hh = true then 6 else 0) := Lib.hid (by rw [HDZ.out]; unfold St.binR; rw [HDY.out, hhh]; rfl)
        rw [hhh] at HH2
        clear hhh
        go_upto_region 19 with (go_at_call 64; (with_reducible refine (HID.out _ _).mono ?_); rw [HDY.out]; rintro e w8 ⟨rfl, rfl⟩)
        refine wp_region_quiet_below (by kernel_rfl) (by kernel_rfl) ?_
        repeat (go_big_quiet_step ((first | (go_at_call 58; with_reducible exact HH1.out _ _) | (go_at_call 63; with_reducible exact HH2.out _ _))))
        refine wpQuiet_nil ?_
        intro _ hw'
        obtain ⟨⟨dq, osq⟩, hw''⟩ := hw'
        subst hw''
        have hBw9 := below_regrown w7 dq osq
        generalize grow (redrawn w7 dq) osq = w9 at *
        clear dq osq
        cases hh
        ·have HBD : Hid (St.binE s.files s.held (s.bin.take (0)) x = 0) := Lib.hid (by rw [HBR2.out]; rfl)
         have HE := Lib.hid (St.scan_next HS2.out HX.out HBD.out)
         go_wp2_with fail
         rw [← ha]
         go_roundg (nt - (0 + 1))
         case rel => exact ⟨0 + 1, by omega, rfl, by go_num, HE.out, below_up HAQ7.out hBw9⟩
         case measure => omega
        ·have HBD : Hid (St.binE s.files s.held (s.bin.take (0)) x = 6) := Lib.hid (by rw [HBR2.out]; rfl)
         have HE := Lib.hid (St.scan_here HS2.out HX.out (by rw [HBD.out]; decide))
         go_wp2_with fail
         go_ret
         exact ⟨ret_int (by rw [HF2.out, HE.out, HBD.out]), below_up HAL7.out hBw9⟩
      ·obtain ⟨p, hp, hlast⟩ := St.last_at (L := s.bin) (by rw [HNT.out]; exact hlt2) hjp
       obtain ⟨i, rfl⟩ : ∃ i, k = i + 1 := ⟨k - 1, by omega⟩
       rw [Nat.add_sub_cancel] at hp
       have k5 := cell_regrown (HPV.out _ HAW6.out i p hp)
       obtain ⟨bl, hbq⟩ : ∃ bl, (Op.bytesLess x.dig.toList p.dig.toList || x.dig.toList == p.dig.toList) = bl := ⟨_, rfl⟩
       have HBQ2 : Hid (St.le x.dig p.dig = bl) := Lib.hid hbq
       have HDP : Hid (St.binE s.files s.held (s.bin.take (i + 1)) x = if bl = true then 5 else St.binR s.held x) := Lib.hid (by rw [HDG.out, hlast, ← HBQ2.out])
       have HBC := Lib.hid hbq
       clear hp hlast hbq
       refine wp_region_quiet_below (by kernel_rfl) (by kernel_rfl) ?_
       repeat (go_big_quiet_step ((fail)))
       refine wpQuiet_nil ?_
       intro _ hw'
       obtain ⟨⟨dq, osq⟩, hw''⟩ := hw'
       subst hw''
       have hBw7 := below_regrown W3 dq osq
       generalize grow (redrawn W3 dq) osq = w7 at *
       clear dq osq
       clear k0 k5 k6
       cases bl
       ·have HDZ : Hid (St.binE s.files s.held (s.bin.take (i + 1)) x = St.binR s.held x) := Lib.hid (by rw [HDP.out]; rfl)
        simp only [HBC.out]
        obtain ⟨d0, d1⟩ := HD.out _ (below_up HB36.out hBw7)
        obtain ⟨m0, m1, m2, m3, m4, m5, m6⟩ := HCL.out _ (below_up HAW6.out hBw7)
        have HAW7 := Lib.hid (below_up HAW6.out hBw7)
        have HAL7 := Lib.hid (below_up HAL6.out hBw7)
        have HAQ7 := Lib.hid (below_up HAQ6.out hBw7)
        cases dy
        ·have HBD : Hid (St.binE s.files s.held (s.bin.take (i + 1)) x = 2) := Lib.hid (by rw [HDZ.out]; unfold St.binR; rw [HDY.out]; rfl)
         have HE := Lib.hid (St.scan_here HS2.out HX.out (by rw [HBD.out]; decide))
         go_wp2_with (go_at_call 64; (with_reducible refine (HID.out _ _).mono ?_); rw [HDY.out]; rintro e w8 ⟨rfl, rfl⟩)
         go_ret
         exact ⟨ret_int (by rw [HF2.out, HE.out, HBD.out]), HAL7.out⟩
        ·have HH1 := Lib.hid (fun d os => Calls.regrown_of (w := w7) (d := d) (os := os) (HHD.out _))
         have HH2 := Lib.hid (fun d os => Calls.regrown_of (w := w7) (d := d) (os := os) (HHS.out x.dig _ (below_up HAW7.out (below_regrown w7 d os))))
         have k0 := cell_regrown m0
         have k1 := cell_regrown m1
         have k2 := cell_regrown m2
         have k3 := cell_regrown m3
         have k4 := cell_regrown m4
         have k5 := cell_regrown m5
         have k6 := cell_regrown m6
         have k7 := cell_regrown d0
         have k8 := cell_regrown d1
         obtain ⟨hh, hhh⟩ : ∃ hh, St.hasS s.held x.dig = hh := ⟨_, rfl⟩
         have HBR2 : Hid (St.binE s.files s.held (s.bin.take (i + 1)) x = if hh = true then 6 else 0) := Lib.hid (by rw [HDZ.out]; unfold St.binR; rw [HDY.out, hhh]; rfl)
         rw [hhh] at HH2
         clear hhh
         go_upto_region 19 with (go_at_call 64; (with_reducible refine (HID.out _ _).mono ?_); rw [HDY.out]; rintro e w8 ⟨rfl, rfl⟩)
         refine wp_region_quiet_below (by kernel_rfl) (by kernel_rfl) ?_
         repeat (go_big_quiet_step ((first | (go_at_call 58; with_reducible exact HH1.out _ _) | (go_at_call 63; with_reducible exact HH2.out _ _))))
         refine wpQuiet_nil ?_
         intro _ hw'
         obtain ⟨⟨dq, osq⟩, hw''⟩ := hw'
         subst hw''
         have hBw9 := below_regrown w7 dq osq
         generalize grow (redrawn w7 dq) osq = w9 at *
         clear dq osq
         cases hh
         ·have HBD : Hid (St.binE s.files s.held (s.bin.take (i + 1)) x = 0) := Lib.hid (by rw [HBR2.out]; rfl)
          have HE := Lib.hid (St.scan_next HS2.out HX.out HBD.out)
          go_wp2_with fail
          rw [← ha]
          go_roundg (nt - (i + 1 + 1))
          case rel => exact ⟨i + 1 + 1, by omega, rfl, by go_num, HE.out, below_up HAQ7.out hBw9⟩
          case measure => omega
         ·have HBD : Hid (St.binE s.files s.held (s.bin.take (i + 1)) x = 6) := Lib.hid (by rw [HBR2.out]; rfl)
          have HE := Lib.hid (St.scan_here HS2.out HX.out (by rw [HBD.out]; decide))
          go_wp2_with fail
          go_ret
          exact ⟨ret_int (by rw [HF2.out, HE.out, HBD.out]), below_up HAL7.out hBw9⟩
       ·have HBD : Hid (St.binE s.files s.held (s.bin.take (i + 1)) x = 5) := Lib.hid (by rw [HDP.out]; rfl)
        have HE := Lib.hid (St.scan_here HS2.out HX.out (by rw [HBD.out]; decide))
        simp only [HBC.out]
        go_wp2_with fail
        go_ret
        exact ⟨ret_int (by rw [HF2.out, HE.out, HBD.out]), below_up HAL6.out hBw7⟩
     ·have hkb : (y.kind != 1) = true := by simpa using hk1
      have HBD : Hid (St.binE s.files s.held (s.bin.take k) x = 7) := Lib.hid (by rw [HDF.out, if_neg hk1])
      have HE := Lib.hid (St.scan_here HS2.out HX.out (by rw [HBD.out]; decide))
      go_upto_region 13 with fail
      rw [HW3.out]
      go_wp2_with fail
      go_ret
      exact ⟨ret_int (by rw [HF2.out, HE.out, HBD.out]), HAL6.out⟩
    ·obtain rfl : k = nt := by omega
     have HE := HS2.out
     rw [← HNT.out] at HE
     have HE2 := Lib.hid (St.scan_done HE)
     clear HE
     go_wp2_with fail
     go_ret
     exact ⟨ret_int (by rw [HF2.out, HE2.out]), HBQ.out⟩
end Go.Proofs.YthdiccdnggloiaaGreatDoor
