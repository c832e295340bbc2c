/- Parts of the proof, no condition: StPlcC, StFetM, StGd, StText, StTextB, StChp, StRef2, StCf, StDelF. -/
import Derived.Test.YthdiccdnggloiaaGreatDoorKp6
import Derived.Test.YthdiccdnggloiaaGreatDoorKp4
import Derived.Test.YthdiccdnggloiaaGreatDoorKp7
import Derived.Deep.RegionHeld3
import Derived.Lib.Join
import Derived.Lib.ItoaLen
import Derived.Test.YthdiccdnggloiaaGreatDoorKp5
set_option maxRecDepth 100000
set_option maxHeartbeats 8000000
set_option linter.unusedSimpArgs false
set_option linter.unusedVariables false
namespace Go.Proofs.YthdiccdnggloiaaGreatDoor
open Go.RowKit Go.Sort Go.Shelf Go.Maps
theorem entersKC : ∀ args w, (callFunc 144 args).run Tryz.prog w = .ok (.enter 144 args) w := enters_of Tryz.func144 (by kernel_rfl) rfl
theorem entersPC : ∀ args w, (callFunc 146 args).run Tryz.prog w = .ok (.enter 146 args) w := enters_of Tryz.func146 (by kernel_rfl) rfl
theorem keyKC_is (x : Cop) (hz : x.dig.size ≤ 100 ∧ x.tier.size ≤ 100) (w : World) : Calls Tryz.prog 144 #[.agg #[.string x.dig, .string x.tier, .bool x.good, .int .i64 x.asked]] w fun e w' => e = .returned (.string (St.ckey x)) ∧ Below w.heap.size w w' := by
 obtain ⟨W1, hW1, hX, hz1, hB1⟩ := box w #[.string x.dig, .string x.tier, .bool x.good, .int .i64 x.asked] 74
 have HW1 := Lib.hid hW1; have HB1 := Lib.hid hB1
 have c0 : W1.cell? ⟨w.heap.size, 0, none⟩ = some (.string x.dig) := (hX.cell 0).trans rfl
 have c1 : W1.cell? ⟨w.heap.size, 1, none⟩ = some (.string x.tier) := (hX.cell 1).trans rfl
 have c2 : W1.cell? ⟨w.heap.size, 2, none⟩ = some (.bool x.good) := (hX.cell 2).trans rfl
 have c3 : W1.cell? ⟨w.heap.size, 3, none⟩ = some (.int .i64 x.asked) := (hX.cell 3).trans rfl
 have HK := Lib.hid (fun V => copyKey_is x.dig x.tier hz.1 hz.2 V)
 clear hW1 hX hz1 hB1
 go_enter Tryz.func144, Tryz.ntmps144
 go_wp2_with fail
 rw [HW1.out]
 go_wp2_with (go_at_call 56; (with_reducible refine (HK.out _).mono ?_); rintro e w4 ⟨rfl, rfl⟩)
 go_ret
 exact ⟨rfl, HB1.out⟩
theorem placeCK_is (x : Cop) (hz : x.dig.size ≤ 100 ∧ x.tier.size ≤ 100) (k : ByteArray) (a : Option Addr) (n ca bk : Nat) (t : TypeId) (w : World) (hs : Blk w bk #[.func (.func 144) #[] #[], .slice a n ca] t) :
  Calls Tryz.prog 146 #[.agg #[.string x.dig, .string x.tier, .bool x.good, .int .i64 x.asked], .string k, .pointer (some ⟨bk, 0, none⟩)] w fun e w' => e = .returned (.int .i64 (St.cmpS (St.ckey x) k)) ∧ Below w.heap.size w w' := by
 obtain ⟨W1, hW1, hX, hz1, hB1⟩ := box w #[.string x.dig, .string x.tier, .bool x.good, .int .i64 x.asked] 74
 have HW1 := Lib.hid hW1; have HB1 := Lib.hid hB1
 have c0 : W1.cell? ⟨w.heap.size, 0, none⟩ = some (.string x.dig) := (hX.cell 0).trans rfl
 have c1 : W1.cell? ⟨w.heap.size, 1, none⟩ = some (.string x.tier) := (hX.cell 1).trans rfl
 have c2 : W1.cell? ⟨w.heap.size, 2, none⟩ = some (.bool x.good) := (hX.cell 2).trans rfl
 have c3 : W1.cell? ⟨w.heap.size, 3, none⟩ = some (.int .i64 x.asked) := (hX.cell 3).trans rfl
 have r0 : W1.cell? ⟨bk, 0, none⟩ = some (.func (.func 144) #[] #[]) := ((hs.keep hB1).cell 0).trans rfl
 have eg := entersKC
 have HK := Lib.hid (fun W => keyKC_is x hz W)
 have HC := Lib.hid (fun W => cmpStr_is (St.ckey x) k W)
 generalize St.ckey x = kx at *
 clear hs hW1 hX hz1 hB1
 go_enter Tryz.func146, Tryz.ntmps146
 go_upto_region 1 with fail
 rw [HW1.out]
 go_wp2_with (first | (go_at_fn 144; (with_reducible refine (HK.out _).mono ?_); rintro e w4 ⟨rfl, hB4⟩) | (go_at_call 147; (with_reducible refine (HC.out _).mono ?_); rintro e w5 ⟨rfl, rfl⟩))
 go_ret
 exact ⟨rfl, below_up HB1.out hB4⟩
theorem bsC_is (L : List Cop) (hu : St.Up St.ckey L) (hz : ∀ x ∈ L, x.dig.size ≤ 100 ∧ x.tier.size ≤ 100) (h1m : L.length ≤ 1000000) (k : ByteArray) (a : Option Addr) (ca bk : Nat) (t : TypeId) (w : World) (hl : L.length ≤ ca ∧ ca ≤ 9223372036854775807) (hr : RowE St.eC w a L) (hs : Blk w bk #[.func (.func 144) #[] #[], .slice a L.length ca] t) :
  Calls Tryz.prog 145 #[.slice a L.length ca, .string k, .func (.func 146) #[] #[.pointer (some ⟨bk, 0, none⟩)]] w fun e w' => e = .returned (.tuple #[.int .i64 (St.pos St.ckey k L), .bool (St.hasK St.ckey L k)]) ∧ Below w.heap.size w w' := by
 have eg := entersPC
 have HR := Lib.hid hr; have HS := Lib.hid hs; have HU := Lib.hid hu
 have HZ := Lib.hid hz
 clear hz
 obtain ⟨n, hn⟩ : ∃ n, L.length = n := ⟨_, rfl⟩
 have HN := Lib.hid hn
 have HC0 : Hid (∀ (i : Nat) (x : Cop), L[i]? = some x → ∀ V, Below w.heap.size w V → Calls Tryz.prog 146 #[.agg #[.string x.dig, .string x.tier, .bool x.good, .int .i64 x.asked], .string k, .pointer (some ⟨bk, 0, none⟩)] V fun e w' => e = .returned (.int .i64 (St.cmpS (St.ckey x) k)) ∧ Below V.heap.size V w') := Lib.hid fun i x hx V hv => placeCK_is x (HZ.out x (List.mem_of_getElem? hx)) k a L.length ca bk t V (hs.keep hv)
 rw [hn] at hl h1m ⊢
 clear hr hs hu hn
 go_enter Tryz.func145, Tryz.ntmps145
 go_wp2_with fail
 go_loopg [9, 10] n (fun g s7 s8 wr => ∃ lo hi : Nat, s7 = .int .i64 lo ∧ s8 = .int .i64 hi ∧ lo ≤ hi ∧ hi ≤ n ∧ g = 0 + (hi - lo) ∧ Below w.heap.size w wr ∧ (∀ i x, L[i]? = some x → i < lo → St.lt (St.ckey x) k = true) ∧ (∀ i x, L[i]? = some x → hi ≤ i → St.lt (St.ckey x) k = false))
 case atStart => exact ⟨0, n, rfl, rfl, Nat.zero_le _, Nat.le_refl _, by omega, Below.refl _ _, fun i x _ h => absurd h (Nat.not_lt_zero _), fun i x hx h => by have := (List.getElem?_eq_some_iff.1 hx).1; have := HN.out; omega⟩
 case round =>
  obtain ⟨lo, hi, rfl, rfl, hlh, hin, rfl, hB, h1, h2⟩ := hrel
  have I1 := Lib.hid h1; have I2 := Lib.hid h2
  clear h1 h2
  by_cases hlt : lo < hi
  ·obtain ⟨x, hx⟩ : ∃ x, L[(lo + hi) / 2]? = some x := ⟨_, List.getElem?_eq_getElem (by rw [HN.out]; omega)⟩
   obtain ⟨b, off, ha, hb, hcell⟩ := (HR.out.keep hB) (by rw [HN.out]; omega)
   have c0 : wr.cell? ⟨b, off + (lo + hi) / 2 * 4, none⟩ = some (.string x.dig) := hcell _ x hx 0 (.string x.dig) rfl
   have c1 : wr.cell? ⟨b, off + (lo + hi) / 2 * 4 + 1, none⟩ = some (.string x.tier) := hcell _ x hx 1 (.string x.tier) rfl
   have c2 : wr.cell? ⟨b, off + (lo + hi) / 2 * 4 + 2, none⟩ = some (.bool x.good) := hcell _ x hx 2 (.bool x.good) rfl
   have c3 : wr.cell? ⟨b, off + (lo + hi) / 2 * 4 + 3, none⟩ = some (.int .i64 x.asked) := hcell _ x hx 3 (.int .i64 x.asked) rfl
   clear hcell
   have HX := Lib.hid hx
   obtain ⟨s, hsg⟩ : ∃ s, St.cmpS (St.ckey x) k = s := ⟨_, rfl⟩
   have HC := Lib.hid (HC0.out _ x hx _ hB)
   rw [hsg] at HC
   have HSG : Hid (s < 0 ↔ St.lt (St.ckey x) k = true) := Lib.hid (by rw [← hsg]; exact St.cmpS_lt)
   rw [ha]
   have HB := Lib.hid hB
   clear hsg hx hB
   by_cases hyx : s < 0
   ·go_wp2_with (go_at_fn 146; (with_reducible refine HC.out.mono ?_); rintro e w4 ⟨rfl, hB4⟩)
    rw [← ha]
    go_roundg (hi - ((lo + hi) / 2 + 1))
    case measure => omega
    case rel =>
     refine ⟨(lo + hi) / 2 + 1, hi, by rw [show ((lo : Int) + (hi : Int)) / 2 + 1 = (((lo + hi) / 2 + 1 : Nat) : Int) by omega], rfl, by omega, hin, by omega, below_up HB.out hB4, fun i y hy hi2 => ?_, I2.out⟩
     by_cases e : i = (lo + hi) / 2
     ·subst e; rw [HX.out] at hy; obtain rfl := Option.some.inj hy; exact HSG.out.1 hyx
     ·exact St.lt_trans (HU.out.lt hy HX.out (by omega)) (HSG.out.1 hyx)
   ·go_wp2_with (go_at_fn 146; (with_reducible refine HC.out.mono ?_); rintro e w4 ⟨rfl, hB4⟩)
    rw [← ha]
    go_roundg ((lo + hi) / 2 - lo)
    case measure => omega
    case rel =>
     refine ⟨lo, (lo + hi) / 2, rfl, by rw [show ((lo : Int) + (hi : Int)) / 2 = (((lo + hi) / 2 : Nat) : Int) by omega], by omega, by omega, by omega, below_up HB.out hB4, I1.out, fun i y hy hi2 => ?_⟩
     have hxk : St.lt (St.ckey x) k = false := by
      cases h : St.lt (St.ckey x) k
      ·rfl
      ·exact absurd (HSG.out.2 h) (by omega)
     by_cases e : i = (lo + hi) / 2
     ·subst e; rw [HX.out] at hy; obtain rfl := Option.some.inj hy; exact hxk
     ·have h3 : St.lt (St.ckey x) (St.ckey y) = true := HU.out.lt HX.out hy (by omega)
      cases h : St.lt (St.ckey y) k
      ·rfl
      ·rw [St.lt_trans h3 h] at hxk; cases hxk
  ·have : hi = lo := by omega
   subst this
   have HP : Hid (St.pos St.ckey k L = hi) := Lib.hid (St.pos_is (by rw [HN.out]; exact hin) (fun i x h1 h2 => I1.out i x h1 h2) (fun x hx => I2.out hi x hx (Nat.le_refl _)))
   by_cases hnn : hi < n
   ·obtain ⟨x, hx⟩ : ∃ x, L[hi]? = some x := ⟨_, List.getElem?_eq_getElem (by rw [HN.out]; omega)⟩
    have HH : Hid (St.hasK St.ckey L k = St.eq (St.ckey x) k) := Lib.hid (by rw [St.has_pos HU.out, HP.out, hx])
    obtain ⟨b, off, ha, hb, hcell⟩ := (HR.out.keep hB) (by rw [HN.out]; omega)
    have c0 : wr.cell? ⟨b, off + hi * 4, none⟩ = some (.string x.dig) := hcell _ x hx 0 (.string x.dig) rfl
    have c1 : wr.cell? ⟨b, off + hi * 4 + 1, none⟩ = some (.string x.tier) := hcell _ x hx 1 (.string x.tier) rfl
    have c2 : wr.cell? ⟨b, off + hi * 4 + 2, none⟩ = some (.bool x.good) := hcell _ x hx 2 (.bool x.good) rfl
    have c3 : wr.cell? ⟨b, off + hi * 4 + 3, none⟩ = some (.int .i64 x.asked) := hcell _ x hx 3 (.int .i64 x.asked) rfl
    have HEQ : Hid ((St.cmpS (St.ckey x) k == 0) = St.eq (St.ckey x) k) := Lib.hid St.cmpS_eq
    have HC := Lib.hid (HC0.out _ x hx _ hB)
    have HV : Hid (St.hasK St.ckey L k = (St.cmpS (St.ckey x) k == 0)) := Lib.hid (HH.out.trans HEQ.out.symm)
    clear HEQ HH hcell hx
    generalize St.cmpS (St.ckey x) k = s at HC HV
    have HB := Lib.hid hB
    clear hB
    rw [ha]
    by_cases hs0 : s = 0
    ·subst hs0
     go_wp2_with (go_at_fn 146; (with_reducible refine HC.out.mono ?_); rintro e w4 ⟨rfl, hB4⟩)
     go_ret2
     exact ⟨by rw [HP.out, HV.out]; rfl, below_up HB.out hB4⟩
    ·have hs1 : (s == 0) = false := by simpa using hs0
     go_wp2_with (go_at_fn 146; (with_reducible refine HC.out.mono ?_); rintro e w4 ⟨rfl, hB4⟩)
     go_ret2
     exact ⟨by rw [HP.out, HV.out, hs1]; rfl, below_up HB.out hB4⟩
   ·obtain rfl : n = hi := by omega
    have HH : Hid (St.hasK St.ckey L k = false) := Lib.hid (by rw [St.has_pos HU.out, HP.out, List.getElem?_eq_none (by rw [HN.out]; exact Nat.le_refl _)])
    go_wp2_with fail
    go_ret2
    exact ⟨by rw [HP.out, HH.out]; rfl, hB⟩
theorem placeC_is (L : List Cop) (hu : St.Up St.ckey L) (hz : ∀ x ∈ L, x.dig.size ≤ 100 ∧ x.tier.size ≤ 100) (h1m : L.length ≤ 1000000) (k : ByteArray) (a : Option Addr) (ca : Nat) (w : World) (hl : L.length ≤ ca ∧ ca ≤ 9223372036854775807) (hr : RowE St.eC w a L) :
  Calls Tryz.prog 55 #[.agg #[.func (.func 144) #[] #[], .slice a L.length ca], .string k] w fun e w' => e = .returned (.tuple #[.int .i64 (St.pos St.ckey k L), .bool (St.hasK St.ckey L k)]) ∧ Below w.heap.size w w' := by
 obtain ⟨W1, hW1, hP, hz1, hB1⟩ := box w #[.func (.func 144) #[] #[], .slice a L.length ca] 97
 have HW1 := Lib.hid hW1; have HB1 := Lib.hid hB1
 have r1 : W1.cell? ⟨w.heap.size, 1, none⟩ = some (.slice a L.length ca) := (hP.cell 1).trans rfl
 have HC := Lib.hid (bsC_is L hu hz h1m k a ca w.heap.size _ W1 hl (hr.keep hB1) hP)
 have hmf : ∀ (fn : Fn) (first cap : Array Value) (w : World), (Instr.makeFunc fn first cap).run Tryz.prog w = .ok (.func fn first cap) w := fun _ _ _ _ => rfl
 clear hW1 hP hz1 hB1 hr
 go_enter Tryz.func55, Tryz.ntmps55
 go_wp2_with fail
 rw [HW1.out]
 go_wp2_with (go_at_call 145; (with_reducible refine HC.out.mono ?_); rintro e w4 ⟨rfl, hB4⟩)
 go_ret2
 exact ⟨rfl, below_up HB1.out hB4⟩
theorem copiesRow_is (s : Sto) (a : StA) (w : World) :
  Calls Tryz.prog 54 #[.agg #[.int .i64 s.least, .int .i64 s.wait, .slice a.ta s.tiers.length a.tc, .slice a.fa s.files.length a.fc, .slice a.ca s.copies.length a.cc, .slice a.ha s.held.length a.hc, .slice a.ba s.bin.length a.bc]] w fun e w' => e = .returned (.agg #[.func (.func 144) #[] #[], .slice a.ca s.copies.length a.cc]) ∧ Below w.heap.size w w' := by
 obtain ⟨W1, hW1, hP, hz1, hB1⟩ := box w #[.int .i64 s.least, .int .i64 s.wait, .slice a.ta s.tiers.length a.tc, .slice a.fa s.files.length a.fc, .slice a.ca s.copies.length a.cc, .slice a.ha s.held.length a.hc, .slice a.ba s.bin.length a.bc] 28
 have HW1 := Lib.hid hW1; have HB1 := Lib.hid hB1
 have q5 : W1.cell? ⟨w.heap.size, 4, none⟩ = some (.slice a.ca s.copies.length a.cc) := (hP.cell 4).trans rfl
 obtain ⟨W2, hW2, hX2, hz2, hB2⟩ := box W1 #[.func (.func 144) #[] #[], .slice a.ca s.copies.length a.cc] 97
 have HW2 := Lib.hid hW2
 rw [hz1] at hX2
 have HX2 := Lib.hid hX2; have HBB := Lib.hid (below_up hB1 hB2)
 have hsf : ∀ (fn : Fn) (x y : Array Value) (p : Addr) (m : Mode) (W : World), (store p (.func fn x y) m).run Tryz.prog W = stored Tryz.prog W p (.func fn x y) m := fun fn x y p m W => run_store Tryz.prog W p _ m rfl
 clear hW1 hP hW2 hX2 hB1 hB2
 go_enter Tryz.func54, Tryz.ntmps54
 go_wp2_with fail
 rw [HW1.out]
 go_wp2_with fail
 rw [HW2.out]
 have g0 : W2.cell? ⟨w.heap.size + 1, 0, none⟩ = some (.func (.func 144) #[] #[]) := (HX2.out.cell 0).trans rfl
 have g1 : W2.cell? ⟨w.heap.size + 1, 1, none⟩ = some (.slice a.ca s.copies.length a.cc) := (HX2.out.cell 1).trans rfl
 refine bodyPost_ret (v := .agg #[.func (.func 144) #[] #[], .slice a.ca s.copies.length a.cc]) (by simp [results, Tryz.results54, go_sem, g0, g1]) rfl ⟨rfl, HBB.out⟩
end Go.Proofs.YthdiccdnggloiaaGreatDoor
namespace Go.Proofs.YthdiccdnggloiaaGreatDoor
open Go.RowKit
namespace St
def isCop (d t : ByteArray) (c : Cop) : Bool := eq c.dig d && eq c.tier t
def copyAt (s : Sto) (d t : ByteArray) : Int := idx (isCop d t) s.copies 0
theorem find_idx {α : Type} {p : α → Bool} : ∀ {L : List α} {i : Nat}, (∀ x, L.find? p = some x → ∃ j, idx p L i = ((i + j : Nat) : Int) ∧ L[j]? = some x) ∧ (L.find? p = none → idx p L i = -1)
 | [], i => ⟨fun x h => by simp at h, fun _ => rfl⟩
 | y :: L, i => by
   obtain ⟨h1, h2⟩ := find_idx (p := p) (L := L) (i := i + 1)
   cases hy : p y
   ·rw [List.find?_cons_of_neg (by rw [hy]; decide)]
    refine ⟨fun x hx => ?_, fun hn => ?_⟩
    ·obtain ⟨j, e1, e2⟩ := h1 x hx
     exact ⟨j + 1, by rw [idx, if_neg (by rw [hy]; decide), e1]; congr 1; omega, by simpa using e2⟩
    ·rw [idx, if_neg (by rw [hy]; decide), h2 hn]
   ·rw [List.find?_cons_of_pos (by exact hy)]
    refine ⟨fun x hx => ⟨0, by rw [idx, if_pos hy]; rfl, by simpa using hx⟩, fun hn => by cases hn⟩
theorem isCop_key {s : Sto} (r : Right s) {d t : ByteArray} (hd : d.size = 16) {c : Cop} (hc : c ∈ s.copies) : isCop d t c = eq (ckey c) (key d t) := by
 unfold isCop ckey
 rw [eq_key ((cop_dig r hc).trans hd.symm)]
theorem copyAt_pos {s : Sto} (r : Right s) {d t : ByteArray} (hd : d.size = 16) : (hasK ckey s.copies (key d t) = true → copyAt s d t = (pos ckey (key d t) s.copies : Nat)) ∧ (hasK ckey s.copies (key d t) = false → copyAt s d t = -1) := by
 have hu := cop_up r
 refine ⟨fun h => ?_, fun h => ?_⟩
 ·obtain ⟨x, hx, hk⟩ := hasK_at hu h
  have hxm := List.mem_of_getElem? hx
  have hxp : isCop d t x = true := by rw [isCop_key r hd hxm]; exact eq_iff.2 hk
  obtain ⟨hlt, hg⟩ := List.getElem?_eq_some_iff.1 hx
  unfold copyAt
  have e : s.copies = s.copies.take (pos ckey (key d t) s.copies) ++ x :: s.copies.drop (pos ckey (key d t) s.copies + 1) := by
   rw [← hg, ← List.drop_eq_getElem_cons hlt, List.take_append_drop]
  have hz : ∀ y ∈ s.copies.take (pos ckey (key d t) s.copies), isCop d t y = false := by
   intro y hy
   have hym := List.mem_of_mem_take hy
   cases hp : isCop d t y
   ·rfl
   ·rw [isCop_key r hd hym] at hp
    obtain ⟨i, hi⟩ := List.getElem?_of_mem hy
    have hil : i < pos ckey (key d t) s.copies := by
     have := (List.getElem?_eq_some_iff.1 hi).1
     rw [List.length_take] at this; omega
    rw [List.getElem?_take, if_pos hil] at hi
    have h3 := pos_before hi hil
    rw [eq_iff.1 hp, lt_irr] at h3
    cases h3
  rw [e, idx_at hz hxp, ← e, Nat.zero_add, List.length_take]
  congr 1; omega
 ·unfold copyAt
  refine idx_none fun x hx => ?_
  rw [isCop_key r hd hx]
  cases hp : eq (ckey x) (key d t)
  ·rfl
  ·exact absurd (eq_iff.1 hp) (hasK_not h x hx)
def best (b : Tir) (L : List Tir) : Tir := L.foldl (fun b t => if t.cost < b.cost then t else b) b
end St
namespace St
theorem file16 {s : Sto} (r : Right s) {d : ByteArray} {f : Fil} (h : fileOf s.files d = some f) : d.size = 16 := by
 obtain ⟨h1, h2⟩ := find_mem h
 rw [← eq_iff.1 h2]
 exact dig16 (r.dig f h1).1
end St
end Go.Proofs.YthdiccdnggloiaaGreatDoor
namespace Go.Proofs.YthdiccdnggloiaaGreatDoor
open Go.RowKit Go.Sort Go.Shelf Go.Maps
theorem grown_self (w : World) (b : Nat) : w.grownBy w (some b) := ⟨rfl, rfl, rfl, Nat.le_refl _, fun _ _ _ => rfl⟩
theorem grown_set {w w' : World} {b : Nat} (h : w.grownBy w' (some b)) (i : Nat) (v : Value) : w.grownBy (w'.setCell ⟨b, i, none⟩ v) (some b) :=
 ⟨h.os, h.tape, h.output, by have := h.size; simp; omega, fun k hk hne => (Below.heap_setCell w' _ v k (by intro e; exact hne (by rw [e]))).trans (h.block k hk hne)⟩
end Go.Proofs.YthdiccdnggloiaaGreatDoor
namespace Go.Proofs.YthdiccdnggloiaaGreatDoor
open Go.RowKit
namespace St
def tow (b : Bool) (x y : List UInt8) : List UInt8 := if b = true then x else y
def kindT (k : Int) : List UInt8 := if k = 1 then [111, 114, 105, 103, 105, 110, 97, 108] else if k = 2 then [115, 105, 100, 101, 99, 97, 114] else [100, 101, 114, 105, 118, 101, 100]
def w0 (s : Sto) : List (List UInt8) := [[115, 116, 111, 114, 101], Lib.itoa s.least, Lib.itoa s.wait]
def wT (t : Tir) : List (List UInt8) := [[116, 105, 101, 114], t.name.data.toList, Lib.itoa t.room, Lib.itoa t.cost, tow t.away [97, 119, 97, 121] [104, 101, 114, 101]]
def wF (f : Fil) : List (List UInt8) := [[102, 105, 108, 101], f.dig.data.toList, Lib.itoa f.size, kindT f.kind] ++ (if f.kind = 1 then [] else [f.frm.data.toList])
def wC (c : Cop) : List (List UInt8) := [[99, 111, 112, 121], c.dig.data.toList, c.tier.data.toList, tow c.good [103, 111, 111, 100] [98, 97, 100], Lib.itoa c.asked]
def wH (d : ByteArray) : List (List UInt8) := [[104, 101, 108, 100], d.data.toList]
def wB (g : Gon) : List (List UInt8) := [[98, 105, 110], g.dig.data.toList, Lib.itoa g.day]
def ln (w : List (List UInt8)) : List UInt8 := Lib.join w [32]
def linesT (L : List (List UInt8)) : List UInt8 := L.flatMap fun l => l ++ [10]
def all (s : Sto) : List (List UInt8) := [ln (w0 s)] ++ s.tiers.map (fun t => ln (wT t)) ++ s.files.map (fun f => ln (wF f)) ++ s.copies.map (fun c => ln (wC c)) ++ s.held.map (fun d => ln (wH d)) ++ s.bin.map (fun g => ln (wB g))
def text (s : Sto) : List UInt8 := linesT (all s)
end St
namespace St
theorem inB_iff {n lo hi : Int} : inB n lo hi = true ↔ lo ≤ n ∧ n ≤ hi := by unfold inB; exact decide_eq_true_iff
theorem tier_good {s : Sto} (r : Right s) {t : Tir} (ht : t ∈ s.tiers) : Fd.nameB t.name = true ∧ (0 ≤ t.room ∧ t.room ≤ 1000000000000) ∧ (0 ≤ t.cost ∧ t.cost ≤ 1000000) := by
 obtain ⟨i, hi⟩ := List.getElem?_of_mem ht
 have h := scan_iff.1 r.tiers i t hi
 unfold tierE at h
 split at h
 ·rename_i h1
  split at h
  ·cases h
  ·split at h
   ·rename_i h2
    exact ⟨h1, inB_iff.1 h2.1, inB_iff.1 h2.2⟩
   ·cases h
 ·cases h
theorem name40 {n : ByteArray} (h : Fd.nameB n = true) : n.size ≤ 40 := by
 unfold Fd.nameB at h
 exact (of_decide_eq_true h).1.2
theorem hasTier_mem {L : List Tir} {n : ByteArray} (h : hasTier L n = true) : ∃ t ∈ L, t.name = n := by
 unfold hasTier at h
 obtain ⟨t, h1, h2⟩ := List.any_eq_true.1 h
 exact ⟨t, h1, eq_iff.1 h2⟩
theorem cop_good {s : Sto} (r : Right s) {c : Cop} (hc : c ∈ s.copies) : c.dig.size = 16 ∧ c.tier.size ≤ 40 ∧ (0 ≤ c.asked ∧ c.asked ≤ 6311433599) := by
 obtain ⟨h1, h2, h3⟩ := r.cop c hc
 obtain ⟨t, ht, hn⟩ := hasTier_mem h2
 refine ⟨cop_dig r hc, by rw [← hn]; exact name40 (tier_good r ht).1, ?_⟩
 unfold isMom at h3
 exact of_decide_eq_true h3
end St
end Go.Proofs.YthdiccdnggloiaaGreatDoor
namespace Go.Proofs.YthdiccdnggloiaaGreatDoor
open Go.RowKit Go.Sort Go.Shelf Go.Maps
theorem Blk.four {w : World} {b : Nat} {t : TypeId} {x0 x1 x2 x3 : Value} (h : Blk w b #[x0, x1, x2, x3] t) : w.cell? ⟨b, 0, none⟩ = some x0 ∧ w.cell? ⟨b, 1, none⟩ = some x1 ∧ w.cell? ⟨b, 2, none⟩ = some x2 ∧ w.cell? ⟨b, 3, none⟩ = some x3 :=
 ⟨by rw [h.cell]; rfl, by rw [h.cell]; rfl, by rw [h.cell]; rfl, by rw [h.cell]; rfl⟩
theorem Blk.setRowAt {w : World} {b : Nat} {c : Array Value} {t : TypeId} (h : Blk w b c t) (cs : Array Value) : Blk (w.setRow b cs) b cs t := setRow_heap w b c cs t (0, 0) h
theorem Blk.setRowOther {w : World} {b b' : Nat} {c : Array Value} {t : TypeId} (h : Blk w b c t) (hb : b ≠ b') (cs : Array Value) : Blk (w.setRow b' cs) b c t := h.of_block (setRow_other w b' b cs hb)
theorem before_is (x y : Cop) (w : World) :
  Calls Tryz.prog 77 #[.agg #[.string x.dig, .string x.tier, .bool x.good, .int .i64 x.asked], .agg #[.string y.dig, .string y.tier, .bool y.good, .int .i64 y.asked]] w fun e w' => e = .returned (.bool (St.ahead x y)) ∧ Below w.heap.size w w' := by
 obtain ⟨W1, hW1, hP, hz1, hB1⟩ := box w #[.string x.dig, .string x.tier, .bool x.good, .int .i64 x.asked] 74
 obtain ⟨W2, hW2, hQ, hz2, hB2⟩ := box W1 #[.string y.dig, .string y.tier, .bool y.good, .int .i64 y.asked] 74
 have HW1 := Lib.hid hW1; have HW2 := Lib.hid hW2
 have HBB := Lib.hid (below_up hB1 hB2)
 have hP2 := hP.keep hB2
 rw [hz1] at hQ
 have d0 : W2.cell? ⟨w.heap.size, 0, none⟩ = some (.string x.dig) := (hP2.cell 0).trans rfl
 have d1 : W2.cell? ⟨w.heap.size, 1, none⟩ = some (.string x.tier) := (hP2.cell 1).trans rfl
 have e0 : W2.cell? ⟨w.heap.size + 1, 0, none⟩ = some (.string y.dig) := (hQ.cell 0).trans rfl
 have e1 : W2.cell? ⟨w.heap.size + 1, 1, none⟩ = some (.string y.tier) := (hQ.cell 1).trans rfl
 have HV : Hid (St.ahead x y = (Op.bytesLess x.dig.toList y.dig.toList || (x.dig.toList == y.dig.toList && Op.bytesLess x.tier.toList y.tier.toList))) := Lib.hid rfl
 obtain ⟨a1, h1⟩ : ∃ a1, Op.bytesLess x.dig.toList y.dig.toList = a1 := ⟨_, rfl⟩
 obtain ⟨a2, h2⟩ : ∃ a2, (x.dig.toList == y.dig.toList) = a2 := ⟨_, rfl⟩
 obtain ⟨a3, h3⟩ : ∃ a3, Op.bytesLess x.tier.toList y.tier.toList = a3 := ⟨_, rfl⟩
 rw [h1, h2, h3] at HV
 clear hW1 hW2 hP hP2 hQ hB1 hB2 hz1 hz2
 cases a1 <;> cases a2 <;> cases a3 <;>
  (go_enter Tryz.func77, Tryz.ntmps77
   go_wp2_with fail
   rw [HW1.out, HW2.out]
   go_wp2_with fail
   go_ret
   exact ⟨ret_bool (by rw [HV.out]; rfl), HBB.out⟩)
namespace St
def faultE (f : Fil) : Int := if Fd.fileB f.dig = true then fileR f else 1
end St
theorem fileFault_is (x : Fil) (hz : x.dig.size ≤ 9223372036854775807) (w : World) :
  Calls Tryz.prog 74 #[.agg #[.string x.dig, .int .i64 x.size, .int .i64 x.kind, .string x.frm]] w fun e w' => e = .returned (.int .i64 (St.faultE x)) ∧ Below w.heap.size w w' := by
 obtain ⟨W3, hW3, hX3, hz3, hB3⟩ := box w #[.string x.dig, .int .i64 x.size, .int .i64 x.kind, .string x.frm] 30
 have HW3 := Lib.hid hW3; have HB3 := Lib.hid hB3
 have d0 : W3.cell? ⟨w.heap.size, 0, none⟩ = some (.string x.dig) := (hX3.cell 0).trans rfl
 have d1 : W3.cell? ⟨w.heap.size, 1, none⟩ = some (.int .i64 x.size) := (hX3.cell 1).trans rfl
 have d2 : W3.cell? ⟨w.heap.size, 2, none⟩ = some (.int .i64 x.kind) := (hX3.cell 2).trans rfl
 have d3 : W3.cell? ⟨w.heap.size, 3, none⟩ = some (.string x.frm) := (hX3.cell 3).trans rfl
 have HDG := Lib.hid (isDigest_is x.dig hz _ rfl W3)
 have HO1 := Lib.hid (fun W => inS_is x.size 0 1000000000 W)
 have HO2 := Lib.hid (fun W => inS_is x.kind 1 3 W)
 obtain ⟨q, hq⟩ : ∃ q, St.faultE x = q := ⟨_, rfl⟩
 rw [hq]
 unfold St.faultE St.fileR at hq
 clear hW3 hX3 hB3 hz3 hz
 generalize Fd.fileB x.dig = bd at *
 generalize St.inB x.size 0 1000000000 = b1 at *
 generalize St.inB x.kind 1 3 = b2 at *
 cases bd
 ·have HQ := Lib.hid hq
  clear hq
  go_enter Tryz.func74, Tryz.ntmps74
  go_wp2_with fail
  rw [HW3.out]
  go_wp2_with (first | (go_at_call 73; (with_reducible refine HDG.out.mono ?_); rintro e w4 ⟨rfl, rfl⟩) | (go_at_call 70; first | ((with_reducible refine (HO1.out _).mono ?_); rintro e w4 ⟨rfl, rfl⟩) | ((with_reducible refine (HO2.out _).mono ?_); rintro e w4 ⟨rfl, rfl⟩)))
  go_ret
  exact ⟨ret_int (by rw [← HQ.out]; rfl), HB3.out⟩
 cases b1
 ·have HQ := Lib.hid hq
  clear hq
  go_enter Tryz.func74, Tryz.ntmps74
  go_wp2_with fail
  rw [HW3.out]
  go_wp2_with (first | (go_at_call 73; (with_reducible refine HDG.out.mono ?_); rintro e w4 ⟨rfl, rfl⟩) | (go_at_call 70; first | ((with_reducible refine (HO1.out _).mono ?_); rintro e w4 ⟨rfl, rfl⟩) | ((with_reducible refine (HO2.out _).mono ?_); rintro e w4 ⟨rfl, rfl⟩)))
  go_ret
  exact ⟨ret_int (by rw [← HQ.out]; rfl), HB3.out⟩
 cases b2
 ·have HQ := Lib.hid hq
  clear hq
  go_enter Tryz.func74, Tryz.ntmps74
  go_wp2_with fail
  rw [HW3.out]
  go_wp2_with (first | (go_at_call 73; (with_reducible refine HDG.out.mono ?_); rintro e w4 ⟨rfl, rfl⟩) | (go_at_call 70; first | ((with_reducible refine (HO1.out _).mono ?_); rintro e w4 ⟨rfl, rfl⟩) | ((with_reducible refine (HO2.out _).mono ?_); rintro e w4 ⟨rfl, rfl⟩)))
  go_ret
  exact ⟨ret_int (by rw [← HQ.out]; rfl), HB3.out⟩
 by_cases hk : x.kind = 1
 ·have hk2 : (x.kind == 1) = true := by simpa using hk
  cases he : x.frm.toList.isEmpty
  ·have HQ : Hid ((1 : Int) = q) := Lib.hid (by rw [← hq, if_pos rfl, if_pos rfl, if_pos rfl, if_pos ⟨hk, he⟩])
   clear hq hk
   go_enter Tryz.func74, Tryz.ntmps74
   go_wp2_with fail
   rw [HW3.out]
   go_wp2_with (first | (go_at_call 73; (with_reducible refine HDG.out.mono ?_); rintro e w4 ⟨rfl, rfl⟩) | (go_at_call 70; first | ((with_reducible refine (HO1.out _).mono ?_); rintro e w4 ⟨rfl, rfl⟩) | ((with_reducible refine (HO2.out _).mono ?_); rintro e w4 ⟨rfl, rfl⟩)))
   go_ret
   exact ⟨ret_int HQ.out, HB3.out⟩
  ·have HQ : Hid ((0 : Int) = q) := Lib.hid (by rw [← hq, if_pos rfl, if_pos rfl, if_pos rfl, if_neg (by rintro ⟨_, g⟩; rw [he] at g; cases g)])
   clear hq hk
   go_enter Tryz.func74, Tryz.ntmps74
   go_wp2_with fail
   rw [HW3.out]
   go_wp2_with (first | (go_at_call 73; (with_reducible refine HDG.out.mono ?_); rintro e w4 ⟨rfl, rfl⟩) | (go_at_call 70; first | ((with_reducible refine (HO1.out _).mono ?_); rintro e w4 ⟨rfl, rfl⟩) | ((with_reducible refine (HO2.out _).mono ?_); rintro e w4 ⟨rfl, rfl⟩)))
   go_ret
   exact ⟨ret_int HQ.out, HB3.out⟩
 ·have hk2 : (x.kind == 1) = false := by simpa using hk
  have HQ : Hid ((0 : Int) = q) := Lib.hid (by rw [← hq, if_pos rfl, if_pos rfl, if_pos rfl, if_neg (by rintro ⟨g, _⟩; exact hk g)])
  clear hq
  go_enter Tryz.func74, Tryz.ntmps74
  go_wp2_with fail
  rw [HW3.out]
  go_wp2_with (first | (go_at_call 73; (with_reducible refine HDG.out.mono ?_); rintro e w4 ⟨rfl, rfl⟩) | (go_at_call 70; first | ((with_reducible refine (HO1.out _).mono ?_); rintro e w4 ⟨rfl, rfl⟩) | ((with_reducible refine (HO2.out _).mono ?_); rintro e w4 ⟨rfl, rfl⟩)))
  go_ret
  exact ⟨ret_int HQ.out, HB3.out⟩
theorem idxS_is (L : List ByteArray) (sa : Option Addr) (sc : Nat) (z : ByteArray) (w : World) (hr : RowE St.eS w sa L) (hl : L.length ≤ sc ∧ sc ≤ 9223372036854775807) :
  Calls Tryz.prog 130 #[.slice sa L.length sc, .string z] w fun e w' => (∃ r : Int, e = .returned (.int .i64 r) ∧ (0 ≤ r ↔ St.hasS L z = true)) ∧ w = w' := by
 have HR := Lib.hid hr
 have HQ : Hid (∀ r : Int, (0 ≤ r ↔ (L.drop 0).any (fun x => St.eq x z) = true) → (0 ≤ r ↔ St.hasS L z = true)) := Lib.hid fun r h => h
 obtain ⟨n, hn⟩ : ∃ n, L.length = n := ⟨_, rfl⟩
 have HN := Lib.hid hn
 rw [hn] at hl ⊢
 clear hr hn
 go_enter Tryz.func130, Tryz.ntmps130
 go_wp2_with fail
 go_loopg [8] n (fun gk i wr => ∃ j : Nat, j ≤ n ∧ gk = n - j ∧ i = .int .i64 j ∧ (∀ r : Int, (0 ≤ r ↔ (L.drop j).any (fun x => St.eq x z) = true) → (0 ≤ r ↔ St.hasS L z = true)) ∧ w = wr)
 case atStart => exact ⟨0, by omega, rfl, rfl, HQ.out, rfl⟩
 case round =>
  obtain ⟨j, hj, rfl, rfl, hs, rfl⟩ := hrel
  have HSC := Lib.hid hs; clear hs
  by_cases hlt : j < n
  ·obtain ⟨x, hx⟩ : ∃ x, L[j]? = some x := ⟨_, List.getElem?_eq_getElem (by rw [HN.out]; exact hlt)⟩
   obtain ⟨b, off, ha, hb, hcell⟩ := HR.out (by rw [HN.out]; omega)
   have c0 : w.cell? ⟨b, off + j, none⟩ = some (.string x) := by
    have := hcell j x hx 0 (.string x) rfl
    rw [show off + j * St.eS.k + 0 = off + j by simp [St.eS]] at this
    exact this
   have HX : Hid (L.drop j = x :: L.drop (j + 1)) := Lib.hid (by
    obtain ⟨h1, h2⟩ := List.getElem?_eq_some_iff.1 hx
    rw [List.drop_eq_getElem_cons h1, h2])
   have hj0 : (0 : Int) ≤ (j : Int) := by omega
   have hj1 : (j : Int) < (n : Int) := by omega
   obtain ⟨bq, hbq⟩ : ∃ bq, (x.toList == z.toList) = bq := ⟨_, rfl⟩
   obtain ⟨bq2, hbq2⟩ : ∃ bq, (z.toList == x.toList) = bq := ⟨_, rfl⟩
   have hbe : bq2 = bq := by
    rw [← hbq, ← hbq2, Bool.eq_iff_iff, beq_iff_eq, beq_iff_eq]
    exact eq_comm
   subst hbe
   have HBQ : Hid (St.eq x z = bq2) := Lib.hid hbq
   rw [ha]
   clear hcell hx
   cases bq2
   ·have HNX : Hid (∀ r : Int, (0 ≤ r ↔ (L.drop (j + 1)).any (fun x => St.eq x z) = true) → (0 ≤ r ↔ St.hasS L z = true)) := Lib.hid fun r h => HSC.out r (by rw [HX.out, List.any_cons, HBQ.out, Bool.false_or]; exact h)
    go_wp2_with fail
    rw [← ha]
    go_roundg (n - (j + 1))
    case rel => exact ⟨j + 1, by omega, rfl, by go_num, HNX.out, rfl⟩
    case measure => omega
   ·go_wp2_with fail
    go_ret
    exact ⟨⟨_, rfl, HSC.out _ (by rw [HX.out, List.any_cons, HBQ.out, Bool.true_or]; exact ⟨fun _ => rfl, fun _ => by omega⟩)⟩, rfl⟩
  ·obtain rfl : j = n := by omega
   go_wp2_with fail
   go_ret
   exact ⟨⟨_, rfl, HSC.out _ (by rw [List.drop_eq_nil_of_le (by rw [HN.out]; exact Nat.le_refl _)]; simp)⟩, rfl⟩
theorem containsS_is (L : List ByteArray) (sa : Option Addr) (sc : Nat) (z : ByteArray) (w : World) (hr : RowE St.eS w sa L) (hl : L.length ≤ sc ∧ sc ≤ 9223372036854775807) :
  Calls Tryz.prog 49 #[.slice sa L.length sc, .string z] w fun e w' => e = .returned (.bool (St.hasS L z)) ∧ w = w' := by
 have HC := Lib.hid (idxS_is L sa sc z w hr hl)
 go_enter Tryz.func49, Tryz.ntmps49
 go_wp2_with (go_at_call 130; (with_reducible refine HC.out.mono ?_); rintro e w4 ⟨⟨r, rfl, hr2⟩, rfl⟩)
 go_ret
 refine ⟨ret_bool ?_, rfl⟩
 rw [Bool.eq_iff_iff, ← hr2]


theorem St.idx_any {α : Type} {p : α → Bool} (L : List α) : decide (0 ≤ St.idx p L 0) = L.any p := by
 cases h : L.any p with
 | false =>
   have : St.idx p L 0 < 0 := St.idx_neg.2 (fun x hx => by
    have := List.any_eq_false.1 h x hx
    simpa using this)
   exact decide_eq_false (by omega)
 | true =>
   obtain ⟨x, hx, hp⟩ := List.any_eq_true.1 h
   refine decide_eq_true ?_
   rcases Int.lt_or_le (St.idx p L 0) 0 with hn | hn
   ·have := St.idx_neg.1 hn x hx
    rw [hp] at this; cases this
   ·exact hn
def DelOk {α : Type} (E : Enc α) (val : α → Value) (w0 : World) (g : Nat) (c : FuncId) (lb : Array Value) (p : α → Bool) (L : List α) : Prop :=
 ∀ (V : World) (x : α), x ∈ L → w0.grownBy V (some g) → Calls Tryz.prog c (#[val x] ++ lb) V fun e w' => e = .returned (.bool (p x)) ∧ Below V.heap.size V w'
theorem St.del_start {α : Type} {p : α → Bool} {L : List α} {j : Nat} {x : α} (hx : L[j]? = some x) (hp : p x = true) (hb : ∀ k y, k < j → L[k]? = some y → p y = false) : L.take j = (L.take (j + 1)).filter (fun y => !p y) := by
 rw [List.take_add_one, hx, List.filter_append]
 have h1 : (L.take j).filter (fun y => !p y) = L.take j := List.filter_eq_self.2 (fun y hy => by
  obtain ⟨i, hi⟩ := List.getElem?_of_mem hy
  have hij : i < j := by
   have := (List.getElem?_eq_some_iff.1 hi).1
   rw [List.length_take] at this; omega
  rw [List.getElem?_take_of_lt hij] at hi
  rw [hb i y hij hi]; rfl)
 rw [h1]
 simp [hp]
theorem St.del_none {α : Type} {p : α → Bool} {L : List α} (h : St.idx p L 0 < 0) : L.filter (fun y => !p y) = L :=
 List.filter_eq_self.2 (fun y hy => by rw [St.idx_neg.1 h y hy]; rfl)
theorem St.del_drop {α : Type} {L M : List α} {j : Nat} (h : M.drop j = L.drop j) : M.drop (j + 1) = L.drop (j + 1) := by
 have := congrArg (List.drop 1) h
 rwa [List.drop_drop, List.drop_drop] at this
theorem St.del_at {α : Type} {L M : List α} {j : Nat} (h : M.drop j = L.drop j) : M[j]? = L[j]? := by
 have := congrArg (fun l => l[0]?) h
 simpa using this
theorem St.del_skip {α : Type} {p : α → Bool} {L M : List α} {i j : Nat} {x : α} (h : M.take i = (L.take j).filter (fun y => !p y)) (hx : L[j]? = some x) (hp : p x = true) : M.take i = (L.take (j + 1)).filter (fun y => !p y) := by
 rw [h, List.take_add_one, hx, List.filter_append]
 simp [hp]
theorem St.del_move {α : Type} {p : α → Bool} {L M : List α} {i j : Nat} {x : α} (h : M.take i = (L.take j).filter (fun y => !p y)) (hi : i < M.length) (hx : L[j]? = some x) (hp : p x = false) : (M.set i x).take (i + 1) = (L.take (j + 1)).filter (fun y => !p y) := by
 have h1 : (M.set i x)[i]? = some x := by rw [List.getElem?_set_self hi]
 rw [List.take_add_one, h1, List.take_set_of_le (Nat.le_refl _), h, List.take_add_one, hx, List.filter_append]
 simp [hp]
theorem St.del_far {α : Type} {L M : List α} {i j : Nat} {x : α} (h : M.drop j = L.drop j) (hi : i < j) : (M.set i x).drop (j + 1) = L.drop (j + 1) := by
 rw [List.drop_set_of_lt (by omega)]
 exact St.del_drop h

theorem strF_idx (fn : FuncId) (lb : Array Value) (eg : ∀ args w, (callFunc fn args).run Tryz.prog w = .ok (.enter fn args) w) (p : ByteArray → Bool) (L : List ByteArray) (sa : Option Addr) (sc : Nat) (w : World) (hr : RowE St.eS w sa L) (hl : L.length ≤ sc ∧ sc ≤ 9223372036854775807)
  (HD : ∀ (V : World) (x : ByteArray), x ∈ L → Below w.heap.size w V → Calls Tryz.prog fn (#[.string x] ++ lb) V fun e w' => e = .returned (.bool (p x)) ∧ Below V.heap.size V w') :
  Calls Tryz.prog 161 #[.slice sa L.length sc, .func (.func fn) #[] lb] w fun e w' => e = .returned (.int .i64 (St.idx p L 0)) ∧ Below w.heap.size w w' := by
 have HR := Lib.hid hr; have HD := Lib.hid HD
 obtain ⟨q, hq⟩ : ∃ q, St.idx p L 0 = q := ⟨_, rfl⟩
 rw [hq]
 have HQ : Hid (St.idx p (L.drop 0) 0 = q) := Lib.hid hq
 obtain ⟨n, hn⟩ : ∃ n, L.length = n := ⟨_, rfl⟩
 have HN := Lib.hid hn
 rw [hn] at hl ⊢
 clear hr hq hn
 go_enter Tryz.func161, Tryz.ntmps161
 go_wp2_with fail
 go_loopg [8] n (fun gk i wr => ∃ j : Nat, j ≤ n ∧ gk = n - j ∧ i = .int .i64 j ∧ St.idx p (L.drop j) j = q ∧ Below w.heap.size w wr)
 case atStart => exact ⟨0, by omega, rfl, rfl, HQ.out, Below.refl _ _⟩
 case round =>
  obtain ⟨j, hj, rfl, rfl, hs, hB⟩ := hrel
  have HSC := Lib.hid hs; clear hs
  by_cases hlt : j < n
  ·obtain ⟨x, hx⟩ : ∃ x, L[j]? = some x := ⟨_, List.getElem?_eq_getElem (by rw [HN.out]; exact hlt)⟩
   obtain ⟨b, off, ha, hb, hcell⟩ := (HR.out.keep hB) (by rw [HN.out]; omega)
   have c0 : wr.cell? ⟨b, off + j, none⟩ = some (.string x) := by have := hcell j x hx 0 (.string x) rfl; rw [show off + j * St.eS.k + 0 = off + j by simp [St.eS]] at this; exact this
   have HX := Lib.hid hx
   have HC := Lib.hid (HD.out wr x (List.mem_of_getElem? hx) hB)
   have hj0 : (0 : Int) ≤ (j : Int) := by omega
   have hj1 : (j : Int) < (n : Int) := by omega
   obtain ⟨bq, hbq⟩ : ∃ bq, p x = bq := ⟨_, rfl⟩
   rw [hbq] at HC
   have HBQ := Lib.hid hbq
   rw [ha]
   cases bq
   ·have HE := Lib.hid (St.idx_next HSC.out HX.out HBQ.out)
    clear hx hbq hcell
    go_wp2_with fail
    refine HC.out.mono ?_
    rintro e w4 ⟨rfl, hB4⟩
    go_wp2_with fail
    rw [← ha]
    go_roundg (n - (j + 1))
    case rel => exact ⟨j + 1, by omega, rfl, by go_num, HE.out, below_up hB hB4⟩
    case measure => omega
   ·have HE := Lib.hid (St.idx_here HSC.out HX.out HBQ.out)
    clear hx hbq hcell
    go_wp2_with fail
    refine HC.out.mono ?_
    rintro e w4 ⟨rfl, hB4⟩
    go_wp2_with fail
    go_ret
    exact ⟨ret_int HE.out, below_up hB hB4⟩
  ·obtain rfl : j = n := by omega
   have HE := HSC.out
   rw [← HN.out] at HE
   have HE2 := Lib.hid (St.idx_end HE)
   clear HE
   go_wp2_with fail
   go_ret
   exact ⟨ret_int HE2.out, hB⟩

theorem gonF_idx (fn : FuncId) (lb : Array Value) (eg : ∀ args w, (callFunc fn args).run Tryz.prog w = .ok (.enter fn args) w) (p : Gon → Bool) (L : List Gon) (sa : Option Addr) (sc : Nat) (w : World) (hr : RowE St.eG w sa L) (hl : L.length ≤ sc ∧ sc ≤ 9223372036854775807)
  (HD : ∀ (V : World) (x : Gon), x ∈ L → Below w.heap.size w V → Calls Tryz.prog fn (#[.agg #[.string x.dig, .int .i64 x.day]] ++ lb) V fun e w' => e = .returned (.bool (p x)) ∧ Below V.heap.size V w') :
  Calls Tryz.prog 156 #[.slice sa L.length sc, .func (.func fn) #[] lb] w fun e w' => e = .returned (.int .i64 (St.idx p L 0)) ∧ Below w.heap.size w w' := by
 have HR := Lib.hid hr; have HD := Lib.hid HD
 obtain ⟨q, hq⟩ : ∃ q, St.idx p L 0 = q := ⟨_, rfl⟩
 rw [hq]
 have HQ : Hid (St.idx p (L.drop 0) 0 = q) := Lib.hid hq
 obtain ⟨n, hn⟩ : ∃ n, L.length = n := ⟨_, rfl⟩
 have HN := Lib.hid hn
 rw [hn] at hl ⊢
 clear hr hq hn
 go_enter Tryz.func156, Tryz.ntmps156
 go_wp2_with fail
 go_loopg [8] n (fun gk i wr => ∃ j : Nat, j ≤ n ∧ gk = n - j ∧ i = .int .i64 j ∧ St.idx p (L.drop j) j = q ∧ Below w.heap.size w wr)
 case atStart => exact ⟨0, by omega, rfl, rfl, HQ.out, Below.refl _ _⟩
 case round =>
  obtain ⟨j, hj, rfl, rfl, hs, hB⟩ := hrel
  have HSC := Lib.hid hs; clear hs
  by_cases hlt : j < n
  ·obtain ⟨x, hx⟩ : ∃ x, L[j]? = some x := ⟨_, List.getElem?_eq_getElem (by rw [HN.out]; exact hlt)⟩
   obtain ⟨b, off, ha, hb, hcell⟩ := (HR.out.keep hB) (by rw [HN.out]; omega)
   (have c0 : wr.cell? ⟨b, off + j * 2, none⟩ = some (.string x.dig) := hcell j x hx 0 (.string x.dig) rfl) <;> (have c1 : wr.cell? ⟨b, off + j * 2 + 1, none⟩ = some (.int .i64 x.day) := hcell j x hx 1 (.int .i64 x.day) rfl)
   have HX := Lib.hid hx
   have HC := Lib.hid (HD.out wr x (List.mem_of_getElem? hx) hB)
   have hj0 : (0 : Int) ≤ (j : Int) := by omega
   have hj1 : (j : Int) < (n : Int) := by omega
   obtain ⟨bq, hbq⟩ : ∃ bq, p x = bq := ⟨_, rfl⟩
   rw [hbq] at HC
   have HBQ := Lib.hid hbq
   rw [ha]
   cases bq
   ·have HE := Lib.hid (St.idx_next HSC.out HX.out HBQ.out)
    clear hx hbq hcell
    go_wp2_with fail
    refine HC.out.mono ?_
    rintro e w4 ⟨rfl, hB4⟩
    go_wp2_with fail
    rw [← ha]
    go_roundg (n - (j + 1))
    case rel => exact ⟨j + 1, by omega, rfl, by go_num, HE.out, below_up hB hB4⟩
    case measure => omega
   ·have HE := Lib.hid (St.idx_here HSC.out HX.out HBQ.out)
    clear hx hbq hcell
    go_wp2_with fail
    refine HC.out.mono ?_
    rintro e w4 ⟨rfl, hB4⟩
    go_wp2_with fail
    go_ret
    exact ⟨ret_int HE.out, below_up hB hB4⟩
  ·obtain rfl : j = n := by omega
   have HE := HSC.out
   rw [← HN.out] at HE
   have HE2 := Lib.hid (St.idx_end HE)
   clear HE
   go_wp2_with fail
   go_ret
   exact ⟨ret_int HE2.out, hB⟩

theorem strF_del (fn : FuncId) (lb : Array Value) (eg : ∀ args w, (callFunc fn args).run Tryz.prog w = .ok (.enter fn args) w) (p : ByteArray → Bool) (B g n cap : Nat) (L : List ByteArray) (w : World) (h : OwnC w B 9 1 g n cap (St.eS.flat L)) (hn : n ≤ 1000000) (hL : L.length = n) (HD : DelOk St.eS (fun x => .string x) w g fn lb p L) :
  Calls Tryz.prog 87 #[.slice (some ⟨g, 0, none⟩) n cap, .func (.func fn) #[] lb] w fun e w' => e = .returned (.slice (some ⟨g, 0, none⟩) (L.filter (fun y => !p y)).length cap) ∧ OwnC w' B 9 1 g (L.filter (fun y => !p y)).length cap (St.eS.flat (L.filter (fun y => !p y))) ∧ w.grownBy w' (some g) := by
 have h0 := h
 obtain ⟨cur, hB, hc, hnc, hcm, hcs, htk, hl⟩ := h0
 have hcm2 : cap ≤ 9223372036854775807 := hcm
 have HIX := Lib.hid (strF_idx fn lb eg p L (some ⟨g, 0, none⟩) cap w (RowE.ofV (E := St.eS) (ca := cap) (.inr ⟨g, cap, by rw [hL], by rw [hL]; exact h⟩)) (by omega) (fun V x hx hb => HD V x hx (grown_below (grown_self w g) hb)))
 rw [hL] at HIX
 have HO := Lib.hid h; have HLN := Lib.hid hL; have HD := Lib.hid HD
 by_cases hneg : St.idx p L 0 < 0
 ·have hfl := St.del_none hneg
  have hi1 : St.idx p L 0 = -1 := St.idx_none (St.idx_neg.1 hneg)
  rw [hi1] at HIX
  rw [hfl]
  clear h hc hcs htk hl hfl hi1 hneg hL
  go_enter Tryz.func87, Tryz.ntmps87
  go_wp2_with (go_at_call 161; (with_reducible refine HIX.out.mono ?_); rintro e w3 ⟨rfl, hB3⟩)
  go_ret
  rw [HLN.out]
  exact ⟨rfl, HO.out.keep hB3, grown_below (grown_self w g) hB3⟩
 ·obtain ⟨j0, x0, hq, hx0, hp0, hbef⟩ := St.idx_some (p := p) (L := L) (i := 0) rfl (by omega)
  have hq : St.idx p L 0 = (j0 : Int) := by rw [hq]; simp
  have hj0n : j0 < n := by rw [← hL]; exact (List.getElem?_eq_some_iff.1 hx0).1
  rw [hq] at HIX
  have HST := Lib.hid (St.del_start hx0 hp0 hbef)
  have hne : ((j0 : Int) == -1) = false := by simp
  clear h hc hcs htk hl hq hneg hL hx0 hp0 hbef
  go_enter Tryz.func87, Tryz.ntmps87
  go_wp2_with (go_at_call 161; (with_reducible refine HIX.out.mono ?_); rintro e w3 ⟨rfl, hB3⟩)
  go_loopg [5, 6] (n - (j0 + 1)) (fun gk iv jv wr => ∃ (i j : Nat) (M : List ByteArray), iv = .int .i64 i ∧ jv = .int .i64 j ∧ i < j ∧ j ≤ n ∧ gk = n - j ∧ M.length = n ∧ M.take i = (L.take j).filter (fun y => !p y) ∧ M.drop j = L.drop j ∧ OwnC wr B 9 1 g n cap (St.eS.flat M) ∧ w.grownBy wr (some g))
  case atStart => exact ⟨j0, j0 + 1, L, rfl, by go_num, by omega, by omega, by omega, HLN.out, HST.out, rfl, HO.out.keep hB3, grown_below (grown_self w g) hB3⟩
  case round =>
   obtain ⟨i, j, M, rfl, rfl, hij, hjn, rfl, hM, htk, hdr, hown, hgw⟩ := hrel
   have HML := Lib.hid hM; have HTK := Lib.hid htk; have HDR := Lib.hid hdr; have HOW := Lib.hid hown; have HGW := Lib.hid hgw
   have hlt0 := hown.lt
   clear hM htk hdr hgw
   by_cases hlt : j < n
   ·obtain ⟨x, hx⟩ : ∃ x, M[j]? = some x := ⟨_, List.getElem?_eq_getElem (by rw [HML.out]; exact hlt)⟩
    have hxL : L[j]? = some x := by rw [← St.del_at HDR.out]; exact hx
    have HXL := Lib.hid hxL
    have hj0 : (0 : Int) ≤ (j : Int) := by omega
    have hj1 : (j : Int) < (n : Int) := by omega
    have hi0 : (0 : Int) ≤ (i : Int) := by omega
    have hi1 : (i : Int) < (n : Int) := by omega
    have HMM := Lib.hid (List.mem_of_getElem? hxL)
    have c0 : wr.cell? ⟨g, j, none⟩ = some (.string x) := (hown.cellAt j (by omega)).trans (by have := Enc.flat_get St.eS M j x hx 0 (by decide); simpa [St.eS] using this)
    have HC := Lib.hid (HD.out wr x HMM.out HGW.out)
    clear hx hxL hown
    obtain ⟨bq, hbq⟩ : ∃ bq, p x = bq := ⟨_, rfl⟩
    rw [hbq] at HC
    have HBQ := Lib.hid hbq
    clear hbq
    cases bq
    ·go_wp2_with fail
     refine HC.out.mono ?_
     rintro e w4 ⟨rfl, hB4⟩
     have how4 := HOW.out.keep hB4
     obtain ⟨cur4, _, hc4, _⟩ := id how4
     have hfz := fun o => frozen_of hc4 o
     have hce : ∃ v, w4.cell? ⟨g, i, none⟩ = some v := by
      have := how4.cellAt i (by omega)
      exact ⟨_, this.trans (List.getElem?_eq_getElem (by rw [St.eS.flat_len, HML.out]; simp [St.eS]; omega))⟩
     obtain ⟨v0, hv0⟩ := hce
     have hfz0 := hfz i
     go_wp2_with fail
     go_roundg (n - (j + 1))
     case rel =>
      refine ⟨i + 1, j + 1, M.set i x, by go_num, by go_num, by omega, by omega, rfl, by rw [List.length_set]; exact HML.out, St.del_move HTK.out (by rw [HML.out]; omega) HXL.out HBQ.out, St.del_far HDR.out hij, ?_, ?_⟩
      ·have h1 := how4.setCell (p := i) (by omega) (.string x)
       have h2 : St.eS.flat (M.set i x) = (St.eS.flat M).set i (.string x) := by
        have h3 := Enc.flat_set1 St.eS (.string x) 0 (by decide) (M[i]'(by rw [HML.out]; omega)) x rfl M i (List.getElem?_eq_getElem (by rw [HML.out]; omega))
        simpa [St.eS] using h3
       rw [h2]; exact h1
      ·exact grown_set (grown_below HGW.out hB4) _ _
     case measure => omega
    ·go_wp2_with fail
     refine HC.out.mono ?_
     rintro e w4 ⟨rfl, hB4⟩
     go_wp2_with fail
     go_roundg (n - (j + 1))
     case rel => exact ⟨i, j + 1, M, rfl, by go_num, by omega, by omega, rfl, HML.out, St.del_skip HTK.out HXL.out HBQ.out, St.del_drop HDR.out, HOW.out.keep hB4, grown_below HGW.out hB4⟩
     case measure => omega
   ·obtain rfl : j = n := by omega
    have hjn1 : ¬ ((j : Int) < (j : Int)) := by omega
    have hf : M.take i = L.filter (fun y => !p y) := by
     have h := HTK.out
     rw [← HLN.out, List.take_length] at h
     exact h
    have hfl : (L.filter (fun y => !p y)).length = i := by rw [← hf, List.length_take, HML.out]; omega
    obtain ⟨w5, hr5, ⟨zs, ho5⟩, hg5⟩ := own_clear (P := Tryz.prog) hown 25 Tryz.underlying25 (.string ByteArray.empty) (fun w => by kernel_rfl) rfl (by decide) (i * 1) (j - i) (by omega) (by omega)
    try simp only [Nat.mul_one] at hr5
    have hfm : (St.eS.flat M).take (i * 1) = St.eS.flat (M.take i) := Enc.flat_take St.eS M i
    have hfm2 : (St.eS.flat M).length = j * 1 := by rw [St.eS.flat_len, HML.out]; rfl
    have ho6 := own_less ho5 (m := i) (by omega)
    rw [List.take_left' (by rw [List.length_take, hfm2]; omega), hfm, hf] at ho6
    have HO6 := Lib.hid ho6; have HG6 := Lib.hid (HGW.out.trans hg5); have HFL := Lib.hid hfl
    have hb5 : ¬ cap = i := by omega
    have hi0 : (0 : Int) ≤ (i : Int) := by omega
    have hi1 : (i : Int) ≤ (j : Int) := by omega
    clear ho5 ho6 hg5 hown hfm hfm2 hf hfl
    go_wp2_with (at_builtin; refine Lib.wpList_clear_run _ rfl _ _ rfl _ rfl (hr5 _ _) ?_)
    go_ret
    rw [HFL.out]
    exact ⟨rfl, HO6.out, HG6.out⟩

theorem gonF_del (fn : FuncId) (lb : Array Value) (eg : ∀ args w, (callFunc fn args).run Tryz.prog w = .ok (.enter fn args) w) (p : Gon → Bool) (B g n cap : Nat) (L : List Gon) (w : World) (h : OwnC w B 112 2 g n cap (St.eG.flat L)) (hn : n ≤ 1000000) (hL : L.length = n) (HD : DelOk St.eG (fun x => .agg #[.string x.dig, .int .i64 x.day]) w g fn lb p L) :
  Calls Tryz.prog 68 #[.slice (some ⟨g, 0, none⟩) n cap, .func (.func fn) #[] lb] w fun e w' => e = .returned (.slice (some ⟨g, 0, none⟩) (L.filter (fun y => !p y)).length cap) ∧ OwnC w' B 112 2 g (L.filter (fun y => !p y)).length cap (St.eG.flat (L.filter (fun y => !p y))) ∧ w.grownBy w' (some g) := by
 have h0 := h
 obtain ⟨cur, hB, hc, hnc, hcm, hcs, htk, hl⟩ := h0
 have hcm2 : cap ≤ 9223372036854775807 := hcm
 have HIX := Lib.hid (gonF_idx fn lb eg p L (some ⟨g, 0, none⟩) cap w (RowE.ofV (E := St.eG) (ca := cap) (.inr ⟨g, cap, by rw [hL], by rw [hL]; exact h⟩)) (by omega) (fun V x hx hb => HD V x hx (grown_below (grown_self w g) hb)))
 rw [hL] at HIX
 have HO := Lib.hid h; have HLN := Lib.hid hL; have HD := Lib.hid HD
 by_cases hneg : St.idx p L 0 < 0
 ·have hfl := St.del_none hneg
  have hi1 : St.idx p L 0 = -1 := St.idx_none (St.idx_neg.1 hneg)
  rw [hi1] at HIX
  rw [hfl]
  clear h hc hcs htk hl hfl hi1 hneg hL
  go_enter Tryz.func68, Tryz.ntmps68
  go_wp2_with (go_at_call 156; (with_reducible refine HIX.out.mono ?_); rintro e w3 ⟨rfl, hB3⟩)
  go_ret
  rw [HLN.out]
  exact ⟨rfl, HO.out.keep hB3, grown_below (grown_self w g) hB3⟩
 ·obtain ⟨j0, x0, hq, hx0, hp0, hbef⟩ := St.idx_some (p := p) (L := L) (i := 0) rfl (by omega)
  have hq : St.idx p L 0 = (j0 : Int) := by rw [hq]; simp
  have hj0n : j0 < n := by rw [← hL]; exact (List.getElem?_eq_some_iff.1 hx0).1
  rw [hq] at HIX
  have HST := Lib.hid (St.del_start hx0 hp0 hbef)
  have hne : ((j0 : Int) == -1) = false := by simp
  clear h hc hcs htk hl hq hneg hL hx0 hp0 hbef
  go_enter Tryz.func68, Tryz.ntmps68
  go_wp2_with (go_at_call 156; (with_reducible refine HIX.out.mono ?_); rintro e w3 ⟨rfl, hB3⟩)
  go_loopg [5, 6] (n - (j0 + 1)) (fun gk iv jv wr => ∃ (i j : Nat) (M : List Gon), iv = .int .i64 i ∧ jv = .int .i64 j ∧ i < j ∧ j ≤ n ∧ gk = n - j ∧ M.length = n ∧ M.take i = (L.take j).filter (fun y => !p y) ∧ M.drop j = L.drop j ∧ OwnC wr B 112 2 g n cap (St.eG.flat M) ∧ w.grownBy wr (some g))
  case atStart => exact ⟨j0, j0 + 1, L, rfl, by go_num, by omega, by omega, by omega, HLN.out, HST.out, rfl, HO.out.keep hB3, grown_below (grown_self w g) hB3⟩
  case round =>
   obtain ⟨i, j, M, rfl, rfl, hij, hjn, rfl, hM, htk, hdr, hown, hgw⟩ := hrel
   have HML := Lib.hid hM; have HTK := Lib.hid htk; have HDR := Lib.hid hdr; have HOW := Lib.hid hown; have HGW := Lib.hid hgw
   have hlt0 := hown.lt
   clear hM htk hdr hgw
   by_cases hlt : j < n
   ·obtain ⟨x, hx⟩ : ∃ x, M[j]? = some x := ⟨_, List.getElem?_eq_getElem (by rw [HML.out]; exact hlt)⟩
    have hxL : L[j]? = some x := by rw [← St.del_at HDR.out]; exact hx
    have HXL := Lib.hid hxL
    have hj0 : (0 : Int) ≤ (j : Int) := by omega
    have hj1 : (j : Int) < (n : Int) := by omega
    have hi0 : (0 : Int) ≤ (i : Int) := by omega
    have hi1 : (i : Int) < (n : Int) := by omega
    have HMM := Lib.hid (List.mem_of_getElem? hxL)
    have c0 : wr.cell? ⟨g, j * 2, none⟩ = some (.string x.dig) := (hown.cellAt (j * 2) (by omega)).trans (by have := Enc.flat_get St.eG M j x hx 0 (by decide); simpa [St.eG] using this)
    have c1 : wr.cell? ⟨g, j * 2 + 1, none⟩ = some (.int .i64 x.day) := (hown.cellAt (j * 2 + 1) (by omega)).trans (by have := Enc.flat_get St.eG M j x hx 1 (by decide); simpa [St.eG] using this)
    obtain ⟨W3, hW3, hX3, hz3, hB3⟩ := box wr #[.string x.dig, .int .i64 x.day] 112
    have HW3 := Lib.hid hW3
    have HOW3 := Lib.hid (HOW.out.keep hB3)
    have HGW3 := Lib.hid (grown_below HGW.out hB3)
    have e0 : W3.cell? ⟨wr.heap.size, 0, none⟩ = some (.string x.dig) := (hX3.cell 0).trans rfl
    have e1 : W3.cell? ⟨wr.heap.size, 1, none⟩ = some (.int .i64 x.day) := (hX3.cell 1).trans rfl
    have HX : Hid (∀ V, Below W3.heap.size W3 V → V.cell? ⟨wr.heap.size, 0, none⟩ = some (.string x.dig) ∧ V.cell? ⟨wr.heap.size, 1, none⟩ = some (.int .i64 x.day)) := Lib.hid fun V hv => ⟨((hX3.keep hv).cell 0).trans rfl, ((hX3.keep hv).cell 1).trans rfl⟩
    have HC := Lib.hid (HD.out W3 x HMM.out HGW3.out)
    clear hx hxL hown hW3 hX3 hz3 hB3
    obtain ⟨bq, hbq⟩ : ∃ bq, p x = bq := ⟨_, rfl⟩
    rw [hbq] at HC
    have HBQ := Lib.hid hbq
    clear hbq
    cases bq
    ·go_upto_region 8 with fail
     rw [HW3.out]
     go_wp2_with fail
     refine HC.out.mono ?_
     rintro e w4 ⟨rfl, hB4⟩
     have how4 := HOW3.out.keep hB4
     obtain ⟨cur4, _, hc4, _⟩ := id how4
     have hfz := fun o => frozen_of hc4 o
     have hce : ∀ k, k < 2 → ∃ v, w4.cell? ⟨g, i * 2 + k, none⟩ = some v := fun k hk => by
      have := how4.cellAt (i * 2 + k) (by omega)
      exact ⟨_, this.trans (List.getElem?_eq_getElem (by rw [St.eG.flat_len, HML.out]; simp [St.eG]; omega))⟩
     obtain ⟨v0, hv0⟩ := hce 0 (by omega)
     have hv0 : w4.cell? ⟨g, i * 2, none⟩ = some v0 := hv0
     have hfz0 := hfz (i * 2)
     have how5 := how4.setCell (p := i * 2) (by omega) (.string x.dig)
     have how6 := how5.setCell (p := i * 2 + 1) (by omega) (.int .i64 x.day)
     have hv1 : ∃ v, (w4.setCell ⟨g, i * 2, none⟩ (.string x.dig)).cell? ⟨g, i * 2 + 1, none⟩ = some v := by
      have := how5.cellAt (i * 2 + 1) (by omega)
      exact ⟨_, this.trans (List.getElem?_eq_getElem (by rw [List.length_set, St.eG.flat_len, HML.out]; simp [St.eG]; omega))⟩
     obtain ⟨v1, hv1⟩ := hv1
     obtain ⟨cur5, _, hc5, _⟩ := id how5
     have hfz1 := frozen_of hc5 (i * 2 + 1)
     obtain ⟨x0, x1⟩ := HX.out _ hB4
     go_wp2_with fail
     go_roundg (n - (j + 1))
     case rel =>
      refine ⟨i + 1, j + 1, M.set i x, by go_num, by go_num, by omega, by omega, rfl, by rw [List.length_set]; exact HML.out, St.del_move HTK.out (by rw [HML.out]; omega) HXL.out HBQ.out, St.del_far HDR.out hij, ?_, ?_⟩
      ·have h1 : M[i]? = some (M[i]'(by rw [HML.out]; omega)) := List.getElem?_eq_getElem _
       generalize (M[i]'(by rw [HML.out]; omega)) = y at h1
       have h3 : St.eG.flat (M.set i ⟨x.dig, y.day⟩) = (St.eG.flat M).set (i * 2) (.string x.dig) := Enc.flat_set1 St.eG (.string x.dig) 0 (by decide) y ⟨x.dig, y.day⟩ rfl M i h1
       have h4 : St.eG.flat ((M.set i ⟨x.dig, y.day⟩).set i x) = (St.eG.flat (M.set i ⟨x.dig, y.day⟩)).set (i * 2 + 1) (.int .i64 x.day) := Enc.flat_set1 St.eG (.int .i64 x.day) 1 (by decide) ⟨x.dig, y.day⟩ x rfl _ i (by rw [List.getElem?_set_self (by rw [HML.out]; omega)])
       rw [List.set_set, h3] at h4
       rw [h4]; exact how6
      ·exact grown_set (grown_set (grown_below HGW3.out hB4) _ _) _ _
     case measure => omega
    ·go_upto_region 8 with fail
     rw [HW3.out]
     go_wp2_with fail
     refine HC.out.mono ?_
     rintro e w4 ⟨rfl, hB4⟩
     go_wp2_with fail
     go_roundg (n - (j + 1))
     case rel => exact ⟨i, j + 1, M, rfl, by go_num, by omega, by omega, rfl, HML.out, St.del_skip HTK.out HXL.out HBQ.out, St.del_drop HDR.out, HOW3.out.keep hB4, grown_below HGW3.out hB4⟩
     case measure => omega
   ·obtain rfl : j = n := by omega
    have hjn1 : ¬ ((j : Int) < (j : Int)) := by omega
    have hf : M.take i = L.filter (fun y => !p y) := by
     have h := HTK.out
     rw [← HLN.out, List.take_length] at h
     exact h
    have hfl : (L.filter (fun y => !p y)).length = i := by rw [← hf, List.length_take, HML.out]; omega
    obtain ⟨w5, hr5, ⟨zs, ho5⟩, hg5⟩ := own_clear (P := Tryz.prog) hown 26 Tryz.underlying26 (.agg #[.string ByteArray.empty, .int .i64 0]) (fun w => by kernel_rfl) rfl (by decide) (i * 2) (j - i) (by omega) (by omega)
    try simp only [Nat.mul_one] at hr5
    have hfm : (St.eG.flat M).take (i * 2) = St.eG.flat (M.take i) := Enc.flat_take St.eG M i
    have hfm2 : (St.eG.flat M).length = j * 2 := by rw [St.eG.flat_len, HML.out]; rfl
    have ho6 := own_less ho5 (m := i) (by omega)
    rw [List.take_left' (by rw [List.length_take, hfm2]; omega), hfm, hf] at ho6
    have HO6 := Lib.hid ho6; have HG6 := Lib.hid (HGW.out.trans hg5); have HFL := Lib.hid hfl
    have hb5 : ¬ cap = i := by omega
    have hi0 : (0 : Int) ≤ (i : Int) := by omega
    have hi1 : (i : Int) ≤ (j : Int) := by omega
    clear ho5 ho6 hg5 hown hfm hfm2 hf hfl
    go_wp2_with (at_builtin; refine Lib.wpList_clear_run _ rfl _ _ rfl _ rfl (hr5 _ _) ?_)
    go_ret
    rw [HFL.out]
    exact ⟨rfl, HO6.out, HG6.out⟩
end Go.Proofs.YthdiccdnggloiaaGreatDoor
