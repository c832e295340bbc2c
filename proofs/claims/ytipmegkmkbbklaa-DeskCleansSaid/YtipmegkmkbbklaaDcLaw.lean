/- The law DeskCleans, walked. -/
import Derived.Test.YtipmegkmkbbklaaDcTopW
import Derived.Test.YtipmegkmkbbklaaDcTopR
import Derived.Test.YtipmegkmkbbklaaDcRef
import Derived.Test.YtipmegkmkbbklaaFdSameR
import Derived.Deep.RegionHeld3
namespace Go.Proofs.Ytipmegkmkbbklaa
open Go.RowKit Go.Sort Go.Shelf
set_option linter.unusedVariables false
set_option linter.unusedSimpArgs false
/-- The photo of which all fields are 0. -/
def Ph.zero : Ph := ⟨0, 0, 0, 0, 0, 0, 0, ⟨#[]⟩, ⟨#[]⟩, none, 0, 0, fun _ => 0, fun _ => 0, none, 0, 0, fun _ => ⟨#[]⟩, none, 0, 0, fun _ => 0, false⟩
theorem Ph.zero_in (w : World) : Ph.zero.In w := ⟨fun h => absurd h (by show ¬ 0 < 0; omega), fun h => absurd h (by show ¬ 0 < 0; omega), fun h => absurd h (by show ¬ 0 < 0; omega)⟩
theorem Ph.zero_fits : Ph.zero.Fits := ⟨by show 0 ≤ _; omega, by show 0 ≤ _; omega, fun i h => absurd h (by show ¬ i < 0; omega), by show 0 ≤ _; omega, by show 0 ≤ _; omega, by show 0 ≤ _; omega⟩
theorem Ph.Like.fits {p r : Ph} {kw kp kt : Bool} (h : p.Like r kw kp kt) (hF : p.Fits) : r.Fits := by
  have h1 := hF.cap; have h2 := hF.wn; have h3 := hF.tn; have h4 := hF.pn
  refine ⟨by rw [h.file]; exact hF.file, ?_, ?_, ?_, ?_, ?_⟩
  · rw [h.cap]; split
    · exact h1
    · show 0 ≤ _; omega
  · intro i hi
    rw [h.tag]
    refine hF.tag i ?_
    rw [h.tn] at hi
    split at hi
    · exact hi
    · omega
  · rw [h.wn]; split <;> omega
  · rw [h.tn]; split <;> omega
  · rw [h.pn]; split <;> omega
set_option maxRecDepth 100000 in
set_option maxHeartbeats 4000000 in
theorem deskCleans_err (p : Ph) (hF : p.Fits) (key album : ByteArray) (hk : key.size ≤ 9223372036854775807) (pl pe wo : Bool) (F T : Int) (ha : Option Addr) (hn hc : Nat) (la lo ra : Nat → Int) (w : World) (hI : p.In w) (hA : Ars w ha hn la lo ra) (hnle : hn ≤ 9223372036854775807) (q : Int) (hq : Dc.err p key F T (Dc.homes la lo ra hn) = q) (hne : q ≠ 0) :
    Calls Try.prog 3 #[.agg #[.int .i64 p.id, .string p.file, .int .i64 p.mom, .int .i64 p.zone, .slice p.wa p.wn p.wc, .int .i64 p.W, .int .i64 p.H, .int .i64 p.turn, .int .i64 p.stars, .slice p.ta p.tn p.tc, .string p.cap, .slice p.pa p.pn p.pc, .bool p.hid], .agg #[.string key, .string album, .bool pl, .bool pe, .bool wo, .int .i64 F, .int .i64 T], .slice ha hn hc] w fun e w' => e = .returned (.bool true) ∧ Below w.heap.size w w' := by
  have HC1 := Lib.hid (fun V hV hA' => cleanW_err p hF key album hk pl pe wo F T ha hn hc la lo ra V hV hA' hnle q hq hne)
  have HC2 := Lib.hid (fun V hV hA' => cleanError_is p hF key album hk pl pe wo F T ha hn hc la lo ra V hV hA' hnle q hq)
  have HC3 : Hid (∀ V, Calls Try.prog 8 #[.agg #[.int .i64 0, .string ⟨#[]⟩, .int .i64 0, .int .i64 0, .slice none 0 0, .int .i64 0, .int .i64 0, .int .i64 0, .int .i64 0, .slice none 0 0, .string ⟨#[]⟩, .slice none 0 0, .bool false], .agg #[.int .i64 0, .string ⟨#[]⟩, .int .i64 0, .int .i64 0, .slice none 0 0, .int .i64 0, .int .i64 0, .int .i64 0, .int .i64 0, .slice none 0 0, .string ⟨#[]⟩, .slice none 0 0, .bool false]] V fun e w' => e = .returned (.bool true) ∧ Below V.heap.size V w') := Lib.hid fun V => by have := samePhotoR Ph.zero Ph.zero V (Ph.zero_in V) (Ph.zero_in V) Ph.zero_fits Ph.zero_fits; rw [Ph.same_self] at this; exact this
  have HIw := Lib.hid hI
  have HAw := Lib.hid hA
  obtain ⟨W1, hW1, hP, hz1, hB1⟩ := box w #[.int .i64 p.id, .string p.file, .int .i64 p.mom, .int .i64 p.zone, .slice p.wa p.wn p.wc, .int .i64 p.W, .int .i64 p.H, .int .i64 p.turn, .int .i64 p.stars, .slice p.ta p.tn p.tc, .string p.cap, .slice p.pa p.pn p.pc, .bool p.hid] 26
  obtain ⟨W2, hW2, hL, hz2, hB2⟩ := box W1 #[.string key, .string album, .bool pl, .bool pe, .bool wo, .int .i64 F, .int .i64 T] 28
  have HW1 := Lib.hid hW1; have HW2 := Lib.hid hW2
  have hP := hP.keep hB2
  rw [hz1] at hL
  have hB := below_up hB1 hB2
  obtain ⟨q0, q1, q2, q3, q4, q5, q6, q7, q8, q9, q10, q11, q12⟩ := hP.photo
  obtain ⟨l0, l1, l2, l3, l4, l5, l6⟩ := hL.link
  have hq1 : (q == 0) = false := by simpa using hne
  have hq2 : (q != 0) = true := by simpa using hne
  clear hW1 hW2 hz1 hz2 hI hA hF hq
  go_enter Try.func3, Try.ntmps3
  go_wp2_with fail
  rw [HW1.out, HW2.out]
  go_upto_region 2 with (go_at_call 6; (with_reducible refine (HC1.out _ (HIw.out.keep hB) (HAw.out.keep hB)).mono ?_); rintro e w4 ⟨rfl, hB4⟩; obtain ⟨W5, hW5, hZ, hz5, hB5⟩ := box w4 #[.int .i64 0, .string ⟨#[]⟩, .int .i64 0, .int .i64 0, .slice none 0 0, .int .i64 0, .int .i64 0, .int .i64 0, .int .i64 0, .slice none 0 0, .string ⟨#[]⟩, .slice none 0 0, .bool false] 26; have HW5 := Lib.hid hW5; clear hW5 hz5)
  rw [HW5.out]
  have hB45 := below_up hB4 hB5
  have hP := hP.keep hB45; have hL := hL.keep hB45
  have hB05 := below_up hB hB45
  clear q0 q1 q2 q3 q4 q5 q6 q7 q8 q9 q10 q11 q12 l0 l1 l2 l3 l4 l5 l6
  obtain ⟨q0, q1, q2, q3, q4, q5, q6, q7, q8, q9, q10, q11, q12⟩ := hP.photo
  obtain ⟨l0, l1, l2, l3, l4, l5, l6⟩ := hL.link
  obtain ⟨z0, z1, z2, z3, z4, z5, z6, z7, z8, z9, z10, z11, z12⟩ := hZ.photo
  go_wp2_with (first
    | (go_at_call 7; (with_reducible refine (HC2.out _ (HIw.out.keep hB05) (HAw.out.keep hB05)).mono ?_); rintro e w6 ⟨rfl, hB6⟩; obtain ⟨z0, z1, z2, z3, z4, z5, z6, z7, z8, z9, z10, z11, z12⟩ := (hZ.keep hB6).photo)
    | (go_at_call 8; refine (HC3.out _).mono ?_; rintro e w7 ⟨rfl, hB7⟩))
  go_ret
  exact ⟨ret_bool (by simp), below_up hB05 (below_up hB6 hB7)⟩
set_option maxRecDepth 100000 in
set_option maxHeartbeats 4000000 in
theorem deskCleans_ok (p : Ph) (hF : p.Fits) (key album : ByteArray) (hk : key.size ≤ 9223372036854775807) (pl pe wo : Bool) (F T : Int) (ha : Option Addr) (hn hc : Nat) (la lo ra : Nat → Int) (w : World) (hI : p.In w) (hA : Ars w ha hn la lo ra) (hnle : hn ≤ 9223372036854775807) (hq : Dc.err p key F T (Dc.homes la lo ra hn) = 0) :
    Calls Try.prog 3 #[.agg #[.int .i64 p.id, .string p.file, .int .i64 p.mom, .int .i64 p.zone, .slice p.wa p.wn p.wc, .int .i64 p.W, .int .i64 p.H, .int .i64 p.turn, .int .i64 p.stars, .slice p.ta p.tn p.tc, .string p.cap, .slice p.pa p.pn p.pc, .bool p.hid], .agg #[.string key, .string album, .bool pl, .bool pe, .bool wo, .int .i64 F, .int .i64 T], .slice ha hn hc] w fun e w' => e = .returned (.bool true) ∧ Below w.heap.size w w' := by
  obtain ⟨D, hD⟩ : ∃ D : Nat → Int, ∀ i, ∃ e : Int, ∀ w : World, Calls Try.prog 80 #[.agg #[.int .i64 (p.lat 0), .int .i64 (p.lon 0)], .agg #[.int .i64 (la i), .int .i64 (lo i)]] w fun r w' => r = .returned (.tuple #[.int .i64 (D i), .int .i64 e]) ∧ Below w.heap.size w w' :=
    ⟨fun i => Classical.choose (distW_is (p.lat 0) (p.lon 0) (la i) (lo i)), fun i => Classical.choose_spec (distW_is (p.lat 0) (p.lon 0) (la i) (lo i))⟩
  have hnear : ∀ i, i < hn → ∃ d e : Int, (∀ w : World, Calls Try.prog 80 #[.agg #[.int .i64 (p.lat 0), .int .i64 (p.lon 0)], .agg #[.int .i64 (la i), .int .i64 (lo i)]] w fun r w' => r = .returned (.tuple #[.int .i64 d, .int .i64 e]) ∧ Below w.heap.size w w') ∧ (fun i => decide (D i ≤ ra i)) i = decide (d ≤ ra i) :=
    fun i _ => by obtain ⟨e, he⟩ := hD i; exact ⟨D i, e, he, rfl⟩
  generalize hnf : (fun i => decide (D i ≤ ra i)) = near at hnear
  have h0 : p.err = 0 := by unfold Dc.err at hq; by_cases h : p.err = 0; exact h; rw [if_neg h] at hq; exact hq
  have HC1 := Lib.hid (fun V hV hA' => cleanW_ok p hF key album hk pl pe wo F T ha hn hc la lo ra near V hV hA' hnle hq hnear)
  have HC2 := Lib.hid (fun V hV hA' => cleanError_is p hF key album hk pl pe wo F T ha hn hc la lo ra V hV hA' hnle 0 hq)
  have HC3 := Lib.hid (fun V hV hA' => cleaned_is p (Ph.few_of h0) key album pl pe wo F T ha hn hc la lo ra near V hV hA' hnle hnear)
  have HIw := Lib.hid hI
  have HAw := Lib.hid hA
  obtain ⟨W1, hW1, hP, hz1, hB1⟩ := box w #[.int .i64 p.id, .string p.file, .int .i64 p.mom, .int .i64 p.zone, .slice p.wa p.wn p.wc, .int .i64 p.W, .int .i64 p.H, .int .i64 p.turn, .int .i64 p.stars, .slice p.ta p.tn p.tc, .string p.cap, .slice p.pa p.pn p.pc, .bool p.hid] 26
  obtain ⟨W2, hW2, hL, hz2, hB2⟩ := box W1 #[.string key, .string album, .bool pl, .bool pe, .bool wo, .int .i64 F, .int .i64 T] 28
  have HW1 := Lib.hid hW1; have HW2 := Lib.hid hW2
  have hP := hP.keep hB2
  rw [hz1] at hL
  have hB := below_up hB1 hB2
  obtain ⟨q0, q1, q2, q3, q4, q5, q6, q7, q8, q9, q10, q11, q12⟩ := hP.photo
  obtain ⟨l0, l1, l2, l3, l4, l5, l6⟩ := hL.link
  have HFT := Lib.hid hF
  clear hW1 hW2 hz1 hz2 hI hA hF hq hnear hD hnf h0
  go_enter Try.func3, Try.ntmps3
  go_wp2_with fail
  rw [HW1.out, HW2.out]
  go_upto_region 2 with (go_at_call 6; (with_reducible refine (HC1.out _ (HIw.out.keep hB) (HAw.out.keep hB)).mono ?_); rintro e w4 ⟨r, rfl, hIr, hLk, hB4⟩; obtain ⟨W5, hW5, hZ, hz5, hB5⟩ := box w4 #[.int .i64 r.id, .string r.file, .int .i64 r.mom, .int .i64 r.zone, .slice r.wa r.wn r.wc, .int .i64 r.W, .int .i64 r.H, .int .i64 r.turn, .int .i64 r.stars, .slice r.ta r.tn r.tc, .string r.cap, .slice r.pa r.pn r.pc, .bool r.hid] 26; have HW5 := Lib.hid hW5; clear hW5 hz5)
  rw [HW5.out]
  have hB45 := below_up hB4 hB5
  have hP := hP.keep hB45; have hL := hL.keep hB45
  have hB05 := below_up hB hB45
  have hIr := hIr.keep hB5
  clear q0 q1 q2 q3 q4 q5 q6 q7 q8 q9 q10 q11 q12 l0 l1 l2 l3 l4 l5 l6
  obtain ⟨q0, q1, q2, q3, q4, q5, q6, q7, q8, q9, q10, q11, q12⟩ := hP.photo
  obtain ⟨l0, l1, l2, l3, l4, l5, l6⟩ := hL.link
  have HLk := Lib.hid hLk; clear hLk
  have HIr := Lib.hid hIr
  go_wp2_with (go_at_call 7; (with_reducible refine (HC2.out _ (HIw.out.keep hB05) (HAw.out.keep hB05)).mono ?_); rintro e w6 ⟨rfl, hB6⟩)
  have hP := (hP.keep hB6).drew; have hL := (hL.keep hB6).drew; have hZ := (hZ.keep hB6).drew
  have hIr := HIr.out.keep hB6
  have hB06 := below_up hB05 hB6
  have hB06d := hB06.drew
  have hIr : r.In w6.drew := hIr.keep (Below.refl _ _).drew
  clear q0 q1 q2 q3 q4 q5 q6 q7 q8 q9 q10 q11 q12 l0 l1 l2 l3 l4 l5 l6
  obtain ⟨q0, q1, q2, q3, q4, q5, q6, q7, q8, q9, q10, q11, q12⟩ := hP.photo
  obtain ⟨l0, l1, l2, l3, l4, l5, l6⟩ := hL.link
  obtain ⟨z0, z1, z2, z3, z4, z5, z6, z7, z8, z9, z10, z11, z12⟩ := hZ.photo
  go_region_held3 (fun w' => w'.cell? ⟨w4.heap.size, 0, none⟩ = some (.int .i64 r.id) ∧ w'.cell? ⟨w4.heap.size, 1, none⟩ = some (.string r.file) ∧ w'.cell? ⟨w4.heap.size, 2, none⟩ = some (.int .i64 r.mom) ∧ w'.cell? ⟨w4.heap.size, 3, none⟩ = some (.int .i64 r.zone) ∧ w'.cell? ⟨w4.heap.size, 4, none⟩ = some (.slice r.wa r.wn r.wc) ∧ w'.cell? ⟨w4.heap.size, 5, none⟩ = some (.int .i64 r.W) ∧ w'.cell? ⟨w4.heap.size, 6, none⟩ = some (.int .i64 r.H) ∧ w'.cell? ⟨w4.heap.size, 7, none⟩ = some (.int .i64 r.turn) ∧ w'.cell? ⟨w4.heap.size, 8, none⟩ = some (.int .i64 r.stars) ∧ w'.cell? ⟨w4.heap.size, 9, none⟩ = some (.slice r.ta r.tn r.tc) ∧ w'.cell? ⟨w4.heap.size, 10, none⟩ = some (.string r.cap) ∧ w'.cell? ⟨w4.heap.size, 11, none⟩ = some (.slice r.pa r.pn r.pc) ∧ w'.cell? ⟨w4.heap.size, 12, none⟩ = some (.bool r.hid) ∧ w'.cell? ⟨w.heap.size, 0, none⟩ = some (.int .i64 p.id) ∧ w'.cell? ⟨w.heap.size, 1, none⟩ = some (.string p.file) ∧ w'.cell? ⟨w.heap.size, 2, none⟩ = some (.int .i64 p.mom) ∧ w'.cell? ⟨w.heap.size, 3, none⟩ = some (.int .i64 p.zone) ∧ w'.cell? ⟨w.heap.size, 4, none⟩ = some (.slice p.wa p.wn p.wc) ∧ w'.cell? ⟨w.heap.size, 5, none⟩ = some (.int .i64 p.W) ∧ w'.cell? ⟨w.heap.size, 6, none⟩ = some (.int .i64 p.H) ∧ w'.cell? ⟨w.heap.size, 7, none⟩ = some (.int .i64 p.turn) ∧ w'.cell? ⟨w.heap.size, 8, none⟩ = some (.int .i64 p.stars) ∧ w'.cell? ⟨w.heap.size, 9, none⟩ = some (.slice p.ta p.tn p.tc) ∧ w'.cell? ⟨w.heap.size, 10, none⟩ = some (.string p.cap) ∧ w'.cell? ⟨w.heap.size, 11, none⟩ = some (.slice p.pa p.pn p.pc) ∧ w'.cell? ⟨w.heap.size, 12, none⟩ = some (.bool p.hid) ∧ w'.cell? ⟨w.heap.size + 1, 0, none⟩ = some (.string key) ∧ w'.cell? ⟨w.heap.size + 1, 1, none⟩ = some (.string album) ∧ w'.cell? ⟨w.heap.size + 1, 2, none⟩ = some (.bool pl) ∧ w'.cell? ⟨w.heap.size + 1, 3, none⟩ = some (.bool pe) ∧ w'.cell? ⟨w.heap.size + 1, 4, none⟩ = some (.bool wo) ∧ w'.cell? ⟨w.heap.size + 1, 5, none⟩ = some (.int .i64 F) ∧ w'.cell? ⟨w.heap.size + 1, 6, none⟩ = some (.int .i64 T))
    (first
      | with_reducible exact ⟨z0, z1, z2, z3, z4, z5, z6, z7, z8, z9, z10, z11, z12, q0, q1, q2, q3, q4, q5, q6, q7, q8, q9, q10, q11, q12, l0, l1, l2, l3, l4, l5, l6⟩)
    (first
      | (go_at_call 9; (with_reducible refine (HC3.out _ (HIw.out.keep hB06d) (HAw.out.keep hB06d)).mono ?_); rintro e w7 ⟨s, rfl, hIs, hLs, hB7⟩; obtain ⟨z0, z1, z2, z3, z4, z5, z6, z7, z8, z9, z10, z11, z12⟩ := (hZ.keep hB7).photo; obtain ⟨q0, q1, q2, q3, q4, q5, q6, q7, q8, q9, q10, q11, q12⟩ := (hP.keep hB7).photo; obtain ⟨l0, l1, l2, l3, l4, l5, l6⟩ := (hL.keep hB7).link; have hZ := hZ.keep hB7; have hP := hP.keep hB7; have hL := hL.keep hB7; have hIr := hIr.keep hB7; have hB07 := below_up hB06d hB7; have HLs := Lib.hid hLs; clear hLs)
      | (go_at_call 8; (with_reducible refine (samePhotoR r s _ hIr hIs (HLk.out.fits HFT.out) (HLs.out.fits HFT.out)).mono ?_); rw [HLk.out.same HLs.out]; rintro e w8 ⟨rfl, hB8⟩; obtain ⟨z0, z1, z2, z3, z4, z5, z6, z7, z8, z9, z10, z11, z12⟩ := (hZ.keep hB8).photo; obtain ⟨q0, q1, q2, q3, q4, q5, q6, q7, q8, q9, q10, q11, q12⟩ := (hP.keep hB8).photo; obtain ⟨l0, l1, l2, l3, l4, l5, l6⟩ := (hL.keep hB8).link; have hB08 := below_up hB07 hB8))
  go_wp2_with fail
  go_ret
  exact ⟨ret_bool (by simp), hB08⟩
theorem deskCleans_walk (p : Ph) (hF : p.Fits) (key album : ByteArray) (hk : key.size ≤ 9223372036854775807) (pl pe wo : Bool) (F T : Int) (ha : Option Addr) (hn hc : Nat) (la lo ra : Nat → Int) (w : World) (hI : p.In w) (hA : Ars w ha hn la lo ra) (hnle : hn ≤ 9223372036854775807) :
    Calls Try.prog 3 #[.agg #[.int .i64 p.id, .string p.file, .int .i64 p.mom, .int .i64 p.zone, .slice p.wa p.wn p.wc, .int .i64 p.W, .int .i64 p.H, .int .i64 p.turn, .int .i64 p.stars, .slice p.ta p.tn p.tc, .string p.cap, .slice p.pa p.pn p.pc, .bool p.hid], .agg #[.string key, .string album, .bool pl, .bool pe, .bool wo, .int .i64 F, .int .i64 T], .slice ha hn hc] w fun e w' => e = .returned (.bool true) ∧ Below w.heap.size w w' := by
  by_cases h : Dc.err p key F T (Dc.homes la lo ra hn) = 0
  · exact deskCleans_ok p hF key album hk pl pe wo F T ha hn hc la lo ra w hI hA hnle h
  · exact deskCleans_err p hF key album hk pl pe wo F T ha hn hc la lo ra w hI hA hnle _ rfl h
end Go.Proofs.Ytipmegkmkbbklaa
