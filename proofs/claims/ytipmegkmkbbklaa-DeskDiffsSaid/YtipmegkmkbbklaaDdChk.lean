/- The error of a change, of both sides. -/
import Derived.Test.YtipmegkmkbbklaaDdMath
import Derived.Test.YtipmegkmkbbklaaIdsOf
import Derived.Test.YtipmegkmkbbklaaFdSames
import Derived.Test.YtipmegkmkbbklaaFdLib
import Derived.Deep.RegionHeld3
import Derived.Test.YtipmegkmkbbklaaFdErr
import Derived.Test.YtipmegkmkbbklaaOwnK
import Derived.Test.YtipmegkmkbbklaaPhRow
import Derived.Shelf.RegionOpenPlain
import Derived.Lib.Overlaps
import Derived.Lib.AppendZerosOnto
import Derived.Test.YtipmegkmkbbklaaCpyPh
import Derived.Deep.MidRow
namespace Go.Proofs.Ytipmegkmkbbklaa
open Go.RowKit Go.Sort Go.Shelf
set_option linter.unusedVariables false
theorem Phs.one {w : World} {b : Nat} {p : Ph} {t : TypeId} (h : Blk w b #[.int .i64 p.id, .string p.file, .int .i64 p.mom, .int .i64 p.zone, .slice p.wa p.wn p.wc, .int .i64 p.W, .int .i64 p.H, .int .i64 p.turn, .int .i64 p.stars, .slice p.ta p.tn p.tc, .string p.cap, .slice p.pa p.pn p.pc, .bool p.hid] t) (hI : p.In w) : Phs w (some ⟨b, 0, none⟩) 1 (fun _ => p) := by
  refine ⟨fun _ => ⟨b, 0, rfl, h.lt, fun i hi => ?_⟩, fun i _ => hI⟩
  obtain rfl : i = 0 := by omega
  exact h.photo
theorem eqRow_one (f : Nat → Bool) : Fd.eqRow 1 1 f = f 0 := by
  cases h : f 0
  · exact Fd.eqRow_no 0 (by omega) h
  · exact Fd.eqRow_yes fun i hi => by (have : i = 0 := by omega); subst this; exact h
theorem Blk.change {w : World} {b : Nat} {c0 c1 c2 c3 c4 c5 c6 c7 c8 c9 c10 c11 c12 c13 : Value} {t : TypeId} (h : Blk w b #[c0, c1, c2, c3, c4, c5, c6, c7, c8, c9, c10, c11, c12, c13] t) :
    w.cell? ⟨b, 0, none⟩ = some c0 ∧ w.cell? ⟨b, 1, none⟩ = some c1 ∧ w.cell? ⟨b, 2, none⟩ = some c2 ∧ w.cell? ⟨b, 3, none⟩ = some c3 ∧ w.cell? ⟨b, 4, none⟩ = some c4 ∧ w.cell? ⟨b, 5, none⟩ = some c5 ∧ w.cell? ⟨b, 6, none⟩ = some c6 ∧ w.cell? ⟨b, 7, none⟩ = some c7 ∧ w.cell? ⟨b, 8, none⟩ = some c8 ∧ w.cell? ⟨b, 9, none⟩ = some c9 ∧ w.cell? ⟨b, 10, none⟩ = some c10 ∧ w.cell? ⟨b, 11, none⟩ = some c11 ∧ w.cell? ⟨b, 12, none⟩ = some c12 ∧ w.cell? ⟨b, 13, none⟩ = some c13 := by
  simp only [h.cell]; exact ⟨rfl, rfl, rfl, rfl, rfl, rfl, rfl, rfl, rfl, rfl, rfl, rfl, rfl, rfl⟩
theorem Dd.only_in (id : Int) (w : World) : (Dd.only id).In w := ⟨fun h => absurd h (by show ¬ 0 < 0; omega), fun h => absurd h (by show ¬ 0 < 0; omega), fun h => absurd h (by show ¬ 0 < 0; omega)⟩
theorem Dd.only_fits (id : Int) : (Dd.only id).Fits := ⟨by show 0 ≤ _; omega, by show 0 ≤ _; omega, fun i h => absurd h (by show ¬ i < 0; omega), by show 0 ≤ _; omega, by show 0 ≤ _; omega, by show 0 ≤ _; omega⟩
theorem sameOne_is (p r : Ph) (b1 b2 : Nat) (t1 t2 : TypeId) (V : World) (h1 : Blk V b1 #[.int .i64 p.id, .string p.file, .int .i64 p.mom, .int .i64 p.zone, .slice p.wa p.wn p.wc, .int .i64 p.W, .int .i64 p.H, .int .i64 p.turn, .int .i64 p.stars, .slice p.ta p.tn p.tc, .string p.cap, .slice p.pa p.pn p.pc, .bool p.hid] t1) (h2 : Blk V b2 #[.int .i64 r.id, .string r.file, .int .i64 r.mom, .int .i64 r.zone, .slice r.wa r.wn r.wc, .int .i64 r.W, .int .i64 r.H, .int .i64 r.turn, .int .i64 r.stars, .slice r.ta r.tn r.tc, .string r.cap, .slice r.pa r.pn r.pc, .bool r.hid] t2) (hp : p.In V) (hr : r.In V) (hF : p.Fits) (hG : r.Fits) :
    Calls Try.prog 42 #[.slice (some ⟨b1, 0, none⟩) 1 1, .slice (some ⟨b2, 0, none⟩) 1 1] V fun e w' => e = .returned (.bool (p.same r)) ∧ Below V.heap.size V w' := by
  have := same_is (some ⟨b1, 0, none⟩) 1 1 (fun _ => p) (some ⟨b2, 0, none⟩) 1 1 (fun _ => r) V (Phs.one h1 hp) (Phs.one h2 hr) (fun _ _ => hF) (fun _ _ => hG) (by omega) (by omega)
  rw [eqRow_one] at this
  exact this
set_option maxRecDepth 100000 in
set_option maxHeartbeats 4000000 in
theorem checkChange_is (L : Dd.Lib) (d : Bool) (p : Ph) (a : Option Addr) (ca : Nat) (w : World) (hx : Phs w a L.length (Dd.at_ L)) (hp : p.In w) (hF : p.Fits) (hid : -9223372036854775808 ≤ p.id ∧ p.id ≤ 9223372036854775807) (hn : L.length ≤ 1000) (hR : Dd.Right L) (hs : Dd.Rise L) :
    Calls Try.prog 46 #[.slice a L.length ca, .agg #[.bool d, .int .i64 p.id, .string p.file, .int .i64 p.mom, .int .i64 p.zone, .slice p.wa p.wn p.wc, .int .i64 p.W, .int .i64 p.H, .int .i64 p.turn, .int .i64 p.stars, .slice p.ta p.tn p.tc, .string p.cap, .slice p.pa p.pn p.pc, .bool p.hid]] w fun e w' => e = .returned (.int .i64 (Dd.chk L d p)) ∧ Below w.heap.size w w' := by
  obtain ⟨W1, hW1, hC, hz1, hB1⟩ := box w #[.bool d, .int .i64 p.id, .string p.file, .int .i64 p.mom, .int .i64 p.zone, .slice p.wa p.wn p.wc, .int .i64 p.W, .int .i64 p.H, .int .i64 p.turn, .int .i64 p.stars, .slice p.ta p.tn p.tc, .string p.cap, .slice p.pa p.pn p.pc, .bool p.hid] 47
  have HW1 := Lib.hid hW1
  obtain ⟨l0, q0, q1, q2, q3, q4, q5, q6, q7, q8, q9, q10, q11, q12⟩ := hC.change
  clear hW1 hz1
  obtain ⟨h, hh⟩ : ∃ h, Dd.has L p.id = h := ⟨_, rfl⟩
  obtain ⟨s, hsm⟩ : ∃ s, p.same (Dd.only p.id) = s := ⟨_, rfl⟩
  obtain ⟨ep, hep⟩ : ∃ ep, p.err = ep := ⟨_, rfl⟩
  have HI : Hid (∀ V, Below w.heap.size w V → Calls Try.prog 41 #[.slice a L.length ca, .int .i64 p.id] V fun e w' => ∃ i : Nat, e = .returned (.tuple #[.int .i64 i, .bool h]) ∧ Below V.heap.size V w') :=
    Lib.hid (fun V hb => (indexOf_is L a ca p.id hid V (hx.keep hb) hn hR hs).mono (by rintro e w' ⟨i, rfl, _, _, _, hB⟩; exact ⟨i, by rw [hh], hB⟩))
  have HCP := Lib.hid (fun V (hb : Below w.heap.size w V) => checkPhoto_is p V (hp.keep hb) hF)
  have HSM := Lib.hid (fun V b1 b2 t1 t2 (h1 : Blk V b1 #[.int .i64 p.id, .string p.file, .int .i64 p.mom, .int .i64 p.zone, .slice p.wa p.wn p.wc, .int .i64 p.W, .int .i64 p.H, .int .i64 p.turn, .int .i64 p.stars, .slice p.ta p.tn p.tc, .string p.cap, .slice p.pa p.pn p.pc, .bool p.hid] t1) (h2 : Blk V b2 #[.int .i64 p.id, .string ⟨#[]⟩, .int .i64 0, .int .i64 0, .slice none 0 0, .int .i64 0, .int .i64 0, .int .i64 0, .int .i64 0, .slice none 0 0, .string ⟨#[]⟩, .slice none 0 0, .bool false] t2) (hb : Below w.heap.size w V) => sameOne_is p (Dd.only p.id) b1 b2 t1 t2 V h1 h2 (hp.keep hb) (Dd.only_in _ _) hF (Dd.only_fits _))
  rw [hsm] at HSM
  rw [hep] at HCP
  obtain ⟨q, hq⟩ : ∃ q, Dd.chk L d p = q := ⟨_, rfl⟩
  rw [hq]
  unfold Dd.chk at hq
  rw [hh, hsm, hep] at hq
  obtain ⟨n, hLn⟩ : ∃ n, L.length = n := ⟨_, rfl⟩
  rw [hLn] at hn hq HI ⊢
  clear hx hp hF hid hR hs hh hsm hLn hep
  cases d
  · rw [if_neg (by decide)] at hq
    by_cases e0 : ep = 0
    · subst e0
      rw [if_pos rfl] at hq
      cases h
      · by_cases hf : 1000 ≤ n
        · rw [if_pos ⟨rfl, hf⟩] at hq
          have HQ := Lib.hid hq; clear hq
          have hf' : (1000 : Int) ≤ (n : Int) := by omega
          -- : the end's world
          go_enter Try.func46, Try.ntmps46
          go_wp2_with fail
          rw [HW1.out]
          go_wp2_with (go_at_call 41; (with_reducible refine (HI.out _ hB1).mono ?_); rintro e w4 ⟨i, rfl, hB4⟩; have hB4w := below_up hB1 hB4; obtain ⟨l0, q0, q1, q2, q3, q4, q5, q6, q7, q8, q9, q10, q11, q12⟩ := (hC.keep hB4).change; have qa := ((hC.keep hB4).alloc (.cells #[.int .i64 p.id, .string p.file, .int .i64 p.mom, .int .i64 p.zone, .slice p.wa p.wn p.wc, .int .i64 p.W, .int .i64 p.H, .int .i64 p.turn, .int .i64 p.stars, .slice p.ta p.tn p.tc, .string p.cap, .slice p.pa p.pn p.pc, .bool p.hid] 26)).change.2.1)
          go_wp2_with (go_at_call 26; (with_reducible refine (HCP.out _ hB4w).mono ?_); rintro e w5 ⟨rfl, hB5⟩; have hB5w := below_up hB4w hB5)
          go_ret
          exact ⟨ret_int HQ.out, hB5w⟩
        · rw [if_neg (fun g => hf g.2)] at hq
          have HQ := Lib.hid hq; clear hq
          have hf' : ¬ (1000 : Int) ≤ (n : Int) := by omega
          -- : the end's world
          go_enter Try.func46, Try.ntmps46
          go_wp2_with fail
          rw [HW1.out]
          go_wp2_with (go_at_call 41; (with_reducible refine (HI.out _ hB1).mono ?_); rintro e w4 ⟨i, rfl, hB4⟩; have hB4w := below_up hB1 hB4; obtain ⟨l0, q0, q1, q2, q3, q4, q5, q6, q7, q8, q9, q10, q11, q12⟩ := (hC.keep hB4).change; have qa := ((hC.keep hB4).alloc (.cells #[.int .i64 p.id, .string p.file, .int .i64 p.mom, .int .i64 p.zone, .slice p.wa p.wn p.wc, .int .i64 p.W, .int .i64 p.H, .int .i64 p.turn, .int .i64 p.stars, .slice p.ta p.tn p.tc, .string p.cap, .slice p.pa p.pn p.pc, .bool p.hid] 26)).change.2.1)
          go_wp2_with (go_at_call 26; (with_reducible refine (HCP.out _ hB4w).mono ?_); rintro e w5 ⟨rfl, hB5⟩; have hB5w := below_up hB4w hB5)
          go_ret
          exact ⟨ret_int HQ.out, hB5w⟩
      · rw [if_neg (fun g => by cases g.1)] at hq
        have HQ := Lib.hid hq; clear hq
        -- : the end's world
        go_enter Try.func46, Try.ntmps46
        go_wp2_with fail
        rw [HW1.out]
        go_wp2_with (go_at_call 41; (with_reducible refine (HI.out _ hB1).mono ?_); rintro e w4 ⟨i, rfl, hB4⟩; have hB4w := below_up hB1 hB4; obtain ⟨l0, q0, q1, q2, q3, q4, q5, q6, q7, q8, q9, q10, q11, q12⟩ := (hC.keep hB4).change; have qa := ((hC.keep hB4).alloc (.cells #[.int .i64 p.id, .string p.file, .int .i64 p.mom, .int .i64 p.zone, .slice p.wa p.wn p.wc, .int .i64 p.W, .int .i64 p.H, .int .i64 p.turn, .int .i64 p.stars, .slice p.ta p.tn p.tc, .string p.cap, .slice p.pa p.pn p.pc, .bool p.hid] 26)).change.2.1)
        go_wp2_with (go_at_call 26; (with_reducible refine (HCP.out _ hB4w).mono ?_); rintro e w5 ⟨rfl, hB5⟩; have hB5w := below_up hB4w hB5)
        go_ret
        exact ⟨ret_int HQ.out, hB5w⟩
    · rw [if_neg e0] at hq
      have HQ := Lib.hid hq; clear hq
      have e1 : (ep != 0) = true := by simpa using e0
      -- : the end's world
      go_enter Try.func46, Try.ntmps46
      go_wp2_with fail
      rw [HW1.out]
      go_wp2_with (go_at_call 41; (with_reducible refine (HI.out _ hB1).mono ?_); rintro e w4 ⟨i, rfl, hB4⟩; have hB4w := below_up hB1 hB4; obtain ⟨l0, q0, q1, q2, q3, q4, q5, q6, q7, q8, q9, q10, q11, q12⟩ := (hC.keep hB4).change; have qa := ((hC.keep hB4).alloc (.cells #[.int .i64 p.id, .string p.file, .int .i64 p.mom, .int .i64 p.zone, .slice p.wa p.wn p.wc, .int .i64 p.W, .int .i64 p.H, .int .i64 p.turn, .int .i64 p.stars, .slice p.ta p.tn p.tc, .string p.cap, .slice p.pa p.pn p.pc, .bool p.hid] 26)).change.2.1)
      go_wp2_with (go_at_call 26; (with_reducible refine (HCP.out _ hB4w).mono ?_); rintro e w5 ⟨rfl, hB5⟩; have hB5w := below_up hB4w hB5)
      go_ret
      exact ⟨ret_int HQ.out, hB5w⟩
  · rw [if_pos rfl] at hq
    cases s
    · rw [if_neg (by decide)] at hq
      have HQ := Lib.hid hq; clear hq
      -- : the end's world
      go_enter Try.func46, Try.ntmps46
      go_wp2_with fail
      rw [HW1.out]
      go_wp2_with (go_at_call 41; (with_reducible refine (HI.out _ hB1).mono ?_); rintro e w4 ⟨i, rfl, hB4⟩; have hB4w := below_up hB1 hB4; obtain ⟨l0, q0, q1, q2, q3, q4, q5, q6, q7, q8, q9, q10, q11, q12⟩ := (hC.keep hB4).change; have qa := ((hC.keep hB4).alloc (.cells #[.int .i64 p.id, .string p.file, .int .i64 p.mom, .int .i64 p.zone, .slice p.wa p.wn p.wc, .int .i64 p.W, .int .i64 p.H, .int .i64 p.turn, .int .i64 p.stars, .slice p.ta p.tn p.tc, .string p.cap, .slice p.pa p.pn p.pc, .bool p.hid] 26)).change.2.1)
      go_wp2_with (go_at_call 42; ((with_reducible refine (HSM.out _ w4.heap.size (w4.heap.size + 1) 26 26 ((Blk.new w4 _ _).alloc _) (by have := Blk.new (w4.alloc (.cells #[.int .i64 p.id, .string p.file, .int .i64 p.mom, .int .i64 p.zone, .slice p.wa p.wn p.wc, .int .i64 p.W, .int .i64 p.H, .int .i64 p.turn, .int .i64 p.stars, .slice p.ta p.tn p.tc, .string p.cap, .slice p.pa p.pn p.pc, .bool p.hid] 26)) #[.int .i64 p.id, .string ⟨#[]⟩, .int .i64 0, .int .i64 0, .slice none 0 0, .int .i64 0, .int .i64 0, .int .i64 0, .int .i64 0, .slice none 0 0, .string ⟨#[]⟩, .slice none 0 0, .bool false] 26; simpa using this) (below_allocs (below_allocs hB4w _) _)).mono ?_); rintro e w5 ⟨rfl, hB5⟩; have hB5w := below_up (below_allocs (below_allocs hB4w _) _) hB5))
      go_ret
      exact ⟨ret_int (by rw [← HQ.out]), hB5w⟩
    · rw [if_pos rfl] at hq
      cases h
      · rw [if_neg (by decide)] at hq
        have HQ := Lib.hid hq; clear hq
        -- : the end's world
        go_enter Try.func46, Try.ntmps46
        go_wp2_with fail
        rw [HW1.out]
        go_wp2_with (go_at_call 41; (with_reducible refine (HI.out _ hB1).mono ?_); rintro e w4 ⟨i, rfl, hB4⟩; have hB4w := below_up hB1 hB4; obtain ⟨l0, q0, q1, q2, q3, q4, q5, q6, q7, q8, q9, q10, q11, q12⟩ := (hC.keep hB4).change; have qa := ((hC.keep hB4).alloc (.cells #[.int .i64 p.id, .string p.file, .int .i64 p.mom, .int .i64 p.zone, .slice p.wa p.wn p.wc, .int .i64 p.W, .int .i64 p.H, .int .i64 p.turn, .int .i64 p.stars, .slice p.ta p.tn p.tc, .string p.cap, .slice p.pa p.pn p.pc, .bool p.hid] 26)).change.2.1)
        go_wp2_with (go_at_call 42; ((with_reducible refine (HSM.out _ w4.heap.size (w4.heap.size + 1) 26 26 ((Blk.new w4 _ _).alloc _) (by have := Blk.new (w4.alloc (.cells #[.int .i64 p.id, .string p.file, .int .i64 p.mom, .int .i64 p.zone, .slice p.wa p.wn p.wc, .int .i64 p.W, .int .i64 p.H, .int .i64 p.turn, .int .i64 p.stars, .slice p.ta p.tn p.tc, .string p.cap, .slice p.pa p.pn p.pc, .bool p.hid] 26)) #[.int .i64 p.id, .string ⟨#[]⟩, .int .i64 0, .int .i64 0, .slice none 0 0, .int .i64 0, .int .i64 0, .int .i64 0, .int .i64 0, .slice none 0 0, .string ⟨#[]⟩, .slice none 0 0, .bool false] 26; simpa using this) (below_allocs (below_allocs hB4w _) _)).mono ?_); rintro e w5 ⟨rfl, hB5⟩; have hB5w := below_up (below_allocs (below_allocs hB4w _) _) hB5))
        go_ret
        exact ⟨ret_int (by rw [← HQ.out]), hB5w⟩
      · rw [if_pos rfl] at hq
        have HQ := Lib.hid hq; clear hq
        -- : the end's world
        go_enter Try.func46, Try.ntmps46
        go_wp2_with fail
        rw [HW1.out]
        go_wp2_with (go_at_call 41; (with_reducible refine (HI.out _ hB1).mono ?_); rintro e w4 ⟨i, rfl, hB4⟩; have hB4w := below_up hB1 hB4; obtain ⟨l0, q0, q1, q2, q3, q4, q5, q6, q7, q8, q9, q10, q11, q12⟩ := (hC.keep hB4).change; have qa := ((hC.keep hB4).alloc (.cells #[.int .i64 p.id, .string p.file, .int .i64 p.mom, .int .i64 p.zone, .slice p.wa p.wn p.wc, .int .i64 p.W, .int .i64 p.H, .int .i64 p.turn, .int .i64 p.stars, .slice p.ta p.tn p.tc, .string p.cap, .slice p.pa p.pn p.pc, .bool p.hid] 26)).change.2.1)
        go_wp2_with (go_at_call 42; ((with_reducible refine (HSM.out _ w4.heap.size (w4.heap.size + 1) 26 26 ((Blk.new w4 _ _).alloc _) (by have := Blk.new (w4.alloc (.cells #[.int .i64 p.id, .string p.file, .int .i64 p.mom, .int .i64 p.zone, .slice p.wa p.wn p.wc, .int .i64 p.W, .int .i64 p.H, .int .i64 p.turn, .int .i64 p.stars, .slice p.ta p.tn p.tc, .string p.cap, .slice p.pa p.pn p.pc, .bool p.hid] 26)) #[.int .i64 p.id, .string ⟨#[]⟩, .int .i64 0, .int .i64 0, .slice none 0 0, .int .i64 0, .int .i64 0, .int .i64 0, .int .i64 0, .slice none 0 0, .string ⟨#[]⟩, .slice none 0 0, .bool false] 26; simpa using this) (below_allocs (below_allocs hB4w _) _)).mono ?_); rintro e w5 ⟨rfl, hB5⟩; have hB5w := below_up (below_allocs (below_allocs hB4w _) _) hB5))
        go_ret
        exact ⟨ret_int (by rw [← HQ.out]), hB5w⟩
end Go.Proofs.Ytipmegkmkbbklaa
namespace Go.Proofs.Ytipmegkmkbbklaa
open Go.RowKit Go.Sort Go.Shelf
set_option linter.unusedVariables false
theorem Dd.has_ids (L : Dd.Lib) (id : Int) : Fd.hasB (fun i => (Fd.idsL (Dd.at_ L) L.length)[i]?.getD 0) L.length id = Dd.has L id := by
  have hg : ∀ i, i < L.length → (Fd.idsL (Dd.at_ L) L.length)[i]?.getD 0 = (Dd.at_ L i).id := fun i hi => by
    unfold Fd.idsL; rw [List.getElem?_map, List.getElem?_range hi]; rfl
  cases h : Dd.has L id
  · refine Fd.hasB_no fun i hi e => ?_
    rw [hg i hi] at e
    have : Dd.has L id = true := Dd.has_iff.2 ⟨_, Dd.at_mem hi, e⟩
    rw [h] at this; cases this
  · obtain ⟨q, hq, hqi⟩ := Dd.has_iff.1 h
    obtain ⟨i, hi, e⟩ := Dd.mem_at hq
    exact Fd.hasB_yes i hi (by rw [hg i hi, e]; exact hqi)
set_option maxRecDepth 100000 in
set_option maxHeartbeats 4000000 in
theorem putError_is (L : Dd.Lib) (p : Ph) (a : Option Addr) (ca : Nat) (w : World) (hx : Phs w a L.length (Dd.at_ L)) (hp : p.In w) (hF : p.Fits) (hn : L.length ≤ 1000) (hs : Dd.Rise L) :
    Calls Try.prog 90 #[.slice a L.length ca, .agg #[.int .i64 p.id, .string p.file, .int .i64 p.mom, .int .i64 p.zone, .slice p.wa p.wn p.wc, .int .i64 p.W, .int .i64 p.H, .int .i64 p.turn, .int .i64 p.stars, .slice p.ta p.tn p.tc, .string p.cap, .slice p.pa p.pn p.pc, .bool p.hid]] w fun e w' => e = .returned (.int .i64 (Dd.chk L false p)) ∧ Below w.heap.size w w' := by
  obtain ⟨W1, hW1, hP, hz1, hB1⟩ := box w #[.int .i64 p.id, .string p.file, .int .i64 p.mom, .int .i64 p.zone, .slice p.wa p.wn p.wc, .int .i64 p.W, .int .i64 p.H, .int .i64 p.turn, .int .i64 p.stars, .slice p.ta p.tn p.tc, .string p.cap, .slice p.pa p.pn p.pc, .bool p.hid] 26
  have HW1 := Lib.hid hW1
  obtain ⟨q0, q1, q2, q3, q4, q5, q6, q7, q8, q9, q10, q11, q12⟩ := hP.photo
  have HCP := Lib.hid (fun V (hb : Below w.heap.size w V) => photoError_is p V (hp.keep hb) hF)
  have HPUT := Lib.hid (fun V (hb : Below w.heap.size w V) => put_is L p a ca V (hx.keep hb) (hp.keep hb) (by omega))
  have hpl : (Dd.put L p).length = if Dd.has L p.id = true then L.length else L.length + 1 := by rw [← Dd.put_eq hs, Dd.patched_len hs]
  obtain ⟨ep, hep⟩ : ∃ ep, p.err = ep := ⟨_, rfl⟩
  obtain ⟨q, hq⟩ : ∃ q, Dd.chk L false p = q := ⟨_, rfl⟩
  rw [hq]
  unfold Dd.chk at hq
  rw [hep] at hq HCP
  rw [if_neg (by decide)] at hq
  obtain ⟨m, hm⟩ : ∃ m, (Dd.put L p).length = m := ⟨_, rfl⟩
  have hq2 : (if ep = 0 then (if 1000 < m then 12 else 0) else ep) = q := by
    rw [← hq]
    by_cases e0 : ep = 0
    · rw [if_pos e0, if_pos e0]
      rw [hpl] at hm
      cases hh : Dd.has L p.id
      · rw [hh, if_neg (by decide)] at hm
        by_cases hf : 1000 ≤ L.length
        · rw [if_pos (by omega), if_pos ⟨rfl, hf⟩]
        · rw [if_neg (by omega), if_neg (fun g => hf g.2)]
      · rw [hh, if_pos rfl] at hm
        rw [if_neg (by omega), if_neg (fun g => by cases g.1)]
    · rw [if_neg e0, if_neg e0]
  have HM := Lib.hid hm
  clear hW1 hz1 hx hp hF hs hpl hq hep hm
  generalize hLn : L.length = n at *
  by_cases e0 : ep = 0
  · subst e0
    rw [if_pos rfl] at hq2
    by_cases hf : 1000 < m
    · rw [if_pos hf] at hq2
      have HQ := Lib.hid hq2; clear hq2
      have hf' : (1000 : Int) < (m : Int) := by omega
      go_enter Try.func90, Try.ntmps90
      go_wp2_with fail
      rw [HW1.out]
      go_wp2_with (first
        | (go_at_call 20; (with_reducible refine (HCP.out _ hB1).mono ?_); rintro e w4 ⟨rfl, hB4⟩; have hB4w := below_up hB1 hB4; obtain ⟨q0, q1, q2, q3, q4, q5, q6, q7, q8, q9, q10, q11, q12⟩ := (hP.keep hB4).photo)
        | (go_at_call 52; (with_reducible refine (HPUT.out _ hB4w).mono ?_); rintro e w5 ⟨a5, c5, rfl, _, _, hr5, hB5⟩; rw [HM.out]))
      go_ret
      exact ⟨ret_int HQ.out, below_up hB4w hB5⟩
    · rw [if_neg hf] at hq2
      have HQ := Lib.hid hq2; clear hq2
      have hf' : ¬ (1000 : Int) < (m : Int) := by omega
      go_enter Try.func90, Try.ntmps90
      go_wp2_with fail
      rw [HW1.out]
      go_wp2_with (first
        | (go_at_call 20; (with_reducible refine (HCP.out _ hB1).mono ?_); rintro e w4 ⟨rfl, hB4⟩; have hB4w := below_up hB1 hB4; obtain ⟨q0, q1, q2, q3, q4, q5, q6, q7, q8, q9, q10, q11, q12⟩ := (hP.keep hB4).photo)
        | (go_at_call 52; (with_reducible refine (HPUT.out _ hB4w).mono ?_); rintro e w5 ⟨a5, c5, rfl, _, _, hr5, hB5⟩; rw [HM.out]))
      go_ret
      exact ⟨ret_int HQ.out, below_up hB4w hB5⟩
  · rw [if_neg e0] at hq2
    have HQ := Lib.hid hq2; clear hq2
    have e1 : (ep != 0) = true := by simpa using e0
    go_enter Try.func90, Try.ntmps90
    go_wp2_with fail
    rw [HW1.out]
    go_wp2_with (go_at_call 20; (with_reducible refine (HCP.out _ hB1).mono ?_); rintro e w4 ⟨rfl, hB4⟩)
    go_ret
    exact ⟨ret_int HQ.out, below_up hB1 hB4⟩
set_option maxRecDepth 100000 in
set_option maxHeartbeats 4000000 in
theorem changeError_is (L : Dd.Lib) (d : Bool) (p : Ph) (a : Option Addr) (ca : Nat) (w : World) (hx : Phs w a L.length (Dd.at_ L)) (hp : p.In w) (hF : p.Fits) (hn : L.length ≤ 1000) (hs : Dd.Rise L) :
    Calls Try.prog 50 #[.slice a L.length ca, .agg #[.bool d, .int .i64 p.id, .string p.file, .int .i64 p.mom, .int .i64 p.zone, .slice p.wa p.wn p.wc, .int .i64 p.W, .int .i64 p.H, .int .i64 p.turn, .int .i64 p.stars, .slice p.ta p.tn p.tc, .string p.cap, .slice p.pa p.pn p.pc, .bool p.hid]] w fun e w' => e = .returned (.int .i64 (Dd.chk L d p)) ∧ Below w.heap.size w w' := by
  obtain ⟨W1, hW1, hC, hz1, hB1⟩ := box w #[.bool d, .int .i64 p.id, .string p.file, .int .i64 p.mom, .int .i64 p.zone, .slice p.wa p.wn p.wc, .int .i64 p.W, .int .i64 p.H, .int .i64 p.turn, .int .i64 p.stars, .slice p.ta p.tn p.tc, .string p.cap, .slice p.pa p.pn p.pc, .bool p.hid] 47
  have HW1 := Lib.hid hW1
  obtain ⟨l0, q0, q1, q2, q3, q4, q5, q6, q7, q8, q9, q10, q11, q12⟩ := hC.change
  clear hW1 hz1
  have HPE := Lib.hid (fun V (hb : Below w.heap.size w V) => putError_is L p a ca V (hx.keep hb) (hp.keep hb) hF hn hs)
  have HSM := Lib.hid (fun V (hb : Below w.heap.size w V) => samePhotoR p (Dd.only p.id) V (hp.keep hb) (Dd.only_in _ _) hF (Dd.only_fits _))
  obtain ⟨h, hh⟩ : ∃ h, Dd.has L p.id = h := ⟨_, rfl⟩
  obtain ⟨s, hsm⟩ : ∃ s, p.same (Dd.only p.id) = s := ⟨_, rfl⟩
  rw [hsm] at HSM
  have HSM : Hid (∀ V, Below w.heap.size w V → Calls Try.prog 8 #[.agg #[.int .i64 p.id, .string p.file, .int .i64 p.mom, .int .i64 p.zone, .slice p.wa p.wn p.wc, .int .i64 p.W, .int .i64 p.H, .int .i64 p.turn, .int .i64 p.stars, .slice p.ta p.tn p.tc, .string p.cap, .slice p.pa p.pn p.pc, .bool p.hid], .agg #[.int .i64 p.id, .string ⟨#[]⟩, .int .i64 0, .int .i64 0, .slice none 0 0, .int .i64 0, .int .i64 0, .int .i64 0, .int .i64 0, .slice none 0 0, .string ⟨#[]⟩, .slice none 0 0, .bool false]] V fun e w' => e = .returned (.bool s) ∧ Below V.heap.size V w') := HSM
  have hil := Fd.idsL_len (Dd.at_ L) L.length
  have HID := Lib.hid (fun V (hb : Below w.heap.size w V) => idsR_is a L.length ca (Dd.at_ L) V (hx.keep hb) (by omega))
  have HHB := Lib.hid ((Dd.has_ids L p.id).trans hh)
  obtain ⟨q, hq⟩ : ∃ q, Dd.chk L d p = q := ⟨_, rfl⟩
  rw [hq]
  cases d
  · rw [hq] at HPE
    have HQ := Lib.hid hq
    clear hx hp hF hs hh hsm hil hq
    generalize hLn : L.length = n at *
    go_enter Try.func50, Try.ntmps50
    go_wp2_with fail
    rw [HW1.out]
    go_wp2_with (go_at_call 90; (with_reducible refine (HPE.out _ hB1).mono ?_); rintro e w4 ⟨rfl, hB4⟩)
    go_ret
    exact ⟨rfl, below_up hB1 hB4⟩
  · unfold Dd.chk at hq
    rw [hh, hsm, if_pos rfl] at hq
    obtain ⟨ids, hids⟩ : ∃ ids, Fd.idsL (Dd.at_ L) L.length = ids := ⟨_, rfl⟩
    rw [hids] at hil HID HHB
    clear hx hp hF hs hh hsm hids HPE
    generalize hLn : L.length = n at *
    have HIL := Lib.hid hil
    clear hil
    have HC := Lib.hid (fun V a (hr : RowL V a ids) ca => contains_is a ids.length ca (fun i => ids[i]?.getD 0) p.id V hr (by rw [HIL.out]; omega))
    rw [HIL.out] at HC
    have HC : Hid (∀ (V : World) (a : Option Addr), RowL V a ids → ∀ ca, Calls Try.prog 54 #[.slice a n ca, .int .i64 p.id] V fun e w' => e = .returned (.bool h) ∧ V = w') := Lib.hid (fun V a hr ca => by have := HC.out V a hr ca; rw [HHB.out] at this; exact this)
    cases s
    · rw [if_neg (by decide)] at hq
      have HQ := Lib.hid hq; clear hq
      go_enter Try.func50, Try.ntmps50
      go_wp2_with fail
      rw [HW1.out]
      go_wp2_with (go_at_call 8; (with_reducible refine (HSM.out _ hB1).mono ?_); rintro e w4 ⟨rfl, hB4⟩)
      go_ret
      exact ⟨ret_int (by rw [← HQ.out]), below_up hB1 hB4⟩
    · rw [if_pos rfl] at hq
      have HQ := Lib.hid hq; clear hq
      go_enter Try.func50, Try.ntmps50
      go_wp2_with fail
      rw [HW1.out]
      go_wp2_with (go_at_call 8; (with_reducible refine (HSM.out _ hB1).mono ?_); rintro e w4 ⟨rfl, hB4⟩)
      have hB4d := (below_up hB1 hB4).drew
      have hCd := (hC.keep hB4).drew
      obtain ⟨l0, q0, q1, q2, q3, q4, q5, q6, q7, q8, q9, q10, q11, q12⟩ := hCd.change
      go_region_held3 (fun w' => w'.cell? ⟨w.heap.size, 1, none⟩ = some (.int .i64 p.id))
        (first | with_reducible exact q0)
        (first
          | (go_at_call 24; (with_reducible refine (HID.out _ hB4d).mono ?_); rintro e w5 ⟨a5, c5, rfl, hr5, hB5⟩; have q0 := (hCd.keep hB5).change.2.1; rw [HIL.out])
          | (go_at_call 54; (with_reducible refine (HC.out _ _ hr5 _).mono ?_); rintro e w6 ⟨rfl, rfl⟩))
      cases h
      · go_wp2_with fail
        go_ret
        exact ⟨ret_int (by rw [← HQ.out]; rfl), below_up hB4d hB5⟩
      · go_wp2_with fail
        go_ret
        exact ⟨ret_int (by rw [← HQ.out]; rfl), below_up hB4d hB5⟩
end Go.Proofs.Ytipmegkmkbbklaa
namespace Go.Proofs.Ytipmegkmkbbklaa
open Go.RowKit Go.Sort Go.Shelf
set_option linter.unusedVariables false
-- slices.Delete of one element of an own row. [[]tintype/api.Photo,tintype/api.Photo]: type arguments; []api.Photo: the slice's type; api.Photo: the element's; infoPhoto: its info; .agg #[.int .i64 0, .string ByteArray.empty, .int .i64 0, .int .i64 0, .slice none 0 0, .int .i64 0, .int .i64 0, .int .i64 0, .int .i64 0, .slice none 0 0, .string ByteArray.empty, .slice none 0 0, .bool false]: its zero; 13: its cells; 168: its bytes; ph: name
set_option maxRecDepth 100000 in
set_option maxHeartbeats 2000000 in
theorem ph_del (B g m cap i : Nat) (xs : List Value) (w : World) (h : OwnC w B 26 13 g (m + 1) cap xs) (hi : i ≤ m) (hn : m ≤ 1000000) (h1 : ∀ v ∈ xs, v.oneCell' = true) :
    Calls Try.prog 47 #[.slice (some ⟨g, 0, none⟩) (m + 1) cap, .int .i64 i, .int .i64 ((i : Int) + 1)] w fun e w' => e = .returned (.slice (some ⟨g, 0, none⟩) m cap) ∧ OwnC w' B 26 13 g m cap (xs.take (i * 13) ++ xs.drop ((i + 1) * 13)) ∧ w.grownBy w' (some g) := by
  have HH0 := h
  obtain ⟨cur, hB, hc, hnc, hcm, hcs, htk, hl⟩ := HH0
  obtain ⟨i0, hi0, hz0, hz1, hz2⟩ := info_parts infoPhoto
  have hcm2 : cap ≤ 9223372036854775807 := hcm
  have hlt := h.lt.2
  have hne0 : ¬ ((i : Int) = (i : Int) + 1) := by omega
  have hne1 : ((i : Int) == (i : Int) + 1) = false := by simpa using hne0
  have hic : i ≤ cap := by omega
  have hb1 : (0 : Int) ≤ (i : Int) + 1 := by omega
  have hb2 : (i : Int) ≤ (i : Int) + 1 := by omega
  have hb3 : (i : Int) + 1 ≤ (m : Int) + 1 := by omega
  by_cases hce : cap = i + 1
  · obtain rfl : m = i := by omega
    subst hce
    -- [[]tintype/api.Photo,tintype/api.Photo]: type arguments; []api.Photo: the slice's type; api.Photo: the element's; .agg #[.int .i64 0, .string ByteArray.empty, .int .i64 0, .int .i64 0, .slice none 0 0, .int .i64 0, .int .i64 0, .int .i64 0, .int .i64 0, .slice none 0 0, .string ByteArray.empty, .slice none 0 0, .bool false]: zero; 13: cells; ⟨g, 0, none⟩: the source's place; 0: its elements; 0: its room; m: the place that goes
    have hsrc : ∀ j u, (xs.drop ((m + 1) * 13))[j]? = some u → w.drew.cell? ((⟨g, 0, none⟩ : Addr).add j) = some u := by
      intro j u hj
      rw [List.getElem?_drop] at hj
      have hjl := (List.getElem?_eq_some_iff.1 hj).1
      first
        | (exfalso; omega)
        | (rw [show (⟨g, (m + 1) * 13, none⟩ : Addr).add j = ⟨g, (m + 1) * 13 + j, none⟩ from by unfold Addr.add; split <;> simp_all]
           exact (h.cellAt ((m + 1) * 13 + j) (by omega)).trans hj)
    obtain ⟨w1, hr1, ho1, hg1⟩ := own_append (P := Try.prog) (w := w.drew) (own_less h (m := m) (by omega)) 37 i0 Try.underlying37 hi0 hz1 ⟨g, 0, none⟩ 0 (xs.drop ((m + 1) * 13)) (by rw [List.length_drop, hl]; omega) hsrc (fun v hv => h1 v (List.mem_of_mem_drop hv)) (by omega)
    have hn1 : m + 0 = m := by omega
    rw [hn1] at ho1 hr1
    obtain ⟨tl, htl, ho2⟩ := own_more ho1 (by omega)
    obtain ⟨w2, hr2, ⟨zs, ho3⟩, hg2⟩ := own_clear (P := Try.prog) ho2 37 Try.underlying37 (.agg #[.int .i64 0, .string ByteArray.empty, .int .i64 0, .int .i64 0, .slice none 0 0, .int .i64 0, .int .i64 0, .int .i64 0, .int .i64 0, .slice none 0 0, .string ByteArray.empty, .slice none 0 0, .bool false]) (fun w => by kernel_rfl) rfl (by decide) (m * 13) 1 (by omega) (by omega)
    have hl4 : (xs.take (m * 13) ++ xs.drop ((m + 1) * 13)).length = m * 13 := by obtain ⟨_, _, _, _, _, _, _, hq⟩ := ho1; exact hq
    rw [List.take_left' hl4] at ho3
    have ho4 := own_less ho3 (m := m) (by omega)
    rw [List.take_left' hl4] at ho4
    have HO := Lib.hid ho4
    have HG : Hid (w.grownBy w2 (some g)) := Lib.hid ⟨(hg1.trans hg2).os, (hg1.trans hg2).tape, (hg1.trans hg2).output, (hg1.trans hg2).size, (hg1.trans hg2).block⟩
    clear ho4 ho3 ho2 ho1 hg1 hg2 hsrc h1 hl4 hl htk hcs
    go_enter Try.func47, Try.ntmps47
    go_wp2_with fail
    go_region_law (refine step_append_run rfl _ _ _ _ rfl (.slice (some ⟨g, 0, none⟩) m _) (.slice (some ⟨g, 0, none⟩) 0 0) (by simp [Act.eval, Act.put]) (by simp [Act.eval, Act.put]) (hr1 _ _) ?_)
    go_wp2_with (at_builtin; refine wpList_clear_run _ rfl _ _ rfl _ rfl (hr2 _ _) ?_)
    go_ret
    exact ⟨rfl, HO.out, HG.out⟩
  · -- [[]tintype/api.Photo,tintype/api.Photo]: type arguments; []api.Photo: the slice's type; api.Photo: the element's; .agg #[.int .i64 0, .string ByteArray.empty, .int .i64 0, .int .i64 0, .slice none 0 0, .int .i64 0, .int .i64 0, .int .i64 0, .int .i64 0, .slice none 0 0, .string ByteArray.empty, .slice none 0 0, .bool false]: zero; 13: cells; ⟨g, (i + 1) * 13, none⟩: the source's place; (m - i): its elements; (cap - (i + 1)): its room; i: the place that goes
    have hsrc : ∀ j u, (xs.drop ((i + 1) * 13))[j]? = some u → w.drew.cell? ((⟨g, (i + 1) * 13, none⟩ : Addr).add j) = some u := by
      intro j u hj
      rw [List.getElem?_drop] at hj
      have hjl := (List.getElem?_eq_some_iff.1 hj).1
      first
        | (exfalso; omega)
        | (rw [show (⟨g, (i + 1) * 13, none⟩ : Addr).add j = ⟨g, (i + 1) * 13 + j, none⟩ from by unfold Addr.add; split <;> simp_all]
           exact (h.cellAt ((i + 1) * 13 + j) (by omega)).trans hj)
    obtain ⟨w1, hr1, ho1, hg1⟩ := own_append (P := Try.prog) (w := w.drew) (own_less h (m := i) (by omega)) 37 i0 Try.underlying37 hi0 hz1 ⟨g, (i + 1) * 13, none⟩ (m - i) (xs.drop ((i + 1) * 13)) (by rw [List.length_drop, hl]; omega) hsrc (fun v hv => h1 v (List.mem_of_mem_drop hv)) (by omega)
    have hn1 : i + (m - i) = m := by omega
    rw [hn1] at ho1 hr1
    obtain ⟨tl, htl, ho2⟩ := own_more ho1 (by omega)
    obtain ⟨w2, hr2, ⟨zs, ho3⟩, hg2⟩ := own_clear (P := Try.prog) ho2 37 Try.underlying37 (.agg #[.int .i64 0, .string ByteArray.empty, .int .i64 0, .int .i64 0, .slice none 0 0, .int .i64 0, .int .i64 0, .int .i64 0, .int .i64 0, .slice none 0 0, .string ByteArray.empty, .slice none 0 0, .bool false]) (fun w => by kernel_rfl) rfl (by decide) (m * 13) 1 (by omega) (by omega)
    have hl4 : (xs.take (i * 13) ++ xs.drop ((i + 1) * 13)).length = m * 13 := by obtain ⟨_, _, _, _, _, _, _, hq⟩ := ho1; exact hq
    rw [List.take_left' hl4] at ho3
    have ho4 := own_less ho3 (m := m) (by omega)
    rw [List.take_left' hl4] at ho4
    have HO := Lib.hid ho4
    have HG : Hid (w.grownBy w2 (some g)) := Lib.hid ⟨(hg1.trans hg2).os, (hg1.trans hg2).tape, (hg1.trans hg2).output, (hg1.trans hg2).size, (hg1.trans hg2).block⟩
    clear ho4 ho3 ho2 ho1 hg1 hg2 hsrc h1 hl4 hl htk hcs
    go_enter Try.func47, Try.ntmps47
    go_wp2_with fail
    go_region_law (refine step_append_run rfl _ _ _ _ rfl (.slice (some ⟨g, 0, none⟩) i _) (.slice (some ⟨g, (i + 1) * 13, none⟩) (m - i) (cap - (i + 1))) (by simp [Act.eval, Act.put]) (by simp [Act.eval, Act.put]) (hr1 _ _) ?_)
    go_wp2_with (at_builtin; refine wpList_clear_run _ rfl _ _ rfl _ rfl (hr2 _ _) ?_)
    go_ret
    exact ⟨rfl, HO.out, HG.out⟩
-- slices.Insert of one element into an own row. [[]tintype/api.Photo,tintype/api.Photo]: type arguments; []api.Photo: the slice's type; api.Photo: the element's; infoPhoto: its info; .agg #[.int .i64 0, .string ByteArray.empty, .int .i64 0, .int .i64 0, .slice none 0 0, .int .i64 0, .int .i64 0, .int .i64 0, .int .i64 0, .slice none 0 0, .string ByteArray.empty, .slice none 0 0, .bool false]: its zero; 13: its cells; 168: its bytes; ph: name; tintype/api.Photo: the element as slices.overlaps[..] names it
set_option maxRecDepth 100000 in
set_option maxHeartbeats 2000000 in
theorem ph_ins_grown (B n ca : Nat) (a : Option Addr) (xs ys : List Value) (w : World) (hnone : a = none → n = 0 ∧ ca = 0) (hlo : xs.length = n * 13) (holds : ∀ b, a = some b → ∀ j u, xs[j]? = some u → w.cell? (b.add j) = some u) (hcm : ca ≤ 9223372036854775807) (hfull : ca < n + 1) (hnc : n ≤ ca) (hB : B ≤ w.heap.size) (hn : n ≤ 1000000) (bv : Nat) (cv : Array Value) (tv : TypeId) (hbv : w.heap[bv]? = some (.cells cv tv (0, 0))) (hys : cv.toList = ys) (hy : ys.length = 13) (h1 : ∀ v ∈ ys, v.oneCell' = true) :
    Calls Try.prog 48 #[.slice a n ca, .int .i64 n, .slice (some ⟨bv, 0, none⟩) 1 1] w (OwnPost w B 26 13 (.slice a n ca) (n + 1) (xs ++ ys)) := by
  obtain ⟨i0, hi0, hz0, hz1, hz2⟩ := info_parts infoPhoto
  have HI0 := Lib.hid hi0; have HI1 := Lib.hid hz0; have HI2 := Lib.hid hz1; have HI3 := Lib.hid hz2
  have hsrc : ∀ j u, ys[j]? = some u → w.cell? ((⟨bv, 0, none⟩ : Addr).add j) = some u := by
    intro j u hj
    rw [show (⟨bv, 0, none⟩ : Addr).add j = ⟨bv, j, none⟩ from by unfold Addr.add; split <;> simp_all, World.cell?]
    simp only [hbv]
    rw [← hys] at hj
    simpa using hj
  have HS := Lib.hid hsrc; have HO := Lib.hid holds; have HL := Lib.hid hy; have H1 := Lib.hid h1; have HBB := Lib.hid hB; have HNN := Lib.hid hnone; have HLO := Lib.hid hlo
  obtain rfl : ca = n := by omega
  clear hi0 hz0 hz1 hz2 hsrc holds hy h1 hB hbv hys hnone hlo
  go_enter Try.func48, Try.ntmps48
  go_wp2_with (at_builtin; refine wpList_append_grows _ rfl _ _ 37 rfl 26 i0 (.agg #[.int .i64 0, .string ByteArray.empty, .int .i64 0, .int .i64 0, .slice none 0 0, .int .i64 0, .int .i64 0, .int .i64 0, .int .i64 0, .slice none 0 0, .string ByteArray.empty, .slice none 0 0, .bool false]) 13 168 Try.underlying37 HI0.out HI1.out HI2.out HI3.out rfl (by decide) a ca ca xs rfl HNN.out HLO.out HO.out ⟨bv, 0, none⟩ 1 1 ys rfl HL.out HS.out H1.out hfull (by unfold maxLen; omega) (by omega) ?_; intro v8 w8 hown8 hgrow8; obtain ⟨g8, cap8, rfl, hoc8⟩ : ∃ g8 cap8, v8 = .slice (some ⟨g8, 0, none⟩) (ca + 1) cap8 ∧ OwnC w8 w.heap.size 26 13 g8 (ca + 1) cap8 (xs ++ ys) := by { rcases OwnV.of_own hown8 with ⟨_, h0, _⟩ | h; exact absurd h0 (by omega); exact h })
  go_ret
  exact ⟨g8, cap8, rfl, hoc8.down HBB.out, ⟨hgrow8.os, hgrow8.tape, hgrow8.output, hgrow8.size, fun j hj _ => hgrow8.block j hj (by simp)⟩, .inr hoc8.lt.1⟩
set_option maxRecDepth 100000 in
set_option maxHeartbeats 2000000 in
theorem ph_ins_last (B g n cap : Nat) (xs ys : List Value) (w : World) (h : OwnC w B 26 13 g n cap xs) (hroom : n + 1 ≤ cap) (hn : n ≤ 1000000) (bv : Nat) (cv : Array Value) (tv : TypeId) (hbv : w.heap[bv]? = some (.cells cv tv (0, 0))) (hys : cv.toList = ys) (hy : ys.length = 13) (h1 : ∀ v ∈ ys, v.oneCell' = true) :
    Calls Try.prog 48 #[.slice (some ⟨g, 0, none⟩) n cap, .int .i64 n, .slice (some ⟨bv, 0, none⟩) 1 1] w (OwnPost w B 26 13 (.slice (some ⟨g, 0, none⟩) n cap) (n + 1) (xs ++ ys)) := by
  obtain ⟨i0, hi0, hz0, hz1, hz2⟩ := info_parts infoPhoto
  have hsrc : ∀ j u, ys[j]? = some u → w.cell? ((⟨bv, 0, none⟩ : Addr).add j) = some u := by
    intro j u hj
    rw [show (⟨bv, 0, none⟩ : Addr).add j = ⟨bv, j, none⟩ from by unfold Addr.add; split <;> simp_all, World.cell?]
    simp only [hbv]
    rw [← hys] at hj
    simpa using hj
  obtain ⟨w1, hr1, ho1, hg1⟩ := own_append (P := Try.prog) h 37 i0 Try.underlying37 hi0 hz1 ⟨bv, 0, none⟩ 1 ys (by rw [hy]) hsrc h1 hroom
  obtain ⟨_, _, _, hnc, hcm, _⟩ := h
  have hcm2 : cap ≤ 9223372036854775807 := hcm
  have hcn : ¬ cap = n := by omega
  have HO := Lib.hid ho1; have HG := Lib.hid hg1
  clear hi0 hz0 hz1 hz2 hsrc hy h1 hbv hys ho1 hg1
  go_enter Try.func48, Try.ntmps48
  go_wp2_with (at_builtin; refine Lib.wpList_append_run _ rfl _ _ _ _ rfl _ _ rfl rfl _ _ (hr1 _ _) ?_)
  go_ret
  exact ⟨g, cap, rfl, HO.out, HG.out, .inl rfl⟩
set_option maxRecDepth 100000 in
set_option maxHeartbeats 4000000 in
theorem ph_ins_room (B g n cap i : Nat) (xs ys : List Value) (w : World) (h : OwnC w B 26 13 g n cap xs) (hi : i < n) (hroom : n + 1 ≤ cap) (hn : n ≤ 1000000) (hx1 : ∀ v ∈ xs, v.oneCell' = true) (bv : Nat) (cv : Array Value) (tv : TypeId) (hbv : w.heap[bv]? = some (.cells cv tv (0, 0))) (hbg : bv ≠ g) (hys : cv.toList = ys) (hy : ys.length = 13) (h1 : ∀ v ∈ ys, v.oneCell' = true) :
    Calls Try.prog 48 #[.slice (some ⟨g, 0, none⟩) n cap, .int .i64 i, .slice (some ⟨bv, 0, none⟩) 1 1] w (OwnPost w B 26 13 (.slice (some ⟨g, 0, none⟩) n cap) (n + 1) (xs.take (i * 13) ++ ys ++ xs.drop (i * 13))) := by
  have HH0 := h
  obtain ⟨cur, hB, hc, hnc, hcm, hcs, htk, hl⟩ := HH0
  obtain ⟨i0, hi0, hz0, hz1, hz2⟩ := info_parts infoPhoto
  have hcm2 : cap ≤ 9223372036854775807 := hcm
  have hsz : (Try.prog.info? 26).map (·.size) = some 13 := by rw [hi0]; simp [hz1]
  obtain ⟨tail, htl, ho0⟩ := own_more h hroom
  have hdl : (xs.drop (i * 13)).length = (n - i) * 13 := by rw [List.length_drop, hl]; omega
  obtain ⟨w1, hr1, ho1, hg1⟩ := own_copy (P := Try.prog) (w := w.drew) ho0 37 37 Try.underlying37 hsz ((i + 1) * 13) (n - i) (cap - (i + 1)) ⟨g, i * 13, none⟩ (n + 1 - i) (cap - i) (xs.drop (i * 13)) (by rw [hdl]; congr 1; exact (Nat.min_eq_right (by omega)).symm)
    (fun j u hj => by
      rw [List.getElem?_drop] at hj
      have hjl := (List.getElem?_eq_some_iff.1 hj).1
      rw [show (⟨g, i * 13, none⟩ : Addr).add j = ⟨g, i * 13 + j, none⟩ from by unfold Addr.add; split <;> simp_all]
      exact (h.cellAt (i * 13 + j) (by omega)).trans hj)
    (by rw [hdl]; omega) (fun v hv => hx1 v (List.mem_of_mem_drop hv))
  have hbv1 : w1.heap[bv]? = some (.cells cv tv (0, 0)) := by
    rw [hg1.block bv (Array.getElem?_eq_some_iff.1 hbv).1 (by simpa using hbg)]; exact hbv
  obtain ⟨w2, hr2, ho2, hg2⟩ := own_copy (P := Try.prog) (w := w1) ho1 37 37 Try.underlying37 hsz (i * 13) (n + 1 - i) (cap - i) ⟨bv, 0, none⟩ 1 1 ys (by rw [hy, show Nat.min 1 (n + 1 - i) = 1 from Nat.min_eq_left (by omega)])
    (fun j u hj => by
      rw [show (⟨bv, 0, none⟩ : Addr).add j = ⟨bv, j, none⟩ from by unfold Addr.add; split <;> simp_all, World.cell?]
      simp only [hbv1]
      rw [← hys] at hj
      simpa using hj)
    (by rw [hy]; omega) h1
  rw [show (i + 1) * 13 = i * 13 + 13 by omega, ins_shift hl htl hy (by omega)] at ho2
  have hov : ∀ lb cb, (callFunc 88 #[.slice (some ⟨bv, 0, none⟩) 1 1, .slice (some ⟨g, (i + 1) * 13, none⟩) lb cb]).run Try.prog w = .ok (.value (.bool false)) w := fun lb cb => by
    rw [run_callFunc_extern Try.func88 (by kernel_rfl) (by kernel_rfl) (by kernel_rfl) (e := Extern.SlicesOverlaps.overlaps #[37, 37] #[4]) (by kernel_rfl),
      Lib.run_overlaps_apart w 37 4 26 Try.underlying37 13 (fun w => by kernel_rfl) ⟨bv, 0, none⟩ ⟨g, (i + 1) * 13, none⟩ 1 1 lb cb hbg tv 26 cv.size cur.size (shape_of hbv) (shape_of hc) (by omega) (frozen_of hbv 0) (frozen_of hbv cv.size)]
    rfl
  have HO := Lib.hid ho2
  have HG := Lib.hid (grown_up hg1 hg2)
  have hz2' : ¬ ((i : Int) = (n : Int)) := by omega
  have hz2b : ((i : Int) == (n : Int)) = false := by simpa using hz2'
  have hw1 : IntKind.i64.wrap ((n : Int) + 1) = (n : Int) + 1 := by rw [IntKind.wrap_i64]; omega
  have hw2 : IntKind.i64.wrap ((i : Int) + 1) = (i : Int) + 1 := by rw [IntKind.wrap_i64]; omega
  have hb0 : ¬ ((cap : Int) < (n : Int) + 1) := by omega
  have hb0' : ((n : Int) + 1 ≤ (cap : Int)) := by omega
  have hb1 : (0 : Int) ≤ (i : Int) + 1 := by omega
  have hb2 : (0 : Int) ≤ (n : Int) + 1 := by omega
  have hb3 : (i : Int) ≤ (n : Int) + 1 := by omega
  have hb4 : (i : Int) + 1 ≤ (n : Int) + 1 := by omega
  have hb5 : ¬ cap = i := by omega
  have hb6 : ¬ cap = i + 1 := by omega
  have hin : i ≤ n := by omega
  clear ho2 ho1 ho0 hg1 hg2 h1 hx1 hbv hbv1 hc hcs htk hl hdl htl hys hy h
  go_enter Try.func48, Try.ntmps48
  go_wp2_with (simp only [hov])
  go_region_law (refine step_copy_run rfl _ _ _ _ rfl (.slice (some ⟨g, (i + 1) * 13, none⟩) (n - i) (cap - (i + 1))) (.slice (some ⟨g, i * 13, none⟩) (n + 1 - i) (cap - i)) (by simp [Act.eval, Act.put]) (by simp [Act.eval, Act.put]) (hr1 _) ?_)
  go_wp2_with (at_builtin; refine wpList_copy_run _ rfl _ _ _ _ rfl _ _ rfl rfl (hr2 _) ?_)
  go_ret
  exact ⟨g, cap, rfl, HO.out, HG.out, .inl rfl⟩
-- as INSK: no room
set_option maxRecDepth 100000 in
set_option maxHeartbeats 4000000 in
theorem ph_ins_grow (B g n i : Nat) (xs ys : List Value) (w : World) (h : OwnC w B 26 13 g n n xs) (hi : i < n) (hn : n ≤ 1000000) (hx1 : ∀ v ∈ xs, v.oneCell' = true) (bv : Nat) (cv : Array Value) (tv : TypeId) (hbv : w.heap[bv]? = some (.cells cv tv (0, 0))) (hys : cv.toList = ys) (hy : ys.length = 13) (h1 : ∀ v ∈ ys, v.oneCell' = true) :
    Calls Try.prog 48 #[.slice (some ⟨g, 0, none⟩) n n, .int .i64 i, .slice (some ⟨bv, 0, none⟩) 1 1] w (OwnPost w B 26 13 (.slice (some ⟨g, 0, none⟩) n n) (n + 1) (xs.take (i * 13) ++ ys ++ xs.drop (i * 13))) := by
  have HH0 := h
  obtain ⟨cur, hB, hc, hnc, hcm, hcs, htk, hl⟩ := HH0
  obtain ⟨i0, hi0, hz0, hz1, hz2⟩ := info_parts infoPhoto
  have hgw := (Array.getElem?_eq_some_iff.1 hc).1
  have hbw := (Array.getElem?_eq_some_iff.1 hbv).1
  have hsz : (Try.prog.info? 26).map (·.size) = some 13 := by rw [hi0]; simp [hz1]
  have hcl : ∀ j u, xs[j]? = some u → w.cell? ⟨g, j, none⟩ = some u := fun j u hj => (h.cellAt j (by have := (List.getElem?_eq_some_iff.1 hj).1; omega)).trans hj
  have hik : i + (n + 1 - i) = n + 1 := by omega
  have hkk : (n : Int) + 1 - (i : Int) = ((n + 1 - i : Nat) : Int) := by omega
  have htl : (xs.take (i * 13)).length = i * 13 := by rw [List.length_take, hl]; omega
  have hold : (Builtin.firstCells i0.size i (.slice (some ⟨g, 0, none⟩) i n)).run Try.prog w.drew = .ok (xs.take (i * 13)).toArray w.drew := by
    rw [hz1]
    exact run_firstCells_some w.drew 13 i ⟨g, 0, none⟩ i n (xs.take (i * 13)) htl (fun j u hj => by
      rw [show (⟨g, 0, none⟩ : Addr).add j = ⟨g, j, none⟩ from by unfold Addr.add; split <;> simp_all]
      rw [List.getElem?_take] at hj
      split at hj
      · exact hcl j u hj
      · cases hj)
  have hrz := fun ty => Lib.run_append_grow_zeros w 37 3 ty 26 i0 (.agg #[.int .i64 0, .string ByteArray.empty, .int .i64 0, .int .i64 0, .slice none 0 0, .int .i64 0, .int .i64 0, .int .i64 0, .int .i64 0, .slice none 0 0, .string ByteArray.empty, .slice none 0 0, .bool false]) .i64 .i64 Try.underlying37 Try.underlying3 hi0 hz0 (some ⟨g, 0, none⟩) i n (xs.take (i * 13)) hold (n + 1 - i) (by omega) (by omega) (by omega) (by omega) (by rw [hz2]; omega) (by rw [hz2, hik]; exact growslice_fits (by omega) (by omega))
  rw [hik, ← hkk] at hrz
  have hGn : n + 1 ≤ grownCap w (n + 1) n 26 := grownCap_ge w _ _ _
  have hGm : grownCap w (n + 1) n 26 ≤ maxLen := grownCap_le_maxLen w _ _ _ (by unfold maxLen; omega)
  generalize grownCap w (n + 1) n 26 = G at hrz hGn hGm
  have hzl : (Builtin.zeroCells (Value.cells (.agg #[.int .i64 0, .string ByteArray.empty, .int .i64 0, .int .i64 0, .slice none 0 0, .int .i64 0, .int .i64 0, .int .i64 0, .int .i64 0, .slice none 0 0, .string ByteArray.empty, .slice none 0 0, .bool false])) (n + 1 - i)).toList.length = (n + 1 - i) * 13 := by
    rw [Array.length_toList]; simp [Builtin.zeroCells] <;> (first | rfl | exact Or.inl rfl)
  have hzl2 : (Builtin.zeroCells (Value.cells (.agg #[.int .i64 0, .string ByteArray.empty, .int .i64 0, .int .i64 0, .slice none 0 0, .int .i64 0, .int .i64 0, .int .i64 0, .int .i64 0, .slice none 0 0, .string ByteArray.empty, .slice none 0 0, .bool false])) (G - (n + 1))).toList.length = (G - (n + 1)) * 13 := by
    rw [Array.length_toList]; simp [Builtin.zeroCells] <;> (first | rfl | exact Or.inl rfl)
  obtain ⟨ROW, hROW⟩ : ∃ ROW : Array Value, (xs.take (i * 13)).toArray ++ Builtin.zeroCells (Value.cells (.agg #[.int .i64 0, .string ByteArray.empty, .int .i64 0, .int .i64 0, .slice none 0 0, .int .i64 0, .int .i64 0, .int .i64 0, .int .i64 0, .slice none 0 0, .string ByteArray.empty, .slice none 0 0, .bool false])) (n + 1 - i) ++ Builtin.zeroCells (Value.cells (.agg #[.int .i64 0, .string ByteArray.empty, .int .i64 0, .int .i64 0, .slice none 0 0, .int .i64 0, .int .i64 0, .int .i64 0, .int .i64 0, .slice none 0 0, .string ByteArray.empty, .slice none 0 0, .bool false])) (G - (n + 1)) = ROW := ⟨_, rfl⟩
  rw [hROW] at hrz
  have hRl : ROW.toList = xs.take (i * 13) ++ (Builtin.zeroCells (Value.cells (.agg #[.int .i64 0, .string ByteArray.empty, .int .i64 0, .int .i64 0, .slice none 0 0, .int .i64 0, .int .i64 0, .int .i64 0, .int .i64 0, .slice none 0 0, .string ByteArray.empty, .slice none 0 0, .bool false])) (n + 1 - i)).toList ++ (Builtin.zeroCells (Value.cells (.agg #[.int .i64 0, .string ByteArray.empty, .int .i64 0, .int .i64 0, .slice none 0 0, .int .i64 0, .int .i64 0, .int .i64 0, .int .i64 0, .slice none 0 0, .string ByteArray.empty, .slice none 0 0, .bool false])) (G - (n + 1))).toList := by rw [← hROW]; simp
  generalize (Builtin.zeroCells (Value.cells (.agg #[.int .i64 0, .string ByteArray.empty, .int .i64 0, .int .i64 0, .slice none 0 0, .int .i64 0, .int .i64 0, .int .i64 0, .int .i64 0, .slice none 0 0, .string ByteArray.empty, .slice none 0 0, .bool false])) (n + 1 - i)).toList = zs at hzl hRl
  generalize (Builtin.zeroCells (Value.cells (.agg #[.int .i64 0, .string ByteArray.empty, .int .i64 0, .int .i64 0, .slice none 0 0, .int .i64 0, .int .i64 0, .int .i64 0, .int .i64 0, .slice none 0 0, .string ByteArray.empty, .slice none 0 0, .bool false])) (G - (n + 1))).toList = zs2 at hzl2 hRl
  clear hROW
  obtain ⟨W1, hW1⟩ : ∃ W1, w.drew.alloc (.cells ROW 26) = W1 := ⟨_, rfl⟩
  rw [hW1] at hrz
  have hnew : W1.heap[w.heap.size]? = some (.cells ROW 26 (0, 0)) := by rw [← hW1]; exact heap_alloc_new w.drew _
  have hbl : ∀ b, b < w.heap.size → W1.heap[b]? = w.heap[b]? := fun b hb => by rw [← hW1]; exact Below.heap_alloc w.drew _ b hb
  have hs1 : W1.heap.size = w.heap.size + 1 := by rw [← hW1]; simp
  have hbs : W1.os = w.os ∧ W1.tape = w.tape ∧ W1.output = w.output := by rw [← hW1]; exact ⟨rfl, rfl, rfl⟩
  have ho0 : OwnC W1 B 26 13 w.heap.size (n + 1) G (xs.take (i * 13) ++ zs) := own_make (by omega) hnew hGn hGm (by rw [← Array.length_toList, hRl, List.length_append, List.length_append, htl, hzl, hzl2]; omega)
    (by rw [hRl]; exact List.take_left' (by rw [List.length_append, htl, hzl]; omega))
  obtain ⟨w2, hr1, ho1, hg1⟩ := own_copy (P := Try.prog) (w := W1) ho0 37 37 Try.underlying37 hsz (i * 13) (n + 1 - i) (G - i) ⟨bv, 0, none⟩ 1 1 ys (by rw [hy, show Nat.min 1 (n + 1 - i) = 1 from Nat.min_eq_left (by omega)])
    (fun j u hj => by
      rw [show (⟨bv, 0, none⟩ : Addr).add j = ⟨bv, j, none⟩ from by unfold Addr.add; split <;> simp_all, World.cell?]
      simp only [hbl bv hbw, hbv]
      rw [← hys] at hj
      simpa using hj)
    (by rw [hy]; omega) h1
  have hdl : (xs.drop (i * 13)).length = (n - i) * 13 := by rw [List.length_drop, hl]; omega
  have hg2w : w2.heap[g]? = w.heap[g]? := (hg1.block g (by omega) (by simp; omega)).trans (hbl g hgw)
  obtain ⟨w3, hr2, ho2, hg2⟩ := own_copy (P := Try.prog) (w := w2.drew) ho1 37 37 Try.underlying37 hsz ((i + 1) * 13) (n - i) (G - (i + 1)) ⟨g, i * 13, none⟩ (n - i) (n - i) (xs.drop (i * 13)) (by rw [hdl]; congr 1; exact (Nat.min_eq_left (Nat.le_refl _)).symm)
    (fun j u hj => by
      rw [List.getElem?_drop] at hj
      rw [show (⟨g, i * 13, none⟩ : Addr).add j = ⟨g, i * 13 + j, none⟩ from by unfold Addr.add; split <;> simp_all]
      have := hcl _ _ hj
      unfold World.cell? at this ⊢
      rw [show w2.drew.heap[g]? = w.heap[g]? from hg2w]
      exact this)
    (by rw [hdl]; omega) (fun v hv => hx1 v (List.mem_of_mem_drop hv))
  rw [show (i + 1) * 13 = i * 13 + 13 by omega, ins_grow (N := n * 13) hl (by rw [hzl]; omega) hy (by omega)] at ho2
  have HO := Lib.hid ho2
  have HG : Hid (w.grownBy w3 (some g)) := Lib.hid ⟨hg2.os.trans (hg1.os.trans hbs.1), hg2.tape.trans (hg1.tape.trans hbs.2.1), hg2.output.trans (hg1.output.trans hbs.2.2), by have := hg2.size; have h3 : w2.drew.heap.size = w2.heap.size := rfl; have := hg1.size; omega, fun b hb _ => (hg2.block b (by have h3 : w2.drew.heap.size = w2.heap.size := rfl; have := hg1.size; omega) (by simp; omega)).trans ((hg1.block b (by omega) (by simp; omega)).trans (hbl b hb))⟩
  have hGm2 : G ≤ 9223372036854775807 := hGm
  have hz2' : ¬ ((i : Int) = (n : Int)) := by omega
  have hz2b : ((i : Int) == (n : Int)) = false := by simpa using hz2'
  have hw1 : IntKind.i64.wrap ((n : Int) + 1) = (n : Int) + 1 := by rw [IntKind.wrap_i64]; omega
  have hw2 : IntKind.i64.wrap ((i : Int) + 1) = (i : Int) + 1 := by rw [IntKind.wrap_i64]; omega
  have hw3 : IntKind.i64.wrap ((n : Int) + 1 - (i : Int)) = (n : Int) + 1 - (i : Int) := by rw [IntKind.wrap_i64]; omega
  have hb1 : (0 : Int) ≤ (i : Int) + 1 := by omega
  have hb3 : (i : Int) ≤ (n : Int) + 1 := by omega
  have hb3' : (i : Int) ≤ (n : Int) := by omega
  have hb4 : (i : Int) + 1 ≤ (n : Int) + 1 := by omega
  have hb5 : ¬ G = i := by omega
  have hb6 : ¬ G = i + 1 := by omega
  have hb7 : ¬ n = i := by omega
  have hin : i ≤ n := by omega
  clear ho2 ho1 ho0 hg1 hg2 h1 hx1 hbv hc hcs htk hl hdl htl hys hy h hcl hold hkk hik hW1 hnew hbl hRl hzl hzl2 hs1 hbs hg2w
  go_enter Try.func48, Try.ntmps48
  go_wp2_with (first
    | (at_builtin; refine Lib.wpList_append_run _ rfl _ _ _ _ rfl _ _ rfl rfl _ _ (hrz _) ?_)
    | (at_builtin; refine wpList_copy_run _ rfl _ _ _ _ rfl _ _ rfl rfl (hr1 _) ?_))
  go_region_law (refine step_copy_run rfl _ _ _ _ rfl (.slice (some ⟨w.heap.size, (i + 1) * 13, none⟩) (n - i) (G - (i + 1))) (.slice (some ⟨g, i * 13, none⟩) (n - i) (n - i)) (by simp [Act.eval, Act.put]) (by simp [Act.eval, Act.put]) (hr2 _) ?_)
  go_wp2_with fail
  go_ret
  exact ⟨w.heap.size, G, rfl, HO.out, HG.out, .inr (Nat.le_refl _)⟩
/-- slices.Insert, whatever room there is. -/
theorem ph_ins (B n i : Nat) (v : Value) (xs ys : List Value) (w : World) (h : OwnV w B 26 13 v n xs) (hB : B ≤ w.heap.size) (hi : i ≤ n) (hn : n ≤ 1000000) (hx1 : ∀ v ∈ xs, v.oneCell' = true) (bv : Nat) (cv : Array Value) (tv : TypeId) (hbv : w.heap[bv]? = some (.cells cv tv (0, 0))) (hbg : v.ownBlock ≠ some bv) (hys : cv.toList = ys) (hy : ys.length = 13) (h1 : ∀ v ∈ ys, v.oneCell' = true) :
    Calls Try.prog 48 #[v, .int .i64 i, .slice (some ⟨bv, 0, none⟩) 1 1] w (OwnPost w B 26 13 v (n + 1) (xs.take (i * 13) ++ ys ++ xs.drop (i * 13))) := by
  have hl := h.len
  rcases Nat.eq_or_lt_of_le hi with rfl | hi
  · rw [List.take_of_length_le (by omega), List.drop_eq_nil_of_le (by omega), List.append_nil]
    rcases h with ⟨rfl, rfl, rfl⟩ | ⟨g, cap, rfl, hc⟩
    · exact ph_ins_grown B 0 0 none [] ys w (fun _ => ⟨rfl, rfl⟩) hl (fun b h => by cases h) (by omega) (by omega) (by omega) hB hn bv cv tv hbv hys hy h1
    · by_cases hr : i + 1 ≤ cap
      · exact ph_ins_last B g i cap xs ys w hc hr hn bv cv tv hbv hys hy h1
      · have hc2 := hc
        obtain ⟨_, _, _, hnc, hcm, _⟩ := hc2
        exact ph_ins_grown B i cap (some ⟨g, 0, none⟩) xs ys w (fun h => by cases h) hl (fun b h j u hj => by
          cases h
          rw [show (⟨g, 0, none⟩ : Addr).add j = ⟨g, j, none⟩ from by unfold Addr.add; split <;> simp_all]
          exact (hc.cellAt j (by have := (List.getElem?_eq_some_iff.1 hj).1; omega)).trans hj) hcm (by omega) hnc hB hn bv cv tv hbv hys hy h1
  · rcases h with ⟨_, h0, _⟩ | ⟨g, cap, rfl, hc⟩
    · omega
    · by_cases hr : n + 1 ≤ cap
      · exact ph_ins_room B g n cap i xs ys w hc hi hr hn hx1 bv cv tv hbv (fun e => hbg (by rw [e]; rfl)) hys hy h1
      · have hc2 := hc
        obtain ⟨_, _, _, hnc, _⟩ := hc2
        obtain rfl : cap = n := by omega
        exact ph_ins_grow B g cap i xs ys w hc hi hn hx1 bv cv tv hbv hys hy h1
end Go.Proofs.Ytipmegkmkbbklaa
namespace Go.Proofs.Ytipmegkmkbbklaa
open Go.RowKit Go.Sort Go.Shelf
set_option linter.unusedVariables false
theorem own_setCells {w : World} {B k g n cap : Nat} {e : TypeId} {xs : List Value} (h : OwnC w B e k g n cap xs) (p : Nat) (cs : List Value) (hf : p + cs.length ≤ n * k) (h1 : ∀ v ∈ cs, v.oneCell' = true) :
    OwnC (w.setCells g p cs) B e k g n cap (xs.take p ++ cs ++ xs.drop (p + cs.length)) ∧ w.grownBy (w.setCells g p cs) (some g) ∧ w.there g p cs.length := by
  obtain ⟨cur, hc, hl, ho, hg⟩ := own_setRow h p cs hf
  have hth : w.there g p cs.length := fun j hj => ⟨by rw [World.cell?]; simp only [hc]; rw [Array.getElem?_eq_getElem (by omega)]; rfl, frozen_of hc _⟩
  have e1 := run_storeCells_at (P := Try.prog) g p e cs 0 cur w hc (by omega) h1
  have e2 := run_storeCells_cells (P := Try.prog) g p cs 0 w (fun j hj => by rw [Nat.add_zero]; exact (hth j hj).1) (fun j hj => by rw [Nat.add_zero]; exact (hth j hj).2) h1
  rw [Nat.add_zero] at e1 e2
  have e3 := e2.symm.trans e1
  injection e3 with _ e3
  rw [e3]
  exact ⟨ho, hg, hth⟩
/-- None of the photo's rows lies in block b. -/
structure Ph.Off (p : Ph) (b : Nat) : Prop where
  w : 0 < p.wn → ∀ x, p.wa = some x → x.block ≠ b
  t : 0 < p.tn → ∀ x, p.ta = some x → x.block ≠ b
  p : 0 < p.pn → ∀ x, p.pa = some x → x.block ≠ b
/-- All of the photo's rows lie in new memory. -/
def Ph.New (p : Ph) (B : Nat) : Prop := NewK B p.wa p.wn ∧ NewK B p.ta p.tn ∧ NewK B p.pa p.pn
theorem Ph.Off.of_new {p : Ph} {B b : Nat} (h : p.New B) (hb : b < B) : p.Off b := by
  refine ⟨fun h0 x hx => ?_, fun h0 x hx => ?_, fun h0 x hx => ?_⟩
  · obtain ⟨g, hg, hB⟩ := h.1 h0; rw [hx] at hg; cases hg; show g ≠ b; omega
  · obtain ⟨g, hg, hB⟩ := h.2.1 h0; rw [hx] at hg; cases hg; show g ≠ b; omega
  · obtain ⟨g, hg, hB⟩ := h.2.2 h0; rw [hx] at hg; cases hg; show g ≠ b; omega
theorem Ph.Off.of_in {p : Ph} {w : World} {b : Nat} (h : p.In w) (hb : w.heap.size ≤ b) : p.Off b := by
  refine ⟨fun h0 x hx => ?_, fun h0 x hx => ?_, fun h0 x hx => ?_⟩
  · obtain ⟨g, off, hg, hB, _⟩ := h.places h0; rw [hx] at hg; cases hg; show g ≠ b; omega
  · obtain ⟨g, off, hg, hB, _⟩ := h.tags h0; rw [hx] at hg; cases hg; show g ≠ b; omega
  · obtain ⟨g, off, hg, hB, _⟩ := h.people h0; rw [hx] at hg; cases hg; show g ≠ b; omega
theorem Ph.In.grown {p : Ph} {w w' : World} {r : Option Nat} (h : p.In w) (hg : w.grownBy w' r) (ho : ∀ b, r = some b → p.Off b) : p.In w' := by
  refine ⟨fun h0 => ?_, fun h0 => ?_, fun h0 => ?_⟩
  · obtain ⟨b, off, ha, hb, hc⟩ := h.places h0
    have hne : some b ≠ r := fun e => (ho b e.symm).w h0 _ ha rfl
    exact ⟨b, off, ha, Nat.lt_of_lt_of_le hb hg.size, fun i hi => ⟨hg.cell (hc i hi).1 hne, hg.cell (hc i hi).2 hne⟩⟩
  · obtain ⟨b, off, ha, hb, hc⟩ := h.tags h0
    have hne : some b ≠ r := fun e => (ho b e.symm).t h0 _ ha rfl
    exact ⟨b, off, ha, Nat.lt_of_lt_of_le hb hg.size, fun i hi => hg.cell (hc i hi) hne⟩
  · obtain ⟨b, off, ha, hb, hc⟩ := h.people h0
    have hne : some b ≠ r := fun e => (ho b e.symm).p h0 _ ha rfl
    exact ⟨b, off, ha, Nat.lt_of_lt_of_le hb hg.size, fun i hi => hg.cell (hc i hi) hne⟩
/-- A slice of photos of the call's own. -/
structure OwnPh (w : World) (B : Nat) (v : Value) (L : List Ph) : Prop where
  own : OwnV w B 26 13 v L.length (Fd.phFlat L)
  each : ∀ p, p ∈ L → p.In w
  off : ∀ p, p ∈ L → ∀ b, v.ownBlock = some b → p.Off b
theorem OwnPh.keep {w w' : World} {B : Nat} {v : Value} {L : List Ph} (h : OwnPh w B v L) (hb : Below w.heap.size w w') : OwnPh w' B v L := ⟨h.own.keep hb, fun p hp => (h.each p hp).keep hb, h.off⟩
theorem OwnPh.row {w : World} {B : Nat} {v : Value} {L : List Ph} (h : OwnPh w B v L) : ∃ a ca, v = .slice a L.length ca ∧ L.length ≤ ca ∧ ca ≤ 9223372036854775807 ∧ Phs w a L.length (Dd.at_ L) := by
  rcases h.own with ⟨rfl, h0, _⟩ | ⟨g, cap, rfl, hc⟩
  · exact ⟨none, 0, by rw [h0], by omega, by omega, ⟨fun hn => by omega, fun i hi => by omega⟩⟩
  · obtain ⟨_, _, _, hn, hm, _⟩ := id hc
    refine ⟨_, _, rfl, hn, hm, ⟨fun h0 => ⟨g, 0, rfl, hc.lt.2, fun i hi => PhAt.of_cells fun j hj => ?_⟩, fun i hi => Ph.in_getD h.each i⟩⟩
    rw [Nat.zero_add, hc.cellAt (i * 13 + j) (by omega), Fd.phFlat_get L i hi j hj]; rfl
/-- The row is written on: w7 is the world just before. -/
theorem OwnPh.grow {w0 w7 w8 : World} {B g n cap : Nat} {v : Value} {L L' : List Ph} (h : OwnPh w0 B v L) (hB7 : Below w0.heap.size w0 w7) (hc : OwnC w8 B 26 13 g n cap (Fd.phFlat L')) (hn : n = L'.length) (hg : w7.grownBy w8 v.ownBlock) (hnew : NewOr w7 v.ownBlock g)
    (hmem : ∀ q, q ∈ L' → q ∈ L ∨ (q.In w7 ∧ q.New w0.heap.size)) : OwnPh w8 B (.slice (some ⟨g, 0, none⟩) n cap) L' := by
  subst hn
  have hlt := h.own.lt
  have key : ∀ q, q ∈ L' → q.In w7 ∧ (∀ b, v.ownBlock = some b → q.Off b) := by
    intro q hq
    rcases hmem q hq with h1 | h1
    · exact ⟨(h.each q h1).keep hB7, h.off q h1⟩
    · exact ⟨h1.1, fun b hb => Ph.Off.of_new h1.2 (hlt b hb).2⟩
  refine ⟨.inr ⟨g, cap, rfl, hc⟩, fun q hq => (key q hq).1.grown hg (key q hq).2, fun q hq b hb => ?_⟩
  cases hb
  rcases hnew with h1 | h1
  · exact (key q hq).2 g h1
  · exact Ph.Off.of_in (key q hq).1 h1
theorem Ph.few_of' {p : Ph} (h : p.err = 0) : p.Few := by
  unfold Ph.err at h
  split at h
  · split at h
    · split at h
      · split at h
        · omega
        · split at h
          · omega
          · split at h
            · unfold Ph.words at h
              split at h
              · omega
              · split at h
                · split at h
                  · omega
                  · split at h
                    · split at h
                      · omega
                      · exact ⟨by omega, by omega, by omega⟩
                    · omega
                · rename_i hne; exact absurd h hne
            · omega
      · omega
    · omega
  · omega
theorem Ph.core_moved (p : Ph) (a1 a2 a3 : Option Addr) : (p.moved a1 a2 a3).core = p.core := rfl
/-- CopyPhoto returns a photo that says the same, in new memory. -/
theorem copyPhoto_new (p : Ph) (hF : p.Few) (w : World) (hI : p.In w) : Calls Try.prog 43 #[.agg #[.int .i64 p.id, .string p.file, .int .i64 p.mom, .int .i64 p.zone, .slice p.wa p.wn p.wc, .int .i64 p.W, .int .i64 p.H, .int .i64 p.turn, .int .i64 p.stars, .slice p.ta p.tn p.tc, .string p.cap, .slice p.pa p.pn p.pc, .bool p.hid]] w fun e w' => ∃ r : Ph, e = .returned (.agg #[.int .i64 r.id, .string r.file, .int .i64 r.mom, .int .i64 r.zone, .slice r.wa r.wn r.wc, .int .i64 r.W, .int .i64 r.H, .int .i64 r.turn, .int .i64 r.stars, .slice r.ta r.tn r.tc, .string r.cap, .slice r.pa r.pn r.pc, .bool r.hid]) ∧ r.core = p.core ∧ r.In w' ∧ r.New w.heap.size ∧ Below w.heap.size w w' := by
  refine (copyPhoto_is p hF w hI).mono ?_
  rintro e w' ⟨a1, a2, a3, rfl, hI', hN, hB⟩
  exact ⟨p.moved a1 a2 a3, rfl, rfl, hI', hN, hB⟩
theorem below_gB {w0 w w' : World} {B : Nat} {r : Option Nat} (h : Below B w0 w) (hg : w.grownBy w' r) (hB : B ≤ w.heap.size) (hr : ∀ b, r = some b → B ≤ b) : Below B w0 w' := h.grown hg hB hr
theorem clipPh_is (a : Option Addr) (n ca : Nat) (w : World) (h : n ≤ ca) (hc : ca ≤ 9223372036854775807) : Calls Try.prog 49 #[.slice a n ca] w fun e w' => e = .returned (.slice a n n) ∧ w = w' := by
  go_enter Try.func49, Try.ntmps49
  go_wp2_with fail
  go_ret
  exact ⟨rfl, rfl⟩
theorem OwnPh.clip {w : World} {B n ca : Nat} {a : Option Addr} {L : List Ph} (h : OwnPh w B (.slice a n ca) L) : OwnPh w B (.slice a n n) L := by
  refine ⟨?_, h.each, fun p hp b hb => h.off p hp b ?_⟩
  · have h0 := h.own
    rcases h0 with ⟨e, h1, h2⟩ | ⟨g, cap, e, hc⟩
    · cases e; exact .inl ⟨rfl, h1, h2⟩
    · cases e; exact .inr ⟨g, _, rfl, hc.clip⟩
  · rw [← hb]; cases a <;> rfl
set_option maxRecDepth 100000 in
set_option maxHeartbeats 4000000 in
theorem copyPhotos_is (L : Dd.Lib) (a : Option Addr) (ca : Nat) (w : World) (hx : Phs w a L.length (Dd.at_ L)) (hn : L.length ≤ 1000000) (hF : ∀ p, p ∈ L → p.Few) :
    Calls Try.prog 45 #[.slice a L.length ca] w fun e w' => ∃ (v : Value) (M : Dd.Lib), e = .returned v ∧ Dd.cores M = Dd.cores L ∧ OwnPh w' w.heap.size v M ∧ Below w.heap.size w w' := by
  obtain ⟨i0, hi0, hy0, hy1, hy2⟩ := info_parts infoPhoto
  have HI0 := Lib.hid hi0; have HI1 := Lib.hid hy0; have HI2 := Lib.hid hy1; have HI3 := Lib.hid hy2
  clear hi0 hy0 hy1 hy2
  have HX := Lib.hid hx
  have HT := Lib.hid (fun j (h : j < L.length) => Dd.take_at (L := L) h)
  have HFW := Lib.hid (fun j (h : j < L.length) => hF _ (Dd.at_mem (L := L) h))
  obtain ⟨n, hLn⟩ : ∃ n, L.length = n := ⟨_, rfl⟩
  rw [hLn] at hn ⊢
  have HLN := Lib.hid hLn
  clear hx hLn hF
  go_enter Try.func45, Try.ntmps45
  go_wp2_with fail
  go_loopg [3, 8] n (fun gk v i wr => ∃ (j : Nat) (M : Dd.Lib), j ≤ n ∧ gk = n - j ∧ i = .int .i64 j ∧ M.length = j ∧ Dd.cores M = Dd.cores (L.take j) ∧ wr.ownsRow w.heap.size 26 13 v j (Fd.phFlat M) ∧ OwnPh wr w.heap.size v M ∧ Below w.heap.size w wr)
  case atStart => exact ⟨0, [], by omega, rfl, rfl, rfl, rfl, World.ownsRow_nil _ _ _ _, ⟨.inl ⟨rfl, rfl, rfl⟩, fun p h => by simp at h, fun p h => by simp at h⟩, Below.refl _ _⟩
  case round =>
    obtain ⟨j, M, hj, rfl, rfl, hml, hmc, hown, hph, hB⟩ := hrel
    have HPH := Lib.hid hph; have HML := Lib.hid hml; have HMC := Lib.hid hmc
    have hsz := hB.size
    clear hph hml hmc
    by_cases hlt : j < n
    · have HXr := HX.out.keep hB
      obtain ⟨b, off, rfl, hb, hcell⟩ := HXr.row (by rw [HLN.out]; omega)
      obtain ⟨q0, q1, q2, q3, q4, q5, q6, q7, q8, q9, q10, q11, q12⟩ := hcell j (by rw [HLN.out]; exact hlt)
      have HTJ := Lib.hid (HT.out j (by rw [HLN.out]; exact hlt))
      have hIy := HXr.each j (by rw [HLN.out]; exact hlt)
      have hFy := HFW.out j (by rw [HLN.out]; exact hlt)
      clear hcell HXr
      generalize Dd.at_ L j = y at *
      obtain ⟨W4, hW4, hP, hz4, hB4⟩ := box wr #[.int .i64 y.id, .string y.file, .int .i64 y.mom, .int .i64 y.zone, .slice y.wa y.wn y.wc, .int .i64 y.W, .int .i64 y.H, .int .i64 y.turn, .int .i64 y.stars, .slice y.ta y.tn y.tc, .string y.cap, .slice y.pa y.pn y.pc, .bool y.hid] 26
      have HW4 := Lib.hid hW4
      have hB04 := below_up hB hB4
      have HC := Lib.hid (copyPhoto_new y hFy W4 (hIy.keep hB4))
      have HOWN := Lib.hid (own_keepH hown hB4)
      have HOV := Lib.hid hown
      clear hW4 hown hz4 hIy hFy
      obtain ⟨m0, m1, m2, m3, m4, m5, m6, m7, m8, m9, m10, m11, m12⟩ := hP.photo
      go_upto_region 5 with fail
      rw [HW4.out]
      clear q0 q1 q2 q3 q4 q5 q6 q7 q8 q9 q10 q11 q12
      go_wp2_with (first
        | (go_at_call 43; (with_reducible refine HC.out.mono ?_); rintro e w5 ⟨r, rfl, hcr, hIr, hNr, hB5⟩; have HCR := Lib.hid hcr; have HIR := Lib.hid hIr; have HNR := Lib.hid hNr; clear hcr hIr hNr; have hB45 := below_up hB4 hB5; have hB05 := below_up hB hB45; have hsz5 := hB05.size; have HOWN5 := Lib.hid (own_keepH HOWN.out hB5))
        | (at_builtin; refine wpList_append_own2 _ rfl _ _ 37 rfl w.heap.size 26 i0 (.agg #[.int .i64 0, .string ByteArray.empty, .int .i64 0, .int .i64 0, .slice none 0 0, .int .i64 0, .int .i64 0, .int .i64 0, .int .i64 0, .slice none 0 0, .string ByteArray.empty, .slice none 0 0, .bool false]) 13 168 Try.underlying37 HI0.out HI1.out HI2.out HI3.out rfl (by decide) _ _ _ rfl (HOWN5.out.alloc _) ⟨w5.heap.size, 0, none⟩ 1 1 (Fd.phCells r) rfl (by decide) rfl (cell_ph_new _ _ _) (phCells_one _) (by unfold maxLen; omega) (by omega) (by simp; omega) ?_; intro g8 cap8 w8 hown8 hgrow8 hnew8))
      have HOWN8 := Lib.hid hown8
      have hB8 := (below_allocs hB05 (.cells #[.int .i64 r.id, .string r.file, .int .i64 r.mom, .int .i64 r.zone, .slice r.wa r.wn r.wc, .int .i64 r.W, .int .i64 r.H, .int .i64 r.turn, .int .i64 r.stars, .slice r.ta r.tn r.tc, .string r.cap, .slice r.pa r.pn r.pc, .bool r.hid] 26)).grown hgrow8 (by simp; omega) (fun k e => (HOWN5.out.lt k e).1)
      have hfl : Fd.phFlat (M ++ [r]) = Fd.phFlat M ++ Fd.phCells r := Fd.phFlat_snoc M r
      have HPH8 : Hid (OwnPh w8 w.heap.size (.slice (some ⟨g8, 0, none⟩) (j + 1) cap8) (M ++ [r])) := Lib.hid (HPH.out.grow (below_allocs hB45 _) (OwnC.of_own (by rw [hfl]; exact hown8)) (by rw [List.length_append, HML.out]; rfl) hgrow8 hnew8 (fun q hq => by
        rcases List.mem_append.1 hq with h1 | h1
        · exact .inl h1
        · have : q = r := by simpa using h1
          subst this
          refine .inr ⟨HIR.out.keep (below_allocs (Below.refl _ _) _), ?_⟩
          have hs4 := hB4.size
          exact ⟨HNR.out.1.down hs4, HNR.out.2.1.down hs4, HNR.out.2.2.down hs4⟩))
      have HB8 := Lib.hid hB8
      clear hown8 hgrow8 hnew8 hB8 hfl
      go_roundg (n - (j + 1))
      case rel => exact ⟨j + 1, M ++ [r], by omega, rfl, by go_num, by rw [List.length_append, HML.out]; rfl, by rw [HTJ.out]; unfold Dd.cores; rw [List.map_append, List.map_append]; have := HMC.out; unfold Dd.cores at this; rw [this]; simp [HCR.out], by rw [Fd.phFlat_snoc]; exact HOWN8.out, HPH8.out, HB8.out⟩
      case measure => omega
    · obtain rfl : j = n := by omega
      obtain ⟨a1, c1, rfl, hk, hm⟩ := HPH.out.own.form
      have hk : j ≤ c1 := by rw [HML.out] at hk; exact hk
      have HPH : Hid (OwnPh wr w.heap.size (.slice a1 j c1) M) := by have := HPH.out; rw [HML.out] at this; exact Lib.hid this
      have HCO : Hid (Dd.cores M = Dd.cores L) := Lib.hid (by rw [HMC.out, List.take_of_length_le (by rw [HLN.out]; exact Nat.le_refl _)])
      have HPC := Lib.hid HPH.out.clip
      clear hown
      rw [HML.out]
      go_wp2_with (go_at_call 49; (with_reducible refine (clipPh_is _ _ _ _ hk hm).mono ?_); rintro e w9 ⟨rfl, rfl⟩)
      go_ret
      exact ⟨_, M, rfl, HCO.out, HPC.out, hB⟩
end Go.Proofs.Ytipmegkmkbbklaa
namespace Go.Proofs.Ytipmegkmkbbklaa
open Go.RowKit Go.Sort Go.Shelf
set_option linter.unusedVariables false
abbrev Chg := Bool × Ph
/-- A change's cells from place o on. -/
def ChAt (w : World) (b o : Nat) (d : Bool) (p : Ph) : Prop :=
  w.cell? ⟨b, o, none⟩ = some (.bool d) ∧ w.cell? ⟨b, o + 1, none⟩ = some (.int .i64 p.id) ∧ w.cell? ⟨b, o + 2, none⟩ = some (.string p.file) ∧ w.cell? ⟨b, o + 3, none⟩ = some (.int .i64 p.mom) ∧ w.cell? ⟨b, o + 4, none⟩ = some (.int .i64 p.zone) ∧ w.cell? ⟨b, o + 5, none⟩ = some (.slice p.wa p.wn p.wc) ∧ w.cell? ⟨b, o + 6, none⟩ = some (.int .i64 p.W) ∧ w.cell? ⟨b, o + 7, none⟩ = some (.int .i64 p.H) ∧ w.cell? ⟨b, o + 8, none⟩ = some (.int .i64 p.turn) ∧ w.cell? ⟨b, o + 9, none⟩ = some (.int .i64 p.stars) ∧ w.cell? ⟨b, o + 10, none⟩ = some (.slice p.ta p.tn p.tc) ∧ w.cell? ⟨b, o + 11, none⟩ = some (.string p.cap) ∧ w.cell? ⟨b, o + 12, none⟩ = some (.slice p.pa p.pn p.pc) ∧ w.cell? ⟨b, o + 13, none⟩ = some (.bool p.hid)
theorem ChAt.keep {w w' : World} {b o : Nat} {d : Bool} {p : Ph} (h : ChAt w b o d p) (hb : Below w.heap.size w w') (hl : b < w.heap.size) : ChAt w' b o d p := by
  obtain ⟨h0, h1, h2, h3, h4, h5, h6, h7, h8, h9, h10, h11, h12, h13⟩ := h
  exact ⟨(hb.cell hl).trans h0, (hb.cell hl).trans h1, (hb.cell hl).trans h2, (hb.cell hl).trans h3, (hb.cell hl).trans h4, (hb.cell hl).trans h5, (hb.cell hl).trans h6, (hb.cell hl).trans h7, (hb.cell hl).trans h8, (hb.cell hl).trans h9, (hb.cell hl).trans h10, (hb.cell hl).trans h11, (hb.cell hl).trans h12, (hb.cell hl).trans h13⟩
namespace Dd
def atC (Z : List Chg) (i : Nat) : Chg := Z[i]?.getD (false, Ph.zero)
theorem drop_atC {Z : List Chg} {j : Nat} (h : j < Z.length) : Z.drop j = atC Z j :: Z.drop (j + 1) := by
  unfold atC; rw [List.getElem?_eq_getElem h]; exact List.drop_eq_getElem_cons h
theorem atC_mem {Z : List Chg} {j : Nat} (h : j < Z.length) : atC Z j ∈ Z := by unfold atC; rw [List.getElem?_eq_getElem h]; exact List.getElem_mem h
theorem phFlat_take (L : Lib) (i : Nat) : (Fd.phFlat L).take (i * 13) = Fd.phFlat (L.take i) := by
  induction L generalizing i with
  | nil => simp [Fd.phFlat_nil]
  | cons p L ih =>
    have h13 : (Fd.phCells p).length = 13 := rfl
    cases i with
    | zero => simp [Fd.phFlat_nil]
    | succ i =>
      rw [List.take_succ_cons, Fd.phFlat_cons, Fd.phFlat_cons, List.take_append, List.take_of_length_le (by omega), h13, show (i + 1) * 13 - 13 = i * 13 by omega, ih]
theorem phFlat_drop (L : Lib) (i : Nat) : (Fd.phFlat L).drop (i * 13) = Fd.phFlat (L.drop i) := by
  induction L generalizing i with
  | nil => simp [Fd.phFlat_nil]
  | cons p L ih =>
    have h13 : (Fd.phCells p).length = 13 := rfl
    cases i with
    | zero => simp
    | succ i =>
      rw [List.drop_succ_cons, Fd.phFlat_cons, List.drop_append, List.drop_eq_nil_of_le (by omega), h13, show (i + 1) * 13 - 13 = i * 13 by omega, ih, List.nil_append]
end Dd
/-- A slice of changes. -/
structure Chs (w : World) (a : Option Addr) (Z : List Chg) : Prop where
  row : 0 < Z.length → ∃ b off, a = some ⟨b, off, none⟩ ∧ b < w.heap.size ∧ ∀ i, i < Z.length → ChAt w b (off + i * 14) (Dd.atC Z i).1 (Dd.atC Z i).2
  each : ∀ i, i < Z.length → (Dd.atC Z i).2.In w
theorem Chs.keep {w w' : World} {a : Option Addr} {Z : List Chg} (h : Chs w a Z) (hb : Below w.heap.size w w') : Chs w' a Z := by
  refine ⟨fun hn => ?_, fun i hi => (h.each i hi).keep hb⟩
  obtain ⟨b, off, rfl, hl, hc⟩ := h.row hn
  exact ⟨b, off, rfl, Nat.lt_of_lt_of_le hl hb.size, fun i hi => (hc i hi).keep hb hl⟩
/-- The changes' sizes are those of a machine. -/
def ChFits (Z : List Chg) : Prop := ∀ i, i < Z.length → (Dd.atC Z i).2.Fits ∧ -9223372036854775808 ≤ (Dd.atC Z i).2.id ∧ (Dd.atC Z i).2.id ≤ 9223372036854775807
theorem Ph.Fits.of_core {p r : Ph} (h : p.Fits) (e : r.core = p.core) : r.Fits := by
  have h1 : p.core.Fits := ⟨h.file, h.cap, h.tag, h.wn, h.tn, h.pn⟩
  rw [← e] at h1
  exact ⟨h1.file, h1.cap, h1.tag, h1.wn, h1.tn, h1.pn⟩
/-- A library that a Patch goes through. -/
structure DdOk (A : Dd.Lib) : Prop where
  rise : Dd.Rise A
  right : Dd.Right A
  fits : ∀ p, p ∈ A → p.Fits
  few : A.length ≤ 1000
theorem Dd.chk_0 {A : Dd.Lib} {d : Bool} {p : Ph} (h : Dd.chk A d p = 0) : (d = true ∧ Dd.has A p.id = true) ∨ (d = false ∧ p.err = 0 ∧ (Dd.has A p.id = false → A.length < 1000)) := by
  unfold Dd.chk at h
  cases d
  · rw [if_neg (by decide)] at h
    by_cases e : p.err = 0
    · rw [if_pos e] at h
      refine .inr ⟨rfl, e, fun hh => ?_⟩
      by_cases hf : 1000 ≤ A.length
      · rw [if_pos ⟨hh, hf⟩] at h; cases h
      · omega
    · rw [if_neg e] at h; exact absurd h e
  · rw [if_pos rfl] at h
    split at h
    · split at h
      · exact .inl ⟨rfl, ‹_›⟩
      · cases h
    · cases h
theorem DdOk.next {A A' : Dd.Lib} {d : Bool} {p r : Ph} (h : DdOk A) (hk : Dd.chk A d p = 0) (hr : r.core = p.core) (hF : p.Fits) (hA : A' = Dd.patched A d r) : DdOk A' := by
  subst hA
  have hid : r.id = p.id := by rw [← Ph.id_core, hr, Ph.id_core]
  have he : r.err = p.err := by rw [← Ph.err_core, hr, Ph.err_core]
  refine ⟨Dd.patched_rise h.rise d r fun hd => ?_, fun q hq => ?_, fun q hq => ?_, ?_⟩
  · rcases Dd.chk_0 hk with g | g
    · rw [hid]; exact g.2
    · rw [hd] at g; cases g.1
  · rcases Dd.patched_mem hq with g | ⟨g, rfl⟩
    · exact h.right q g
    · rcases Dd.chk_0 hk with k | k
      · rw [g] at k; cases k.1
      · rw [he]; exact k.2.1
  · rcases Dd.patched_mem hq with g | ⟨g, rfl⟩
    · exact h.fits q g
    · exact hF.of_core hr
  · rcases Dd.chk_0 hk with ⟨rfl, k⟩ | ⟨rfl, _, k⟩
    · show (A.take _ ++ A.drop _).length ≤ 1000
      have := h.few
      rw [List.length_append, List.length_take, List.length_drop]; omega
    · rw [Dd.patched_len h.rise, hid]
      cases hh : Dd.has A p.id
      · have := k hh; simp; omega
      · have := h.few; simp; omega
end Go.Proofs.Ytipmegkmkbbklaa
namespace Go.Proofs.Ytipmegkmkbbklaa
open Go.RowKit Go.Sort Go.Shelf
set_option linter.unusedVariables false
namespace Dd
def chCells (c : Chg) : List Value := .bool c.1 :: Fd.phCells c.2
def chFlat (l : List Chg) : List Value := l.flatMap chCells
theorem chFlat_snoc (l : List Chg) (c : Chg) : chFlat (l ++ [c]) = chFlat l ++ chCells c := by simp [chFlat]
theorem chFlat_cons (c : Chg) (l : List Chg) : chFlat (c :: l) = chCells c ++ chFlat l := by simp [chFlat]
theorem chFlat_len (l : List Chg) : (chFlat l).length = l.length * 14 := by
  induction l with
  | nil => rfl
  | cons c l ih =>
    have h14 : (chCells c).length = 14 := rfl
    rw [chFlat_cons, List.length_append, List.length_cons, ih, h14]; omega
theorem chFlat_get (l : List Chg) : ∀ i, i < l.length → ∀ j, j < 14 → (chFlat l)[i * 14 + j]? = (chCells (atC l i))[j]? := by
  induction l with
  | nil => intro i h; simp at h
  | cons c l ih =>
    intro i h j hj
    have h14 : (chCells c).length = 14 := rfl
    cases i with
    | zero => rw [chFlat_cons, Nat.zero_mul, Nat.zero_add, List.getElem?_append_left (by omega)]; rfl
    | succ k =>
      rw [chFlat_cons, List.getElem?_append_right (by omega), h14, show (k + 1) * 14 + j - 14 = k * 14 + j by omega, ih k (by simpa using h) j hj]; simp [atC]
end Dd
theorem ChAt.of_cells {w : World} {b o : Nat} {c : Chg} (h : ∀ j, j < 14 → w.cell? ⟨b, o + j, none⟩ = (Dd.chCells c)[j]?) : ChAt w b o c.1 c.2 :=
  ⟨h 0 (by omega), h 1 (by omega), h 2 (by omega), h 3 (by omega), h 4 (by omega), h 5 (by omega), h 6 (by omega), h 7 (by omega), h 8 (by omega), h 9 (by omega), h 10 (by omega), h 11 (by omega), h 12 (by omega), h 13 (by omega)⟩
theorem Chs.of_own {w : World} {base n : Nat} {e : TypeId} {v : Value} {M : List Chg} (h : w.ownsRow base e 14 v n (Dd.chFlat M)) (hI : ∀ c, c ∈ M → c.2.In w) :
    ∃ a ca, v = .slice a n ca ∧ n ≤ ca ∧ ca ≤ 9223372036854775807 ∧ n = M.length ∧ Chs w a M := by
  have hlen := h.1
  rw [Dd.chFlat_len] at hlen
  have hn : n = M.length := by omega
  subst hn
  have h0 := h
  rcases h.2 with ⟨rfl, h00⟩ | ⟨g, cap, cur, rfl, hg, hc, hk, hm, _⟩
  · exact ⟨none, 0, by rw [h00], by omega, by omega, rfl, ⟨fun hn => by omega, fun i hi => by omega⟩⟩
  · have hm2 : cap ≤ 9223372036854775807 := hm
    refine ⟨_, _, rfl, hk, hm2, rfl, ⟨fun hn => ⟨g, 0, rfl, (h0.lt g rfl).2, fun i hi => ChAt.of_cells fun j hj => ?_⟩, fun i hi => hI _ (Dd.atC_mem hi)⟩⟩
    rw [Nat.zero_add, h0.cellAt (i * 14 + j) (by omega), Dd.chFlat_get M i hi j hj]
theorem infoChange : (Try.prog.info? 47).map (fun i => (i.zero, i.size, i.bytes)) = some (some (.agg #[.bool false, .int .i64 0, .string ByteArray.empty, .int .i64 0, .int .i64 0, .slice none 0 0, .int .i64 0, .int .i64 0, .int .i64 0, .int .i64 0, .slice none 0 0, .string ByteArray.empty, .slice none 0 0, .bool false]), 14, 176) := by kernel_rfl
theorem cell_ch_new (w : World) (d : Bool) (p : Ph) (t : TypeId) : ∀ j u, (Dd.chCells (d, p))[j]? = some u → (w.alloc (.cells #[.bool d, .int .i64 p.id, .string p.file, .int .i64 p.mom, .int .i64 p.zone, .slice p.wa p.wn p.wc, .int .i64 p.W, .int .i64 p.H, .int .i64 p.turn, .int .i64 p.stars, .slice p.ta p.tn p.tc, .string p.cap, .slice p.pa p.pn p.pc, .bool p.hid] t)).cell? ((⟨w.heap.size, 0, none⟩ : Addr).add j) = some u := by
  intro j u hj
  rw [show (⟨w.heap.size, 0, none⟩ : Addr).add j = ⟨w.heap.size, j, none⟩ from by unfold Addr.add; split <;> simp_all, (Blk.new w #[.bool d, .int .i64 p.id, .string p.file, .int .i64 p.mom, .int .i64 p.zone, .slice p.wa p.wn p.wc, .int .i64 p.W, .int .i64 p.H, .int .i64 p.turn, .int .i64 p.stars, .slice p.ta p.tn p.tc, .string p.cap, .slice p.pa p.pn p.pc, .bool p.hid] t).cell]
  simpa [Dd.chCells, Fd.phCells] using hj
theorem chCells_one (c : Chg) : ∀ u ∈ Dd.chCells c, u.oneCell' = true := by
  intro u hu
  rcases List.mem_cons.1 hu with rfl | h
  · rfl
  · exact phCells_one _ u h
/-- A slice of changes of the call's own. -/
structure OwnCh (w : World) (B : Nat) (v : Value) (M : List Chg) : Prop where
  own : w.ownsRow B 47 14 v M.length (Dd.chFlat M)
  each : ∀ c, c ∈ M → c.2.In w
  off : ∀ c, c ∈ M → ∀ b, v.ownBlock = some b → c.2.Off b
theorem OwnCh.nil (w : World) (B : Nat) : OwnCh w B (.slice none 0 0) [] := ⟨World.ownsRow_nil _ _ _ _, fun c h => by simp at h, fun c h => by simp at h⟩
theorem OwnCh.keep {w w' : World} {B : Nat} {v : Value} {M : List Chg} (h : OwnCh w B v M) (hb : Below w.heap.size w w') : OwnCh w' B v M := ⟨own_keepH h.own hb, fun c hc => (h.each c hc).keep hb, h.off⟩
theorem OwnCh.grow {w0 w7 w8 : World} {B g n cap : Nat} {v : Value} {M : List Chg} {c : Chg} (h : OwnCh w0 B v M) (hB7 : Below w0.heap.size w0 w7) (hc : w8.ownsRow B 47 14 (.slice (some ⟨g, 0, none⟩) n cap) n (Dd.chFlat M ++ Dd.chCells c)) (hn : n = M.length + 1) (hg : w7.grownBy w8 v.ownBlock) (hnew : NewOr w7 v.ownBlock g)
    (hI : c.2.In w7) (hO : ∀ b, v.ownBlock = some b → c.2.Off b) : OwnCh w8 B (.slice (some ⟨g, 0, none⟩) n cap) (M ++ [c]) := by
  subst hn
  have key : ∀ q, q ∈ M ++ [c] → q.2.In w7 ∧ (∀ b, v.ownBlock = some b → q.2.Off b) := by
    intro q hq
    rcases List.mem_append.1 hq with h1 | h1
    · exact ⟨(h.each q h1).keep hB7, h.off q h1⟩
    · obtain rfl : q = c := by simpa using h1
      exact ⟨hI, hO⟩
  refine ⟨?_, fun q hq => (key q hq).1.grown hg (key q hq).2, fun q hq b hb => ?_⟩
  · rw [Dd.chFlat_snoc, List.length_append, List.length_singleton]; exact hc
  · cases hb
    rcases hnew with h1 | h1
    · exact (key q hq).2 g h1
    · exact Ph.Off.of_in (key q hq).1 h1
set_option maxRecDepth 100000 in
set_option maxHeartbeats 4000000 in
theorem sameChange_is (d : Bool) (p r : Ph) (w : World) (hI : p.In w) (hJ : r.In w) (hF : p.Fits) (hG : r.Fits) (hs : p.core = r.core) : Calls Try.prog 17 #[.agg #[.bool d, .int .i64 p.id, .string p.file, .int .i64 p.mom, .int .i64 p.zone, .slice p.wa p.wn p.wc, .int .i64 p.W, .int .i64 p.H, .int .i64 p.turn, .int .i64 p.stars, .slice p.ta p.tn p.tc, .string p.cap, .slice p.pa p.pn p.pc, .bool p.hid], .agg #[.bool d, .int .i64 r.id, .string r.file, .int .i64 r.mom, .int .i64 r.zone, .slice r.wa r.wn r.wc, .int .i64 r.W, .int .i64 r.H, .int .i64 r.turn, .int .i64 r.stars, .slice r.ta r.tn r.tc, .string r.cap, .slice r.pa r.pn r.pc, .bool r.hid]] w fun e w' => e = .returned (.bool true) ∧ Below w.heap.size w w' := by
  obtain ⟨W1, hW1, hP, hz1, hB1⟩ := box w #[.bool d, .int .i64 p.id, .string p.file, .int .i64 p.mom, .int .i64 p.zone, .slice p.wa p.wn p.wc, .int .i64 p.W, .int .i64 p.H, .int .i64 p.turn, .int .i64 p.stars, .slice p.ta p.tn p.tc, .string p.cap, .slice p.pa p.pn p.pc, .bool p.hid] 47
  obtain ⟨W2, hW2, hQ, hz2, hB2⟩ := box W1 #[.bool d, .int .i64 r.id, .string r.file, .int .i64 r.mom, .int .i64 r.zone, .slice r.wa r.wn r.wc, .int .i64 r.W, .int .i64 r.H, .int .i64 r.turn, .int .i64 r.stars, .slice r.ta r.tn r.tc, .string r.cap, .slice r.pa r.pn r.pc, .bool r.hid] 47
  have HW1 := Lib.hid hW1; have HW2 := Lib.hid hW2
  have hP := hP.keep hB2
  rw [hz1] at hQ
  have hB := below_up hB1 hB2
  have HC := Lib.hid (samePhotoR p r W2 (hI.keep hB) (hJ.keep hB) hF hG)
  rw [Ph.same_of_core hs] at HC
  obtain ⟨l0, q0, q1, q2, q3, q4, q5, q6, q7, q8, q9, q10, q11, q12⟩ := hP.change
  obtain ⟨k0, v0, v1, v2, v3, v4, v5, v6, v7, v8, v9, v10, v11, v12⟩ := hQ.change
  clear hW1 hW2 hz1 hz2 hI hJ hs
  go_enter Try.func17, Try.ntmps17
  go_wp2_with fail
  rw [HW1.out, HW2.out]
  go_wp2_with (go_at_call 8; (with_reducible refine HC.out.mono ?_); rintro e w5 ⟨rfl, hB5⟩)
  go_ret
  exact ⟨rfl, below_up hB hB5⟩
theorem egSCh : ∀ args w, (callFunc 17 args).run Try.prog w = .ok (.enter 17 args) w := enters_of Try.func17 (by kernel_rfl) rfl
theorem Dd.coreC_at {M N : List Chg} (h : Dd.coreC M = Dd.coreC N) {i : Nat} (hi : i < M.length) : (Dd.atC M i).1 = (Dd.atC N i).1 ∧ (Dd.atC M i).2.core = (Dd.atC N i).2.core ∧ M.length = N.length := by
  have hl : M.length = N.length := by have := congrArg List.length h; simpa [Dd.coreC] using this
  have h1 : (Dd.coreC M)[i]? = (Dd.coreC N)[i]? := by rw [h]
  unfold Dd.coreC at h1
  rw [List.getElem?_map, List.getElem?_map, List.getElem?_eq_getElem hi, List.getElem?_eq_getElem (by omega)] at h1
  unfold Dd.atC
  rw [List.getElem?_eq_getElem hi, List.getElem?_eq_getElem (by omega)]
  simp only [Option.map_some, Option.some.injEq, Prod.mk.injEq] at h1
  exact ⟨h1.1, h1.2, hl⟩
set_option maxRecDepth 100000 in
set_option maxHeartbeats 8000000 in
theorem equalCh_is (M N : List Chg) (hMN : Dd.coreC M = Dd.coreC N) (a : Option Addr) (ca : Nat) (b : Option Addr) (cb : Nat) (w : World) (hx : Chs w a M) (hy : Chs w b N) (hF : ∀ c, c ∈ M → c.2.Fits) (hG : ∀ c, c ∈ N → c.2.Fits) (hn : M.length ≤ 9223372036854775807) :
    Calls Try.prog 15 #[.slice a M.length ca, .slice b N.length cb, .func (.func 17) #[] #[]] w fun e w' => e = .returned (.bool true) ∧ Below w.heap.size w w' := by
  have hl : M.length = N.length := by have := congrArg List.length hMN; simpa [Dd.coreC] using this
  have HC := Lib.hid (fun (i : Nat) (hi : i < M.length) V (hb : Below w.heap.size w V) => show Calls Try.prog 17 #[.agg #[.bool (Dd.atC M i).1, .int .i64 (Dd.atC M i).2.id, .string (Dd.atC M i).2.file, .int .i64 (Dd.atC M i).2.mom, .int .i64 (Dd.atC M i).2.zone, .slice (Dd.atC M i).2.wa (Dd.atC M i).2.wn (Dd.atC M i).2.wc, .int .i64 (Dd.atC M i).2.W, .int .i64 (Dd.atC M i).2.H, .int .i64 (Dd.atC M i).2.turn, .int .i64 (Dd.atC M i).2.stars, .slice (Dd.atC M i).2.ta (Dd.atC M i).2.tn (Dd.atC M i).2.tc, .string (Dd.atC M i).2.cap, .slice (Dd.atC M i).2.pa (Dd.atC M i).2.pn (Dd.atC M i).2.pc, .bool (Dd.atC M i).2.hid], .agg #[.bool (Dd.atC N i).1, .int .i64 (Dd.atC N i).2.id, .string (Dd.atC N i).2.file, .int .i64 (Dd.atC N i).2.mom, .int .i64 (Dd.atC N i).2.zone, .slice (Dd.atC N i).2.wa (Dd.atC N i).2.wn (Dd.atC N i).2.wc, .int .i64 (Dd.atC N i).2.W, .int .i64 (Dd.atC N i).2.H, .int .i64 (Dd.atC N i).2.turn, .int .i64 (Dd.atC N i).2.stars, .slice (Dd.atC N i).2.ta (Dd.atC N i).2.tn (Dd.atC N i).2.tc, .string (Dd.atC N i).2.cap, .slice (Dd.atC N i).2.pa (Dd.atC N i).2.pn (Dd.atC N i).2.pc, .bool (Dd.atC N i).2.hid]] V fun e w' => e = .returned (.bool true) ∧ Below V.heap.size V w' by
    obtain ⟨h1, h2, _⟩ := Dd.coreC_at hMN hi
    rw [h1]
    exact sameChange_is _ _ _ V ((hx.each i hi).keep hb) ((hy.each i (by omega)).keep hb) (hF _ (Dd.atC_mem hi)) (hG _ (Dd.atC_mem (by omega))) h2)
  have HX := Lib.hid hx; have HY := Lib.hid hy
  obtain ⟨n, hm⟩ : ∃ n, M.length = n := ⟨_, rfl⟩
  have hm2 : N.length = n := by omega
  rw [hm] at hn HC ⊢
  rw [hm2]
  have HM := Lib.hid hm; have HN := Lib.hid hm2
  have hl' : ((n : Int) == (n : Int)) = true := by simp
  have eg := egSCh
  clear hx hy hF hG hMN hm hm2 hl
  go_enter Try.func15, Try.ntmps15
  go_wp2_with fail
  go_loopg [17] n (fun gk i wr => ∃ j : Nat, j ≤ n ∧ gk = n - j ∧ i = .int .i64 j ∧ Below w.heap.size w wr)
  case atStart => exact ⟨0, by omega, rfl, rfl, Below.refl _ _⟩
  case round =>
    obtain ⟨j, hj, rfl, rfl, hB⟩ := hrel
    by_cases hlt : j < n
    · obtain ⟨b1, o1, rfl, hb1, hc1⟩ := (HX.out.keep hB).row (by rw [HM.out]; omega)
      obtain ⟨b2, o2, rfl, hb2, hc2⟩ := (HY.out.keep hB).row (by rw [HN.out]; omega)
      have hc1 := hc1 j (by rw [HM.out]; exact hlt)
      have hc2 := hc2 j (by rw [HN.out]; exact hlt)
      have HCJ := Lib.hid (HC.out j hlt)
      generalize (Dd.atC M j).1 = d1 at *
      generalize (Dd.atC N j).1 = d2 at *
      generalize (Dd.atC M j).2 = p at *
      generalize (Dd.atC N j).2 = r at *
      have hB2 := below_allocs (below_allocs hB (.cells #[.bool d1, .int .i64 p.id, .string p.file, .int .i64 p.mom, .int .i64 p.zone, .slice p.wa p.wn p.wc, .int .i64 p.W, .int .i64 p.H, .int .i64 p.turn, .int .i64 p.stars, .slice p.ta p.tn p.tc, .string p.cap, .slice p.pa p.pn p.pc, .bool p.hid] 47)) (.cells #[.bool d2, .int .i64 r.id, .string r.file, .int .i64 r.mom, .int .i64 r.zone, .slice r.wa r.wn r.wc, .int .i64 r.W, .int .i64 r.H, .int .i64 r.turn, .int .i64 r.stars, .slice r.ta r.tn r.tc, .string r.cap, .slice r.pa r.pn r.pc, .bool r.hid] 47)
      have HCK := Lib.hid (HCJ.out _ hB2)
      have hc2 := hc2.keep (below_allocs (Below.refl wr.heap.size wr) (.cells #[.bool d1, .int .i64 p.id, .string p.file, .int .i64 p.mom, .int .i64 p.zone, .slice p.wa p.wn p.wc, .int .i64 p.W, .int .i64 p.H, .int .i64 p.turn, .int .i64 p.stars, .slice p.ta p.tn p.tc, .string p.cap, .slice p.pa p.pn p.pc, .bool p.hid] 47)) hb2
      obtain ⟨c0, c1, c2, c3, c4, c5, c6, c7, c8, c9, c10, c11, c12, c13⟩ := hc1
      obtain ⟨d0, d1', d2', d3, d4, d5, d6, d7, d8, d9, d10, d11, d12, d13⟩ := hc2
      have hj0 : (0 : Int) ≤ (j : Int) := by omega
      have hj1 : (j : Int) < (n : Int) := by omega
      have hXB := (Blk.new wr #[.bool d1, .int .i64 p.id, .string p.file, .int .i64 p.mom, .int .i64 p.zone, .slice p.wa p.wn p.wc, .int .i64 p.W, .int .i64 p.H, .int .i64 p.turn, .int .i64 p.stars, .slice p.ta p.tn p.tc, .string p.cap, .slice p.pa p.pn p.pc, .bool p.hid] 47).alloc (.cells #[.bool d2, .int .i64 r.id, .string r.file, .int .i64 r.mom, .int .i64 r.zone, .slice r.wa r.wn r.wc, .int .i64 r.W, .int .i64 r.H, .int .i64 r.turn, .int .i64 r.stars, .slice r.ta r.tn r.tc, .string r.cap, .slice r.pa r.pn r.pc, .bool r.hid] 47)
      have hYB := Blk.new (wr.alloc (.cells #[.bool d1, .int .i64 p.id, .string p.file, .int .i64 p.mom, .int .i64 p.zone, .slice p.wa p.wn p.wc, .int .i64 p.W, .int .i64 p.H, .int .i64 p.turn, .int .i64 p.stars, .slice p.ta p.tn p.tc, .string p.cap, .slice p.pa p.pn p.pc, .bool p.hid] 47)) #[.bool d2, .int .i64 r.id, .string r.file, .int .i64 r.mom, .int .i64 r.zone, .slice r.wa r.wn r.wc, .int .i64 r.W, .int .i64 r.H, .int .i64 r.turn, .int .i64 r.stars, .slice r.ta r.tn r.tc, .string r.cap, .slice r.pa r.pn r.pc, .bool r.hid] 47
      rw [World.size_alloc] at hYB
      obtain ⟨l0, q0, q1, q2, q3, q4, q5, q6, q7, q8, q9, q10, q11, q12⟩ := hXB.change
      obtain ⟨m0, v0, v1, v2, v3, v4, v5, v6, v7, v8, v9, v10, v11, v12⟩ := hYB.change
      clear hXB hYB
      go_wp2_with fail
      refine HCK.out.mono ?_
      rintro e w5 ⟨rfl, hB5⟩
      go_wp2_with fail
      go_roundg (n - (j + 1))
      case rel => exact ⟨j + 1, by omega, rfl, by go_num, below_up hB2 hB5⟩
      case measure => omega
    · obtain rfl : j = n := by omega
      go_wp2_with fail
      go_ret
      exact ⟨rfl, hB⟩
end Go.Proofs.Ytipmegkmkbbklaa
