/- Parts of the proof, no condition: FdErr, FdSame, OrdM, DcMath, HdMath. -/
import Derived.Test.YtimjmjmpaicdbaaGreatDoorPk7
import Derived.Test.YtimjmjmpaicdbaaGreatDoorPk8
import Derived.Deep.RegionHeld
import Derived.Test.YtimjmjmpaicdbaaGreatDoorProg
import Derived.Test.YtimjmjmpaicdbaaGreatDoorPk6
import Derived.Lib.IndexMore
import Derived.Laws.IdiomStrings
set_option maxRecDepth 100000
set_option maxHeartbeats 16000000
set_option linter.unusedVariables false
namespace Go.Proofs.YtimjmjmpaicdbaaGreatDoor
open Go.RowKit Go.Sort Go.Shelf
theorem photoError_is (p : Ph) (w : World) (hI : p.In w) (hF : p.Fits) : Calls Tryz.prog 48 #[.agg #[.int .i64 p.id, .string p.file, .int .i64 p.mom, .int .i64 p.zone, .slice p.wa p.wn p.wc, .int .i64 p.W, .int .i64 p.H, .int .i64 p.turn, .int .i64 p.stars, .slice p.ta p.tn p.tc, .string p.cap, .slice p.pa p.pn p.pc, .bool p.hid]] w fun e w' => e = .returned (.int .i64 p.err) ∧ Below w.heap.size w w' := by
 have HI0 := Lib.hid hI; have HF0 := Lib.hid hF
 obtain ⟨W1, hW1, hP, hz1, hB1⟩ := bxP w p
 have HW1 := Lib.hid hW1
 clear hW1 hz1
 obtain ⟨q0, q1, q2, q3, q4, q5, q6, q7, q8, q9, q10, q11, q12⟩ := hP.photo
 have HPL := Lib.hid (hI.keep hB1).places
 have hff := hF.file
 have hbw := hF.wn
 obtain ⟨q, hq⟩ : ∃ q, p.err = q := ⟨_, rfl⟩
 rw [hq]
 unfold Ph.err at hq
 clear hI hF
 cases hcI : decide (1 ≤ p.id ∧ p.id ≤ 1000000)
 ·rw [hcI, if_neg (by simp)] at hq
  subst hq
  have HcI := Lib.hid hcI; clear hcI
  go_enter Tryz.func48, Tryz.ntmps48
  go_wp2_with fail
  rw [HW1.out]
  go_wp2_with (first
   | (go_at_call 31; (with_reducible refine (in_is p.id 1 1000000 false HcI.out _).mono ?_); rintro e w2 ⟨rfl, rfl⟩)
   | (go_at_call 90; (with_reducible refine (isDigest_is p.file hff false HcF.out _).mono ?_); rintro e w2 ⟨rfl, rfl⟩)
   | (go_at_call 31; (with_reducible refine (in_is p.mom (-1) 6311433599 false HcM.out _).mono ?_); rintro e w2 ⟨rfl, rfl⟩)
   | (go_at_call 91; (with_reducible refine (zoned_is p.zone false HcZ.out _).mono ?_); rintro e w2 ⟨rfl, rfl⟩)
   | (go_at_call 71; (with_reducible refine (moment_is (p.mom + 60 * p.zone) false HcL.out _).mono ?_); rintro e w2 ⟨rfl, rfl⟩)
   | (go_at_call 72; refine (HPB.out _).mono ?_; rintro e w5 ⟨rfl, hB5⟩))
  go_ret
  exact ⟨rfl, hB1⟩
 ·rw [hcI, if_pos rfl] at hq
  have HcI := Lib.hid hcI; clear hcI
  cases hcF : Fd.fileB p.file
  ·rw [hcF, if_neg (by simp)] at hq
   subst hq
   have HcF := Lib.hid hcF; clear hcF
   go_enter Tryz.func48, Tryz.ntmps48
   go_wp2_with fail
   rw [HW1.out]
   go_wp2_with (first
    | (go_at_call 31; (with_reducible refine (in_is p.id 1 1000000 true HcI.out _).mono ?_); rintro e w2 ⟨rfl, rfl⟩)
    | (go_at_call 90; (with_reducible refine (isDigest_is p.file hff false HcF.out _).mono ?_); rintro e w2 ⟨rfl, rfl⟩)
    | (go_at_call 31; (with_reducible refine (in_is p.mom (-1) 6311433599 false HcM.out _).mono ?_); rintro e w2 ⟨rfl, rfl⟩)
    | (go_at_call 91; (with_reducible refine (zoned_is p.zone false HcZ.out _).mono ?_); rintro e w2 ⟨rfl, rfl⟩)
    | (go_at_call 71; (with_reducible refine (moment_is (p.mom + 60 * p.zone) false HcL.out _).mono ?_); rintro e w2 ⟨rfl, rfl⟩)
    | (go_at_call 72; refine (HPB.out _).mono ?_; rintro e w5 ⟨rfl, hB5⟩))
   go_ret
   exact ⟨rfl, hB1⟩
  ·rw [hcF, if_pos rfl] at hq
   have HcF := Lib.hid hcF; clear hcF
   cases hcM : decide (-1 ≤ p.mom ∧ p.mom ≤ 6311433599)
   ·have hwh : Fd.whenB p.mom p.zone = false := decide_eq_false fun g => of_decide_eq_false hcM g.1
    rw [if_neg (by rw [hwh]; simp)] at hq
    subst hq
    have HcM := Lib.hid hcM; clear hcM hwh
    go_enter Tryz.func48, Tryz.ntmps48
    go_wp2_with fail
    rw [HW1.out]
    go_wp2_with (first
     | (go_at_call 31; (with_reducible refine (in_is p.id 1 1000000 true HcI.out _).mono ?_); rintro e w2 ⟨rfl, rfl⟩)
     | (go_at_call 90; (with_reducible refine (isDigest_is p.file hff true HcF.out _).mono ?_); rintro e w2 ⟨rfl, rfl⟩)
     | (go_at_call 31; (with_reducible refine (in_is p.mom (-1) 6311433599 false HcM.out _).mono ?_); rintro e w2 ⟨rfl, rfl⟩)
     | (go_at_call 91; (with_reducible refine (zoned_is p.zone false HcZ.out _).mono ?_); rintro e w2 ⟨rfl, rfl⟩)
     | (go_at_call 71; (with_reducible refine (moment_is (p.mom + 60 * p.zone) false HcL.out _).mono ?_); rintro e w2 ⟨rfl, rfl⟩)
     | (go_at_call 72; refine (HPB.out _).mono ?_; rintro e w5 ⟨rfl, hB5⟩))
    go_ret
    exact ⟨rfl, hB1⟩
   ·have hm1 := of_decide_eq_true hcM
    cases hcZ : Zn.zok p.zone
    ·have hwh : Fd.whenB p.mom p.zone = false := decide_eq_false fun g => by have := (Zn.zok_iff _).2 g.2.1; rw [hcZ] at this; cases this
     rw [if_neg (by rw [hwh]; simp)] at hq
     subst hq
     have HcM := Lib.hid hcM; have HcZ := Lib.hid hcZ; clear hcM hwh hcZ hm1
     go_enter Tryz.func48, Tryz.ntmps48
     go_wp2_with fail
     rw [HW1.out]
     go_wp2_with (first
      | (go_at_call 31; (with_reducible refine (in_is p.id 1 1000000 true HcI.out _).mono ?_); rintro e w2 ⟨rfl, rfl⟩)
      | (go_at_call 90; (with_reducible refine (isDigest_is p.file hff true HcF.out _).mono ?_); rintro e w2 ⟨rfl, rfl⟩)
      | (go_at_call 31; (with_reducible refine (in_is p.mom (-1) 6311433599 true HcM.out _).mono ?_); rintro e w2 ⟨rfl, rfl⟩)
      | (go_at_call 91; (with_reducible refine (zoned_is p.zone false HcZ.out _).mono ?_); rintro e w2 ⟨rfl, rfl⟩)
      | (go_at_call 71; (with_reducible refine (moment_is (p.mom + 60 * p.zone) false HcL.out _).mono ?_); rintro e w2 ⟨rfl, rfl⟩)
      | (go_at_call 72; refine (HPB.out _).mono ?_; rintro e w5 ⟨rfl, hB5⟩))
     go_ret
     exact ⟨rfl, hB1⟩
    ·have hz1 := (Zn.zok_iff _).1 hcZ
     have hm2 := hm1.2
     have hz3 := hz1.1
     have hz4 := hz1.2
     by_cases hm : 0 ≤ p.mom
     ·cases hcL : Ev.mom (p.mom + 60 * p.zone)
      ·have hwh : Fd.whenB p.mom p.zone = false := decide_eq_false fun g => by have := (Ev.mom_iff _).2 (g.2.2 hm); rw [hcL] at this; cases this
       rw [if_neg (by rw [hwh]; simp)] at hq
       subst hq
       have HcM := Lib.hid hcM; have HcZ := Lib.hid hcZ; have HcL := Lib.hid hcL; clear hcM hwh hcZ hcL hm1 hz1
       go_enter Tryz.func48, Tryz.ntmps48
       go_wp2_with fail
       rw [HW1.out]
       go_wp2_with (first
        | (go_at_call 31; (with_reducible refine (in_is p.id 1 1000000 true HcI.out _).mono ?_); rintro e w2 ⟨rfl, rfl⟩)
        | (go_at_call 90; (with_reducible refine (isDigest_is p.file hff true HcF.out _).mono ?_); rintro e w2 ⟨rfl, rfl⟩)
        | (go_at_call 31; (with_reducible refine (in_is p.mom (-1) 6311433599 true HcM.out _).mono ?_); rintro e w2 ⟨rfl, rfl⟩)
        | (go_at_call 91; (with_reducible refine (zoned_is p.zone true HcZ.out _).mono ?_); rintro e w2 ⟨rfl, rfl⟩)
        | (go_at_call 71; (with_reducible refine (moment_is (p.mom + 60 * p.zone) false HcL.out _).mono ?_); rintro e w2 ⟨rfl, rfl⟩)
        | (go_at_call 72; refine (HPB.out _).mono ?_; rintro e w5 ⟨rfl, hB5⟩))
       go_ret
       exact ⟨rfl, hB1⟩
      ·have hwh : Fd.whenB p.mom p.zone = true := decide_eq_true ⟨hm1, hz1, fun _ => (Ev.mom_iff _).1 hcL⟩
       rw [if_pos hwh] at hq
       have HcM := Lib.hid hcM; have HcZ := Lib.hid hcZ; have HcL := Lib.hid hcL; clear hcM hwh hcZ hcL hm1 hz1
       by_cases hn : 1 < p.wn
       ·rw [if_pos hn] at hq
        have hn' : (1 : Int) < (p.wn : Int) := by omega
        subst hq
        go_enter Tryz.func48, Tryz.ntmps48
        go_wp2_with fail
        rw [HW1.out]
        go_wp2_with (first
         | (go_at_call 31; (with_reducible refine (in_is p.id 1 1000000 true HcI.out _).mono ?_); rintro e w2 ⟨rfl, rfl⟩)
         | (go_at_call 90; (with_reducible refine (isDigest_is p.file hff true HcF.out _).mono ?_); rintro e w2 ⟨rfl, rfl⟩)
         | (go_at_call 31; (with_reducible refine (in_is p.mom (-1) 6311433599 true HcM.out _).mono ?_); rintro e w2 ⟨rfl, rfl⟩)
         | (go_at_call 91; (with_reducible refine (zoned_is p.zone true HcZ.out _).mono ?_); rintro e w2 ⟨rfl, rfl⟩)
         | (go_at_call 71; (with_reducible refine (moment_is (p.mom + 60 * p.zone) true HcL.out _).mono ?_); rintro e w2 ⟨rfl, rfl⟩)
         | (go_at_call 72; refine (HPB.out _).mono ?_; rintro e w5 ⟨rfl, hB5⟩))
        go_ret
        exact ⟨rfl, hB1⟩
       ·rw [if_neg hn] at hq
        by_cases hp : p.wn = 1 ∧ Fd.placeB (p.lat 0) (p.lon 0) = false
        ·rw [if_pos hp] at hq
         have hw1 : ((p.wn : Int) == 1) = true := by simp; omega
         have hw2 : ¬ (1 : Int) < (p.wn : Int) := by omega
         have hw3 : 0 < p.wn := by omega
         have HPB := Lib.hid (fun W => placed_is (p.lat 0) (p.lon 0) W false hp.2)
         subst hq
         have HP2 := Lib.hid hp; clear hp hn
         generalize p.wa = wa at *
         obtain ⟨bw, offw, rfl, hbw1, hcellw⟩ := HPL.out hw3
         obtain ⟨cw0, cw1⟩ := hcellw 0 (by have := HP2.out.1; omega)
         rw [Nat.zero_mul, Nat.add_zero] at cw0 cw1
         clear hcellw HPL
         go_enter Tryz.func48, Tryz.ntmps48
         go_wp2_with fail
         rw [HW1.out]
         go_wp2_with (first
          | (go_at_call 31; (with_reducible refine (in_is p.id 1 1000000 true HcI.out _).mono ?_); rintro e w2 ⟨rfl, rfl⟩)
          | (go_at_call 90; (with_reducible refine (isDigest_is p.file hff true HcF.out _).mono ?_); rintro e w2 ⟨rfl, rfl⟩)
          | (go_at_call 31; (with_reducible refine (in_is p.mom (-1) 6311433599 true HcM.out _).mono ?_); rintro e w2 ⟨rfl, rfl⟩)
          | (go_at_call 91; (with_reducible refine (zoned_is p.zone true HcZ.out _).mono ?_); rintro e w2 ⟨rfl, rfl⟩)
          | (go_at_call 71; (with_reducible refine (moment_is (p.mom + 60 * p.zone) true HcL.out _).mono ?_); rintro e w2 ⟨rfl, rfl⟩)
          | (go_at_call 72; refine (HPB.out _).mono ?_; rintro e w5 ⟨rfl, hB5⟩))
         go_ret
         exact ⟨rfl, below_up hB1 hB5⟩
        ·rw [if_neg hp] at hq
         subst hq
         by_cases h0 : p.wn = 0
         ·exact photoError_B p w HI0.out HF0.out HcI.out HcF.out HcM.out HcZ.out hm HcL.out h0
         ·have h1 : p.wn = 1 := by omega
          have hpl : Fd.placeB (p.lat 0) (p.lon 0) = true := by
           cases hc : Fd.placeB (p.lat 0) (p.lon 0)
           ·exact absurd ⟨h1, hc⟩ hp
           ·rfl
          exact photoError_A p w HI0.out HF0.out HcI.out HcF.out HcM.out HcZ.out hm HcL.out h1 hpl
     ·have hwh : Fd.whenB p.mom p.zone = true := decide_eq_true ⟨hm1, hz1, fun g => absurd g hm⟩
      rw [if_pos hwh] at hq
      have HcM := Lib.hid hcM; have HcZ := Lib.hid hcZ; clear hcM hwh hcZ hm1 hz1
      by_cases hn : 1 < p.wn
      ·rw [if_pos hn] at hq
       have hn' : (1 : Int) < (p.wn : Int) := by omega
       subst hq
       go_enter Tryz.func48, Tryz.ntmps48
       go_wp2_with fail
       rw [HW1.out]
       go_wp2_with (first
        | (go_at_call 31; (with_reducible refine (in_is p.id 1 1000000 true HcI.out _).mono ?_); rintro e w2 ⟨rfl, rfl⟩)
        | (go_at_call 90; (with_reducible refine (isDigest_is p.file hff true HcF.out _).mono ?_); rintro e w2 ⟨rfl, rfl⟩)
        | (go_at_call 31; (with_reducible refine (in_is p.mom (-1) 6311433599 true HcM.out _).mono ?_); rintro e w2 ⟨rfl, rfl⟩)
        | (go_at_call 91; (with_reducible refine (zoned_is p.zone true HcZ.out _).mono ?_); rintro e w2 ⟨rfl, rfl⟩)
        | (go_at_call 71; (with_reducible refine (moment_is (p.mom + 60 * p.zone) true HcL.out _).mono ?_); rintro e w2 ⟨rfl, rfl⟩)
        | (go_at_call 72; refine (HPB.out _).mono ?_; rintro e w5 ⟨rfl, hB5⟩))
       go_ret
       exact ⟨rfl, hB1⟩
      ·rw [if_neg hn] at hq
       by_cases hp : p.wn = 1 ∧ Fd.placeB (p.lat 0) (p.lon 0) = false
       ·rw [if_pos hp] at hq
        have hw1 : ((p.wn : Int) == 1) = true := by simp; omega
        have hw2 : ¬ (1 : Int) < (p.wn : Int) := by omega
        have hw3 : 0 < p.wn := by omega
        have HPB := Lib.hid (fun W => placed_is (p.lat 0) (p.lon 0) W false hp.2)
        subst hq
        have HP2 := Lib.hid hp; clear hp hn
        generalize p.wa = wa at *
        obtain ⟨bw, offw, rfl, hbw1, hcellw⟩ := HPL.out hw3
        obtain ⟨cw0, cw1⟩ := hcellw 0 (by have := HP2.out.1; omega)
        rw [Nat.zero_mul, Nat.add_zero] at cw0 cw1
        clear hcellw HPL
        go_enter Tryz.func48, Tryz.ntmps48
        go_wp2_with fail
        rw [HW1.out]
        go_wp2_with (first
         | (go_at_call 31; (with_reducible refine (in_is p.id 1 1000000 true HcI.out _).mono ?_); rintro e w2 ⟨rfl, rfl⟩)
         | (go_at_call 90; (with_reducible refine (isDigest_is p.file hff true HcF.out _).mono ?_); rintro e w2 ⟨rfl, rfl⟩)
         | (go_at_call 31; (with_reducible refine (in_is p.mom (-1) 6311433599 true HcM.out _).mono ?_); rintro e w2 ⟨rfl, rfl⟩)
         | (go_at_call 91; (with_reducible refine (zoned_is p.zone true HcZ.out _).mono ?_); rintro e w2 ⟨rfl, rfl⟩)
         | (go_at_call 71; (with_reducible refine (moment_is (p.mom + 60 * p.zone) true HcL.out _).mono ?_); rintro e w2 ⟨rfl, rfl⟩)
         | (go_at_call 72; refine (HPB.out _).mono ?_; rintro e w5 ⟨rfl, hB5⟩))
        go_ret
        exact ⟨rfl, below_up hB1 hB5⟩
       ·rw [if_neg hp] at hq
        subst hq
        by_cases h0 : p.wn = 0
        ·exact photoError_D p w HI0.out HF0.out HcI.out HcF.out HcM.out HcZ.out hm h0
        ·have h1 : p.wn = 1 := by omega
         have hpl : Fd.placeB (p.lat 0) (p.lon 0) = true := by
          cases hc : Fd.placeB (p.lat 0) (p.lon 0)
          ·exact absurd ⟨h1, hc⟩ hp
          ·rfl
         exact photoError_C p w HI0.out HF0.out HcI.out HcF.out HcM.out HcZ.out hm h1 hpl
def Ph.same (p r : Ph) : Bool := (p.id == r.id) && (p.file.toList == r.file.toList) && (p.mom == r.mom) && (p.zone == r.zone) && (Fd.eqRow p.wn r.wn fun i => p.lat i == r.lat i && p.lon i == r.lon i) && (p.W == r.W) && (p.H == r.H) && (p.turn == r.turn) && (p.stars == r.stars) && (Fd.eqRow p.tn r.tn fun i => (p.tag i).toList == (r.tag i).toList) && (p.cap.toList == r.cap.toList) && (Fd.eqRow p.pn r.pn fun i => p.who i == r.who i) && (p.hid == r.hid)
theorem Ph.same_yes {p r : Ph} (h0 : (p.id == r.id) = true) (h1 : (p.file.toList == r.file.toList) = true) (h2 : (p.mom == r.mom) = true) (h3 : (p.zone == r.zone) = true) (h4 : (Fd.eqRow p.wn r.wn fun i => p.lat i == r.lat i && p.lon i == r.lon i) = true) (h5 : (p.W == r.W) = true) (h6 : (p.H == r.H) = true) (h7 : (p.turn == r.turn) = true) (h8 : (p.stars == r.stars) = true) (h9 : (Fd.eqRow p.tn r.tn fun i => (p.tag i).toList == (r.tag i).toList) = true) (h10 : (p.cap.toList == r.cap.toList) = true) (h11 : (Fd.eqRow p.pn r.pn fun i => p.who i == r.who i) = true) (h12 : (p.hid == r.hid) = true) : p.same r = true := by unfold Ph.same; rw [h0, h1, h2, h3, h4, h5, h6, h7, h8, h9, h10, h11, h12]; rfl
end Go.Proofs.YtimjmjmpaicdbaaGreatDoor
namespace Go.Proofs.YtimjmjmpaicdbaaGreatDoor
open Go
section
variable {P : Program} {ops : Array Oper} {Q : Exit → Act → World → Prop} {md : Region.Mode} {C : World → Prop} {m : Nat}
def Until (C : World → Prop) (m : Nat) (l : Array Bool) (w : World) : Prop := l.getD m true = false → C w
def anyM (P : Program) (md : Region.Mode) (ops : Array Oper) (Q : Exit → Act → World → Prop) (C : World → Prop) (m : Nat) : Nat → Array Bool → Act → World → Prop
 | 0, l, a, w => Region.ready md ops l = [] ∧ Q .normal a w
 | f + 1, l, a, w => (Region.ready md ops l = [] → Q .normal a w) ∧ ∀ i ∈ Region.ready md ops l, wpOp P ops Q i (fun a' w' => Until C m (l.setIfInBounds i true) w' ∧ anyM P md ops Q C m f (l.setIfInBounds i true) a' w') a w
theorem anyM_any : ∀ (f : Nat) (l : Array Bool) (a : Act) (w : World), anyM P md ops Q C m f l a w → wpAny P md ops Q f l a w
 | 0, _, _, _, h => h
 | f + 1, _, _, _, h => ⟨h.1, fun i hi => wpOp_mono (fun a' w' h' => anyM_any f _ a' w' h'.2) (h.2 i hi)⟩
theorem both_no {l : Array Bool} {i : Nat} (h : l.getD i true = false) (g : l.getD i false = true) : False := by
 rcases Nat.lt_or_ge i l.size with h' | h'
 ·simp [h'] at h g; rw [h] at g; cases g
 ·simp [Array.getElem?_eq_none h'] at g
theorem anyM_first {i : Nat} {oi om : Oper} {v : Value} (hi : ops[i]? = some oi) (hom : ops[m]? = some om) (hwait : ∃ e ∈ om.after, Region.binds md e = true ∧ e.on = i) (him : i ≠ m)
  (hsel : ∀ (j : Nat) (o : Oper) cs b, ops[j]? = some o → o.op ≠ .select cs b) (hQ : ∀ c a w, Q (.panic c) (a.put oi.dst v) w → Q (.panic c) a w) :
  ∀ (f : Nat) (l : Array Bool) (a : Act) (w : World),
    (∀ j oj, ops[j]? = some oj → j ≠ i → l.getD j true = false → (∀ e ∈ oj.after, Region.binds md e = true → e.on ≠ i) → oi.apart ops oj = true) →
    i ∈ Region.ready md ops l → YieldsIf P ops C oi v a → l.getD m true = false → C w →
    anyM P md ops Q C m f (l.setIfInBounds i true) (a.put oi.dst v) w → anyM P md ops Q C m (f + 1) l a w := by
 have one : ∀ (f : Nat) (l : Array Bool) (a : Act) (w : World), YieldsIf P ops C oi v a → C w → anyM P md ops Q C m f (l.setIfInBounds i true) (a.put oi.dst v) w →
   wpOp P ops Q i (fun a' w' => Until C m (l.setIfInBounds i true) w' ∧ anyM P md ops Q C m f (l.setIfInBounds i true) a' w') a w :=
  fun f l a w hy hC H => hy.wpOp hi hC ⟨fun _ => hC, H⟩
 intro f
 induction f with
 | zero =>
   intro l a w _ hr hy _ hC H
   refine ⟨fun h => (by rw [h] at hr; cases hr), fun j hj => ?_⟩
   by_cases hji : j = i
   ·subst hji; exact one 0 l a w hy hC H
   ·have := ready_mono hj hji
    rw [H.1] at this; cases this
 | succ f ih =>
   intro l a w hfree hr hy hm hC H
   refine ⟨fun h => (by rw [h] at hr; cases hr), fun j hj => ?_⟩
   by_cases hji : j = i
   ·subst hji; exact one (f + 1) l a w hy hC H
   ·obtain ⟨hjun, oj, hoj, hall⟩ := mem_ready.1 hj
    have hiun := (mem_ready.1 hr).1
    have hno : ∀ e ∈ oj.after, Region.binds md e = true → e.on ≠ i := fun e he hb heq => both_no hiun (heq ▸ hall e he hb)
    have hjm : j ≠ m := by
     rintro rfl
     rw [hom] at hoj
     injection hoj with hoj
     subst hoj
     obtain ⟨e, he, hb, heq⟩ := hwait
     exact hno e he hb heq
    have hstep := wpOp_putIf hoj (hfree j oj hoj hji hjun hno) (fun cs b => hsel i oi cs b hi) (fun cs b => hsel j oj cs b hoj) hQ hy (H.2 j (ready_mono hj hji))
    have hm' : (l.setIfInBounds j true).getD m true = false := by rw [getD_set_ne true hjm]; exact hm
    have hm2 : ((l.setIfInBounds i true).setIfInBounds j true).getD m true = false := by rw [getD_set_ne true hjm, getD_set_ne true him]; exact hm
    refine wpOp_mono (fun a' w' h3 => ⟨fun _ => h3.2.1 hm2, ih (l.setIfInBounds j true) a' w' (fun k ok hk hki hun hno' => ?_) (ready_mono hr (Ne.symm hji)) h3.1 hm' (h3.2.1 hm2) ?_⟩) hstep
    ·refine hfree k ok hk hki ?_ hno'
     by_cases hjk : j = k
     ·subst hjk; exact hjun
     ·rw [getD_set_ne true hjk] at hun; exact hun
    ·rw [Array.setIfInBounds_comm _ _ hji]
     exact h3.2.2
theorem anyM_take {i : Nat} {oi om : Oper} {v : Value} {f : Nat} {l : Array Bool} {a : Act} {w : World} (hi : ops[i]? = some oi) (hom : ops[m]? = some om) (hwait : (om.after.any fun e => Region.binds md e && e.on == i) = true) (him : i ≠ m)
  (hs : Region.noSelect ops = true) (hf : Region.free md ops l i = true) (hr : (Region.ready md ops l).contains i = true)
  (hQ : ∀ c a w, Q (.panic c) (a.put oi.dst v) w → Q (.panic c) a w) (hy : YieldsIf P ops C oi v a) (hm : l.getD m true = false) (hC : C w)
  (h : anyM P md ops Q C m f (l.setIfInBounds i true) (a.put oi.dst v) w) : anyM P md ops Q C m (f + 1) l a w :=
 anyM_first hi hom (by
  obtain ⟨k, hk, hb⟩ := Array.any_eq_true.1 hwait
  rw [Bool.and_eq_true] at hb
  exact ⟨_, Array.getElem_mem hk, hb.1, by simpa using hb.2⟩) him (Region.noSelect_spec hs) hQ f l a w (Region.free_spec hi hf) (by simpa using hr) hy hm hC h
theorem anyM_first0 {i : Nat} {oi : Oper} {v : Value} (hi : ops[i]? = some oi) (him : i ≠ m)
  (hsel : ∀ (j : Nat) (o : Oper) cs b, ops[j]? = some o → o.op ≠ .select cs b) (hQ : ∀ c a w, Q (.panic c) (a.put oi.dst v) w → Q (.panic c) a w) :
  ∀ (f : Nat) (l : Array Bool) (a : Act) (w : World),
    (∀ j oj, ops[j]? = some oj → j ≠ i → l.getD j true = false → (∀ e ∈ oj.after, Region.binds md e = true → e.on ≠ i) → oi.apart ops oj = true) →
    i ∈ Region.ready md ops l → YieldsIf P ops (fun _ => True) oi v a → Until C m l w →
    anyM P md ops Q C m f (l.setIfInBounds i true) (a.put oi.dst v) w → anyM P md ops Q C m (f + 1) l a w := by
 have one : ∀ (f : Nat) (l : Array Bool) (a : Act) (w : World), YieldsIf P ops (fun _ => True) oi v a → Until C m l w → anyM P md ops Q C m f (l.setIfInBounds i true) (a.put oi.dst v) w →
   wpOp P ops Q i (fun a' w' => Until C m (l.setIfInBounds i true) w' ∧ anyM P md ops Q C m f (l.setIfInBounds i true) a' w') a w :=
  fun f l a w hy hU H => hy.wpOp hi trivial ⟨fun h => hU (by rwa [getD_set_ne true him] at h), H⟩
 intro f
 induction f with
 | zero =>
   intro l a w _ hr hy hU H
   refine ⟨fun h => (by rw [h] at hr; cases hr), fun j hj => ?_⟩
   by_cases hji : j = i
   ·subst hji; exact one 0 l a w hy hU H
   ·have := ready_mono hj hji
    rw [H.1] at this; cases this
 | succ f ih =>
   intro l a w hfree hr hy hU H
   refine ⟨fun h => (by rw [h] at hr; cases hr), fun j hj => ?_⟩
   by_cases hji : j = i
   ·subst hji; exact one (f + 1) l a w hy hU H
   ·obtain ⟨hjun, oj, hoj, hall⟩ := mem_ready.1 hj
    have hiun := (mem_ready.1 hr).1
    have hno : ∀ e ∈ oj.after, Region.binds md e = true → e.on ≠ i := fun e he hb heq => both_no hiun (heq ▸ hall e he hb)
    have hstep := wpOp_putIf (S := fun _ => True) hoj (hfree j oj hoj hji hjun hno) (fun cs b => hsel i oi cs b hi) (fun cs b => hsel j oj cs b hoj) hQ hy (H.2 j (ready_mono hj hji))
    refine wpOp_mono (fun a' w' h3 => ?_) hstep
    have hU2 : Until C m (l.setIfInBounds j true) w' := fun hm => h3.2.1 (by rw [Array.setIfInBounds_comm _ _ (Ne.symm hji), getD_set_ne true him]; exact hm)
    refine ⟨hU2, ih (l.setIfInBounds j true) a' w' (fun k ok hk hki hun hno' => ?_) (ready_mono hr (Ne.symm hji)) h3.1 hU2 ?_⟩
    ·refine hfree k ok hk hki ?_ hno'
     by_cases hjk : j = k
     ·subst hjk; exact hjun
     ·rw [getD_set_ne true hjk] at hun; exact hun
    ·rw [Array.setIfInBounds_comm _ _ hji]
     exact h3.2.2
theorem anyM_take0 {i : Nat} {oi : Oper} {v : Value} {f : Nat} {l : Array Bool} {a : Act} {w : World} (hi : ops[i]? = some oi) (him : i ≠ m)
  (hs : Region.noSelect ops = true) (hf : Region.free md ops l i = true) (hr : (Region.ready md ops l).contains i = true)
  (hQ : ∀ c a w, Q (.panic c) (a.put oi.dst v) w → Q (.panic c) a w) (hy : YieldsIf P ops (fun _ => True) oi v a) (hU : Until C m l w)
  (h : anyM P md ops Q C m f (l.setIfInBounds i true) (a.put oi.dst v) w) : anyM P md ops Q C m (f + 1) l a w :=
 anyM_first0 hi him (Region.noSelect_spec hs) hQ f l a w (Region.free_spec hi hf) (by simpa using hr) hy hU h
def ReadyM (P : Program) (md : Region.Mode) (ops : Array Oper) (Q : Exit → Act → World → Prop) (C : World → Prop) (m : Nat) (f : Nat) (l : Array Bool) (a : Act) (w : World) (rs : List Nat) : Prop :=
 ∀ i ∈ rs, wpOp P ops Q i (fun a' w' => Until C m (l.setIfInBounds i true) w' ∧ anyM P md ops Q C m f (l.setIfInBounds i true) a' w') a w
theorem ReadyM.nil {f : Nat} {l : Array Bool} {a : Act} {w : World} : ReadyM P md ops Q C m f l a w [] := fun _ h => by cases h
theorem ReadyM.cons {f : Nat} {l : Array Bool} {a : Act} {w : World} {i : Nat} {o : Oper} {rs : List Nat} (ho : ops[i]? = some o)
  (h : ∀ K' : Act → World → Prop, Shut (∀ a w, Until C m (l.setIfInBounds i true) w → anyM P md ops Q C m f (l.setIfInBounds i true) a w → K' a w) → if Region.wanted o (yielded ops a.tmps) = true then Oper.wp P o a w K' Q else K' (a.put o.dst undef) w)
  (hs : ReadyM P md ops Q C m f l a w rs) : ReadyM P md ops Q C m f l a w (i :: rs) := fun j hj => by
 rcases List.mem_cons.1 hj with rfl | hj
 ·exact wpOp_step ho (fun K' hK => h K' (fun a w hS hW => hK a w ⟨hS, hW⟩))
 ·exact hs j hj
theorem anyM_ready {rs : List Nat} {f : Nat} {l : Array Bool} {a : Act} {w : World} (hr : Region.ready md ops l = rs) (hne : rs ≠ []) (h : ReadyM P md ops Q C m f l a w rs) : anyM P md ops Q C m (f + 1) l a w :=
 ⟨fun h0 => absurd (hr ▸ h0) hne, hr ▸ h⟩
theorem anyM_done {l : Array Bool} {a : Act} {w : World} (hr : Region.ready md ops l = []) (h : Q .normal a w) : ∀ f, anyM P md ops Q C m f l a w
 | 0 => ⟨hr, h⟩
 | _ + 1 => ⟨fun _ => h, by rw [hr]; simp⟩
theorem wp_region_until {id : Nat} {a : Act} {w : World} (C : World → Prop) (m : Nat) (hm : P.follows .mixedOrders = true)
  (h : anyM P .any ops Q C m ops.size (Array.replicate ops.size false) a w.drew) : (Code.region id ops true).wp P Q a w :=
 wp_region_any hm (anyM_any _ _ _ _ h)
end
end Go.Proofs.YtimjmjmpaicdbaaGreatDoor
namespace Go.Proofs.YtimjmjmpaicdbaaGreatDoor
open Go.RowKit Go.Sort Go.Shelf
def Ars (w : World) (a : Option Addr) (n : Nat) (la lo ra : Nat → Int) : Prop :=
 0 < n → ∃ b off, a = some ⟨b, off, none⟩ ∧ b < w.heap.size ∧ ∀ i, i < n → w.cell? ⟨b, off + i * 3, none⟩ = some (.int .i64 (la i)) ∧ w.cell? ⟨b, off + i * 3 + 1, none⟩ = some (.int .i64 (lo i)) ∧ w.cell? ⟨b, off + i * 3 + 2, none⟩ = some (.int .i64 (ra i))
theorem Ars.keep {w w' : World} {a : Option Addr} {n : Nat} {la lo ra : Nat → Int} (h : Ars w a n la lo ra) (hb : Below w.heap.size w w') : Ars w' a n la lo ra := by
 intro h0
 obtain ⟨b, off, rfl, hlt, hc⟩ := h h0
 exact ⟨b, off, rfl, Nat.lt_of_lt_of_le hlt hb.size, fun i hi => ⟨(hb.cell (p := ⟨b, off + i * 3, none⟩) hlt).trans (hc i hi).1, (hb.cell (p := ⟨b, off + i * 3 + 1, none⟩) hlt).trans (hc i hi).2.1, (hb.cell (p := ⟨b, off + i * 3 + 2, none⟩) hlt).trans (hc i hi).2.2⟩⟩
def Fd.hit (near : Nat → Bool) : Nat → Bool
 | 0 => false
 | n + 1 => Fd.hit near n || near n
structure Ph.Like (p r : Ph) (kw kp kt : Bool) : Prop where
 id : r.id = p.id
 mom : r.mom = p.mom
 zone : r.zone = p.zone
 W : r.W = p.W
 H : r.H = p.H
 turn : r.turn = p.turn
 stars : r.stars = p.stars
 file : r.file = p.file
 hid : r.hid = p.hid
 cap : r.cap = if kt = true then p.cap else ⟨#[]⟩
 wn : r.wn = if kw = true then p.wn else 0
 tn : r.tn = if kt = true then p.tn else 0
 pn : r.pn = if kp = true then p.pn else 0
 lat : r.lat = p.lat
 lon : r.lon = p.lon
 tag : r.tag = p.tag
 who : r.who = p.who
theorem Ph.Like.same {p r s : Ph} {kw kp kt : Bool} (h : p.Like r kw kp kt) (g : p.Like s kw kp kt) : r.same s = true := by
 have hw : r.wn = s.wn := h.wn.trans g.wn.symm
 have ht : r.tn = s.tn := h.tn.trans g.tn.symm
 have hp : r.pn = s.pn := h.pn.trans g.pn.symm
 refine Ph.same_yes ?_ ?_ ?_ ?_ ?_ ?_ ?_ ?_ ?_ ?_ ?_ ?_ ?_
 ·rw [h.id, g.id]; simp
 ·rw [h.file, g.file]; simp
 ·rw [h.mom, g.mom]; simp
 ·rw [h.zone, g.zone]; simp
 ·rw [hw, h.lat, g.lat, h.lon, g.lon]; exact Fd.eqRow_self _ _ (fun i => by simp)
 ·rw [h.W, g.W]; simp
 ·rw [h.H, g.H]; simp
 ·rw [h.turn, g.turn]; simp
 ·rw [h.stars, g.stars]; simp
 ·rw [ht, h.tag, g.tag]; exact Fd.eqRow_self _ _ (fun i => by simp)
 ·rw [h.cap, g.cap]; simp
 ·rw [hp, h.who, g.who]; exact Fd.eqRow_self _ _ (fun i => by simp)
 ·rw [h.hid, g.hid]; simp
def Ph.cl (p : Ph) (kw kp kt : Bool) (a1 : Option Addr) (c1 : Nat) (a2 : Option Addr) (c2 : Nat) (a3 : Option Addr) (c3 : Nat) : Ph :=
 { p with wa := if kw = true then a1 else none, wn := if kw = true then p.wn else 0, wc := if kw = true then c1 else 0, ta := if kt = true then a2 else none, tn := if kt = true then p.tn else 0, tc := if kt = true then c2 else 0, cap := if kt = true then p.cap else ⟨#[]⟩, pa := if kp = true then a3 else none, pn := if kp = true then p.pn else 0, pc := if kp = true then c3 else 0 }
namespace Hd
noncomputable def dist (a o a' o' : Int) : Int := Classical.choose (distW_is a o a' o')
theorem dist_is (a o a' o' : Int) : ∃ e : Int, ∀ w : World, Calls Tryz.prog 137 #[.agg #[.int .i64 a, .int .i64 o], .agg #[.int .i64 a', .int .i64 o']] w fun r w' => r = .returned (.tuple #[.int .i64 (dist a o a' o'), .int .i64 e]) ∧ Below w.heap.size w w' :=
 Classical.choose_spec (distW_is a o a' o')
def lowC (c : UInt8) : UInt8 := if 65 ≤ c ∧ c ≤ 90 then c + 32 else c
def low (s : ByteArray) : ByteArray := ⟨⟨s.data.toList.map lowC⟩⟩
theorem low_size (s : ByteArray) : (low s).size = s.size := by
 show (⟨(s.data.toList.map lowC)⟩ : Array UInt8).size = s.data.size
 simp
def all (f : Nat → Bool) : Nat → Bool
 | 0 => true
 | n + 1 => all f n && f n
theorem all_no {f : Nat → Bool} {n j : Nat} (hj : j < n) (h : f j = false) : all f n = false := by
 induction n with
 | zero => omega
 | succ n ih =>
   unfold all
   by_cases e : j = n
   ·subst e; rw [h]; simp
   ·rw [ih (by omega)]; rfl
theorem all_yes {f : Nat → Bool} {n : Nat} (h : ∀ j, j < n → f j = true) : all f n = true := by
 induction n with
 | zero => rfl
 | succ n ih => unfold all; rw [ih (fun j hj => h j (by omega)), h n (by omega)]; rfl
theorem hit_yes {f : Nat → Bool} {n j : Nat} (hj : j < n) (h : f j = true) : Fd.hit f n = true := by
 induction n with
 | zero => omega
 | succ n ih =>
   unfold Fd.hit
   by_cases e : j = n
   ·subst e; rw [h]; simp
   ·rw [ih (by omega)]; rfl
theorem hit_no {f : Nat → Bool} {n : Nat} (h : ∀ j, j < n → f j = false) : Fd.hit f n = false := by
 induction n with
 | zero => rfl
 | succ n ih => unfold Fd.hit; rw [ih (fun j hj => h j (by omega)), h n (by omega)]; rfl
def tall (p : Ph) : Int := if 4 < p.turn then p.W - p.H else p.H - p.W
def box (a o a0 o0 a1 o1 : Int) : Bool := if a0 ≤ a ∧ a ≤ a1 then (if o0 ≤ o1 then decide (o0 ≤ o ∧ o ≤ o1) else decide (o0 ≤ o ∨ o ≤ o1)) else false
noncomputable def leaf (p : Ph) (op : Int) (text : ByteArray) (lo hi : Int) (lat lon : Nat → Int) : Bool :=
 if op = 4 then Fd.hit (fun i => text.toList == (p.tag i).toList) p.tn
 else if op = 5 then Lib.contains (low p.cap).data.toList (low text).data.toList
 else if op = 6 then Fd.hit (fun i => lo == p.who i) p.pn
 else if op = 7 then decide (lo ≤ p.stars ∧ p.stars ≤ hi)
 else if op = 8 then decide (0 ≤ p.mom) && decide (lo ≤ p.mom + 60 * p.zone ∧ p.mom + 60 * p.zone ≤ hi)
 else if op = 9 then decide (0 < tall p)
 else if op = 10 then decide (tall p < 0)
 else if op = 11 then decide (tall p = 0)
 else if op = 12 then !(p.turn == 1)
 else if op = 13 then decide (0 < p.wn)
 else if op = 14 then decide (0 < p.wn) && decide (dist (p.lat 0) (p.lon 0) (lat 0) (lon 0) ≤ lo)
 else if op = 15 then decide (0 < p.wn) && box (p.lat 0) (p.lon 0) (lat 0) (lon 0) (lat 1) (lon 1)
 else p.hid
theorem leaf4 {p : Ph} {text : ByteArray} {lo hi : Int} {lat lon : Nat → Int} : leaf p 4 text lo hi lat lon = Fd.hit (fun i => text.toList == (p.tag i).toList) p.tn := rfl
theorem leaf5 {p : Ph} {text : ByteArray} {lo hi : Int} {lat lon : Nat → Int} : leaf p 5 text lo hi lat lon = Lib.contains (low p.cap).data.toList (low text).data.toList := rfl
theorem leaf6 {p : Ph} {text : ByteArray} {lo hi : Int} {lat lon : Nat → Int} : leaf p 6 text lo hi lat lon = Fd.hit (fun i => lo == p.who i) p.pn := rfl
theorem leaf7 {p : Ph} {text : ByteArray} {lo hi : Int} {lat lon : Nat → Int} : leaf p 7 text lo hi lat lon = decide (lo ≤ p.stars ∧ p.stars ≤ hi) := rfl
theorem leaf8 {p : Ph} {text : ByteArray} {lo hi : Int} {lat lon : Nat → Int} : leaf p 8 text lo hi lat lon = (decide (0 ≤ p.mom) && decide (lo ≤ p.mom + 60 * p.zone ∧ p.mom + 60 * p.zone ≤ hi)) := rfl
theorem leaf9 {p : Ph} {text : ByteArray} {lo hi : Int} {lat lon : Nat → Int} : leaf p 9 text lo hi lat lon = decide (0 < tall p) := rfl
theorem leaf10 {p : Ph} {text : ByteArray} {lo hi : Int} {lat lon : Nat → Int} : leaf p 10 text lo hi lat lon = decide (tall p < 0) := rfl
theorem leaf11 {p : Ph} {text : ByteArray} {lo hi : Int} {lat lon : Nat → Int} : leaf p 11 text lo hi lat lon = decide (tall p = 0) := rfl
theorem leaf12 {p : Ph} {text : ByteArray} {lo hi : Int} {lat lon : Nat → Int} : leaf p 12 text lo hi lat lon = (!(p.turn == 1)) := rfl
theorem leaf13 {p : Ph} {text : ByteArray} {lo hi : Int} {lat lon : Nat → Int} : leaf p 13 text lo hi lat lon = decide (0 < p.wn) := rfl
theorem leaf14 {p : Ph} {text : ByteArray} {lo hi : Int} {lat lon : Nat → Int} : leaf p 14 text lo hi lat lon = (decide (0 < p.wn) && decide (dist (p.lat 0) (p.lon 0) (lat 0) (lon 0) ≤ lo)) := rfl
theorem leaf15 {p : Ph} {text : ByteArray} {lo hi : Int} {lat lon : Nat → Int} : leaf p 15 text lo hi lat lon = (decide (0 < p.wn) && box (p.lat 0) (p.lon 0) (lat 0) (lon 0) (lat 1) (lon 1)) := rfl
theorem leaf16 {p : Ph} {text : ByteArray} {lo hi : Int} {lat lon : Nat → Int} : leaf p 16 text lo hi lat lon = p.hid := rfl
end Hd
noncomputable def Cnd.holds (p : Ph) : Cnd → Bool
 | .zero => false
 | .mk op ka kn kc kids text low high aa an ac lat lon =>
   if op = 1 then Hd.all (fun i => (kids i).holds p) kn
   else if op = 2 then Fd.hit (fun i => (kids i).holds p) kn
   else if op = 3 then !(kids 0).holds p
   else Hd.leaf p op text low high lat lon
theorem Cnd.holds_eq {p : Ph} {c : Cnd} (h : c ≠ .zero) : c.holds p = if c.op = 1 then Hd.all (fun i => (c.kids i).holds p) c.kn else if c.op = 2 then Fd.hit (fun i => (c.kids i).holds p) c.kn else if c.op = 3 then !(c.kids 0).holds p else Hd.leaf p c.op c.text c.low c.high c.lat c.lon := by
 cases c with
 | zero => exact absurd rfl h
 | mk => rfl
def Cnd.Good : Cnd → Prop
 | .zero => False
 | .mk op ka kn kc kids text low high aa an ac lat lon => (Cnd.bareE op kn text low high an lat lon = 0 ∧ kn ≤ 100) ∧ ∀ i, i < kn → (kids i).Good
theorem Cnd.Good.bare {c : Cnd} (h : c.Good) : Cnd.bareE c.op c.kn c.text c.low c.high c.an c.lat c.lon = 0 := by
 cases c with
 | zero => exact h.elim
 | mk => exact h.1.1
theorem Cnd.Good.few {c : Cnd} (h : c.Good) : c.kn ≤ 100 := by
 cases c with
 | zero => exact h.elim
 | mk => exact h.1.2
theorem Cnd.Good.ne {c : Cnd} (h : c.Good) : c ≠ .zero := by
 rintro rfl; exact h
theorem Cnd.Good.each {c : Cnd} (h : c.Good) (i : Nat) (hi : i < c.kn) : (c.kids i).Good := by
 cases c with
 | zero => exact h.elim
 | mk => exact h.2 i hi
theorem Cnd.Good.op {c : Cnd} (h : c.Good) : 1 ≤ c.op ∧ c.op ≤ 16 := by
 by_cases g : 1 ≤ c.op ∧ c.op ≤ 16
 ·exact g
 ·have := h.bare; rw [Cnd.bareE_kind g] at this; cases this
theorem Cnd.Good.form {c : Cnd} (h : c.Good) : Cnd.formB c.op c.kn c.an c.text c.low c.high = true := by
 cases g : Cnd.formB c.op c.kn c.an c.text c.low c.high
 ·have := h.bare; rw [Cnd.bareE_form h.op g] at this; cases this
 ·rfl
theorem Cnd.Good.textOk {c : Cnd} (h : c.Good) : Cnd.textE c.op c.text = 0 := by
 by_cases g : Cnd.textE c.op c.text = 0
 ·exact g
 ·have := h.bare; rw [Cnd.bareE_text h.op h.form rfl g] at this; exact absurd this g
theorem Cnd.Good.kid1 {c : Cnd} (h : c.Good) (h3 : c.op = 3) : c.kn = 1 := by
 by_cases g : c.kn = 1
 ·exact g
 ·have := h.form; rw [Cnd.formB_kids_B _ _ _ _ _ _ h3 g] at this; cases this
theorem Cnd.Good.at1 {c : Cnd} (h : c.Good) (h3 : c.op = 14) : c.an = 1 := by
 by_cases g : c.an = 1
 ·exact g
 ·have := h.form; rw [Cnd.formB_at_I _ _ _ _ _ _ h3 g] at this; cases this
theorem Cnd.Good.at2 {c : Cnd} (h : c.Good) (h3 : c.op = 15) : c.an = 2 := by
 by_cases g : c.an = 2
 ·exact g
 ·have := h.form; rw [Cnd.formB_at_J _ _ _ _ _ _ h3 g] at this; cases this
theorem Cnd.Good.says {c : Cnd} (h : c.Good) (h3 : c.op = 5) : 1 ≤ c.text.size ∧ c.text.size ≤ 200 := by
 by_cases g : 1 ≤ c.text.size ∧ c.text.size ≤ 200
 ·exact g
 ·have := h.textOk; unfold Cnd.textE at this; rw [if_neg (by omega), if_pos h3, if_neg g] at this; cases this
theorem Cnd.ahead_more {c : Cnd} (h : c ≠ .zero) (d : Nat) {l : List (Cnd × Nat)} (hl : l.length ≤ 100) : l.length + 1 ≤ (Cnd.ahead c d l).length := by
 by_cases hd : d ≤ 12
 ·rw [Cnd.ahead_eq h hl hd]
  obtain ⟨m, hm⟩ := Cnd.aheadK_pre (f := fun i => Cnd.ahead (c.kids i) (d + 1)) (fun i l => Cnd.ahead_pre _ _ _) c.kn (l ++ [(c, d)])
  rw [hm]; simp <;> omega
 ·rw [Cnd.ahead_deep h hl (by omega)]; simp
theorem Cnd.good_ahead (w : World) : ∀ (c : Cnd) (d : Nat) (l : List (Cnd × Nat)), c.In w → Cnd.errL 0 (Cnd.ahead c d l) = 0 → c.Good := by
 refine Cnd.ind (fun d l h => absurd rfl h.ne) fun c hne ih d l hI he => ?_
 have hl : Cnd.errL 0 l = 0 := by
  by_cases g : Cnd.errL 0 l = 0
  ·exact g
  ·obtain ⟨m, hm⟩ := Cnd.ahead_pre c d l
   rw [hm, Cnd.errL_pre g] at he
   exact absurd he g
 have hle := Cnd.errL_le hl
 have hlt : l.length < 100 ∧ d ≤ 12 := by
  by_cases g : l.length = 100 ∨ 12 < d
  ·rw [Cnd.ahead_large hne hl g] at he; cases he
  ·omega
 have hb : c.bare = 0 := by
  by_cases g : c.bare = 0
  ·exact g
  ·rw [Cnd.ahead_bad hne hl hlt.1 hlt.2 g] at he; exact absurd he g
 rw [Cnd.ahead_eq hne (by omega) hlt.2] at he
 have hk : ∀ i, i < c.kn → (c.kids i).Good := by
  intro i hi
  refine ih i (d + 1) (Cnd.aheadK (fun i => Cnd.ahead (c.kids i) (d + 1)) i (l ++ [(c, d)])) (hI.each i hi) ?_
  by_cases g : Cnd.errL 0 (Cnd.aheadK (fun i => Cnd.ahead (c.kids i) (d + 1)) (i + 1) (l ++ [(c, d)])) = 0
  ·rw [Cnd.aheadK] at g; exact g
  ·rw [Cnd.aheadK_more (fun i l => Cnd.ahead_pre _ _ _) _ (i + 1) c.kn (by omega) g] at he; exact absurd he g
 rw [Cnd.bare_eq hne] at hb
 have hn : ∀ j, j ≤ c.kn → j ≤ (Cnd.aheadK (fun i => Cnd.ahead (c.kids i) (d + 1)) j (l ++ [(c, d)])).length := by
  intro j
  induction j with
  | zero => intro _; omega
  | succ j ihj =>
    intro hj
    have h1 := ihj (by omega)
    have h0 : Cnd.errL 0 (Cnd.aheadK (fun i => Cnd.ahead (c.kids i) (d + 1)) j (l ++ [(c, d)])) = 0 := by
     by_cases g : Cnd.errL 0 (Cnd.aheadK (fun i => Cnd.ahead (c.kids i) (d + 1)) j (l ++ [(c, d)])) = 0
     ·exact g
     ·rw [Cnd.aheadK_more (fun i l => Cnd.ahead_pre _ _ _) _ j c.kn (by omega) g] at he; exact absurd he g
    have h2 := Cnd.ahead_more (c := c.kids j) (hI.each j (by omega)).ne (d + 1) (Cnd.errL_le h0)
    rw [Cnd.aheadK]; omega
 have hn2 := hn c.kn (Nat.le_refl _)
 have hn3 := Cnd.errL_le he
 cases c with
 | zero => exact absurd rfl hne
 | mk => exact ⟨⟨hb, Nat.le_trans hn2 hn3⟩, hk⟩
theorem Cnd.good_of {w : World} {c : Cnd} (hI : c.In w) (h : c.err = 0) : c.Good := Cnd.good_ahead w c 0 [] hI h
structure Ph.Right (p : Ph) : Prop where
 fits : p.Fits
 shape : (1 ≤ p.W ∧ p.W ≤ 100000) ∧ (1 ≤ p.H ∧ p.H ≤ 100000) ∧ (1 ≤ p.turn ∧ p.turn ≤ 8)
 time : (-1 ≤ p.mom ∧ p.mom ≤ 6311433599) ∧ (-840 ≤ p.zone ∧ p.zone ≤ 840)
 cap : p.cap.size ≤ 200
theorem Ph.right_of {p : Ph} (hF : p.Fits) (h : p.err = 0) : p.Right := by
 unfold Ph.err at h
 split at h
 ·split at h
  ·split at h
   ·rename_i hw
    unfold Fd.whenB at hw
    have hw := of_decide_eq_true hw
    split at h
    ·omega
    ·split at h
     ·omega
     ·split at h
      ·rename_i hs
       unfold Fd.shapeB at hs
       have hs := of_decide_eq_true hs
       unfold Ph.words at h
       split at h
       ·omega
       ·split at h
        ·split at h
         ·omega
         ·exact ⟨hF, ⟨hs.1, hs.2.1, hs.2.2.1⟩, ⟨hw.1, hw.2.1⟩, by omega⟩
        ·rename_i hne; exact absurd h hne
      ·omega
   ·omega
  ·omega
 ·omega

theorem hasS_is (a : Option Addr) (n ca : Nat) (f : Nat → ByteArray) (x : ByteArray) (w : World) (hr : Row w a n (fun i => .string (f i))) (hn : n ≤ 9223372036854775807) :
  Calls Tryz.prog 121 #[.slice a n ca, .string x] w fun e w' => e = .returned (.bool (Fd.hit (fun i => x.toList == ByteArray.toList (f i)) n)) ∧ Below w.heap.size w w' := by
 have HR := Lib.hid hr
 have HY := Lib.hid (fun j (hj : j < n) (h : (x.toList == ByteArray.toList (f j)) = true) => Hd.hit_yes (f := fun i => x.toList == ByteArray.toList (f i)) hj h)
 have HN := Lib.hid (fun (h : ∀ j, j < n → (x.toList == ByteArray.toList (f j)) = false) => Hd.hit_no (f := fun i => x.toList == ByteArray.toList (f i)) h)
 clear hr
 generalize Fd.hit (fun i => x.toList == ByteArray.toList (f i)) n = q at *
 go_enter Tryz.func121, Tryz.ntmps121
 go_wp2_with fail
 go_loopg [9] n (fun gk i wr => ∃ j : Nat, j ≤ n ∧ gk = n - j ∧ i = .int .i64 j ∧ (∀ k, k < j → (x.toList == ByteArray.toList (f k)) = false) ∧ Below w.heap.size w wr)
 case atStart => exact ⟨0, by omega, rfl, rfl, fun k hk => by omega, Below.refl _ _⟩
 case round =>
  obtain ⟨j, hj, rfl, rfl, hall, hB⟩ := hrel
  have HALL := Lib.hid hall; clear hall
  by_cases hlt : j < n
  ·obtain ⟨b, off, rfl, hb, hcell⟩ := (HR.out.keep hB) (by omega)
   have c0 : wr.cell? ⟨b, off + j, none⟩ = some (.string (f j)) := hcell j hlt
   clear hcell
   obtain ⟨y, hy⟩ : ∃ y, f j = y := ⟨_, rfl⟩
   rw [hy] at c0
   have HE := Lib.hid hy; clear hy
   cases he : (x.toList == ByteArray.toList y)
   ·have HF := Lib.hid (show (x.toList == ByteArray.toList (f j)) = false by rw [HE.out]; exact he)
    go_wp2_with fail
    go_roundg (n - (j + 1))
    case rel => exact ⟨j + 1, by omega, rfl, by go_num, fun k hk => by (by_cases e : k = j); (subst e; exact HF.out); exact HALL.out k (by omega), (by first | exact hB | exact below_allocs hB _)⟩
    case measure => omega
   ·have HF := Lib.hid (HY.out j hlt (by rw [HE.out]; exact he))
    go_wp2_with fail
    go_ret
    exact ⟨ret_bool HF.out.symm, (by first | exact hB | exact below_allocs hB _)⟩
  ·obtain rfl : j = n := by omega
   go_wp2_with fail
   go_ret
   exact ⟨ret_bool (HN.out HALL.out).symm, hB⟩

theorem hasI_is (a : Option Addr) (n ca : Nat) (f : Nat → Int) (x : Int) (w : World) (hr : Row w a n (fun i => .int .i64 (f i))) (hn : n ≤ 9223372036854775807) :
  Calls Tryz.prog 126 #[.slice a n ca, .int .i64 x] w fun e w' => e = .returned (.bool (Fd.hit (fun i => x == (f i)) n)) ∧ Below w.heap.size w w' := by
 have HR := Lib.hid hr
 have HY := Lib.hid (fun j (hj : j < n) (h : (x == (f j)) = true) => Hd.hit_yes (f := fun i => x == (f i)) hj h)
 have HN := Lib.hid (fun (h : ∀ j, j < n → (x == (f j)) = false) => Hd.hit_no (f := fun i => x == (f i)) h)
 clear hr
 generalize Fd.hit (fun i => x == (f i)) n = q at *
 go_enter Tryz.func126, Tryz.ntmps126
 go_wp2_with fail
 go_loopg [9] n (fun gk i wr => ∃ j : Nat, j ≤ n ∧ gk = n - j ∧ i = .int .i64 j ∧ (∀ k, k < j → (x == (f k)) = false) ∧ Below w.heap.size w wr)
 case atStart => exact ⟨0, by omega, rfl, rfl, fun k hk => by omega, Below.refl _ _⟩
 case round =>
  obtain ⟨j, hj, rfl, rfl, hall, hB⟩ := hrel
  have HALL := Lib.hid hall; clear hall
  by_cases hlt : j < n
  ·obtain ⟨b, off, rfl, hb, hcell⟩ := (HR.out.keep hB) (by omega)
   have c0 : wr.cell? ⟨b, off + j, none⟩ = some (.int .i64 (f j)) := hcell j hlt
   clear hcell
   obtain ⟨y, hy⟩ : ∃ y, f j = y := ⟨_, rfl⟩
   rw [hy] at c0
   have HE := Lib.hid hy; clear hy
   cases he : (x == y)
   ·have HF := Lib.hid (show (x == (f j)) = false by rw [HE.out]; exact he)
    go_wp2_with fail
    go_roundg (n - (j + 1))
    case rel => exact ⟨j + 1, by omega, rfl, by go_num, fun k hk => by (by_cases e : k = j); (subst e; exact HF.out); exact HALL.out k (by omega), (by first | exact hB | exact below_allocs hB _)⟩
    case measure => omega
   ·have HF := Lib.hid (HY.out j hlt (by rw [HE.out]; exact he))
    go_wp2_with fail
    go_ret
    exact ⟨ret_bool HF.out.symm, (by first | exact hB | exact below_allocs hB _)⟩
  ·obtain rfl : j = n := by omega
   go_wp2_with fail
   go_ret
   exact ⟨ret_bool (HN.out HALL.out).symm, hB⟩

theorem hdIndexS (a : Option Addr) (n ca : Nat) (f : Nat → ByteArray) (x : ByteArray) (w : World) (hr : Row w a n (fun i => .string (f i))) (hn : n ≤ 9223372036854775807) :
  Calls Tryz.prog 181 #[.slice a n ca, .string x] w fun e w' => (∃ r : Int, e = .returned (.int .i64 r) ∧ ((Fd.hit (fun i => x.toList == ByteArray.toList (f i)) n = true ∧ 0 ≤ r) ∨ (Fd.hit (fun i => x.toList == ByteArray.toList (f i)) n = false ∧ r = -1))) ∧ w = w' := by
 have HR := Lib.hid hr; clear hr
 go_enter Tryz.func181, Tryz.ntmps181
 go_wp2_with fail
 go_loopg [8] n (fun gk i wr => ∃ j : Nat, j ≤ n ∧ gk = n - j ∧ i = .int .i64 j ∧ (∀ k, k < j → (x.toList == ByteArray.toList (f k)) = false) ∧ w = wr)
 case atStart => exact ⟨0, by omega, rfl, rfl, fun k hk => by omega, rfl⟩
 case round =>
  obtain ⟨j, hj, rfl, rfl, hall, rfl⟩ := hrel
  have HALL := Lib.hid hall; clear hall
  by_cases hlt : j < n
  ·obtain ⟨b, off, rfl, hb, hcell⟩ := HR.out (by omega)
   have c0 : w.cell? ⟨b, off + j, none⟩ = some (.string (f j)) := hcell j hlt
   clear hcell
   obtain ⟨y, hy⟩ : ∃ y, f j = y := ⟨_, rfl⟩
   rw [hy] at c0
   have HE := Lib.hid hy; clear hy
   cases he : (x.toList == ByteArray.toList y)
   ·have HF := Lib.hid (show (x.toList == ByteArray.toList (f j)) = false by rw [HE.out]; exact he)
    go_wp2_with fail
    go_roundg (n - (j + 1))
    case rel => exact ⟨j + 1, by omega, rfl, by go_num, fun k hk => by (by_cases e : k = j); (subst e; exact HF.out); exact HALL.out k (by omega), rfl⟩
    case measure => omega
   ·have HF := Lib.hid (Hd.hit_yes (f := fun i => x.toList == ByteArray.toList (f i)) hlt (by simp only [HE.out]; exact he))
    go_wp2_with fail
    go_ret
    exact ⟨⟨j, rfl, .inl ⟨HF.out, by omega⟩⟩, rfl⟩
  ·obtain rfl : j = n := by omega
   go_wp2_with fail
   go_ret
   exact ⟨⟨-1, rfl, .inr ⟨Hd.hit_no HALL.out, rfl⟩⟩, rfl⟩
theorem hdContS (a : Option Addr) (n ca : Nat) (f : Nat → ByteArray) (x : ByteArray) (w : World) (hr : Row w a n (fun i => .string (f i))) (hn : n ≤ 9223372036854775807) :
  Calls Tryz.prog 145 #[.slice a n ca, .string x] w fun e w' => e = .returned (.bool (Fd.hit (fun i => x.toList == ByteArray.toList (f i)) n)) ∧ w = w' := by
 have HI := Lib.hid (hdIndexS a n ca f x w hr hn)
 clear hr
 generalize Fd.hit (fun i => x.toList == ByteArray.toList (f i)) n = q at *
 go_enter Tryz.func145, Tryz.ntmps145
 go_wp2_with (go_at_call 181; refine HI.out.mono ?_; rintro e w' ⟨⟨r, rfl, hr⟩, rfl⟩; have HR := Lib.hid hr; clear hr)
 go_ret
 refine ⟨ret_bool ?_, rfl⟩
 rcases HR.out with ⟨h, h0⟩ | ⟨h, rfl⟩
 ·rw [h]; simpa using h0
 ·rw [h]; rfl

theorem hdIndexI (a : Option Addr) (n ca : Nat) (f : Nat → Int) (x : Int) (w : World) (hr : Row w a n (fun i => .int .i64 (f i))) (hn : n ≤ 9223372036854775807) :
  Calls Tryz.prog 182 #[.slice a n ca, .int .i64 x] w fun e w' => (∃ r : Int, e = .returned (.int .i64 r) ∧ ((Fd.hit (fun i => x == (f i)) n = true ∧ 0 ≤ r) ∨ (Fd.hit (fun i => x == (f i)) n = false ∧ r = -1))) ∧ w = w' := by
 have HR := Lib.hid hr; clear hr
 go_enter Tryz.func182, Tryz.ntmps182
 go_wp2_with fail
 go_loopg [8] n (fun gk i wr => ∃ j : Nat, j ≤ n ∧ gk = n - j ∧ i = .int .i64 j ∧ (∀ k, k < j → (x == (f k)) = false) ∧ w = wr)
 case atStart => exact ⟨0, by omega, rfl, rfl, fun k hk => by omega, rfl⟩
 case round =>
  obtain ⟨j, hj, rfl, rfl, hall, rfl⟩ := hrel
  have HALL := Lib.hid hall; clear hall
  by_cases hlt : j < n
  ·obtain ⟨b, off, rfl, hb, hcell⟩ := HR.out (by omega)
   have c0 : w.cell? ⟨b, off + j, none⟩ = some (.int .i64 (f j)) := hcell j hlt
   clear hcell
   obtain ⟨y, hy⟩ : ∃ y, f j = y := ⟨_, rfl⟩
   rw [hy] at c0
   have HE := Lib.hid hy; clear hy
   cases he : (x == y)
   ·have HF := Lib.hid (show (x == (f j)) = false by rw [HE.out]; exact he)
    go_wp2_with fail
    go_roundg (n - (j + 1))
    case rel => exact ⟨j + 1, by omega, rfl, by go_num, fun k hk => by (by_cases e : k = j); (subst e; exact HF.out); exact HALL.out k (by omega), rfl⟩
    case measure => omega
   ·have HF := Lib.hid (Hd.hit_yes (f := fun i => x == (f i)) hlt (by simp only [HE.out]; exact he))
    go_wp2_with fail
    go_ret
    exact ⟨⟨j, rfl, .inl ⟨HF.out, by omega⟩⟩, rfl⟩
  ·obtain rfl : j = n := by omega
   go_wp2_with fail
   go_ret
   exact ⟨⟨-1, rfl, .inr ⟨Hd.hit_no HALL.out, rfl⟩⟩, rfl⟩
theorem hdContI (a : Option Addr) (n ca : Nat) (f : Nat → Int) (x : Int) (w : World) (hr : Row w a n (fun i => .int .i64 (f i))) (hn : n ≤ 9223372036854775807) :
  Calls Tryz.prog 147 #[.slice a n ca, .int .i64 x] w fun e w' => e = .returned (.bool (Fd.hit (fun i => x == (f i)) n)) ∧ w = w' := by
 have HI := Lib.hid (hdIndexI a n ca f x w hr hn)
 clear hr
 generalize Fd.hit (fun i => x == (f i)) n = q at *
 go_enter Tryz.func147, Tryz.ntmps147
 go_wp2_with (go_at_call 182; refine HI.out.mono ?_; rintro e w' ⟨⟨r, rfl, hr⟩, rfl⟩; have HR := Lib.hid hr; clear hr)
 go_ret
 refine ⟨ret_bool ?_, rfl⟩
 rcases HR.out with ⟨h, h0⟩ | ⟨h, rfl⟩
 ·rw [h]; simpa using h0
 ·rw [h]; rfl
theorem higher_is (p : Ph) (hp : p.Right) (w : World) : Calls Tryz.prog 130 #[.agg #[.int .i64 p.id, .string p.file, .int .i64 p.mom, .int .i64 p.zone, .slice p.wa p.wn p.wc, .int .i64 p.W, .int .i64 p.H, .int .i64 p.turn, .int .i64 p.stars, .slice p.ta p.tn p.tc, .string p.cap, .slice p.pa p.pn p.pc, .bool p.hid]] w fun e w' => e = .returned (.int .i64 (Hd.tall p)) ∧ Below w.heap.size w w' := by
 obtain ⟨⟨a1, a2⟩, ⟨b1, b2⟩, c1, c2⟩ := hp.shape
 obtain ⟨W1, hW1, hP, hz1, hB1⟩ := bxP w p
 have HW1 := Lib.hid hW1
 clear hW1 hz1
 obtain ⟨q0, q1, q2, q3, q4, q5, q6, q7, q8, q9, q10, q11, q12⟩ := hP.photo
 unfold Hd.tall
 by_cases h : 4 < p.turn
 ·rw [if_pos h]
  have h5 : 5 ≤ p.turn := by omega
  have e1 : IntKind.i64.wrap (p.W - p.H) = p.W - p.H := by rw [IntKind.wrap_i64]; omega
  go_enter Tryz.func130, Tryz.ntmps130
  go_wp2_with fail
  rw [HW1.out]
  go_wp2_with fail
  go_ret
  exact ⟨rfl, hB1⟩
 ·rw [if_neg h]
  have h5 : ¬ 5 ≤ p.turn := by omega
  have e1 : IntKind.i64.wrap (p.H - p.W) = p.H - p.W := by rw [IntKind.wrap_i64]; omega
  go_enter Tryz.func130, Tryz.ntmps130
  go_wp2_with fail
  rw [HW1.out]
  go_wp2_with fail
  go_ret
  exact ⟨rfl, hB1⟩
theorem inBox_is (a o : Int) (x : Option Addr) (n ca : Nat) (lat lon : Nat → Int) (w : World) (hr : Row2 w x n (fun i => .int .i64 (lat i)) (fun i => .int .i64 (lon i))) (hn : n = 2) :
  Calls Tryz.prog 139 #[.agg #[.int .i64 a, .int .i64 o], .slice x n ca] w fun e w' => e = .returned (.bool (Hd.box a o (lat 0) (lon 0) (lat 1) (lon 1))) ∧ Below w.heap.size w w' := by
 subst hn
 obtain ⟨W1, hW1, hP, hz1, hB1⟩ := box w #[.int .i64 a, .int .i64 o] 112
 have HW1 := Lib.hid hW1
 obtain ⟨b, off, rfl, hb, hc⟩ := (hr.keep hB1) (by omega)
 have x0 := (hc 0 (by omega)).1; have x1 := (hc 0 (by omega)).2; have x2 := (hc 1 (by omega)).1; have x3 := (hc 1 (by omega)).2
 simp only [Nat.zero_mul, Nat.one_mul, Nat.add_zero] at x0 x1 x2 x3
 generalize lat 0 = a0 at *; generalize lon 0 = o0 at *; generalize lat 1 = a1 at *; generalize lon 1 = o1 at *
 obtain ⟨p0, p1⟩ := hP.two
 clear hW1 hz1 hr hc
 have k0 := cell_regrown x0; have k1 := cell_regrown x1; have k2 := cell_regrown x2; have k3 := cell_regrown x3; have m0 := cell_regrown p0; have m1 := cell_regrown p1
 unfold Hd.box
 cases h1 : decide (a0 ≤ a ∧ a ≤ a1)
 ·rw [if_neg (of_decide_eq_false h1)]
  have HO := Lib.hid (fun dd os => Calls.regrown_of ((outsideF_is a a0 a1 false h1 (grow (redrawn W1 dd) os)).mono fun e w' h => ⟨h.1, h.2 ▸ Below.refl _ _⟩))
  clear h1
  go_enter Tryz.func139, Tryz.ntmps139
  go_wp2_with fail
  rw [HW1.out]
  refine wp_region_quiet_below (by kernel_rfl) (by kernel_rfl) ?_
  repeat (go_big_quiet_step ((go_at_call 32; with_reducible exact HO.out _ _)))
  refine wpQuiet_nil ?_
  intro _ hw'
  obtain ⟨⟨dq, osq⟩, hw''⟩ := hw'
  subst hw''
  have hBy3 := below_regrown W1 dq osq
  generalize grow (redrawn W1 dq) osq = y3 at *
  clear dq osq
  go_wp2_with fail
  go_ret
  exact ⟨rfl, below_up hB1 hBy3⟩
 ·rw [if_pos (of_decide_eq_true h1)]
  have HO := Lib.hid (fun dd os => Calls.regrown_of ((outsideF_is a a0 a1 true h1 (grow (redrawn W1 dd) os)).mono fun e w' h => ⟨h.1, h.2 ▸ Below.refl _ _⟩))
  clear h1
  by_cases h2 : o0 ≤ o1
  ·rw [if_pos h2]
   have HP := Lib.hid (fun V => outsideF_is o o0 o1 (decide (o0 ≤ o ∧ o ≤ o1)) rfl V)
   go_enter Tryz.func139, Tryz.ntmps139
   go_wp2_with fail
   rw [HW1.out]
   refine wp_region_quiet_below (by kernel_rfl) (by kernel_rfl) ?_
   repeat (go_big_quiet_step ((go_at_call 32; with_reducible exact HO.out _ _)))
   refine wpQuiet_nil ?_
   intro _ hw'
   obtain ⟨⟨dq, osq⟩, hw''⟩ := hw'
   subst hw''
   have hBy3 := below_regrown W1 dq osq
   generalize grow (redrawn W1 dq) osq = y3 at *
   clear dq osq
   have hP := hP.keep hBy3
   have x0' := (hBy3.cell (p := ⟨b, off, none⟩) hb).trans x0; have x1' := (hBy3.cell (p := ⟨b, off + 1, none⟩) hb).trans x1; have x2' := (hBy3.cell (p := ⟨b, off + 2, none⟩) hb).trans x2; have x3' := (hBy3.cell (p := ⟨b, off + 2 + 1, none⟩) hb).trans x3
   obtain ⟨p0', p1'⟩ := hP.two
   have hb' := Nat.lt_of_lt_of_le hb hBy3.size
   clear k0 k1 k2 k3 m0 m1 x0 x1 x2 x3 p0 p1
   have k0 := cell_regrown x0'; have k1 := cell_regrown x1'; have k2 := cell_regrown x2'; have k3 := cell_regrown x3'
   go_wp2_with fail
   refine wp_region_quiet_below (by kernel_rfl) (by kernel_rfl) ?_
   repeat (go_big_quiet_step (fail))
   refine wpQuiet_nil ?_
   intro _ hw'
   obtain ⟨⟨dq, osq⟩, hw''⟩ := hw'
   subst hw''
   have hBy4 := below_regrown y3 dq osq
   generalize grow (redrawn y3 dq) osq = y4 at *
   clear dq osq
   obtain ⟨p0', p1'⟩ := (hP.keep hBy4).two
   clear k0 k1 k2 k3
   go_wp2_with (go_at_call 32; (with_reducible refine (HP.out _).mono ?_); rintro e w7 ⟨rfl, rfl⟩)
   go_ret
   exact ⟨ret_bool (by simp), below_up hB1 (below_up hBy3 hBy4)⟩
  ·rw [if_neg h2]
   have h2' : decide (o0 ≤ o1) = false := by simpa using h2
   go_enter Tryz.func139, Tryz.ntmps139
   go_wp2_with fail
   rw [HW1.out]
   refine wp_region_quiet_below (by kernel_rfl) (by kernel_rfl) ?_
   repeat (go_big_quiet_step ((go_at_call 32; with_reducible exact HO.out _ _)))
   refine wpQuiet_nil ?_
   intro _ hw'
   obtain ⟨⟨dq, osq⟩, hw''⟩ := hw'
   subst hw''
   have hBy3 := below_regrown W1 dq osq
   generalize grow (redrawn W1 dq) osq = y3 at *
   clear dq osq
   have hP := hP.keep hBy3
   have x0' := (hBy3.cell (p := ⟨b, off, none⟩) hb).trans x0; have x1' := (hBy3.cell (p := ⟨b, off + 1, none⟩) hb).trans x1; have x2' := (hBy3.cell (p := ⟨b, off + 2, none⟩) hb).trans x2; have x3' := (hBy3.cell (p := ⟨b, off + 2 + 1, none⟩) hb).trans x3
   obtain ⟨p0', p1'⟩ := hP.two
   have hb' := Nat.lt_of_lt_of_le hb hBy3.size
   clear k0 k1 k2 k3 m0 m1 x0 x1 x2 x3 p0 p1
   have k0 := cell_regrown x0'; have k1 := cell_regrown x1'; have k2 := cell_regrown x2'; have k3 := cell_regrown x3'
   go_wp2_with fail
   refine wp_region_quiet_below (by kernel_rfl) (by kernel_rfl) ?_
   repeat (go_big_quiet_step (fail))
   refine wpQuiet_nil ?_
   intro _ hw'
   obtain ⟨⟨dq, osq⟩, hw''⟩ := hw'
   subst hw''
   have hBy4 := below_regrown y3 dq osq
   generalize grow (redrawn y3 dq) osq = y4 at *
   clear dq osq
   obtain ⟨p0', p1'⟩ := (hP.keep hBy4).two
   clear k0 k1 k2 k3
   by_cases h3 : o0 ≤ o
   ·go_wp2_with fail
    go_ret
    exact ⟨ret_bool (by simp <;> omega), below_up hB1 (below_up hBy3 hBy4)⟩
   ·go_wp2_with fail
    go_ret
    exact ⟨ret_bool (by simp <;> omega), below_up hB1 (below_up hBy3 hBy4)⟩
structure LowAt (w0 w : World) (s : ByteArray) (b j : Nat) : Prop where
 cell : ∀ k, k < s.size → w.cell? ⟨b, k, none⟩ = some (.int .u8 ((if k < j then Hd.lowC (s.data.toList.getD k 0) else s.data.toList.getD k 0).toNat : Int))
 free : ∀ k, k < s.size → w.frozen? ⟨b, k, none⟩ = false
 bel : Below b w0 w
theorem LowAt.start (w : World) (e : TypeId) (s : ByteArray) (cap : Nat) (W : World) (hW : w.drew.alloc (.cells (bytesRow s cap) e ((bytesRow s cap).size, (bytesRow s cap).size + 1)) = W) : LowAt w W s w.heap.size 0 := by
 subst hW
 refine ⟨fun k hk => ?_, fun k hk => ?_, ?_⟩
 ·rw [if_neg (by omega)]
  refine (World.cell?_alloc_mark w.drew _ _ _ k).trans ?_
  rw [bytesRow_at s cap k hk]
  simp [List.getD, Array.getElem?_toList, Array.getElem?_eq_getElem (show k < s.data.size from hk)]
 ·refine (World.frozen?_alloc_mark w.drew _ _ _ _ k).trans ?_
  have : k < (bytesRow s cap).size := by
   have hk' : k < s.data.size := hk
   unfold bytesRow
   simp
   omega
  simp
  omega
 ·exact below_allocs (Below.refl _ w).drew _
theorem LowAt.set {w0 w : World} {s : ByteArray} {b j : Nat} (h : LowAt w0 w s b j) (hj : j < s.size) (v : Int) (hv : v = ((Hd.lowC (s.data.toList.getD j 0)).toNat : Int)) : LowAt w0 (w.setCell ⟨b, j, none⟩ (.int .u8 v)) s b (j + 1) := by
 subst hv
 refine ⟨fun k hk => ?_, fun k hk => ?_, h.bel.setCell (by exact Nat.le_refl _) _⟩
 ·by_cases e : k = j
  ·subst e
   rw [World.cell?_setCell_same _ _ _ (h.cell k hk), if_pos (by omega)]
  ·rw [World.cell?_setCell_other _ _ _ _ (by simp <;> omega), h.cell k hk]
   by_cases g : k < j
   ·rw [if_pos g, if_pos (by omega)]
   ·rw [if_neg g, if_neg (by omega)]
 ·rw [World.frozen?_setCell]; exact h.free k hk
theorem LowAt.skip {w0 w : World} {s : ByteArray} {b j : Nat} (h : LowAt w0 w s b j) (hv : Hd.lowC (s.data.toList.getD j 0) = s.data.toList.getD j 0) : LowAt w0 w s b (j + 1) := by
 refine ⟨fun k hk => ?_, h.free, h.bel⟩
 rw [h.cell k hk]
 by_cases e : k = j
 ·subst e; rw [if_neg (by omega), if_pos (by omega), hv]
 ·by_cases g : k < j
  ·rw [if_pos g, if_pos (by omega)]
  ·rw [if_neg g, if_neg (by omega)]
theorem lowC_yes {c : UInt8} (h1 : (65 : Int) ≤ (c.toNat : Int)) (h2 : (c.toNat : Int) ≤ 90) : ((Hd.lowC c).toNat : Int) = (c.toNat : Int) + 32 := by
 unfold Hd.lowC
 have h1' : 65 ≤ c.toNat := by omega
 have h2' : c.toNat ≤ 90 := by omega
 rw [if_pos ⟨by rw [UInt8.le_iff_toNat_le]; exact h1', by rw [UInt8.le_iff_toNat_le]; exact h2'⟩]
 rw [UInt8.toNat_add]
 have : (32 : UInt8).toNat = 32 := rfl
 rw [this]; omega
theorem lowC_no {c : UInt8} (h : ¬ ((65 : Int) ≤ (c.toNat : Int) ∧ (c.toNat : Int) ≤ 90)) : Hd.lowC c = c := by
 unfold Hd.lowC
 rw [if_neg fun g => h ⟨by have := UInt8.le_iff_toNat_le.1 g.1; have e : (65 : UInt8).toNat = 65 := rfl; omega, by have := UInt8.le_iff_toNat_le.1 g.2; have e : (90 : UInt8).toNat = 90 := rfl; omega⟩]
theorem low_bytes (s : ByteArray) : ∀ j (hj : j < (s.data.toList.map Hd.lowC).length), (s.data.toList.map Hd.lowC)[j] = Hd.lowC (s.data.toList.getD j 0) := by
 intro j hj
 have hj' : j < s.data.toList.length := by rw [List.length_map] at hj; exact hj
 rw [List.getElem_map]
 simp [List.getD, List.getElem?_eq_getElem hj']

theorem lower_is (s : ByteArray) (hs : s.size ≤ 200) (w : World) : Calls Tryz.prog 122 #[.string s] w fun e w' => e = .returned (.string (Hd.low s)) ∧ Below w.heap.size w w' := by
 obtain ⟨cap, hcap⟩ : ∃ cap, grownCap w s.size 0 5 = cap := ⟨_, rfl⟩
 have hcv := run_bytes_of_string (P := Tryz.prog) w 9 62 5 s Tryz.underlying9 Tryz.underlying62 Tryz.underlying5
 rw [hcap] at hcv
 obtain ⟨W1, hW1⟩ : ∃ W1, w.drew.alloc (.cells (bytesRow s cap) 5 ((bytesRow s cap).size, (bytesRow s cap).size + 1)) = W1 := ⟨_, rfl⟩
 have HL0 := Lib.hid (LowAt.start w 5 s cap W1 hW1)
 rw [hW1] at hcv
 have hlen : (s.data.toList.map Hd.lowC).length = s.size := by rw [List.length_map]; rfl
 have HBK := Lib.hid (fun (W : World) (c : Nat) (h : LowAt w W s w.heap.size s.size) => run_convert_bytes_back (P := Tryz.prog) W 62 9 5 ⟨w.heap.size, 0, none⟩ c (s.data.toList.map Hd.lowC) Tryz.underlying62 Tryz.underlying5 Tryz.underlying9
  (fun j hj => by
   have := h.cell j (by omega)
   rw [if_pos (by omega)] at this
   rw [low_bytes s j hj, ← this]
   congr 1
   simp [Addr.add] <;> omega))
 rw [hlen] at HBK
 have HW1 := Lib.hid hW1
 clear hW1 hcap hlen
 go_enter Tryz.func122, Tryz.ntmps122
 go_wp2_with fail
 go_loopg [10] s.size (fun gk i wr => ∃ j : Nat, j ≤ s.size ∧ gk = s.size - j ∧ i = .int .i64 j ∧ LowAt w wr s w.heap.size j)
 case atStart => exact ⟨0, by omega, rfl, rfl, HL0.out⟩
 case round =>
  obtain ⟨j, hj, rfl, rfl, hL⟩ := hrel
  have HL := Lib.hid hL
  by_cases hlt : j < s.size
  ·have c0 := hL.cell j hlt
   rw [if_neg (by omega)] at c0
   have f0 := hL.free j hlt
   clear hL
   obtain ⟨u, hu⟩ : ∃ u, s.data.toList.getD j 0 = u := ⟨_, rfl⟩
   rw [hu] at c0
   have HU := Lib.hid hu; clear hu
   obtain ⟨c, hc⟩ : ∃ c : Int, (u.toNat : Int) = c := ⟨_, rfl⟩
   have hc1 : 0 ≤ c ∧ c < 256 := by have := u.toNat_lt; omega
   rw [hc] at c0
   have HCC := Lib.hid hc; clear hc
   by_cases h1 : 65 ≤ c
   ·by_cases h2 : c ≤ 90
    ·have e1 : IntKind.u8.wrap (c + 97) = c + 97 := by rw [IntKind.wrap_u8]; omega
     have e2 : IntKind.u8.wrap (c + 97 - 65) = c + 97 - 65 := by rw [IntKind.wrap_u8]; omega
     have e3 : IntKind.u8.wrap (c + 32) = c + 32 := by rw [IntKind.wrap_u8]; omega
     go_wp2_with fail
     go_roundg (s.size - (j + 1))
     case rel => exact ⟨j + 1, by omega, rfl, by go_num, HL.out.set hlt _ (by rw [HU.out, lowC_yes (by rw [HCC.out]; exact h1) (by rw [HCC.out]; exact h2), HCC.out] <;> omega)⟩
     case measure => omega
    ·go_wp2_with fail
     go_roundg (s.size - (j + 1))
     case rel => exact ⟨j + 1, by omega, rfl, by go_num, HL.out.skip (by rw [HU.out]; exact lowC_no (by rw [HCC.out]; omega))⟩
     case measure => omega
   ·go_wp2_with fail
    go_roundg (s.size - (j + 1))
    case rel => exact ⟨j + 1, by omega, rfl, by go_num, HL.out.skip (by rw [HU.out]; exact lowC_no (by rw [HCC.out]; omega))⟩
    case measure => omega
  ·obtain rfl : j = s.size := by omega
   have hbk := HBK.out wr cap HL.out
   clear hL
   go_wp2_with fail
   go_ret
   exact ⟨rfl, HL.out.bel⟩

theorem small_is (s : ByteArray) (hs : s.size ≤ 200) (w : World) : Calls Tryz.prog 146 #[.string s] w fun e w' => e = .returned (.string (Hd.low s)) ∧ Below w.heap.size w w' := by
 obtain ⟨cap, hcap⟩ : ∃ cap, grownCap w s.size 0 5 = cap := ⟨_, rfl⟩
 have hcv := run_bytes_of_string (P := Tryz.prog) w 9 62 5 s Tryz.underlying9 Tryz.underlying62 Tryz.underlying5
 rw [hcap] at hcv
 obtain ⟨W1, hW1⟩ : ∃ W1, w.drew.alloc (.cells (bytesRow s cap) 5 ((bytesRow s cap).size, (bytesRow s cap).size + 1)) = W1 := ⟨_, rfl⟩
 have HL0 := Lib.hid (LowAt.start w 5 s cap W1 hW1)
 rw [hW1] at hcv
 have hlen : (s.data.toList.map Hd.lowC).length = s.size := by rw [List.length_map]; rfl
 have HBK := Lib.hid (fun (W : World) (c : Nat) (h : LowAt w W s w.heap.size s.size) => run_convert_bytes_back (P := Tryz.prog) W 62 9 5 ⟨w.heap.size, 0, none⟩ c (s.data.toList.map Hd.lowC) Tryz.underlying62 Tryz.underlying5 Tryz.underlying9
  (fun j hj => by
   have := h.cell j (by omega)
   rw [if_pos (by omega)] at this
   rw [low_bytes s j hj, ← this]
   congr 1
   simp [Addr.add] <;> omega))
 rw [hlen] at HBK
 have HW1 := Lib.hid hW1
 clear hW1 hcap hlen
 go_enter Tryz.func146, Tryz.ntmps146
 go_wp2_with fail
 go_loopg [10] s.size (fun gk i wr => ∃ j : Nat, j ≤ s.size ∧ gk = s.size - j ∧ i = .int .i64 j ∧ LowAt w wr s w.heap.size j)
 case atStart => exact ⟨0, by omega, rfl, rfl, HL0.out⟩
 case round =>
  obtain ⟨j, hj, rfl, rfl, hL⟩ := hrel
  have HL := Lib.hid hL
  by_cases hlt : j < s.size
  ·have c0 := hL.cell j hlt
   rw [if_neg (by omega)] at c0
   have f0 := hL.free j hlt
   clear hL
   obtain ⟨u, hu⟩ : ∃ u, s.data.toList.getD j 0 = u := ⟨_, rfl⟩
   rw [hu] at c0
   have HU := Lib.hid hu; clear hu
   obtain ⟨c, hc⟩ : ∃ c : Int, (u.toNat : Int) = c := ⟨_, rfl⟩
   have hc1 : 0 ≤ c ∧ c < 256 := by have := u.toNat_lt; omega
   rw [hc] at c0
   have HCC := Lib.hid hc; clear hc
   by_cases h1 : 65 ≤ c
   ·by_cases h2 : c ≤ 90
    ·have e1 : IntKind.u8.wrap (c + 97) = c + 97 := by rw [IntKind.wrap_u8]; omega
     have e2 : IntKind.u8.wrap (c + 97 - 65) = c + 97 - 65 := by rw [IntKind.wrap_u8]; omega
     have e3 : IntKind.u8.wrap (c + 32) = c + 32 := by rw [IntKind.wrap_u8]; omega
     go_wp2_with fail
     go_roundg (s.size - (j + 1))
     case rel => exact ⟨j + 1, by omega, rfl, by go_num, HL.out.set hlt _ (by rw [HU.out, lowC_yes (by rw [HCC.out]; exact h1) (by rw [HCC.out]; exact h2), HCC.out] <;> omega)⟩
     case measure => omega
    ·go_wp2_with fail
     go_roundg (s.size - (j + 1))
     case rel => exact ⟨j + 1, by omega, rfl, by go_num, HL.out.skip (by rw [HU.out]; exact lowC_no (by rw [HCC.out]; omega))⟩
     case measure => omega
   ·go_wp2_with fail
    go_roundg (s.size - (j + 1))
    case rel => exact ⟨j + 1, by omega, rfl, by go_num, HL.out.skip (by rw [HU.out]; exact lowC_no (by rw [HCC.out]; omega))⟩
    case measure => omega
  ·obtain rfl : j = s.size := by omega
   have hbk := HBK.out wr cap HL.out
   clear hL
   go_wp2_with fail
   go_ret
   exact ⟨rfl, HL.out.bel⟩
end Go.Proofs.YtimjmjmpaicdbaaGreatDoor
