/- The law WhenParts, walked. -/
import Derived.Test.YthldlffkgafgaaaDoorPartMath
import Derived.Test.YthldlffkgafgaaaDoorPartFn
import Derived.Test.YthldlffkgafgaaaDoorBstIs
import Derived.Test.YthldlffkgafgaaaDoorFdIds
import Derived.Test.YthldlffkgafgaaaDoorTxAwake
namespace Go.Proofs.YthldlffkgafgaaaDoor
open Go.RowKit Go.Sort Go.Shelf
set_option linter.unusedVariables false
set_option maxRecDepth 100000 in
set_option maxHeartbeats 8000000 in
theorem whenParts_walk (a : Option Addr) (xs : List Int) (ca : Nat) (gap : Int) (w : World) (hr : RowL w a xs) (hl : xs.length ≤ 9223372036854775807) (htab : Tx.Tab w) :
    Calls Tryd.prog 6 #[.slice a xs.length ca, .int .i64 gap] w fun e w' => e = .returned (.bool true) ∧ Below w.heap.size w w' := by
  have HR := Lib.hid hr
  have HA := Lib.hid (awakeWhen_is w htab)
  have HB := Lib.hid (fun V (hV : Below w.heap.size w V) => bur_is a xs ca gap V (hr.keep hV) hl)
  have HOK := Lib.hid (Bst.res_ok xs gap)
  unfold BurPost at HB
  generalize Bst.res xs gap = ps at *
  generalize Bst.err xs gap = E at *
  clear hr htab
  by_cases h0 : E = 0
  · obtain ⟨hgood, hpl, hxl, hg0, hmom⟩ := HOK.out.good h0
    subst h0
    have HG := Lib.hid hgood
    have HMM := Lib.hid hmom
    have HCON : Hid (∀ (V : World) (x : Int), Below w.heap.size w V → x ∈ xs → ∀ d os, Calls Tryd.prog 19 #[.slice a xs.length ca, .int .i64 x] (grow (redrawn V d) os) fun e w'' => e = .returned (.bool true) ∧ ∃ p : Regrown, w'' = grow (redrawn V p.d) p.os) := by
      intro V x hV hx d os
      refine (contains_is a xs.length ca (fun i => xs[i]?.getD 0) x _ (HR.out.keep (below_up hV (below_regrown V d os))) hl).mono ?_
      rintro e w' ⟨rfl, rfl⟩
      have hh : Fd.hasB (fun i => xs[i]?.getD 0) xs.length x = true := by
        obtain ⟨i, hi, e⟩ := List.getElem_of_mem hx
        exact Fd.hasB_yes i hi (by simp [hi, e])
      exact ⟨by rw [hh], ⟨d, os⟩, rfl⟩
    clear hgood hmom HOK
    go_enter Tryd.func6, Tryd.ntmps6
    go_wp2_with (first | (go_at_call 14; refine HA.out.mono ?_; rintro e w1 ⟨rfl, hB⟩) | (go_at_call 20; refine (HB.out _ hB).mono ?_; rintro e w2 ⟨b1, c1, rfl, hrow, hB2⟩; have hB := below_up hB hB2))
    have HROW := Lib.hid hrow
    have HBB := Lib.hid hB
    clear hB hB2 hrow
    go_loopg [26] ps.length (fun gk i wr => ∃ j : Nat, j ≤ ps.length ∧ gk = ps.length - j ∧ i = .int .i64 j ∧ Below w2.heap.size w2 wr)
    case atStart => exact ⟨0, by omega, rfl, rfl, Below.refl _ _⟩
    case round =>
      obtain ⟨j, hj, rfl, rfl, hBr⟩ := hrel
      by_cases hlt : j < ps.length
      · obtain ⟨b, off, rfl, hb, hcell⟩ := (HROW.out.keep hBr) (by omega)
        obtain ⟨g0, g1⟩ := hcell j hlt
        have d0 : wr.cell? ⟨b, off + j * 2, none⟩ = some (.int .i64 (ps[j]?.getD (0, 0)).1) := g0
        have d1 : wr.cell? ⟨b, off + j * 2 + 1, none⟩ = some (.int .i64 (ps[j]?.getD (0, 0)).2) := g1
        clear g0 g1
        have hmem : ps[j]?.getD (0, 0) ∈ ps := by rw [List.getElem?_eq_getElem hlt, Option.getD_some]; exact List.getElem_mem hlt
        obtain ⟨hpq, m1, m2⟩ := HG.out.ends _ hmem
        have hp1 := HMM.out _ m1
        have hp2 := HMM.out _ m2
        obtain ⟨W3, hW3, hP3, hz3, hb3⟩ := box wr #[.int .i64 (ps[j]?.getD (0, 0)).1, .int .i64 (ps[j]?.getD (0, 0)).2] 45
        have HW3 := Lib.hid hW3
        have hBB := below_up HBB.out (below_up hBr hb3)
        have HC1 := Lib.hid (HCON.out W3 _ hBB m1)
        have HC2 := Lib.hid (HCON.out W3 _ hBB m2)
        obtain ⟨s0, s1⟩ := hP3.two
        have k0 := cell_regrown s0
        have k1 := cell_regrown s1
        have hqp : ¬ (ps[j]?.getD (0, 0)).2 < (ps[j]?.getD (0, 0)).1 := by omega
        by_cases j0 : j = 0
        · subst j0
          simp only [Nat.add_zero, Nat.zero_mul, Int.natCast_zero] at d0 d1 ⊢
          have hqd : decide ((ps[0]?.getD (0, 0)).2 < (ps[0]?.getD (0, 0)).1) = false := decide_eq_false hqp
          have hqf : ((ps[0]?.getD (0, 0)).2 < (ps[0]?.getD (0, 0)).1) = False := eq_false hqp
          clear hcell hmem m1 m2 hW3 hz3 hP3 s0 s1 hqp hp1 hp2 hpq
          generalize (ps[0]?.getD (0, 0)).1 = p at *
          generalize (ps[0]?.getD (0, 0)).2 = q at *
          go_wp2_with fail
          rw [HW3.out]
          -- W3: the world; region R9
          refine wp_region_quiet_below (by kernel_rfl) (by kernel_rfl) ?_
          repeat (go_big_quiet_step ((go_at_call 19; first | with_reducible exact HC1.out _ _ | with_reducible exact HC2.out _ _)))
          refine wpQuiet_nil ?_
          intro _ hw'
          obtain ⟨⟨dq, osq⟩, hw''⟩ := hw'
          subst hw''
          have hBw4 := below_regrown W3 dq osq
          generalize grow (redrawn W3 dq) osq = w4 at *
          clear dq osq
          go_wp2_with fail
          go_roundg (ps.length - (0 + 1))
          case rel => exact ⟨0 + 1, by omega, rfl, by go_num, below_up hBr (below_up hb3 hBw4)⟩
          case measure => omega
        · have hfar := HG.out.far (j - 1) (by omega)
          rw [show j - 1 + 1 = j by omega] at hfar
          obtain ⟨_, g1⟩ := hcell (j - 1) (by omega)
          have e1 : wr.cell? ⟨b, off + (j - 1) * 2 + 1, none⟩ = some (.int .i64 (ps[j - 1]?.getD (0, 0)).2) := g1
          have k2 := cell_regrown (cell_below hb3 e1)
          have hmem' : ps[j - 1]?.getD (0, 0) ∈ ps := by rw [List.getElem?_eq_getElem (by omega), Option.getD_some]; exact List.getElem_mem _
          have hp3 := HMM.out _ (HG.out.ends _ hmem').2.2
          have j1 : 1 ≤ j := by omega
          have hqd : decide ((ps[j]?.getD (0, 0)).2 < (ps[j]?.getD (0, 0)).1) = false := decide_eq_false hqp
          have hqf : ((ps[j]?.getD (0, 0)).2 < (ps[j]?.getD (0, 0)).1) = False := eq_false hqp
          have jd : decide ((0 : Int) < (j : Int)) = true := decide_eq_true (by omega)
          have jt : ((0 : Int) < (j : Int)) = True := eq_true (by omega)
          have jd2 : decide (0 < j) = true := decide_eq_true (by omega)
          have jt2 : (0 < j) = True := eq_true (by omega)
          have hfar' : ¬ (ps[j]?.getD (0, 0)).1 - (ps[j - 1]?.getD (0, 0)).2 ≤ gap := by omega
          have hfd : decide ((ps[j]?.getD (0, 0)).1 - (ps[j - 1]?.getD (0, 0)).2 ≤ gap) = false := decide_eq_false hfar'
          have hff : ((ps[j]?.getD (0, 0)).1 - (ps[j - 1]?.getD (0, 0)).2 ≤ gap) = False := eq_false hfar'
          clear hcell hmem m1 m2 hW3 hz3 hP3 s0 s1 hqp hpq e1 g1 hmem' hfar hfar' j0
          generalize (ps[j]?.getD (0, 0)).1 = p at *
          generalize (ps[j]?.getD (0, 0)).2 = q at *
          generalize (ps[j - 1]?.getD (0, 0)).2 = u at *
          go_wp2_with fail
          rw [HW3.out]
          -- W3: the world; region R9
          refine wp_region_quiet_below (by kernel_rfl) (by kernel_rfl) ?_
          repeat (go_big_quiet_step ((go_at_call 19; first | with_reducible exact HC1.out _ _ | with_reducible exact HC2.out _ _)))
          refine wpQuiet_nil ?_
          intro _ hw'
          obtain ⟨⟨dq, osq⟩, hw''⟩ := hw'
          subst hw''
          have hBw4 := below_regrown W3 dq osq
          generalize grow (redrawn W3 dq) osq = w4 at *
          clear dq osq
          go_wp2_with fail
          go_roundg (ps.length - (j + 1))
          case rel => exact ⟨j + 1, by omega, rfl, by go_num, below_up hBr (below_up hb3 hBw4)⟩
          case measure => omega
      · obtain rfl : j = ps.length := by omega
        have HB1 := Lib.hid (below_up HBB.out hBr)
        have HROW1 := Lib.hid (HROW.out.keep hBr)
        clear hBr hlt hj
        generalize wr = wv at *
        go_wp2_with fail
        go_loopg [70] xs.length (fun gk i wr => ∃ j : Nat, j ≤ xs.length ∧ gk = xs.length - j ∧ i = .int .i64 j ∧ Below wv.heap.size wv wr)
        case atStart => exact ⟨0, by omega, rfl, rfl, Below.refl _ _⟩
        case round =>
          obtain ⟨j, hj, rfl, rfl, hBq⟩ := hrel
          by_cases hlt : j < xs.length
          · obtain ⟨b, off, rfl, hb, hcell⟩ := (HR.out.keep (below_up HB1.out hBq)) (by omega)
            have c0 : wr.cell? ⟨b, off + j, none⟩ = some (.int .i64 (xs[j]?.getD 0)) := hcell j hlt
            have hmem : xs[j]?.getD 0 ∈ xs := by rw [List.getElem?_eq_getElem hlt, Option.getD_some]; exact List.getElem_mem hlt
            obtain ⟨pr, hpr, h1, h2⟩ := HG.out.cov _ hmem
            obtain ⟨i0, hi0, e0⟩ := List.getElem_of_mem hpr
            have e3 : ps[i0]?.getD (0, 0) = pr := by rw [List.getElem?_eq_getElem hi0, Option.getD_some, e0]
            obtain ⟨W3, hW3, hP3, hz3, hb3⟩ := box wr #[.int .i64 (xs[j]?.getD 0)] 3
            have HW3 := Lib.hid hW3
            have HCF := Lib.hid (containsS_any 22 #[.pointer (some ⟨wr.heap.size, 0, none⟩)] (fun x y => decide (x ≤ xs[j]?.getD 0) && decide (xs[j]?.getD 0 ≤ y)) part1_eg b1 ps.length c1 _ _ W3 (by omega) (HROW1.out.keep (below_up hBq hb3))
              (fun i V hi hV => part1_is _ _ _ _ V (hP3.keep hV).one) i0 hi0 (by rw [e3]; simp; omega))
            clear hcell hmem hpr h1 h2 hW3 hP3 hz3
            generalize xs[j]?.getD 0 = x at *
            go_wp2_with fail
            rw [HW3.out]
            go_wp2_with (go_at_call 21; refine HCF.out.mono ?_; rintro e w5 ⟨rfl, hB5⟩)
            go_roundg (xs.length - (j + 1))
            case rel => exact ⟨j + 1, by omega, rfl, by go_num, below_up hBq (below_up hb3 hB5)⟩
            case measure => omega
          · obtain rfl : j = xs.length := by omega
            go_wp2_with fail
            go_ret
            exact ⟨rfl, below_up HB1.out hBq⟩
  · have hx := HOK.out.bad h0
    subst hx
    have k1 : (E == 0) = false := by simpa using h0
    have k2 : (E != 0) = true := by simpa using h0
    clear h0 HOK
    go_enter Tryd.func6, Tryd.ntmps6
    go_wp2_with (first | (go_at_call 14; refine HA.out.mono ?_; rintro e w1 ⟨rfl, hB⟩) | (go_at_call 20; refine (HB.out _ hB).mono ?_; rintro e w2 ⟨b1, c1, rfl, hrow, hB2⟩; have hB := below_up hB hB2))
    go_ret
    exact ⟨ret_bool (by simp), hB⟩
theorem whenParts_z (a : Option Addr) (n ca : Nat) (z : Nat → Int) (gap : Int) (w : World) (hr : Row w a n (fun i => .int .i64 (z i))) (hl : n ≤ 9223372036854775807) (htab : Tx.Tab w) :
    Calls Tryd.prog 6 #[.slice a n ca, .int .i64 gap] w fun e w' => e = .returned (.bool true) ∧ Below w.heap.size w w' := by
  obtain ⟨xs, rfl, h⟩ := rowL_of hr
  exact whenParts_walk a xs ca gap w h hl htab
end Go.Proofs.YthldlffkgafgaaaDoor
