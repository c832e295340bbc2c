/- The law WhenLocal, walked. -/
import Derived.Test.YthldlffkgafgaaaDoorLocAny
import Derived.Test.YthldlffkgafgaaaDoorFdIds
import Derived.Test.YthldlffkgafgaaaDoorTxAwake
namespace Go.Proofs.YthldlffkgafgaaaDoor
open Go.RowKit Go.Sort Go.Shelf
set_option linter.unusedVariables false
set_option maxRecDepth 100000 in
set_option maxHeartbeats 8000000 in
theorem whenLocal_walk (f : Int) (a : Option Addr) (n ca : Nat) (F O : Nat → Int) (w : World) (hr : Row2 w a n (fun i => .int .i64 (F i)) (fun i => .int .i64 (O i))) (t l : Int) (hn : n ≤ 9223372036854775807) (htab : Tx.Tab w) :
    Calls Tryd.prog 5 #[.agg #[.int .i64 f, .slice a n ca], .int .i64 t, .int .i64 l] w fun e w' => e = .returned (.bool true) ∧ Below w.heap.size w w' := by
  obtain ⟨W1, hW1, hP, hz1, hB1⟩ := box w #[.int .i64 f, .slice a n ca] 34
  have HW1 := Lib.hid hW1; have HP := Lib.hid hP; have HB1 := Lib.hid hB1; have HR := Lib.hid hr
  have HA := Lib.hid (fun W hb => awakeWhen_is W (Tx.tab_below (Tx.tab_below htab hB1) hb))
  have HL := Lib.hid (fun x W hr => local_is f a n ca F O W hr x hn)
  have hPn := hP.two
  have hB := Below.refl W1.heap.size W1
  obtain ⟨xs2, E2, ok2, hm2⟩ := moments_any f F O n l hn
  have HM2 := Lib.hid hm2
  have hk2 := ok2.few
  have HL1 := Lib.hid (fun W hr => local_is f a n ca F O W hr t hn)
  obtain ⟨v1, e1, hv⟩ : ∃ v e, Zn.loc f F O n t = (v, e) := ⟨_, _, rfl⟩
  rw [hv] at HL1
  clear hm2 hr htab hW1 hP hB1 hz1
  by_cases c1 : e1 = 0
  · subst c1
    obtain ⟨xs1, E1, ok1, hm1⟩ := moments_any f F O n v1 hn
    have HM1 := Lib.hid hm1
    obtain ⟨hE1, hmem⟩ := ok1.all t hv
    subst hE1
    have hk1 := ok1.few
    have hh : Fd.hasB (fun i => xs1[i]?.getD 0) xs1.length t = true := by
      obtain ⟨i, hi, e⟩ := List.getElem_of_mem hmem
      exact Fd.hasB_yes i hi (by simp [hi, e])
    clear hm1 ok1 hv hmem
    -- the second half: the moments of l, one by one
    by_cases c2 : E2 = 0
    · have hE := ok2.each c2
      have hU := ok2.up
      have c2' : (E2 == 0) = true := by simpa using c2
      have c2'' : (E2 != 0) = false := by simpa using c2
      have hEE := Lib.hid hE; have hUU := Lib.hid hU
      clear c2 ok2 hE hU
      go_enter Tryd.func5, Tryd.ntmps5
      go_wp2_with fail
      rw [HW1.out]
      go_wp2_with (first | (go_at_call 14; refine (HA.out _ hB).mono ?_; rintro e w1 ⟨rfl, hB2⟩; have hB := below_up hB hB2; have hPn := (HP.out.keep hB).two) | (go_at_call 17; (with_reducible refine (HL1.out _ (HR.out.keep (below_up HB1.out hB))).mono ?_); rintro e w2 ⟨rfl, hB2⟩; have hB := below_up hB hB2; have hPn := (HP.out.keep hB).two) | (go_at_call 18; first | ((with_reducible refine (HM1.out _ _ _ (HR.out.keep (below_up HB1.out hB))).mono ?_); rintro e w3 ⟨a1, ca1, rfl, hrow1, hB2⟩; have hB := below_up hB hB2; have hPn := (HP.out.keep hB).two) | ((with_reducible refine (HM2.out _ _ _ (HR.out.keep (below_up HB1.out hB))).mono ?_); rintro e wM ⟨a2, ca2, rfl, hrow2, hB2⟩; have hB := below_up hB hB2; have hPn := (HP.out.keep hB).two)) | (go_at_call 19; refine (contains_is _ _ _ (fun i => xs1[i]?.getD 0) _ _ hrow1 (by omega)).mono ?_; rintro e w4 ⟨rfl, rfl⟩; rw [hh]))
      have HROW := Lib.hid hrow2
      have HB := Lib.hid hB
      clear hB hPn hrow2
      go_loopg [54] xs2.length (fun gk i wr => ∃ j : Nat, j ≤ xs2.length ∧ gk = xs2.length - j ∧ i = .int .i64 j ∧ Below wM.heap.size wM wr)
      case atStart => exact ⟨0, by omega, rfl, rfl, Below.refl _ _⟩
      case round =>
        obtain ⟨j, hj, rfl, rfl, hBr⟩ := hrel
        by_cases hlt : j < xs2.length
        · have hB := below_up HB.out hBr
          have hPn := (HP.out.keep hB).two
          obtain ⟨b, off, rfl, hb, hcell⟩ := (HROW.out.keep hBr) (by omega)
          have c0 : wr.cell? ⟨b, off + j, none⟩ = some (.int .i64 (xs2[j]?.getD 0)) := hcell j hlt
          have hl := hEE.out j hlt
          have HLj := Lib.hid (fun W hr => local_is f a n ca F O W hr (xs2[j]?.getD 0) hn)
          rw [hl] at HLj
          by_cases j0 : j = 0
          · subst j0
            simp only [Nat.add_zero, Int.natCast_zero] at c0 ⊢
            clear hl hcell
            generalize xs2[0]?.getD 0 = x at *
            go_wp2_with (go_at_call 17; (with_reducible refine (HLj.out _ (HR.out.keep (below_up HB1.out hB))).mono ?_); rintro e w2 ⟨rfl, hB2⟩)
            go_roundg (xs2.length - (0 + 1))
            case rel => exact ⟨0 + 1, by omega, rfl, by go_num, below_up hBr hB2⟩
            case measure => omega
          · have d0 : wr.cell? ⟨b, off + (j - 1), none⟩ = some (.int .i64 (xs2[j - 1]?.getD 0)) := hcell (j - 1) (by omega)
            have hlt2 := hUU.out (j - 1) (by omega)
            rw [show j - 1 + 1 = j by omega] at hlt2
            have j1 : 1 ≤ j := by omega
            have j0' : ((j : Int) == 0) = false := by simpa using j0
            clear hl hcell j0
            generalize xs2[j]?.getD 0 = x at *
            generalize xs2[j - 1]?.getD 0 = y at *
            go_wp2_with (go_at_call 17; (with_reducible refine (HLj.out _ (HR.out.keep (below_up HB1.out hB))).mono ?_); rintro e w2 ⟨rfl, hB2⟩; have d0 := cell_below hB2 d0)
            go_roundg (xs2.length - (j + 1))
            case rel => exact ⟨j + 1, by omega, rfl, by go_num, below_up hBr hB2⟩
            case measure => omega
        · obtain rfl : j = xs2.length := by omega
          go_wp2_with fail
          go_ret
          exact ⟨rfl, below_up HB1.out (below_up HB.out hBr)⟩
    · have hx := ok2.bad c2
      have c2' : (E2 == 0) = false := by simpa using c2
      have c2'' : (E2 != 0) = true := by simpa using c2
      subst hx
      clear c2 ok2
      go_enter Tryd.func5, Tryd.ntmps5
      go_wp2_with fail
      rw [HW1.out]
      go_wp2_with (first | (go_at_call 14; refine (HA.out _ hB).mono ?_; rintro e w1 ⟨rfl, hB2⟩; have hB := below_up hB hB2; have hPn := (HP.out.keep hB).two) | (go_at_call 17; (with_reducible refine (HL1.out _ (HR.out.keep (below_up HB1.out hB))).mono ?_); rintro e w2 ⟨rfl, hB2⟩; have hB := below_up hB hB2; have hPn := (HP.out.keep hB).two) | (go_at_call 18; first | ((with_reducible refine (HM1.out _ _ _ (HR.out.keep (below_up HB1.out hB))).mono ?_); rintro e w3 ⟨a1, ca1, rfl, hrow1, hB2⟩; have hB := below_up hB hB2; have hPn := (HP.out.keep hB).two) | ((with_reducible refine (HM2.out _ _ _ (HR.out.keep (below_up HB1.out hB))).mono ?_); rintro e wM ⟨a2, ca2, rfl, hrow2, hB2⟩; have hB := below_up hB hB2; have hPn := (HP.out.keep hB).two)) | (go_at_call 19; refine (contains_is _ _ _ (fun i => xs1[i]?.getD 0) _ _ hrow1 (by omega)).mono ?_; rintro e w4 ⟨rfl, rfl⟩; rw [hh]))
      go_ret
      exact ⟨rfl, below_up HB1.out hB⟩
  · have c1' : (e1 == 0) = false := by simpa using c1
    have HM1 := Lib.hid True.intro
    clear hv c1
    -- the second half: the moments of l, one by one
    by_cases c2 : E2 = 0
    · have hE := ok2.each c2
      have hU := ok2.up
      have c2' : (E2 == 0) = true := by simpa using c2
      have c2'' : (E2 != 0) = false := by simpa using c2
      have hEE := Lib.hid hE; have hUU := Lib.hid hU
      clear c2 ok2 hE hU
      go_enter Tryd.func5, Tryd.ntmps5
      go_wp2_with fail
      rw [HW1.out]
      go_wp2_with (first | (go_at_call 14; refine (HA.out _ hB).mono ?_; rintro e w1 ⟨rfl, hB2⟩; have hB := below_up hB hB2; have hPn := (HP.out.keep hB).two) | (go_at_call 17; (with_reducible refine (HL1.out _ (HR.out.keep (below_up HB1.out hB))).mono ?_); rintro e w2 ⟨rfl, hB2⟩; have hB := below_up hB hB2; have hPn := (HP.out.keep hB).two) | (go_at_call 18; first | ((with_reducible refine (HM1.out _ _ _ (HR.out.keep (below_up HB1.out hB))).mono ?_); rintro e w3 ⟨a1, ca1, rfl, hrow1, hB2⟩; have hB := below_up hB hB2; have hPn := (HP.out.keep hB).two) | ((with_reducible refine (HM2.out _ _ _ (HR.out.keep (below_up HB1.out hB))).mono ?_); rintro e wM ⟨a2, ca2, rfl, hrow2, hB2⟩; have hB := below_up hB hB2; have hPn := (HP.out.keep hB).two)) | (go_at_call 19; refine (contains_is _ _ _ (fun i => xs1[i]?.getD 0) _ _ hrow1 (by omega)).mono ?_; rintro e w4 ⟨rfl, rfl⟩; rw [hh]))
      have HROW := Lib.hid hrow2
      have HB := Lib.hid hB
      clear hB hPn hrow2
      go_loopg [54] xs2.length (fun gk i wr => ∃ j : Nat, j ≤ xs2.length ∧ gk = xs2.length - j ∧ i = .int .i64 j ∧ Below wM.heap.size wM wr)
      case atStart => exact ⟨0, by omega, rfl, rfl, Below.refl _ _⟩
      case round =>
        obtain ⟨j, hj, rfl, rfl, hBr⟩ := hrel
        by_cases hlt : j < xs2.length
        · have hB := below_up HB.out hBr
          have hPn := (HP.out.keep hB).two
          obtain ⟨b, off, rfl, hb, hcell⟩ := (HROW.out.keep hBr) (by omega)
          have c0 : wr.cell? ⟨b, off + j, none⟩ = some (.int .i64 (xs2[j]?.getD 0)) := hcell j hlt
          have hl := hEE.out j hlt
          have HLj := Lib.hid (fun W hr => local_is f a n ca F O W hr (xs2[j]?.getD 0) hn)
          rw [hl] at HLj
          by_cases j0 : j = 0
          · subst j0
            simp only [Nat.add_zero, Int.natCast_zero] at c0 ⊢
            clear hl hcell
            generalize xs2[0]?.getD 0 = x at *
            go_wp2_with (go_at_call 17; (with_reducible refine (HLj.out _ (HR.out.keep (below_up HB1.out hB))).mono ?_); rintro e w2 ⟨rfl, hB2⟩)
            go_roundg (xs2.length - (0 + 1))
            case rel => exact ⟨0 + 1, by omega, rfl, by go_num, below_up hBr hB2⟩
            case measure => omega
          · have d0 : wr.cell? ⟨b, off + (j - 1), none⟩ = some (.int .i64 (xs2[j - 1]?.getD 0)) := hcell (j - 1) (by omega)
            have hlt2 := hUU.out (j - 1) (by omega)
            rw [show j - 1 + 1 = j by omega] at hlt2
            have j1 : 1 ≤ j := by omega
            have j0' : ((j : Int) == 0) = false := by simpa using j0
            clear hl hcell j0
            generalize xs2[j]?.getD 0 = x at *
            generalize xs2[j - 1]?.getD 0 = y at *
            go_wp2_with (go_at_call 17; (with_reducible refine (HLj.out _ (HR.out.keep (below_up HB1.out hB))).mono ?_); rintro e w2 ⟨rfl, hB2⟩; have d0 := cell_below hB2 d0)
            go_roundg (xs2.length - (j + 1))
            case rel => exact ⟨j + 1, by omega, rfl, by go_num, below_up hBr hB2⟩
            case measure => omega
        · obtain rfl : j = xs2.length := by omega
          go_wp2_with fail
          go_ret
          exact ⟨rfl, below_up HB1.out (below_up HB.out hBr)⟩
    · have hx := ok2.bad c2
      have c2' : (E2 == 0) = false := by simpa using c2
      have c2'' : (E2 != 0) = true := by simpa using c2
      subst hx
      clear c2 ok2
      go_enter Tryd.func5, Tryd.ntmps5
      go_wp2_with fail
      rw [HW1.out]
      go_wp2_with (first | (go_at_call 14; refine (HA.out _ hB).mono ?_; rintro e w1 ⟨rfl, hB2⟩; have hB := below_up hB hB2; have hPn := (HP.out.keep hB).two) | (go_at_call 17; (with_reducible refine (HL1.out _ (HR.out.keep (below_up HB1.out hB))).mono ?_); rintro e w2 ⟨rfl, hB2⟩; have hB := below_up hB hB2; have hPn := (HP.out.keep hB).two) | (go_at_call 18; first | ((with_reducible refine (HM1.out _ _ _ (HR.out.keep (below_up HB1.out hB))).mono ?_); rintro e w3 ⟨a1, ca1, rfl, hrow1, hB2⟩; have hB := below_up hB hB2; have hPn := (HP.out.keep hB).two) | ((with_reducible refine (HM2.out _ _ _ (HR.out.keep (below_up HB1.out hB))).mono ?_); rintro e wM ⟨a2, ca2, rfl, hrow2, hB2⟩; have hB := below_up hB hB2; have hPn := (HP.out.keep hB).two)) | (go_at_call 19; refine (contains_is _ _ _ (fun i => xs1[i]?.getD 0) _ _ hrow1 (by omega)).mono ?_; rintro e w4 ⟨rfl, rfl⟩; rw [hh]))
      go_ret
      exact ⟨rfl, below_up HB1.out hB⟩
end Go.Proofs.YthldlffkgafgaaaDoor
