/- readLocal: local seconds of a form with six numbers. -/
import Derived.Test.YthldlffkgafgaaaDoorFits
import Derived.Test.YthldlffkgafgaaaDoorDaysProg
import Derived.Lib.QuietBelow
import Derived.Shelf.Unicode.PredsPay
namespace Go.Proofs.YthldlffkgafgaaaDoor
open Go.RowKit Go.Sort Go.Shelf
set_option linter.unusedVariables false
namespace Ft
/-- The local seconds that six numbers tell. -/
def loc (r : Option (List Int)) : Option Int := match r with
  | some [a, b, c, d, e, f] => if Cal.vld a b c = true ∧ d ≤ 23 ∧ e ≤ 59 ∧ f ≤ 59 then some (Cal.num a b c * 86400 + 3600 * d + 60 * e + f) else none
  | _ => none
/-- The form has six numbers of at most four digits. -/
def Six (r : Option (List Int)) : Prop := ∀ xs, r = some xs → xs.length = 6 ∧ ∀ x ∈ xs, 0 ≤ x ∧ x ≤ 9999
end Ft
set_option maxRecDepth 100000 in
set_option maxHeartbeats 4000000 in
theorem readLocal_is (s form : List UInt8) (hs : s.length ≤ 1000000000000) (hf : Ft.Few form) (h6 : Ft.Six (Ft.res s form)) (w : World) :
    Calls Tryd.prog 58 #[.string (Tx.mk s), .string (Tx.mk form)] w fun e w' => e = .returned (.tuple #[.int .i64 ((Ft.loc (Ft.res s form)).getD 0), .bool (Ft.loc (Ft.res s form)).isSome]) ∧ Below w.heap.size w w' := by
  have HFT := Lib.hid (fits_is s form hs hf w)
  cases hr : Ft.res s form with
  | none =>
    rw [hr] at HFT
    show Calls Tryd.prog 58 #[.string (Tx.mk s), .string (Tx.mk form)] w fun e w' => e = .returned (.tuple #[.int .i64 0, .bool false]) ∧ Below w.heap.size w w'
    clear h6 hr hf
    go_enter Tryd.func58, Tryd.ntmps58
    go_wp2_with (go_at_call 59; refine HFT.out.mono ?_; rintro e w1 (⟨_, rfl, hB⟩ | ⟨xs, a, ca, hx, rfl, _, _⟩); rotate_left; · exact absurd hx (by simp))
    go_ret2
    exact ⟨rfl, hB⟩
  | some xs =>
    rw [hr] at HFT
    obtain ⟨hl6, hbd⟩ := h6 xs hr
    match xs, hl6, hbd, hr, HFT with
    | [x0, x1, x2, x3, x4, x5], _, hbd, hr, HFT =>
      have b0 := hbd x0 (by simp)
      have b1 := hbd x1 (by simp)
      have b2 := hbd x2 (by simp)
      have b3 := hbd x3 (by simp)
      have b4 := hbd x4 (by simp)
      have b5 := hbd x5 (by simp)
      obtain ⟨q, hq⟩ : ∃ q, Ft.loc (some [x0, x1, x2, x3, x4, x5]) = q := ⟨_, rfl⟩
      rw [hq]
      have hq' : (if Cal.vld x0 x1 x2 = true ∧ x3 ≤ 23 ∧ x4 ≤ 59 ∧ x5 ≤ 59 then some (Cal.num x0 x1 x2 * 86400 + 3600 * x3 + 60 * x4 + x5) else none) = q := hq
      clear hbd hr h6 hf hq
      cases hv : Cal.vld x0 x1 x2
      · have HQ : Hid (q = none) := by show _ = _; rw [← hq', if_neg (by rw [hv]; simp)]
        rw [HQ.out]
        clear hq'
        -- fits has told six numbers; the day of three of them by dayOf_no _ _ _ _ hv
        go_enter Tryd.func58, Tryd.ntmps58
        go_wp2_with (go_at_call 59; refine HFT.out.mono ?_; rintro e w1 (⟨hx, rfl, _⟩ | ⟨xs, a, ca, hx, rfl, hrow, hB, _⟩); · exact absurd hx (by simp))
        obtain rfl := (Option.some.inj hx).symm
        obtain ⟨b, off, rfl, hb, hcell⟩ := hrow (by simp)
        have c0 : w1.cell? ⟨b, off, none⟩ = some (.int .i64 x0) := hcell 0 (by simp)
        have c1 : w1.cell? ⟨b, off + 1, none⟩ = some (.int .i64 x1) := hcell 1 (by simp)
        have c2 : w1.cell? ⟨b, off + 2, none⟩ = some (.int .i64 x2) := hcell 2 (by simp)
        have c3 : w1.cell? ⟨b, off + 3, none⟩ = some (.int .i64 x3) := hcell 3 (by simp)
        have c4 : w1.cell? ⟨b, off + 4, none⟩ = some (.int .i64 x4) := hcell 4 (by simp)
        have c5 : w1.cell? ⟨b, off + 5, none⟩ = some (.int .i64 x5) := hcell 5 (by simp)
        have k0 := cell_regrown c0
        have k1 := cell_regrown c1
        have k2 := cell_regrown c2
        have HDAY := Lib.hid (fun d os => Calls.regrown_of (w := w1) (d := d) (os := os) (dayOf_no _ _ _ _ hv))
        clear hcell hx
        go_wp2_with fail
        refine wp_region_quiet_below (by kernel_rfl) (by kernel_rfl) ?_
        repeat (go_big_quiet_step ((go_at_call 32; exact HDAY.out _ _)))
        refine wpQuiet_nil ?_
        intro _ hw'
        obtain ⟨⟨dq, osq⟩, hw''⟩ := hw'
        subst hw''
        have hBw2 := below_regrown w1 dq osq
        generalize grow (redrawn w1 dq) osq = w2 at *
        clear dq osq
        have d3 := cell_below hBw2 c3
        have d4 := cell_below hBw2 c4
        have d5 := cell_below hBw2 c5
        have d0 := cell_below hBw2 c0
        clear k0 k1 k2
        go_wp2_with fail
        go_ret2
        exact ⟨rfl, below_up hB hBw2⟩
      · have hnb := Cal.num_bd x0 x1 x2 hv
        by_cases h3 : x3 ≤ 23
        · by_cases h4 : x4 ≤ 59
          · by_cases h5 : x5 ≤ 59
            · have HQ : Hid (q = some (Cal.num x0 x1 x2 * 86400 + 3600 * x3 + 60 * x4 + x5)) := by show _ = _; rw [← hq', if_pos ⟨hv, h3, h4, h5⟩]
              rw [HQ.out]
              clear hq'
              have HD := fun V => dayOf_yes x0 x1 x2 V hv
              generalize Cal.num x0 x1 x2 = day at *
              -- fits has told six numbers; the day of three of them by HD _
              go_enter Tryd.func58, Tryd.ntmps58
              go_wp2_with (go_at_call 59; refine HFT.out.mono ?_; rintro e w1 (⟨hx, rfl, _⟩ | ⟨xs, a, ca, hx, rfl, hrow, hB, _⟩); · exact absurd hx (by simp))
              obtain rfl := (Option.some.inj hx).symm
              obtain ⟨b, off, rfl, hb, hcell⟩ := hrow (by simp)
              have c0 : w1.cell? ⟨b, off, none⟩ = some (.int .i64 x0) := hcell 0 (by simp)
              have c1 : w1.cell? ⟨b, off + 1, none⟩ = some (.int .i64 x1) := hcell 1 (by simp)
              have c2 : w1.cell? ⟨b, off + 2, none⟩ = some (.int .i64 x2) := hcell 2 (by simp)
              have c3 : w1.cell? ⟨b, off + 3, none⟩ = some (.int .i64 x3) := hcell 3 (by simp)
              have c4 : w1.cell? ⟨b, off + 4, none⟩ = some (.int .i64 x4) := hcell 4 (by simp)
              have c5 : w1.cell? ⟨b, off + 5, none⟩ = some (.int .i64 x5) := hcell 5 (by simp)
              have k0 := cell_regrown c0
              have k1 := cell_regrown c1
              have k2 := cell_regrown c2
              have HDAY := Lib.hid (fun d os => Calls.regrown_of (w := w1) (d := d) (os := os) (HD _))
              clear hcell hx
              go_wp2_with fail
              refine wp_region_quiet_below (by kernel_rfl) (by kernel_rfl) ?_
              repeat (go_big_quiet_step ((go_at_call 32; exact HDAY.out _ _)))
              refine wpQuiet_nil ?_
              intro _ hw'
              obtain ⟨⟨dq, osq⟩, hw''⟩ := hw'
              subst hw''
              have hBw2 := below_regrown w1 dq osq
              generalize grow (redrawn w1 dq) osq = w2 at *
              clear dq osq
              have d3 := cell_below hBw2 c3
              have d4 := cell_below hBw2 c4
              have d5 := cell_below hBw2 c5
              have d0 := cell_below hBw2 c0
              clear k0 k1 k2
              go_wp2_with fail
              go_quiet (fail)
              go_wp2_with fail
              go_ret2
              exact ⟨rfl, below_drewN (below_up hB hBw2) _⟩
            · have HQ : Hid (q = none) := by show _ = _; rw [← hq', if_neg (fun h => h5 h.2.2.2)]
              rw [HQ.out]
              clear hq'
              -- fits has told six numbers; the day of three of them by dayOf_yes _ _ _ _ hv
              go_enter Tryd.func58, Tryd.ntmps58
              go_wp2_with (go_at_call 59; refine HFT.out.mono ?_; rintro e w1 (⟨hx, rfl, _⟩ | ⟨xs, a, ca, hx, rfl, hrow, hB, _⟩); · exact absurd hx (by simp))
              obtain rfl := (Option.some.inj hx).symm
              obtain ⟨b, off, rfl, hb, hcell⟩ := hrow (by simp)
              have c0 : w1.cell? ⟨b, off, none⟩ = some (.int .i64 x0) := hcell 0 (by simp)
              have c1 : w1.cell? ⟨b, off + 1, none⟩ = some (.int .i64 x1) := hcell 1 (by simp)
              have c2 : w1.cell? ⟨b, off + 2, none⟩ = some (.int .i64 x2) := hcell 2 (by simp)
              have c3 : w1.cell? ⟨b, off + 3, none⟩ = some (.int .i64 x3) := hcell 3 (by simp)
              have c4 : w1.cell? ⟨b, off + 4, none⟩ = some (.int .i64 x4) := hcell 4 (by simp)
              have c5 : w1.cell? ⟨b, off + 5, none⟩ = some (.int .i64 x5) := hcell 5 (by simp)
              have k0 := cell_regrown c0
              have k1 := cell_regrown c1
              have k2 := cell_regrown c2
              have HDAY := Lib.hid (fun d os => Calls.regrown_of (w := w1) (d := d) (os := os) (dayOf_yes _ _ _ _ hv))
              clear hcell hx
              go_wp2_with fail
              refine wp_region_quiet_below (by kernel_rfl) (by kernel_rfl) ?_
              repeat (go_big_quiet_step ((go_at_call 32; exact HDAY.out _ _)))
              refine wpQuiet_nil ?_
              intro _ hw'
              obtain ⟨⟨dq, osq⟩, hw''⟩ := hw'
              subst hw''
              have hBw2 := below_regrown w1 dq osq
              generalize grow (redrawn w1 dq) osq = w2 at *
              clear dq osq
              have d3 := cell_below hBw2 c3
              have d4 := cell_below hBw2 c4
              have d5 := cell_below hBw2 c5
              have d0 := cell_below hBw2 c0
              clear k0 k1 k2
              go_wp2_with fail
              go_ret2
              exact ⟨rfl, below_up hB hBw2⟩
          · have HQ : Hid (q = none) := by show _ = _; rw [← hq', if_neg (fun h => h4 h.2.2.1)]
            rw [HQ.out]
            clear hq'
            -- fits has told six numbers; the day of three of them by dayOf_yes _ _ _ _ hv
            go_enter Tryd.func58, Tryd.ntmps58
            go_wp2_with (go_at_call 59; refine HFT.out.mono ?_; rintro e w1 (⟨hx, rfl, _⟩ | ⟨xs, a, ca, hx, rfl, hrow, hB, _⟩); · exact absurd hx (by simp))
            obtain rfl := (Option.some.inj hx).symm
            obtain ⟨b, off, rfl, hb, hcell⟩ := hrow (by simp)
            have c0 : w1.cell? ⟨b, off, none⟩ = some (.int .i64 x0) := hcell 0 (by simp)
            have c1 : w1.cell? ⟨b, off + 1, none⟩ = some (.int .i64 x1) := hcell 1 (by simp)
            have c2 : w1.cell? ⟨b, off + 2, none⟩ = some (.int .i64 x2) := hcell 2 (by simp)
            have c3 : w1.cell? ⟨b, off + 3, none⟩ = some (.int .i64 x3) := hcell 3 (by simp)
            have c4 : w1.cell? ⟨b, off + 4, none⟩ = some (.int .i64 x4) := hcell 4 (by simp)
            have c5 : w1.cell? ⟨b, off + 5, none⟩ = some (.int .i64 x5) := hcell 5 (by simp)
            have k0 := cell_regrown c0
            have k1 := cell_regrown c1
            have k2 := cell_regrown c2
            have HDAY := Lib.hid (fun d os => Calls.regrown_of (w := w1) (d := d) (os := os) (dayOf_yes _ _ _ _ hv))
            clear hcell hx
            go_wp2_with fail
            refine wp_region_quiet_below (by kernel_rfl) (by kernel_rfl) ?_
            repeat (go_big_quiet_step ((go_at_call 32; exact HDAY.out _ _)))
            refine wpQuiet_nil ?_
            intro _ hw'
            obtain ⟨⟨dq, osq⟩, hw''⟩ := hw'
            subst hw''
            have hBw2 := below_regrown w1 dq osq
            generalize grow (redrawn w1 dq) osq = w2 at *
            clear dq osq
            have d3 := cell_below hBw2 c3
            have d4 := cell_below hBw2 c4
            have d5 := cell_below hBw2 c5
            have d0 := cell_below hBw2 c0
            clear k0 k1 k2
            go_wp2_with fail
            go_ret2
            exact ⟨rfl, below_up hB hBw2⟩
        · have HQ : Hid (q = none) := by show _ = _; rw [← hq', if_neg (fun h => h3 h.2.1)]
          rw [HQ.out]
          clear hq'
          -- fits has told six numbers; the day of three of them by dayOf_yes _ _ _ _ hv
          go_enter Tryd.func58, Tryd.ntmps58
          go_wp2_with (go_at_call 59; refine HFT.out.mono ?_; rintro e w1 (⟨hx, rfl, _⟩ | ⟨xs, a, ca, hx, rfl, hrow, hB, _⟩); · exact absurd hx (by simp))
          obtain rfl := (Option.some.inj hx).symm
          obtain ⟨b, off, rfl, hb, hcell⟩ := hrow (by simp)
          have c0 : w1.cell? ⟨b, off, none⟩ = some (.int .i64 x0) := hcell 0 (by simp)
          have c1 : w1.cell? ⟨b, off + 1, none⟩ = some (.int .i64 x1) := hcell 1 (by simp)
          have c2 : w1.cell? ⟨b, off + 2, none⟩ = some (.int .i64 x2) := hcell 2 (by simp)
          have c3 : w1.cell? ⟨b, off + 3, none⟩ = some (.int .i64 x3) := hcell 3 (by simp)
          have c4 : w1.cell? ⟨b, off + 4, none⟩ = some (.int .i64 x4) := hcell 4 (by simp)
          have c5 : w1.cell? ⟨b, off + 5, none⟩ = some (.int .i64 x5) := hcell 5 (by simp)
          have k0 := cell_regrown c0
          have k1 := cell_regrown c1
          have k2 := cell_regrown c2
          have HDAY := Lib.hid (fun d os => Calls.regrown_of (w := w1) (d := d) (os := os) (dayOf_yes _ _ _ _ hv))
          clear hcell hx
          go_wp2_with fail
          refine wp_region_quiet_below (by kernel_rfl) (by kernel_rfl) ?_
          repeat (go_big_quiet_step ((go_at_call 32; exact HDAY.out _ _)))
          refine wpQuiet_nil ?_
          intro _ hw'
          obtain ⟨⟨dq, osq⟩, hw''⟩ := hw'
          subst hw''
          have hBw2 := below_regrown w1 dq osq
          generalize grow (redrawn w1 dq) osq = w2 at *
          clear dq osq
          have d3 := cell_below hBw2 c3
          have d4 := cell_below hBw2 c4
          have d5 := cell_below hBw2 c5
          have d0 := cell_below hBw2 c0
          clear k0 k1 k2
          go_wp2_with fail
          go_ret2
          exact ⟨rfl, below_up hB hBw2⟩
end Go.Proofs.YthldlffkgafgaaaDoor
