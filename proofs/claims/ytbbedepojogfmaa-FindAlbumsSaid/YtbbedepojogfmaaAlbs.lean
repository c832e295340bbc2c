/- Slices of albums; CheckAlbums and the reference's AlbumsError. -/
import Derived.Test.YtbbedepojogfmaaAlbR
namespace Go.Proofs.Ytbbedepojogfmaa
open Go.RowKit Go.Sort Go.Shelf
set_option linter.unusedVariables false
/-- An album's cells from place o on in block b. -/
def AlAt (w : World) (b o : Nat) (p : Alb) : Prop :=
  w.cell? ⟨b, o, none⟩ = some (.string p.name) ∧ w.cell? ⟨b, o + 1, none⟩ = some (.bool p.smart) ∧ w.cell? ⟨b, o + 2, none⟩ = some (.int .i64 p.rule.op) ∧ w.cell? ⟨b, o + 3, none⟩ = some (.slice p.rule.ka p.rule.kn p.rule.kc) ∧ w.cell? ⟨b, o + 4, none⟩ = some (.string p.rule.text) ∧ w.cell? ⟨b, o + 5, none⟩ = some (.int .i64 p.rule.low) ∧ w.cell? ⟨b, o + 6, none⟩ = some (.int .i64 p.rule.high) ∧ w.cell? ⟨b, o + 7, none⟩ = some (.slice p.rule.aa p.rule.an p.rule.ac) ∧ w.cell? ⟨b, o + 8, none⟩ = some (.slice p.pa p.pn p.pc) ∧ w.cell? ⟨b, o + 9, none⟩ = some (.slice p.ba p.bn p.bc)
theorem AlAt.keep {w w' : World} {b o : Nat} {p : Alb} (h : AlAt w b o p) (hb : Below w.heap.size w w') (hl : b < w.heap.size) : AlAt w' b o p := by
  obtain ⟨h0, h1, h2, h3, h4, h5, h6, h7, h8, h9⟩ := h
  exact ⟨(hb.cell hl).trans h0, (hb.cell hl).trans h1, (hb.cell hl).trans h2, (hb.cell hl).trans h3, (hb.cell hl).trans h4, (hb.cell hl).trans h5, (hb.cell hl).trans h6, (hb.cell hl).trans h7, (hb.cell hl).trans h8, (hb.cell hl).trans h9⟩
/-- A slice of albums in memory. -/
structure Als (w : World) (a : Option Addr) (n : Nat) (x : Nat → Alb) : Prop where
  row : 0 < n → ∃ b off, a = some ⟨b, off, none⟩ ∧ b < w.heap.size ∧ ∀ i, i < n → AlAt w b (off + i * 10) (x i)
  each : ∀ i, i < n → (x i).In w
theorem Als.keep {w w' : World} {a : Option Addr} {n : Nat} {x : Nat → Alb} (h : Als w a n x) (hb : Below w.heap.size w w') : Als w' a n x := by
  refine ⟨fun hn => ?_, fun i hi => (h.each i hi).keep hb⟩
  obtain ⟨b, off, rfl, hl, hc⟩ := h.row hn
  exact ⟨b, off, rfl, Nat.lt_of_lt_of_le hl hb.size, fun i hi => (hc i hi).keep hb hl⟩
set_option maxRecDepth 100000 in
set_option maxHeartbeats 8000000 in
theorem checkAlbums_is (a : Option Addr) (n ca : Nat) (x : Nat → Alb) (w : World) (hx : Als w a n x) (hF : ∀ i, i < n → (x i).Fits) (hn : n ≤ 9223372036854775807) :
    Calls Try.prog 26 #[.slice a n ca] w fun e w' => e = .returned (.int .i64 (Alb.errs x n)) ∧ Below w.heap.size w w' := by
  -- f.CheckAlbums: the function; f.checkAlbum: that checks an album; checkAlbum_is: its contract; tintype/where.IsName: IsName; isNameW_is: its contract
  obtain ⟨q, hq⟩ : ∃ q, Alb.errs x n = q := ⟨_, rfl⟩
  rw [hq]
  unfold Alb.errs at hq
  by_cases hl : 50 < n
  · rw [if_pos hl] at hq
    have hl' : (50 : Int) < (n : Int) := by omega
    subst hq
    go_enter Try.func26, Try.ntmps26
    go_wp2_with fail
    go_ret
    exact ⟨rfl, Below.refl _ _⟩
  · rw [if_neg hl] at hq
    have hl' : ¬ (50 : Int) < (n : Int) := by omega
    have HX := Lib.hid hx; have HF := Lib.hid hF; have HQ := Lib.hid hq
    clear hx hF hq
    go_enter Try.func26, Try.ntmps26
    go_wp2_with fail
    go_loopg [11] n (fun gk i wr => ∃ j : Nat, j ≤ n ∧ gk = n - j ∧ i = .int .i64 j ∧ Fd.scan (Alb.bad x) j (n - j) = q ∧ Below w.heap.size w wr)
    case atStart => exact ⟨0, by omega, rfl, rfl, HQ.out, Below.refl _ _⟩
    case round =>
      obtain ⟨j, hj, rfl, rfl, hsc, hB⟩ := hrel
      have HSC := Lib.hid hsc; clear hsc
      by_cases hlt : j < n
      · have hXs := HX.out.keep hB
        obtain ⟨b, off, rfl, hb, hcell⟩ := hXs.row (by omega)
        have HEACH := Lib.hid hXs.each; clear hXs
        have HCELL := Lib.hid hcell; clear hcell
        obtain ⟨c0, c1, c2, c3, c4, c5, c6, c7, c8, c9⟩ := HCELL.out j hlt
        obtain ⟨p, hp⟩ : ∃ p, x j = p := ⟨_, rfl⟩
        have HP := Lib.hid hp
        rw [hp] at c0 c1 c2 c3 c4 c5 c6 c7 c8 c9
        have hBa := below_allocs hB (.cells #[.string p.name, .bool p.smart, .int .i64 p.rule.op, .slice p.rule.ka p.rule.kn p.rule.kc, .string p.rule.text, .int .i64 p.rule.low, .int .i64 p.rule.high, .slice p.rule.aa p.rule.an p.rule.ac, .slice p.pa p.pn p.pc, .slice p.ba p.bn p.bc] 105)
        have hXB := Blk.new wr #[.string p.name, .bool p.smart, .int .i64 p.rule.op, .slice p.rule.ka p.rule.kn p.rule.kc, .string p.rule.text, .int .i64 p.rule.low, .int .i64 p.rule.high, .slice p.rule.aa p.rule.an p.rule.ac, .slice p.pa p.pn p.pc, .slice p.ba p.bn p.bc] 105
        have hpF : p.Fits := by rw [← hp]; exact HF.out j hlt
        have hpI : p.In wr := by rw [← hp]; exact HEACH.out j hlt
        have HCH := Lib.hid (fun W (hW : Below wr.heap.size wr W) => checkAlbum_is p W (hpI.keep hW) hpF)
        have HBW := Lib.hid (below_allocs (Below.refl wr.heap.size wr) (.cells #[.string p.name, .bool p.smart, .int .i64 p.rule.op, .slice p.rule.ka p.rule.kn p.rule.kc, .string p.rule.text, .int .i64 p.rule.low, .int .i64 p.rule.high, .slice p.rule.aa p.rule.an p.rule.ac, .slice p.pa p.pn p.pc, .slice p.ba p.bn p.bc] 105))
        have hnf := hpF.name
        obtain ⟨nb, hnb⟩ : ∃ nb, Fd.nameB p.name = nb := ⟨_, rfl⟩
        have HNB := Lib.hid hnb
        have HNM := Lib.hid (fun W => isNameW_is p.name hnf nb hnb W)
        clear hp hpF hpI hnb
        obtain ⟨q0, q1, q2, q3, q4, q5, q6, q7, q8, q9⟩ := hXB.ten
        cases nb
        · have HBAD := Lib.hid (Fd.scan_here HSC.out hlt (Alb.bad_name (by rw [HP.out]; exact HNB.out)) (by decide))
          go_wp2_with (go_at_call 72; (with_reducible refine (HNM.out _).mono ?_); rintro e w2 ⟨rfl, rfl⟩)
          go_ret
          exact ⟨ret_int HBAD.out, hBa⟩
        · obtain ⟨e, hee⟩ : ∃ e, p.err = e := ⟨_, rfl⟩
          rw [hee] at HCH
          have HEE := Lib.hid hee; clear hee
          by_cases hj0 : j = 0
          · have hj0' : decide ((0 : Int) < (j : Int)) = false := by simpa using hj0
            have hj0'' : ((0 : Int) < (j : Int)) = False := by simpa using hj0
            have hj0n : (0 < j) = False := by simpa using hj0
            have HBV : Hid (Alb.bad x j = e) := Lib.hid (Alb.bad_first (by rw [HP.out]; exact HNB.out) hj0 (by rw [HP.out]; exact HEE.out))
            clear hj0
            by_cases he : e = 0
            · have HBAD := Lib.hid (Fd.scan_next HSC.out hlt (HBV.out.trans he))
              subst he
              go_wp2_with (go_at_call 72; (with_reducible refine (HNM.out _).mono ?_); rintro e w2 ⟨rfl, rfl⟩)
              go_quiet (fail)
              go_wp2_with (go_at_call 73; refine (HCH.out _ (below_drewN HBW.out _)).mono ?_; rintro e5 w5 ⟨rfl, hB5⟩)
              go_roundg (n - (j + 1))
              case rel => exact ⟨j + 1, by omega, rfl, by go_num, HBAD.out, below_up (below_drewN hBa _) hB5⟩
              case measure => omega
            · have HBAD := Lib.hid (Fd.scan_here HSC.out hlt HBV.out he)
              have he2 : (e != 0) = true := by simpa using he
              clear he
              go_wp2_with (go_at_call 72; (with_reducible refine (HNM.out _).mono ?_); rintro e w2 ⟨rfl, rfl⟩)
              go_quiet (fail)
              go_wp2_with (go_at_call 73; refine (HCH.out _ (below_drewN HBW.out _)).mono ?_; rintro e5 w5 ⟨rfl, hB5⟩)
              go_ret
              exact ⟨ret_int HBAD.out, below_up (below_drewN hBa _) hB5⟩
          · have hj1 : 1 ≤ j := by omega
            have hj0' : decide ((0 : Int) < (j : Int)) = true := by simp; omega
            have hj0n : 0 < j := by omega
            have hi0 : (0 : Int) ≤ (j : Int) - 1 := by omega
            have hi1 : (j : Int) - 1 < (n : Int) := by omega
            have d0 := (HCELL.out (j - 1) (by omega)).1
            obtain ⟨m, hm⟩ : ∃ m, (x (j - 1)).name = m := ⟨_, rfl⟩
            have HM := Lib.hid hm
            rw [hm] at d0
            clear hm
            have hdd := (World.cell?_alloc_lt wr (.cells #[.string p.name, .bool p.smart, .int .i64 p.rule.op, .slice p.rule.ka p.rule.kn p.rule.kc, .string p.rule.text, .int .i64 p.rule.low, .int .i64 p.rule.high, .slice p.rule.aa p.rule.an p.rule.ac, .slice p.pa p.pn p.pc, .slice p.ba p.bn p.bc] 105) ⟨b, off + (j - 1) * 10, none⟩ hb).trans d0
            cases ho : Fd.leS p.name m
            · have HBV : Hid (Alb.bad x j = e) := Lib.hid (Alb.bad_ok (by rw [HP.out]; exact HNB.out) (by rw [HP.out, HM.out]; exact ho) (by rw [HP.out]; exact HEE.out))
              unfold Fd.leS at ho
              clear hj0
              by_cases he : e = 0
              · have HBAD := Lib.hid (Fd.scan_next HSC.out hlt (HBV.out.trans he))
                subst he
                go_wp2_with (go_at_call 72; (with_reducible refine (HNM.out _).mono ?_); rintro e w2 ⟨rfl, rfl⟩)
                go_quiet (fail)
                go_wp2_with (go_at_call 73; refine (HCH.out _ (below_drewN HBW.out _)).mono ?_; rintro e5 w5 ⟨rfl, hB5⟩)
                go_roundg (n - (j + 1))
                case rel => exact ⟨j + 1, by omega, rfl, by go_num, HBAD.out, below_up (below_drewN hBa _) hB5⟩
                case measure => omega
              · have HBAD := Lib.hid (Fd.scan_here HSC.out hlt HBV.out he)
                have he2 : (e != 0) = true := by simpa using he
                clear he
                go_wp2_with (go_at_call 72; (with_reducible refine (HNM.out _).mono ?_); rintro e w2 ⟨rfl, rfl⟩)
                go_quiet (fail)
                go_wp2_with (go_at_call 73; refine (HCH.out _ (below_drewN HBW.out _)).mono ?_; rintro e5 w5 ⟨rfl, hB5⟩)
                go_ret
                exact ⟨ret_int HBAD.out, below_up (below_drewN hBa _) hB5⟩
            · have HBAD := Lib.hid (Fd.scan_here HSC.out hlt (Alb.bad_ord (by rw [HP.out]; exact HNB.out) hj0 (by rw [HP.out, HM.out]; exact ho)) (by decide))
              unfold Fd.leS at ho
              clear hj0
              go_wp2_with (go_at_call 72; (with_reducible refine (HNM.out _).mono ?_); rintro e w2 ⟨rfl, rfl⟩)
              go_quiet (fail)
              go_wp2_with fail
              go_ret
              exact ⟨ret_int HBAD.out, below_drewN hBa _⟩
      · obtain rfl : j = n := by omega
        go_wp2_with fail
        go_ret
        exact ⟨ret_int (Fd.scan_end HSC.out).symm, hB⟩
set_option maxRecDepth 100000 in
set_option maxHeartbeats 8000000 in
theorem albumsError_is (a : Option Addr) (n ca : Nat) (x : Nat → Alb) (w : World) (hx : Als w a n x) (hF : ∀ i, i < n → (x i).Fits) (hn : n ≤ 9223372036854775807) :
    Calls Try.prog 27 #[.slice a n ca] w fun e w' => e = .returned (.int .i64 (Alb.errs x n)) ∧ Below w.heap.size w w' := by
  -- R.AlbumsError: the function; R.AlbumError: that checks an album; albumError_is: its contract; R.IsName: IsName; isNameR_is: its contract
  obtain ⟨q, hq⟩ : ∃ q, Alb.errs x n = q := ⟨_, rfl⟩
  rw [hq]
  unfold Alb.errs at hq
  by_cases hl : 50 < n
  · rw [if_pos hl] at hq
    have hl' : (50 : Int) < (n : Int) := by omega
    subst hq
    go_enter Try.func27, Try.ntmps27
    go_wp2_with fail
    go_ret
    exact ⟨rfl, Below.refl _ _⟩
  · rw [if_neg hl] at hq
    have hl' : ¬ (50 : Int) < (n : Int) := by omega
    have HX := Lib.hid hx; have HF := Lib.hid hF; have HQ := Lib.hid hq
    clear hx hF hq
    go_enter Try.func27, Try.ntmps27
    go_wp2_with fail
    go_loopg [11] n (fun gk i wr => ∃ j : Nat, j ≤ n ∧ gk = n - j ∧ i = .int .i64 j ∧ Fd.scan (Alb.bad x) j (n - j) = q ∧ Below w.heap.size w wr)
    case atStart => exact ⟨0, by omega, rfl, rfl, HQ.out, Below.refl _ _⟩
    case round =>
      obtain ⟨j, hj, rfl, rfl, hsc, hB⟩ := hrel
      have HSC := Lib.hid hsc; clear hsc
      by_cases hlt : j < n
      · have hXs := HX.out.keep hB
        obtain ⟨b, off, rfl, hb, hcell⟩ := hXs.row (by omega)
        have HEACH := Lib.hid hXs.each; clear hXs
        have HCELL := Lib.hid hcell; clear hcell
        obtain ⟨c0, c1, c2, c3, c4, c5, c6, c7, c8, c9⟩ := HCELL.out j hlt
        obtain ⟨p, hp⟩ : ∃ p, x j = p := ⟨_, rfl⟩
        have HP := Lib.hid hp
        rw [hp] at c0 c1 c2 c3 c4 c5 c6 c7 c8 c9
        have hBa := below_allocs hB (.cells #[.string p.name, .bool p.smart, .int .i64 p.rule.op, .slice p.rule.ka p.rule.kn p.rule.kc, .string p.rule.text, .int .i64 p.rule.low, .int .i64 p.rule.high, .slice p.rule.aa p.rule.an p.rule.ac, .slice p.pa p.pn p.pc, .slice p.ba p.bn p.bc] 105)
        have hXB := Blk.new wr #[.string p.name, .bool p.smart, .int .i64 p.rule.op, .slice p.rule.ka p.rule.kn p.rule.kc, .string p.rule.text, .int .i64 p.rule.low, .int .i64 p.rule.high, .slice p.rule.aa p.rule.an p.rule.ac, .slice p.pa p.pn p.pc, .slice p.ba p.bn p.bc] 105
        have hpF : p.Fits := by rw [← hp]; exact HF.out j hlt
        have hpI : p.In wr := by rw [← hp]; exact HEACH.out j hlt
        have HCH := Lib.hid (fun W (hW : Below wr.heap.size wr W) => albumError_is p W (hpI.keep hW) hpF)
        have HBW := Lib.hid (below_allocs (Below.refl wr.heap.size wr) (.cells #[.string p.name, .bool p.smart, .int .i64 p.rule.op, .slice p.rule.ka p.rule.kn p.rule.kc, .string p.rule.text, .int .i64 p.rule.low, .int .i64 p.rule.high, .slice p.rule.aa p.rule.an p.rule.ac, .slice p.pa p.pn p.pc, .slice p.ba p.bn p.bc] 105))
        have hnf := hpF.name
        obtain ⟨nb, hnb⟩ : ∃ nb, Fd.nameB p.name = nb := ⟨_, rfl⟩
        have HNB := Lib.hid hnb
        have HNM := Lib.hid (fun W => isNameR_is p.name hnf nb hnb W)
        clear hp hpF hpI hnb
        obtain ⟨q0, q1, q2, q3, q4, q5, q6, q7, q8, q9⟩ := hXB.ten
        cases nb
        · have HBAD := Lib.hid (Fd.scan_here HSC.out hlt (Alb.bad_name (by rw [HP.out]; exact HNB.out)) (by decide))
          go_wp2_with (go_at_call 67; (with_reducible refine (HNM.out _).mono ?_); rintro e w2 ⟨rfl, rfl⟩)
          go_ret
          exact ⟨ret_int HBAD.out, hBa⟩
        · obtain ⟨e, hee⟩ : ∃ e, p.err = e := ⟨_, rfl⟩
          rw [hee] at HCH
          have HEE := Lib.hid hee; clear hee
          by_cases hj0 : j = 0
          · have hj0' : decide ((0 : Int) < (j : Int)) = false := by simpa using hj0
            have hj0'' : ((0 : Int) < (j : Int)) = False := by simpa using hj0
            have hj0n : (0 < j) = False := by simpa using hj0
            have HBV : Hid (Alb.bad x j = e) := Lib.hid (Alb.bad_first (by rw [HP.out]; exact HNB.out) hj0 (by rw [HP.out]; exact HEE.out))
            clear hj0
            by_cases he : e = 0
            · have HBAD := Lib.hid (Fd.scan_next HSC.out hlt (HBV.out.trans he))
              subst he
              go_wp2_with (go_at_call 67; (with_reducible refine (HNM.out _).mono ?_); rintro e w2 ⟨rfl, rfl⟩)
              go_quiet (fail)
              go_wp2_with (go_at_call 74; refine (HCH.out _ (below_drewN HBW.out _)).mono ?_; rintro e5 w5 ⟨rfl, hB5⟩)
              go_roundg (n - (j + 1))
              case rel => exact ⟨j + 1, by omega, rfl, by go_num, HBAD.out, below_up (below_drewN hBa _) hB5⟩
              case measure => omega
            · have HBAD := Lib.hid (Fd.scan_here HSC.out hlt HBV.out he)
              have he2 : (e != 0) = true := by simpa using he
              clear he
              go_wp2_with (go_at_call 67; (with_reducible refine (HNM.out _).mono ?_); rintro e w2 ⟨rfl, rfl⟩)
              go_quiet (fail)
              go_wp2_with (go_at_call 74; refine (HCH.out _ (below_drewN HBW.out _)).mono ?_; rintro e5 w5 ⟨rfl, hB5⟩)
              go_ret
              exact ⟨ret_int HBAD.out, below_up (below_drewN hBa _) hB5⟩
          · have hj1 : 1 ≤ j := by omega
            have hj0' : decide ((0 : Int) < (j : Int)) = true := by simp; omega
            have hj0n : 0 < j := by omega
            have hi0 : (0 : Int) ≤ (j : Int) - 1 := by omega
            have hi1 : (j : Int) - 1 < (n : Int) := by omega
            have d0 := (HCELL.out (j - 1) (by omega)).1
            obtain ⟨m, hm⟩ : ∃ m, (x (j - 1)).name = m := ⟨_, rfl⟩
            have HM := Lib.hid hm
            rw [hm] at d0
            clear hm
            have hdd := (World.cell?_alloc_lt wr (.cells #[.string p.name, .bool p.smart, .int .i64 p.rule.op, .slice p.rule.ka p.rule.kn p.rule.kc, .string p.rule.text, .int .i64 p.rule.low, .int .i64 p.rule.high, .slice p.rule.aa p.rule.an p.rule.ac, .slice p.pa p.pn p.pc, .slice p.ba p.bn p.bc] 105) ⟨b, off + (j - 1) * 10, none⟩ hb).trans d0
            cases ho : Fd.leS p.name m
            · have HBV : Hid (Alb.bad x j = e) := Lib.hid (Alb.bad_ok (by rw [HP.out]; exact HNB.out) (by rw [HP.out, HM.out]; exact ho) (by rw [HP.out]; exact HEE.out))
              unfold Fd.leS at ho
              clear hj0
              by_cases he : e = 0
              · have HBAD := Lib.hid (Fd.scan_next HSC.out hlt (HBV.out.trans he))
                subst he
                go_wp2_with (go_at_call 67; (with_reducible refine (HNM.out _).mono ?_); rintro e w2 ⟨rfl, rfl⟩)
                go_quiet (fail)
                go_wp2_with (go_at_call 74; refine (HCH.out _ (below_drewN HBW.out _)).mono ?_; rintro e5 w5 ⟨rfl, hB5⟩)
                go_roundg (n - (j + 1))
                case rel => exact ⟨j + 1, by omega, rfl, by go_num, HBAD.out, below_up (below_drewN hBa _) hB5⟩
                case measure => omega
              · have HBAD := Lib.hid (Fd.scan_here HSC.out hlt HBV.out he)
                have he2 : (e != 0) = true := by simpa using he
                clear he
                go_wp2_with (go_at_call 67; (with_reducible refine (HNM.out _).mono ?_); rintro e w2 ⟨rfl, rfl⟩)
                go_quiet (fail)
                go_wp2_with (go_at_call 74; refine (HCH.out _ (below_drewN HBW.out _)).mono ?_; rintro e5 w5 ⟨rfl, hB5⟩)
                go_ret
                exact ⟨ret_int HBAD.out, below_up (below_drewN hBa _) hB5⟩
            · have HBAD := Lib.hid (Fd.scan_here HSC.out hlt (Alb.bad_ord (by rw [HP.out]; exact HNB.out) hj0 (by rw [HP.out, HM.out]; exact ho)) (by decide))
              unfold Fd.leS at ho
              clear hj0
              go_wp2_with (go_at_call 67; (with_reducible refine (HNM.out _).mono ?_); rintro e w2 ⟨rfl, rfl⟩)
              go_quiet (fail)
              go_wp2_with fail
              go_ret
              exact ⟨ret_int HBAD.out, below_drewN hBa _⟩
      · obtain rfl : j = n := by omega
        go_wp2_with fail
        go_ret
        exact ⟨ret_int (Fd.scan_end HSC.out).symm, hB⟩
end Go.Proofs.Ytbbedepojogfmaa
