/- samePhoto: whether two photos are equal. -/
import Derived.Test.YtipmegkmkbbklaaFdSameP0
import Derived.Test.YtipmegkmkbbklaaFdSameP1
import Derived.Test.YtipmegkmkbbklaaFdSameP2
import Derived.Test.YtipmegkmkbbklaaFdSameP3
import Derived.Test.YtipmegkmkbbklaaFdSameR0
import Derived.Test.YtipmegkmkbbklaaFdSameR1
import Derived.Test.YtipmegkmkbbklaaFdSameR2
import Derived.Test.YtipmegkmkbbklaaFdSameR3
import Derived.Test.YtipmegkmkbbklaaFdLib
import Derived.Shelf.Abstract
namespace Go.Proofs.Ytipmegkmkbbklaa
open Go.RowKit Go.Sort Go.Shelf
set_option linter.unusedVariables false
theorem samePhoto (p r : Ph) (w : World) (hI : p.In w) (hJ : r.In w) (hF : p.Fits) (hG : r.Fits) : Calls Try.prog 84 #[.agg #[.int .i64 p.id, .string p.file, .int .i64 p.mom, .int .i64 p.zone, .slice p.wa p.wn p.wc, .int .i64 p.W, .int .i64 p.H, .int .i64 p.turn, .int .i64 p.stars, .slice p.ta p.tn p.tc, .string p.cap, .slice p.pa p.pn p.pc, .bool p.hid], .agg #[.int .i64 r.id, .string r.file, .int .i64 r.mom, .int .i64 r.zone, .slice r.wa r.wn r.wc, .int .i64 r.W, .int .i64 r.H, .int .i64 r.turn, .int .i64 r.stars, .slice r.ta r.tn r.tc, .string r.cap, .slice r.pa r.pn r.pc, .bool r.hid]] w fun e w' => e = .returned (.bool (p.same r)) ∧ Below w.heap.size w w' := by
  cases h0 : (p.id == r.id)
  · rw [Ph.same_no0 h0]; exact samePhoto_0 p r w hI hJ hF hG h0
  · skip
    cases h1 : (p.file.toList == r.file.toList)
    · rw [Ph.same_no1 h1]; exact samePhoto_1 p r w hI hJ hF hG h0 h1
    · skip
      cases h2 : (p.mom == r.mom)
      · rw [Ph.same_no2 h2]; exact samePhoto_2 p r w hI hJ hF hG h0 h1 h2
      · skip
        cases h3 : (p.zone == r.zone)
        · rw [Ph.same_no3 h3]; exact samePhoto_3 p r w hI hJ hF hG h0 h1 h2 h3
        · skip
          cases h4 : (Fd.eqRow p.wn r.wn fun i => p.lat i == r.lat i && p.lon i == r.lon i)
          · rw [Ph.same_no4 h4]; exact samePhoto_4 p r w hI hJ hF hG h0 h1 h2 h3 h4
          · skip
            cases h5 : (p.W == r.W)
            · rw [Ph.same_no5 h5]; exact samePhoto_5 p r w hI hJ hF hG h0 h1 h2 h3 h4 h5
            · skip
              cases h6 : (p.H == r.H)
              · rw [Ph.same_no6 h6]; exact samePhoto_6 p r w hI hJ hF hG h0 h1 h2 h3 h4 h5 h6
              · skip
                cases h7 : (p.turn == r.turn)
                · rw [Ph.same_no7 h7]; exact samePhoto_7 p r w hI hJ hF hG h0 h1 h2 h3 h4 h5 h6 h7
                · skip
                  cases h8 : (p.stars == r.stars)
                  · rw [Ph.same_no8 h8]; exact samePhoto_8 p r w hI hJ hF hG h0 h1 h2 h3 h4 h5 h6 h7 h8
                  · skip
                    cases h9 : (Fd.eqRow p.tn r.tn fun i => (p.tag i).toList == (r.tag i).toList)
                    · rw [Ph.same_no9 h9]; exact samePhoto_9 p r w hI hJ hF hG h0 h1 h2 h3 h4 h5 h6 h7 h8 h9
                    · skip
                      cases h10 : (p.cap.toList == r.cap.toList)
                      · rw [Ph.same_no10 h10]; exact samePhoto_10 p r w hI hJ hF hG h0 h1 h2 h3 h4 h5 h6 h7 h8 h9 h10
                      · skip
                        cases h11 : (Fd.eqRow p.pn r.pn fun i => p.who i == r.who i)
                        · rw [Ph.same_no11 h11]; exact samePhoto_11 p r w hI hJ hF hG h0 h1 h2 h3 h4 h5 h6 h7 h8 h9 h10 h11
                        · skip
                          cases h12 : (p.hid == r.hid)
                          · rw [Ph.same_no12 h12]; exact samePhoto_12 p r w hI hJ hF hG h0 h1 h2 h3 h4 h5 h6 h7 h8 h9 h10 h11 h12
                          · skip
                            rw [Ph.same_yes h0 h1 h2 h3 h4 h5 h6 h7 h8 h9 h10 h11 h12]; exact samePhoto_y p r w hI hJ hF hG h0 h1 h2 h3 h4 h5 h6 h7 h8 h9 h10 h11 h12
end Go.Proofs.Ytipmegkmkbbklaa
namespace Go.Proofs.Ytipmegkmkbbklaa
open Go.RowKit Go.Sort Go.Shelf
set_option linter.unusedVariables false
theorem samePhotoR (p r : Ph) (w : World) (hI : p.In w) (hJ : r.In w) (hF : p.Fits) (hG : r.Fits) : Calls Try.prog 8 #[.agg #[.int .i64 p.id, .string p.file, .int .i64 p.mom, .int .i64 p.zone, .slice p.wa p.wn p.wc, .int .i64 p.W, .int .i64 p.H, .int .i64 p.turn, .int .i64 p.stars, .slice p.ta p.tn p.tc, .string p.cap, .slice p.pa p.pn p.pc, .bool p.hid], .agg #[.int .i64 r.id, .string r.file, .int .i64 r.mom, .int .i64 r.zone, .slice r.wa r.wn r.wc, .int .i64 r.W, .int .i64 r.H, .int .i64 r.turn, .int .i64 r.stars, .slice r.ta r.tn r.tc, .string r.cap, .slice r.pa r.pn r.pc, .bool r.hid]] w fun e w' => e = .returned (.bool (p.same r)) ∧ Below w.heap.size w w' := by
  cases h0 : (p.id == r.id)
  · rw [Ph.same_no0 h0]; exact samePhotoR_0 p r w hI hJ hF hG h0
  · skip
    cases h1 : (p.file.toList == r.file.toList)
    · rw [Ph.same_no1 h1]; exact samePhotoR_1 p r w hI hJ hF hG h0 h1
    · skip
      cases h2 : (p.mom == r.mom)
      · rw [Ph.same_no2 h2]; exact samePhotoR_2 p r w hI hJ hF hG h0 h1 h2
      · skip
        cases h3 : (p.zone == r.zone)
        · rw [Ph.same_no3 h3]; exact samePhotoR_3 p r w hI hJ hF hG h0 h1 h2 h3
        · skip
          cases h4 : (Fd.eqRow p.wn r.wn fun i => p.lat i == r.lat i && p.lon i == r.lon i)
          · rw [Ph.same_no4 h4]; exact samePhotoR_4 p r w hI hJ hF hG h0 h1 h2 h3 h4
          · skip
            cases h5 : (p.W == r.W)
            · rw [Ph.same_no5 h5]; exact samePhotoR_5 p r w hI hJ hF hG h0 h1 h2 h3 h4 h5
            · skip
              cases h6 : (p.H == r.H)
              · rw [Ph.same_no6 h6]; exact samePhotoR_6 p r w hI hJ hF hG h0 h1 h2 h3 h4 h5 h6
              · skip
                cases h7 : (p.turn == r.turn)
                · rw [Ph.same_no7 h7]; exact samePhotoR_7 p r w hI hJ hF hG h0 h1 h2 h3 h4 h5 h6 h7
                · skip
                  cases h8 : (p.stars == r.stars)
                  · rw [Ph.same_no8 h8]; exact samePhotoR_8 p r w hI hJ hF hG h0 h1 h2 h3 h4 h5 h6 h7 h8
                  · skip
                    cases h9 : (Fd.eqRow p.tn r.tn fun i => (p.tag i).toList == (r.tag i).toList)
                    · rw [Ph.same_no9 h9]; exact samePhotoR_9 p r w hI hJ hF hG h0 h1 h2 h3 h4 h5 h6 h7 h8 h9
                    · skip
                      cases h10 : (p.cap.toList == r.cap.toList)
                      · rw [Ph.same_no10 h10]; exact samePhotoR_10 p r w hI hJ hF hG h0 h1 h2 h3 h4 h5 h6 h7 h8 h9 h10
                      · skip
                        cases h11 : (Fd.eqRow p.pn r.pn fun i => p.who i == r.who i)
                        · rw [Ph.same_no11 h11]; exact samePhotoR_11 p r w hI hJ hF hG h0 h1 h2 h3 h4 h5 h6 h7 h8 h9 h10 h11
                        · skip
                          cases h12 : (p.hid == r.hid)
                          · rw [Ph.same_no12 h12]; exact samePhotoR_12 p r w hI hJ hF hG h0 h1 h2 h3 h4 h5 h6 h7 h8 h9 h10 h11 h12
                          · skip
                            rw [Ph.same_yes h0 h1 h2 h3 h4 h5 h6 h7 h8 h9 h10 h11 h12]; exact samePhotoR_y p r w hI hJ hF hG h0 h1 h2 h3 h4 h5 h6 h7 h8 h9 h10 h11 h12
end Go.Proofs.Ytipmegkmkbbklaa
namespace Go.Proofs.Ytipmegkmkbbklaa
open Go.RowKit Go.Sort Go.Shelf
set_option linter.unusedVariables false
set_option maxRecDepth 100000 in
set_option maxHeartbeats 8000000 in
theorem equalFuncPh_any (g : Nat) (lb : Array Value) (eg : ∀ args w, (callFunc g args).run Try.prog w = .ok (.enter g args) w) (eq : Nat → Bool) (a : Option Addr) (n ca : Nat) (x : Nat → Ph) (b : Option Addr) (m cb : Nat) (y : Nat → Ph) (w : World) (hx : Phs w a n x) (hy : Phs w b m y) (hn : n ≤ 9223372036854775807) (hm : m ≤ 9223372036854775807)
    (hc : ∀ i W, i < n → i < m → Below w.heap.size w W → Calls Try.prog g (#[.agg #[.int .i64 (x i).id, .string (x i).file, .int .i64 (x i).mom, .int .i64 (x i).zone, .slice (x i).wa (x i).wn (x i).wc, .int .i64 (x i).W, .int .i64 (x i).H, .int .i64 (x i).turn, .int .i64 (x i).stars, .slice (x i).ta (x i).tn (x i).tc, .string (x i).cap, .slice (x i).pa (x i).pn (x i).pc, .bool (x i).hid], .agg #[.int .i64 (y i).id, .string (y i).file, .int .i64 (y i).mom, .int .i64 (y i).zone, .slice (y i).wa (y i).wn (y i).wc, .int .i64 (y i).W, .int .i64 (y i).H, .int .i64 (y i).turn, .int .i64 (y i).stars, .slice (y i).ta (y i).tn (y i).tc, .string (y i).cap, .slice (y i).pa (y i).pn (y i).pc, .bool (y i).hid]] ++ lb) W fun e w' => e = .returned (.bool (eq i)) ∧ Below W.heap.size W w') :
    Calls Try.prog 53 #[.slice a n ca, .slice b m cb, .func (.func g) #[] lb] w fun e w' => e = .returned (.bool (Fd.eqRow n m eq)) ∧ Below w.heap.size w w' := by
  by_cases hl : n = m
  · subst hl
    have hl' : ((n : Int) == (n : Int)) = true := by simp
    obtain ⟨q, hq⟩ : ∃ q, Fd.eqRow n n eq = q := ⟨_, rfl⟩
    rw [hq]
    have HX := Lib.hid hx; have HY := Lib.hid hy; have HQ := Lib.hid hq; have HC := Lib.hid hc
    clear hx hy hq hc
    go_enter Try.func53, Try.ntmps53
    go_wp2_with fail
    go_loopg [17] n (fun gk i wr => ∃ j : Nat, j ≤ n ∧ gk = n - j ∧ i = .int .i64 j ∧ (∀ i, i < j → eq i = true) ∧ Below w.heap.size w wr)
    case atStart => exact ⟨0, by omega, rfl, rfl, fun i hi => by omega, Below.refl _ _⟩
    case round =>
      obtain ⟨j, hj, rfl, rfl, hall, hB⟩ := hrel
      have HALL := Lib.hid hall; clear hall
      by_cases hlt : j < n
      · obtain ⟨b1, o1, rfl, hb1, hc1⟩ := (HX.out.keep hB).row (by omega)
        obtain ⟨b2, o2, rfl, hb2, hc2⟩ := (HY.out.keep hB).row (by omega)
        have hc1 := hc1 j hlt
        have hc2 := hc2 j hlt
        have hB2 := below_allocs (below_allocs hB (.cells #[.int .i64 (x j).id, .string (x j).file, .int .i64 (x j).mom, .int .i64 (x j).zone, .slice (x j).wa (x j).wn (x j).wc, .int .i64 (x j).W, .int .i64 (x j).H, .int .i64 (x j).turn, .int .i64 (x j).stars, .slice (x j).ta (x j).tn (x j).tc, .string (x j).cap, .slice (x j).pa (x j).pn (x j).pc, .bool (x j).hid] 26)) (.cells #[.int .i64 (y j).id, .string (y j).file, .int .i64 (y j).mom, .int .i64 (y j).zone, .slice (y j).wa (y j).wn (y j).wc, .int .i64 (y j).W, .int .i64 (y j).H, .int .i64 (y j).turn, .int .i64 (y j).stars, .slice (y j).ta (y j).tn (y j).tc, .string (y j).cap, .slice (y j).pa (y j).pn (y j).pc, .bool (y j).hid] 26)
        have HCJ := Lib.hid (HC.out j _ hlt hlt hB2)
        generalize x j = p at *
        generalize y j = r at *
        have hc2 := hc2.keep (below_allocs (Below.refl wr.heap.size wr) (.cells #[.int .i64 p.id, .string p.file, .int .i64 p.mom, .int .i64 p.zone, .slice p.wa p.wn p.wc, .int .i64 p.W, .int .i64 p.H, .int .i64 p.turn, .int .i64 p.stars, .slice p.ta p.tn p.tc, .string p.cap, .slice p.pa p.pn p.pc, .bool p.hid] 26)) hb2
        obtain ⟨c0, c1, c2, c3, c4, c5, c6, c7, c8, c9, c10, c11, c12⟩ := hc1
        obtain ⟨d0, d1, d2, d3, d4, d5, d6, d7, d8, d9, d10, d11, d12⟩ := hc2
        have hj0 : (0 : Int) ≤ (j : Int) := by omega
        have hj1 : (j : Int) < (n : Int) := by omega
        have hXB := (Blk.new wr #[.int .i64 p.id, .string p.file, .int .i64 p.mom, .int .i64 p.zone, .slice p.wa p.wn p.wc, .int .i64 p.W, .int .i64 p.H, .int .i64 p.turn, .int .i64 p.stars, .slice p.ta p.tn p.tc, .string p.cap, .slice p.pa p.pn p.pc, .bool p.hid] 26).alloc (.cells #[.int .i64 r.id, .string r.file, .int .i64 r.mom, .int .i64 r.zone, .slice r.wa r.wn r.wc, .int .i64 r.W, .int .i64 r.H, .int .i64 r.turn, .int .i64 r.stars, .slice r.ta r.tn r.tc, .string r.cap, .slice r.pa r.pn r.pc, .bool r.hid] 26)
        have hYB := Blk.new (wr.alloc (.cells #[.int .i64 p.id, .string p.file, .int .i64 p.mom, .int .i64 p.zone, .slice p.wa p.wn p.wc, .int .i64 p.W, .int .i64 p.H, .int .i64 p.turn, .int .i64 p.stars, .slice p.ta p.tn p.tc, .string p.cap, .slice p.pa p.pn p.pc, .bool p.hid] 26)) #[.int .i64 r.id, .string r.file, .int .i64 r.mom, .int .i64 r.zone, .slice r.wa r.wn r.wc, .int .i64 r.W, .int .i64 r.H, .int .i64 r.turn, .int .i64 r.stars, .slice r.ta r.tn r.tc, .string r.cap, .slice r.pa r.pn r.pc, .bool r.hid] 26
        rw [World.size_alloc] at hYB
        obtain ⟨q0, q1, q2, q3, q4, q5, q6, q7, q8, q9, q10, q11, q12⟩ := hXB.photo
        obtain ⟨v0, v1, v2, v3, v4, v5, v6, v7, v8, v9, v10, v11, v12⟩ := hYB.photo
        clear hXB hYB
        cases he : eq j
        · have HN : Hid (q = false) := by have h1 := HQ.out; rw [Fd.eqRow_no j hlt he] at h1; exact Lib.hid h1.symm
          rw [he] at HCJ
          clear he
          go_wp2_with (go_at_fn g; refine HCJ.out.mono ?_; rintro e w5 ⟨rfl, hB5⟩)
          go_ret
          exact ⟨ret_bool HN.out.symm, below_up hB2 hB5⟩
        · have HN := Lib.hid (Fd.eq_next HALL.out he)
          rw [he] at HCJ
          clear he
          go_wp2_with (go_at_fn g; refine HCJ.out.mono ?_; rintro e w5 ⟨rfl, hB5⟩)
          go_roundg (n - (j + 1))
          case rel => exact ⟨j + 1, by omega, rfl, by go_num, HN.out, below_up hB2 hB5⟩
          case measure => omega
      · obtain rfl : j = n := by omega
        have HN : Hid (q = true) := by have h1 := HQ.out; rw [Fd.eqRow_yes HALL.out] at h1; exact Lib.hid h1.symm
        go_wp2_with fail
        go_ret
        exact ⟨ret_bool HN.out.symm, hB⟩
  · have hl' : ((n : Int) == (m : Int)) = false := by simp; omega
    have hl2 : ((n : Int) != (m : Int)) = true := by simp; omega
    rw [Fd.eqRow_len hl]
    clear hl hc
    go_enter Try.func53, Try.ntmps53
    go_wp2_with fail
    go_ret
    exact ⟨rfl, Below.refl _ _⟩
theorem samePhoto_eg : ∀ args w, (callFunc 84 args).run Try.prog w = .ok (.enter 84 args) w := enters_of Try.func84 (by kernel_rfl) rfl
theorem samePhotoR_eg : ∀ args w, (callFunc 8 args).run Try.prog w = .ok (.enter 8 args) w := enters_of Try.func8 (by kernel_rfl) rfl
theorem same_is (a : Option Addr) (n ca : Nat) (x : Nat → Ph) (b : Option Addr) (m cb : Nat) (y : Nat → Ph) (w : World) (hx : Phs w a n x) (hy : Phs w b m y) (hF : ∀ i, i < n → (x i).Fits) (hG : ∀ i, i < m → (y i).Fits) (hn : n ≤ 9223372036854775807) (hm : m ≤ 9223372036854775807) : Calls Try.prog 42 #[.slice a n ca, .slice b m cb] w fun e w' => e = .returned (.bool (Fd.eqRow n m fun i => (x i).same (y i))) ∧ Below w.heap.size w w' := by
  have HE := Lib.hid (equalFuncPh_any 84 #[] samePhoto_eg (fun i => (x i).same (y i)) a n ca x b m cb y w hx hy hn hm
    (fun i W hi hj hB => samePhoto (x i) (y i) W ((hx.each i hi).keep hB) ((hy.each i hj).keep hB) (hF i hi) (hG i hj)))
  generalize (Fd.eqRow n m fun i => (x i).same (y i)) = q at *
  clear hx hy hF hG
  go_enter Try.func42, Try.ntmps42
  go_wp2_with (go_at_call 53; refine HE.out.mono ?_; rintro e w1 ⟨rfl, hB⟩)
  go_ret
  exact ⟨rfl, hB⟩
theorem samePhotos_is (a : Option Addr) (n ca : Nat) (x : Nat → Ph) (b : Option Addr) (m cb : Nat) (y : Nat → Ph) (w : World) (hx : Phs w a n x) (hy : Phs w b m y) (hF : ∀ i, i < n → (x i).Fits) (hG : ∀ i, i < m → (y i).Fits) (hn : n ≤ 9223372036854775807) (hm : m ≤ 9223372036854775807) : Calls Try.prog 14 #[.slice a n ca, .slice b m cb] w fun e w' => e = .returned (.bool (Fd.eqRow n m fun i => (x i).same (y i))) ∧ Below w.heap.size w w' := by
  have HE := Lib.hid (equalFuncPh_any 8 #[] samePhotoR_eg (fun i => (x i).same (y i)) a n ca x b m cb y w hx hy hn hm
    (fun i W hi hj hB => samePhotoR (x i) (y i) W ((hx.each i hi).keep hB) ((hy.each i hj).keep hB) (hF i hi) (hG i hj)))
  generalize (Fd.eqRow n m fun i => (x i).same (y i)) = q at *
  clear hx hy hF hG
  go_enter Try.func14, Try.ntmps14
  go_wp2_with (go_at_call 53; refine HE.out.mono ?_; rintro e w1 ⟨rfl, hB⟩)
  go_ret
  exact ⟨rfl, hB⟩
end Go.Proofs.Ytipmegkmkbbklaa
