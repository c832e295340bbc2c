/- SamePhoto: whether two photos are equal. -/
import Derived.Test.YtipmegkmkbbklaaFdSameR0
import Derived.Test.YtipmegkmkbbklaaFdSameR1
import Derived.Test.YtipmegkmkbbklaaFdSameR2
import Derived.Test.YtipmegkmkbbklaaFdSameR3
namespace Go.Proofs.Ytipmegkmkbbklaa
open Go.RowKit Go.Sort Go.Shelf
set_option linter.unusedVariables false
theorem samePhotoR (p r : Ph) (w : World) (hI : p.In w) (hJ : r.In w) (hF : p.Fits) (hG : r.Fits) : Calls Try.prog 8 #[.agg #[.int .i64 p.id, .string p.file, .int .i64 p.mom, .int .i64 p.zone, .slice p.wa p.wn p.wc, .int .i64 p.W, .int .i64 p.H, .int .i64 p.turn, .int .i64 p.stars, .slice p.ta p.tn p.tc, .string p.cap, .slice p.pa p.pn p.pc, .bool p.hid], .agg #[.int .i64 r.id, .string r.file, .int .i64 r.mom, .int .i64 r.zone, .slice r.wa r.wn r.wc, .int .i64 r.W, .int .i64 r.H, .int .i64 r.turn, .int .i64 r.stars, .slice r.ta r.tn r.tc, .string r.cap, .slice r.pa r.pn r.pc, .bool r.hid]] w fun e w' => e = .returned (.bool (p.same r)) ∧ Below w.heap.size w w' := by
  cases h0 : (p.id == r.id)
  · rw [Ph.same_no0 h0]; exact samePhotoR_0 p r w hI hJ hF hG h0
  · skip
    cases h1 : (p.file.toList == r.file.toList)
    · rw [Ph.same_no1 h1]; exact samePhotoR_1 p r w hI hJ hF hG h0 h1
    · skip
      cases h2 : (p.mom == r.mom)
      · rw [Ph.same_no2 h2]; exact samePhotoR_2 p r w hI hJ hF hG h0 h1 h2
      · skip
        cases h3 : (p.zone == r.zone)
        · rw [Ph.same_no3 h3]; exact samePhotoR_3 p r w hI hJ hF hG h0 h1 h2 h3
        · skip
          cases h4 : (Fd.eqRow p.wn r.wn fun i => p.lat i == r.lat i && p.lon i == r.lon i)
          · rw [Ph.same_no4 h4]; exact samePhotoR_4 p r w hI hJ hF hG h0 h1 h2 h3 h4
          · skip
            cases h5 : (p.W == r.W)
            · rw [Ph.same_no5 h5]; exact samePhotoR_5 p r w hI hJ hF hG h0 h1 h2 h3 h4 h5
            · skip
              cases h6 : (p.H == r.H)
              · rw [Ph.same_no6 h6]; exact samePhotoR_6 p r w hI hJ hF hG h0 h1 h2 h3 h4 h5 h6
              · skip
                cases h7 : (p.turn == r.turn)
                · rw [Ph.same_no7 h7]; exact samePhotoR_7 p r w hI hJ hF hG h0 h1 h2 h3 h4 h5 h6 h7
                · skip
                  cases h8 : (p.stars == r.stars)
                  · rw [Ph.same_no8 h8]; exact samePhotoR_8 p r w hI hJ hF hG h0 h1 h2 h3 h4 h5 h6 h7 h8
                  · skip
                    cases h9 : (Fd.eqRow p.tn r.tn fun i => (p.tag i).toList == (r.tag i).toList)
                    · rw [Ph.same_no9 h9]; exact samePhotoR_9 p r w hI hJ hF hG h0 h1 h2 h3 h4 h5 h6 h7 h8 h9
                    · skip
                      cases h10 : (p.cap.toList == r.cap.toList)
                      · rw [Ph.same_no10 h10]; exact samePhotoR_10 p r w hI hJ hF hG h0 h1 h2 h3 h4 h5 h6 h7 h8 h9 h10
                      · skip
                        cases h11 : (Fd.eqRow p.pn r.pn fun i => p.who i == r.who i)
                        · rw [Ph.same_no11 h11]; exact samePhotoR_11 p r w hI hJ hF hG h0 h1 h2 h3 h4 h5 h6 h7 h8 h9 h10 h11
                        · skip
                          cases h12 : (p.hid == r.hid)
                          · rw [Ph.same_no12 h12]; exact samePhotoR_12 p r w hI hJ hF hG h0 h1 h2 h3 h4 h5 h6 h7 h8 h9 h10 h11 h12
                          · skip
                            rw [Ph.same_yes h0 h1 h2 h3 h4 h5 h6 h7 h8 h9 h10 h11 h12]; exact samePhotoR_y p r w hI hJ hF hG h0 h1 h2 h3 h4 h5 h6 h7 h8 h9 h10 h11 h12
end Go.Proofs.Ytipmegkmkbbklaa
