/- The law WhenZones, walked: all cases. -/
import Derived.Test.YtbbedepojogfmaaZoneLawIn
import Derived.Test.YtbbedepojogfmaaZoneLawLo
import Derived.Test.YtbbedepojogfmaaZoneLawHi
import Derived.Test.YtbbedepojogfmaaZoneLawOut
namespace Go.Proofs.Ytbbedepojogfmaa
open Go.RowKit Go.Sort Go.Shelf
theorem whenZones_walk (f : Int) (a : Option Addr) (n ca : Nat) (F O : Nat → Int) (w : World) (hr : Row2 w a n (fun i => .int .i64 (F i)) (fun i => .int .i64 (O i))) (t l b : Int) (hn : n ≤ 9223372036854775807) :
    Calls Try.prog 3 #[.agg #[.int .i64 f, .slice a n ca], .int .i64 t, .int .i64 l, .int .i64 b] w fun e w' => e = .returned (.bool true) ∧ Below w.heap.size w w' := by
  by_cases h0 : Zn.err f F O n = 0
  · by_cases t1 : t < 0
    · by_cases l1 : l < 0
      · exact zones_lo_lo f a n ca F O w hr t l b hn h0 t1 l1
      · by_cases l2 : 6311433599 < l
        · exact zones_lo_hi f a n ca F O w hr t l b hn h0 t1 l2
        · exact zones_lo_in f a n ca F O w hr t l b hn h0 t1 (by omega)
    · by_cases t2 : 6311433599 < t
      · by_cases l1 : l < 0
        · exact zones_hi_lo f a n ca F O w hr t l b hn h0 t2 l1
        · by_cases l2 : 6311433599 < l
          · exact zones_hi_hi f a n ca F O w hr t l b hn h0 t2 l2
          · exact zones_hi_in f a n ca F O w hr t l b hn h0 t2 (by omega)
      · by_cases l1 : l < 0
        · exact zones_in_lo f a n ca F O w hr t l b hn h0 (by omega) l1
        · by_cases l2 : 6311433599 < l
          · exact zones_in_hi f a n ca F O w hr t l b hn h0 (by omega) l2
          · exact zones_in_in f a n ca F O w hr t l b hn h0 (by omega) (by omega)
  · exact zones_bad f a n ca F O w hr t l b hn h0
end Go.Proofs.Ytbbedepojogfmaa
