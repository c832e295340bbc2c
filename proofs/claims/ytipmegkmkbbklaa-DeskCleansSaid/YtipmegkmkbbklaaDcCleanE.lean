/- desk.clean: a photo as a link shows it. -/
import Derived.Test.YtipmegkmkbbklaaDcCleanA
import Derived.Test.YtipmegkmkbbklaaDcCleanB
import Derived.Test.YtipmegkmkbbklaaDcCleanC
import Derived.Test.YtipmegkmkbbklaaDcCleanD
namespace Go.Proofs.Ytipmegkmkbbklaa
open Go.RowKit Go.Sort Go.Shelf
theorem clean_is (p : Ph) (hF : p.Few) (key album : ByteArray) (pl pe wo : Bool) (F T : Int) (ha : Option Addr) (hn hc : Nat) (la lo ra : Nat → Int) (near : Nat → Bool) (w : World) (hI : p.In w) (hA : Ars w ha hn la lo ra) (hnle : hn ≤ 9223372036854775807) (hnear : ∀ i, i < hn → ∃ d e : Int, (∀ w : World, Calls Try.prog 80 #[.agg #[.int .i64 (p.lat 0), .int .i64 (p.lon 0)], .agg #[.int .i64 (la i), .int .i64 (lo i)]] w fun r w' => r = .returned (.tuple #[.int .i64 d, .int .i64 e]) ∧ Below w.heap.size w w') ∧ near i = decide (d ≤ ra i)) : Calls Try.prog 30 #[.agg #[.int .i64 p.id, .string p.file, .int .i64 p.mom, .int .i64 p.zone, .slice p.wa p.wn p.wc, .int .i64 p.W, .int .i64 p.H, .int .i64 p.turn, .int .i64 p.stars, .slice p.ta p.tn p.tc, .string p.cap, .slice p.pa p.pn p.pc, .bool p.hid], .agg #[.string key, .string album, .bool pl, .bool pe, .bool wo, .int .i64 F, .int .i64 T], .slice ha hn hc] w fun e w' => ∃ r : Ph, e = .returned (.agg #[.int .i64 r.id, .string r.file, .int .i64 r.mom, .int .i64 r.zone, .slice r.wa r.wn r.wc, .int .i64 r.W, .int .i64 r.H, .int .i64 r.turn, .int .i64 r.stars, .slice r.ta r.tn r.tc, .string r.cap, .slice r.pa r.pn r.pc, .bool r.hid]) ∧ r.In w' ∧ p.Like r (pl && !Fd.hit near hn) pe wo ∧ r.New w.heap.size ∧ Below w.heap.size w w' := by
  by_cases hw0 : 0 < p.wn
  · cases hpl : pl with
    | false => subst hpl; exact clean_hide p hF key album false pe wo F T ha hn hc la lo ra near w hI hA hnle hnear hw0 rfl
    | true =>
      subst hpl
      by_cases hh : Fd.hit near hn = true
      · exact clean_hit p hF key album true pe wo F T ha hn hc la lo ra near w hI hA hnle hnear hw0 rfl hh
      · exact clean_keep p hF key album true pe wo F T ha hn hc la lo ra near w hI hA hnle hnear hw0 rfl (by simpa using hh)
  · exact clean_none p hF key album pl pe wo F T ha hn hc la lo ra near w hI hA hnle hnear hw0
end Go.Proofs.Ytipmegkmkbbklaa
