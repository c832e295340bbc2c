/- The shelf's table of powers of ten; strconv.Itoa. -/
import Derived.Test.YtpgjpnnjlilokaaDoorTxMath
import Derived.Test.YtpgjpnnjlilokaaDoorTxLays
import Derived.Lib.LaidTab
import Derived.LaidMore
import Derived.Stop.LaidErr
import Derived.Shelf.Unicode.PredsPay
namespace Go.Proofs.YtpgjpnnjlilokaaDoor
open Go.RowKit Go.Sort Go.Shelf
namespace Tx
/-- The shelf's table of powers lies in its variable. -/
abbrev Tab (w : World) : Prop := Lib.TabIs Tryd.prog w "internal/strconv.uint64pow10" .u64 Lib.pow10Tab
theorem tab_global : Tryd.prog.globalNamed "internal/strconv.uint64pow10" = some 0 := by kernel_rfl
theorem tab_below {w w' : World} (h : Tab w) (hb : Below w.heap.size w w') : Tab w' := TabIs_below tab_global h hb
/-- The table, out of what a row lists. -/
theorem tab_of_laid {W : World} {x y : String × DataW Unit} {rest : List (String × DataW Unit)} (h : laidMet Tryd.prog (x :: y :: ("internal/strconv.uint64pow10", Lib.tabData .u64 Lib.pow10Tab) :: rest) W) : Tab W :=
  Lib.tabIs_of_head (t := 103) (e := 68) (n := 20) tab_global (by kernel_rfl) (by kernel_rfl) (by kernel_rfl) (by kernel_rfl) (by kernel_rfl) h.tail.tail
end Tx
theorem itoa_small (i : Nat) (hi : i < 100) (w : World) : Calls Tryd.prog 16 #[.int .i64 i] w fun e w' => e = .returned (.string ⟨(Lib.decDigits i).toArray⟩) ∧ w' = w := Any.strconv_Itoa_small Lay.itoaS i hi w
theorem itoa_any (n : Int) (h0 : -9223372036854775808 ≤ n) (h1 : n ≤ 9223372036854775807) (w : World) (ht : Tx.Tab w) : Calls Tryd.prog 16 #[.int .i64 n] w fun e w' => e = .returned (.string ⟨(Lib.itoa n).toArray⟩) ∧ ∃ k os, w' = grow (w.drewN k) os := Any.strconv_Itoa Lay.itoaM n h0 h1 w ht
end Go.Proofs.YtpgjpnnjlilokaaDoor
