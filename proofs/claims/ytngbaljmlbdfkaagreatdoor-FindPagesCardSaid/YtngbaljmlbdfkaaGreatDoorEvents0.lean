/- What is a moment; a slice of one-celled elements. -/
import Derived.Test.YtngbaljmlbdfkaaGreatDoorKit
import Derived.Test.YtngbaljmlbdfkaaGreatDoorEventsMath
import Derived.Test.YtngbaljmlbdfkaaGreatDoorOutside
import Derived.Below
import Derived.Shelf.Abstract
namespace Go.Proofs.YtngbaljmlbdfkaaGreatDoor
open Go.RowKit Go.Sort Go.Shelf
set_option linter.unusedVariables false
theorem below_allocs {a b : World} (h : Below a.heap.size a b) (o : Obj) : Below a.heap.size a (b.alloc o) := h.alloc h.size o
theorem isMoment_is (n : Int) (b : Bool) (h : Ev.mom n = b) (w : World) : Calls Tryz.prog 134 #[.int .i64 n] w fun e w' => e = .returned (.bool b) ∧ w = w' := by
  cases b
  · have h' := (Ev.mom_no n).1 h
    clear h
    go_enter Tryz.func134, Tryz.ntmps134
    go_wp2_with (go_at_call 169; refine (outside_yes _ _ _ _ h').mono ?_; rintro e w' ⟨rfl, rfl⟩)
    go_ret
    exact ⟨rfl, rfl⟩
  · have h' := (Ev.mom_iff n).1 h
    clear h
    go_enter Tryz.func134, Tryz.ntmps134
    go_wp2_with (go_at_call 169; refine (outside_no _ _ _ _ h'.1 h'.2).mono ?_; rintro e w' ⟨rfl, rfl⟩)
    go_ret
    exact ⟨rfl, rfl⟩
theorem moment_is (n : Int) (b : Bool) (h : Ev.mom n = b) (w : World) : Calls Tryz.prog 63 #[.int .i64 n] w fun e w' => e = .returned (.bool b) ∧ w = w' := by
  cases b
  · have h' := (Ev.mom_no n).1 h
    clear h
    by_cases c : 0 ≤ n
    · go_enter Tryz.func63, Tryz.ntmps63
      go_wp2_with fail
      go_ret
      exact ⟨ret_bool (by simp <;> omega), rfl⟩
    · go_enter Tryz.func63, Tryz.ntmps63
      go_wp2_with fail
      go_ret
      exact ⟨ret_bool (by simp <;> omega), rfl⟩
  · have h' := (Ev.mom_iff n).1 h
    clear h
    go_enter Tryz.func63, Tryz.ntmps63
    go_wp2_with fail
    go_ret
    exact ⟨ret_bool (by simp <;> omega), rfl⟩
/-- A slice of length len: where it is not empty, its cells lie in an old block and hold f. -/
def Row (w : World) (a : Option Addr) (len : Nat) (f : Nat → Value) : Prop :=
  0 < len → ∃ b off, a = some ⟨b, off, none⟩ ∧ b < w.heap.size ∧ ∀ i, i < len → w.cell? ⟨b, off + i, none⟩ = some (f i)
theorem Row.keep {w w' : World} {a : Option Addr} {len : Nat} {f : Nat → Value} (h : Row w a len f) (hb : Below w.heap.size w w') : Row w' a len f := by
  intro hl
  obtain ⟨b, off, rfl, hlt, hc⟩ := h hl
  exact ⟨b, off, rfl, Nat.lt_of_lt_of_le hlt hb.size, fun i hi => (hb.cell (p := ⟨b, off + i, none⟩) hlt).trans (hc i hi)⟩
end Go.Proofs.YtngbaljmlbdfkaaGreatDoor
