/- desk.clean: a photo as a link shows it, by the program. -/
import Derived.Test.YtipmegkmkbbklaaDcHit
namespace Go.Proofs.Ytipmegkmkbbklaa
open Go.RowKit Go.Sort Go.Shelf
set_option linter.unusedVariables false
set_option linter.unusedSimpArgs false
/-- The photo's slices lie in new memory. -/
def Ph.New (r : Ph) (B : Nat) : Prop := NewK B r.wa r.wn ∧ NewK B r.ta r.tn ∧ NewK B r.pa r.pn
theorem Ph.cl_new {p : Ph} {kw kp kt : Bool} {a1 a2 a3 : Option Addr} {c1 c2 c3 B B' : Nat} (h1 : NewK B a1 p.wn) (h2 : NewK B a2 p.tn) (h3 : NewK B a3 p.pn) (hB : B' ≤ B) : (p.cl kw kp kt a1 c1 a2 c2 a3 c3).New B' := by
  refine ⟨?_, ?_, ?_⟩
  · cases kw
    · exact fun h => absurd h (by show ¬ 0 < 0; omega)
    · exact h1.down hB
  · cases kt
    · exact fun h => absurd h (by show ¬ 0 < 0; omega)
    · exact h2.down hB
  · cases kp
    · exact fun h => absurd h (by show ¬ 0 < 0; omega)
    · exact h3.down hB
theorem Ph.In.setRow {r : Ph} {w : World} {B b : Nat} (h : r.In w) (hn : r.New B) (hb : b < B) (cs : Array Value) : r.In (w.setRow b cs) :=
  ⟨places_rowK ((rowK_places h.places).setRow hn.1 hb cs), row_rowK ((rowK_row h.tags).setRow hn.2.1 hb cs), row_rowK ((rowK_row h.people).setRow hn.2.2 hb cs)⟩
theorem blk_setRow {w : World} {b g : Nat} {c cs : Array Value} {t : TypeId} (h : Blk w b c t) (hne : b ≠ g) : Blk (w.setRow g cs) b c t := (setRow_other w g b cs hne).trans h
theorem blk_setRow_same {w : World} {g : Nat} {c cs : Array Value} {t : TypeId} (h : Blk w g c t) : Blk (w.setRow g cs) g cs t := setRow_heap w g c cs t (0, 0) h
end Go.Proofs.Ytipmegkmkbbklaa
