/- How a link and areas among the arguments read. -/
import Derived.Test.YtipmegkmkbbklaaOpenF
import Derived.Test.YtipmegkmkbbklaaDcMath
namespace Go.Proofs.Ytipmegkmkbbklaa
open Go.ChangeShapes Go.WideShapes Go.ChangeAt Go.RowKit Go.Joins Go.Deep
set_option linter.unusedVariables false
section
variable {H : Type} {enc : TypeId × Value → H} {w : World} {base : Nat} {spare : Nat → Bool} {held : Bool}
theorem cellsLink : Try.prog.cellsOf 28 = 7 := by kernel_rfl
theorem cellsArea : Try.prog.cellsOf 77 = 3 := by kernel_rfl
theorem cellsPlaceD : Try.prog.cellsOf 71 = 2 := by kernel_rfl
theorem list7 {α : Type} {cs : List α} (h : cs.length = 7) : ∃ c0 c1 c2 c3 c4 c5 c6, cs = [c0, c1, c2, c3, c4, c5, c6] := by
  match cs, h with
  | [c0, c1, c2, c3, c4, c5, c6], _ => exact ⟨c0, c1, c2, c3, c4, c5, c6, rfl⟩
theorem list3 {α : Type} {cs : List α} (h : cs.length = 3) : ∃ c0 c1 c2, cs = [c0, c1, c2] := by
  match cs, h with
  | [c0, c1, c2], _ => exact ⟨c0, c1, c2, rfl⟩
theorem list2 {α : Type} {cs : List α} (h : cs.length = 2) : ∃ c0 c1, cs = [c0, c1] := by
  match cs, h with
  | [c0, c1], _ => exact ⟨c0, c1, rfl⟩
set_option maxRecDepth 100000 in
set_option maxHeartbeats 2000000 in
theorem open_link {r : Reach} {b0 : Nat} {v : Value} {d : DataW H} {p : List MemPlace} (hv : Value.okWide Try.prog w r b0 28 v) (h : DataW.Trod enc Try.prog w base spare held 28 v d p) :
    ∃ (key album : ByteArray) (pl pe wo : Bool) (F T : Int), v = .agg #[.string key, .string album, .bool pl, .bool pe, .bool wo, .int .i64 F, .int .i64 T] ∧ key.size ≤ 9223372036854775807 := by
  obtain ⟨cs, rfl, hsz⟩ := okWide_struct Try.underlying28 hv
  obtain ⟨fuel, hf⟩ := h
  have hf : DataW.trod enc Try.prog w base spare held fuel 28 cs.toList = some (d, p) := by simpa [Value.cells] using hf
  obtain ⟨xs, n, _, _, hl, hlen, hg⟩ := DataW.trod_struct Try.underlying28 hf
  have hlen : xs.length = 7 := hlen
  rw [cellsLink] at hl
  obtain ⟨c0, c1, c2, c3, c4, c5, c6, hcs⟩ := list7 hl
  rw [hcs] at hg
  obtain ⟨y0, e0⟩ := some_at hlen (show 0 < 7 by omega)
  obtain ⟨y1, e1⟩ := some_at hlen (show 1 < 7 by omega)
  obtain ⟨y2, e2⟩ := some_at hlen (show 2 < 7 by omega)
  obtain ⟨y3, e3⟩ := some_at hlen (show 3 < 7 by omega)
  obtain ⟨y4, e4⟩ := some_at hlen (show 4 < 7 by omega)
  obtain ⟨y5, e5⟩ := some_at hlen (show 5 < 7 by omega)
  obtain ⟨y6, e6⟩ := some_at hlen (show 6 < 7 by omega)
  have g0 : DataW.trod enc Try.prog w base spare held n 9 [c0] = some y0 := (hg 0 _ rfl).trans e0
  have g1 : DataW.trod enc Try.prog w base spare held n 9 [c1] = some y1 := (hg 1 _ rfl).trans e1
  have g2 : DataW.trod enc Try.prog w base spare held n 4 [c2] = some y2 := (hg 2 _ rfl).trans e2
  have g3 : DataW.trod enc Try.prog w base spare held n 4 [c3] = some y3 := (hg 3 _ rfl).trans e3
  have g4 : DataW.trod enc Try.prog w base spare held n 4 [c4] = some y4 := (hg 4 _ rfl).trans e4
  have g5 : DataW.trod enc Try.prog w base spare held n 3 [c5] = some y5 := (hg 5 _ rfl).trans e5
  have g6 : DataW.trod enc Try.prog w base spare held n 3 [c6] = some y6 := (hg 6 _ rfl).trans e6
  obtain ⟨key, q0, _, s0⟩ := DataW.trod_string Try.underlying9 g0
  obtain ⟨album, q1, _, _⟩ := DataW.trod_string Try.underlying9 g1
  obtain ⟨pl, q2, _⟩ := DataW.trod_bool Try.underlying4 g2
  obtain ⟨pe, q3, _⟩ := DataW.trod_bool Try.underlying4 g3
  obtain ⟨wo, q4, _⟩ := DataW.trod_bool Try.underlying4 g4
  obtain ⟨F, q5, _, _⟩ := DataW.trod_int Try.underlying3 g5
  obtain ⟨T, q6, _, _⟩ := DataW.trod_int Try.underlying3 g6
  simp only [List.cons.injEq, and_true] at q0 q1 q2 q3 q4 q5 q6
  subst q0 q1 q2 q3 q4 q5 q6
  refine ⟨key, album, pl, pe, wo, F, T, ?_, by unfold maxLen at s0; omega⟩
  rw [← hcs]
set_option maxRecDepth 100000 in
theorem open_area_cells {cs : List Value} {fuel : Nat} {y : DataW H × List MemPlace} (hf : DataW.trod enc Try.prog w base spare held fuel 77 cs = some y) :
    ∃ a o r : Int, cs = [.int .i64 a, .int .i64 o, .int .i64 r] := by
  obtain ⟨xs, n, _, _, hl, hlen, hg⟩ := DataW.trod_struct Try.underlying77 hf
  have hlen : xs.length = 2 := hlen
  rw [cellsArea] at hl
  obtain ⟨c0, c1, c2, rfl⟩ := list3 hl
  obtain ⟨y0, e0⟩ := some_at hlen (show 0 < 2 by omega)
  obtain ⟨y1, e1⟩ := some_at hlen (show 1 < 2 by omega)
  have g0 : DataW.trod enc Try.prog w base spare held n 71 [c0, c1] = some y0 := (hg 0 _ rfl).trans e0
  have g1 : DataW.trod enc Try.prog w base spare held n 3 [c2] = some y1 := (hg 1 _ rfl).trans e1
  obtain ⟨xs2, n2, _, _, hl2, hlen2, hg2⟩ := DataW.trod_struct Try.underlying71 g0
  have hlen2 : xs2.length = 2 := hlen2
  obtain ⟨z0, f0⟩ := some_at hlen2 (show 0 < 2 by omega)
  obtain ⟨z1, f1⟩ := some_at hlen2 (show 1 < 2 by omega)
  have k0 : DataW.trod enc Try.prog w base spare held n2 3 [c0] = some z0 := (hg2 0 _ rfl).trans f0
  have k1 : DataW.trod enc Try.prog w base spare held n2 3 [c1] = some z1 := (hg2 1 _ rfl).trans f1
  obtain ⟨a, q0, _, _⟩ := DataW.trod_int Try.underlying3 k0
  obtain ⟨o, q1, _, _⟩ := DataW.trod_int Try.underlying3 k1
  obtain ⟨r, q2, _, _⟩ := DataW.trod_int Try.underlying3 g1
  simp only [List.cons.injEq, and_true] at q0 q1 q2
  subst q0 q1 q2
  exact ⟨a, o, r, rfl⟩
def AreaAt (w : World) (x : Addr) (i : Nat) (q : Int × Int × Int) : Prop := ∀ k v, [Value.int .i64 q.1, .int .i64 q.2.1, .int .i64 q.2.2][k]? = some v → w.cell? (x.add (i * 3 + k)) = some v
set_option maxRecDepth 100000 in
set_option maxHeartbeats 1000000 in
theorem open_areas {r : Reach} {b0 : Nat} {v : Value} {d : DataW H} {p : List MemPlace} (hv : Value.okWide Try.prog w r b0 29 v) (h : DataW.Trod enc Try.prog w base spare held 29 v d p) :
    ∃ (a : Option Addr) (len cap : Nat) (la lo ra : Nat → Int), v = .slice a len cap ∧ len ≤ 9223372036854775807 ∧ Ars w a len la lo ra := by
  obtain ⟨a, len, cap, rfl⟩ := okWide_slice Try.underlying29 hv
  obtain ⟨fuel, hf⟩ := h
  rcases open_slice Try.underlying29 hf with ⟨hcs, _⟩ | ⟨x, l, c, m, n, D, Pl, hcs, _, hl, hm, hmm, _, hx⟩
  · simp [Value.cells] at hcs
    obtain ⟨rfl, rfl, rfl⟩ := hcs
    exact ⟨none, 0, 0, fun _ => 0, fun _ => 0, fun _ => 0, rfl, by omega, fun h => by omega⟩
  · simp [Value.cells] at hcs
    obtain ⟨rfl, rfl, rfl⟩ := hcs
    have hlm : len ≤ m := by rw [hmm]; split <;> omega
    have each : ∀ i, i < m → ∃ q, AreaAt w x i q := by
      intro i hi
      obtain ⟨cs', h1, h2⟩ := hx i hi
      rw [cellsArea] at h1
      obtain ⟨_, hlen, hcell⟩ := World.cells?_some h1
      obtain ⟨a, o, r, hq⟩ := open_area_cells h2
      refine ⟨(a, o, r), fun k v hk => ?_⟩
      have hk : [Value.int .i64 a, .int .i64 o, .int .i64 r][k]? = some v := hk
      rw [← hq] at hk
      have hk3 : k < 3 := by have := (List.getElem?_eq_some_iff.1 hk).1; omega
      have := hcell k (by omega)
      rw [Addr.add_add] at this
      rw [this, hk]
    obtain ⟨Q, hQ⟩ : ∃ Q : Nat → Int × Int × Int, ∀ i, i < m → AreaAt w x i (Q i) :=
      ⟨fun i => if h : i < m then Classical.choose (each i h) else (0, 0, 0), fun i hi => by simp only [dif_pos hi]; exact Classical.choose_spec (each i hi)⟩
    refine ⟨some x, len, cap, fun i => (Q i).1, fun i => (Q i).2.1, fun i => (Q i).2.2, rfl, by unfold maxLen at hm; omega, fun h0 => ?_⟩
    obtain ⟨b, off, spot⟩ := x
    have hc := (hQ 0 (by omega)) 0 _ rfl
    have hspot : spot = none := by simpa [Addr.add] using World.cell?_spot hc
    subst hspot
    refine ⟨b, off, rfl, by simpa [Addr.add] using World.block_lt_of_cell? w _ hc, fun i hi => ⟨?_, ?_, ?_⟩⟩
    · have := hQ i (by omega) 0 _ rfl
      rwa [addr_add] at this
    · have := hQ i (by omega) 1 _ rfl
      rw [addr_add] at this; rw [Nat.add_assoc]; exact this
    · have := hQ i (by omega) 2 _ rfl
      rw [addr_add] at this; rw [Nat.add_assoc]; exact this
end
end Go.Proofs.Ytipmegkmkbbklaa
