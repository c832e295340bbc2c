/- How a condition among the arguments reads. -/
import Derived.Test.YtbbedepojogfmaaOpenF0
import Derived.Test.YtbbedepojogfmaaCnd
namespace Go.Proofs.Ytbbedepojogfmaa
open Go.ChangeShapes Go.WideShapes Go.ChangeAt Go.RowKit Go.Joins Go.Deep
set_option linter.unusedVariables false
section
variable {H : Type} {enc : TypeId × Value → H} {w : World} {base : Nat} {spare : Nat → Bool} {held : Bool}
theorem cellsCond : Try.prog.cellsOf 103 = 6 := by kernel_rfl
theorem list6 {α : Type} {cs : List α} (h : cs.length = 6) : ∃ c0 c1 c2 c3 c4 c5, cs = [c0, c1, c2, c3, c4, c5] := by
  match cs, h with
  | [c0, c1, c2, c3, c4, c5], _ => exact ⟨c0, c1, c2, c3, c4, c5, rfl⟩
set_option maxRecDepth 100000 in
set_option maxHeartbeats 4000000 in
theorem open_cond_cells : ∀ (fuel : Nat) {cs : List Value} {y : DataW H × List MemPlace}, DataW.trod enc Try.prog w base spare held fuel 103 cs = some y → ∃ c : Cnd, cs = c.cells ∧ c.In w ∧ c.Fits := by
  intro fuel
  induction fuel using Nat.strongRecOn with
  | _ fuel ih =>
  intro cs y hf
  obtain ⟨xs, n, hfn, _, hl, hlen, hg⟩ := DataW.trod_struct Try.underlying103 hf
  have hlen : xs.length = 6 := hlen
  rw [cellsCond] at hl
  obtain ⟨c0, c1, c2, c3, c4, c5, rfl⟩ := list6 hl
  obtain ⟨y0, e0⟩ := some_at hlen (show 0 < 6 by omega)
  obtain ⟨y1, e1⟩ := some_at hlen (show 1 < 6 by omega)
  obtain ⟨y2, e2⟩ := some_at hlen (show 2 < 6 by omega)
  obtain ⟨y3, e3⟩ := some_at hlen (show 3 < 6 by omega)
  obtain ⟨y4, e4⟩ := some_at hlen (show 4 < 6 by omega)
  obtain ⟨y5, e5⟩ := some_at hlen (show 5 < 6 by omega)
  have g0 : DataW.trod enc Try.prog w base spare held n 3 [c0] = some y0 := (hg 0 _ rfl).trans e0
  have g1 : DataW.trod enc Try.prog w base spare held n 101 [c1] = some y1 := (hg 1 _ rfl).trans e1
  have g2 : DataW.trod enc Try.prog w base spare held n 9 [c2] = some y2 := (hg 2 _ rfl).trans e2
  have g3 : DataW.trod enc Try.prog w base spare held n 3 [c3] = some y3 := (hg 3 _ rfl).trans e3
  have g4 : DataW.trod enc Try.prog w base spare held n 3 [c4] = some y4 := (hg 4 _ rfl).trans e4
  have g5 : DataW.trod enc Try.prog w base spare held n 37 [c5] = some y5 := (hg 5 _ rfl).trans e5
  clear hg hf
  obtain ⟨op, q0, _, _⟩ := DataW.trod_int Try.underlying3 g0
  obtain ⟨text, q2, _, s2⟩ := DataW.trod_string Try.underlying9 g2
  obtain ⟨low, q3, _, _⟩ := DataW.trod_int Try.underlying3 g3
  obtain ⟨high, q4, _, _⟩ := DataW.trod_int Try.underlying3 g4
  obtain ⟨aa, an, ac, lat, lon, rfl, s5, r5⟩ := open_placesF g5
  simp only [List.cons.injEq, and_true] at q0 q2 q3 q4
  subst q0 q2 q3 q4
  have st : text.size ≤ 9223372036854775807 := by unfold maxLen at s2; omega
  rcases DataW.trod_slice Try.underlying101 g1 with ⟨hk, _⟩ | ⟨x, len, cap, elems, rest, m, hm, hcs, _, _, hlc, hcm, hel, hix, _, _⟩
  · simp only [List.cons.injEq, and_true] at hk
    subst hk
    exact ⟨.mk op none 0 0 (fun _ => .zero) text low high aa an ac lat lon, rfl, ⟨fun h => by omega, fun i h => by omega, r5⟩, ⟨by omega, s5, st, fun i h => by omega⟩⟩
  · simp only [List.cons.injEq, and_true] at hcs
    subst hcs
    have each : ∀ i, i < len → ∃ c : Cnd, (∀ k v, c.cells[k]? = some v → w.cell? (x.add (i * 6 + k)) = some v) ∧ c.In w ∧ c.Fits ∧ c.cells.length = 6 := by
      intro i hi
      have h := hix i hi
      rw [List.getElem?_eq_getElem (by omega)] at h
      obtain ⟨cs', h1, h2⟩ := Option.bind_eq_some_iff.1 h
      rw [cellsCond] at h1
      obtain ⟨_, hlen', hcell⟩ := World.cells?_some h1
      obtain ⟨q, hq, hI, hF⟩ := ih m (by omega) h2
      refine ⟨q, fun k v hk => ?_, hI, hF, by rw [← hq]; exact hlen'⟩
      rw [← hq] at hk
      have hk6 : k < 6 := by have := (List.getElem?_eq_some_iff.1 hk).1; omega
      have := hcell k (by omega)
      rw [Addr.add_add] at this
      rw [this, hk]
    obtain ⟨Q, hQ⟩ : ∃ Q : Nat → Cnd, ∀ i, i < len → (∀ k v, (Q i).cells[k]? = some v → w.cell? (x.add (i * 6 + k)) = some v) ∧ (Q i).In w ∧ (Q i).Fits ∧ (Q i).cells.length = 6 :=
      ⟨fun i => if h : i < len then Classical.choose (each i h) else .zero, fun i hi => by simp only [dif_pos hi]; exact Classical.choose_spec (each i hi)⟩
    refine ⟨.mk op (some x) len cap Q text low high aa an ac lat lon, rfl, ⟨fun h0 => ?_, fun i hi => (hQ i hi).2.1, r5⟩, ⟨by unfold maxLen at hcm; omega, s5, st, fun i hi => (hQ i hi).2.2.1⟩⟩
    obtain ⟨b, off, spot⟩ := x
    obtain ⟨v0, hv0⟩ : ∃ v, (Q 0).cells[0]? = some v := ⟨_, List.getElem?_eq_getElem (by rw [(hQ 0 h0).2.2.2]; omega)⟩
    have hc := (hQ 0 h0).1 0 v0 hv0
    have hspot : spot = none := by simpa [Addr.add] using World.cell?_spot hc
    subst hspot
    refine ⟨b, off, rfl, by simpa [Addr.add] using World.block_lt_of_cell? w _ hc, fun i hi j v hv => ?_⟩
    have := (hQ i hi).1 j v hv
    rwa [addr_add, ← Nat.add_assoc] at this
end
end Go.Proofs.Ytbbedepojogfmaa
