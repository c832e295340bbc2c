/- How albums among the arguments read. -/
import Derived.Test.YtbbedepojogfmaaOpenC
import Derived.Test.YtbbedepojogfmaaAlbs
namespace Go.Proofs.Ytbbedepojogfmaa
open Go.ChangeShapes Go.WideShapes Go.ChangeAt Go.RowKit Go.Joins Go.Deep
set_option linter.unusedVariables false
section
variable {H : Type} {enc : TypeId × Value → H} {w : World} {base : Nat} {spare : Nat → Bool} {held : Bool}
theorem cellsAlbum : Try.prog.cellsOf 105 = 10 := by kernel_rfl
theorem list10 {α : Type} {cs : List α} (h : cs.length = 10) : ∃ c0 c1 c2 c3 c4 c5 c6 c7 c8 c9, cs = [c0, c1, c2, c3, c4, c5, c6, c7, c8, c9] := by
  match cs, h with
  | [c0, c1, c2, c3, c4, c5, c6, c7, c8, c9], _ => exact ⟨c0, c1, c2, c3, c4, c5, c6, c7, c8, c9, rfl⟩
set_option maxRecDepth 100000 in
set_option maxHeartbeats 4000000 in
theorem open_album_cells {cs : List Value} {fuel : Nat} {y : DataW H × List MemPlace} (hf : DataW.trod enc Try.prog w base spare held fuel 105 cs = some y) :
    ∃ p : Alb, cs = [.string p.name, .bool p.smart, .int .i64 p.rule.op, .slice p.rule.ka p.rule.kn p.rule.kc, .string p.rule.text, .int .i64 p.rule.low, .int .i64 p.rule.high, .slice p.rule.aa p.rule.an p.rule.ac, .slice p.pa p.pn p.pc, .slice p.ba p.bn p.bc] ∧ p.In w ∧ p.Fits := by
  obtain ⟨xs, n, _, _, hl, hlen, hg⟩ := DataW.trod_struct Try.underlying105 hf
  have hlen : xs.length = 5 := hlen
  rw [cellsAlbum] at hl
  obtain ⟨c0, c1, c2, c3, c4, c5, c6, c7, c8, c9, rfl⟩ := list10 hl
  obtain ⟨y0, e0⟩ := some_at hlen (show 0 < 5 by omega)
  obtain ⟨y1, e1⟩ := some_at hlen (show 1 < 5 by omega)
  obtain ⟨y2, e2⟩ := some_at hlen (show 2 < 5 by omega)
  obtain ⟨y3, e3⟩ := some_at hlen (show 3 < 5 by omega)
  obtain ⟨y4, e4⟩ := some_at hlen (show 4 < 5 by omega)
  have g0 : DataW.trod enc Try.prog w base spare held n 9 [c0] = some y0 := (hg 0 _ rfl).trans e0
  have g1 : DataW.trod enc Try.prog w base spare held n 4 [c1] = some y1 := (hg 1 _ rfl).trans e1
  have g2 : DataW.trod enc Try.prog w base spare held n 103 [c2, c3, c4, c5, c6, c7] = some y2 := (hg 2 _ rfl).trans e2
  have g3 : DataW.trod enc Try.prog w base spare held n 29 [c8] = some y3 := (hg 3 _ rfl).trans e3
  have g4 : DataW.trod enc Try.prog w base spare held n 29 [c9] = some y4 := (hg 4 _ rfl).trans e4
  clear hg hf
  obtain ⟨name, q0, _, s0⟩ := DataW.trod_string Try.underlying9 g0
  obtain ⟨smart, q1, _⟩ := DataW.trod_bool Try.underlying4 g1
  obtain ⟨rule, q2, rI, rF⟩ := open_cond_cells n g2
  obtain ⟨pa, pn, pc, pin, rfl, s3, r3⟩ := open_intsF g3
  obtain ⟨ba, bn, bc, bar, rfl, s4, r4⟩ := open_intsF g4
  rw [rI.cells] at q2
  simp only [List.cons.injEq, and_true] at q0 q1 q2
  obtain ⟨q2, q3, q4, q5, q6, q7⟩ := q2
  subst q0 q1 q2 q3 q4 q5 q6 q7
  exact ⟨⟨name, smart, rule, pa, pn, pc, pin, ba, bn, bc, bar⟩, rfl, ⟨rI, r3, r4⟩, ⟨by show name.size ≤ _; unfold maxLen at s0; omega, rF, s3, s4⟩⟩
def AlbumAt (w : World) (x : Addr) (i : Nat) (q : Alb) : Prop := (∀ k v, [.string q.name, .bool q.smart, .int .i64 q.rule.op, .slice q.rule.ka q.rule.kn q.rule.kc, .string q.rule.text, .int .i64 q.rule.low, .int .i64 q.rule.high, .slice q.rule.aa q.rule.an q.rule.ac, .slice q.pa q.pn q.pc, .slice q.ba q.bn q.bc][k]? = some v → w.cell? (x.add (i * 10 + k)) = some v) ∧ q.In w ∧ q.Fits
def noAlbum : Alb := ⟨ByteArray.empty, false, .zero, none, 0, 0, fun _ => 0, none, 0, 0, fun _ => 0⟩
set_option maxRecDepth 100000 in
set_option maxHeartbeats 4000000 in
theorem open_albums {r : Reach} {b0 : Nat} {v : Value} {d : DataW H} {p : List MemPlace} (hv : Value.okWide Try.prog w r b0 46 v) (h : DataW.Trod enc Try.prog w base spare held 46 v d p) :
    ∃ (a : Option Addr) (len cap : Nat) (z : Nat → Alb), v = .slice a len cap ∧ len ≤ 9223372036854775807 ∧ Als w a len z ∧ ∀ i, i < len → (z i).Fits := by
  obtain ⟨a, len, cap, rfl⟩ := okWide_slice Try.underlying46 hv
  obtain ⟨fuel, hf⟩ := h
  rcases open_slice Try.underlying46 hf with ⟨hcs, _⟩ | ⟨x, l, c, m, n, D, Pl, hcs, _, hl, hm, hmm, _, hx⟩
  · simp [Value.cells] at hcs
    obtain ⟨rfl, rfl, rfl⟩ := hcs
    exact ⟨none, 0, 0, fun _ => noAlbum, rfl, by omega, ⟨fun h => by omega, fun i h => by omega⟩, fun i h => by omega⟩
  · simp [Value.cells] at hcs
    obtain ⟨rfl, rfl, rfl⟩ := hcs
    have hlm : len ≤ m := by rw [hmm]; split <;> omega
    have each : ∀ i, i < m → ∃ q, AlbumAt w x i q := by
      intro i hi
      obtain ⟨cs', h1, h2⟩ := hx i hi
      rw [cellsAlbum] at h1
      obtain ⟨_, hlen, hcell⟩ := World.cells?_some h1
      obtain ⟨q, hq, hI, hF⟩ := open_album_cells h2
      refine ⟨q, fun k v hk => ?_, hI, hF⟩
      rw [← hq] at hk
      have hk10 : k < 10 := by have := (List.getElem?_eq_some_iff.1 hk).1; omega
      have := hcell k (by omega)
      rw [Addr.add_add] at this
      rw [this, hk]
    obtain ⟨Q, hQ⟩ : ∃ Q : Nat → Alb, ∀ i, i < m → AlbumAt w x i (Q i) :=
      ⟨fun i => if h : i < m then Classical.choose (each i h) else noAlbum, fun i hi => by simp only [dif_pos hi]; exact Classical.choose_spec (each i hi)⟩
    refine ⟨some x, len, cap, Q, rfl, by unfold maxLen at hm; omega, ⟨fun h0 => ?_, fun i hi => (hQ i (by omega)).2.1⟩, fun i hi => (hQ i (by omega)).2.2⟩
    obtain ⟨b, off, spot⟩ := x
    have hc := (hQ 0 (by omega)).1 0 _ rfl
    have hspot : spot = none := by simpa [Addr.add] using World.cell?_spot hc
    subst hspot
    refine ⟨b, off, rfl, by simpa [Addr.add] using World.block_lt_of_cell? w _ hc, fun i hi => ?_⟩
    have g := (hQ i (by omega)).1
    have ha : ∀ k, (⟨b, off, none⟩ : Addr).add (i * 10 + k) = ⟨b, off + i * 10 + k, none⟩ := fun k => by rw [addr_add, Nat.add_assoc]
    exact ⟨by have := g 0 _ rfl; rwa [ha] at this, by have := g 1 _ rfl; rwa [ha] at this, by have := g 2 _ rfl; rwa [ha] at this, by have := g 3 _ rfl; rwa [ha] at this, by have := g 4 _ rfl; rwa [ha] at this, by have := g 5 _ rfl; rwa [ha] at this, by have := g 6 _ rfl; rwa [ha] at this, by have := g 7 _ rfl; rwa [ha] at this, by have := g 8 _ rfl; rwa [ha] at this, by have := g 9 _ rfl; rwa [ha] at this⟩
end
end Go.Proofs.Ytbbedepojogfmaa
