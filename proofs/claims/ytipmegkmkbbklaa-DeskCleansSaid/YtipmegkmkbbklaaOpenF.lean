/- How photos and libraries among the arguments read. -/
import Derived.Test.YtipmegkmkbbklaaOpenF0
import Derived.Test.YtipmegkmkbbklaaFdLib
namespace Go.Proofs.Ytipmegkmkbbklaa
open Go.ChangeShapes Go.WideShapes Go.ChangeAt Go.RowKit Go.Joins Go.Deep
set_option linter.unusedVariables false
section
variable {H : Type} {enc : TypeId × Value → H} {w : World} {base : Nat} {spare : Nat → Bool} {held : Bool}
theorem cellsPhoto : Try.prog.cellsOf 26 = 13 := by kernel_rfl
theorem list13 {α : Type} {cs : List α} (h : cs.length = 13) : ∃ c0 c1 c2 c3 c4 c5 c6 c7 c8 c9 c10 c11 c12, cs = [c0, c1, c2, c3, c4, c5, c6, c7, c8, c9, c10, c11, c12] := by
  match cs, h with
  | [c0, c1, c2, c3, c4, c5, c6, c7, c8, c9, c10, c11, c12], _ => exact ⟨c0, c1, c2, c3, c4, c5, c6, c7, c8, c9, c10, c11, c12, rfl⟩
set_option maxRecDepth 100000 in
set_option maxHeartbeats 4000000 in
theorem open_photo_cells {cs : List Value} {fuel : Nat} {y : DataW H × List MemPlace} (hf : DataW.trod enc Try.prog w base spare held fuel 26 cs = some y) :
    ∃ p : Ph, cs = [.int .i64 p.id, .string p.file, .int .i64 p.mom, .int .i64 p.zone, .slice p.wa p.wn p.wc, .int .i64 p.W, .int .i64 p.H, .int .i64 p.turn, .int .i64 p.stars, .slice p.ta p.tn p.tc, .string p.cap, .slice p.pa p.pn p.pc, .bool p.hid] ∧ p.In w ∧ p.Fits := by
  obtain ⟨xs, n, _, _, hl, hlen, hg⟩ := DataW.trod_struct Try.underlying26 hf
  have hlen : xs.length = 13 := hlen
  rw [cellsPhoto] at hl
  obtain ⟨c0, c1, c2, c3, c4, c5, c6, c7, c8, c9, c10, c11, c12, rfl⟩ := list13 hl
  obtain ⟨y0, e0⟩ := some_at hlen (show 0 < 13 by omega)
  obtain ⟨y1, e1⟩ := some_at hlen (show 1 < 13 by omega)
  obtain ⟨y2, e2⟩ := some_at hlen (show 2 < 13 by omega)
  obtain ⟨y3, e3⟩ := some_at hlen (show 3 < 13 by omega)
  obtain ⟨y4, e4⟩ := some_at hlen (show 4 < 13 by omega)
  obtain ⟨y5, e5⟩ := some_at hlen (show 5 < 13 by omega)
  obtain ⟨y6, e6⟩ := some_at hlen (show 6 < 13 by omega)
  obtain ⟨y7, e7⟩ := some_at hlen (show 7 < 13 by omega)
  obtain ⟨y8, e8⟩ := some_at hlen (show 8 < 13 by omega)
  obtain ⟨y9, e9⟩ := some_at hlen (show 9 < 13 by omega)
  obtain ⟨y10, e10⟩ := some_at hlen (show 10 < 13 by omega)
  obtain ⟨y11, e11⟩ := some_at hlen (show 11 < 13 by omega)
  obtain ⟨y12, e12⟩ := some_at hlen (show 12 < 13 by omega)
  have g0 : DataW.trod enc Try.prog w base spare held n 3 [c0] = some y0 := (hg 0 _ rfl).trans e0
  have g1 : DataW.trod enc Try.prog w base spare held n 9 [c1] = some y1 := (hg 1 _ rfl).trans e1
  have g2 : DataW.trod enc Try.prog w base spare held n 3 [c2] = some y2 := (hg 2 _ rfl).trans e2
  have g3 : DataW.trod enc Try.prog w base spare held n 3 [c3] = some y3 := (hg 3 _ rfl).trans e3
  have g4 : DataW.trod enc Try.prog w base spare held n 22 [c4] = some y4 := (hg 4 _ rfl).trans e4
  have g5 : DataW.trod enc Try.prog w base spare held n 3 [c5] = some y5 := (hg 5 _ rfl).trans e5
  have g6 : DataW.trod enc Try.prog w base spare held n 3 [c6] = some y6 := (hg 6 _ rfl).trans e6
  have g7 : DataW.trod enc Try.prog w base spare held n 3 [c7] = some y7 := (hg 7 _ rfl).trans e7
  have g8 : DataW.trod enc Try.prog w base spare held n 3 [c8] = some y8 := (hg 8 _ rfl).trans e8
  have g9 : DataW.trod enc Try.prog w base spare held n 23 [c9] = some y9 := (hg 9 _ rfl).trans e9
  have g10 : DataW.trod enc Try.prog w base spare held n 9 [c10] = some y10 := (hg 10 _ rfl).trans e10
  have g11 : DataW.trod enc Try.prog w base spare held n 24 [c11] = some y11 := (hg 11 _ rfl).trans e11
  have g12 : DataW.trod enc Try.prog w base spare held n 4 [c12] = some y12 := (hg 12 _ rfl).trans e12
  clear hg hf
  obtain ⟨id, q0, _, _⟩ := DataW.trod_int Try.underlying3 g0
  obtain ⟨file, q1, _, s1⟩ := DataW.trod_string Try.underlying9 g1
  obtain ⟨mom, q2, _, _⟩ := DataW.trod_int Try.underlying3 g2
  obtain ⟨zone, q3, _, _⟩ := DataW.trod_int Try.underlying3 g3
  obtain ⟨wa, wn, wc, lat, lon, rfl, s4, r4⟩ := open_placesF g4
  obtain ⟨W, q5, _, _⟩ := DataW.trod_int Try.underlying3 g5
  obtain ⟨Hh, q6, _, _⟩ := DataW.trod_int Try.underlying3 g6
  obtain ⟨turn, q7, _, _⟩ := DataW.trod_int Try.underlying3 g7
  obtain ⟨stars, q8, _, _⟩ := DataW.trod_int Try.underlying3 g8
  obtain ⟨ta, tn, tc, tag, rfl, s9, r9, z9⟩ := open_stringsF g9
  obtain ⟨cap, q10, _, s10⟩ := DataW.trod_string Try.underlying9 g10
  obtain ⟨pa, pn, pc, who, rfl, s11, r11⟩ := open_intsF g11
  obtain ⟨hid, q12, _⟩ := DataW.trod_bool Try.underlying4 g12
  simp only [List.cons.injEq, and_true] at q0 q1 q2 q3 q5 q6 q7 q8 q10 q12
  subst q0 q1 q2 q3 q5 q6 q7 q8 q10 q12
  refine ⟨⟨id, mom, zone, W, Hh, turn, stars, file, cap, wa, wn, wc, lat, lon, ta, tn, tc, tag, pa, pn, pc, who, hid⟩, rfl, ⟨r4, r9, r11⟩, ⟨?_, ?_, z9, s4, s9, s11⟩⟩
  · show file.size ≤ _; unfold maxLen at s1; omega
  · show cap.size ≤ _; unfold maxLen at s10; omega
set_option maxRecDepth 100000 in
theorem open_photo {r : Reach} {b0 : Nat} {v : Value} {d : DataW H} {p : List MemPlace} (hv : Value.okWide Try.prog w r b0 26 v) (h : DataW.Trod enc Try.prog w base spare held 26 v d p) :
    ∃ q : Ph, v = .agg #[.int .i64 q.id, .string q.file, .int .i64 q.mom, .int .i64 q.zone, .slice q.wa q.wn q.wc, .int .i64 q.W, .int .i64 q.H, .int .i64 q.turn, .int .i64 q.stars, .slice q.ta q.tn q.tc, .string q.cap, .slice q.pa q.pn q.pc, .bool q.hid] ∧ q.In w ∧ q.Fits := by
  obtain ⟨cs, rfl, hsz⟩ := okWide_struct Try.underlying26 hv
  obtain ⟨fuel, hf⟩ := h
  have hf : DataW.trod enc Try.prog w base spare held fuel 26 cs.toList = some (d, p) := by simpa [Value.cells] using hf
  obtain ⟨q, hq, hI, hF⟩ := open_photo_cells hf
  refine ⟨q, ?_, hI, hF⟩
  rw [← hq]
/-- What is said of one photo of a library. -/
def PhotoAt (w : World) (x : Addr) (i : Nat) (q : Ph) : Prop := (∀ k v, [.int .i64 q.id, .string q.file, .int .i64 q.mom, .int .i64 q.zone, .slice q.wa q.wn q.wc, .int .i64 q.W, .int .i64 q.H, .int .i64 q.turn, .int .i64 q.stars, .slice q.ta q.tn q.tc, .string q.cap, .slice q.pa q.pn q.pc, .bool q.hid][k]? = some v → w.cell? (x.add (i * 13 + k)) = some v) ∧ q.In w ∧ q.Fits
def noPhoto : Ph := ⟨0, 0, 0, 0, 0, 0, 0, ByteArray.empty, ByteArray.empty, none, 0, 0, fun _ => 0, fun _ => 0, none, 0, 0, fun _ => ByteArray.empty, none, 0, 0, fun _ => 0, false⟩
set_option maxRecDepth 100000 in
set_option maxHeartbeats 4000000 in
theorem open_photos {r : Reach} {b0 : Nat} {v : Value} {d : DataW H} {p : List MemPlace} (hv : Value.okWide Try.prog w r b0 37 v) (h : DataW.Trod enc Try.prog w base spare held 37 v d p) :
    ∃ (a : Option Addr) (len cap : Nat) (z : Nat → Ph), v = .slice a len cap ∧ len ≤ 9223372036854775807 ∧ Phs w a len z ∧ ∀ i, i < len → (z i).Fits := by
  obtain ⟨a, len, cap, rfl⟩ := okWide_slice Try.underlying37 hv
  obtain ⟨fuel, hf⟩ := h
  rcases open_slice Try.underlying37 hf with ⟨hcs, _⟩ | ⟨x, l, c, m, n, D, Pl, hcs, _, hl, hm, hmm, _, hx⟩
  · simp [Value.cells] at hcs
    obtain ⟨rfl, rfl, rfl⟩ := hcs
    exact ⟨none, 0, 0, fun _ => noPhoto, rfl, by omega, ⟨fun h => by omega, fun i h => by omega⟩, fun i h => by omega⟩
  · simp [Value.cells] at hcs
    obtain ⟨rfl, rfl, rfl⟩ := hcs
    have hlm : len ≤ m := by rw [hmm]; split <;> omega
    have each : ∀ i, i < m → ∃ q, PhotoAt w x i q := by
      intro i hi
      obtain ⟨cs', h1, h2⟩ := hx i hi
      rw [cellsPhoto] at h1
      obtain ⟨_, hlen, hcell⟩ := World.cells?_some h1
      obtain ⟨q, hq, hI, hF⟩ := open_photo_cells h2
      refine ⟨q, fun k v hk => ?_, hI, hF⟩
      rw [← hq] at hk
      have hk13 : k < 13 := by have := (List.getElem?_eq_some_iff.1 hk).1; omega
      have := hcell k (by omega)
      rw [Addr.add_add] at this
      rw [this, hk]
    obtain ⟨Q, hQ⟩ : ∃ Q : Nat → Ph, ∀ i, i < m → PhotoAt w x i (Q i) :=
      ⟨fun i => if h : i < m then Classical.choose (each i h) else noPhoto, fun i hi => by simp only [dif_pos hi]; exact Classical.choose_spec (each i hi)⟩
    refine ⟨some x, len, cap, Q, rfl, by unfold maxLen at hm; omega, ⟨fun h0 => ?_, fun i hi => (hQ i (by omega)).2.1⟩, fun i hi => (hQ i (by omega)).2.2⟩
    obtain ⟨b, off, spot⟩ := x
    have hc := (hQ 0 (by omega)).1 0 _ rfl
    have hspot : spot = none := by simpa [Addr.add] using World.cell?_spot hc
    subst hspot
    refine ⟨b, off, rfl, by simpa [Addr.add] using World.block_lt_of_cell? w _ hc, fun i hi => ?_⟩
    have g := (hQ i (by omega)).1
    have ha : ∀ k, (⟨b, off, none⟩ : Addr).add (i * 13 + k) = ⟨b, off + i * 13 + k, none⟩ := fun k => by rw [addr_add, Nat.add_assoc]
    exact ⟨by have := g 0 _ rfl; rwa [ha] at this, by have := g 1 _ rfl; rwa [ha] at this, by have := g 2 _ rfl; rwa [ha] at this, by have := g 3 _ rfl; rwa [ha] at this, by have := g 4 _ rfl; rwa [ha] at this, by have := g 5 _ rfl; rwa [ha] at this, by have := g 6 _ rfl; rwa [ha] at this, by have := g 7 _ rfl; rwa [ha] at this, by have := g 8 _ rfl; rwa [ha] at this, by have := g 9 _ rfl; rwa [ha] at this, by have := g 10 _ rfl; rwa [ha] at this, by have := g 11 _ rfl; rwa [ha] at this, by have := g 12 _ rfl; rwa [ha] at this⟩
end
end Go.Proofs.Ytipmegkmkbbklaa
