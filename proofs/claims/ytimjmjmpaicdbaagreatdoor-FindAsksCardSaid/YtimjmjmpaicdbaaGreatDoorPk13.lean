/- Parts of the proof, no condition: Open, OpenF. -/
import Derived.Test.YtimjmjmpaicdbaaGreatDoorProg
import Derived.WalkKit
import Derived.ProofKit
import Derived.OpenShut
import Derived.ShutString
import Derived.ChangeOld
import Derived.Below
import Derived.SizedLaws
import Derived.Lib.SmallJoins
import Derived.Test.YtimjmjmpaicdbaaGreatDoorPk1
import Derived.Deep.SlicePairs
import Derived.SliceStrings
import Derived.Test.YtimjmjmpaicdbaaGreatDoorPk11
import Derived.Test.YtimjmjmpaicdbaaGreatDoorPk5
set_option maxRecDepth 100000
set_option maxHeartbeats 4000000
set_option linter.unusedVariables false
namespace Go.Proofs.YtimjmjmpaicdbaaGreatDoor
open Go.ChangeShapes Go.WideShapes Go.ChangeAt Go.RowKit Go.Joins Go.Deep
theorem row2_of {w : World} {x : Addr} {len m : Nat} {V0 V1 : Nat → Value} (hlm : len ≤ m) (h : ∀ i, i < m → w.cell? (x.add (i * 2)) = some (V0 i) ∧ w.cell? (x.add (i * 2 + 1)) = some (V1 i) ∧ (∃ n, V0 i = .int .i64 n ∧ (Lit.int .i64 n).wf = true) ∧ (∃ n, V1 i = .int .i64 n ∧ (Lit.int .i64 n).wf = true)) :
  ∃ S T : Nat → Int, Row2 w (some x) len (fun i => .int .i64 (S i)) (fun i => .int .i64 (T i)) ∧ (∀ i, i < len → (Lit.int .i64 (S i)).wf = true ∧ (Lit.int .i64 (T i)).wf = true) := by
 refine ⟨fun i => intOf (V0 i), fun i => intOf (V1 i), fun h0 => ?_, fun i hi => ?_⟩
 ·obtain ⟨b, off, spot⟩ := x
  have hc := (h 0 (by omega)).1
  have hspot : spot = none := by simpa [Addr.add] using World.cell?_spot hc
  subst hspot
  refine ⟨b, off, rfl, by simpa [Addr.add] using World.block_lt_of_cell? w _ hc, fun i hi => ?_⟩
  obtain ⟨e0, e1, ⟨n0, q0, _⟩, ⟨n1, q1, _⟩⟩ := h i (by omega)
  rw [show (⟨b, off, none⟩ : Addr).add (i * 2) = ⟨b, off + i * 2, none⟩ from by unfold Addr.add; split <;> simp_all, q0] at e0
  rw [show (⟨b, off, none⟩ : Addr).add (i * 2 + 1) = ⟨b, off + i * 2 + 1, none⟩ from by unfold Addr.add; split <;> simp_all; omega, q1] at e1
  show _ = some (Value.int .i64 (intOf (V0 i))) ∧ _ = some (Value.int .i64 (intOf (V1 i)))
  rw [q0, q1]; exact ⟨e0, e1⟩
 ·obtain ⟨e0, e1, ⟨n0, q0, w0⟩, ⟨n1, q1, w1⟩⟩ := h i (by omega)
  show (Lit.int .i64 (intOf (V0 i))).wf = true ∧ (Lit.int .i64 (intOf (V1 i))).wf = true
  rw [q0, q1]; exact ⟨w0, w1⟩
section
variable {H : Type} {enc : TypeId × Value → H} {w : World} {base : Nat} {spare : Nat → Bool} {held : Bool}
theorem addr_add (b off j : Nat) : (⟨b, off, none⟩ : Addr).add j = ⟨b, off + j, none⟩ := by unfold Addr.add; split <;> simp_all
theorem row_of_cells {x : Addr} {len m : Nat} {V : Nat → Value} (hlm : len ≤ m) (h : ∀ i, i < m → w.cell? (x.add i) = some (V i)) : Row w (some x) len V := by
 intro h0
 obtain ⟨b, off, spot⟩ := x
 have hc := h 0 (by omega)
 have hspot : spot = none := by simpa [Addr.add] using World.cell?_spot hc
 subst hspot
 exact ⟨b, off, rfl, by simpa [Addr.add] using World.block_lt_of_cell? w _ hc, fun i hi => by have := h i (by omega); rwa [addr_add] at this⟩
theorem open_intsF {v : Value} {n : Nat} {y : DataW H × List MemPlace} (hf : DataW.trod enc Tryz.prog w base spare held n 40 [v] = some y) :
  ∃ (a : Option Addr) (len cap : Nat) (z : Nat → Int), v = .slice a len cap ∧ len ≤ 9223372036854775807 ∧ Row w a len (fun i => .int .i64 (z i)) := by
 rcases open_ints Tryz.underlying40 Tryz.underlying3 (by kernel_rfl) hf with ⟨hcs, _⟩ | ⟨x, len, cap, zs, hcs, _, hl, hm, hz, _, hcell, hwz⟩
 ·simp at hcs
  subst hcs
  exact ⟨none, 0, 0, fun _ => 0, rfl, by omega, fun h => by omega⟩
 ·simp at hcs
  subst hcs
  have hzl : len ≤ zs.length := by rw [hz]; split <;> omega
  exact ⟨some x, len, cap, fun i => zs.getD i 0, rfl, by unfold maxLen at hm; omega, row_of_cells hzl hcell⟩
theorem open_stringsF {v : Value} {n : Nat} {y : DataW H × List MemPlace} (hf : DataW.trod enc Tryz.prog w base spare held n 83 [v] = some y) :
  ∃ (a : Option Addr) (len cap : Nat) (z : Nat → ByteArray), v = .slice a len cap ∧ len ≤ 9223372036854775807 ∧ Row w a len (fun i => .string (z i)) ∧ ∀ i, i < len → (z i).size ≤ 9223372036854775807 := by
 rcases open_strings Tryz.underlying83 Tryz.underlying9 (by kernel_rfl) hf with ⟨hcs, _⟩ | ⟨x, len, cap, zs, hcs, _, hl, hm, hz, _, hcell, hwz⟩
 ·simp at hcs
  subst hcs
  exact ⟨none, 0, 0, fun _ => ByteArray.empty, rfl, by omega, fun h => by omega, fun i hi => by omega⟩
 ·simp at hcs
  subst hcs
  have hzl : len ≤ zs.length := by rw [hz]; split <;> omega
  refine ⟨some x, len, cap, fun i => zs.getD i ByteArray.empty, rfl, by unfold maxLen at hm; omega, row_of_cells hzl hcell, fun i hi => ?_⟩
  have e : zs.getD i ByteArray.empty = zs[i]'(by omega) := by simp [List.getD_eq_getElem?_getD, List.getElem?_eq_getElem (show i < zs.length by omega)]
  show (zs.getD i ByteArray.empty).size ≤ _
  rw [e]
  have := hwz _ (List.getElem_mem (show i < zs.length by omega))
  unfold maxLen at this; omega
theorem cellsPlace : Tryz.prog.cellsOf 112 = 2 := by kernel_rfl
theorem open_placesF {v : Value} {n : Nat} {y : DataW H × List MemPlace} (hf : DataW.trod enc Tryz.prog w base spare held n 23 [v] = some y) :
  ∃ (a : Option Addr) (len cap : Nat) (S T : Nat → Int), v = .slice a len cap ∧ len ≤ 9223372036854775807 ∧ Row2 w a len (fun i => .int .i64 (S i)) (fun i => .int .i64 (T i)) := by
 rcases open_slice_pairs Tryz.underlying23 Tryz.underlying112 cellsPlace rfl rfl (by kernel_rfl) (by kernel_rfl) hf with ⟨hcs, _⟩ | ⟨x, l, c, m, n, V0, V1, D0, D1, P0, P1, hcs, _, hl, hm, hmm, _, hx⟩
 ·simp at hcs
  subst hcs
  exact ⟨none, 0, 0, fun _ => 0, fun _ => 0, rfl, by omega, fun h => by omega⟩
 ·simp at hcs
  subst hcs
  have hlm : l ≤ m := by rw [hmm]; split <;> omega
  obtain ⟨S, T, hr, hw⟩ := row2_of (w := w) (x := x) (V0 := V0) (V1 := V1) hlm (fun i hi => by
   obtain ⟨e0, e1, t0, t1⟩ := hx i hi
   obtain ⟨n0, q0, _, w0⟩ := DataW.trod_int Tryz.underlying3 t0
   obtain ⟨n1, q1, _, w1⟩ := DataW.trod_int Tryz.underlying3 t1
   exact ⟨e0, e1, ⟨n0, by simpa using q0, w0⟩, ⟨n1, by simpa using q1, w1⟩⟩)
  exact ⟨some x, l, c, S, T, rfl, by unfold maxLen at hm; omega, hr⟩
theorem some_at {α : Type} {xs : List α} {n i : Nat} (h : xs.length = n) (hi : i < n) : ∃ y, xs[i]? = some y := ⟨_, List.getElem?_eq_getElem (by omega)⟩
end
section
variable {H : Type} {enc : TypeId × Value → H} {w : World} {base : Nat} {spare : Nat → Bool} {held : Bool}
theorem cellsPhoto : Tryz.prog.cellsOf 85 = 13 := by kernel_rfl
theorem list13 {α : Type} {cs : List α} (h : cs.length = 13) : ∃ c0 c1 c2 c3 c4 c5 c6 c7 c8 c9 c10 c11 c12, cs = [c0, c1, c2, c3, c4, c5, c6, c7, c8, c9, c10, c11, c12] := by
 match cs, h with
 | [c0, c1, c2, c3, c4, c5, c6, c7, c8, c9, c10, c11, c12], _ => exact ⟨c0, c1, c2, c3, c4, c5, c6, c7, c8, c9, c10, c11, c12, rfl⟩
theorem open_photo_cells {cs : List Value} {fuel : Nat} {y : DataW H × List MemPlace} (hf : DataW.trod enc Tryz.prog w base spare held fuel 85 cs = some y) :
  ∃ p : Ph, cs = [.int .i64 p.id, .string p.file, .int .i64 p.mom, .int .i64 p.zone, .slice p.wa p.wn p.wc, .int .i64 p.W, .int .i64 p.H, .int .i64 p.turn, .int .i64 p.stars, .slice p.ta p.tn p.tc, .string p.cap, .slice p.pa p.pn p.pc, .bool p.hid] ∧ p.In w ∧ p.Fits := by
 obtain ⟨xs, n, _, _, hl, hlen, hg⟩ := DataW.trod_struct Tryz.underlying85 hf
 have hlen : xs.length = 13 := hlen
 rw [cellsPhoto] at hl
 obtain ⟨c0, c1, c2, c3, c4, c5, c6, c7, c8, c9, c10, c11, c12, rfl⟩ := list13 hl
 obtain ⟨y0, e0⟩ := some_at hlen (show 0 < 13 by omega)
 obtain ⟨y1, e1⟩ := some_at hlen (show 1 < 13 by omega)
 obtain ⟨y2, e2⟩ := some_at hlen (show 2 < 13 by omega)
 obtain ⟨y3, e3⟩ := some_at hlen (show 3 < 13 by omega)
 obtain ⟨y4, e4⟩ := some_at hlen (show 4 < 13 by omega)
 obtain ⟨y5, e5⟩ := some_at hlen (show 5 < 13 by omega)
 obtain ⟨y6, e6⟩ := some_at hlen (show 6 < 13 by omega)
 obtain ⟨y7, e7⟩ := some_at hlen (show 7 < 13 by omega)
 obtain ⟨y8, e8⟩ := some_at hlen (show 8 < 13 by omega)
 obtain ⟨y9, e9⟩ := some_at hlen (show 9 < 13 by omega)
 obtain ⟨y10, e10⟩ := some_at hlen (show 10 < 13 by omega)
 obtain ⟨y11, e11⟩ := some_at hlen (show 11 < 13 by omega)
 obtain ⟨y12, e12⟩ := some_at hlen (show 12 < 13 by omega)
 have g0 : DataW.trod enc Tryz.prog w base spare held n 3 [c0] = some y0 := (hg 0 _ rfl).trans e0
 have g1 : DataW.trod enc Tryz.prog w base spare held n 9 [c1] = some y1 := (hg 1 _ rfl).trans e1
 have g2 : DataW.trod enc Tryz.prog w base spare held n 3 [c2] = some y2 := (hg 2 _ rfl).trans e2
 have g3 : DataW.trod enc Tryz.prog w base spare held n 3 [c3] = some y3 := (hg 3 _ rfl).trans e3
 have g4 : DataW.trod enc Tryz.prog w base spare held n 23 [c4] = some y4 := (hg 4 _ rfl).trans e4
 have g5 : DataW.trod enc Tryz.prog w base spare held n 3 [c5] = some y5 := (hg 5 _ rfl).trans e5
 have g6 : DataW.trod enc Tryz.prog w base spare held n 3 [c6] = some y6 := (hg 6 _ rfl).trans e6
 have g7 : DataW.trod enc Tryz.prog w base spare held n 3 [c7] = some y7 := (hg 7 _ rfl).trans e7
 have g8 : DataW.trod enc Tryz.prog w base spare held n 3 [c8] = some y8 := (hg 8 _ rfl).trans e8
 have g9 : DataW.trod enc Tryz.prog w base spare held n 83 [c9] = some y9 := (hg 9 _ rfl).trans e9
 have g10 : DataW.trod enc Tryz.prog w base spare held n 9 [c10] = some y10 := (hg 10 _ rfl).trans e10
 have g11 : DataW.trod enc Tryz.prog w base spare held n 40 [c11] = some y11 := (hg 11 _ rfl).trans e11
 have g12 : DataW.trod enc Tryz.prog w base spare held n 4 [c12] = some y12 := (hg 12 _ rfl).trans e12
 clear hg hf
 obtain ⟨id, q0, _, _⟩ := DataW.trod_int Tryz.underlying3 g0
 obtain ⟨file, q1, _, s1⟩ := DataW.trod_string Tryz.underlying9 g1
 obtain ⟨mom, q2, _, _⟩ := DataW.trod_int Tryz.underlying3 g2
 obtain ⟨zone, q3, _, _⟩ := DataW.trod_int Tryz.underlying3 g3
 obtain ⟨wa, wn, wc, lat, lon, rfl, s4, r4⟩ := open_placesF g4
 obtain ⟨W, q5, _, _⟩ := DataW.trod_int Tryz.underlying3 g5
 obtain ⟨Hh, q6, _, _⟩ := DataW.trod_int Tryz.underlying3 g6
 obtain ⟨turn, q7, _, _⟩ := DataW.trod_int Tryz.underlying3 g7
 obtain ⟨stars, q8, _, _⟩ := DataW.trod_int Tryz.underlying3 g8
 obtain ⟨ta, tn, tc, tag, rfl, s9, r9, z9⟩ := open_stringsF g9
 obtain ⟨cap, q10, _, s10⟩ := DataW.trod_string Tryz.underlying9 g10
 obtain ⟨pa, pn, pc, who, rfl, s11, r11⟩ := open_intsF g11
 obtain ⟨hid, q12, _⟩ := DataW.trod_bool Tryz.underlying4 g12
 simp only [List.cons.injEq, and_true] at q0 q1 q2 q3 q5 q6 q7 q8 q10 q12
 subst q0 q1 q2 q3 q5 q6 q7 q8 q10 q12
 refine ⟨⟨id, mom, zone, W, Hh, turn, stars, file, cap, wa, wn, wc, lat, lon, ta, tn, tc, tag, pa, pn, pc, who, hid⟩, rfl, ⟨r4, r9, r11⟩, ⟨?_, ?_, z9, s4, s9, s11⟩⟩
 ·show file.size ≤ _; unfold maxLen at s1; omega
 ·show cap.size ≤ _; unfold maxLen at s10; omega
def PhotoAt (w : World) (x : Addr) (i : Nat) (q : Ph) : Prop := (∀ k v, [.int .i64 q.id, .string q.file, .int .i64 q.mom, .int .i64 q.zone, .slice q.wa q.wn q.wc, .int .i64 q.W, .int .i64 q.H, .int .i64 q.turn, .int .i64 q.stars, .slice q.ta q.tn q.tc, .string q.cap, .slice q.pa q.pn q.pc, .bool q.hid][k]? = some v → w.cell? (x.add (i * 13 + k)) = some v) ∧ q.In w ∧ q.Fits
def noPhoto : Ph := ⟨0, 0, 0, 0, 0, 0, 0, ByteArray.empty, ByteArray.empty, none, 0, 0, fun _ => 0, fun _ => 0, none, 0, 0, fun _ => ByteArray.empty, none, 0, 0, fun _ => 0, false⟩
theorem open_photos {r : Reach} {b0 : Nat} {v : Value} {d : DataW H} {p : List MemPlace} (hv : Value.okWide Tryz.prog w r b0 39 v) (h : DataW.Trod enc Tryz.prog w base spare held 39 v d p) :
  ∃ (a : Option Addr) (len cap : Nat) (z : Nat → Ph), v = .slice a len cap ∧ len ≤ 9223372036854775807 ∧ Phs w a len z ∧ ∀ i, i < len → (z i).Fits := by
 obtain ⟨a, len, cap, rfl⟩ := okWide_slice Tryz.underlying39 hv
 obtain ⟨fuel, hf⟩ := h
 rcases open_slice Tryz.underlying39 hf with ⟨hcs, _⟩ | ⟨x, l, c, m, n, D, Pl, hcs, _, hl, hm, hmm, _, hx⟩
 ·simp [Value.cells] at hcs
  obtain ⟨rfl, rfl, rfl⟩ := hcs
  exact ⟨none, 0, 0, fun _ => noPhoto, rfl, by omega, ⟨fun h => by omega, fun i h => by omega⟩, fun i h => by omega⟩
 ·simp [Value.cells] at hcs
  obtain ⟨rfl, rfl, rfl⟩ := hcs
  have hlm : len ≤ m := by rw [hmm]; split <;> omega
  have each : ∀ i, i < m → ∃ q, PhotoAt w x i q := by
   intro i hi
   obtain ⟨cs', h1, h2⟩ := hx i hi
   rw [cellsPhoto] at h1
   obtain ⟨_, hlen, hcell⟩ := World.cells?_some h1
   obtain ⟨q, hq, hI, hF⟩ := open_photo_cells h2
   refine ⟨q, fun k v hk => ?_, hI, hF⟩
   rw [← hq] at hk
   have hk13 : k < 13 := by have := (List.getElem?_eq_some_iff.1 hk).1; omega
   have := hcell k (by omega)
   rw [Addr.add_add] at this
   rw [this, hk]
  obtain ⟨Q, hQ⟩ : ∃ Q : Nat → Ph, ∀ i, i < m → PhotoAt w x i (Q i) :=
   ⟨fun i => if h : i < m then Classical.choose (each i h) else noPhoto, fun i hi => by simp only [dif_pos hi]; exact Classical.choose_spec (each i hi)⟩
  refine ⟨some x, len, cap, Q, rfl, by unfold maxLen at hm; omega, ⟨fun h0 => ?_, fun i hi => (hQ i (by omega)).2.1⟩, fun i hi => (hQ i (by omega)).2.2⟩
  obtain ⟨b, off, spot⟩ := x
  have hc := (hQ 0 (by omega)).1 0 _ rfl
  have hspot : spot = none := by simpa [Addr.add] using World.cell?_spot hc
  subst hspot
  refine ⟨b, off, rfl, by simpa [Addr.add] using World.block_lt_of_cell? w _ hc, fun i hi => ?_⟩
  have g := (hQ i (by omega)).1
  have ha : ∀ k, (⟨b, off, none⟩ : Addr).add (i * 13 + k) = ⟨b, off + i * 13 + k, none⟩ := fun k => by rw [addr_add, Nat.add_assoc]
  exact ⟨by have := g 0 _ rfl; rwa [ha] at this, by have := g 1 _ rfl; rwa [ha] at this, by have := g 2 _ rfl; rwa [ha] at this, by have := g 3 _ rfl; rwa [ha] at this, by have := g 4 _ rfl; rwa [ha] at this, by have := g 5 _ rfl; rwa [ha] at this, by have := g 6 _ rfl; rwa [ha] at this, by have := g 7 _ rfl; rwa [ha] at this, by have := g 8 _ rfl; rwa [ha] at this, by have := g 9 _ rfl; rwa [ha] at this, by have := g 10 _ rfl; rwa [ha] at this, by have := g 11 _ rfl; rwa [ha] at this, by have := g 12 _ rfl; rwa [ha] at this⟩
end
section
variable {H : Type} {enc : TypeId × Value → H} {w : World} {base : Nat} {spare : Nat → Bool} {held : Bool}
theorem cellsCond : Tryz.prog.cellsOf 25 = 6 := by kernel_rfl
theorem list6 {α : Type} {cs : List α} (h : cs.length = 6) : ∃ c0 c1 c2 c3 c4 c5, cs = [c0, c1, c2, c3, c4, c5] := by
 match cs, h with
 | [c0, c1, c2, c3, c4, c5], _ => exact ⟨c0, c1, c2, c3, c4, c5, rfl⟩
theorem open_cond_cells : ∀ (fuel : Nat) {cs : List Value} {y : DataW H × List MemPlace}, DataW.trod enc Tryz.prog w base spare held fuel 25 cs = some y → ∃ c : Cnd, cs = c.cells ∧ c.In w ∧ c.Fits := by
 intro fuel
 induction fuel using Nat.strongRecOn with
 | _ fuel ih =>
 intro cs y hf
 obtain ⟨xs, n, hfn, _, hl, hlen, hg⟩ := DataW.trod_struct Tryz.underlying25 hf
 have hlen : xs.length = 6 := hlen
 rw [cellsCond] at hl
 obtain ⟨c0, c1, c2, c3, c4, c5, rfl⟩ := list6 hl
 obtain ⟨y0, e0⟩ := some_at hlen (show 0 < 6 by omega)
 obtain ⟨y1, e1⟩ := some_at hlen (show 1 < 6 by omega)
 obtain ⟨y2, e2⟩ := some_at hlen (show 2 < 6 by omega)
 obtain ⟨y3, e3⟩ := some_at hlen (show 3 < 6 by omega)
 obtain ⟨y4, e4⟩ := some_at hlen (show 4 < 6 by omega)
 obtain ⟨y5, e5⟩ := some_at hlen (show 5 < 6 by omega)
 have g0 : DataW.trod enc Tryz.prog w base spare held n 3 [c0] = some y0 := (hg 0 _ rfl).trans e0
 have g1 : DataW.trod enc Tryz.prog w base spare held n 22 [c1] = some y1 := (hg 1 _ rfl).trans e1
 have g2 : DataW.trod enc Tryz.prog w base spare held n 9 [c2] = some y2 := (hg 2 _ rfl).trans e2
 have g3 : DataW.trod enc Tryz.prog w base spare held n 3 [c3] = some y3 := (hg 3 _ rfl).trans e3
 have g4 : DataW.trod enc Tryz.prog w base spare held n 3 [c4] = some y4 := (hg 4 _ rfl).trans e4
 have g5 : DataW.trod enc Tryz.prog w base spare held n 23 [c5] = some y5 := (hg 5 _ rfl).trans e5
 clear hg hf
 obtain ⟨op, q0, _, _⟩ := DataW.trod_int Tryz.underlying3 g0
 obtain ⟨text, q2, _, s2⟩ := DataW.trod_string Tryz.underlying9 g2
 obtain ⟨low, q3, _, _⟩ := DataW.trod_int Tryz.underlying3 g3
 obtain ⟨high, q4, _, _⟩ := DataW.trod_int Tryz.underlying3 g4
 obtain ⟨aa, an, ac, lat, lon, rfl, s5, r5⟩ := open_placesF g5
 simp only [List.cons.injEq, and_true] at q0 q2 q3 q4
 subst q0 q2 q3 q4
 have st : text.size ≤ 9223372036854775807 := by unfold maxLen at s2; omega
 rcases DataW.trod_slice Tryz.underlying22 g1 with ⟨hk, _⟩ | ⟨x, len, cap, elems, rest, m, hm, hcs, _, _, hlc, hcm, hel, hix, _, _⟩
 ·simp only [List.cons.injEq, and_true] at hk
  subst hk
  exact ⟨.mk op none 0 0 (fun _ => .zero) text low high aa an ac lat lon, rfl, ⟨fun h => by omega, fun i h => by omega, r5⟩, ⟨by omega, s5, st, fun i h => by omega⟩⟩
 ·simp only [List.cons.injEq, and_true] at hcs
  subst hcs
  have each : ∀ i, i < len → ∃ c : Cnd, (∀ k v, c.cells[k]? = some v → w.cell? (x.add (i * 6 + k)) = some v) ∧ c.In w ∧ c.Fits ∧ c.cells.length = 6 := by
   intro i hi
   have h := hix i hi
   rw [List.getElem?_eq_getElem (by omega)] at h
   obtain ⟨cs', h1, h2⟩ := Option.bind_eq_some_iff.1 h
   rw [cellsCond] at h1
   obtain ⟨_, hlen', hcell⟩ := World.cells?_some h1
   obtain ⟨q, hq, hI, hF⟩ := ih m (by omega) h2
   refine ⟨q, fun k v hk => ?_, hI, hF, by rw [← hq]; exact hlen'⟩
   rw [← hq] at hk
   have hk6 : k < 6 := by have := (List.getElem?_eq_some_iff.1 hk).1; omega
   have := hcell k (by omega)
   rw [Addr.add_add] at this
   rw [this, hk]
  obtain ⟨Q, hQ⟩ : ∃ Q : Nat → Cnd, ∀ i, i < len → (∀ k v, (Q i).cells[k]? = some v → w.cell? (x.add (i * 6 + k)) = some v) ∧ (Q i).In w ∧ (Q i).Fits ∧ (Q i).cells.length = 6 :=
   ⟨fun i => if h : i < len then Classical.choose (each i h) else .zero, fun i hi => by simp only [dif_pos hi]; exact Classical.choose_spec (each i hi)⟩
  refine ⟨.mk op (some x) len cap Q text low high aa an ac lat lon, rfl, ⟨fun h0 => ?_, fun i hi => (hQ i hi).2.1, r5⟩, ⟨by unfold maxLen at hcm; omega, s5, st, fun i hi => (hQ i hi).2.2.1⟩⟩
  obtain ⟨b, off, spot⟩ := x
  obtain ⟨v0, hv0⟩ : ∃ v, (Q 0).cells[0]? = some v := ⟨_, List.getElem?_eq_getElem (by rw [(hQ 0 h0).2.2.2]; omega)⟩
  have hc := (hQ 0 h0).1 0 v0 hv0
  have hspot : spot = none := by simpa [Addr.add] using World.cell?_spot hc
  subst hspot
  refine ⟨b, off, rfl, by simpa [Addr.add] using World.block_lt_of_cell? w _ hc, fun i hi j v hv => ?_⟩
  have := (hQ i hi).1 j v hv
  rwa [addr_add, ← Nat.add_assoc] at this
end
section
variable {H : Type} {enc : TypeId × Value → H} {w : World} {base : Nat} {spare : Nat → Bool} {held : Bool}
end
end Go.Proofs.YtimjmjmpaicdbaaGreatDoor
