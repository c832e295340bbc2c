/- Parts of the proof, no condition: OpenRow, OpenSt, OpenMv. -/
import Derived.Test.YthdiccdnggloiaaGreatDoorPl2
import Derived.Deep.Fields23
import Derived.Deep.SlicePairs
import Derived.Deep.Slices
import Derived.ProofKit
import Derived.OpenShut
import Derived.ShutString
import Derived.ChangeOld
import Derived.SizedLaws
import Derived.Lib.SmallJoins
import Derived.Test.YthdiccdnggloiaaGreatDoorPl3
import Derived.Test.YthdiccdnggloiaaGreatDoorPl7
import Derived.Test.YthdiccdnggloiaaGreatDoorRows
set_option maxRecDepth 100000
set_option linter.unusedSimpArgs false
set_option linter.unusedVariables false
namespace Go.Proofs.YthdiccdnggloiaaGreatDoor
open Go.ChangeShapes Go.WideShapes Go.ChangeAt Go.RowKit Go.Joins Go.Deep
section
variable {H : Type} {enc : TypeId × Value → H} {w : World} {base : Nat} {spare : Nat → Bool} {held : Bool}
theorem addr_addR (b off n : Nat) : (⟨b, off, none⟩ : Addr).add n = ⟨b, off + n, none⟩ := by unfold Addr.add; split <;> simp_all
theorem open_rowE {α : Type} (E : Enc α) (hk : 0 < E.k) (Q : α → Prop) {t e : TypeId} (ht : Tryz.prog.underlying t = some (.slice e)) (hc : Tryz.prog.cellsOf e = E.k)
  (he : ∀ n cs y, DataW.trod enc Tryz.prog w base spare held n e cs = some y → ∃ x, cs = E.cells x ∧ Q x) {v : Value} {n : Nat} {y : DataW H × List MemPlace} (hf : DataW.trod enc Tryz.prog w base spare held n t [v] = some y) :
  ∃ (a : Option Addr) (cap : Nat) (L : List α), v = .slice a L.length cap ∧ L.length ≤ cap ∧ cap ≤ 9223372036854775807 ∧ RowE E w a L ∧ ∀ x ∈ L, Q x := by
 rcases open_slice ht hf with ⟨hcs, _⟩ | ⟨x, len, cap, m, n, D, Pl, hcs, _, hl, hm, hmm, _, hx⟩
 ·simp at hcs
  subst hcs
  exact ⟨none, 0, [], rfl, by simp, by omega, RowE.nil _ _ _, fun x h => by cases h⟩
 ·simp at hcs
  subst hcs
  have hlm : len ≤ m := by rw [hmm]; split <;> omega
  have each : ∀ i, i < m → ∃ z : α, Q z ∧ ∀ (k : Nat) (u : Value), (E.cells z)[k]? = some u → w.cell? (x.add (i * E.k + k)) = some u := by
   intro i hi
   obtain ⟨cs', h1, h2⟩ := hx i hi
   rw [hc] at h1
   obtain ⟨_, hlen, hcell⟩ := World.cells?_some h1
   obtain ⟨z, hz, hq⟩ := he _ _ _ h2
   refine ⟨z, hq, fun k u hu => ?_⟩
   rw [← hz] at hu
   have hkk : k < E.k := by have := (List.getElem?_eq_some_iff.1 hu).1; omega
   have := hcell k (by omega)
   rw [Addr.add_add] at this
   rw [this, hu]
  by_cases h0 : len = 0
  ·subst h0
   exact ⟨some x, cap, [], rfl, by simp, by unfold maxLen at hm; omega, RowE.nil _ _ _, fun x h => by cases h⟩
  ·obtain ⟨z0, _⟩ := each 0 (by omega)
   obtain ⟨Z, hZ⟩ : ∃ Z : Nat → α, ∀ i, i < m → Q (Z i) ∧ ∀ (k : Nat) (u : Value), (E.cells (Z i))[k]? = some u → w.cell? (x.add (i * E.k + k)) = some u :=
    ⟨fun i => if h : i < m then Classical.choose (each i h) else z0, fun i hi => by simp only [dif_pos hi]; exact Classical.choose_spec (each i hi)⟩
   have hlen : ((List.range len).map Z).length = len := by simp
   refine ⟨some x, cap, (List.range len).map Z, by rw [hlen], by rw [hlen]; exact hl, by unfold maxLen at hm; omega, fun _ => ?_, fun u hu => ?_⟩
   ·obtain ⟨b, off, spot⟩ := x
    obtain ⟨u0, hu0⟩ : ∃ u, (E.cells (Z 0))[0]? = some u := ⟨_, List.getElem?_eq_getElem (by rw [E.len]; exact hk)⟩
    have hc0 := (hZ 0 (by omega)).2 0 u0 hu0
    have hspot : spot = none := by simpa [Addr.add] using World.cell?_spot hc0
    subst hspot
    refine ⟨b, off, rfl, by simpa [Addr.add] using World.block_lt_of_cell? w _ hc0, fun i z hz k u hu => ?_⟩
    have hi : i < len := by have := (List.getElem?_eq_some_iff.1 hz).1; omega
    rw [List.getElem?_map, List.getElem?_range hi] at hz
    obtain rfl : Z i = z := Option.some.inj hz
    have := (hZ i (by omega)).2 k u hu
    rw [addr_addR] at this
    rw [Nat.add_assoc]; exact this
   ·obtain ⟨i, hi, rfl⟩ := List.mem_map.1 hu
    exact (hZ i (by have := List.mem_range.1 hi; omega)).1
end
end Go.Proofs.YthdiccdnggloiaaGreatDoor
namespace Go.Proofs.YthdiccdnggloiaaGreatDoor
open Go.ChangeShapes Go.WideShapes Go.ChangeAt Go.RowKit Go.Joins Go.Deep
set_option maxRecDepth 100000
section
variable {H : Type} {enc : TypeId × Value → H} {w : World} {base : Nat} {spare : Nat → Bool} {held : Bool}
theorem some_atS {α : Type} {xs : List α} {n k : Nat} (h : xs.length = n) (hk : k < n) : ∃ y, xs[k]? = some y := ⟨_, List.getElem?_eq_getElem (by omega)⟩
theorem cellsTier : Tryz.prog.cellsOf 46 = 4 := by kernel_rfl
theorem open_tier {cs : List Value} {fuel : Nat} {y : DataW H × List MemPlace} (hf : DataW.trod enc Tryz.prog w base spare held fuel 46 cs = some y) : ∃ x : Tir, cs = St.eT.cells x ∧ (x.name.size ≤ 9223372036854775807) := by
 obtain ⟨xs, n, _, _, hl, hlen, hg⟩ := DataW.trod_struct Tryz.underlying46 hf
 have hlen : xs.length = 4 := hlen
 rw [cellsTier] at hl
 obtain ⟨c0, c1, c2, c3, rfl⟩ : ∃ c0 c1 c2 c3, cs = [c0, c1, c2, c3] := by match cs, hl with | [c0, c1, c2, c3], _ => exact ⟨c0, c1, c2, c3, rfl⟩
 obtain ⟨y0, e0⟩ := some_atS hlen (show 0 < 4 by omega)
 obtain ⟨y1, e1⟩ := some_atS hlen (show 1 < 4 by omega)
 obtain ⟨y2, e2⟩ := some_atS hlen (show 2 < 4 by omega)
 obtain ⟨y3, e3⟩ := some_atS hlen (show 3 < 4 by omega)
 have g0 : DataW.trod enc Tryz.prog w base spare held n 9 [c0] = some y0 := (hg 0 _ rfl).trans e0
 have g1 : DataW.trod enc Tryz.prog w base spare held n 3 [c1] = some y1 := (hg 1 _ rfl).trans e1
 have g2 : DataW.trod enc Tryz.prog w base spare held n 3 [c2] = some y2 := (hg 2 _ rfl).trans e2
 have g3 : DataW.trod enc Tryz.prog w base spare held n 4 [c3] = some y3 := (hg 3 _ rfl).trans e3
 clear hg hf
 obtain ⟨v0, q0, _, s0⟩ := DataW.trod_string Tryz.underlying9 g0
 obtain ⟨v1, q1, _, _⟩ := DataW.trod_int Tryz.underlying3 g1
 obtain ⟨v2, q2, _, _⟩ := DataW.trod_int Tryz.underlying3 g2
 obtain ⟨v3, q3, _⟩ := DataW.trod_bool Tryz.underlying4 g3
 simp only [List.cons.injEq, and_true] at q0 q1 q2 q3
 subst q0 q1 q2 q3
 exact ⟨⟨v0, v1, v2, v3⟩, rfl, by unfold maxLen at s0; omega⟩
theorem cellsFile : Tryz.prog.cellsOf 30 = 4 := by kernel_rfl
theorem open_file {cs : List Value} {fuel : Nat} {y : DataW H × List MemPlace} (hf : DataW.trod enc Tryz.prog w base spare held fuel 30 cs = some y) : ∃ x : Fil, cs = St.eF.cells x ∧ (x.dig.size ≤ 9223372036854775807 ∧ x.frm.size ≤ 9223372036854775807) := by
 obtain ⟨xs, n, _, _, hl, hlen, hg⟩ := DataW.trod_struct Tryz.underlying30 hf
 have hlen : xs.length = 4 := hlen
 rw [cellsFile] at hl
 obtain ⟨c0, c1, c2, c3, rfl⟩ : ∃ c0 c1 c2 c3, cs = [c0, c1, c2, c3] := by match cs, hl with | [c0, c1, c2, c3], _ => exact ⟨c0, c1, c2, c3, rfl⟩
 obtain ⟨y0, e0⟩ := some_atS hlen (show 0 < 4 by omega)
 obtain ⟨y1, e1⟩ := some_atS hlen (show 1 < 4 by omega)
 obtain ⟨y2, e2⟩ := some_atS hlen (show 2 < 4 by omega)
 obtain ⟨y3, e3⟩ := some_atS hlen (show 3 < 4 by omega)
 have g0 : DataW.trod enc Tryz.prog w base spare held n 9 [c0] = some y0 := (hg 0 _ rfl).trans e0
 have g1 : DataW.trod enc Tryz.prog w base spare held n 3 [c1] = some y1 := (hg 1 _ rfl).trans e1
 have g2 : DataW.trod enc Tryz.prog w base spare held n 3 [c2] = some y2 := (hg 2 _ rfl).trans e2
 have g3 : DataW.trod enc Tryz.prog w base spare held n 9 [c3] = some y3 := (hg 3 _ rfl).trans e3
 clear hg hf
 obtain ⟨v0, q0, _, s0⟩ := DataW.trod_string Tryz.underlying9 g0
 obtain ⟨v1, q1, _, _⟩ := DataW.trod_int Tryz.underlying3 g1
 obtain ⟨v2, q2, _, _⟩ := DataW.trod_int Tryz.underlying3 g2
 obtain ⟨v3, q3, _, s3⟩ := DataW.trod_string Tryz.underlying9 g3
 simp only [List.cons.injEq, and_true] at q0 q1 q2 q3
 subst q0 q1 q2 q3
 exact ⟨⟨v0, v1, v2, v3⟩, rfl, ⟨by unfold maxLen at s0; omega, by unfold maxLen at s3; omega⟩⟩
theorem cellsCopy : Tryz.prog.cellsOf 74 = 4 := by kernel_rfl
theorem open_copy {cs : List Value} {fuel : Nat} {y : DataW H × List MemPlace} (hf : DataW.trod enc Tryz.prog w base spare held fuel 74 cs = some y) : ∃ x : Cop, cs = St.eC.cells x ∧ (x.dig.size ≤ 9223372036854775807 ∧ x.tier.size ≤ 9223372036854775807) := by
 obtain ⟨xs, n, _, _, hl, hlen, hg⟩ := DataW.trod_struct Tryz.underlying74 hf
 have hlen : xs.length = 4 := hlen
 rw [cellsCopy] at hl
 obtain ⟨c0, c1, c2, c3, rfl⟩ : ∃ c0 c1 c2 c3, cs = [c0, c1, c2, c3] := by match cs, hl with | [c0, c1, c2, c3], _ => exact ⟨c0, c1, c2, c3, rfl⟩
 obtain ⟨y0, e0⟩ := some_atS hlen (show 0 < 4 by omega)
 obtain ⟨y1, e1⟩ := some_atS hlen (show 1 < 4 by omega)
 obtain ⟨y2, e2⟩ := some_atS hlen (show 2 < 4 by omega)
 obtain ⟨y3, e3⟩ := some_atS hlen (show 3 < 4 by omega)
 have g0 : DataW.trod enc Tryz.prog w base spare held n 9 [c0] = some y0 := (hg 0 _ rfl).trans e0
 have g1 : DataW.trod enc Tryz.prog w base spare held n 9 [c1] = some y1 := (hg 1 _ rfl).trans e1
 have g2 : DataW.trod enc Tryz.prog w base spare held n 4 [c2] = some y2 := (hg 2 _ rfl).trans e2
 have g3 : DataW.trod enc Tryz.prog w base spare held n 3 [c3] = some y3 := (hg 3 _ rfl).trans e3
 clear hg hf
 obtain ⟨v0, q0, _, s0⟩ := DataW.trod_string Tryz.underlying9 g0
 obtain ⟨v1, q1, _, s1⟩ := DataW.trod_string Tryz.underlying9 g1
 obtain ⟨v2, q2, _⟩ := DataW.trod_bool Tryz.underlying4 g2
 obtain ⟨v3, q3, _, _⟩ := DataW.trod_int Tryz.underlying3 g3
 simp only [List.cons.injEq, and_true] at q0 q1 q2 q3
 subst q0 q1 q2 q3
 exact ⟨⟨v0, v1, v2, v3⟩, rfl, ⟨by unfold maxLen at s0; omega, by unfold maxLen at s1; omega⟩⟩
theorem cellsGone : Tryz.prog.cellsOf 112 = 2 := by kernel_rfl
theorem open_gone {cs : List Value} {fuel : Nat} {y : DataW H × List MemPlace} (hf : DataW.trod enc Tryz.prog w base spare held fuel 112 cs = some y) : ∃ x : Gon, cs = St.eG.cells x ∧ (x.dig.size ≤ 9223372036854775807) := by
 obtain ⟨xs, n, _, _, hl, hlen, hg⟩ := DataW.trod_struct Tryz.underlying112 hf
 have hlen : xs.length = 2 := hlen
 rw [cellsGone] at hl
 obtain ⟨c0, c1, rfl⟩ : ∃ c0 c1, cs = [c0, c1] := by match cs, hl with | [c0, c1], _ => exact ⟨c0, c1, rfl⟩
 obtain ⟨y0, e0⟩ := some_atS hlen (show 0 < 2 by omega)
 obtain ⟨y1, e1⟩ := some_atS hlen (show 1 < 2 by omega)
 have g0 : DataW.trod enc Tryz.prog w base spare held n 9 [c0] = some y0 := (hg 0 _ rfl).trans e0
 have g1 : DataW.trod enc Tryz.prog w base spare held n 3 [c1] = some y1 := (hg 1 _ rfl).trans e1
 clear hg hf
 obtain ⟨v0, q0, _, s0⟩ := DataW.trod_string Tryz.underlying9 g0
 obtain ⟨v1, q1, _, _⟩ := DataW.trod_int Tryz.underlying3 g1
 simp only [List.cons.injEq, and_true] at q0 q1
 subst q0 q1
 exact ⟨⟨v0, v1⟩, rfl, by unfold maxLen at s0; omega⟩
theorem cellsStr : Tryz.prog.cellsOf 9 = 1 := by kernel_rfl
theorem open_strE {cs : List Value} {fuel : Nat} {y : DataW H × List MemPlace} (hf : DataW.trod enc Tryz.prog w base spare held fuel 9 cs = some y) : ∃ x : ByteArray, cs = St.eS.cells x ∧ x.size ≤ 9223372036854775807 := by
 obtain ⟨v, q, _, s⟩ := DataW.trod_string Tryz.underlying9 hf
 exact ⟨v, q, by unfold maxLen at s; omega⟩
theorem cellsStore : Tryz.prog.cellsOf 28 = 7 := by kernel_rfl
theorem open_store_cells {cs : List Value} {fuel : Nat} {y : DataW H × List MemPlace} (hf : DataW.trod enc Tryz.prog w base spare held fuel 28 cs = some y) : ∃ (s : Sto) (a : StA), cs = [.int .i64 s.least, .int .i64 s.wait, .slice a.ta s.tiers.length a.tc, .slice a.fa s.files.length a.fc, .slice a.ca s.copies.length a.cc, .slice a.ha s.held.length a.hc, .slice a.ba s.bin.length a.bc] ∧ StIn w s a := by
 obtain ⟨xs, n, _, _, hl, hlen, hg⟩ := DataW.trod_struct Tryz.underlying28 hf
 have hlen : xs.length = 7 := hlen
 rw [cellsStore] at hl
 obtain ⟨c0, c1, c2, c3, c4, c5, c6, rfl⟩ : ∃ c0 c1 c2 c3 c4 c5 c6, cs = [c0, c1, c2, c3, c4, c5, c6] := by match cs, hl with | [c0, c1, c2, c3, c4, c5, c6], _ => exact ⟨c0, c1, c2, c3, c4, c5, c6, rfl⟩
 obtain ⟨y0, e0⟩ := some_atS hlen (show 0 < 7 by omega)
 obtain ⟨y1, e1⟩ := some_atS hlen (show 1 < 7 by omega)
 obtain ⟨y2, e2⟩ := some_atS hlen (show 2 < 7 by omega)
 obtain ⟨y3, e3⟩ := some_atS hlen (show 3 < 7 by omega)
 obtain ⟨y4, e4⟩ := some_atS hlen (show 4 < 7 by omega)
 obtain ⟨y5, e5⟩ := some_atS hlen (show 5 < 7 by omega)
 obtain ⟨y6, e6⟩ := some_atS hlen (show 6 < 7 by omega)
 have g0 : DataW.trod enc Tryz.prog w base spare held n 3 [c0] = some y0 := (hg 0 _ rfl).trans e0
 have g1 : DataW.trod enc Tryz.prog w base spare held n 3 [c1] = some y1 := (hg 1 _ rfl).trans e1
 have g2 : DataW.trod enc Tryz.prog w base spare held n 22 [c2] = some y2 := (hg 2 _ rfl).trans e2
 have g3 : DataW.trod enc Tryz.prog w base spare held n 23 [c3] = some y3 := (hg 3 _ rfl).trans e3
 have g4 : DataW.trod enc Tryz.prog w base spare held n 24 [c4] = some y4 := (hg 4 _ rfl).trans e4
 have g5 : DataW.trod enc Tryz.prog w base spare held n 25 [c5] = some y5 := (hg 5 _ rfl).trans e5
 have g6 : DataW.trod enc Tryz.prog w base spare held n 26 [c6] = some y6 := (hg 6 _ rfl).trans e6
 clear hg hf
 obtain ⟨least, q0, _, _⟩ := DataW.trod_int Tryz.underlying3 g0
 obtain ⟨wait, q1, _, _⟩ := DataW.trod_int Tryz.underlying3 g1
 simp only [List.cons.injEq, and_true] at q0 q1
 subst q0 q1
 obtain ⟨a2, k2, L2, rfl, l2, m2, r2, z2⟩ := open_rowE St.eT (by decide) _ Tryz.underlying22 cellsTier (fun _ _ _ h => open_tier h) g2
 obtain ⟨a3, k3, L3, rfl, l3, m3, r3, z3⟩ := open_rowE St.eF (by decide) _ Tryz.underlying23 cellsFile (fun _ _ _ h => open_file h) g3
 obtain ⟨a4, k4, L4, rfl, l4, m4, r4, z4⟩ := open_rowE St.eC (by decide) _ Tryz.underlying24 cellsCopy (fun _ _ _ h => open_copy h) g4
 obtain ⟨a5, k5, L5, rfl, l5, m5, r5, z5⟩ := open_rowE St.eS (by decide) _ Tryz.underlying25 cellsStr (fun _ _ _ h => open_strE h) g5
 obtain ⟨a6, k6, L6, rfl, l6, m6, r6, z6⟩ := open_rowE St.eG (by decide) _ Tryz.underlying26 cellsGone (fun _ _ _ h => open_gone h) g6
 exact ⟨⟨least, wait, L2, L3, L4, L5, L6⟩, ⟨a2, k2, a3, k3, a4, k4, a5, k5, a6, k6⟩, rfl, ⟨r2, r3, r4, r5, r6, ⟨l2, m2⟩, ⟨l3, m3⟩, ⟨l4, m4⟩, ⟨l5, m5⟩, ⟨l6, m6⟩, z2, z3, z4, z5, z6⟩⟩
theorem open_store {r : Reach} {b0 : Nat} {v : Value} {d : DataW H} {p : List MemPlace} (hv : Value.okWide Tryz.prog w r b0 28 v) (h : DataW.Trod enc Tryz.prog w base spare held 28 v d p) :
  ∃ (s : Sto) (a : StA), v = .agg #[.int .i64 s.least, .int .i64 s.wait, .slice a.ta s.tiers.length a.tc, .slice a.fa s.files.length a.fc, .slice a.ca s.copies.length a.cc, .slice a.ha s.held.length a.hc, .slice a.ba s.bin.length a.bc] ∧ StIn w s a := by
 obtain ⟨cs, rfl, hsz⟩ := okWide_struct Tryz.underlying28 hv
 obtain ⟨fuel, hf⟩ := h
 have hf : DataW.trod enc Tryz.prog w base spare held fuel 28 cs.toList = some (d, p) := by simpa [Value.cells] using hf
 obtain ⟨s, a, hq, hI⟩ := open_store_cells hf
 refine ⟨s, a, ?_, hI⟩
 rw [← hq]
end
section
variable {H : Type} {enc : TypeId × Value → H} {w : World} {base : Nat} {spare : Nat → Bool} {held : Bool}
theorem open_rowD {α : Type} (E : Enc α) (hk : 0 < E.k) (Q : α → DataW H → Prop) {t e : TypeId} (ht : Tryz.prog.underlying t = some (.slice e)) (hc : Tryz.prog.cellsOf e = E.k)
  (he : ∀ n cs y, DataW.trod enc Tryz.prog w base spare held n e cs = some y → ∃ x, cs = E.cells x ∧ Q x y.1) {v : Value} {n : Nat} {y : DataW H × List MemPlace} (hf : DataW.trod enc Tryz.prog w base spare held n t [v] = some y) :
  ∃ (a : Option Addr) (cap : Nat) (L : List α), v = .slice a L.length cap ∧ L.length ≤ cap ∧ cap ≤ 9223372036854775807 ∧ RowE E w a L ∧ ∀ x ∈ L, ∃ ds sp d, y.1 = .slice ds sp ∧ d ∈ ds ∧ Q x d := by
 rcases open_slice ht hf with ⟨hcs, _⟩ | ⟨x, len, cap, m, n, D, Pl, hcs, _, hl, hm, hmm, hy, hx⟩
 ·simp at hcs
  subst hcs
  exact ⟨none, 0, [], rfl, by simp, by omega, RowE.nil _ _ _, fun x h => by cases h⟩
 ·simp at hcs
  subst hcs
  have hlm : len ≤ m := by rw [hmm]; split <;> omega
  have each : ∀ i, i < m → ∃ z : α, Q z (D i) ∧ ∀ (k : Nat) (u : Value), (E.cells z)[k]? = some u → w.cell? (x.add (i * E.k + k)) = some u := by
   intro i hi
   obtain ⟨cs', h1, h2⟩ := hx i hi
   rw [hc] at h1
   obtain ⟨_, hlen, hcell⟩ := World.cells?_some h1
   obtain ⟨z, hz, hq⟩ := he _ _ _ h2
   refine ⟨z, hq, fun k u hu => ?_⟩
   rw [← hz] at hu
   have hkk : k < E.k := by have := (List.getElem?_eq_some_iff.1 hu).1; omega
   have := hcell k (by omega)
   rw [Addr.add_add] at this
   rw [this, hu]
  by_cases h0 : len = 0
  ·subst h0
   exact ⟨some x, cap, [], rfl, by simp, by unfold maxLen at hm; omega, RowE.nil _ _ _, fun x h => by cases h⟩
  ·obtain ⟨z0, _⟩ := each 0 (by omega)
   obtain ⟨Z, hZ⟩ : ∃ Z : Nat → α, ∀ i, i < m → Q (Z i) (D i) ∧ ∀ (k : Nat) (u : Value), (E.cells (Z i))[k]? = some u → w.cell? (x.add (i * E.k + k)) = some u :=
    ⟨fun i => if h : i < m then Classical.choose (each i h) else z0, fun i hi => by simp only [dif_pos hi]; exact Classical.choose_spec (each i hi)⟩
   have hlen : ((List.range len).map Z).length = len := by simp
   refine ⟨some x, cap, (List.range len).map Z, by rw [hlen], by rw [hlen]; exact hl, by unfold maxLen at hm; omega, fun _ => ?_, fun u hu => ?_⟩
   ·obtain ⟨b, off, spot⟩ := x
    obtain ⟨u0, hu0⟩ : ∃ u, (E.cells (Z 0))[0]? = some u := ⟨_, List.getElem?_eq_getElem (by rw [E.len]; exact hk)⟩
    have hc0 := (hZ 0 (by omega)).2 0 u0 hu0
    have hspot : spot = none := by simpa [Addr.add] using World.cell?_spot hc0
    subst hspot
    refine ⟨b, off, rfl, by simpa [Addr.add] using World.block_lt_of_cell? w _ hc0, fun i z hz k u hu => ?_⟩
    have hi : i < len := by have := (List.getElem?_eq_some_iff.1 hz).1; omega
    rw [List.getElem?_map, List.getElem?_range hi] at hz
    obtain rfl : Z i = z := Option.some.inj hz
    have := (hZ i (by omega)).2 k u hu
    rw [addr_addR] at this
    rw [Nat.add_assoc]; exact this
   ·obtain ⟨i, hi, rfl⟩ := List.mem_map.1 hu
    have hil := List.mem_range.1 hi
    exact ⟨_, _, D i, by rw [hy], List.mem_map.2 ⟨i, hi, rfl⟩, (hZ i (by omega)).1⟩
theorem cellsMove : Tryz.prog.cellsOf 52 = 4 := by kernel_rfl
theorem open_move {cs : List Value} {fuel : Nat} {y : DataW H × List MemPlace} (hf : DataW.trod enc Tryz.prog w base spare held fuel 52 cs = some y) : ∃ x : Mov, cs = St.eM.cells x ∧ x.dig.size + x.frm.size + x.dst.size ≤ Rows.uptoBulk y.1 := by
 obtain ⟨xs, n, _, hy, hl, hlen, hg⟩ := DataW.trod_struct Tryz.underlying52 hf
 have hlen : xs.length = 4 := hlen
 rw [cellsMove] at hl
 obtain ⟨c0, c1, c2, c3, rfl⟩ : ∃ c0 c1 c2 c3, cs = [c0, c1, c2, c3] := by match cs, hl with | [c0, c1, c2, c3], _ => exact ⟨c0, c1, c2, c3, rfl⟩
 obtain ⟨y0, y1, y2, y3, rfl⟩ : ∃ y0 y1 y2 y3, xs = [y0, y1, y2, y3] := by match xs, hlen with | [y0, y1, y2, y3], _ => exact ⟨y0, y1, y2, y3, rfl⟩
 have g0 : DataW.trod enc Tryz.prog w base spare held n 3 [c0] = some y0 := (hg 0 _ rfl).trans rfl
 have g1 : DataW.trod enc Tryz.prog w base spare held n 9 [c1] = some y1 := (hg 1 _ rfl).trans rfl
 have g2 : DataW.trod enc Tryz.prog w base spare held n 9 [c2] = some y2 := (hg 2 _ rfl).trans rfl
 have g3 : DataW.trod enc Tryz.prog w base spare held n 9 [c3] = some y3 := (hg 3 _ rfl).trans rfl
 clear hg hf
 obtain ⟨v0, q0, _, _⟩ := DataW.trod_int Tryz.underlying3 g0
 obtain ⟨v1, q1, rfl, _⟩ := DataW.trod_string Tryz.underlying9 g1
 obtain ⟨v2, q2, rfl, _⟩ := DataW.trod_string Tryz.underlying9 g2
 obtain ⟨v3, q3, rfl, _⟩ := DataW.trod_string Tryz.underlying9 g3
 simp only [List.cons.injEq, and_true] at q0 q1 q2 q3
 subst q0 q1 q2 q3
 refine ⟨⟨v0, v1, v2, v3⟩, rfl, ?_⟩
 rw [hy]
 have e : ∀ b : ByteArray, b.data.toList.length = b.size := fun _ => rfl
 simp only [List.map_cons, List.map_nil, Rows.uptoBulk, Rows.uptoBulkAll, e]
 omega
theorem bulk_mem {d : DataW H} : ∀ {ds : List (DataW H)}, d ∈ ds → Rows.uptoBulk d ≤ Rows.uptoBulkAll ds
 | x :: r, h => by
   rw [Rows.uptoBulkAll]
   rcases List.mem_cons.1 h with rfl | h
   ·omega
   ·have := bulk_mem h; omega
theorem open_movs {r : Reach} {b0 : Nat} {v : Value} {d : DataW H} {p : List MemPlace} (hv : Value.okWide Tryz.prog w r b0 41 v) (h : DataW.Trod enc Tryz.prog w base spare held 41 v d p) :
  ∃ (a : Option Addr) (cap : Nat) (L : List Mov), v = .slice a L.length cap ∧ (L.length ≤ cap ∧ cap ≤ 9223372036854775807) ∧ RowE St.eM w a L ∧ ∀ m ∈ L, m.dig.size + m.frm.size + m.dst.size ≤ Rows.uptoBulk d := by
 obtain ⟨a, len, cap, rfl⟩ := okWide_slice Tryz.underlying41 hv
 obtain ⟨fuel, hf⟩ := h
 have hf : DataW.trod enc Tryz.prog w base spare held fuel 41 [.slice a len cap] = some (d, p) := by simpa [Value.cells] using hf
 obtain ⟨a5, k5, L5, e5, l5, m5, r5, q5⟩ := open_rowD St.eM (by decide) (fun m d => m.dig.size + m.frm.size + m.dst.size ≤ Rows.uptoBulk d) Tryz.underlying41 cellsMove (fun _ _ _ h => open_move h) hf
 refine ⟨a5, k5, L5, e5, ⟨l5, m5⟩, r5, fun m hm => ?_⟩
 obtain ⟨ds, sp, dd, h1, h2, h3⟩ := q5 m hm
 have h1 : d = .slice ds sp := h1
 have h4 := bulk_mem h2
 rw [h1, Rows.uptoBulk]
 omega
end
end Go.Proofs.YthdiccdnggloiaaGreatDoor
