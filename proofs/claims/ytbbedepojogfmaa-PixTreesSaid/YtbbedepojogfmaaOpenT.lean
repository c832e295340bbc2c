/- How deeds among the arguments read. -/
import Derived.Test.YtbbedepojogfmaaOpenF0
import Derived.Test.YtbbedepojogfmaaTreeLaw
namespace Go.Proofs.Ytbbedepojogfmaa
open Go.ChangeShapes Go.WideShapes Go.ChangeAt Go.RowKit Go.Joins Go.Deep
set_option linter.unusedVariables false
section
variable {H : Type} {enc : TypeId × Value → H} {w : World} {base : Nat} {spare : Nat → Bool} {held : Bool}
theorem cellsDeed : Try.prog.cellsOf 64 = 4 := by kernel_rfl
theorem list4 {α : Type} {cs : List α} (h : cs.length = 4) : ∃ c0 c1 c2 c3, cs = [c0, c1, c2, c3] := by
  match cs, h with
  | [c0, c1, c2, c3], _ => exact ⟨c0, c1, c2, c3, rfl⟩
set_option maxRecDepth 100000 in
theorem open_deed_cells {cs : List Value} {fuel : Nat} {y : DataW H × List MemPlace} (hf : DataW.trod enc Try.prog w base spare held fuel 64 cs = some y) :
    ∃ p q r s : Int, cs = [.int .i64 p, .int .i64 q, .int .i64 r, .int .u64 s] ∧ (Lit.int .i64 q).wf = true ∧ (Lit.int .u64 s).wf = true := by
  obtain ⟨xs, n, _, _, hl, hlen, hg⟩ := DataW.trod_struct Try.underlying64 hf
  have hlen : xs.length = 4 := hlen
  rw [cellsDeed] at hl
  obtain ⟨c0, c1, c2, c3, rfl⟩ := list4 hl
  obtain ⟨y0, e0⟩ := some_at hlen (show 0 < 4 by omega)
  obtain ⟨y1, e1⟩ := some_at hlen (show 1 < 4 by omega)
  obtain ⟨y2, e2⟩ := some_at hlen (show 2 < 4 by omega)
  obtain ⟨y3, e3⟩ := some_at hlen (show 3 < 4 by omega)
  have g0 : DataW.trod enc Try.prog w base spare held n 3 [c0] = some y0 := (hg 0 _ rfl).trans e0
  have g1 : DataW.trod enc Try.prog w base spare held n 3 [c1] = some y1 := (hg 1 _ rfl).trans e1
  have g2 : DataW.trod enc Try.prog w base spare held n 3 [c2] = some y2 := (hg 2 _ rfl).trans e2
  have g3 : DataW.trod enc Try.prog w base spare held n 49 [c3] = some y3 := (hg 3 _ rfl).trans e3
  obtain ⟨p, q0, _, _⟩ := DataW.trod_int Try.underlying3 g0
  obtain ⟨q, q1, _, w1⟩ := DataW.trod_int Try.underlying3 g1
  obtain ⟨r, q2, _, _⟩ := DataW.trod_int Try.underlying3 g2
  obtain ⟨s, q3, _, w3⟩ := DataW.trod_int Try.underlying49 g3
  simp only [List.cons.injEq, and_true] at q0 q1 q2 q3
  subst q0 q1 q2 q3
  exact ⟨p, q, r, s, rfl, w1, w3⟩
def DeedAt (w : World) (x : Addr) (i : Nat) (d : Int × Int × Int × Int) : Prop := (∀ k v, [Value.int .i64 d.1, .int .i64 d.2.1, .int .i64 d.2.2.1, .int .u64 d.2.2.2][k]? = some v → w.cell? (x.add (i * 4 + k)) = some v) ∧ (Lit.int .i64 d.2.1).wf = true ∧ (Lit.int .u64 d.2.2.2).wf = true
set_option maxRecDepth 100000 in
set_option maxHeartbeats 4000000 in
theorem open_deeds {r : Reach} {b0 : Nat} {v : Value} {d : DataW H} {p : List MemPlace} (hv : Value.okWide Try.prog w r b0 60 v) (h : DataW.Trod enc Try.prog w base spare held 60 v d p) :
    ∃ (a : Option Addr) (len cap : Nat) (wh id mo hs : Nat → Int), v = .slice a len cap ∧ len ≤ cap ∧ cap ≤ 9223372036854775807 ∧ Row4 w a len wh id mo hs ∧ (∀ i, i < len → (Lit.int .i64 (id i)).wf = true) ∧ (∀ i, i < len → (Lit.int .u64 (hs i)).wf = true) ∧ (a = none → len = 0 ∧ cap = 0) := by
  obtain ⟨a, len, cap, rfl⟩ := okWide_slice Try.underlying60 hv
  obtain ⟨fuel, hf⟩ := h
  rcases open_slice Try.underlying60 hf with ⟨hcs, _⟩ | ⟨x, l, c, m, n, D, Pl, hcs, _, hl, hm, hmm, _, hx⟩
  · simp [Value.cells] at hcs
    obtain ⟨rfl, rfl, rfl⟩ := hcs
    exact ⟨none, 0, 0, fun _ => 0, fun _ => 0, fun _ => 0, fun _ => 0, rfl, by omega, by omega, fun h => by omega, fun i h => by omega, fun i h => by omega, fun _ => ⟨rfl, rfl⟩⟩
  · simp [Value.cells] at hcs
    obtain ⟨rfl, rfl, rfl⟩ := hcs
    have hlm : len ≤ m := by rw [hmm]; split <;> omega
    have each : ∀ i, i < m → ∃ q, DeedAt w x i q := by
      intro i hi
      obtain ⟨cs', h1, h2⟩ := hx i hi
      rw [cellsDeed] at h1
      obtain ⟨_, hlen, hcell⟩ := World.cells?_some h1
      obtain ⟨p, q, r, s, hq, w1, w3⟩ := open_deed_cells h2
      refine ⟨(p, q, r, s), fun k v hk => ?_, w1, w3⟩
      rw [← hq] at hk
      have hk4 : k < 4 := by have := (List.getElem?_eq_some_iff.1 hk).1; omega
      have := hcell k (by omega)
      rw [Addr.add_add] at this
      rw [this, hk]
    obtain ⟨Q, hQ⟩ : ∃ Q : Nat → Int × Int × Int × Int, ∀ i, i < m → DeedAt w x i (Q i) :=
      ⟨fun i => if h : i < m then Classical.choose (each i h) else (0, 0, 0, 0), fun i hi => by simp only [dif_pos hi]; exact Classical.choose_spec (each i hi)⟩
    refine ⟨some x, len, cap, fun i => (Q i).1, fun i => (Q i).2.1, fun i => (Q i).2.2.1, fun i => (Q i).2.2.2, rfl, by omega, by unfold maxLen at hm; omega, fun h0 => ?_, fun i hi => (hQ i (by omega)).2.1, fun i hi => (hQ i (by omega)).2.2, fun e => by cases e⟩
    obtain ⟨b, off, spot⟩ := x
    have hc := (hQ 0 (by omega)).1 0 _ rfl
    have hspot : spot = none := by simpa [Addr.add] using World.cell?_spot hc
    subst hspot
    refine ⟨b, off, rfl, by simpa [Addr.add] using World.block_lt_of_cell? w _ hc, fun i hi => ?_⟩
    have g := (hQ i (by omega)).1
    have ha : ∀ k, (⟨b, off, none⟩ : Addr).add (i * 4 + k) = ⟨b, off + i * 4 + k, none⟩ := fun k => by rw [addr_add, Nat.add_assoc]
    exact ⟨by have := g 0 _ rfl; rwa [ha] at this, by have := g 1 _ rfl; rwa [ha] at this, by have := g 2 _ rfl; rwa [ha] at this, by have := g 3 _ rfl; rwa [ha] at this⟩
end
set_option maxRecDepth 100000 in
set_option maxHeartbeats 4000000 in
theorem pixTrees_nil (w : World) : Calls Try.prog 8 #[.slice none 0 0] w fun e w' => e = .returned (.bool true) ∧ Below w.heap.size w w' := by
  have HNT := Lib.hid (newTree_is w)
  have hmin : min (0 : Int) 200 = 0 := by decide
  have hmax : max (0 : Int) 0 = 0 := by decide
  go_enter Try.func8, Try.ntmps8
  go_wp2_with (go_at_call 34; refine HNT.out.mono ?_; rintro e w1 ⟨rfl, hT, hB⟩; have HB := Lib.hid hB; clear hT hB)
  go_loopg [25] 0 (fun gk i wr => gk = 0 ∧ i = .int .i64 0 ∧ w1 = wr)
  case atStart => exact ⟨rfl, rfl, rfl⟩
  case round =>
    obtain ⟨rfl, rfl, rfl⟩ := hrel
    go_wp2_with fail
    go_ret
    exact ⟨rfl, HB.out⟩
theorem pixTrees_any (a : Option Addr) (n ca : Nat) (wh id mo hs : Nat → Int) (w : World) (hnc : n ≤ ca) (hca : ca ≤ 9223372036854775807) (hr : Row4 w a n wh id mo hs)
    (hid : ∀ i, i < n → (Lit.int .i64 (id i)).wf = true) (hhs : ∀ i, i < n → (Lit.int .u64 (hs i)).wf = true) (h0 : a = none → n = 0 ∧ ca = 0) :
    Calls Try.prog 8 #[.slice a n ca] w fun e w' => e = .returned (.bool true) ∧ Below w.heap.size w w' := by
  cases a with
  | none => obtain ⟨rfl, rfl⟩ := h0 rfl; exact pixTrees_nil w
  | some a => exact pixTrees_walk a n ca wh id mo hs w (by omega) hnc hca hr hid hhs
end Go.Proofs.Ytbbedepojogfmaa
