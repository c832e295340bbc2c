/- How a list of images among the arguments reads. -/
import Derived.Test.YtkebkbjkapfgkaaPixOpen
import Derived.Test.YtkebkbjkapfgkaaPixBest
import Derived.Deep.SlicePairs
namespace Go.Proofs.Ytkebkbjkapfgkaa
open Go.ChangeShapes Go.WideShapes Go.ChangeAt Go.RowKit Go.Joins Go.Deep
set_option linter.unusedVariables false
/-- What is said of one element. -/
def ImgAt (w : World) (x : Addr) (i : Nat) (q : Int × Int × Option Addr × Nat × Nat × (Nat → Int)) : Prop :=
  w.cell? (x.add (i * 3)) = some (.int .i64 q.1) ∧ w.cell? (x.add (i * 3 + 1)) = some (.int .i64 q.2.1) ∧ w.cell? (x.add (i * 3 + 2)) = some (.slice q.2.2.1 q.2.2.2.1 q.2.2.2.2.1) ∧
  q.2.2.2.1 ≤ 9223372036854775807 ∧ q.2.2.2.1 ≤ q.2.2.2.2.1 ∧ q.2.2.2.2.1 ≤ 9223372036854775807 ∧ Row w q.2.2.1 q.2.2.2.1 (fun k => .int .u8 (q.2.2.2.2.2 k)) ∧ ∀ k, 0 ≤ q.2.2.2.2.2 k ∧ q.2.2.2.2.2 k ≤ 255
theorem wf_byte {n : Int} (h : (Lit.int .u8 n).wf = true) : 0 ≤ n ∧ n ≤ 255 := by
  simp [Lit.wf, IntKind.min, IntKind.max, IntKind.bits, IntKind.signed] at h
  omega
set_option maxRecDepth 100000 in
theorem open_images {H : Type} {enc : TypeId × Value → H} {w : World} {r : Reach} {b0 base : Nat} {spare : Nat → Bool} {held : Bool} {v : Value} {d : DataW H} {p : List MemPlace}
    (hv : Value.okWide Try.prog w r b0 33 v) (h : DataW.Trod enc Try.prog w base spare held 33 v d p) :
    ∃ (a : Option Addr) (len cap : Nat) (Ws Hs : Nat → Int) (ads : Nat → Option Addr) (ns cas : Nat → Nat) (px : Nat → Nat → Int), v = .slice a len cap ∧ len ≤ 9223372036854775807 ∧ ImgList w a len Ws Hs ads ns cas px ∧ ∀ i k, 0 ≤ px i k ∧ px i k ≤ 255 := by
  obtain ⟨a, len, cap, rfl⟩ := okWide_slice Try.underlying33 hv
  obtain ⟨fuel, hf⟩ := h
  rcases open_slice Try.underlying33 hf with ⟨hcs, _⟩ | ⟨x, l, c, m, n, D, Pl, hcs, _, hl, hm, hmm, _, hx⟩
  · simp [Value.cells] at hcs
    obtain ⟨rfl, rfl, rfl⟩ := hcs
    exact ⟨none, 0, 0, fun _ => 0, fun _ => 0, fun _ => none, fun _ => 0, fun _ => 0, fun _ _ => 0, rfl, by omega, ⟨fun h => by omega, fun i h => by omega⟩, fun _ _ => ⟨Int.le_refl 0, (by decide : (0 : Int) ≤ 255)⟩⟩
  · simp [Value.cells] at hcs
    obtain ⟨rfl, rfl, rfl⟩ := hcs
    have hlm : len ≤ m := by rw [hmm]; split <;> omega
    have each : ∀ i, i < m → ∃ q, ImgAt w x i q := by
      intro i hi
      obtain ⟨cs', h1, h2⟩ := hx i hi
      rw [cellsImage] at h1
      obtain ⟨_, hlen, hcell⟩ := World.cells?_some h1
      obtain ⟨y0, y1, y2, k, _, _, g0, g1, g2⟩ := trod_struct3 Try.underlying24 h2
      match cs', hlen with
      | [v0, v1, v2], _ =>
        have e0 := hcell 0 (by omega)
        have e1 := hcell 1 (by omega)
        have e2 := hcell 2 (by omega)
        have g2' : DataW.trod enc Try.prog w base spare held k 22 [v2] = some y2 := g2
        have g0' : DataW.trod enc Try.prog w base spare held k 3 [v0] = some y0 := g0
        have g1' : DataW.trod enc Try.prog w base spare held k 3 [v1] = some y1 := g1
        obtain ⟨b, eb, _, wb⟩ := DataW.trod_int Try.underlying3 g0'
        obtain ⟨c, ec, _, wc⟩ := DataW.trod_int Try.underlying3 g1'
        obtain ⟨a2, l2, c2, z2, rfl, z3, z4, z5, z6, z7⟩ := open_bytes g2'
        simp at eb ec; subst eb ec
        refine ⟨(b, c, a2, l2, c2, z2), ?_, ?_, ?_, z3, z4, z5, z6, fun k => wf_byte (z7 k)⟩
        · simpa [Addr.add] using e0
        · rw [Addr.add_add] at e1; simpa using e1
        · rw [Addr.add_add] at e2; simpa using e2
    obtain ⟨Q, hQ⟩ : ∃ Q : Nat → Int × Int × Option Addr × Nat × Nat × (Nat → Int), ∀ i, i < m → ImgAt w x i (Q i) :=
      ⟨fun i => if h : i < m then Classical.choose (each i h) else (0, 0, none, 0, 0, fun _ => 0), fun i hi => by simp only [dif_pos hi]; exact Classical.choose_spec (each i hi)⟩
    refine ⟨some x, len, cap, fun i => (Q i).1, fun i => (Q i).2.1, fun i => (Q i).2.2.1, fun i => (Q i).2.2.2.1, fun i => (Q i).2.2.2.2.1, fun i k => if i < m then (Q i).2.2.2.2.2 k else 0, rfl, by unfold maxLen at hm; omega, ⟨fun h0 => ?_, fun i hi => ?_⟩, fun i k => ?_⟩
    · obtain ⟨b, off, spot⟩ := x
      have hc := (hQ 0 (by omega)).1
      have hspot : spot = none := by simpa [Addr.add] using World.cell?_spot hc
      subst hspot
      refine ⟨b, off, rfl, by simpa [Addr.add] using World.block_lt_of_cell? w _ hc, fun i hi => ?_⟩
      obtain ⟨e0, e1, e2, _⟩ := hQ i (by omega)
      have ha : ∀ j, (⟨b, off, none⟩ : Addr).add j = ⟨b, off + j, none⟩ := fun j => by unfold Addr.add; split <;> simp_all
      rw [ha] at e0 e1 e2
      exact ⟨e0, by rw [Nat.add_assoc]; exact e1, by rw [Nat.add_assoc]; exact e2⟩
    · obtain ⟨_, _, _, z3, z4, z5, z6, _⟩ := hQ i (by omega)
      refine ⟨fun h0 => ?_, z4, z5, z3⟩
      obtain ⟨b, off, e, hb, hc⟩ := z6 h0
      exact ⟨b, off, e, hb, fun k hk => by show _ = some (Value.int .u8 (if i < m then (Q i).2.2.2.2.2 k else 0)); rw [if_pos (by omega)]; exact hc k hk⟩
    · show 0 ≤ (if i < m then (Q i).2.2.2.2.2 k else 0) ∧ (if i < m then (Q i).2.2.2.2.2 k else 0) ≤ 255
      split
      · rename_i hi; exact (hQ i hi).2.2.2.2.2.2.2 k
      · omega
end Go.Proofs.Ytkebkbjkapfgkaa
