/- Rows of photos that a function makes. -/
import Derived.Test.YtipmegkmkbbklaaFdLib
import Derived.Test.YtipmegkmkbbklaaOwn
namespace Go.Proofs.Ytipmegkmkbbklaa
open Go.RowKit Go.Sort Go.Shelf
set_option linter.unusedVariables false
theorem own_keepH {w w' : World} {B : Nat} {e : TypeId} {k : Nat} {v : Value} {n : Nat} {xs : List Value} (h : w.ownsRow B e k v n xs) (hb : Below w.heap.size w w') : w'.ownsRow B e k v n xs :=
  h.kept (row := none) ⟨hb.os, hb.tape, hb.output, hb.size, fun k hk _ => hb.block k hk⟩ (by cases hv : v.ownBlock; exact .inl rfl; exact .inr (by simp))
/-- A row of one's own, read where its block is as it was. -/
theorem own_rowH {w : World} {B : Nat} {e : TypeId} {v : Value} {n : Nat} {xs : List Value} (h : w.ownsRow B e 1 v n xs) : ∃ a ca, v = .slice a n ca ∧ ∀ V : World, (∀ b, B ≤ b → b < w.heap.size → V.heap[b]? = w.heap[b]?) → Row V a n (fun i => xs[i]?.getD .nilIface) := by
  have hlen := h.1
  have h0 := h
  rcases h.2 with ⟨rfl, rfl⟩ | ⟨g, cap, cur, rfl, hg, hc, _⟩
  · exact ⟨_, _, rfl, fun V _ hn => absurd hn (by omega)⟩
  · refine ⟨_, _, rfl, fun V hV hn => ⟨g, 0, rfl, ?_, fun i hi => ?_⟩⟩
    · have hlt : g < w.heap.size := (h0.lt g rfl).2
      have := hV g hg hlt
      rw [hc] at this
      rcases Nat.lt_or_ge g V.heap.size with h' | h'
      · exact h'
      · rw [Array.getElem?_eq_none h'] at this; cases this
    · have hlt : g < w.heap.size := (h0.lt g rfl).2
      have hcell : V.cell? ⟨g, 0 + i, none⟩ = w.cell? ⟨g, 0 + i, none⟩ := by unfold World.cell?; rw [hV g hg hlt]
      rw [hcell, Nat.zero_add, h0.cellAt i (by omega)]
      show _ = some (xs[i]?.getD .nilIface)
      rw [List.getElem?_eq_getElem (by omega)]; rfl
/-- The photo of which all fields are 0. -/
def Ph.zero : Ph := ⟨0, 0, 0, 0, 0, 0, 0, ⟨#[]⟩, ⟨#[]⟩, none, 0, 0, fun _ => 0, fun _ => 0, none, 0, 0, fun _ => ⟨#[]⟩, none, 0, 0, fun _ => 0, false⟩
theorem Ph.zero_in (w : World) : Ph.zero.In w := ⟨fun h => absurd h (by show ¬ 0 < 0; omega), fun h => absurd h (by show ¬ 0 < 0; omega), fun h => absurd h (by show ¬ 0 < 0; omega)⟩
theorem Ph.zero_fits : Ph.zero.Fits := ⟨by show 0 ≤ _; omega, by show 0 ≤ _; omega, fun i h => absurd h (by show ¬ i < 0; omega), by show 0 ≤ _; omega, by show 0 ≤ _; omega, by show 0 ≤ _; omega⟩
namespace Fd
def phCells (p : Ph) : List Value := [.int .i64 p.id, .string p.file, .int .i64 p.mom, .int .i64 p.zone, .slice p.wa p.wn p.wc, .int .i64 p.W, .int .i64 p.H, .int .i64 p.turn, .int .i64 p.stars, .slice p.ta p.tn p.tc, .string p.cap, .slice p.pa p.pn p.pc, .bool p.hid]
def phFlat (l : List Ph) : List Value := l.flatMap phCells
theorem phFlat_nil : phFlat [] = [] := rfl
theorem phFlat_snoc (l : List Ph) (p : Ph) : phFlat (l ++ [p]) = phFlat l ++ phCells p := by simp [phFlat]
theorem phFlat_append (l m : List Ph) : phFlat (l ++ m) = phFlat l ++ phFlat m := by simp [phFlat]
theorem phFlat_cons (p : Ph) (l : List Ph) : phFlat (p :: l) = phCells p ++ phFlat l := by simp [phFlat]
theorem phFlat_len (l : List Ph) : (phFlat l).length = l.length * 13 := by
  induction l with
  | nil => rfl
  | cons p l ih =>
    have h13 : (phCells p).length = 13 := rfl
    rw [phFlat_cons, List.length_append, List.length_cons, ih, h13]; omega
theorem phFlat_get (l : List Ph) : ∀ i, i < l.length → ∀ j, j < 13 → (phFlat l)[i * 13 + j]? = (phCells (l[i]?.getD Ph.zero))[j]? := by
  induction l with
  | nil => intro i h; simp at h
  | cons p l ih =>
    intro i h j hj
    have h13 : (phCells p).length = 13 := rfl
    cases i with
    | zero => rw [phFlat_cons, Nat.zero_mul, Nat.zero_add, List.getElem?_append_left (by omega)]; rfl
    | succ k =>
      rw [phFlat_cons, List.getElem?_append_right (by omega), h13, show (k + 1) * 13 + j - 13 = k * 13 + j by omega, ih k (by simpa using h) j hj]; simp
end Fd
theorem PhAt.of_cells {w : World} {b o : Nat} {p : Ph} (h : ∀ j, j < 13 → w.cell? ⟨b, o + j, none⟩ = (Fd.phCells p)[j]?) : PhAt w b o p :=
  ⟨h 0 (by omega), h 1 (by omega), h 2 (by omega), h 3 (by omega), h 4 (by omega), h 5 (by omega), h 6 (by omega), h 7 (by omega), h 8 (by omega), h 9 (by omega), h 10 (by omega), h 11 (by omega), h 12 (by omega)⟩
theorem Ph.in_getD {w : World} {L : List Ph} (hI : ∀ p, p ∈ L → p.In w) (i : Nat) : (L[i]?.getD Ph.zero).In w := by
  rcases Nat.lt_or_ge i L.length with h | h
  · rw [List.getElem?_eq_getElem h]; exact hI _ (List.getElem_mem h)
  · rw [List.getElem?_eq_none h]; exact Ph.zero_in w
/-- A row of photos of the call's own. -/
theorem Phs.of_own {w : World} {base n : Nat} {e : TypeId} {v : Value} {L : List Ph} (h : w.ownsRow base e 13 v n (Fd.phFlat L)) (hI : ∀ p, p ∈ L → p.In w) :
    ∃ a ca, v = .slice a n ca ∧ n ≤ ca ∧ ca ≤ 9223372036854775807 ∧ Phs w a n (fun i => L[i]?.getD Ph.zero) := by
  have hlen := h.1
  rw [Fd.phFlat_len] at hlen
  have h0 := h
  rcases h.2 with ⟨rfl, rfl⟩ | ⟨g, cap, cur, rfl, hg, hc, hk, hm, _⟩
  · exact ⟨none, 0, rfl, by omega, by omega, ⟨fun hn => by omega, fun i hi => by omega⟩⟩
  · have hm2 : cap ≤ 9223372036854775807 := hm
    refine ⟨_, _, rfl, hk, hm2, ⟨fun hn => ⟨g, 0, rfl, (h0.lt g rfl).2, fun i hi => PhAt.of_cells fun j hj => ?_⟩, fun i hi => Ph.in_getD hI i⟩⟩
    rw [Nat.zero_add, h0.cellAt (i * 13 + j) (by omega), Fd.phFlat_get L i (by omega) j hj]
theorem infoPhoto : (Try.prog.info? 26).map (fun i => (i.zero, i.size, i.bytes)) = some (some (.agg #[.int .i64 0, .string ByteArray.empty, .int .i64 0, .int .i64 0, .slice none 0 0, .int .i64 0, .int .i64 0, .int .i64 0, .int .i64 0, .slice none 0 0, .string ByteArray.empty, .slice none 0 0, .bool false]), 13, 168) := by kernel_rfl
theorem cell_ph_new (w : World) (p : Ph) (t : TypeId) : ∀ j u, (Fd.phCells p)[j]? = some u → (w.alloc (.cells #[.int .i64 p.id, .string p.file, .int .i64 p.mom, .int .i64 p.zone, .slice p.wa p.wn p.wc, .int .i64 p.W, .int .i64 p.H, .int .i64 p.turn, .int .i64 p.stars, .slice p.ta p.tn p.tc, .string p.cap, .slice p.pa p.pn p.pc, .bool p.hid] t)).cell? ((⟨w.heap.size, 0, none⟩ : Addr).add j) = some u := by
  intro j u hj
  rw [show (⟨w.heap.size, 0, none⟩ : Addr).add j = ⟨w.heap.size, j, none⟩ from by unfold Addr.add; split <;> simp_all, (Blk.new w #[.int .i64 p.id, .string p.file, .int .i64 p.mom, .int .i64 p.zone, .slice p.wa p.wn p.wc, .int .i64 p.W, .int .i64 p.H, .int .i64 p.turn, .int .i64 p.stars, .slice p.ta p.tn p.tc, .string p.cap, .slice p.pa p.pn p.pc, .bool p.hid] t).cell]
  simpa [Fd.phCells] using hj
theorem phCells_one (p : Ph) : ∀ u ∈ Fd.phCells p, u.oneCell' = true := by
  intro u hu
  simp only [Fd.phCells, List.mem_cons, List.not_mem_nil, or_false] at hu
  rcases hu with rfl | rfl | rfl | rfl | rfl | rfl | rfl | rfl | rfl | rfl | rfl | rfl | rfl <;> rfl
end Go.Proofs.Ytipmegkmkbbklaa
