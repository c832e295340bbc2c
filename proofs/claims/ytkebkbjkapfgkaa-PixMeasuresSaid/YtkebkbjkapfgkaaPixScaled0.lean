/- scaled: the image in another size. -/
import Derived.Test.YtkebkbjkapfgkaaPixShares
import Derived.BigRegion
namespace Go.Proofs.Ytkebkbjkapfgkaa
open Go.RowKit Go.Sort
set_option linter.unusedVariables false
attribute [local go_sem ↓] Go.wp_at_zero Go.wp_at_succ
/-- A list of shares in block g. -/
def SRow (w : World) (g l : Nat) (A P : Nat → Nat) : Prop := g < w.heap.size ∧ ∀ i, i < l → w.cell? ⟨g, i * 2, none⟩ = some (.int .i64 (A i)) ∧ w.cell? ⟨g, i * 2 + 1, none⟩ = some (.int .i64 (P i))
theorem SRow.keep {w w' : World} {g l : Nat} {A P : Nat → Nat} (h : SRow w g l A P) (hb : Below w.heap.size w w') : SRow w' g l A P :=
  ⟨Nat.lt_of_lt_of_le h.1 hb.size, fun i hi => ⟨(hb.cell (p := ⟨g, i * 2, none⟩) h.1).trans (h.2 i hi).1, (hb.cell (p := ⟨g, i * 2 + 1, none⟩) h.1).trans (h.2 i hi).2⟩⟩
theorem SRow.setOther {w : World} {g l : Nat} {A P : Nat → Nat} (h : SRow w g l A P) {s : Nat} (hne : g ≠ s) (i : Nat) (v : Value) : SRow (w.setCell ⟨s, i, none⟩ v) g l A P := by
  have e : (w.setCell ⟨s, i, none⟩ v).heap[g]? = w.heap[g]? := Below.heap_setCell _ _ _ _ (by simpa using hne)
  refine ⟨by simpa using h.1, fun j hj => ?_⟩
  obtain ⟨h1, h2⟩ := h.2 j hj
  unfold World.cell? at h1 h2 ⊢
  rw [e]; exact ⟨h1, h2⟩
theorem SRow.grown {w w' : World} {g l b : Nat} {A P : Nat → Nat} (h : SRow w g l A P) (hg : w.grownBy w' (some b)) (hne : b < g) : SRow w' g l A P := by
  have e : w'.heap[g]? = w.heap[g]? := hg.block g h.1 (by simp; omega)
  refine ⟨Nat.lt_of_lt_of_le h.1 hg.size, fun j hj => ?_⟩
  obtain ⟨h1, h2⟩ := h.2 j hj
  unfold World.cell? at h1 h2 ⊢
  rw [e]; exact ⟨h1, h2⟩
theorem mul_bd2 {a b A B : Int} (h1 : 0 ≤ a) (h2 : a ≤ A) (h3 : 0 ≤ b) (h4 : b ≤ B) (hA : 0 ≤ A) : 0 ≤ a * b ∧ a * b ≤ A * B :=
  ⟨Int.mul_nonneg h1 h3, Int.mul_le_mul h2 h4 h3 hA⟩
theorem shareCells_at (A P : Nat → Nat) (l : Nat) (i : Nat) (hi : i < l) : (shareCells A P l)[2 * i]? = some (.int .i64 (A i)) ∧ (shareCells A P l)[2 * i + 1]? = some (.int .i64 (P i)) := by
  have hlen : ∀ l, (shareCells A P l).length = 2 * l := by
    intro l
    induction l with
    | zero => rfl
    | succ l ih => rw [shareCells, List.length_append, ih]; simp; omega
  induction l with
  | zero => omega
  | succ l ih =>
    rw [shareCells]
    by_cases h : i < l
    · rw [List.getElem?_append_left (by rw [hlen]; omega), List.getElem?_append_left (by rw [hlen]; omega)]
      exact ih h
    · obtain rfl : i = l := by omega
      rw [List.getElem?_append_right (by rw [hlen]; omega), List.getElem?_append_right (by rw [hlen]; omega), hlen]
      simp
theorem SRow.of_own {w : World} {B g l cap : Nat} {A P : Nat → Nat} (h : w.ownsRow B 126 2 (.slice (some ⟨g, 0, none⟩) l cap) l (shareCells A P l)) : SRow w g l A P := by
  refine ⟨(h.lt g rfl).2, fun i hi => ?_⟩
  obtain ⟨e1, e2⟩ := shareCells_at A P l i hi
  rw [Nat.mul_comm 2 i] at e1 e2
  have h1 := h.cells (g := g) rfl _ _ e1
  have h2 := h.cells (g := g) rfl _ _ e2
  rw [show ∀ j, (⟨g, 0, none⟩ : Addr).add j = ⟨g, j, none⟩ from fun j => by unfold Addr.add; split <;> simp_all] at h1 h2
  exact ⟨h1, h2⟩
/-- What stands between the rounds of the sum's loops. -/
structure Sums (w0 wr : World) (s : Nat) (S0 S1 S2 : Int) (gr lr : Nat) (Ar Pr : Nat → Nat) (gc lc : Nat) (Ac Pc : Nat → Nat) : Prop where
  bel : Below w0.heap.size w0 wr
  sum : Blk wr s #[.int .i64 S0, .int .i64 S1, .int .i64 S2] 124
  rows : SRow wr gr lr Ar Pr
  cols : SRow wr gc lc Ac Pc
  ne : gr ≠ s ∧ gc ≠ s ∧ w0.heap.size ≤ s
namespace Sums
variable {w0 wr wr' : World} {s : Nat} {S0 S1 S2 : Int} {gr lr : Nat} {Ar Pr : Nat → Nat} {gc lc : Nat} {Ac Pc : Nat → Nat}
theorem keep (h : Sums w0 wr s S0 S1 S2 gr lr Ar Pr gc lc Ac Pc) (hb : Below wr.heap.size wr wr') : Sums w0 wr' s S0 S1 S2 gr lr Ar Pr gc lc Ac Pc :=
  ⟨below_up h.bel hb, h.sum.keep hb, h.rows.keep hb, h.cols.keep hb, h.ne⟩
theorem drew (h : Sums w0 wr s S0 S1 S2 gr lr Ar Pr gc lc Ac Pc) : Sums w0 wr.drew s S0 S1 S2 gr lr Ar Pr gc lc Ac Pc := h.keep (Below.refl _ _).drew
theorem alloc (h : Sums w0 wr s S0 S1 S2 gr lr Ar Pr gc lc Ac Pc) (o : Obj) : Sums w0 (wr.alloc o) s S0 S1 S2 gr lr Ar Pr gc lc Ac Pc := h.keep (below_allocs (Below.refl _ _) _)
theorem set0 (h : Sums w0 wr s S0 S1 S2 gr lr Ar Pr gc lc Ac Pc) (v : Int) : Sums w0 (wr.setCell ⟨s, 0, none⟩ (.int .i64 v)) s v S1 S2 gr lr Ar Pr gc lc Ac Pc :=
  ⟨h.bel.setCell h.ne.2.2 _, by simpa using h.sum.set 0 (.int .i64 v), h.rows.setOther h.ne.1 _ _, h.cols.setOther h.ne.2.1 _ _, h.ne⟩
theorem set1 (h : Sums w0 wr s S0 S1 S2 gr lr Ar Pr gc lc Ac Pc) (v : Int) : Sums w0 (wr.setCell ⟨s, 1, none⟩ (.int .i64 v)) s S0 v S2 gr lr Ar Pr gc lc Ac Pc :=
  ⟨h.bel.setCell h.ne.2.2 _, by simpa using h.sum.set 1 (.int .i64 v), h.rows.setOther h.ne.1 _ _, h.cols.setOther h.ne.2.1 _ _, h.ne⟩
theorem set2 (h : Sums w0 wr s S0 S1 S2 gr lr Ar Pr gc lc Ac Pc) (v : Int) : Sums w0 (wr.setCell ⟨s, 2, none⟩ (.int .i64 v)) s S0 S1 v gr lr Ar Pr gc lc Ac Pc :=
  ⟨h.bel.setCell h.ne.2.2 _, by simpa using h.sum.set 2 (.int .i64 v), h.rows.setOther h.ne.1 _ _, h.cols.setOther h.ne.2.1 _ _, h.ne⟩
end Sums
theorem pindex0 (x y z : Int) (w : World) : (Instr.index 93 (.agg #[.int .u8 x, .int .u8 y, .int .u8 z]) (.int .i64 0)).run Try.prog w = .ok (.int .u8 x) w := by kernel_rfl
theorem pindex1 (x y z : Int) (w : World) : (Instr.index 93 (.agg #[.int .u8 x, .int .u8 y, .int .u8 z]) (.int .i64 1)).run Try.prog w = .ok (.int .u8 y) w := by kernel_rfl
theorem pindex2 (x y z : Int) (w : World) : (Instr.index 93 (.agg #[.int .u8 x, .int .u8 y, .int .u8 z]) (.int .i64 2)).run Try.prog w = .ok (.int .u8 z) w := by kernel_rfl
theorem sindex0 (x y z : Int) (w : World) : (Instr.index 124 (.agg #[.int .i64 x, .int .i64 y, .int .i64 z]) (.int .i64 0)).run Try.prog w = .ok (.int .i64 x) w := by kernel_rfl
theorem sindex1 (x y z : Int) (w : World) : (Instr.index 124 (.agg #[.int .i64 x, .int .i64 y, .int .i64 z]) (.int .i64 1)).run Try.prog w = .ok (.int .i64 y) w := by kernel_rfl
theorem sindex2 (x y z : Int) (w : World) : (Instr.index 124 (.agg #[.int .i64 x, .int .i64 y, .int .i64 z]) (.int .i64 2)).run Try.prog w = .ok (.int .i64 z) w := by kernel_rfl
/-- The sums after so many rows and columns of shares, with their bounds. -/
theorem sums_exist (W H w h x y lr lc : Nat) (Ar Pr Ac Pc : Nat → Nat) (hr : Im.Cover h H (H * y) Ar Pr lr H) (hc : Im.Cover w W (W * x) Ac Pc lc W) (hW : W ≤ 64) (hH : H ≤ 64) (px : Nat → Int) (hpx : ∀ i, 0 ≤ px i ∧ px i ≤ 255) :
    ∃ (RS : Nat → Nat → Int) (CS : Nat → Nat → Nat → Int), (∀ q, RS q 0 = 0) ∧ (∀ q r, RS q (r + 1) = RS q r + CS q r lc * (Pr r : Int)) ∧ (∀ q r, CS q r 0 = 0) ∧ (∀ q r c, CS q r (c + 1) = CS q r c + Im.pix px W (Ac c) (Ar r) q * (Pc c : Int)) ∧
      (∀ q, RS q lr = Im.scSum W H (fun i j => Im.pix px W i j q) w h x y) ∧ (∀ q r, r ≤ lr → 0 ≤ RS q r ∧ RS q r ≤ 1044480) ∧ (∀ q r c, c ≤ lc → 0 ≤ CS q r c ∧ CS q r c ≤ 16320) := by
  have hone : ∀ (A P : Nat → Nat) (n : Nat), 0 ≤ Im.ws (fun _ => 1) A P n := fun A P n => (Im.ws_bd (fun _ => 1) A P 1 (fun _ => by omega) n).1
  have hcb : ∀ q r c, c ≤ lc → 0 ≤ Im.ws (fun i => Im.pix px W i (Ar r) q) Ac Pc c ∧ Im.ws (fun i => Im.pix px W i (Ar r) q) Ac Pc c ≤ 16320 := by
    intro q r c hcl
    have h1 := Im.ws_bd (fun i => Im.pix px W i (Ar r) q) Ac Pc 255 (fun i => hpx _) c
    have h2 := Im.ws_mono Ac Pc (fun _ => 1) (fun _ => by omega) hcl
    have h3 := hc.1 (fun _ => 1)
    rw [Im.sumTo_const] at h3
    omega
  refine ⟨fun q r => Im.ws (fun j => Im.ws (fun i => Im.pix px W i j q) Ac Pc lc) Ar Pr r, fun q r c => Im.ws (fun i => Im.pix px W i (Ar r) q) Ac Pc c, fun _ => rfl, fun _ _ => rfl, fun _ _ => rfl, fun _ _ _ => rfl, fun q => Im.ws_ws hr hc _, ?_, hcb⟩
  intro q r hrl
  have hb : ∀ j, 0 ≤ Im.ws (fun i => Im.pix px W i j q) Ac Pc lc ∧ Im.ws (fun i => Im.pix px W i j q) Ac Pc lc ≤ 16320 := by
    intro j
    have h1 := Im.ws_bd (fun i => Im.pix px W i j q) Ac Pc 255 (fun i => hpx _) lc
    have h3 := hc.1 (fun _ => 1)
    rw [Im.sumTo_const] at h3
    omega
  have h1 := Im.ws_bd (fun j => Im.ws (fun i => Im.pix px W i j q) Ac Pc lc) Ar Pr 16320 hb r
  have h2 := Im.ws_mono Ar Pr (fun _ => 1) (fun _ => by omega) hrl
  have h3 := hr.1 (fun _ => 1)
  rw [Im.sumTo_const] at h3
  refine ⟨h1.1, ?_⟩
  show Im.ws (fun j => Im.ws (fun i => Im.pix px W i j q) Ac Pc lc) Ar Pr r ≤ 1044480
  omega
theorem step_eq (R C p R0 C0 : Int) : (R0 + C0 * R) + p * R * C = R0 + (C0 + p * C) * R := by
  rw [Int.add_mul, Int.mul_right_comm p R C]; omega
end Go.Proofs.Ytkebkbjkapfgkaa
