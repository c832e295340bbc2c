/- What stands between the rounds of a loop that fills a new image. -/
import Derived.Test.YtpgjpnnjlilokaaDoorPixSet
namespace Go.Proofs.YtpgjpnnjlilokaaDoor
open Go.RowKit Go.Sort
set_option linter.unusedVariables false
/-- P: the parameter's box; O: the box of the image that is filled, in block o; its bytes in block b: f up to place k. -/
structure Fill (w wr : World) (x0 x1 x2 o0 o1 o2 : Value) (o b N k : Nat) (f : Nat → Int) : Prop where
  par : Blk wr w.heap.size #[x0, x1, x2] 24
  res : Blk wr (w.heap.size + 1) #[.int .i64 0, .int .i64 0, .slice none 0 0] 24
  out : Blk wr o #[o0, o1, o2] 24
  row : Out wr b N (Im.mk k f)
  bel : Below w.heap.size w wr
  ob : b < o ∧ w.heap.size + 2 ≤ b
namespace Fill
variable {w wr wr' : World} {x0 x1 x2 o0 o1 o2 : Value} {o b N k k' : Nat} {f : Nat → Int}
theorem keep (h : Fill w wr x0 x1 x2 o0 o1 o2 o b N k f) (hb : Below wr.heap.size wr wr') : Fill w wr' x0 x1 x2 o0 o1 o2 o b N k f :=
  ⟨h.par.keep hb, h.res.keep hb, h.out.keep hb, h.row.keep hb, below_up h.bel hb, h.ob⟩
theorem drew (h : Fill w wr x0 x1 x2 o0 o1 o2 o b N k f) : Fill w wr.drew x0 x1 x2 o0 o1 o2 o b N k f :=
  ⟨h.par.drew, h.res.drew, h.out.drew, h.row, h.bel.drew, h.ob⟩
theorem step (h : Fill w wr x0 x1 x2 o0 o1 o2 o b N k f) (hg : wr.grownBy wr' (some b)) (ho : Out wr' b N (Im.mk k' f)) : Fill w wr' x0 x1 x2 o0 o1 o2 o b N k' f :=
  ⟨h.par.grown hg (by have := h.ob; simp; omega), h.res.grown hg (by have := h.ob; simp; omega), h.out.grown hg (by have := h.ob; simp; omega), ho,
   h.bel.grown hg h.bel.size (fun k e => by have := h.ob; cases e; omega), h.ob⟩
theorem fill (h : Fill w wr x0 x1 x2 o0 o1 o2 o b N k f) (hg : wr.grownBy wr' (some b)) {p0 p1 p2 : Int} (ho : Out wr' b N (Im.upd (Im.mk k f) k p0 p1 p2)) (h0 : f k = p0) (h1 : f (k + 1) = p1) (h2 : f (k + 2) = p2) : Fill w wr' x0 x1 x2 o0 o1 o2 o b N (k + 3) f :=
  h.step hg (by rw [← h0, ← h1, ← h2, Im.upd_mk] at ho; exact ho)
theorem cast (h : Fill w wr x0 x1 x2 o0 o1 o2 o b N k f) (e : k = k') : Fill w wr x0 x1 x2 o0 o1 o2 o b N k' f := e ▸ h
theorem six (h : Fill w wr x0 x1 x2 o0 o1 o2 o b N k f) : wr.cell? ⟨w.heap.size, 0, none⟩ = some x0 ∧ wr.cell? ⟨w.heap.size, 1, none⟩ = some x1 ∧ wr.cell? ⟨w.heap.size, 2, none⟩ = some x2 ∧
    wr.cell? ⟨o, 0, none⟩ = some o0 ∧ wr.cell? ⟨o, 1, none⟩ = some o1 ∧ wr.cell? ⟨o, 2, none⟩ = some o2 :=
  ⟨h.par.three.1, h.par.three.2.1, h.par.three.2.2, h.out.three.1, h.out.three.2.1, h.out.three.2.2⟩
theorem whole (h : Fill w wr x0 x1 x2 o0 o1 o2 o b N N f) : Out wr b N f := by
  have := h.row
  unfold Out at *
  rw [show (List.range N).map (fun i => Value.int .u8 (f i)) = (List.range N).map (fun i => Value.int .u8 (Im.mk N f i)) from List.map_congr_left fun i hi => by rw [Im.mk, if_pos (List.mem_range.1 hi)]]
  exact this
end Fill
theorem at_int (W H x y : Nat) (X Y : Int) (hX : X = x) (hY : Y = y) (b off n ca : Nat) (px : Nat → Int) (w w0 : World) (hb : b < w0.heap.size) (hcell : ∀ i, i < n → w0.cell? ⟨b, off + i, none⟩ = some (.int .u8 (px i))) (hB : Below w0.heap.size w0 w)
    (hk : 3 * (y * W + x) + 3 ≤ n) (hn : n ≤ 12288) (hca : n ≤ ca) (hca2 : ca ≤ 9223372036854775807) :
    Calls Tryd.prog 17 #[.agg #[.int .i64 W, .int .i64 H, .slice (some ⟨b, off, none⟩) n ca], .int .i64 X, .int .i64 Y] w fun e w' => e = .returned (.agg #[.int .u8 (Im.pix px W x y 0), .int .u8 (Im.pix px W x y 1), .int .u8 (Im.pix px W x y 2)]) ∧ Below w.heap.size w w' := by
  subst hX hY
  exact at_is W H x y b off n ca px w (Nat.lt_of_lt_of_le hb hB.size) (fun i hi => (hB.cell (p := ⟨b, off + i, none⟩) hb).trans (hcell i hi)) hk hn hca hca2
end Go.Proofs.YtpgjpnnjlilokaaDoor
