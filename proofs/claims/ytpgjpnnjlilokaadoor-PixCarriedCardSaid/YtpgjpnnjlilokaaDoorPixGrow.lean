/- What stands between the rounds of the reference's loops that gather a new image. -/
import Derived.Test.YtpgjpnnjlilokaaDoorPixSet
import Derived.Test.YtpgjpnnjlilokaaDoorPixRef
import Derived.Test.YtpgjpnnjlilokaaDoorOwn
import Derived.Deep.RegionLaw
namespace Go.Proofs.YtpgjpnnjlilokaaDoor
open Go.RowKit Go.Sort
set_option linter.unusedVariables false
/-- The first k bytes of f, as cells. -/
def bytes (k : Nat) (f : Nat → Int) : List Value := (List.range k).map (fun i => Value.int .u8 (f i))
theorem bytes_length (k : Nat) (f : Nat → Int) : (bytes k f).length = k := by simp [bytes]
theorem bytes_three (k : Nat) (f : Nat → Int) : bytes k f ++ [.int .u8 (f k), .int .u8 (f (k + 1)), .int .u8 (f (k + 2))] = bytes (k + 3) f := by
  simp [bytes, List.range_succ]
/-- P: the parameter's box; the result's box; O: the box of the image that is gathered, in the block behind; its bytes: the first k of f. -/
structure Grow (w wr : World) (x0 x1 x2 o0 o1 v : Value) (k : Nat) (f : Nat → Int) : Prop where
  par : Blk wr w.heap.size #[x0, x1, x2] 24
  res : Blk wr (w.heap.size + 1) #[.int .i64 0, .int .i64 0, .slice none 0 0] 24
  out : Blk wr (w.heap.size + 2) #[o0, o1, v] 24
  own : wr.ownsRow (w.heap.size + 3) 5 1 v k (bytes k f)
  bel : Below w.heap.size w wr
namespace Grow
variable {w wr wr' : World} {x0 x1 x2 o0 o1 v v' : Value} {k k' : Nat} {f : Nat → Int}
theorem keep (h : Grow w wr x0 x1 x2 o0 o1 v k f) (hb : Below wr.heap.size wr wr') : Grow w wr' x0 x1 x2 o0 o1 v k f :=
  ⟨h.par.keep hb, h.res.keep hb, h.out.keep hb, h.own.kept (row := none) ⟨hb.os, hb.tape, hb.output, hb.size, fun k hk _ => hb.block k hk⟩ (Classical.em _), below_up h.bel hb⟩
theorem drew (h : Grow w wr x0 x1 x2 o0 o1 v k f) : Grow w wr.drew x0 x1 x2 o0 o1 v k f := h.keep (Below.refl _ _).drew
theorem own_ne (h : Grow w wr x0 x1 x2 o0 o1 v k f) (b : Nat) (hb : b < w.heap.size + 3) : some b ≠ v.ownBlock := by
  rcases h.own.2 with ⟨rfl, _⟩ | ⟨g, cap, cur, rfl, hg, _⟩
  · simp [Value.ownBlock]
  · simp [Value.ownBlock]; omega
theorem big (h : Grow w wr x0 x1 x2 o0 o1 v k f) : w.heap.size + 3 ≤ wr.heap.size := h.out.lt
/-- Behind an append and the store of the new slice. -/
theorem more (h : Grow w wr x0 x1 x2 o0 o1 v k f) (hg : wr.grownBy wr' v.ownBlock) {g cap : Nat} (ho : wr'.ownsRow (w.heap.size + 3) 5 1 (.slice (some ⟨g, 0, none⟩) k' cap) k' (bytes k' f)) :
    Grow w (wr'.setCell ⟨w.heap.size + 2, 2, none⟩ (.slice (some ⟨g, 0, none⟩) k' cap)) x0 x1 x2 o0 o1 (.slice (some ⟨g, 0, none⟩) k' cap) k' f := by
  have hb := h.big
  have hs := hg.size
  refine ⟨(h.par.grown hg (h.own_ne _ (by omega))).setOther (by simp) _, (h.res.grown hg (h.own_ne _ (by omega))).setOther (by simp) _, ?_, ?_, (h.bel.grown hg h.bel.size fun k e => ?_).setCell (by simp) _⟩
  · have := (h.out.grown hg (h.own_ne _ (by omega))).set 2 (.slice (some ⟨g, 0, none⟩) k' cap)
    simpa using this
  · have hge := (ho.lt g rfl).1
    refine ho.kept (row := some (w.heap.size + 2)) ⟨rfl, rfl, rfl, by simp, fun k hk hne => Below.heap_setCell _ _ _ _ (by simpa using hne)⟩ (by simp [Value.ownBlock]; omega)
  · rcases h.own.2 with ⟨rfl, _⟩ | ⟨g', cap', cur, rfl, hg', _⟩
    · simp [Value.ownBlock] at e
    · simp [Value.ownBlock] at e; omega
theorem cast (h : Grow w wr x0 x1 x2 o0 o1 v k f) (e : k = k') : Grow w wr x0 x1 x2 o0 o1 v k' f := e ▸ h
theorem six (h : Grow w wr x0 x1 x2 o0 o1 v k f) : wr.cell? ⟨w.heap.size, 0, none⟩ = some x0 ∧ wr.cell? ⟨w.heap.size, 1, none⟩ = some x1 ∧ wr.cell? ⟨w.heap.size, 2, none⟩ = some x2 ∧
    wr.cell? ⟨w.heap.size + 2, 0, none⟩ = some o0 ∧ wr.cell? ⟨w.heap.size + 2, 1, none⟩ = some o1 ∧ wr.cell? ⟨w.heap.size + 2, 2, none⟩ = some v :=
  ⟨h.par.three.1, h.par.three.2.1, h.par.three.2.2, h.out.three.1, h.out.three.2.1, h.out.three.2.2⟩
theorem kept_set {B : Nat} (h : wr.ownsRow B 5 1 v k (bytes k f)) {a : Addr} (ha : a.block < B) (x : Value) : (wr.setCell a x).ownsRow B 5 1 v k (bytes k f) := by
  refine h.kept (row := some a.block) ⟨rfl, rfl, rfl, by simp, fun k hk hne => Below.heap_setCell _ _ _ _ (by simpa using hne)⟩ ?_
  rcases h.2 with ⟨rfl, _⟩ | ⟨g, cap, cur, rfl, hg, _⟩
  · exact .inl rfl
  · right; simp [Value.ownBlock]; omega
theorem form (h : Grow w wr x0 x1 x2 o0 o1 v k f) (hk : 0 < k) : ∃ g cap, v = .slice (some ⟨g, 0, none⟩) k cap ∧ k ≤ cap ∧ cap ≤ maxLen := by
  rcases h.own.2 with ⟨_, h0⟩ | ⟨g, cap, cur, rfl, hg, hcell, hk, hm, _⟩
  · omega
  · exact ⟨g, cap, rfl, hk, hm⟩
theorem ret (h : Grow w wr x0 x1 x2 o0 o1 v k f) (a b c : Value) :
    (((wr.setCell ⟨w.heap.size + 1, 0, none⟩ a).setCell ⟨w.heap.size + 1, 1, none⟩ b).setCell ⟨w.heap.size + 1, 2, none⟩ c).ownsRow (w.heap.size + 3) 5 1 v k (bytes k f) ∧
    Below w.heap.size w (((wr.setCell ⟨w.heap.size + 1, 0, none⟩ a).setCell ⟨w.heap.size + 1, 1, none⟩ b).setCell ⟨w.heap.size + 1, 2, none⟩ c) :=
  ⟨kept_set (kept_set (kept_set h.own (by simp) _) (by simp) _) (by simp) _, ((h.bel.setCell (by simp) _).setCell (by simp) _).setCell (by simp) _⟩
end Grow
theorem bytes_more (k : Nat) (f : Nat → Int) (a b c : Int) (h0 : f k = a) (h1 : f (k + 1) = b) (h2 : f (k + 2) = c) : bytes k f ++ [.int .u8 a, .int .u8 b, .int .u8 c] = bytes (k + 3) f := by
  subst h0 h1 h2; exact bytes_three k f
end Go.Proofs.YtpgjpnnjlilokaaDoor
