/- What holds between the rounds of the reference's GroupsOf. -/
import Derived.Test.YtbbedepojogfmaaGroups
namespace Go.Proofs.Ytbbedepojogfmaa
open Go.RowKit Go.Sort Go.Shelf
set_option linter.unusedVariables false
theorem rowOf_congr {n : Nat} {f g : Nat → Value} (h : ∀ k, k < n → f k = g k) : rowOf n f = rowOf n g := by
  unfold rowOf; congr 1; exact List.map_congr_left fun k hk => h k (List.mem_range.1 hk)
theorem Nms.congr {w : World} {b n : Nat} {F G : Nat → Nat} (h : Nms w b n F) (e : ∀ k, k < n → F k = G k) : Nms w b n G := by
  unfold Nms at *; rw [rowOf_congr (g := fun k => .int .i64 (F k : Nat)) (fun k hk => by rw [e k hk])]; exact h
/-- The blocks of GroupsOf: the least places, the result so far, the finished groups below lim. -/
structure GR (w wr : World) (n sb lim : Nat) (s : Nat → Nat) (o : Value) (vs : List Value) (L : List (List Int)) : Prop where
  nms : Nms wr sb n s
  own : wr.ownsRow w.heap.size 29 1 o vs.length vs
  gs : Gs wr w.heap.size lim vs L
  bel : Below w.heap.size w wr
  big : lim ≤ wr.heap.size
  sbB : w.heap.size ≤ sb
  sbl : sb < lim
  ob : ∀ k, o.ownBlock = some k → k < lim
  ne : ∀ l ∈ L, l ≠ []
theorem GR.grow {w wr wr' : World} {n sb lim : Nat} {s : Nat → Nat} {o : Value} {vs : List Value} {L : List (List Int)} (h : GR w wr n sb lim s o vs L) {row : Option Nat} (hg : wr.grownBy wr' row) (hr : ∀ r, row = some r → lim ≤ r) : GR w wr' n sb lim s o vs L :=
  ⟨Blk.grown h.nms hg (fun e => by have := hr _ e.symm; have := h.sbl; omega),
   own_keep h.own hg (fun r e => fun e2 => by have := hr r e; have := h.ob r e2; omega),
   h.gs.kept hg (fun g hl _ e => by have := hr g e; omega) h.ne,
   h.bel.grown hg h.bel.size (fun k e => by have := hr k e; have := h.sbl; have := h.sbB; omega),
   Nat.le_trans h.big hg.size, h.sbB, h.sbl, h.ob, h.ne⟩
theorem GR.alloc {w wr : World} {n sb lim : Nat} {s : Nat → Nat} {o : Value} {vs : List Value} {L : List (List Int)} (h : GR w wr n sb lim s o vs L) (ob : Obj) : GR w (wr.alloc ob) n sb lim s o vs L := h.grow (World.grownBy_alloc wr ob none) (fun r e => by cases e)
/-- A group is finished. -/
theorem GR.done {w wr w5 : World} {n sb lim : Nat} {s : Nat → Nat} {o : Value} {vs : List Value} {L : List (List Int)} (h : GR w wr n sb lim s o vs L) {g cap c : Nat} {l : List Int} (hl : 0 < l.length) (ho : wr.ownsRow lim 3 1 (.slice (some ⟨g, 0, none⟩) l.length cap) l.length (l.map (Value.int .i64)))
    {g1 cap1 : Nat} (hown : w5.ownsRow w.heap.size 29 1 (.slice (some ⟨g1, 0, none⟩) (vs.length + 1) cap1) (vs.length + 1) (vs ++ [.slice (some ⟨g, 0, none⟩) l.length c])) (hg : wr.grownBy w5 o.ownBlock) :
    GR w w5 n sb w5.heap.size s (.slice (some ⟨g1, 0, none⟩) (vs.length + 1) cap1) (vs ++ [.slice (some ⟨g, 0, none⟩) l.length c]) (L ++ [l]) := by
  have hobo : ∀ r, o.ownBlock = some r → ∀ b' c' t', Blk wr b' c' t' → t' ≠ 29 → r ≠ b' := by
    rintro r hr b' c' t' hb ht rfl
    rcases h.own.2 with ⟨h1, _⟩ | ⟨g', cap', cur, h1, _, hc, _⟩
    · rw [h1] at hr; simp [Value.ownBlock] at hr
    · rw [h1] at hr
      have e1 : g' = r := by simpa [Value.ownBlock] using hr
      subst e1
      unfold Blk at hb; rw [hb] at hc; simp at hc; exact ht hc.2
  have hsz := hg.size
  have hgl : (g : Nat) < wr.heap.size := (ho.lt g rfl).2
  have hbase : w.heap.size ≤ lim := by have := h.sbB; have := h.sbl; omega
  refine ⟨Blk.grown h.nms hg (fun e => hobo _ e.symm _ _ _ h.nms (by decide) rfl), by simpa using hown, ?_, ?_, Nat.le_refl _, h.sbB, by have := h.sbl; have := h.big; omega, fun k e => (hown.lt k e).2, fun l' hl' => ?_⟩
  · refine ((h.gs.kept hg (fun g2 _ hc e => ?_) h.ne).more (by have := h.big; omega)).snoc ⟨g, c, cap, rfl, ?_, by omega⟩
    · obtain ⟨cur, hcur⟩ := hc
      exact hobo g2 e g2 cur 3 hcur (by decide) rfl
    · exact own_keep (ownsRow_down ho hbase) hg (fun r e => own_types h.own ho (by decide) e)
  · exact h.bel.grown hg h.bel.size (fun k e => (h.own.lt k e).1)
  · rcases List.mem_append.1 hl' with hl' | hl'
    · exact h.ne l' hl'
    · obtain rfl := List.mem_singleton.1 hl'
      intro e; rw [e] at hl; simp at hl
theorem GR.more {w wr : World} {n sb lim : Nat} {s : Nat → Nat} {o : Value} {vs : List Value} {L : List (List Int)} (h : GR w wr n sb lim s o vs L) : GR w wr n sb wr.heap.size s o vs L :=
  ⟨h.nms, h.own, h.gs.more h.big, h.bel, Nat.le_refl _, h.sbB, by have := h.sbl; have := h.big; omega, fun k e => by have := h.ob k e; have := h.big; omega, h.ne⟩
end Go.Proofs.Ytbbedepojogfmaa
