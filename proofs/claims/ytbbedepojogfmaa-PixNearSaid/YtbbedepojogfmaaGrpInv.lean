/- What holds between the rounds of Groups. -/
import Derived.Test.YtbbedepojogfmaaGrpMem
import Derived.Test.YtbbedepojogfmaaPixDistMath
namespace Go.Proofs.Ytbbedepojogfmaa
open Go.RowKit Go.Sort Go.Shelf
set_option linter.unusedVariables false
theorem own_keep {w w' : World} {base : Nat} {e : TypeId} {size : Nat} {v : Value} {n : Nat} {xs : List Value} (h : w.ownsRow base e size v n xs) {row : Option Nat} (hg : w.grownBy w' row) (hr : ∀ r, row = some r → v.ownBlock ≠ some r) : w'.ownsRow base e size v n xs := by
  refine h.kept hg ?_
  cases hv : v.ownBlock with
  | none => exact .inl rfl
  | some b =>
    refine .inr fun e => ?_
    exact hr b e.symm hv
/-- Two rows of different element types lie in different blocks. -/
theorem own_types {w : World} {base base' : Nat} {e e' : TypeId} {size size' : Nat} {v v' : Value} {n n' : Nat} {xs xs' : List Value} (h : w.ownsRow base e size v n xs) (h' : w.ownsRow base' e' size' v' n' xs') (hne : e ≠ e') {r : Nat} (h1 : v.ownBlock = some r) : v'.ownBlock ≠ some r := by
  intro h2
  rcases h.2 with ⟨rfl, _⟩ | ⟨g, cap, cur, rfl, _, hc, _⟩
  · simp [Value.ownBlock] at h1
  · rcases h'.2 with ⟨rfl, _⟩ | ⟨g', cap', cur', rfl, _, hc', _⟩
    · simp [Value.ownBlock] at h2
    · have e1 : g = r := by simpa [Value.ownBlock] using h1
      have e2 : g' = r := by simpa [Value.ownBlock] using h2
      subst e1; subst e2
      rw [hc] at hc'; simp at hc'; exact hne hc'.2
/-- The blocks of Groups: seen, the result so far, the finished groups below lim. -/
structure GI (w wr : World) (n sb lim : Nat) (s : Nat → Bool) (o : Value) (vs : List Value) (L : List (List Int)) : Prop where
  bts : Bts wr sb n s
  own : wr.ownsRow w.heap.size 29 1 o vs.length vs
  gs : Gs wr w.heap.size lim vs L
  bel : Below w.heap.size w wr
  big : lim ≤ wr.heap.size
  sbB : w.heap.size ≤ sb
  sbl : sb < lim
  ob : ∀ k, o.ownBlock = some k → k < lim
  ne : ∀ l ∈ L, l ≠ []
theorem GI.grow {w wr wr' : World} {n sb lim : Nat} {s : Nat → Bool} {o : Value} {vs : List Value} {L : List (List Int)} (h : GI w wr n sb lim s o vs L) {row : Option Nat} (hg : wr.grownBy wr' row) (hr : ∀ r, row = some r → lim ≤ r) : GI w wr' n sb lim s o vs L :=
  ⟨Blk.grown h.bts hg (fun e => by have := hr _ e.symm; have := h.sbl; omega),
   own_keep h.own hg (fun r e => fun e2 => by have := hr r e; have := h.ob r e2; omega),
   h.gs.kept hg (fun g hl _ e => by have := hr g e; omega) h.ne,
   h.bel.grown hg h.bel.size (fun k e => by have := hr k e; have := h.sbl; have := h.sbB; omega),
   Nat.le_trans h.big hg.size, h.sbB, h.sbl, h.ob, h.ne⟩
theorem GI.alloc {w wr : World} {n sb lim : Nat} {s : Nat → Bool} {o : Value} {vs : List Value} {L : List (List Int)} (h : GI w wr n sb lim s o vs L) (ob : Obj) : GI w (wr.alloc ob) n sb lim s o vs L := h.grow (World.grownBy_alloc wr ob none) (fun r e => by cases e)
theorem GI.mark {w wr : World} {n sb lim : Nat} {s : Nat → Bool} {o : Value} {vs : List Value} {L : List (List Int)} (h : GI w wr n sb lim s o vs L) (m : Nat) : GI w (wr.setCell ⟨sb, m, none⟩ (.bool true)) n sb lim (Grp.upd s m true) o vs L :=
  ⟨h.bts.set m true,
   own_keep h.own (grownBy_set wr sb m _) (fun r e => fun e2 => by
     cases e
     rcases h.own.2 with ⟨h1, _⟩ | ⟨g, cap, cur, h1, _, hc, _⟩
     · rw [h1] at e2; simp [Value.ownBlock] at e2
     · rw [h1] at e2
       have e1 : g = sb := by simpa [Value.ownBlock] using e2
       subst e1
       have hb := h.bts
       unfold Bts Blk at hb; rw [hb] at hc; simp at hc),
   h.gs.kept (grownBy_set wr sb m _) (fun g _ hc => type_ne h.bts (by decide) g hc) h.ne,
   h.bel.setCell (p := ⟨sb, m, none⟩) h.sbB _,
   by simpa using h.big, h.sbB, h.sbl, h.ob, h.ne⟩
/-- The row that is being built lies beyond lim. -/
theorem own_mark {w wr : World} {n sb lim : Nat} {s : Nat → Bool} {o : Value} {vs : List Value} {L : List (List Int)} (h : GI w wr n sb lim s o vs L) {e : TypeId} {size : Nat} {v : Value} {k : Nat} {xs : List Value} (ho : wr.ownsRow lim e size v k xs) (m : Nat) (u : Value) : (wr.setCell ⟨sb, m, none⟩ u).ownsRow lim e size v k xs :=
  own_keep ho (grownBy_set wr sb m u) (fun r e => fun e2 => by cases e; have := (ho.lt _ e2).1; have := h.sbl; omega)
/-- A group is finished. -/
theorem GI.done {w wr w5 : World} {n sb lim : Nat} {s : Nat → Bool} {o : Value} {vs : List Value} {L : List (List Int)} (h : GI w wr n sb lim s o vs L) {g cap c : Nat} {l : List Int} (hl : 0 < l.length) (ho : wr.ownsRow lim 3 1 (.slice (some ⟨g, 0, none⟩) l.length cap) l.length (l.map (Value.int .i64)))
    {g1 cap1 : Nat} (hown : w5.ownsRow w.heap.size 29 1 (.slice (some ⟨g1, 0, none⟩) (vs.length + 1) cap1) (vs.length + 1) (vs ++ [.slice (some ⟨g, 0, none⟩) l.length c])) (hg : wr.grownBy w5 o.ownBlock) :
    GI w w5 n sb w5.heap.size s (.slice (some ⟨g1, 0, none⟩) (vs.length + 1) cap1) (vs ++ [.slice (some ⟨g, 0, none⟩) l.length c]) (L ++ [l]) := by
  have hobo : ∀ r, o.ownBlock = some r → ∀ b' c' t', Blk wr b' c' t' → t' ≠ 29 → r ≠ b' := by
    rintro r hr b' c' t' hb ht rfl
    rcases h.own.2 with ⟨h1, _⟩ | ⟨g', cap', cur, h1, _, hc, _⟩
    · rw [h1] at hr; simp [Value.ownBlock] at hr
    · rw [h1] at hr
      have e1 : g' = r := by simpa [Value.ownBlock] using hr
      subst e1
      unfold Blk at hb; rw [hb] at hc; simp at hc; exact ht hc.2
  have hsz := hg.size
  have hgl : (g : Nat) < wr.heap.size := (ho.lt g rfl).2
  have hbase : w.heap.size ≤ lim := by have := h.sbB; have := h.sbl; omega
  refine ⟨Blk.grown h.bts hg (fun e => hobo _ e.symm _ _ _ h.bts (by decide) rfl), by simpa using hown, ?_, ?_, Nat.le_refl _, h.sbB, by have := h.sbl; have := h.big; omega, fun k e => (hown.lt k e).2, fun l' hl' => ?_⟩
  · refine ((h.gs.kept hg (fun g2 _ hc e => ?_) h.ne).more (by have := h.big; omega)).snoc ⟨g, c, cap, rfl, ?_, by omega⟩
    · obtain ⟨cur, hcur⟩ := hc
      exact hobo g2 e g2 cur 3 hcur (by decide) rfl
    · exact own_keep (ownsRow_down ho hbase) hg (fun r e => own_types h.own ho (by decide) e)
  · exact h.bel.grown hg h.bel.size (fun k e => (h.own.lt k e).1)
  · rcases List.mem_append.1 hl' with hl' | hl'
    · exact h.ne l' hl'
    · obtain rfl := List.mem_singleton.1 hl'
      intro e; rw [e] at hl; simp at hl
theorem GI.more {w wr : World} {n sb lim : Nat} {s : Nat → Bool} {o : Value} {vs : List Value} {L : List (List Int)} (h : GI w wr n sb lim s o vs L) : GI w wr n sb wr.heap.size s o vs L :=
  ⟨h.bts, h.own, h.gs.more h.big, h.bel, Nat.le_refl _, h.sbB, by have := h.sbl; have := h.big; omega, fun k e => by have := h.ob k e; have := h.big; omega, h.ne⟩
/-- Which hashes are near. -/
def Grp.near (h : Nat → Nat) (most : Int) (a b : Nat) : Bool := decide ((Pop.dist (h a) (h b) : Int) ≤ most)
theorem Grp.near_comm (h : Nat → Nat) (most : Int) (a b : Nat) : Grp.near h most a b = Grp.near h most b a := by unfold Grp.near; rw [Pop.dist_comm]
theorem Grp.ints_at {l : List Nat} {k x : Nat} (h : l[k]? = some x) : (Grp.ints l)[k]? = some (x : Int) := by unfold Grp.ints; rw [List.getElem?_map, h]; rfl
theorem Grp.ints_len (l : List Nat) : (Grp.ints l).length = l.length := by simp [Grp.ints]
theorem Grp.ints_snoc (l : List Nat) (x : Nat) : Grp.ints (l ++ [x]) = Grp.ints l ++ [(x : Int)] := by simp [Grp.ints]
theorem Grp.cls_ne {n : Nat} {nr : Nat → Nat → Bool} {i : Nat} (h : 1 < (Grp.cls n nr i).length) : 0 < (Grp.ints (Grp.cls n nr i)).length := by rw [Grp.ints_len]; omega
end Go.Proofs.Ytbbedepojogfmaa
