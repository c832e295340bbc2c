/- Rows of booleans and of slices in memory; slices.Sort of an owned row; Clip of a slice of slices. -/
import Derived.Laws.MakeOwn
import Derived.Sort.OwnSortedInts
import Derived.Maps.AppendAt
import Derived.Test.YthldlffkgafgaaaDoorInts
import Derived.Test.YthldlffkgafgaaaDoorSortInts
import Derived.Test.YthldlffkgafgaaaDoorGrpMath
namespace Go.Proofs.YthldlffkgafgaaaDoor
open Go.RowKit Go.Sort Go.Shelf
set_option linter.unusedVariables false
theorem infoInts : (Tryd.prog.info? 36).map (fun i => (i.zero, i.size, i.bytes)) = some (some (.slice none 0 0), 1, 24) := by kernel_rfl
theorem infoBool : (Tryd.prog.info? 4).map (fun i => (i.zero, i.size, i.bytes)) = some (some (.bool false), 1, 1) := by kernel_rfl
/-- n cells. -/
def rowOf (n : Nat) (f : Nat → Value) : Array Value := ((List.range n).map f).toArray
theorem rowOf_get (n : Nat) (f : Nat → Value) (k : Nat) (h : k < n) : (rowOf n f)[k]? = some (f k) := by simp [rowOf, h]
theorem rowOf_set (n : Nat) (f : Nat → Value) (i : Nat) (v : Value) : (rowOf n f).setIfInBounds i v = rowOf n (Grp.upd f i v) := by
  apply Array.ext
  · simp [rowOf]
  · intro j h1 h2
    have hj : j < n := by simpa [rowOf] using h2
    rw [Array.getElem_setIfInBounds (by simpa [rowOf] using hj)]
    simp only [rowOf, List.getElem_toArray, List.getElem_map, List.getElem_range, Grp.upd]
    by_cases e : i = j
    · subst e; simp
    · rw [if_neg e, if_neg (fun h => e h.symm)]
/-- A block of booleans. -/
def Bts (w : World) (b n : Nat) (s : Nat → Bool) : Prop := Blk w b (rowOf n fun k => .bool (s k)) 4
theorem Bts.cell {w : World} {b n : Nat} {s : Nat → Bool} (h : Bts w b n s) (k : Nat) (hk : k < n) : w.cell? ⟨b, k, none⟩ = some (.bool (s k)) := by
  rw [Blk.cell h, rowOf_get _ _ _ hk]
theorem Bts.set {w : World} {b n : Nat} {s : Nat → Bool} (h : Bts w b n s) (i : Nat) (v : Bool) : Bts (w.setCell ⟨b, i, none⟩ (.bool v)) b n (Grp.upd s i v) := by
  have h1 := Blk.set h i (.bool v)
  rw [rowOf_set] at h1
  unfold Bts
  have e : (Grp.upd (fun k => Value.bool (s k)) i (.bool v)) = fun k => Value.bool (Grp.upd s i v k) := by
    funext k; unfold Grp.upd; split <;> rfl
  rw [← e]; exact h1
/-- A block of integers. -/
def Nms (w : World) (b n : Nat) (F : Nat → Nat) : Prop := Blk w b (rowOf n fun k => .int .i64 (F k : Nat)) 3
theorem Nms.cell {w : World} {b n : Nat} {F : Nat → Nat} (h : Nms w b n F) (k : Nat) (hk : k < n) : w.cell? ⟨b, k, none⟩ = some (.int .i64 (F k : Nat)) := by
  rw [Blk.cell h, rowOf_get _ _ _ hk]
theorem Nms.set {w : World} {b n : Nat} {F : Nat → Nat} (h : Nms w b n F) (i v : Nat) : Nms (w.setCell ⟨b, i, none⟩ (.int .i64 (v : Nat))) b n (Grp.upd F i v) := by
  have h1 := Blk.set h i (.int .i64 (v : Nat))
  rw [rowOf_set] at h1
  unfold Nms
  have e : (Grp.upd (fun k => Value.int .i64 (F k : Nat)) i (.int .i64 (v : Nat))) = fun k => Value.int .i64 (Grp.upd F i v k : Nat) := by
    funext k; unfold Grp.upd; split <;> rfl
  rw [← e]; exact h1
theorem made_rowOf (i : TypeInfo) (n : Nat) (z : Value) (hz : z.cells = #[z]) (h1 : i.size = 1) : madeCells z.cells (n * i.size) = rowOf n fun _ => z := by
  rw [hz, h1, Nat.mul_one]
  apply Array.ext
  · simp [madeCells, rowOf]
  · intro j h2 h3
    simp [madeCells, rowOf, Nat.mod_one]
/-- One finished group, in a block below lim. -/
def Good (w : World) (B lim : Nat) (v : Value) (l : List Int) : Prop := ∃ g c cap, v = .slice (some ⟨g, 0, none⟩) l.length c ∧ w.ownsRow B 3 1 (.slice (some ⟨g, 0, none⟩) l.length cap) l.length (l.map (Value.int .i64)) ∧ g < lim
/-- The finished groups. -/
structure Gs (w : World) (B lim : Nat) (vs : List Value) (L : List (List Int)) : Prop where
  len : vs.length = L.length
  each : ∀ (i : Nat) (v : Value) (l : List Int), vs[i]? = some v → L[i]? = some l → Good w B lim v l
theorem Gs.nil (w : World) (B lim : Nat) : Gs w B lim [] [] := ⟨rfl, fun i v l h => by simp at h⟩
theorem Good.kept {w w' : World} {B lim : Nat} {v : Value} {l : List Int} (h : Good w B lim v l) {row : Option Nat} (hg : w.grownBy w' row) (hne : ∀ g, g < lim → (∃ cur, w.heap[g]? = some (.cells cur 3 (0, 0))) → row ≠ some g) (hl : l ≠ []) : Good w' B lim v l := by
  obtain ⟨g, c, cap, rfl, ho, hlim⟩ := h
  refine ⟨g, c, cap, rfl, ho.kept hg (.inr ?_), hlim⟩
  rcases ho.2 with ⟨_, h0⟩ | ⟨g', cap', cur, hv, _, hcell, _⟩
  · exact absurd (List.eq_nil_of_length_eq_zero h0) hl
  · cases hv
    intro e
    exact hne g hlim ⟨cur, hcell⟩ e.symm
theorem Gs.kept {w w' : World} {B lim : Nat} {vs : List Value} {L : List (List Int)} (h : Gs w B lim vs L) {row : Option Nat} (hg : w.grownBy w' row) (hne : ∀ g, g < lim → (∃ cur, w.heap[g]? = some (.cells cur 3 (0, 0))) → row ≠ some g) (hL : ∀ l ∈ L, l ≠ []) : Gs w' B lim vs L :=
  ⟨h.len, fun i v l hv hl => (h.each i v l hv hl).kept hg hne (hL l (List.mem_of_getElem? hl))⟩
theorem Good.more {w : World} {B lim lim' : Nat} {v : Value} {l : List Int} (h : Good w B lim v l) (hl : lim ≤ lim') : Good w B lim' v l := by
  obtain ⟨g, c, cap, rfl, ho, hlim⟩ := h; exact ⟨g, c, cap, rfl, ho, by omega⟩
theorem Gs.more {w : World} {B lim lim' : Nat} {vs : List Value} {L : List (List Int)} (h : Gs w B lim vs L) (hl : lim ≤ lim') : Gs w B lim' vs L := ⟨h.len, fun i v l hv hh => (h.each i v l hv hh).more hl⟩
theorem Gs.snoc {w : World} {B lim : Nat} {vs : List Value} {L : List (List Int)} (h : Gs w B lim vs L) {v : Value} {l : List Int} (hv : Good w B lim v l) : Gs w B lim (vs ++ [v]) (L ++ [l]) := by
  refine ⟨by simp [h.len], fun i u k hu hk => ?_⟩
  by_cases hi : i < vs.length
  · rw [List.getElem?_append_left hi] at hu
    rw [List.getElem?_append_left (by have := h.len; omega)] at hk
    exact h.each i u k hu hk
  · rw [List.getElem?_append_right (by omega)] at hu
    rw [List.getElem?_append_right (by have := h.len; omega)] at hk
    by_cases e : i = vs.length
    · subst e
      have := h.len
      rw [this] at hu hk
      simp at hu hk
      subst hu hk
      exact hv
    · rw [List.getElem?_eq_none (by simp; omega)] at hu; cases hu
/-- Stores into blocks of another type leave the finished groups. -/
theorem type_ne {w : World} {b : Nat} {c : Array Value} {t : TypeId} (h : Blk w b c t) (ht : t ≠ 3) : ∀ g, (∃ cur, w.heap[g]? = some (.cells cur 3 (0, 0))) → (some b : Option Nat) ≠ some g := by
  rintro g ⟨cur, hg⟩ e
  cases e
  unfold Blk at h; rw [h] at hg; simp at hg; exact ht hg.2
theorem grownBy_set (w : World) (b i : Nat) (v : Value) : w.grownBy (w.setCell ⟨b, i, none⟩ v) (some b) :=
  ⟨rfl, rfl, rfl, by simp, fun k _ hk => Below.heap_setCell _ _ _ k (fun e => hk (by rw [e]))⟩
theorem grownBy_alloc0 (w : World) (o : Obj) : w.grownBy (w.alloc o) none := World.grownBy_alloc w o none
/-- slices.Sort of a row that the call owns. -/
theorem sort_own (g cap : Nat) (zs : List Int) (base : Nat) (w : World) (ho : w.ownsRow base 3 1 (.slice (some ⟨g, 0, none⟩) zs.length cap) zs.length (zs.map (Value.int .i64))) (hz : 0 < zs.length) (hn : zs.length ≤ 1000000) :
    Calls Tryd.prog 79 #[.slice (some ⟨g, 0, none⟩) zs.length cap] w fun e w' => ∃ ys : List Int, e = .returned (.tuple #[]) ∧ ys.length = zs.length ∧ ys.Perm zs ∧ ys.Pairwise (· ≤ ·) ∧ w'.ownsRow base 3 1 (.slice (some ⟨g, 0, none⟩) zs.length cap) zs.length (ys.map (Value.int .i64)) ∧ w.grownBy w' (some g) := by
  rcases ho.2 with ⟨_, h0⟩ | ⟨g', cap', cur, hv, hbase, hcell, hc1, hc2, hc3, htake⟩
  · omega
  · cases hv
    have ht : cur.toList.take zs.length = zs.map (Value.int .i64) := by simpa using htake
    refine (sortInts g 0 cap zs w (holds_of_blockI hcell ht) (ho.lt g rfl).2 (by omega)).mono ?_
    rintro e w' ⟨rfl, nn, os, rfl⟩
    have hl : (zs.mergeSort fun x y => decide (x ≤ y)).length = zs.length := List.length_mergeSort _
    refine ⟨zs.mergeSort fun x y => decide (x ≤ y), rfl, hl, List.mergeSort_perm _ _, ?_, ownsRow_sortedI hl hbase hcell hc1 hc2 hc3, grownBy_sortedI _⟩
    exact (List.pairwise_mergeSort (le := fun x y => decide (x ≤ y)) (fun a b c h1 h2 => by simp at *; omega) (fun a b => by simp; omega) zs).imp fun h => by simpa using h
end Go.Proofs.YthldlffkgafgaaaDoor
