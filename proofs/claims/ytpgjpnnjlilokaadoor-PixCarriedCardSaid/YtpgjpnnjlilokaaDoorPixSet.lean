/- Pixels in memory: at, set, blank. -/
import Derived.Test.YtpgjpnnjlilokaaDoorPixBase
import Derived.Laws.Cover3
import Derived.Laws.MakeOwn
import Derived.Deep.RegionHeld3
import Derived.Deep.DrawnRows
import Derived.Deep.AppendLies
namespace Go.Proofs.YtpgjpnnjlilokaaDoor
open Go.RowKit Go.Sort
set_option linter.unusedVariables false
attribute [local go_sem ↓] Go.wp_at_zero Go.wp_at_succ
theorem grown_up {a b c : World} {row : Option Nat} (h : Below a.heap.size a b) (g : b.drew.grownBy c row) : a.grownBy c row :=
  ⟨g.os.trans h.os, g.tape.trans h.tape, g.output.trans h.output, Nat.le_trans h.size g.size, fun k hk hne => (g.block k (Nat.lt_of_lt_of_le hk h.size) hne).trans (h.block k hk)⟩
/-- copy into a row that is known whole, as one step of a region that draws its order. -/
theorem step_copy_at {P : Program} {ops : Array Oper} {o : Oper} {a : Act} {w : World} {K : Act → World → Prop} {Q : Exit → Act → World → Prop} {E : Prop} (hgd : o.guard = none) (d s : Operand) (dT sT : TypeId)
    (ho : o.op = .call { callee := .builtin .copy, args := #[d, s], argTypes := #[dT, sT] }) (elem : TypeId) (hu : P.underlying dT = some (.slice elem)) (hsz : (P.info? elem).map (·.size) = some 1)
    (g off dLen dCap : Nat) (ad : Addr) (sLen sCap : Nat) (hd : a.eval d = .slice (some ⟨g, off, none⟩) dLen dCap) (hs : a.eval s = .slice (some ad) sLen sCap)
    (cur : List Value) (t : TypeId) (hg : w.heap[g]? = some (.cells cur.toArray t (0, 0))) (cs : List Value) (hn : cs.length = Nat.min sLen dLen)
    (hsrc : ∀ j v, cs[j]? = some v → w.cell? (ad.add j) = some v) (hfit : off + cs.length ≤ cur.length) (h1 : ∀ v ∈ cs, v.oneCell' = true)
    (h : ∀ w', Hid (w'.heap[g]? = some (.cells (splice cur off cs).toArray t (0, 0))) → w.grownBy w' (some g) → K (a.put o.dst (goInt cs.length)) w') :
    if Region.wanted o (yielded ops a.tmps) = true then Oper.wp P o a w K Q else E := by
  have hw : Region.wanted o (yielded ops a.tmps) = true := by simp [Region.wanted, hgd]
  rw [if_pos hw]
  have hrun := run_copy_row (P := P) w dT sT o.type elem g off dLen dCap ad sLen sCap cur.toArray t cs hu hsz hg hn hsrc (by simpa using hfit) h1
  unfold Oper.wp
  simp [execOp, ho, resolve, invoke, builtin, hd, hs, hrun, Result.andThen]
  exact h _ (show _ = _ by simpa [splice] using setRow_heap w g _ _ t _ hg) ⟨rfl, rfl, rfl, by simp [World.setRow], fun k hk hne => setRow_other w g k _ (fun e => hne (by rw [e]))⟩
set_option maxRecDepth 100000 in
set_option maxHeartbeats 1000000 in
theorem at_is (W H x y : Nat) (b off n ca : Nat) (px : Nat → Int) (w : World) (hb : b < w.heap.size) (hcell : ∀ i, i < n → w.cell? ⟨b, off + i, none⟩ = some (.int .u8 (px i)))
    (hk : 3 * (y * W + x) + 3 ≤ n) (hn : n ≤ 12288) (hca : n ≤ ca) (hca2 : ca ≤ 9223372036854775807) :
    Calls Tryd.prog 17 #[.agg #[.int .i64 W, .int .i64 H, .slice (some ⟨b, off, none⟩) n ca], .int .i64 x, .int .i64 y] w fun e w' => e = .returned (.agg #[.int .u8 (Im.pix px W x y 0), .int .u8 (Im.pix px W x y 1), .int .u8 (Im.pix px W x y 2)]) ∧ Below w.heap.size w w' := by
  have hat : ∀ w', (Instr.arrayAt 45 (.slice (some ⟨b, off + 3 * (y * W + x), none⟩) (n - 3 * (y * W + x)) (ca - 3 * (y * W + x)))).run Tryd.prog w' = .ok (.pointer (some ⟨b, off + 3 * (y * W + x), none⟩)) w' :=
    fun w' => run_arrayAt w' _ 5 3 _ _ _ Tryd.underlying45 (by omega)
  have e0 := hcell (3 * (y * W + x)) (by omega)
  have e1 : w.cell? ⟨b, off + 3 * (y * W + x) + 1, none⟩ = some (.int .u8 (Im.pix px W x y 1)) := hcell (3 * (y * W + x) + 1) (by omega)
  have e2 : w.cell? ⟨b, off + 3 * (y * W + x) + 2, none⟩ = some (.int .u8 (Im.pix px W x y 2)) := hcell (3 * (y * W + x) + 2) (by omega)
  have e0' : w.cell? ⟨b, off + 3 * (y * W + x), none⟩ = some (.int .u8 (Im.pix px W x y 0)) := e0
  have hyW : (0 : Int) ≤ (y : Int) * (W : Int) := Int.mul_nonneg (by omega) (by omega)
  have hc : (y : Int) * (W : Int) = ((y * W : Nat) : Int) := by simp
  have h1 : (y : Int) * (W : Int) + x ≤ 4096 := by omega
  have h2 : 3 * ((y : Int) * (W : Int) + x) + 3 ≤ (n : Int) := by omega
  generalize Im.pix px W x y 0 = p0 at *
  generalize Im.pix px W x y 1 = p1 at *
  generalize Im.pix px W x y 2 = p2 at *
  clear hc hcell e0
  go_enter Tryd.func17, Tryd.ntmps17
  go_wp2_with (simp only [hat])
  exact bodyPost_ret (v := .agg #[.int .u8 p0, .int .u8 p1, .int .u8 p2]) (by simp [results, Tryd.results17, go_sem]) rfl ⟨rfl, below_allocs (below_allocs (Below.refl _ _) _) _⟩
/-- Block b holds the N bytes f. -/
def Out (w : World) (b N : Nat) (f : Nat → Int) : Prop := Blk w b ((List.range N).map (fun i => Value.int .u8 (f i))).toArray 5
theorem splice_upd (N k : Nat) (f : Nat → Int) (p0 p1 p2 : Int) (h : k + 3 ≤ N) :
    splice ((List.range N).map (fun i => Value.int .u8 (f i))) k [.int .u8 p0, .int .u8 p1, .int .u8 p2] = (List.range N).map (fun i => Value.int .u8 (Im.upd f k p0 p1 p2 i)) := by
  refine List.ext_getElem (by rw [length_splice _ _ _ (by simpa using h)]; simp) fun i h1 h2 => ?_
  have hi : i < N := by simpa using h2
  simp only [splice, List.getElem_append, List.length_take, List.length_map, List.length_range, List.getElem_take, List.getElem_drop, List.getElem_map, List.getElem_range, Im.upd, List.length_cons, List.length_nil, Nat.min_eq_left (show k ≤ N by omega)]
  by_cases a : i < k
  · simp [a, show i ≠ k by omega, show i ≠ k + 1 by omega, show i ≠ k + 2 by omega]
  · by_cases b0 : i = k
    · subst b0; simp
    · by_cases b1 : i = k + 1
      · subst b1; simp; intro h; omega
      · by_cases b2 : i = k + 2
        · subst b2; simp; intro h; omega
        · have : ¬ i - k < 0 + 1 + 1 + 1 := by omega
          simp only [a, b0, b1, b2, this, dif_neg, not_false_eq_true, if_neg]
          congr 2; omega
theorem made_zero (i : TypeInfo) (n : Nat) (h : i.size = 1) : madeCells (Value.int .u8 0).cells (n * i.size) = ((List.range n).map (fun _ => Value.int .u8 0)).toArray := by
  rw [h, Nat.mul_one]
  unfold madeCells
  apply Array.ext
  · simp
  · intro k h1 h2
    simp [Value.cells, Nat.mod_one]
theorem infoByte : (Tryd.prog.info? 5).map (fun i => (i.zero, i.size, i.bytes)) = some (some (.int .u8 0), 1, 1) := by kernel_rfl
end Go.Proofs.YtpgjpnnjlilokaaDoor
