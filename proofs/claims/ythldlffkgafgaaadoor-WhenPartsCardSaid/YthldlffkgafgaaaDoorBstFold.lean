/- Plain mathematics of the bursts; rows of pairs. -/
import Derived.Test.YthldlffkgafgaaaDoorRow2
import Derived.Test.YthldlffkgafgaaaDoorRise
import Derived.Test.YthldlffkgafgaaaDoorBstClone
namespace Go.Proofs.YthldlffkgafgaaaDoor
open Go.RowKit Go.Sort Go.Shelf
set_option linter.unusedVariables false
namespace Bst
abbrev Ps := List (Int × Int)
def flat (ps : Ps) : List Value := ps.flatMap fun p => [Value.int .i64 p.1, Value.int .i64 p.2]
theorem flat_nil : flat [] = [] := rfl
theorem flat_snoc (ps : Ps) (p q : Int) : flat (ps ++ [(p, q)]) = flat ps ++ [.int .i64 p, .int .i64 q] := by simp [flat]
theorem flat_len (ps : Ps) : (flat ps).length = ps.length * 2 := by
  induction ps with
  | nil => rfl
  | cons p ps ih => simp only [flat, List.flatMap_cons, List.length_append, List.length_cons, List.length_nil] at *; omega
theorem flat_get (ps : Ps) : ∀ i, i < ps.length → (flat ps)[i * 2]? = some (.int .i64 (ps[i]?.getD (0, 0)).1) ∧ (flat ps)[i * 2 + 1]? = some (.int .i64 (ps[i]?.getD (0, 0)).2) := by
  induction ps with
  | nil => intro i h; simp at h
  | cons p ps ih =>
    intro i h
    cases i with
    | zero => exact ⟨rfl, rfl⟩
    | succ k =>
      have h' : k < ps.length := by simpa using h
      obtain ⟨e1, e2⟩ := ih k h'
      have hc : flat (p :: ps) = .int .i64 p.1 :: .int .i64 p.2 :: flat ps := rfl
      refine ⟨?_, ?_⟩
      · rw [hc, show (k + 1) * 2 = k * 2 + 1 + 1 by omega, List.getElem?_cons_succ, List.getElem?_cons_succ, e1]; simp
      · rw [hc, show (k + 1) * 2 + 1 = k * 2 + 1 + 1 + 1 by omega, List.getElem?_cons_succ, List.getElem?_cons_succ, e2]; simp
theorem flat_set (is : Ps) (p q x : Int) : (flat (is ++ [(p, q)])).set (is.length * 2 + 1) (.int .i64 x) = flat (is ++ [(p, x)]) := by
  rw [flat_snoc, flat_snoc, List.set_append_right _ _ (by rw [flat_len]; omega), flat_len, show is.length * 2 + 1 - is.length * 2 = 1 by omega]; rfl
def step (gap : Int) (ps : Ps) (x : Int) : Ps := match ps.getLast? with
  | none => [(x, x)]
  | some p => if x - p.2 ≤ gap then ps.dropLast ++ [(p.1, x)] else ps ++ [(x, x)]
theorem step_nil (gap x : Int) : step gap [] x = [(x, x)] := rfl
theorem step_near {gap x p q : Int} {is : Ps} (h : x - q ≤ gap) : step gap (is ++ [(p, q)]) x = is ++ [(p, x)] := by simp [step, h]
theorem step_far {gap x p q : Int} {is : Ps} (h : ¬ x - q ≤ gap) : step gap (is ++ [(p, q)]) x = is ++ [(p, q)] ++ [(x, x)] := by simp [step]; omega
def upto (gap : Int) (ys : List Int) (j : Nat) : Ps := (ys.take j).foldl (step gap) []
theorem upto_0 (gap : Int) (ys : List Int) : upto gap ys 0 = [] := by simp [upto]
theorem upto_succ {gap : Int} {ys : List Int} {j : Nat} {x : Int} (h : ys[j]? = some x) : upto gap ys (j + 1) = step gap (upto gap ys j) x := by
  unfold upto; rw [List.take_add_one, h, List.foldl_append]; rfl
theorem step_len (gap : Int) (ps : Ps) (x : Int) : (step gap ps x).length ≤ ps.length + 1 := by
  unfold step; split
  · simp
  · split <;> simp <;> omega
theorem upto_len (gap : Int) (ys : List Int) (j : Nat) : (upto gap ys j).length ≤ j := by
  induction j with
  | zero => simp [upto]
  | succ j ih =>
    cases h : ys[j]? with
    | none => have e : upto gap ys (j + 1) = upto gap ys j := by unfold upto; rw [List.take_add_one, h]; simp
              rw [e]; omega
    | some x => rw [upto_succ h]; have := step_len gap (upto gap ys j) x; omega
/-- Each pair's end is a moment. -/
def Ok (ps : Ps) : Prop := ∀ p ∈ ps, 0 ≤ p.2 ∧ p.2 ≤ 6311433599
theorem Ok.nil : Ok [] := fun p h => by simp at h
theorem Ok.snoc {ps : Ps} (h : Ok ps) {p x : Int} (h1 : 0 ≤ x) (h2 : x ≤ 6311433599) : Ok (ps ++ [(p, x)]) := fun q hq => (List.mem_append.1 hq).elim (h q) (fun e => by obtain rfl := List.mem_singleton.1 e; exact ⟨h1, h2⟩)
theorem Ok.init {ps : Ps} {p : Int × Int} (h : Ok (ps ++ [p])) : Ok ps := fun q hq => h q (List.mem_append_left _ hq)
theorem Ok.last {ps : Ps} {p q : Int} (h : Ok (ps ++ [(p, q)])) : 0 ≤ q ∧ q ≤ 6311433599 := h (p, q) (by simp)
/-- The sorted numbers are just one list. -/
theorem sorted_eq {xs ys zs : List Int} (h1 : ys.Perm xs) (s1 : ys.Pairwise (· ≤ ·)) (h2 : zs.Perm xs) (s2 : zs.Pairwise (· ≤ ·)) : ys = zs :=
  List.Perm.eq_of_pairwise (fun _ _ _ _ h g => Int.le_antisymm h g) s1 s2 (h1.trans h2.symm)
end Bst
/-- A slice of stretches. -/
def RowP (w : World) (a : Option Addr) (ps : Bst.Ps) : Prop := Row2 w a ps.length (fun i => .int .i64 (ps[i]?.getD (0, 0)).1) (fun i => .int .i64 (ps[i]?.getD (0, 0)).2)
theorem RowP.keep {w w' : World} {a : Option Addr} {ps : Bst.Ps} (h : RowP w a ps) (hb : Below w.heap.size w w') : RowP w' a ps := Row2.keep h hb
theorem RowP.nil (w : World) (a : Option Addr) : RowP w a [] := fun h => by simp at h
theorem RowP.of_own {w : World} {base : Nat} {e : TypeId} {g n cap : Nat} {ps : Bst.Ps} (h : w.ownsRow base e 2 (.slice (some ⟨g, 0, none⟩) n cap) n (Bst.flat ps)) : RowP w (some ⟨g, 0, none⟩) ps := by
  intro hl
  have hlen := h.1
  rw [Bst.flat_len] at hlen
  refine ⟨g, 0, rfl, (h.lt g rfl).2, fun i hi => ?_⟩
  obtain ⟨e1, e2⟩ := Bst.flat_get ps i hi
  refine ⟨?_, ?_⟩
  · rw [Nat.zero_add, h.cellAt (i * 2) (by omega), e1]
  · rw [Nat.zero_add, h.cellAt (i * 2 + 1) (by omega), e2]
theorem cell_two_new (w : World) (x y : Value) (t : TypeId) : ∀ j u, [x, y][j]? = some u → (w.alloc (.cells #[x, y] t)).cell? ((⟨w.heap.size, 0, none⟩ : Addr).add j) = some u := by
  intro j u hj
  rw [show (⟨w.heap.size, 0, none⟩ : Addr).add j = ⟨w.heap.size, j, none⟩ from by unfold Addr.add; split <;> simp_all, (Blk.new w #[x, y] t).cell]
  simpa using hj
theorem infoStretch : (Tryd.prog.info? 45).map (fun i => (i.zero, i.size, i.bytes)) = some (some (.agg #[.int .i64 0, .int .i64 0]), 2, 16) := by kernel_rfl
end Go.Proofs.YthldlffkgafgaaaDoor
