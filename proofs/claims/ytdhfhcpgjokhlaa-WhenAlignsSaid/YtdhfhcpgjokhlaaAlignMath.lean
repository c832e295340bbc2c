/- Plain mathematics of Align: the shifts in a list, folded; and the same fold without a list. -/
import Derived.Test.YtdhfhcpgjokhlaaEventsMath
namespace Go.Proofs.Ytdhfhcpgjokhlaa.Ev
section
variable (z y : Nat → Int) (n m : Nat) (k most : Int)
/-- A shift is looked at if it is not beyond the greatest. -/
def inside (s : Int) : Bool := decide (-most ≤ s ∧ s ≤ most)
def keepS (s : Int) : List Int := if inside most s = true then [s] else []
def two (x t : Int) : List Int := keepS most (t - x - k) ++ keepS most (t - x + k)
def rowS (x : Int) : Nat → List Int
  | 0 => []
  | j + 1 => rowS x j ++ two k most x (y j)
def allS : Nat → List Int
  | 0 => [0]
  | i + 1 => allS i ++ rowS y k most (z i) m
def adv (st : Int × Int) (s : Int) : Int × Int := if inside most s = true then step z y n m k st s s else st
def inn (x : Int) (st : Int × Int) : Nat → Int × Int
  | 0 => st
  | j + 1 => adv z y n m k most (adv z y n m k most (inn x st j) (y j - x - k)) (y j - x + k)
def out : Nat → Int × Int
  | 0 => (0, hits z y n 0 k m)
  | i + 1 => inn z y n m k most (z i) (out i) m
/-- The best of the first i of s. -/
def bestN (s : Nat → Int) : Nat → Int × Int
  | 0 => (0, -1)
  | i + 1 => step z y n m k (bestN s i) (s i) (s i)
theorem foldl_keepS (st : Int × Int) (s : Int) : (keepS most s).foldl (fun st s => step z y n m k st s s) st = adv z y n m k most st s := by
  unfold keepS adv; split <;> rfl
theorem foldl_two (st : Int × Int) (x t : Int) : (two k most x t).foldl (fun st s => step z y n m k st s s) st = adv z y n m k most (adv z y n m k most st (t - x - k)) (t - x + k) := by
  rw [two, List.foldl_append, foldl_keepS, foldl_keepS]
theorem foldl_rowS (st : Int × Int) (x : Int) (j : Nat) : (rowS y k most x j).foldl (fun st s => step z y n m k st s s) st = inn z y n m k most x st j := by
  induction j with
  | zero => rfl
  | succ j ih => rw [rowS, List.foldl_append, ih, foldl_two]; rfl
theorem step_first : step z y n m k (0, -1) 0 0 = (0, hits z y n 0 k m) := by
  have := hits_bd z y n 0 k m
  exact step_yes rfl (takes_more (by omega))
theorem foldl_allS (i : Nat) : (allS z y m k most i).foldl (fun st s => step z y n m k st s s) (0, -1) = out z y n m k most i := by
  induction i with
  | zero => exact step_first z y n m k
  | succ i ih => rw [allS, List.foldl_append, ih, foldl_rowS]; rfl
theorem bestN_fold (l : List Int) (i : Nat) (hi : i ≤ l.length) : bestN z y n m k (fun i => l.getD i 0) i = (l.take i).foldl (fun st s => step z y n m k st s s) (0, -1) := by
  induction i with
  | zero => simp [bestN]
  | succ i ih =>
    rw [bestN, ih (by omega), List.take_succ_eq_append_getElem (by omega : i < l.length), List.foldl_append]
    have e : l.getD i 0 = l[i] := by simp [show i < l.length by omega]
    rw [e]; rfl
theorem bestN_all (i : Nat) : bestN z y n m k (fun j => (allS z y m k most i).getD j 0) (allS z y m k most i).length = out z y n m k most i := by
  rw [bestN_fold _ _ _ _ _ _ _ (Nat.le_refl _), List.take_length, foldl_allS]
end
theorem keepS_length (most s : Int) : (keepS most s).length ≤ 1 := by unfold keepS; split <;> simp
theorem two_length (k most x t : Int) : (two k most x t).length ≤ 2 := by
  have h1 := keepS_length most (t - x - k); have h2 := keepS_length most (t - x + k)
  rw [two, List.length_append]; omega
theorem rowS_length (y : Nat → Int) (k most x : Int) (j : Nat) : (rowS y k most x j).length ≤ 2 * j := by
  induction j with
  | zero => simp [rowS]
  | succ j ih => have := two_length k most x (y j); rw [rowS, List.length_append]; omega
theorem allS_length (z y : Nat → Int) (m : Nat) (k most : Int) (i : Nat) : 1 ≤ (allS z y m k most i).length ∧ (allS z y m k most i).length ≤ 1 + 2 * m * i := by
  induction i with
  | zero => simp [allS]
  | succ i ih => have := rowS_length y k most (z i) m; rw [allS, List.length_append]; rw [Nat.mul_add]; omega
theorem allS_len (z y : Nat → Int) (m : Nat) (k most : Int) (i : Nat) (hm : m ≤ 50) (hi : i ≤ 50) : 1 ≤ (allS z y m k most i).length ∧ (allS z y m k most i).length ≤ 5001 := by
  have h := allS_length z y m k most i
  have : 2 * m * i ≤ 2 * 50 * 50 := Nat.mul_le_mul (Nat.mul_le_mul (Nat.le_refl _) hm) hi
  omega
theorem keepS_yes {most s : Int} (h : inside most s = true) : keepS most s = [s] := by unfold keepS; rw [if_pos h]
theorem keepS_no {most s : Int} (h : inside most s = false) : keepS most s = [] := by unfold keepS; rw [if_neg (by rw [h]; exact Bool.false_ne_true)]
theorem inside_yes {most s : Int} (h : inside most s = true) : -most ≤ s ∧ s ≤ most := by simpa [inside] using h
theorem inside_no {most s : Int} (h : inside most s = false) : s < -most ∨ most < s := by simp only [inside, decide_eq_false_iff_not] at h; omega
theorem keepS_mem {most s t : Int} (h : t ∈ keepS most s) : -most ≤ t ∧ t ≤ most := by
  unfold keepS at h; split at h
  · rw [List.mem_singleton] at h; subst h; exact inside_yes ‹_›
  · cases h
theorem rowS_mem {y : Nat → Int} {k most x t : Int} {j : Nat} (h : t ∈ rowS y k most x j) : -most ≤ t ∧ t ≤ most := by
  induction j with
  | zero => cases h
  | succ j ih =>
    rw [rowS, two, List.mem_append, List.mem_append] at h
    rcases h with h | h | h
    · exact ih h
    · exact keepS_mem h
    · exact keepS_mem h
theorem allS_mem {z y : Nat → Int} {m : Nat} {k most t : Int} (h0 : 0 ≤ most) {i : Nat} (h : t ∈ allS z y m k most i) : -most ≤ t ∧ t ≤ most := by
  induction i with
  | zero => rw [allS, List.mem_singleton] at h; omega
  | succ i ih =>
    rw [allS, List.mem_append] at h
    rcases h with h | h
    · exact ih h
    · exact rowS_mem h
theorem allS_getD {z y : Nat → Int} {m : Nat} {k most : Int} (h0 : 0 ≤ most) (i j : Nat) : -most ≤ (allS z y m k most i).getD j 0 ∧ (allS z y m k most i).getD j 0 ≤ most := by
  by_cases hj : j < (allS z y m k most i).length
  · have e : (allS z y m k most i).getD j 0 = (allS z y m k most i)[j] := by simp [hj]
    rw [e]; exact allS_mem h0 (List.getElem_mem hj)
  · have e : (allS z y m k most i).getD j 0 = 0 := by simp [List.getElem?_eq_none (by omega : (allS z y m k most i).length ≤ j)]
    rw [e]; omega
/-- The state's bounds. -/
def StOk (m : Nat) (st : Int × Int) : Prop := -1000000000000 ≤ st.1 ∧ st.1 ≤ 1000000000000 ∧ -1 ≤ st.2 ∧ st.2 ≤ m
theorem step_ok {z y : Nat → Int} {n m : Nat} {k s o : Int} {st : Int × Int} (h : StOk m st) (ho : -1000000000000 ≤ o ∧ o ≤ 1000000000000) : StOk m (step z y n m k st s o) := by
  have hb := hits_bd z y n s k m
  unfold step; split
  · exact ⟨ho.1, ho.2, by simp only []; omega, hb.2⟩
  · exact h
theorem adv_ok {z y : Nat → Int} {n m : Nat} {k most s : Int} {st : Int × Int} (h : StOk m st) (hm : most ≤ 1000000000000) : StOk m (adv z y n m k most st s) := by
  unfold adv; split
  · have := inside_yes ‹_›; exact step_ok h (by omega)
  · exact h
theorem inn_ok {z y : Nat → Int} {n m : Nat} {k most x : Int} {st : Int × Int} (h : StOk m st) (hm : most ≤ 1000000000000) (j : Nat) : StOk m (inn z y n m k most x st j) := by
  induction j with
  | zero => exact h
  | succ j ih => exact adv_ok (adv_ok ih hm) hm
theorem out_ok {z y : Nat → Int} {n m : Nat} {k most : Int} (hm : most ≤ 1000000000000) (i : Nat) : StOk m (out z y n m k most i) := by
  have hb := hits_bd z y n 0 k m
  induction i with
  | zero => exact ⟨by simp [out], by simp [out], by simp only [out]; omega, hb.2⟩
  | succ i ih => exact inn_ok ih hm m
theorem bestN_ok {z y : Nat → Int} {n m : Nat} {k : Int} {s : Nat → Int} (hs : ∀ i, -1000000000000 ≤ s i ∧ s i ≤ 1000000000000) (i : Nat) : StOk m (bestN z y n m k s i) := by
  induction i with
  | zero => exact ⟨by simp [bestN], by simp [bestN], by simp [bestN], by simp [bestN] <;> omega⟩
  | succ i ih => exact step_ok ih (hs i)
end Go.Proofs.Ytdhfhcpgjokhlaa.Ev
