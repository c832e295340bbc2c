/- Plain mathematics of events: what is a moment, when two lists meet, how many meet, which shift is nearer to 0. -/
namespace Go.Proofs.YtngbaljmlbdfkaaGreatDoor.Ev
def mom (n : Int) : Bool := decide (0 ≤ n ∧ n ≤ 6311433599)
theorem mom_iff (n : Int) : mom n = true ↔ 0 ≤ n ∧ n ≤ 6311433599 := by simp [mom]
theorem mom_no (n : Int) : mom n = false ↔ n < 0 ∨ 6311433599 < n := by simp only [mom, decide_eq_false_iff_not]; omega
/-- x moved by s is within k of y. -/
def meets (x s y k : Int) : Bool := decide (-k ≤ x + s - y ∧ x + s - y ≤ k)
theorem meets_iff (x s y k : Int) : meets x s y k = true ↔ -k ≤ x + s - y ∧ x + s - y ≤ k := by simp [meets]
theorem meets_no (x s y k : Int) : meets x s y k = false ↔ x + s - y < -k ∨ k < x + s - y := by simp only [meets, decide_eq_false_iff_not]; omega
/-- p holds of one of the first n of z. -/
def anyB (p : Int → Bool) (z : Nat → Int) (n : Nat) : Bool := (List.range n).any fun j => p (z j)
theorem anyB_yes {p : Int → Bool} {z : Nat → Int} {n : Nat} (j : Nat) (h : j < n) (hj : p (z j) = true) : anyB p z n = true :=
  List.any_eq_true.2 ⟨j, List.mem_range.2 h, hj⟩
theorem anyB_no {p : Int → Bool} {z : Nat → Int} {n : Nat} (h : ∀ j, j < n → p (z j) = false) : anyB p z n = false := by
  rw [anyB, List.any_eq_false]; intro j hj; rw [h j (List.mem_range.1 hj)]; exact Bool.false_ne_true
theorem anyB_none {p : Int → Bool} {z : Nat → Int} {n : Nat} (h : anyB p z n = false) (j : Nat) (hj : j < n) : p (z j) = false := by
  rw [anyB, List.any_eq_false] at h; simpa using h j (List.mem_range.2 hj)
/-- One of the first n of z, moved by s, is within k of y. -/
def near (z : Nat → Int) (n : Nat) (s y k : Int) : Bool := (List.range n).any fun j => meets (z j) s y k
theorem near_yes {z : Nat → Int} {n : Nat} {s y k : Int} (j : Nat) (h : j < n) (hj : meets (z j) s y k = true) : near z n s y k = true :=
  List.any_eq_true.2 ⟨j, List.mem_range.2 h, hj⟩
theorem near_no {z : Nat → Int} {n : Nat} {s y k : Int} (h : ∀ j, j < n → meets (z j) s y k = false) : near z n s y k = false := by
  rw [near, List.any_eq_false]; intro j hj; rw [h j (List.mem_range.1 hj)]; exact Bool.false_ne_true
/-- How many of the first m of y are met. -/
def hits (z y : Nat → Int) (n : Nat) (s k : Int) : Nat → Int
  | 0 => 0
  | m + 1 => hits z y n s k m + if near z n s (y m) k then 1 else 0
theorem hits_yes {z y : Nat → Int} {n : Nat} {s k : Int} {m : Nat} (h : near z n s (y m) k = true) : hits z y n s k (m + 1) = hits z y n s k m + 1 := by simp [hits, h]
theorem hits_no {z y : Nat → Int} {n : Nat} {s k : Int} {m : Nat} (h : near z n s (y m) k = false) : hits z y n s k (m + 1) = hits z y n s k m := by simp [hits, h]
theorem hits_bd (z y : Nat → Int) (n : Nat) (s k : Int) (m : Nat) : 0 ≤ hits z y n s k m ∧ hits z y n s k m ≤ m := by
  induction m with
  | zero => simp [hits]
  | succ m ih => unfold hits; split <;> omega
def abs (s : Int) : Int := max s (-s)
theorem abs_eq (s : Int) : abs s = if s < 0 then -s else s := by unfold abs; split <;> omega
theorem abs_neg (s : Int) (h : s < 0) : abs s = -s := by unfold abs; omega
theorem abs_pos (s : Int) (h : 0 ≤ s) : abs s = s := by unfold abs; omega
def nearer (s t : Int) : Bool := decide (abs s < abs t ∨ abs s = abs t ∧ t < s)
theorem nearer_iff (s t : Int) : nearer s t = true ↔ max s (-s) < max t (-t) ∨ max s (-s) = max t (-t) ∧ t < s := by unfold nearer; rw [decide_eq_true_iff]; rfl
/-- Which of two shifts is kept: the first two numbers are kept till now, with their hits; then another one with its hits. -/
def takes (best many s n : Int) : Bool := decide (many < n) || (decide (n = many) && nearer s best)
theorem moments_bd {z : Nat → Int} {n : Nat} (h : ∀ i, i < n → mom (z i) = true) (i : Nat) (hi : i < n) : 0 ≤ z i ∧ z i ≤ 6311433599 := (mom_iff _).1 (h i hi)
theorem takes_more {best many s n : Int} (h : many < n) : takes best many s n = true := by simp [takes, h]
theorem takes_same {best many s n : Int} (h : n = many) : takes best many s n = nearer s best := by simp [takes, h]
theorem takes_less {best many s n : Int} (h : n < many) : takes best many s n = false := by
  have h1 : decide (many < n) = false := by simp; omega
  have h2 : decide (n = many) = false := by simp; omega
  simp [takes, h1, h2]
/-- One shift more. -/
def step (z y : Nat → Int) (n m : Nat) (k : Int) (st : Int × Int) (s o : Int) : Int × Int := if takes st.1 st.2 o (hits z y n s k m) = true then (o, hits z y n s k m) else st
theorem step_yes {z y : Nat → Int} {n m : Nat} {k b c s o h : Int} (hh : hits z y n s k m = h) (ht : takes b c o h = true) : step z y n m k (b, c) s o = (o, h) := by unfold step; rw [hh, if_pos ht]
theorem step_no {z y : Nat → Int} {n m : Nat} {k b c s o h : Int} (hh : hits z y n s k m = h) (ht : takes b c o h = false) : step z y n m k (b, c) s o = (b, c) := by
  unfold step; rw [hh, if_neg (by rw [ht]; exact Bool.false_ne_true)]
/-- After i of the offsets from -840 on, a quarter of an hour apart: the best, and its hits. -/
def zones (z y : Nat → Int) (n m : Nat) (k : Int) : Nat → Int × Int
  | 0 => (0, 0)
  | i + 1 => step z y n m k (zones z y n m k i) (-60 * (15 * i - 840)) (15 * i - 840)
/-- The error of two lists of moments and of a slack. -/
def err (z y : Nat → Int) (n m : Nat) (k : Int) : Int :=
  if 50 < n ∨ 50 < m then 4 else if anyB (fun x => !mom x) z n = true then 2 else if anyB (fun x => !mom x) y m = true then 2 else if 0 ≤ k ∧ k ≤ 86400 then 0 else 2
theorem err_large {z y : Nat → Int} {n m : Nat} {k : Int} (h : 50 < n ∨ 50 < m) : err z y n m k = 4 := by unfold err; rw [if_pos h]
theorem err_a {z y : Nat → Int} {n m : Nat} {k : Int} (h1 : n ≤ 50) (h2 : m ≤ 50) (h : anyB (fun x => !mom x) z n = true) : err z y n m k = 2 := by unfold err; rw [if_neg (by omega), if_pos h]
theorem err_b {z y : Nat → Int} {n m : Nat} {k : Int} (h1 : n ≤ 50) (h2 : m ≤ 50) (h : anyB (fun x => !mom x) y m = true) : err z y n m k = 2 := by
  unfold err; rw [if_neg (by omega)]
  by_cases g : anyB (fun x => !mom x) z n = true
  · rw [if_pos g]
  · rw [if_neg g, if_pos h]
theorem err_k {z y : Nat → Int} {n m : Nat} {k : Int} (h1 : n ≤ 50) (h2 : m ≤ 50) (h : k < 0 ∨ 86400 < k) : err z y n m k = 2 := by
  unfold err; rw [if_neg (by omega)]
  by_cases g : anyB (fun x => !mom x) z n = true
  · rw [if_pos g]
  · rw [if_neg g]
    by_cases g' : anyB (fun x => !mom x) y m = true
    · rw [if_pos g']
    · rw [if_neg g', if_neg (by omega)]
theorem err_ok {z y : Nat → Int} {n m : Nat} {k : Int} (h1 : n ≤ 50) (h2 : m ≤ 50) (ha : anyB (fun x => !mom x) z n = false) (hb : anyB (fun x => !mom x) y m = false) (h3 : 0 ≤ k) (h4 : k ≤ 86400) : err z y n m k = 0 := by
  unfold err; rw [if_neg (by omega), if_neg (by rw [ha]; exact Bool.false_ne_true), if_neg (by rw [hb]; exact Bool.false_ne_true), if_pos ⟨h3, h4⟩]
theorem err_zero {z y : Nat → Int} {n m : Nat} {k : Int} (h : err z y n m k = 0) : n ≤ 50 ∧ m ≤ 50 ∧ (∀ i, i < n → mom (z i) = true) ∧ (∀ i, i < m → mom (y i) = true) ∧ 0 ≤ k ∧ k ≤ 86400 := by
  unfold err at h
  split at h
  · omega
  · split at h
    · omega
    · split at h
      · omega
      · split at h
        · rename_i h1 h2 h3 h4
          refine ⟨by omega, by omega, fun i hi => ?_, fun i hi => ?_, h4.1, h4.2⟩
          · have := anyB_none (p := fun x => !mom x) (by simpa using h2) i hi; simpa using this
          · have := anyB_none (p := fun x => !mom x) (by simpa using h3) i hi; simpa using this
        · omega
theorem err_two {z y : Nat → Int} {n m : Nat} {k : Int} : err z y n m k = 0 ∨ err z y n m k = 2 ∨ err z y n m k = 4 := by
  unfold err; repeat' split
  all_goals simp
end Go.Proofs.YtngbaljmlbdfkaaGreatDoor.Ev
