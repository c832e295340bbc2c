/- Plain mathematics of the calendar from 1900 to 2099 (no program in sight): the number of a date, that it is one to one, and the sums that the program and the reference make. -/
namespace Go.Proofs.YthldlffkgafgaaaDoor.Cal

def leapB (y : Int) : Bool := y % 4 == 0 && (y % 100 != 0 || y % 400 == 0)
def lp (y : Int) : Int := if leapB y then 1 else 0
def len (y m : Int) : Int := if m = 2 then 28 + lp y else if m = 4 ∨ m = 6 ∨ m = 9 ∨ m = 11 then 30 else 31
def bef (y : Int) : Int := 365 * (y - 1900) + (y - 1) / 4 - 474 - (y - 1) / 100 + 18 + (y - 1) / 400 - 4
def cum (y m : Int) : Int := if m ≤ 1 then 0 else if m ≤ 2 then 31 else (if m ≤ 3 then 59 else if m ≤ 4 then 90 else if m ≤ 5 then 120 else if m ≤ 6 then 151 else if m ≤ 7 then 181 else if m ≤ 8 then 212 else if m ≤ 9 then 243 else if m ≤ 10 then 273 else if m ≤ 11 then 304 else if m ≤ 12 then 334 else 365) + lp y
def num (y m d : Int) : Int := bef y + cum y m + d - 1
def vld (y m d : Int) : Bool := decide (1900 ≤ y ∧ y ≤ 2099 ∧ 1 ≤ m ∧ m ≤ 12 ∧ 1 ≤ d ∧ d ≤ len y m)

theorem vld_iff (y m d : Int) : vld y m d = true ↔ 1900 ≤ y ∧ y ≤ 2099 ∧ 1 ≤ m ∧ m ≤ 12 ∧ 1 ≤ d ∧ d ≤ len y m := by simp [vld]
theorem lp_01 (y : Int) : 0 ≤ lp y ∧ lp y ≤ 1 := by unfold lp; split <;> omega
theorem lp_eq (y : Int) : lp y = if y % 4 = 0 ∧ (y % 100 ≠ 0 ∨ y % 400 = 0) then 1 else 0 := by
  unfold lp leapB; congr 1; simp
theorem bef_1900 : bef 1900 = 0 := by decide
theorem bef_2100 : bef 2100 = 73049 := by decide
theorem bef_succ (y : Int) : bef (y + 1) = bef y + 365 + lp y := by
  rw [lp_eq]; unfold bef; split <;> omega
theorem bef_mono (a b : Int) (h : a ≤ b) : bef a + 365 * (b - a) ≤ bef b := by unfold bef; omega
theorem cum_succ (y m : Int) (h1 : 1 ≤ m) (h2 : m ≤ 12) : cum y (m + 1) = cum y m + len y m := by
  have : m = 1 ∨ m = 2 ∨ m = 3 ∨ m = 4 ∨ m = 5 ∨ m = 6 ∨ m = 7 ∨ m = 8 ∨ m = 9 ∨ m = 10 ∨ m = 11 ∨ m = 12 := by omega
  rcases this with h | h | h | h | h | h | h | h | h | h | h | h <;> subst h <;> simp [cum, len] <;> omega
theorem cum_bd (y m : Int) (h1 : 1 ≤ m) (h2 : m ≤ 13) : 0 ≤ cum y m ∧ cum y m ≤ 365 + lp y := by
  have hl := lp_01 y
  have : m = 1 ∨ m = 2 ∨ m = 3 ∨ m = 4 ∨ m = 5 ∨ m = 6 ∨ m = 7 ∨ m = 8 ∨ m = 9 ∨ m = 10 ∨ m = 11 ∨ m = 12 ∨ m = 13 := by omega
  rcases this with h | h | h | h | h | h | h | h | h | h | h | h | h <;> subst h <;> simp [cum] <;> omega
theorem cum_13 (y : Int) : cum y 13 = 365 + lp y := by simp [cum]
theorem cum_1 (y : Int) : cum y 1 = 0 := by simp [cum]
theorem len_bd (y m : Int) : 28 ≤ len y m ∧ len y m ≤ 31 := by
  have hl := lp_01 y
  unfold len; repeat' split
  all_goals omega
theorem cum_mono (y a b : Int) (h1 : 1 ≤ a) (h : a < b) (h2 : b ≤ 13) : cum y a + len y a ≤ cum y b := by
  obtain ⟨k, hk⟩ : ∃ k : Nat, b = a + 1 + k := ⟨(b - a - 1).toNat, by omega⟩
  induction k generalizing b with
  | zero => rw [hk]; simp; rw [cum_succ y a h1 (by omega)]; omega
  | succ k ih =>
    have := ih (b - 1) (by omega) (by omega) (by omega)
    have c := cum_succ y (b - 1) (by omega) (by omega)
    have l := len_bd y (b - 1)
    rw [show b - 1 + 1 = b from by omega] at c; omega
theorem num_bd (y m d : Int) (h : vld y m d = true) : 0 ≤ num y m d ∧ num y m d ≤ 73048 ∧ bef y ≤ num y m d ∧ num y m d < bef (y + 1) := by
  obtain ⟨h1, h2, h3, h4, h5, h6⟩ := (vld_iff y m d).1 h
  have hb := bef_mono 1900 y h1; rw [bef_1900] at hb
  have hb' := bef_mono (y + 1) 2100 (by omega); rw [bef_2100] at hb'
  have hs := bef_succ y
  have hc := cum_bd y m (by omega) (by omega)
  have hm := cum_mono y m 13 h3 (by omega) (by omega); rw [cum_13] at hm
  unfold num; omega
theorem num_inj (y m d y' m' d' : Int) (h : vld y m d = true) (h' : vld y' m' d' = true) (e : num y m d = num y' m' d') : y = y' ∧ m = m' ∧ d = d' := by
  have b := num_bd y m d h
  have b' := num_bd y' m' d' h'
  obtain ⟨h1, h2, h3, h4, h5, h6⟩ := (vld_iff y m d).1 h
  obtain ⟨g1, g2, g3, g4, g5, g6⟩ := (vld_iff y' m' d').1 h'
  have ey : y = y' := by
    rcases Int.lt_trichotomy y y' with c | c | c
    · have := bef_mono (y + 1) y' (by omega); omega
    · exact c
    · have := bef_mono (y' + 1) y (by omega); omega
  subst ey
  have em : m = m' := by
    rcases Int.lt_trichotomy m m' with c | c | c
    · have := cum_mono y m m' h3 c (by omega); unfold num at e; omega
    · exact c
    · have := cum_mono y m' m g3 c (by omega); unfold num at e; omega
  subst em
  unfold num at e; exact ⟨rfl, rfl, by omega⟩
end Go.Proofs.YthldlffkgafgaaaDoor.Cal
