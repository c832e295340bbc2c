/- How many bits of a number are set, as math/bits counts them. -/
namespace Go.Proofs.Ytbbedepojogfmaa.Pop
/-- f of each of the n lowest bytes of x. -/
def mapD (f : Nat → Nat) : Nat → Nat → Nat
  | 0, _ => 0
  | n + 1, x => f (x % 256) + 256 * mapD f n (x / 256)
/-- The byte c, n times. -/
def rep (c : Nat) : Nat → Nat
  | 0 => 0
  | n + 1 => c + 256 * rep c n
/-- The bits of the n lowest places. -/
def pop : Nat → Nat → Nat
  | 0, _ => 0
  | n + 1, x => x % 2 + pop n (x / 2)
theorem and_split (x y : Nat) : x &&& y = ((x % 256) &&& (y % 256)) + 256 * ((x / 256) &&& (y / 256)) := by
  have h1 : (x &&& y) % 2 ^ 8 = (x % 2 ^ 8) &&& (y % 2 ^ 8) := Nat.and_mod_two_pow
  have h2 : (x &&& y) / 2 ^ 8 = (x / 2 ^ 8) &&& (y / 2 ^ 8) := Nat.and_div_two_pow
  have := Nat.mod_add_div (x &&& y) (2 ^ 8)
  rw [h1, h2] at this
  exact this.symm
theorem and_mask (c : Nat) (hc : c < 256) (n x : Nat) : x &&& rep c n = mapD (fun v => v &&& c) n x := by
  induction n generalizing x with
  | zero => simp [rep, mapD]
  | succ n ih =>
    rw [and_split, rep, mapD, show (c + 256 * rep c n) % 256 = c by omega, show (c + 256 * rep c n) / 256 = rep c n by omega, ih]
theorem mapD_congr {f g : Nat → Nat} (h : ∀ v, v < 256 → f v = g v) (n x : Nat) : mapD f n x = mapD g n x := by
  induction n generalizing x with
  | zero => rfl
  | succ n ih => rw [mapD, mapD, ih, h _ (Nat.mod_lt _ (by omega))]
theorem mapD_add (f g : Nat → Nat) (n x : Nat) : mapD f n x + mapD g n x = mapD (fun v => f v + g v) n x := by
  induction n generalizing x with
  | zero => rfl
  | succ n ih => simp only [mapD, ← ih]; omega
theorem mapD_comp {f g : Nat → Nat} (hg : ∀ v, v < 256 → g v < 256) (n x : Nat) : mapD f n (mapD g n x) = mapD (fun v => f (g v)) n x := by
  induction n generalizing x with
  | zero => rfl
  | succ n ih =>
    have := hg (x % 256) (Nat.mod_lt _ (by omega))
    rw [mapD, mapD, mapD, show (g (x % 256) + 256 * mapD g n (x / 256)) % 256 = g (x % 256) by omega, show (g (x % 256) + 256 * mapD g n (x / 256)) / 256 = mapD g n (x / 256) by omega, ih]
theorem mapD_le {f : Nat → Nat} {B : Nat} (hf : ∀ v, v < 256 → f v ≤ B) (n x : Nat) : mapD f n x ≤ B * rep 1 n := by
  induction n generalizing x with
  | zero => simp [mapD]
  | succ n ih =>
    have h1 := hf (x % 256) (Nat.mod_lt _ (by omega))
    have h2 := ih (x / 256)
    have h3 : B * rep 1 (n + 1) = B + 256 * (B * rep 1 n) := by rw [rep, Nat.mul_add, Nat.mul_one, Nat.mul_left_comm]
    rw [mapD, h3]; omega
theorem half_mask (n x : Nat) : x / 2 &&& rep 85 n = mapD (fun v => v / 2 &&& 85) n x := by
  rw [and_mask 85 (by omega)]
  have hd : ∀ v < 256, ∀ b < 2, (v / 2 + 128 * b) &&& 85 = v / 2 &&& 85 := by decide +kernel
  induction n generalizing x with
  | zero => rfl
  | succ n ih =>
    have e1 : x / 2 % 256 = x % 256 / 2 + 128 * (x / 256 % 2) := by omega
    have e2 : x / 2 / 256 = x / 256 / 2 := by omega
    rw [mapD, mapD, e2, ih]
    simp only [e1, hd (x % 256) (Nat.mod_lt _ (by omega)) (x / 256 % 2) (Nat.mod_lt _ (by omega))]
theorem quarter_mask (n x : Nat) : x / 4 &&& rep 51 n = mapD (fun v => v / 4 &&& 51) n x := by
  rw [and_mask 51 (by omega)]
  have hd : ∀ v < 256, ∀ b < 4, (v / 4 + 64 * b) &&& 51 = v / 4 &&& 51 := by decide +kernel
  induction n generalizing x with
  | zero => rfl
  | succ n ih =>
    have e1 : x / 4 % 256 = x % 256 / 4 + 64 * (x / 256 % 4) := by omega
    have e2 : x / 4 / 256 = x / 256 / 4 := by omega
    rw [mapD, mapD, e2, ih]
    simp only [e1, hd (x % 256) (Nat.mod_lt _ (by omega)) (x / 256 % 4) (Nat.mod_lt _ (by omega))]
def s1 (v : Nat) : Nat := (v / 2 &&& 85) + (v &&& 85)
def s2 (v : Nat) : Nat := (s1 v / 4 &&& 51) + (s1 v &&& 51)
def s3 (v : Nat) : Nat := (s2 v / 16 + s2 v) % 16
theorem s1_lt : ∀ v, v < 256 → s1 v < 256 := by decide +kernel
theorem s2_lt : ∀ v, v < 256 → s2 v ≤ 68 ∧ s2 v % 16 ≤ 4 := by decide +kernel
theorem s3_pop : ∀ v, v < 256 → s3 v = pop 8 v := by decide +kernel
theorem s3_le : ∀ v, v < 256 → s3 v ≤ 8 := by decide +kernel
theorem step1 (n x : Nat) : (x / 2 &&& rep 85 n) + (x &&& rep 85 n) = mapD s1 n x := by
  rw [half_mask, and_mask 85 (by omega), mapD_add]; rfl
theorem step2 (n x : Nat) : (mapD s1 n x / 4 &&& rep 51 n) + (mapD s1 n x &&& rep 51 n) = mapD s2 n x := by
  rw [quarter_mask, and_mask 51 (by omega), mapD_add, mapD_comp s1_lt]; rfl
theorem low_nibble (n x : Nat) : mapD s2 n x % 16 ≤ 4 := by
  cases n with
  | zero => simp [mapD]
  | succ n =>
    have := s2_lt (x % 256) (Nat.mod_lt _ (by omega))
    rw [mapD]; omega
theorem step3 (n x : Nat) : (mapD s2 n x / 16 + mapD s2 n x) &&& rep 15 n = mapD s3 n x := by
  induction n generalizing x with
  | zero => simp [rep, mapD]
  | succ n ih =>
    have h1 := s2_lt (x % 256) (Nat.mod_lt _ (by omega))
    have h2 := low_nibble n (x / 256)
    have e1 : (mapD s2 (n + 1) x / 16 + mapD s2 (n + 1) x) % 256 = s2 (x % 256) / 16 + s2 (x % 256) + 16 * (mapD s2 n (x / 256) % 16) := by rw [mapD]; omega
    have e2 : (mapD s2 (n + 1) x / 16 + mapD s2 (n + 1) x) / 256 = mapD s2 n (x / 256) / 16 + mapD s2 n (x / 256) := by rw [mapD]; omega
    rw [and_split, e1, e2, rep, show (15 + 256 * rep 15 n) % 256 = 15 by omega, show (15 + 256 * rep 15 n) / 256 = rep 15 n by omega, ih]
    have e3 : ∀ m, m &&& 15 = m % 16 := fun m => Nat.and_two_pow_sub_one_eq_mod m 4
    rw [e3, mapD]
    unfold s3
    omega
theorem pop_add (m n x : Nat) : pop (m + n) x = pop m x + pop n (x / 2 ^ m) := by
  induction m generalizing x with
  | zero => simp [pop]
  | succ m ih =>
    rw [show m + 1 + n = (m + n) + 1 by omega, pop, pop, ih, Nat.div_div_eq_div_mul, Nat.pow_succ, Nat.mul_comm 2]
    omega
theorem pop_mod (n x : Nat) : pop n (x % 2 ^ n) = pop n x := by
  induction n generalizing x with
  | zero => rfl
  | succ n ih =>
    have e1 : x % 2 ^ (n + 1) % 2 = x % 2 := Nat.mod_mod_of_dvd _ ⟨2 ^ n, by rw [Nat.pow_succ, Nat.mul_comm]⟩
    have e2 : x % 2 ^ (n + 1) / 2 = x / 2 % 2 ^ n := by rw [Nat.pow_succ, Nat.mul_comm]; exact Nat.mod_mul_right_div_self x 2 (2 ^ n)
    rw [pop, pop, e1, e2, ih]
theorem div_of_split {l m h : Nat} (hl : l < m) : (l + m * h) / m = h := by
  rw [Nat.add_mul_div_left _ _ (by omega), Nat.div_eq_of_lt hl, Nat.zero_add]
set_option linter.unusedVariables false
theorem q_a {q0 q1 q2 q3 q4 q5 q6 q7 : Nat} (p0 : q0 ≤ 8) (p1 : q1 ≤ 8) (p2 : q2 ≤ 8) (p3 : q3 ≤ 8) (p4 : q4 ≤ 8) (p5 : q5 ≤ 8) (p6 : q6 ≤ 8) (p7 : q7 ≤ 8) : (q0 + 256 * (q1 + 256 * (q2 + 256 * (q3 + 256 * (q4 + 256 * (q5 + 256 * (q6 + 256 * (q7)))))))) / 256 = q1 + 256 * (q2 + 256 * (q3 + 256 * (q4 + 256 * (q5 + 256 * (q6 + 256 * (q7)))))) := by
  have h : q0 + 256 * (q1 + 256 * (q2 + 256 * (q3 + 256 * (q4 + 256 * (q5 + 256 * (q6 + 256 * (q7))))))) = (q0) + 256 * (q1 + 256 * (q2 + 256 * (q3 + 256 * (q4 + 256 * (q5 + 256 * (q6 + 256 * (q7))))))) := by omega
  have hl : q0 < 256 := by omega
  rw [h]; exact div_of_split hl
theorem q_b {q0 q1 q2 q3 q4 q5 q6 q7 : Nat} (p0 : q0 ≤ 8) (p1 : q1 ≤ 8) (p2 : q2 ≤ 8) (p3 : q3 ≤ 8) (p4 : q4 ≤ 8) (p5 : q5 ≤ 8) (p6 : q6 ≤ 8) (p7 : q7 ≤ 8) : ((q0 + q1) + 256 * ((q1 + q2) + 256 * ((q2 + q3) + 256 * ((q3 + q4) + 256 * ((q4 + q5) + 256 * ((q5 + q6) + 256 * ((q6 + q7) + 256 * ((q7))))))))) / 65536 = (q2 + q3) + 256 * ((q3 + q4) + 256 * ((q4 + q5) + 256 * ((q5 + q6) + 256 * ((q6 + q7) + 256 * ((q7)))))) := by
  have h : (q0 + q1) + 256 * ((q1 + q2) + 256 * ((q2 + q3) + 256 * ((q3 + q4) + 256 * ((q4 + q5) + 256 * ((q5 + q6) + 256 * ((q6 + q7) + 256 * ((q7)))))))) = ((q0 + q1) + 256 * (q1 + q2)) + 65536 * ((q2 + q3) + 256 * ((q3 + q4) + 256 * ((q4 + q5) + 256 * ((q5 + q6) + 256 * ((q6 + q7) + 256 * ((q7))))))) := by omega
  have hl : (q0 + q1) + 256 * (q1 + q2) < 65536 := by omega
  rw [h]; exact div_of_split hl
theorem q_c {q0 q1 q2 q3 q4 q5 q6 q7 : Nat} (p0 : q0 ≤ 8) (p1 : q1 ≤ 8) (p2 : q2 ≤ 8) (p3 : q3 ≤ 8) (p4 : q4 ≤ 8) (p5 : q5 ≤ 8) (p6 : q6 ≤ 8) (p7 : q7 ≤ 8) : ((q0 + q1 + q2 + q3) + 256 * ((q1 + q2 + q3 + q4) + 256 * ((q2 + q3 + q4 + q5) + 256 * ((q3 + q4 + q5 + q6) + 256 * ((q4 + q5 + q6 + q7) + 256 * ((q5 + q6 + q7) + 256 * ((q6 + q7) + 256 * ((q7))))))))) / 4294967296 = (q4 + q5 + q6 + q7) + 256 * ((q5 + q6 + q7) + 256 * ((q6 + q7) + 256 * ((q7)))) := by
  have h : (q0 + q1 + q2 + q3) + 256 * ((q1 + q2 + q3 + q4) + 256 * ((q2 + q3 + q4 + q5) + 256 * ((q3 + q4 + q5 + q6) + 256 * ((q4 + q5 + q6 + q7) + 256 * ((q5 + q6 + q7) + 256 * ((q6 + q7) + 256 * ((q7)))))))) = ((q0 + q1 + q2 + q3) + 256 * ((q1 + q2 + q3 + q4) + 256 * ((q2 + q3 + q4 + q5) + 256 * ((q3 + q4 + q5 + q6))))) + 4294967296 * ((q4 + q5 + q6 + q7) + 256 * ((q5 + q6 + q7) + 256 * ((q6 + q7) + 256 * ((q7))))) := by omega
  have hl : (q0 + q1 + q2 + q3) + 256 * ((q1 + q2 + q3 + q4) + 256 * ((q2 + q3 + q4 + q5) + 256 * ((q3 + q4 + q5 + q6)))) < 4294967296 := by omega
  rw [h]; exact div_of_split hl
theorem q_bd {q0 q1 q2 q3 q4 q5 q6 q7 : Nat} (p0 : q0 ≤ 8) (p1 : q1 ≤ 8) (p2 : q2 ≤ 8) (p3 : q3 ≤ 8) (p4 : q4 ≤ 8) (p5 : q5 ≤ 8) (p6 : q6 ≤ 8) (p7 : q7 ≤ 8) : q0 + 256 * (q1 + 256 * (q2 + 256 * (q3 + 256 * (q4 + 256 * (q5 + 256 * (q6 + 256 * (q7))))))) < 578721382704613385 ∧ (q0 + q1) + 256 * ((q1 + q2) + 256 * ((q2 + q3) + 256 * ((q3 + q4) + 256 * ((q4 + q5) + 256 * ((q5 + q6) + 256 * ((q6 + q7) + 256 * ((q7)))))))) < 18446744073709551616 ∧ (q0 + q1 + q2 + q3) + 256 * ((q1 + q2 + q3 + q4) + 256 * ((q2 + q3 + q4 + q5) + 256 * ((q3 + q4 + q5 + q6) + 256 * ((q4 + q5 + q6 + q7) + 256 * ((q5 + q6 + q7) + 256 * ((q6 + q7) + 256 * ((q7)))))))) < 18446744073709551616 ∧ ((q0 + q1 + q2 + q3) + 256 * ((q1 + q2 + q3 + q4) + 256 * ((q2 + q3 + q4 + q5) + 256 * ((q3 + q4 + q5 + q6) + 256 * ((q4 + q5 + q6 + q7) + 256 * ((q5 + q6 + q7) + 256 * ((q6 + q7) + 256 * ((q7))))))))) + ((q4 + q5 + q6 + q7) + 256 * ((q5 + q6 + q7) + 256 * ((q6 + q7) + 256 * ((q7))))) < 9223372036854775808 := by omega
theorem q_ab {q0 q1 q2 q3 q4 q5 q6 q7 : Nat} : (q0 + 256 * (q1 + 256 * (q2 + 256 * (q3 + 256 * (q4 + 256 * (q5 + 256 * (q6 + 256 * (q7)))))))) + (q1 + 256 * (q2 + 256 * (q3 + 256 * (q4 + 256 * (q5 + 256 * (q6 + 256 * (q7))))))) = (q0 + q1) + 256 * ((q1 + q2) + 256 * ((q2 + q3) + 256 * ((q3 + q4) + 256 * ((q4 + q5) + 256 * ((q5 + q6) + 256 * ((q6 + q7) + 256 * ((q7)))))))) := by omega
theorem q_bc {q0 q1 q2 q3 q4 q5 q6 q7 : Nat} : ((q0 + q1) + 256 * ((q1 + q2) + 256 * ((q2 + q3) + 256 * ((q3 + q4) + 256 * ((q4 + q5) + 256 * ((q5 + q6) + 256 * ((q6 + q7) + 256 * ((q7))))))))) + ((q2 + q3) + 256 * ((q3 + q4) + 256 * ((q4 + q5) + 256 * ((q5 + q6) + 256 * ((q6 + q7) + 256 * ((q7))))))) = (q0 + q1 + q2 + q3) + 256 * ((q1 + q2 + q3 + q4) + 256 * ((q2 + q3 + q4 + q5) + 256 * ((q3 + q4 + q5 + q6) + 256 * ((q4 + q5 + q6 + q7) + 256 * ((q5 + q6 + q7) + 256 * ((q6 + q7) + 256 * ((q7)))))))) := by omega
theorem q_cd {q0 q1 q2 q3 q4 q5 q6 q7 : Nat} (p0 : q0 ≤ 8) (p1 : q1 ≤ 8) (p2 : q2 ≤ 8) (p3 : q3 ≤ 8) (p4 : q4 ≤ 8) (p5 : q5 ≤ 8) (p6 : q6 ≤ 8) (p7 : q7 ≤ 8) : (((q0 + q1 + q2 + q3) + 256 * ((q1 + q2 + q3 + q4) + 256 * ((q2 + q3 + q4 + q5) + 256 * ((q3 + q4 + q5 + q6) + 256 * ((q4 + q5 + q6 + q7) + 256 * ((q5 + q6 + q7) + 256 * ((q6 + q7) + 256 * ((q7))))))))) + ((q4 + q5 + q6 + q7) + 256 * ((q5 + q6 + q7) + 256 * ((q6 + q7) + 256 * ((q7)))))) % 128 = q0 + (q1 + (q2 + (q3 + (q4 + (q5 + (q6 + q7)))))) := by
  have h : ((q0 + q1 + q2 + q3) + 256 * ((q1 + q2 + q3 + q4) + 256 * ((q2 + q3 + q4 + q5) + 256 * ((q3 + q4 + q5 + q6) + 256 * ((q4 + q5 + q6 + q7) + 256 * ((q5 + q6 + q7) + 256 * ((q6 + q7) + 256 * ((q7))))))))) + ((q4 + q5 + q6 + q7) + 256 * ((q5 + q6 + q7) + 256 * ((q6 + q7) + 256 * ((q7))))) = (q0 + (q1 + (q2 + (q3 + (q4 + (q5 + (q6 + q7))))))) + 256 * ((q1 + q2 + q3 + q4) + 256 * ((q2 + q3 + q4 + q5) + 256 * ((q3 + q4 + q5 + q6) + 256 * ((q4 + q5 + q6 + q7) + 256 * ((q5 + q6 + q7) + 256 * ((q6 + q7) + 256 * ((q7))))))) + ((q5 + q6 + q7) + 256 * ((q6 + q7) + 256 * ((q7))))) := by omega
  rw [h]; clear h; omega
/-- The eight bytes' counts, and the sum. -/
theorem mapD_sum (x : Nat) (a b c d : Nat) (ha : a = mapD s3 8 x) (hb : b = a + a / 256) (hc : c = b + b / 65536) (hd : d = c + c / 4294967296) :
    d % 128 = pop 64 x ∧ a < 578721382704613385 ∧ b < 18446744073709551616 ∧ c < 18446744073709551616 ∧ d < 9223372036854775808 := by
  have p0 := s3_le (x % 256) (Nat.mod_lt _ (by omega))
  have p1 := s3_le (x / 256 % 256) (Nat.mod_lt _ (by omega))
  have p2 := s3_le (x / 256 / 256 % 256) (Nat.mod_lt _ (by omega))
  have p3 := s3_le (x / 256 / 256 / 256 % 256) (Nat.mod_lt _ (by omega))
  have p4 := s3_le (x / 256 / 256 / 256 / 256 % 256) (Nat.mod_lt _ (by omega))
  have p5 := s3_le (x / 256 / 256 / 256 / 256 / 256 % 256) (Nat.mod_lt _ (by omega))
  have p6 := s3_le (x / 256 / 256 / 256 / 256 / 256 / 256 % 256) (Nat.mod_lt _ (by omega))
  have p7 := s3_le (x / 256 / 256 / 256 / 256 / 256 / 256 / 256 % 256) (Nat.mod_lt _ (by omega))
  have hp : pop 64 x = s3 (x % 256) + (s3 (x / 256 % 256) + (s3 (x / 256 / 256 % 256) + (s3 (x / 256 / 256 / 256 % 256) + (s3 (x / 256 / 256 / 256 / 256 % 256) + (s3 (x / 256 / 256 / 256 / 256 / 256 % 256) + (s3 (x / 256 / 256 / 256 / 256 / 256 / 256 % 256) + s3 (x / 256 / 256 / 256 / 256 / 256 / 256 / 256 % 256))))))) := by
    have e : ∀ y, pop 8 y = s3 (y % 256) := fun y => by rw [s3_pop _ (Nat.mod_lt _ (by omega))]; exact (pop_mod 8 y).symm
    rw [show (64 : Nat) = 8 + (8 + (8 + (8 + (8 + (8 + (8 + 8)))))) from rfl]
    simp only [pop_add, e]
  simp only [mapD, Nat.mul_zero, Nat.add_zero] at ha
  rw [hp]
  generalize s3 (x % 256) = q0 at *
  generalize s3 (x / 256 % 256) = q1 at *
  generalize s3 (x / 256 / 256 % 256) = q2 at *
  generalize s3 (x / 256 / 256 / 256 % 256) = q3 at *
  generalize s3 (x / 256 / 256 / 256 / 256 % 256) = q4 at *
  generalize s3 (x / 256 / 256 / 256 / 256 / 256 % 256) = q5 at *
  generalize s3 (x / 256 / 256 / 256 / 256 / 256 / 256 % 256) = q6 at *
  generalize s3 (x / 256 / 256 / 256 / 256 / 256 / 256 / 256 % 256) = q7 at *
  rw [ha, q_a p0 p1 p2 p3 p4 p5 p6 p7, q_ab] at hb
  rw [hb, q_b p0 p1 p2 p3 p4 p5 p6 p7, q_bc] at hc
  rw [hc, q_c p0 p1 p2 p3 p4 p5 p6 p7] at hd
  rw [ha, hb, hc, hd]
  exact ⟨q_cd p0 p1 p2 p3 p4 p5 p6 p7, q_bd p0 p1 p2 p3 p4 p5 p6 p7⟩
end Go.Proofs.Ytbbedepojogfmaa.Pop
