/- slices.Equal of integers, strings and places. -/
import Derived.Laws.StructEq
import Derived.Test.YtipmegkmkbbklaaFdPh
namespace Go.Proofs.Ytipmegkmkbbklaa
open Go.RowKit Go.Sort Go.Shelf
set_option linter.unusedVariables false
/-- Two rows of one length, equal at each place. -/
def Fd.eqRow (n m : Nat) (eq : Nat → Bool) : Bool := decide (n = m ∧ ∀ i, i < n → eq i = true)
theorem Fd.eqRow_self (n : Nat) (eq : Nat → Bool) (h : ∀ i, eq i = true) : Fd.eqRow n n eq = true := decide_eq_true ⟨rfl, fun i _ => h i⟩
theorem Fd.eqRow_len {n m : Nat} {eq : Nat → Bool} (h : n ≠ m) : Fd.eqRow n m eq = false := decide_eq_false fun g => h g.1
theorem Fd.eqRow_no {n : Nat} {eq : Nat → Bool} (i : Nat) (hi : i < n) (h : eq i = false) : Fd.eqRow n n eq = false := decide_eq_false fun g => by have := g.2 i hi; rw [h] at this; cases this
theorem Fd.eqRow_yes {n : Nat} {eq : Nat → Bool} (h : ∀ i, i < n → eq i = true) : Fd.eqRow n n eq = true := decide_eq_true ⟨rfl, h⟩
theorem Fd.eq_next {eq : Nat → Bool} {j : Nat} (h : ∀ i, i < j → eq i = true) (g : eq j = true) : ∀ i, i < j + 1 → eq i = true := by
  intro i hi; by_cases e : i = j
  · subst e; exact g
  · exact h i (by omega)
theorem nePlace (a b a' b' : Int) (w : World) : Sem.run Try.prog (binOp .neq 71 (.agg #[.int .i64 a, .int .i64 b]) (.agg #[.int .i64 a', .int .i64 b'])) w = .ok (.bool (!(a == a' && b == b'))) w := by
  have u3 := Try.underlying3
  have a3 := Try.isAgg3
  have z3 := Try.sizeOf3
  have hS : Try.prog.underlying 71 = some (.struct (Try.prog.fieldsOf 71)) := by kernel_rfl
  have hp : Try.prog.stoodInHeld 71 = false := by kernel_rfl
  rw [run_neq_struct, show (10000 : Nat) = 9999 + 1 from rfl, run_equalIn_agg w 9999 71 _ _ hS hp]
  simp only [Program.fieldsOf, Try.underlying71]
  go_simp
  by_cases h1 : a = a' <;> by_cases h2 : b = b' <;> simp [h1, h2]
theorem guardPlace : Try.prog.eqGuardType Try.prog.depth 71 = false := by kernel_rfl
set_option maxRecDepth 100000 in
set_option maxHeartbeats 2000000 in
theorem eqInts_is (a : Option Addr) (n ca : Nat) (f : Nat → Int) (b : Option Addr) (m cb : Nat) (g : Nat → Int) (w : World) (hx : Row w a n (fun i => .int .i64 (f i))) (hy : Row w b m (fun i => .int .i64 (g i))) (hn : n ≤ 9223372036854775807) (hm : m ≤ 9223372036854775807) (eq : Nat → Bool) (heq : ∀ i, eq i = (f i == g i)) :
    Calls Try.prog 23 #[.slice a n ca, .slice b m cb] w fun e w' => e = .returned (.bool (Fd.eqRow n m eq)) ∧ Below w.heap.size w w' := by
  by_cases hl : n = m
  · subst hl
    have hl' : ((n : Int) == (n : Int)) = true := by simp
    obtain ⟨q, hq⟩ : ∃ q, Fd.eqRow n n eq = q := ⟨_, rfl⟩
    rw [hq]
    have HX := Lib.hid hx; have HY := Lib.hid hy; have HQ := Lib.hid hq; have HE := Lib.hid heq
    clear hx hy hq heq
    go_enter Try.func23, Try.ntmps23
    go_wp2_with fail
    go_loopg [13] n (fun gk i wr => ∃ j : Nat, j ≤ n ∧ gk = n - j ∧ i = .int .i64 j ∧ (∀ i, i < j → eq i = true) ∧ Below w.heap.size w wr)
    case atStart => exact ⟨0, by omega, rfl, rfl, fun i hi => by omega, Below.refl _ _⟩
    case round =>
      obtain ⟨j, hj, rfl, rfl, hall, hB⟩ := hrel
      have HALL := Lib.hid hall; clear hall
      by_cases hlt : j < n
      · obtain ⟨b1, o1, rfl, hb1, hc1⟩ := HX.out.keep hB (by omega)
        obtain ⟨b2, o2, rfl, hb2, hc2⟩ := HY.out.keep hB (by omega)
        have c1 : wr.cell? ⟨b1, o1 + j, none⟩ = some (.int .i64 (f j)) := hc1 j hlt
        have c2 : wr.cell? ⟨b2, o2 + j, none⟩ = some (.int .i64 (g j)) := hc2 j hlt
        have hj0 : (0 : Int) ≤ (j : Int) := by omega
        have hj1 : (j : Int) < (n : Int) := by omega
        clear hc1 hc2
        cases he : (f j == g j)
        · have he2 : (f j != g j) = true := by simpa using he
          have HN : Hid (q = false) := by have h1 := HQ.out; rw [Fd.eqRow_no j hlt (by rw [HE.out]; exact he)] at h1; exact Lib.hid h1.symm
          go_wp2_with fail
          go_quiet (fail)
          go_wp2_with fail
          go_ret
          exact ⟨ret_bool HN.out.symm, below_drewN hB _⟩
        · have he2 : (f j != g j) = false := by simpa using he
          have HN := Lib.hid (Fd.eq_next HALL.out (by rw [HE.out]; exact he))
          go_wp2_with fail
          go_quiet (fail)
          go_wp2_with fail
          go_roundg (n - (j + 1))
          case rel => exact ⟨j + 1, by omega, rfl, by go_num, HN.out, below_drewN hB _⟩
          case measure => omega
      · obtain rfl : j = n := by omega
        have HN : Hid (q = true) := by have h1 := HQ.out; rw [Fd.eqRow_yes HALL.out] at h1; exact Lib.hid h1.symm
        go_wp2_with fail
        go_ret
        exact ⟨ret_bool HN.out.symm, hB⟩
  · -- lengths that differ; slices.Equal[[]int,int]: the function
    have hl' : ((n : Int) == (m : Int)) = false := by simp; omega
    have hl2 : ((n : Int) != (m : Int)) = true := by simp; omega
    rw [Fd.eqRow_len hl]
    clear hl
    go_enter Try.func23, Try.ntmps23
    go_wp2_with fail
    go_ret
    exact ⟨rfl, Below.refl _ _⟩
set_option maxRecDepth 100000 in
set_option maxHeartbeats 2000000 in
theorem eqStrings_is (a : Option Addr) (n ca : Nat) (f : Nat → ByteArray) (b : Option Addr) (m cb : Nat) (g : Nat → ByteArray) (w : World) (hx : Row w a n (fun i => .string (f i))) (hy : Row w b m (fun i => .string (g i))) (hn : n ≤ 9223372036854775807) (hm : m ≤ 9223372036854775807) (eq : Nat → Bool) (heq : ∀ i, eq i = ((f i).toList == (g i).toList)) :
    Calls Try.prog 35 #[.slice a n ca, .slice b m cb] w fun e w' => e = .returned (.bool (Fd.eqRow n m eq)) ∧ Below w.heap.size w w' := by
  by_cases hl : n = m
  · subst hl
    have hl' : ((n : Int) == (n : Int)) = true := by simp
    obtain ⟨q, hq⟩ : ∃ q, Fd.eqRow n n eq = q := ⟨_, rfl⟩
    rw [hq]
    have HX := Lib.hid hx; have HY := Lib.hid hy; have HQ := Lib.hid hq; have HE := Lib.hid heq
    clear hx hy hq heq
    go_enter Try.func35, Try.ntmps35
    go_wp2_with fail
    go_loopg [13] n (fun gk i wr => ∃ j : Nat, j ≤ n ∧ gk = n - j ∧ i = .int .i64 j ∧ (∀ i, i < j → eq i = true) ∧ Below w.heap.size w wr)
    case atStart => exact ⟨0, by omega, rfl, rfl, fun i hi => by omega, Below.refl _ _⟩
    case round =>
      obtain ⟨j, hj, rfl, rfl, hall, hB⟩ := hrel
      have HALL := Lib.hid hall; clear hall
      by_cases hlt : j < n
      · obtain ⟨b1, o1, rfl, hb1, hc1⟩ := HX.out.keep hB (by omega)
        obtain ⟨b2, o2, rfl, hb2, hc2⟩ := HY.out.keep hB (by omega)
        have c1 : wr.cell? ⟨b1, o1 + j, none⟩ = some (.string (f j)) := hc1 j hlt
        have c2 : wr.cell? ⟨b2, o2 + j, none⟩ = some (.string (g j)) := hc2 j hlt
        have hj0 : (0 : Int) ≤ (j : Int) := by omega
        have hj1 : (j : Int) < (n : Int) := by omega
        clear hc1 hc2
        cases he : ((f j).toList == (g j).toList)
        · have HN : Hid (q = false) := by have h1 := HQ.out; rw [Fd.eqRow_no j hlt (by rw [HE.out]; exact he)] at h1; exact Lib.hid h1.symm
          go_wp2_with fail
          go_quiet (fail)
          go_wp2_with fail
          go_ret
          exact ⟨ret_bool HN.out.symm, below_drewN hB _⟩
        · have HN := Lib.hid (Fd.eq_next HALL.out (by rw [HE.out]; exact he))
          go_wp2_with fail
          go_quiet (fail)
          go_wp2_with fail
          go_roundg (n - (j + 1))
          case rel => exact ⟨j + 1, by omega, rfl, by go_num, HN.out, below_drewN hB _⟩
          case measure => omega
      · obtain rfl : j = n := by omega
        have HN : Hid (q = true) := by have h1 := HQ.out; rw [Fd.eqRow_yes HALL.out] at h1; exact Lib.hid h1.symm
        go_wp2_with fail
        go_ret
        exact ⟨ret_bool HN.out.symm, hB⟩
  · -- lengths that differ; slices.Equal[[]string,string]: the function
    have hl' : ((n : Int) == (m : Int)) = false := by simp; omega
    have hl2 : ((n : Int) != (m : Int)) = true := by simp; omega
    rw [Fd.eqRow_len hl]
    clear hl
    go_enter Try.func35, Try.ntmps35
    go_wp2_with fail
    go_ret
    exact ⟨rfl, Below.refl _ _⟩
set_option maxRecDepth 100000 in
set_option maxHeartbeats 2000000 in
theorem eqPlaces_is (a : Option Addr) (n ca : Nat) (f f2 : Nat → Int) (b : Option Addr) (m cb : Nat) (g g2 : Nat → Int) (w : World) (hx : Row2 w a n (fun i => .int .i64 (f i)) (fun i => .int .i64 (f2 i))) (hy : Row2 w b m (fun i => .int .i64 (g i)) (fun i => .int .i64 (g2 i))) (hn : n ≤ 9223372036854775807) (hm : m ≤ 9223372036854775807) (eq : Nat → Bool) (heq : ∀ i, eq i = (f i == g i && f2 i == g2 i)) :
    Calls Try.prog 34 #[.slice a n ca, .slice b m cb] w fun e w' => e = .returned (.bool (Fd.eqRow n m eq)) ∧ Below w.heap.size w w' := by
  by_cases hl : n = m
  · subst hl
    have hl' : ((n : Int) == (n : Int)) = true := by simp
    obtain ⟨q, hq⟩ : ∃ q, Fd.eqRow n n eq = q := ⟨_, rfl⟩
    rw [hq]
    have HX := Lib.hid hx; have HY := Lib.hid hy; have HQ := Lib.hid hq; have HE := Lib.hid heq
    clear hx hy hq heq
    go_enter Try.func34, Try.ntmps34
    go_wp2_with fail
    go_loopg [13] n (fun gk i wr => ∃ j : Nat, j ≤ n ∧ gk = n - j ∧ i = .int .i64 j ∧ (∀ i, i < j → eq i = true) ∧ Below w.heap.size w wr)
    case atStart => exact ⟨0, by omega, rfl, rfl, fun i hi => by omega, Below.refl _ _⟩
    case round =>
      obtain ⟨j, hj, rfl, rfl, hall, hB⟩ := hrel
      have HALL := Lib.hid hall; clear hall
      by_cases hlt : j < n
      · obtain ⟨b1, o1, rfl, hb1, hc1⟩ := HX.out.keep hB (by omega)
        obtain ⟨b2, o2, rfl, hb2, hc2⟩ := HY.out.keep hB (by omega)
        obtain ⟨c1, c2⟩ := hc1 j hlt
        obtain ⟨d1, d2⟩ := hc2 j hlt
        have hj0 : (0 : Int) ≤ (j : Int) := by omega
        have hj1 : (j : Int) < (n : Int) := by omega
        have hne := nePlace (f j) (f2 j) (g j) (g2 j)
        have hgd := guardPlace
        clear hc1 hc2
        cases he : (f j == g j && f2 j == g2 j)
        · rw [he] at hne
          simp only [Bool.not_false] at hne
          have HEE := Lib.hid he; clear he
          have HN : Hid (q = false) := by have h1 := HQ.out; rw [Fd.eqRow_no j hlt (by rw [HE.out]; exact HEE.out)] at h1; exact Lib.hid h1.symm
          go_wp2_with fail
          go_quiet (fail)
          go_wp2_with fail
          go_ret
          exact ⟨ret_bool HN.out.symm, below_drewN hB _⟩
        · rw [he] at hne
          simp only [Bool.not_true] at hne
          have HEE := Lib.hid he; clear he
          have HN := Lib.hid (Fd.eq_next HALL.out (by rw [HE.out]; exact HEE.out))
          go_wp2_with fail
          go_quiet (fail)
          go_wp2_with fail
          go_roundg (n - (j + 1))
          case rel => exact ⟨j + 1, by omega, rfl, by go_num, HN.out, below_drewN hB _⟩
          case measure => omega
      · obtain rfl : j = n := by omega
        have HN : Hid (q = true) := by have h1 := HQ.out; rw [Fd.eqRow_yes HALL.out] at h1; exact Lib.hid h1.symm
        go_wp2_with fail
        go_ret
        exact ⟨ret_bool HN.out.symm, hB⟩
  · -- lengths that differ; slices.Equal[[]tintype/api.Place,tintype/api.Place]: the function
    have hl' : ((n : Int) == (m : Int)) = false := by simp; omega
    have hl2 : ((n : Int) != (m : Int)) = true := by simp; omega
    rw [Fd.eqRow_len hl]
    clear hl
    go_enter Try.func34, Try.ntmps34
    go_wp2_with fail
    go_ret
    exact ⟨rfl, Below.refl _ _⟩
end Go.Proofs.Ytipmegkmkbbklaa
