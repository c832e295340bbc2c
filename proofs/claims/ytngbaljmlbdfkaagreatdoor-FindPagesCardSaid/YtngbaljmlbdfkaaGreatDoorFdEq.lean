/- slices.Equal of integers, strings and places. -/
import Derived.Laws.StructEq
import Derived.Test.YtngbaljmlbdfkaaGreatDoorFdPh
namespace Go.Proofs.YtngbaljmlbdfkaaGreatDoor
open Go.RowKit Go.Sort Go.Shelf
set_option linter.unusedVariables false
/-- Two rows of one length, equal at each place. -/
def Fd.eqRow (n m : Nat) (eq : Nat → Bool) : Bool := decide (n = m ∧ ∀ i, i < n → eq i = true)
theorem Fd.eqRow_self (n : Nat) (eq : Nat → Bool) (h : ∀ i, eq i = true) : Fd.eqRow n n eq = true := decide_eq_true ⟨rfl, fun i _ => h i⟩
theorem Fd.eqRow_len {n m : Nat} {eq : Nat → Bool} (h : n ≠ m) : Fd.eqRow n m eq = false := decide_eq_false fun g => h g.1
theorem Fd.eqRow_no {n : Nat} {eq : Nat → Bool} (i : Nat) (hi : i < n) (h : eq i = false) : Fd.eqRow n n eq = false := decide_eq_false fun g => by have := g.2 i hi; rw [h] at this; cases this
theorem Fd.eqRow_yes {n : Nat} {eq : Nat → Bool} (h : ∀ i, i < n → eq i = true) : Fd.eqRow n n eq = true := decide_eq_true ⟨rfl, h⟩
theorem Fd.eq_next {eq : Nat → Bool} {j : Nat} (h : ∀ i, i < j → eq i = true) (g : eq j = true) : ∀ i, i < j + 1 → eq i = true := by
  intro i hi; by_cases e : i = j
  · subst e; exact g
  · exact h i (by omega)
theorem nePlace (a b a' b' : Int) (w : World) : Sem.run Tryz.prog (binOp .neq 112 (.agg #[.int .i64 a, .int .i64 b]) (.agg #[.int .i64 a', .int .i64 b'])) w = .ok (.bool (!(a == a' && b == b'))) w := by
  have u3 := Tryz.underlying3
  have a3 := Tryz.isAgg3
  have z3 := Tryz.sizeOf3
  have hS : Tryz.prog.underlying 112 = some (.struct (Tryz.prog.fieldsOf 112)) := by kernel_rfl
  have hp : Tryz.prog.stoodInHeld 112 = false := by kernel_rfl
  rw [run_neq_struct, show (10000 : Nat) = 9999 + 1 from rfl, run_equalIn_agg w 9999 112 _ _ hS hp]
  simp only [Program.fieldsOf, Tryz.underlying112]
  go_simp
  by_cases h1 : a = a' <;> by_cases h2 : b = b' <;> simp [h1, h2]
theorem guardPlace : Tryz.prog.eqGuardType Tryz.prog.depth 112 = false := by kernel_rfl
set_option maxRecDepth 100000 in
set_option maxHeartbeats 2000000 in
theorem eqInts_is (a : Option Addr) (n ca : Nat) (f : Nat → Int) (b : Option Addr) (m cb : Nat) (g : Nat → Int) (w : World) (hx : Row w a n (fun i => .int .i64 (f i))) (hy : Row w b m (fun i => .int .i64 (g i))) (hn : n ≤ 9223372036854775807) (hm : m ≤ 9223372036854775807) (eq : Nat → Bool) (heq : ∀ i, eq i = (f i == g i)) :
    Calls Tryz.prog 11 #[.slice a n ca, .slice b m cb] w fun e w' => e = .returned (.bool (Fd.eqRow n m eq)) ∧ Below w.heap.size w w' := by
  by_cases hl : n = m
  · subst hl
    have hl' : ((n : Int) == (n : Int)) = true := by simp
    obtain ⟨q, hq⟩ : ∃ q, Fd.eqRow n n eq = q := ⟨_, rfl⟩
    rw [hq]
    have HX := Lib.hid hx; have HY := Lib.hid hy; have HQ := Lib.hid hq; have HE := Lib.hid heq
    clear hx hy hq heq
    go_enter Tryz.func11, Tryz.ntmps11
    go_wp2_with fail
    go_loopg [13] n (fun gk i wr => ∃ j : Nat, j ≤ n ∧ gk = n - j ∧ i = .int .i64 j ∧ (∀ i, i < j → eq i = true) ∧ Below w.heap.size w wr)
    case atStart => exact ⟨0, by omega, rfl, rfl, fun i hi => by omega, Below.refl _ _⟩
    case round =>
      obtain ⟨j, hj, rfl, rfl, hall, hB⟩ := hrel
      have HALL := Lib.hid hall; clear hall
      by_cases hlt : j < n
      · obtain ⟨b1, o1, rfl, hb1, hc1⟩ := HX.out.keep hB (by omega)
        obtain ⟨b2, o2, rfl, hb2, hc2⟩ := HY.out.keep hB (by omega)
        have c1 : wr.cell? ⟨b1, o1 + j, none⟩ = some (.int .i64 (f j)) := hc1 j hlt
        have c2 : wr.cell? ⟨b2, o2 + j, none⟩ = some (.int .i64 (g j)) := hc2 j hlt
        have hj0 : (0 : Int) ≤ (j : Int) := by omega
        have hj1 : (j : Int) < (n : Int) := by omega
        clear hc1 hc2
        cases he : (f j == g j)
        · have he2 : (f j != g j) = true := by simpa using he
          have HN : Hid (q = false) := by have h1 := HQ.out; rw [Fd.eqRow_no j hlt (by rw [HE.out]; exact he)] at h1; exact Lib.hid h1.symm
          go_wp2_with fail
          go_quiet (fail)
          go_wp2_with fail
          go_ret
          exact ⟨ret_bool HN.out.symm, below_drewN hB _⟩
        · have he2 : (f j != g j) = false := by simpa using he
          have HN := Lib.hid (Fd.eq_next HALL.out (by rw [HE.out]; exact he))
          go_wp2_with fail
          go_quiet (fail)
          go_wp2_with fail
          go_roundg (n - (j + 1))
          case rel => exact ⟨j + 1, by omega, rfl, by go_num, HN.out, below_drewN hB _⟩
          case measure => omega
      · obtain rfl : j = n := by omega
        have HN : Hid (q = true) := by have h1 := HQ.out; rw [Fd.eqRow_yes HALL.out] at h1; exact Lib.hid h1.symm
        go_wp2_with fail
        go_ret
        exact ⟨ret_bool HN.out.symm, hB⟩
  · -- lengths that differ; slices.Equal[[]int,int]: the function
    have hl' : ((n : Int) == (m : Int)) = false := by simp; omega
    have hl2 : ((n : Int) != (m : Int)) = true := by simp; omega
    rw [Fd.eqRow_len hl]
    clear hl
    go_enter Tryz.func11, Tryz.ntmps11
    go_wp2_with fail
    go_ret
    exact ⟨rfl, Below.refl _ _⟩
end Go.Proofs.YtngbaljmlbdfkaaGreatDoor
