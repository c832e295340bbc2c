/- Local and Moments answer to each other: plain facts for WhenLocal. -/
import Derived.Test.YthldlffkgafgaaaDoorZoneMath
namespace Go.Proofs.YthldlffkgafgaaaDoor
namespace Zn
theorem mem_refs {f : Int} {F O : Nat → Int} {n : Nat} {l x : Int} {k : Nat} : x ∈ refs f F O n l k ↔ ∃ i : Nat, i < k ∧ seen f F O n l ((i : Int) - 840) = true ∧ x = l - 60 * ((i : Int) - 840) := by
  unfold refs
  rw [List.mem_map]
  constructor
  · rintro ⟨i, hi, rfl⟩
    rw [List.mem_filter, List.mem_range] at hi
    exact ⟨i, hi.1, hi.2, rfl⟩
  · rintro ⟨i, hi, hs, rfl⟩
    exact ⟨i, List.mem_filter.2 ⟨List.mem_range.2 hi, hs⟩, rfl⟩
/-- A moment is among those of its local seconds. -/
theorem got_of_local {f : Int} {F O : Nat → Int} {n : Nat} (h : Right f F O n) (m : Int) (hm : 0 ≤ m ∧ m ≤ 6311433599) : m ∈ got (m + 60 * at_ f F O m n) (all f F O n) := by
  have hb := at_bd h m n (Nat.le_refl _)
  rw [got_mem h, mem_refs]
  refine ⟨(at_ f F O m n + 840).toNat, by omega, ?_, by omega⟩
  have e : (((at_ f F O m n + 840).toNat : Nat) : Int) - 840 = at_ f F O m n := by omega
  rw [e]
  unfold seen
  have e2 : m + 60 * at_ f F O m n - 60 * at_ f F O m n = m := by omega
  rw [e2]
  simp [Ev.mom, hm.1, hm.2]
/-- Each of the moments has these local seconds. -/
theorem local_of_got {f : Int} {F O : Nat → Int} {n : Nat} (h : Right f F O n) {l x : Int} (hx : x ∈ got l (all f F O n)) : (0 ≤ x ∧ x ≤ 6311433599) ∧ x + 60 * at_ f F O x n = l := by
  rw [got_mem h, mem_refs] at hx
  obtain ⟨i, hi, hs, rfl⟩ := hx
  unfold seen at hs
  rw [Bool.and_eq_true] at hs
  have h2 := of_decide_eq_true hs.2
  refine ⟨(Ev.mom_iff _).1 hs.1, ?_⟩
  rw [h2]; omega
end Zn
end Go.Proofs.YthldlffkgafgaaaDoor
