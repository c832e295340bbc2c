/- Parts of the proof, no condition: CndOp, CndFm. -/
import Derived.Test.YtimjmjmpaicdbaaGreatDoorPc1
set_option maxHeartbeats 4000000
set_option linter.unusedVariables false
namespace Go.Proofs.YtimjmjmpaicdbaaGreatDoor
open Go.RowKit Go.Sort
theorem Blk.six {w : World} {b : Nat} {c0 c1 c2 c3 c4 c5 : Value} {t : TypeId} (h : Blk w b #[c0, c1, c2, c3, c4, c5] t) :
  w.cell? ⟨b, 0, none⟩ = some c0 ∧ w.cell? ⟨b, 1, none⟩ = some c1 ∧ w.cell? ⟨b, 2, none⟩ = some c2 ∧ w.cell? ⟨b, 3, none⟩ = some c3 ∧ w.cell? ⟨b, 4, none⟩ = some c4 ∧ w.cell? ⟨b, 5, none⟩ = some c5 :=
 ⟨by rw [h.cell]; rfl, by rw [h.cell]; rfl, by rw [h.cell]; rfl, by rw [h.cell]; rfl, by rw [h.cell]; rfl, by rw [h.cell]; rfl⟩
def FormC (op : Int) (ft fl fh : Bool) (a : Int) : Prop := ∀ w : World, Calls Tryz.prog 107 #[.int .i64 op] w fun e w' => e = .returned (.agg #[.bool ft, .bool fl, .bool fh, .int .i64 a]) ∧ Below w.heap.size w w'
theorem Blk.four {w : World} {b : Nat} {c0 c1 c2 c3 : Value} {t : TypeId} (h : Blk w b #[c0, c1, c2, c3] t) :
  w.cell? ⟨b, 0, none⟩ = some c0 ∧ w.cell? ⟨b, 1, none⟩ = some c1 ∧ w.cell? ⟨b, 2, none⟩ = some c2 ∧ w.cell? ⟨b, 3, none⟩ = some c3 :=
 ⟨by rw [h.cell]; rfl, by rw [h.cell]; rfl, by rw [h.cell]; rfl, by rw [h.cell]; rfl⟩
theorem Fd.size_of_full {s : ByteArray} (h : s.toList.isEmpty = false) : 1 ≤ s.size := by
 rcases Nat.eq_zero_or_pos s.size with h0 | h0
 ·rw [strEmpty_yes s h0] at h; cases h
 ·exact h0
theorem Fd.size_of_empty {s : ByteArray} (h : s.toList.isEmpty = true) : s.size = 0 := by
 rcases Nat.eq_zero_or_pos s.size with h0 | h0
 ·exact h0
 ·rw [strEmpty_no s (by omega)] at h; cases h
theorem Cnd.formC_A (op : Int) (hop : op = 1 ∨ op = 2) : FormC op false false false 0 := by
 rcases hop with rfl | rfl <;> (intro w; go_enter Tryz.func107, Tryz.ntmps107; go_wp2_with fail; refine bodyPost_ret (v := .agg #[.bool false, .bool false, .bool false, .int .i64 0]) (by simp [results, Tryz.results107, go_sem]) rfl ⟨rfl, below_allocs (Below.refl _ _) _⟩)
theorem Cnd.formB_A (op : Int) (kn an : Nat) (text : ByteArray) (low high : Int) (hop : op = 1 ∨ op = 2) (g0 : an = 0) (g1 : text.toList.isEmpty = true) (g2 : low = 0) (g3 : high = 0) : Cnd.formB op kn an text low high = true := by
 rcases hop with rfl | rfl <;> simp_all [Cnd.formB, Cnd.kidsB, Cnd.fText, Cnd.fLow, Cnd.fHigh, Cnd.fAt]
theorem Cnd.formB_at_A (op : Int) (kn an : Nat) (text : ByteArray) (low high : Int) (hop : op = 1 ∨ op = 2) (g : ¬ an = 0) : Cnd.formB op kn an text low high = false := by
 rcases hop with rfl | rfl <;> (unfold Cnd.formB; simp [Cnd.kidsB, Cnd.fText, Cnd.fLow, Cnd.fHigh, Cnd.fAt]; intros; first | omega | simp_all)
theorem Cnd.formB_text_A (op : Int) (kn an : Nat) (text : ByteArray) (low high : Int) (hop : op = 1 ∨ op = 2) (g : text.toList.isEmpty = false) : Cnd.formB op kn an text low high = false := by
 rcases hop with rfl | rfl <;> (unfold Cnd.formB; simp [Cnd.kidsB, Cnd.fText, Cnd.fLow, Cnd.fHigh, Cnd.fAt]; intros; first | omega | simp_all)
theorem Cnd.formB_low_A (op : Int) (kn an : Nat) (text : ByteArray) (low high : Int) (hop : op = 1 ∨ op = 2) (g : ¬ low = 0) : Cnd.formB op kn an text low high = false := by
 rcases hop with rfl | rfl <;> (unfold Cnd.formB; simp [Cnd.kidsB, Cnd.fText, Cnd.fLow, Cnd.fHigh, Cnd.fAt]; intros; first | omega | simp_all)
theorem Cnd.formB_high_A (op : Int) (kn an : Nat) (text : ByteArray) (low high : Int) (hop : op = 1 ∨ op = 2) (g : ¬ high = 0) : Cnd.formB op kn an text low high = false := by
 rcases hop with rfl | rfl <;> (unfold Cnd.formB; simp [Cnd.kidsB, Cnd.fText, Cnd.fLow, Cnd.fHigh, Cnd.fAt]; intros; first | omega | simp_all)
theorem Cnd.formC_B (op : Int) (hop : op = 3) : FormC op false false false 0 := by
 subst hop <;> (intro w; go_enter Tryz.func107, Tryz.ntmps107; go_wp2_with fail; refine bodyPost_ret (v := .agg #[.bool false, .bool false, .bool false, .int .i64 0]) (by simp [results, Tryz.results107, go_sem]) rfl ⟨rfl, below_allocs (Below.refl _ _) _⟩)
theorem Cnd.formB_B (op : Int) (kn an : Nat) (text : ByteArray) (low high : Int) (hop : op = 3) (g0 : kn = 1) (g1 : an = 0) (g2 : text.toList.isEmpty = true) (g3 : low = 0) (g4 : high = 0) : Cnd.formB op kn an text low high = true := by
 subst hop <;> simp_all [Cnd.formB, Cnd.kidsB, Cnd.fText, Cnd.fLow, Cnd.fHigh, Cnd.fAt]
theorem Cnd.formB_kids_B (op : Int) (kn an : Nat) (text : ByteArray) (low high : Int) (hop : op = 3) (g : ¬ kn = 1) : Cnd.formB op kn an text low high = false := by
 subst hop <;> (unfold Cnd.formB; simp [Cnd.kidsB, Cnd.fText, Cnd.fLow, Cnd.fHigh, Cnd.fAt]; intros; first | omega | simp_all)
theorem Cnd.formB_at_B (op : Int) (kn an : Nat) (text : ByteArray) (low high : Int) (hop : op = 3) (g : ¬ an = 0) : Cnd.formB op kn an text low high = false := by
 subst hop <;> (unfold Cnd.formB; simp [Cnd.kidsB, Cnd.fText, Cnd.fLow, Cnd.fHigh, Cnd.fAt]; intros; first | omega | simp_all)
theorem Cnd.formB_text_B (op : Int) (kn an : Nat) (text : ByteArray) (low high : Int) (hop : op = 3) (g : text.toList.isEmpty = false) : Cnd.formB op kn an text low high = false := by
 subst hop <;> (unfold Cnd.formB; simp [Cnd.kidsB, Cnd.fText, Cnd.fLow, Cnd.fHigh, Cnd.fAt]; intros; first | omega | simp_all)
theorem Cnd.formB_low_B (op : Int) (kn an : Nat) (text : ByteArray) (low high : Int) (hop : op = 3) (g : ¬ low = 0) : Cnd.formB op kn an text low high = false := by
 subst hop <;> (unfold Cnd.formB; simp [Cnd.kidsB, Cnd.fText, Cnd.fLow, Cnd.fHigh, Cnd.fAt]; intros; first | omega | simp_all)
theorem Cnd.formB_high_B (op : Int) (kn an : Nat) (text : ByteArray) (low high : Int) (hop : op = 3) (g : ¬ high = 0) : Cnd.formB op kn an text low high = false := by
 subst hop <;> (unfold Cnd.formB; simp [Cnd.kidsB, Cnd.fText, Cnd.fLow, Cnd.fHigh, Cnd.fAt]; intros; first | omega | simp_all)
theorem Cnd.formC_C (op : Int) (hop : op = 4) : FormC op true false false 0 := by
 subst hop <;> (intro w; go_enter Tryz.func107, Tryz.ntmps107; go_wp2_with fail; refine bodyPost_ret (v := .agg #[.bool true, .bool false, .bool false, .int .i64 0]) (by simp [results, Tryz.results107, go_sem]) rfl ⟨rfl, below_allocs (Below.refl _ _) _⟩)
theorem Cnd.formB_C (op : Int) (kn an : Nat) (text : ByteArray) (low high : Int) (hop : op = 4) (g0 : kn = 0) (g1 : an = 0) (g2 : low = 0) (g3 : high = 0) : Cnd.formB op kn an text low high = true := by
 subst hop <;> simp_all [Cnd.formB, Cnd.kidsB, Cnd.fText, Cnd.fLow, Cnd.fHigh, Cnd.fAt]
theorem Cnd.formB_kids_C (op : Int) (kn an : Nat) (text : ByteArray) (low high : Int) (hop : op = 4) (g : ¬ kn = 0) : Cnd.formB op kn an text low high = false := by
 subst hop <;> (unfold Cnd.formB; simp [Cnd.kidsB, Cnd.fText, Cnd.fLow, Cnd.fHigh, Cnd.fAt]; intros; first | omega | simp_all)
theorem Cnd.formB_at_C (op : Int) (kn an : Nat) (text : ByteArray) (low high : Int) (hop : op = 4) (g : ¬ an = 0) : Cnd.formB op kn an text low high = false := by
 subst hop <;> (unfold Cnd.formB; simp [Cnd.kidsB, Cnd.fText, Cnd.fLow, Cnd.fHigh, Cnd.fAt]; intros; first | omega | simp_all)
theorem Cnd.formB_low_C (op : Int) (kn an : Nat) (text : ByteArray) (low high : Int) (hop : op = 4) (g : ¬ low = 0) : Cnd.formB op kn an text low high = false := by
 subst hop <;> (unfold Cnd.formB; simp [Cnd.kidsB, Cnd.fText, Cnd.fLow, Cnd.fHigh, Cnd.fAt]; intros; first | omega | simp_all)
theorem Cnd.formB_high_C (op : Int) (kn an : Nat) (text : ByteArray) (low high : Int) (hop : op = 4) (g : ¬ high = 0) : Cnd.formB op kn an text low high = false := by
 subst hop <;> (unfold Cnd.formB; simp [Cnd.kidsB, Cnd.fText, Cnd.fLow, Cnd.fHigh, Cnd.fAt]; intros; first | omega | simp_all)
theorem Cnd.formC_D (op : Int) (hop : op = 5) : FormC op true false false 0 := by
 subst hop <;> (intro w; go_enter Tryz.func107, Tryz.ntmps107; go_wp2_with fail; refine bodyPost_ret (v := .agg #[.bool true, .bool false, .bool false, .int .i64 0]) (by simp [results, Tryz.results107, go_sem]) rfl ⟨rfl, below_allocs (Below.refl _ _) _⟩)
theorem Cnd.formB_D (op : Int) (kn an : Nat) (text : ByteArray) (low high : Int) (hop : op = 5) (g0 : kn = 0) (g1 : an = 0) (g2 : low = 0) (g3 : high = 0) : Cnd.formB op kn an text low high = true := by
 subst hop <;> simp_all [Cnd.formB, Cnd.kidsB, Cnd.fText, Cnd.fLow, Cnd.fHigh, Cnd.fAt]
theorem Cnd.formB_kids_D (op : Int) (kn an : Nat) (text : ByteArray) (low high : Int) (hop : op = 5) (g : ¬ kn = 0) : Cnd.formB op kn an text low high = false := by
 subst hop <;> (unfold Cnd.formB; simp [Cnd.kidsB, Cnd.fText, Cnd.fLow, Cnd.fHigh, Cnd.fAt]; intros; first | omega | simp_all)
theorem Cnd.formB_at_D (op : Int) (kn an : Nat) (text : ByteArray) (low high : Int) (hop : op = 5) (g : ¬ an = 0) : Cnd.formB op kn an text low high = false := by
 subst hop <;> (unfold Cnd.formB; simp [Cnd.kidsB, Cnd.fText, Cnd.fLow, Cnd.fHigh, Cnd.fAt]; intros; first | omega | simp_all)
theorem Cnd.formB_low_D (op : Int) (kn an : Nat) (text : ByteArray) (low high : Int) (hop : op = 5) (g : ¬ low = 0) : Cnd.formB op kn an text low high = false := by
 subst hop <;> (unfold Cnd.formB; simp [Cnd.kidsB, Cnd.fText, Cnd.fLow, Cnd.fHigh, Cnd.fAt]; intros; first | omega | simp_all)
theorem Cnd.formB_high_D (op : Int) (kn an : Nat) (text : ByteArray) (low high : Int) (hop : op = 5) (g : ¬ high = 0) : Cnd.formB op kn an text low high = false := by
 subst hop <;> (unfold Cnd.formB; simp [Cnd.kidsB, Cnd.fText, Cnd.fLow, Cnd.fHigh, Cnd.fAt]; intros; first | omega | simp_all)
theorem Cnd.formC_E (op : Int) (hop : op = 6) : FormC op false true false 0 := by
 subst hop <;> (intro w; go_enter Tryz.func107, Tryz.ntmps107; go_wp2_with fail; refine bodyPost_ret (v := .agg #[.bool false, .bool true, .bool false, .int .i64 0]) (by simp [results, Tryz.results107, go_sem]) rfl ⟨rfl, below_allocs (Below.refl _ _) _⟩)
theorem Cnd.formB_E (op : Int) (kn an : Nat) (text : ByteArray) (low high : Int) (hop : op = 6) (g0 : kn = 0) (g1 : an = 0) (g2 : text.toList.isEmpty = true) (g3 : high = 0) : Cnd.formB op kn an text low high = true := by
 subst hop <;> simp_all [Cnd.formB, Cnd.kidsB, Cnd.fText, Cnd.fLow, Cnd.fHigh, Cnd.fAt]
theorem Cnd.formB_kids_E (op : Int) (kn an : Nat) (text : ByteArray) (low high : Int) (hop : op = 6) (g : ¬ kn = 0) : Cnd.formB op kn an text low high = false := by
 subst hop <;> (unfold Cnd.formB; simp [Cnd.kidsB, Cnd.fText, Cnd.fLow, Cnd.fHigh, Cnd.fAt]; intros; first | omega | simp_all)
theorem Cnd.formB_at_E (op : Int) (kn an : Nat) (text : ByteArray) (low high : Int) (hop : op = 6) (g : ¬ an = 0) : Cnd.formB op kn an text low high = false := by
 subst hop <;> (unfold Cnd.formB; simp [Cnd.kidsB, Cnd.fText, Cnd.fLow, Cnd.fHigh, Cnd.fAt]; intros; first | omega | simp_all)
theorem Cnd.formB_text_E (op : Int) (kn an : Nat) (text : ByteArray) (low high : Int) (hop : op = 6) (g : text.toList.isEmpty = false) : Cnd.formB op kn an text low high = false := by
 subst hop <;> (unfold Cnd.formB; simp [Cnd.kidsB, Cnd.fText, Cnd.fLow, Cnd.fHigh, Cnd.fAt]; intros; first | omega | simp_all)
theorem Cnd.formB_high_E (op : Int) (kn an : Nat) (text : ByteArray) (low high : Int) (hop : op = 6) (g : ¬ high = 0) : Cnd.formB op kn an text low high = false := by
 subst hop <;> (unfold Cnd.formB; simp [Cnd.kidsB, Cnd.fText, Cnd.fLow, Cnd.fHigh, Cnd.fAt]; intros; first | omega | simp_all)
theorem Cnd.formC_F (op : Int) (hop : op = 7) : FormC op false true true 0 := by
 subst hop <;> (intro w; go_enter Tryz.func107, Tryz.ntmps107; go_wp2_with fail; refine bodyPost_ret (v := .agg #[.bool false, .bool true, .bool true, .int .i64 0]) (by simp [results, Tryz.results107, go_sem]) rfl ⟨rfl, below_allocs (Below.refl _ _) _⟩)
theorem Cnd.formB_F (op : Int) (kn an : Nat) (text : ByteArray) (low high : Int) (hop : op = 7) (g0 : kn = 0) (g1 : an = 0) (g2 : text.toList.isEmpty = true) : Cnd.formB op kn an text low high = true := by
 subst hop <;> simp_all [Cnd.formB, Cnd.kidsB, Cnd.fText, Cnd.fLow, Cnd.fHigh, Cnd.fAt]
theorem Cnd.formB_kids_F (op : Int) (kn an : Nat) (text : ByteArray) (low high : Int) (hop : op = 7) (g : ¬ kn = 0) : Cnd.formB op kn an text low high = false := by
 subst hop <;> (unfold Cnd.formB; simp [Cnd.kidsB, Cnd.fText, Cnd.fLow, Cnd.fHigh, Cnd.fAt]; intros; first | omega | simp_all)
theorem Cnd.formB_at_F (op : Int) (kn an : Nat) (text : ByteArray) (low high : Int) (hop : op = 7) (g : ¬ an = 0) : Cnd.formB op kn an text low high = false := by
 subst hop <;> (unfold Cnd.formB; simp [Cnd.kidsB, Cnd.fText, Cnd.fLow, Cnd.fHigh, Cnd.fAt]; intros; first | omega | simp_all)
theorem Cnd.formB_text_F (op : Int) (kn an : Nat) (text : ByteArray) (low high : Int) (hop : op = 7) (g : text.toList.isEmpty = false) : Cnd.formB op kn an text low high = false := by
 subst hop <;> (unfold Cnd.formB; simp [Cnd.kidsB, Cnd.fText, Cnd.fLow, Cnd.fHigh, Cnd.fAt]; intros; first | omega | simp_all)
theorem Cnd.formC_G (op : Int) (hop : op = 8) : FormC op false true true 0 := by
 subst hop <;> (intro w; go_enter Tryz.func107, Tryz.ntmps107; go_wp2_with fail; refine bodyPost_ret (v := .agg #[.bool false, .bool true, .bool true, .int .i64 0]) (by simp [results, Tryz.results107, go_sem]) rfl ⟨rfl, below_allocs (Below.refl _ _) _⟩)
theorem Cnd.formB_G (op : Int) (kn an : Nat) (text : ByteArray) (low high : Int) (hop : op = 8) (g0 : kn = 0) (g1 : an = 0) (g2 : text.toList.isEmpty = true) : Cnd.formB op kn an text low high = true := by
 subst hop <;> simp_all [Cnd.formB, Cnd.kidsB, Cnd.fText, Cnd.fLow, Cnd.fHigh, Cnd.fAt]
theorem Cnd.formB_kids_G (op : Int) (kn an : Nat) (text : ByteArray) (low high : Int) (hop : op = 8) (g : ¬ kn = 0) : Cnd.formB op kn an text low high = false := by
 subst hop <;> (unfold Cnd.formB; simp [Cnd.kidsB, Cnd.fText, Cnd.fLow, Cnd.fHigh, Cnd.fAt]; intros; first | omega | simp_all)
theorem Cnd.formB_at_G (op : Int) (kn an : Nat) (text : ByteArray) (low high : Int) (hop : op = 8) (g : ¬ an = 0) : Cnd.formB op kn an text low high = false := by
 subst hop <;> (unfold Cnd.formB; simp [Cnd.kidsB, Cnd.fText, Cnd.fLow, Cnd.fHigh, Cnd.fAt]; intros; first | omega | simp_all)
theorem Cnd.formB_text_G (op : Int) (kn an : Nat) (text : ByteArray) (low high : Int) (hop : op = 8) (g : text.toList.isEmpty = false) : Cnd.formB op kn an text low high = false := by
 subst hop <;> (unfold Cnd.formB; simp [Cnd.kidsB, Cnd.fText, Cnd.fLow, Cnd.fHigh, Cnd.fAt]; intros; first | omega | simp_all)
theorem Cnd.formC_H (op : Int) (hop : op = 9 ∨ op = 10 ∨ op = 11 ∨ op = 12 ∨ op = 13 ∨ op = 16) : FormC op false false false 0 := by
 rcases hop with rfl | rfl | rfl | rfl | rfl | rfl <;> (intro w; go_enter Tryz.func107, Tryz.ntmps107; go_wp2_with fail; refine bodyPost_ret (v := .agg #[.bool false, .bool false, .bool false, .int .i64 0]) (by simp [results, Tryz.results107, go_sem]) rfl ⟨rfl, below_allocs (Below.refl _ _) _⟩)
theorem Cnd.formB_H (op : Int) (kn an : Nat) (text : ByteArray) (low high : Int) (hop : op = 9 ∨ op = 10 ∨ op = 11 ∨ op = 12 ∨ op = 13 ∨ op = 16) (g0 : kn = 0) (g1 : an = 0) (g2 : text.toList.isEmpty = true) (g3 : low = 0) (g4 : high = 0) : Cnd.formB op kn an text low high = true := by
 rcases hop with rfl | rfl | rfl | rfl | rfl | rfl <;> simp_all [Cnd.formB, Cnd.kidsB, Cnd.fText, Cnd.fLow, Cnd.fHigh, Cnd.fAt]
theorem Cnd.formB_kids_H (op : Int) (kn an : Nat) (text : ByteArray) (low high : Int) (hop : op = 9 ∨ op = 10 ∨ op = 11 ∨ op = 12 ∨ op = 13 ∨ op = 16) (g : ¬ kn = 0) : Cnd.formB op kn an text low high = false := by
 rcases hop with rfl | rfl | rfl | rfl | rfl | rfl <;> (unfold Cnd.formB; simp [Cnd.kidsB, Cnd.fText, Cnd.fLow, Cnd.fHigh, Cnd.fAt]; intros; first | omega | simp_all)
theorem Cnd.formB_at_H (op : Int) (kn an : Nat) (text : ByteArray) (low high : Int) (hop : op = 9 ∨ op = 10 ∨ op = 11 ∨ op = 12 ∨ op = 13 ∨ op = 16) (g : ¬ an = 0) : Cnd.formB op kn an text low high = false := by
 rcases hop with rfl | rfl | rfl | rfl | rfl | rfl <;> (unfold Cnd.formB; simp [Cnd.kidsB, Cnd.fText, Cnd.fLow, Cnd.fHigh, Cnd.fAt]; intros; first | omega | simp_all)
theorem Cnd.formB_text_H (op : Int) (kn an : Nat) (text : ByteArray) (low high : Int) (hop : op = 9 ∨ op = 10 ∨ op = 11 ∨ op = 12 ∨ op = 13 ∨ op = 16) (g : text.toList.isEmpty = false) : Cnd.formB op kn an text low high = false := by
 rcases hop with rfl | rfl | rfl | rfl | rfl | rfl <;> (unfold Cnd.formB; simp [Cnd.kidsB, Cnd.fText, Cnd.fLow, Cnd.fHigh, Cnd.fAt]; intros; first | omega | simp_all)
theorem Cnd.formB_low_H (op : Int) (kn an : Nat) (text : ByteArray) (low high : Int) (hop : op = 9 ∨ op = 10 ∨ op = 11 ∨ op = 12 ∨ op = 13 ∨ op = 16) (g : ¬ low = 0) : Cnd.formB op kn an text low high = false := by
 rcases hop with rfl | rfl | rfl | rfl | rfl | rfl <;> (unfold Cnd.formB; simp [Cnd.kidsB, Cnd.fText, Cnd.fLow, Cnd.fHigh, Cnd.fAt]; intros; first | omega | simp_all)
theorem Cnd.formB_high_H (op : Int) (kn an : Nat) (text : ByteArray) (low high : Int) (hop : op = 9 ∨ op = 10 ∨ op = 11 ∨ op = 12 ∨ op = 13 ∨ op = 16) (g : ¬ high = 0) : Cnd.formB op kn an text low high = false := by
 rcases hop with rfl | rfl | rfl | rfl | rfl | rfl <;> (unfold Cnd.formB; simp [Cnd.kidsB, Cnd.fText, Cnd.fLow, Cnd.fHigh, Cnd.fAt]; intros; first | omega | simp_all)
theorem Cnd.formC_I (op : Int) (hop : op = 14) : FormC op false true false 1 := by
 subst hop <;> (intro w; go_enter Tryz.func107, Tryz.ntmps107; go_wp2_with fail; refine bodyPost_ret (v := .agg #[.bool false, .bool true, .bool false, .int .i64 1]) (by simp [results, Tryz.results107, go_sem]) rfl ⟨rfl, below_allocs (Below.refl _ _) _⟩)
theorem Cnd.formB_I (op : Int) (kn an : Nat) (text : ByteArray) (low high : Int) (hop : op = 14) (g0 : kn = 0) (g1 : an = 1) (g2 : text.toList.isEmpty = true) (g3 : high = 0) : Cnd.formB op kn an text low high = true := by
 subst hop <;> simp_all [Cnd.formB, Cnd.kidsB, Cnd.fText, Cnd.fLow, Cnd.fHigh, Cnd.fAt]
theorem Cnd.formB_kids_I (op : Int) (kn an : Nat) (text : ByteArray) (low high : Int) (hop : op = 14) (g : ¬ kn = 0) : Cnd.formB op kn an text low high = false := by
 subst hop <;> (unfold Cnd.formB; simp [Cnd.kidsB, Cnd.fText, Cnd.fLow, Cnd.fHigh, Cnd.fAt]; intros; first | omega | simp_all)
theorem Cnd.formB_at_I (op : Int) (kn an : Nat) (text : ByteArray) (low high : Int) (hop : op = 14) (g : ¬ an = 1) : Cnd.formB op kn an text low high = false := by
 subst hop <;> (unfold Cnd.formB; simp [Cnd.kidsB, Cnd.fText, Cnd.fLow, Cnd.fHigh, Cnd.fAt]; intros; first | omega | simp_all)
theorem Cnd.formB_text_I (op : Int) (kn an : Nat) (text : ByteArray) (low high : Int) (hop : op = 14) (g : text.toList.isEmpty = false) : Cnd.formB op kn an text low high = false := by
 subst hop <;> (unfold Cnd.formB; simp [Cnd.kidsB, Cnd.fText, Cnd.fLow, Cnd.fHigh, Cnd.fAt]; intros; first | omega | simp_all)
theorem Cnd.formB_high_I (op : Int) (kn an : Nat) (text : ByteArray) (low high : Int) (hop : op = 14) (g : ¬ high = 0) : Cnd.formB op kn an text low high = false := by
 subst hop <;> (unfold Cnd.formB; simp [Cnd.kidsB, Cnd.fText, Cnd.fLow, Cnd.fHigh, Cnd.fAt]; intros; first | omega | simp_all)
theorem Cnd.formC_J (op : Int) (hop : op = 15) : FormC op false false false 2 := by
 subst hop <;> (intro w; go_enter Tryz.func107, Tryz.ntmps107; go_wp2_with fail; refine bodyPost_ret (v := .agg #[.bool false, .bool false, .bool false, .int .i64 2]) (by simp [results, Tryz.results107, go_sem]) rfl ⟨rfl, below_allocs (Below.refl _ _) _⟩)
theorem Cnd.formB_J (op : Int) (kn an : Nat) (text : ByteArray) (low high : Int) (hop : op = 15) (g0 : kn = 0) (g1 : an = 2) (g2 : text.toList.isEmpty = true) (g3 : low = 0) (g4 : high = 0) : Cnd.formB op kn an text low high = true := by
 subst hop <;> simp_all [Cnd.formB, Cnd.kidsB, Cnd.fText, Cnd.fLow, Cnd.fHigh, Cnd.fAt]
theorem Cnd.formB_kids_J (op : Int) (kn an : Nat) (text : ByteArray) (low high : Int) (hop : op = 15) (g : ¬ kn = 0) : Cnd.formB op kn an text low high = false := by
 subst hop <;> (unfold Cnd.formB; simp [Cnd.kidsB, Cnd.fText, Cnd.fLow, Cnd.fHigh, Cnd.fAt]; intros; first | omega | simp_all)
theorem Cnd.formB_at_J (op : Int) (kn an : Nat) (text : ByteArray) (low high : Int) (hop : op = 15) (g : ¬ an = 2) : Cnd.formB op kn an text low high = false := by
 subst hop <;> (unfold Cnd.formB; simp [Cnd.kidsB, Cnd.fText, Cnd.fLow, Cnd.fHigh, Cnd.fAt]; intros; first | omega | simp_all)
theorem Cnd.formB_text_J (op : Int) (kn an : Nat) (text : ByteArray) (low high : Int) (hop : op = 15) (g : text.toList.isEmpty = false) : Cnd.formB op kn an text low high = false := by
 subst hop <;> (unfold Cnd.formB; simp [Cnd.kidsB, Cnd.fText, Cnd.fLow, Cnd.fHigh, Cnd.fAt]; intros; first | omega | simp_all)
theorem Cnd.formB_low_J (op : Int) (kn an : Nat) (text : ByteArray) (low high : Int) (hop : op = 15) (g : ¬ low = 0) : Cnd.formB op kn an text low high = false := by
 subst hop <;> (unfold Cnd.formB; simp [Cnd.kidsB, Cnd.fText, Cnd.fLow, Cnd.fHigh, Cnd.fAt]; intros; first | omega | simp_all)
theorem Cnd.formB_high_J (op : Int) (kn an : Nat) (text : ByteArray) (low high : Int) (hop : op = 15) (g : ¬ high = 0) : Cnd.formB op kn an text low high = false := by
 subst hop <;> (unfold Cnd.formB; simp [Cnd.kidsB, Cnd.fText, Cnd.fLow, Cnd.fHigh, Cnd.fAt]; intros; first | omega | simp_all)
end Go.Proofs.YtimjmjmpaicdbaaGreatDoor
namespace Go.Proofs.YtimjmjmpaicdbaaGreatDoor
open Go.RowKit Go.Sort Go.Shelf
theorem checkForm_A (op : Int) (ka : Option Addr) (kn kc : Nat) (text : ByteArray) (low high : Int) (aa : Option Addr) (an ac : Nat) (w : World) (hkn : kn ≤ 9223372036854775807) (han : an ≤ 9223372036854775807) (b : Bool) (hb : Cnd.formB op kn an text low high = b) (hop : op = 1 ∨ op = 2) : Calls Tryz.prog 66 #[.agg #[.int .i64 op, .slice ka kn kc, .string text, .int .i64 low, .int .i64 high, .slice aa an ac]] w fun e w' => e = .returned (.int .i64 (if b = true then 0 else 1)) ∧ Below w.heap.size w w' := by
 have HFM := Lib.hid (Cnd.formC_A op hop)
 have op3 : (op == 3) = false := by rcases hop with rfl | rfl <;> rfl
 have op14 : (op == 14) = false := by rcases hop with rfl | rfl <;> rfl
 have op15 : (op == 15) = false := by rcases hop with rfl | rfl <;> rfl
 have op4 : (op == 4) = false := by rcases hop with rfl | rfl <;> rfl
 have op5 : (op == 5) = false := by rcases hop with rfl | rfl <;> rfl
 have op6 : (op == 6) = false := by rcases hop with rfl | rfl <;> rfl
 have op7 : (op == 7) = false := by rcases hop with rfl | rfl <;> rfl
 have op8 : (op == 8) = false := by rcases hop with rfl | rfl <;> rfl
 have opg : ¬ (4 : Int) ≤ op := by omega
 have opl : ¬ op < 1 := by omega
 have opm : ¬ (16 : Int) < op := by omega
 have HOP := Lib.hid hop; clear hop
 obtain ⟨W1, hW1, hP, hz1, hB1⟩ := box w #[.int .i64 op, .slice ka kn kc, .string text, .int .i64 low, .int .i64 high, .slice aa an ac] 25
 have HW1 := Lib.hid hW1
 clear hW1 hz1
 obtain ⟨q0, q1, q2, q3, q4, q5⟩ := hP.six
 by_cases g0 : an = 0
 ·have G0 := Lib.hid g0
  have a1 : ((an : Int) != 0) = false := by simp; omega
  clear g0
  cases ht : text.toList.isEmpty
  ·have HT := Lib.hid ht
   obtain rfl : b = false := by rw [← hb]; exact Cnd.formB_text_A _ kn an text low high HOP.out HT.out
   rw [if_neg (by simp)]
   clear hb
   go_enter Tryz.func66, Tryz.ntmps66
   go_wp2_with fail
   rw [HW1.out]
   go_wp2_with (go_at_call 107; refine (HFM.out _).mono ?_; rintro e w3 ⟨rfl, hB3⟩; have hlt3 := (hP.keep hB3).lt; obtain ⟨t0, t1, t2, t3, t4, t5⟩ := ((hP.keep hB3).alloc (.cells #[.bool false, .bool false, .bool false, .int .i64 0] 153)).six)
   go_ret
   exact ⟨rfl, below_allocs (below_up hB1 hB3) _⟩
  ·have HT := Lib.hid ht
   by_cases g2 : low = 0
   ·have G2 := Lib.hid g2
    have l1 : (low != 0) = false := by simp; omega
    clear g2
    by_cases g3 : high = 0
    ·have G3 := Lib.hid g3
     have h1 : (high != 0) = false := by simp; omega
     clear g3
     obtain rfl : b = true := by rw [← hb]; exact Cnd.formB_A _ kn an text low high HOP.out G0.out HT.out G2.out G3.out
     rw [if_pos rfl]
     clear hb
     go_enter Tryz.func66, Tryz.ntmps66
     go_wp2_with fail
     rw [HW1.out]
     go_wp2_with (go_at_call 107; refine (HFM.out _).mono ?_; rintro e w3 ⟨rfl, hB3⟩; have hlt3 := (hP.keep hB3).lt; obtain ⟨t0, t1, t2, t3, t4, t5⟩ := ((hP.keep hB3).alloc (.cells #[.bool false, .bool false, .bool false, .int .i64 0] 153)).six)
     go_ret
     exact ⟨rfl, below_allocs (below_up hB1 hB3) _⟩
    ·have G3 := Lib.hid g3
     have h1 : (high != 0) = true := by simp; omega
     clear g3
     obtain rfl : b = false := by rw [← hb]; exact Cnd.formB_high_A _ kn an text low high HOP.out G3.out
     rw [if_neg (by simp)]
     clear hb
     go_enter Tryz.func66, Tryz.ntmps66
     go_wp2_with fail
     rw [HW1.out]
     go_wp2_with (go_at_call 107; refine (HFM.out _).mono ?_; rintro e w3 ⟨rfl, hB3⟩; have hlt3 := (hP.keep hB3).lt; obtain ⟨t0, t1, t2, t3, t4, t5⟩ := ((hP.keep hB3).alloc (.cells #[.bool false, .bool false, .bool false, .int .i64 0] 153)).six)
     go_ret
     exact ⟨rfl, below_allocs (below_up hB1 hB3) _⟩
   ·have G2 := Lib.hid g2
    have l1 : (low != 0) = true := by simp; omega
    clear g2
    obtain rfl : b = false := by rw [← hb]; exact Cnd.formB_low_A _ kn an text low high HOP.out G2.out
    rw [if_neg (by simp)]
    clear hb
    go_enter Tryz.func66, Tryz.ntmps66
    go_wp2_with fail
    rw [HW1.out]
    go_wp2_with (go_at_call 107; refine (HFM.out _).mono ?_; rintro e w3 ⟨rfl, hB3⟩; have hlt3 := (hP.keep hB3).lt; obtain ⟨t0, t1, t2, t3, t4, t5⟩ := ((hP.keep hB3).alloc (.cells #[.bool false, .bool false, .bool false, .int .i64 0] 153)).six)
    go_ret
    exact ⟨rfl, below_allocs (below_up hB1 hB3) _⟩
 ·have G0 := Lib.hid g0
  have a1 : ((an : Int) != 0) = true := by simp; omega
  clear g0
  obtain rfl : b = false := by rw [← hb]; exact Cnd.formB_at_A _ kn an text low high HOP.out G0.out
  rw [if_neg (by simp)]
  clear hb
  go_enter Tryz.func66, Tryz.ntmps66
  go_wp2_with fail
  rw [HW1.out]
  go_wp2_with (go_at_call 107; refine (HFM.out _).mono ?_; rintro e w3 ⟨rfl, hB3⟩; have hlt3 := (hP.keep hB3).lt; obtain ⟨t0, t1, t2, t3, t4, t5⟩ := ((hP.keep hB3).alloc (.cells #[.bool false, .bool false, .bool false, .int .i64 0] 153)).six)
  go_ret
  exact ⟨rfl, below_allocs (below_up hB1 hB3) _⟩
theorem checkForm_B (op : Int) (ka : Option Addr) (kn kc : Nat) (text : ByteArray) (low high : Int) (aa : Option Addr) (an ac : Nat) (w : World) (hkn : kn ≤ 9223372036854775807) (han : an ≤ 9223372036854775807) (b : Bool) (hb : Cnd.formB op kn an text low high = b) (hop : op = 3) : Calls Tryz.prog 66 #[.agg #[.int .i64 op, .slice ka kn kc, .string text, .int .i64 low, .int .i64 high, .slice aa an ac]] w fun e w' => e = .returned (.int .i64 (if b = true then 0 else 1)) ∧ Below w.heap.size w w' := by
 have HFM := Lib.hid (Cnd.formC_B op hop)
 have HOP := Lib.hid hop; clear hop
 obtain ⟨W1, hW1, hP, hz1, hB1⟩ := box w #[.int .i64 op, .slice ka kn kc, .string text, .int .i64 low, .int .i64 high, .slice aa an ac] 25
 have HW1 := Lib.hid hW1
 clear hW1 hz1
 obtain ⟨q0, q1, q2, q3, q4, q5⟩ := hP.six
 obtain rfl : op = 3 := HOP.out
 by_cases g0 : kn = 1
 ·have G0 := Lib.hid g0
  have k1 : ((kn : Int) != 1) = false := by simp; omega
  clear g0
  by_cases g1 : an = 0
  ·have G1 := Lib.hid g1
   have a1 : ((an : Int) != 0) = false := by simp; omega
   clear g1
   cases ht : text.toList.isEmpty
   ·have HT := Lib.hid ht
    obtain rfl : b = false := by rw [← hb]; exact Cnd.formB_text_B _ kn an text low high HOP.out HT.out
    rw [if_neg (by simp)]
    clear hb
    go_enter Tryz.func66, Tryz.ntmps66
    go_wp2_with fail
    rw [HW1.out]
    go_wp2_with (go_at_call 107; refine (HFM.out _).mono ?_; rintro e w3 ⟨rfl, hB3⟩; have hlt3 := (hP.keep hB3).lt; obtain ⟨t0, t1, t2, t3, t4, t5⟩ := ((hP.keep hB3).alloc (.cells #[.bool false, .bool false, .bool false, .int .i64 0] 153)).six)
    go_ret
    exact ⟨rfl, below_allocs (below_up hB1 hB3) _⟩
   ·have HT := Lib.hid ht
    by_cases g3 : low = 0
    ·have G3 := Lib.hid g3
     have l1 : (low != 0) = false := by simp; omega
     clear g3
     by_cases g4 : high = 0
     ·have G4 := Lib.hid g4
      have h1 : (high != 0) = false := by simp; omega
      clear g4
      obtain rfl : b = true := by rw [← hb]; exact Cnd.formB_B _ kn an text low high HOP.out G0.out G1.out HT.out G3.out G4.out
      rw [if_pos rfl]
      clear hb
      go_enter Tryz.func66, Tryz.ntmps66
      go_wp2_with fail
      rw [HW1.out]
      go_wp2_with (go_at_call 107; refine (HFM.out _).mono ?_; rintro e w3 ⟨rfl, hB3⟩; have hlt3 := (hP.keep hB3).lt; obtain ⟨t0, t1, t2, t3, t4, t5⟩ := ((hP.keep hB3).alloc (.cells #[.bool false, .bool false, .bool false, .int .i64 0] 153)).six)
      go_ret
      exact ⟨rfl, below_allocs (below_up hB1 hB3) _⟩
     ·have G4 := Lib.hid g4
      have h1 : (high != 0) = true := by simp; omega
      clear g4
      obtain rfl : b = false := by rw [← hb]; exact Cnd.formB_high_B _ kn an text low high HOP.out G4.out
      rw [if_neg (by simp)]
      clear hb
      go_enter Tryz.func66, Tryz.ntmps66
      go_wp2_with fail
      rw [HW1.out]
      go_wp2_with (go_at_call 107; refine (HFM.out _).mono ?_; rintro e w3 ⟨rfl, hB3⟩; have hlt3 := (hP.keep hB3).lt; obtain ⟨t0, t1, t2, t3, t4, t5⟩ := ((hP.keep hB3).alloc (.cells #[.bool false, .bool false, .bool false, .int .i64 0] 153)).six)
      go_ret
      exact ⟨rfl, below_allocs (below_up hB1 hB3) _⟩
    ·have G3 := Lib.hid g3
     have l1 : (low != 0) = true := by simp; omega
     clear g3
     obtain rfl : b = false := by rw [← hb]; exact Cnd.formB_low_B _ kn an text low high HOP.out G3.out
     rw [if_neg (by simp)]
     clear hb
     go_enter Tryz.func66, Tryz.ntmps66
     go_wp2_with fail
     rw [HW1.out]
     go_wp2_with (go_at_call 107; refine (HFM.out _).mono ?_; rintro e w3 ⟨rfl, hB3⟩; have hlt3 := (hP.keep hB3).lt; obtain ⟨t0, t1, t2, t3, t4, t5⟩ := ((hP.keep hB3).alloc (.cells #[.bool false, .bool false, .bool false, .int .i64 0] 153)).six)
     go_ret
     exact ⟨rfl, below_allocs (below_up hB1 hB3) _⟩
  ·have G1 := Lib.hid g1
   have a1 : ((an : Int) != 0) = true := by simp; omega
   clear g1
   obtain rfl : b = false := by rw [← hb]; exact Cnd.formB_at_B _ kn an text low high HOP.out G1.out
   rw [if_neg (by simp)]
   clear hb
   go_enter Tryz.func66, Tryz.ntmps66
   go_wp2_with fail
   rw [HW1.out]
   go_wp2_with (go_at_call 107; refine (HFM.out _).mono ?_; rintro e w3 ⟨rfl, hB3⟩; have hlt3 := (hP.keep hB3).lt; obtain ⟨t0, t1, t2, t3, t4, t5⟩ := ((hP.keep hB3).alloc (.cells #[.bool false, .bool false, .bool false, .int .i64 0] 153)).six)
   go_ret
   exact ⟨rfl, below_allocs (below_up hB1 hB3) _⟩
 ·have G0 := Lib.hid g0
  have k1 : ((kn : Int) != 1) = true := by simp; omega
  clear g0
  obtain rfl : b = false := by rw [← hb]; exact Cnd.formB_kids_B _ kn an text low high HOP.out G0.out
  rw [if_neg (by simp)]
  clear hb
  go_enter Tryz.func66, Tryz.ntmps66
  go_wp2_with fail
  rw [HW1.out]
  go_wp2_with (go_at_call 107; refine (HFM.out _).mono ?_; rintro e w3 ⟨rfl, hB3⟩; have hlt3 := (hP.keep hB3).lt; obtain ⟨t0, t1, t2, t3, t4, t5⟩ := ((hP.keep hB3).alloc (.cells #[.bool false, .bool false, .bool false, .int .i64 0] 153)).six)
  go_ret
  exact ⟨rfl, below_allocs (below_up hB1 hB3) _⟩
theorem checkForm_C (op : Int) (ka : Option Addr) (kn kc : Nat) (text : ByteArray) (low high : Int) (aa : Option Addr) (an ac : Nat) (w : World) (hkn : kn ≤ 9223372036854775807) (han : an ≤ 9223372036854775807) (b : Bool) (hb : Cnd.formB op kn an text low high = b) (hop : op = 4) : Calls Tryz.prog 66 #[.agg #[.int .i64 op, .slice ka kn kc, .string text, .int .i64 low, .int .i64 high, .slice aa an ac]] w fun e w' => e = .returned (.int .i64 (if b = true then 0 else 1)) ∧ Below w.heap.size w w' := by
 have HFM := Lib.hid (Cnd.formC_C op hop)
 have HOP := Lib.hid hop; clear hop
 obtain ⟨W1, hW1, hP, hz1, hB1⟩ := box w #[.int .i64 op, .slice ka kn kc, .string text, .int .i64 low, .int .i64 high, .slice aa an ac] 25
 have HW1 := Lib.hid hW1
 clear hW1 hz1
 obtain ⟨q0, q1, q2, q3, q4, q5⟩ := hP.six
 obtain rfl : op = 4 := HOP.out
 by_cases g0 : kn = 0
 ·have G0 := Lib.hid g0
  have k1 : ¬ (0 : Int) < (kn : Int) := by omega
  clear g0
  by_cases g1 : an = 0
  ·have G1 := Lib.hid g1
   have a1 : ((an : Int) != 0) = false := by simp; omega
   clear g1
   by_cases g2 : low = 0
   ·have G2 := Lib.hid g2
    have l1 : (low != 0) = false := by simp; omega
    clear g2
    by_cases g3 : high = 0
    ·have G3 := Lib.hid g3
     have h1 : (high != 0) = false := by simp; omega
     clear g3
     obtain rfl : b = true := by rw [← hb]; exact Cnd.formB_C _ kn an text low high HOP.out G0.out G1.out G2.out G3.out
     rw [if_pos rfl]
     clear hb
     go_enter Tryz.func66, Tryz.ntmps66
     go_wp2_with fail
     rw [HW1.out]
     go_wp2_with (go_at_call 107; refine (HFM.out _).mono ?_; rintro e w3 ⟨rfl, hB3⟩; have hlt3 := (hP.keep hB3).lt; obtain ⟨t0, t1, t2, t3, t4, t5⟩ := ((hP.keep hB3).alloc (.cells #[.bool true, .bool false, .bool false, .int .i64 0] 153)).six)
     go_ret
     exact ⟨rfl, below_allocs (below_up hB1 hB3) _⟩
    ·have G3 := Lib.hid g3
     have h1 : (high != 0) = true := by simp; omega
     clear g3
     obtain rfl : b = false := by rw [← hb]; exact Cnd.formB_high_C _ kn an text low high HOP.out G3.out
     rw [if_neg (by simp)]
     clear hb
     go_enter Tryz.func66, Tryz.ntmps66
     go_wp2_with fail
     rw [HW1.out]
     go_wp2_with (go_at_call 107; refine (HFM.out _).mono ?_; rintro e w3 ⟨rfl, hB3⟩; have hlt3 := (hP.keep hB3).lt; obtain ⟨t0, t1, t2, t3, t4, t5⟩ := ((hP.keep hB3).alloc (.cells #[.bool true, .bool false, .bool false, .int .i64 0] 153)).six)
     go_ret
     exact ⟨rfl, below_allocs (below_up hB1 hB3) _⟩
   ·have G2 := Lib.hid g2
    have l1 : (low != 0) = true := by simp; omega
    clear g2
    obtain rfl : b = false := by rw [← hb]; exact Cnd.formB_low_C _ kn an text low high HOP.out G2.out
    rw [if_neg (by simp)]
    clear hb
    go_enter Tryz.func66, Tryz.ntmps66
    go_wp2_with fail
    rw [HW1.out]
    go_wp2_with (go_at_call 107; refine (HFM.out _).mono ?_; rintro e w3 ⟨rfl, hB3⟩; have hlt3 := (hP.keep hB3).lt; obtain ⟨t0, t1, t2, t3, t4, t5⟩ := ((hP.keep hB3).alloc (.cells #[.bool true, .bool false, .bool false, .int .i64 0] 153)).six)
    go_ret
    exact ⟨rfl, below_allocs (below_up hB1 hB3) _⟩
  ·have G1 := Lib.hid g1
   have a1 : ((an : Int) != 0) = true := by simp; omega
   clear g1
   obtain rfl : b = false := by rw [← hb]; exact Cnd.formB_at_C _ kn an text low high HOP.out G1.out
   rw [if_neg (by simp)]
   clear hb
   go_enter Tryz.func66, Tryz.ntmps66
   go_wp2_with fail
   rw [HW1.out]
   go_wp2_with (go_at_call 107; refine (HFM.out _).mono ?_; rintro e w3 ⟨rfl, hB3⟩; have hlt3 := (hP.keep hB3).lt; obtain ⟨t0, t1, t2, t3, t4, t5⟩ := ((hP.keep hB3).alloc (.cells #[.bool true, .bool false, .bool false, .int .i64 0] 153)).six)
   go_ret
   exact ⟨rfl, below_allocs (below_up hB1 hB3) _⟩
 ·have G0 := Lib.hid g0
  have k1 : (0 : Int) < (kn : Int) := by omega
  clear g0
  obtain rfl : b = false := by rw [← hb]; exact Cnd.formB_kids_C _ kn an text low high HOP.out G0.out
  rw [if_neg (by simp)]
  clear hb
  go_enter Tryz.func66, Tryz.ntmps66
  go_wp2_with fail
  rw [HW1.out]
  go_wp2_with (go_at_call 107; refine (HFM.out _).mono ?_; rintro e w3 ⟨rfl, hB3⟩; have hlt3 := (hP.keep hB3).lt; obtain ⟨t0, t1, t2, t3, t4, t5⟩ := ((hP.keep hB3).alloc (.cells #[.bool true, .bool false, .bool false, .int .i64 0] 153)).six)
  go_ret
  exact ⟨rfl, below_allocs (below_up hB1 hB3) _⟩
theorem checkForm_D (op : Int) (ka : Option Addr) (kn kc : Nat) (text : ByteArray) (low high : Int) (aa : Option Addr) (an ac : Nat) (w : World) (hkn : kn ≤ 9223372036854775807) (han : an ≤ 9223372036854775807) (b : Bool) (hb : Cnd.formB op kn an text low high = b) (hop : op = 5) : Calls Tryz.prog 66 #[.agg #[.int .i64 op, .slice ka kn kc, .string text, .int .i64 low, .int .i64 high, .slice aa an ac]] w fun e w' => e = .returned (.int .i64 (if b = true then 0 else 1)) ∧ Below w.heap.size w w' := by
 have HFM := Lib.hid (Cnd.formC_D op hop)
 have HOP := Lib.hid hop; clear hop
 obtain ⟨W1, hW1, hP, hz1, hB1⟩ := box w #[.int .i64 op, .slice ka kn kc, .string text, .int .i64 low, .int .i64 high, .slice aa an ac] 25
 have HW1 := Lib.hid hW1
 clear hW1 hz1
 obtain ⟨q0, q1, q2, q3, q4, q5⟩ := hP.six
 obtain rfl : op = 5 := HOP.out
 by_cases g0 : kn = 0
 ·have G0 := Lib.hid g0
  have k1 : ¬ (0 : Int) < (kn : Int) := by omega
  clear g0
  by_cases g1 : an = 0
  ·have G1 := Lib.hid g1
   have a1 : ((an : Int) != 0) = false := by simp; omega
   clear g1
   by_cases g2 : low = 0
   ·have G2 := Lib.hid g2
    have l1 : (low != 0) = false := by simp; omega
    clear g2
    by_cases g3 : high = 0
    ·have G3 := Lib.hid g3
     have h1 : (high != 0) = false := by simp; omega
     clear g3
     obtain rfl : b = true := by rw [← hb]; exact Cnd.formB_D _ kn an text low high HOP.out G0.out G1.out G2.out G3.out
     rw [if_pos rfl]
     clear hb
     go_enter Tryz.func66, Tryz.ntmps66
     go_wp2_with fail
     rw [HW1.out]
     go_wp2_with (go_at_call 107; refine (HFM.out _).mono ?_; rintro e w3 ⟨rfl, hB3⟩; have hlt3 := (hP.keep hB3).lt; obtain ⟨t0, t1, t2, t3, t4, t5⟩ := ((hP.keep hB3).alloc (.cells #[.bool true, .bool false, .bool false, .int .i64 0] 153)).six)
     go_ret
     exact ⟨rfl, below_allocs (below_up hB1 hB3) _⟩
    ·have G3 := Lib.hid g3
     have h1 : (high != 0) = true := by simp; omega
     clear g3
     obtain rfl : b = false := by rw [← hb]; exact Cnd.formB_high_D _ kn an text low high HOP.out G3.out
     rw [if_neg (by simp)]
     clear hb
     go_enter Tryz.func66, Tryz.ntmps66
     go_wp2_with fail
     rw [HW1.out]
     go_wp2_with (go_at_call 107; refine (HFM.out _).mono ?_; rintro e w3 ⟨rfl, hB3⟩; have hlt3 := (hP.keep hB3).lt; obtain ⟨t0, t1, t2, t3, t4, t5⟩ := ((hP.keep hB3).alloc (.cells #[.bool true, .bool false, .bool false, .int .i64 0] 153)).six)
     go_ret
     exact ⟨rfl, below_allocs (below_up hB1 hB3) _⟩
   ·have G2 := Lib.hid g2
    have l1 : (low != 0) = true := by simp; omega
    clear g2
    obtain rfl : b = false := by rw [← hb]; exact Cnd.formB_low_D _ kn an text low high HOP.out G2.out
    rw [if_neg (by simp)]
    clear hb
    go_enter Tryz.func66, Tryz.ntmps66
    go_wp2_with fail
    rw [HW1.out]
    go_wp2_with (go_at_call 107; refine (HFM.out _).mono ?_; rintro e w3 ⟨rfl, hB3⟩; have hlt3 := (hP.keep hB3).lt; obtain ⟨t0, t1, t2, t3, t4, t5⟩ := ((hP.keep hB3).alloc (.cells #[.bool true, .bool false, .bool false, .int .i64 0] 153)).six)
    go_ret
    exact ⟨rfl, below_allocs (below_up hB1 hB3) _⟩
  ·have G1 := Lib.hid g1
   have a1 : ((an : Int) != 0) = true := by simp; omega
   clear g1
   obtain rfl : b = false := by rw [← hb]; exact Cnd.formB_at_D _ kn an text low high HOP.out G1.out
   rw [if_neg (by simp)]
   clear hb
   go_enter Tryz.func66, Tryz.ntmps66
   go_wp2_with fail
   rw [HW1.out]
   go_wp2_with (go_at_call 107; refine (HFM.out _).mono ?_; rintro e w3 ⟨rfl, hB3⟩; have hlt3 := (hP.keep hB3).lt; obtain ⟨t0, t1, t2, t3, t4, t5⟩ := ((hP.keep hB3).alloc (.cells #[.bool true, .bool false, .bool false, .int .i64 0] 153)).six)
   go_ret
   exact ⟨rfl, below_allocs (below_up hB1 hB3) _⟩
 ·have G0 := Lib.hid g0
  have k1 : (0 : Int) < (kn : Int) := by omega
  clear g0
  obtain rfl : b = false := by rw [← hb]; exact Cnd.formB_kids_D _ kn an text low high HOP.out G0.out
  rw [if_neg (by simp)]
  clear hb
  go_enter Tryz.func66, Tryz.ntmps66
  go_wp2_with fail
  rw [HW1.out]
  go_wp2_with (go_at_call 107; refine (HFM.out _).mono ?_; rintro e w3 ⟨rfl, hB3⟩; have hlt3 := (hP.keep hB3).lt; obtain ⟨t0, t1, t2, t3, t4, t5⟩ := ((hP.keep hB3).alloc (.cells #[.bool true, .bool false, .bool false, .int .i64 0] 153)).six)
  go_ret
  exact ⟨rfl, below_allocs (below_up hB1 hB3) _⟩
theorem checkForm_E (op : Int) (ka : Option Addr) (kn kc : Nat) (text : ByteArray) (low high : Int) (aa : Option Addr) (an ac : Nat) (w : World) (hkn : kn ≤ 9223372036854775807) (han : an ≤ 9223372036854775807) (b : Bool) (hb : Cnd.formB op kn an text low high = b) (hop : op = 6) : Calls Tryz.prog 66 #[.agg #[.int .i64 op, .slice ka kn kc, .string text, .int .i64 low, .int .i64 high, .slice aa an ac]] w fun e w' => e = .returned (.int .i64 (if b = true then 0 else 1)) ∧ Below w.heap.size w w' := by
 have HFM := Lib.hid (Cnd.formC_E op hop)
 have HOP := Lib.hid hop; clear hop
 obtain ⟨W1, hW1, hP, hz1, hB1⟩ := box w #[.int .i64 op, .slice ka kn kc, .string text, .int .i64 low, .int .i64 high, .slice aa an ac] 25
 have HW1 := Lib.hid hW1
 clear hW1 hz1
 obtain ⟨q0, q1, q2, q3, q4, q5⟩ := hP.six
 obtain rfl : op = 6 := HOP.out
 by_cases g0 : kn = 0
 ·have G0 := Lib.hid g0
  have k1 : ¬ (0 : Int) < (kn : Int) := by omega
  clear g0
  by_cases g1 : an = 0
  ·have G1 := Lib.hid g1
   have a1 : ((an : Int) != 0) = false := by simp; omega
   clear g1
   cases ht : text.toList.isEmpty
   ·have HT := Lib.hid ht
    obtain rfl : b = false := by rw [← hb]; exact Cnd.formB_text_E _ kn an text low high HOP.out HT.out
    rw [if_neg (by simp)]
    clear hb
    go_enter Tryz.func66, Tryz.ntmps66
    go_wp2_with fail
    rw [HW1.out]
    go_wp2_with (go_at_call 107; refine (HFM.out _).mono ?_; rintro e w3 ⟨rfl, hB3⟩; have hlt3 := (hP.keep hB3).lt; obtain ⟨t0, t1, t2, t3, t4, t5⟩ := ((hP.keep hB3).alloc (.cells #[.bool false, .bool true, .bool false, .int .i64 0] 153)).six)
    go_ret
    exact ⟨rfl, below_allocs (below_up hB1 hB3) _⟩
   ·have HT := Lib.hid ht
    by_cases g3 : high = 0
    ·have G3 := Lib.hid g3
     have h1 : (high != 0) = false := by simp; omega
     clear g3
     obtain rfl : b = true := by rw [← hb]; exact Cnd.formB_E _ kn an text low high HOP.out G0.out G1.out HT.out G3.out
     rw [if_pos rfl]
     clear hb
     go_enter Tryz.func66, Tryz.ntmps66
     go_wp2_with fail
     rw [HW1.out]
     go_wp2_with (go_at_call 107; refine (HFM.out _).mono ?_; rintro e w3 ⟨rfl, hB3⟩; have hlt3 := (hP.keep hB3).lt; obtain ⟨t0, t1, t2, t3, t4, t5⟩ := ((hP.keep hB3).alloc (.cells #[.bool false, .bool true, .bool false, .int .i64 0] 153)).six)
     go_ret
     exact ⟨rfl, below_allocs (below_up hB1 hB3) _⟩
    ·have G3 := Lib.hid g3
     have h1 : (high != 0) = true := by simp; omega
     clear g3
     obtain rfl : b = false := by rw [← hb]; exact Cnd.formB_high_E _ kn an text low high HOP.out G3.out
     rw [if_neg (by simp)]
     clear hb
     go_enter Tryz.func66, Tryz.ntmps66
     go_wp2_with fail
     rw [HW1.out]
     go_wp2_with (go_at_call 107; refine (HFM.out _).mono ?_; rintro e w3 ⟨rfl, hB3⟩; have hlt3 := (hP.keep hB3).lt; obtain ⟨t0, t1, t2, t3, t4, t5⟩ := ((hP.keep hB3).alloc (.cells #[.bool false, .bool true, .bool false, .int .i64 0] 153)).six)
     go_ret
     exact ⟨rfl, below_allocs (below_up hB1 hB3) _⟩
  ·have G1 := Lib.hid g1
   have a1 : ((an : Int) != 0) = true := by simp; omega
   clear g1
   obtain rfl : b = false := by rw [← hb]; exact Cnd.formB_at_E _ kn an text low high HOP.out G1.out
   rw [if_neg (by simp)]
   clear hb
   go_enter Tryz.func66, Tryz.ntmps66
   go_wp2_with fail
   rw [HW1.out]
   go_wp2_with (go_at_call 107; refine (HFM.out _).mono ?_; rintro e w3 ⟨rfl, hB3⟩; have hlt3 := (hP.keep hB3).lt; obtain ⟨t0, t1, t2, t3, t4, t5⟩ := ((hP.keep hB3).alloc (.cells #[.bool false, .bool true, .bool false, .int .i64 0] 153)).six)
   go_ret
   exact ⟨rfl, below_allocs (below_up hB1 hB3) _⟩
 ·have G0 := Lib.hid g0
  have k1 : (0 : Int) < (kn : Int) := by omega
  clear g0
  obtain rfl : b = false := by rw [← hb]; exact Cnd.formB_kids_E _ kn an text low high HOP.out G0.out
  rw [if_neg (by simp)]
  clear hb
  go_enter Tryz.func66, Tryz.ntmps66
  go_wp2_with fail
  rw [HW1.out]
  go_wp2_with (go_at_call 107; refine (HFM.out _).mono ?_; rintro e w3 ⟨rfl, hB3⟩; have hlt3 := (hP.keep hB3).lt; obtain ⟨t0, t1, t2, t3, t4, t5⟩ := ((hP.keep hB3).alloc (.cells #[.bool false, .bool true, .bool false, .int .i64 0] 153)).six)
  go_ret
  exact ⟨rfl, below_allocs (below_up hB1 hB3) _⟩
theorem checkForm_F (op : Int) (ka : Option Addr) (kn kc : Nat) (text : ByteArray) (low high : Int) (aa : Option Addr) (an ac : Nat) (w : World) (hkn : kn ≤ 9223372036854775807) (han : an ≤ 9223372036854775807) (b : Bool) (hb : Cnd.formB op kn an text low high = b) (hop : op = 7) : Calls Tryz.prog 66 #[.agg #[.int .i64 op, .slice ka kn kc, .string text, .int .i64 low, .int .i64 high, .slice aa an ac]] w fun e w' => e = .returned (.int .i64 (if b = true then 0 else 1)) ∧ Below w.heap.size w w' := by
 have HFM := Lib.hid (Cnd.formC_F op hop)
 have HOP := Lib.hid hop; clear hop
 obtain ⟨W1, hW1, hP, hz1, hB1⟩ := box w #[.int .i64 op, .slice ka kn kc, .string text, .int .i64 low, .int .i64 high, .slice aa an ac] 25
 have HW1 := Lib.hid hW1
 clear hW1 hz1
 obtain ⟨q0, q1, q2, q3, q4, q5⟩ := hP.six
 obtain rfl : op = 7 := HOP.out
 by_cases g0 : kn = 0
 ·have G0 := Lib.hid g0
  have k1 : ¬ (0 : Int) < (kn : Int) := by omega
  clear g0
  by_cases g1 : an = 0
  ·have G1 := Lib.hid g1
   have a1 : ((an : Int) != 0) = false := by simp; omega
   clear g1
   cases ht : text.toList.isEmpty
   ·have HT := Lib.hid ht
    obtain rfl : b = false := by rw [← hb]; exact Cnd.formB_text_F _ kn an text low high HOP.out HT.out
    rw [if_neg (by simp)]
    clear hb
    go_enter Tryz.func66, Tryz.ntmps66
    go_wp2_with fail
    rw [HW1.out]
    go_wp2_with (go_at_call 107; refine (HFM.out _).mono ?_; rintro e w3 ⟨rfl, hB3⟩; have hlt3 := (hP.keep hB3).lt; obtain ⟨t0, t1, t2, t3, t4, t5⟩ := ((hP.keep hB3).alloc (.cells #[.bool false, .bool true, .bool true, .int .i64 0] 153)).six)
    go_ret
    exact ⟨rfl, below_allocs (below_up hB1 hB3) _⟩
   ·have HT := Lib.hid ht
    obtain rfl : b = true := by rw [← hb]; exact Cnd.formB_F _ kn an text low high HOP.out G0.out G1.out HT.out
    rw [if_pos rfl]
    clear hb
    go_enter Tryz.func66, Tryz.ntmps66
    go_wp2_with fail
    rw [HW1.out]
    go_wp2_with (go_at_call 107; refine (HFM.out _).mono ?_; rintro e w3 ⟨rfl, hB3⟩; have hlt3 := (hP.keep hB3).lt; obtain ⟨t0, t1, t2, t3, t4, t5⟩ := ((hP.keep hB3).alloc (.cells #[.bool false, .bool true, .bool true, .int .i64 0] 153)).six)
    go_ret
    exact ⟨rfl, below_allocs (below_up hB1 hB3) _⟩
  ·have G1 := Lib.hid g1
   have a1 : ((an : Int) != 0) = true := by simp; omega
   clear g1
   obtain rfl : b = false := by rw [← hb]; exact Cnd.formB_at_F _ kn an text low high HOP.out G1.out
   rw [if_neg (by simp)]
   clear hb
   go_enter Tryz.func66, Tryz.ntmps66
   go_wp2_with fail
   rw [HW1.out]
   go_wp2_with (go_at_call 107; refine (HFM.out _).mono ?_; rintro e w3 ⟨rfl, hB3⟩; have hlt3 := (hP.keep hB3).lt; obtain ⟨t0, t1, t2, t3, t4, t5⟩ := ((hP.keep hB3).alloc (.cells #[.bool false, .bool true, .bool true, .int .i64 0] 153)).six)
   go_ret
   exact ⟨rfl, below_allocs (below_up hB1 hB3) _⟩
 ·have G0 := Lib.hid g0
  have k1 : (0 : Int) < (kn : Int) := by omega
  clear g0
  obtain rfl : b = false := by rw [← hb]; exact Cnd.formB_kids_F _ kn an text low high HOP.out G0.out
  rw [if_neg (by simp)]
  clear hb
  go_enter Tryz.func66, Tryz.ntmps66
  go_wp2_with fail
  rw [HW1.out]
  go_wp2_with (go_at_call 107; refine (HFM.out _).mono ?_; rintro e w3 ⟨rfl, hB3⟩; have hlt3 := (hP.keep hB3).lt; obtain ⟨t0, t1, t2, t3, t4, t5⟩ := ((hP.keep hB3).alloc (.cells #[.bool false, .bool true, .bool true, .int .i64 0] 153)).six)
  go_ret
  exact ⟨rfl, below_allocs (below_up hB1 hB3) _⟩
theorem checkForm_G (op : Int) (ka : Option Addr) (kn kc : Nat) (text : ByteArray) (low high : Int) (aa : Option Addr) (an ac : Nat) (w : World) (hkn : kn ≤ 9223372036854775807) (han : an ≤ 9223372036854775807) (b : Bool) (hb : Cnd.formB op kn an text low high = b) (hop : op = 8) : Calls Tryz.prog 66 #[.agg #[.int .i64 op, .slice ka kn kc, .string text, .int .i64 low, .int .i64 high, .slice aa an ac]] w fun e w' => e = .returned (.int .i64 (if b = true then 0 else 1)) ∧ Below w.heap.size w w' := by
 have HFM := Lib.hid (Cnd.formC_G op hop)
 have HOP := Lib.hid hop; clear hop
 obtain ⟨W1, hW1, hP, hz1, hB1⟩ := box w #[.int .i64 op, .slice ka kn kc, .string text, .int .i64 low, .int .i64 high, .slice aa an ac] 25
 have HW1 := Lib.hid hW1
 clear hW1 hz1
 obtain ⟨q0, q1, q2, q3, q4, q5⟩ := hP.six
 obtain rfl : op = 8 := HOP.out
 by_cases g0 : kn = 0
 ·have G0 := Lib.hid g0
  have k1 : ¬ (0 : Int) < (kn : Int) := by omega
  clear g0
  by_cases g1 : an = 0
  ·have G1 := Lib.hid g1
   have a1 : ((an : Int) != 0) = false := by simp; omega
   clear g1
   cases ht : text.toList.isEmpty
   ·have HT := Lib.hid ht
    obtain rfl : b = false := by rw [← hb]; exact Cnd.formB_text_G _ kn an text low high HOP.out HT.out
    rw [if_neg (by simp)]
    clear hb
    go_enter Tryz.func66, Tryz.ntmps66
    go_wp2_with fail
    rw [HW1.out]
    go_wp2_with (go_at_call 107; refine (HFM.out _).mono ?_; rintro e w3 ⟨rfl, hB3⟩; have hlt3 := (hP.keep hB3).lt; obtain ⟨t0, t1, t2, t3, t4, t5⟩ := ((hP.keep hB3).alloc (.cells #[.bool false, .bool true, .bool true, .int .i64 0] 153)).six)
    go_ret
    exact ⟨rfl, below_allocs (below_up hB1 hB3) _⟩
   ·have HT := Lib.hid ht
    obtain rfl : b = true := by rw [← hb]; exact Cnd.formB_G _ kn an text low high HOP.out G0.out G1.out HT.out
    rw [if_pos rfl]
    clear hb
    go_enter Tryz.func66, Tryz.ntmps66
    go_wp2_with fail
    rw [HW1.out]
    go_wp2_with (go_at_call 107; refine (HFM.out _).mono ?_; rintro e w3 ⟨rfl, hB3⟩; have hlt3 := (hP.keep hB3).lt; obtain ⟨t0, t1, t2, t3, t4, t5⟩ := ((hP.keep hB3).alloc (.cells #[.bool false, .bool true, .bool true, .int .i64 0] 153)).six)
    go_ret
    exact ⟨rfl, below_allocs (below_up hB1 hB3) _⟩
  ·have G1 := Lib.hid g1
   have a1 : ((an : Int) != 0) = true := by simp; omega
   clear g1
   obtain rfl : b = false := by rw [← hb]; exact Cnd.formB_at_G _ kn an text low high HOP.out G1.out
   rw [if_neg (by simp)]
   clear hb
   go_enter Tryz.func66, Tryz.ntmps66
   go_wp2_with fail
   rw [HW1.out]
   go_wp2_with (go_at_call 107; refine (HFM.out _).mono ?_; rintro e w3 ⟨rfl, hB3⟩; have hlt3 := (hP.keep hB3).lt; obtain ⟨t0, t1, t2, t3, t4, t5⟩ := ((hP.keep hB3).alloc (.cells #[.bool false, .bool true, .bool true, .int .i64 0] 153)).six)
   go_ret
   exact ⟨rfl, below_allocs (below_up hB1 hB3) _⟩
 ·have G0 := Lib.hid g0
  have k1 : (0 : Int) < (kn : Int) := by omega
  clear g0
  obtain rfl : b = false := by rw [← hb]; exact Cnd.formB_kids_G _ kn an text low high HOP.out G0.out
  rw [if_neg (by simp)]
  clear hb
  go_enter Tryz.func66, Tryz.ntmps66
  go_wp2_with fail
  rw [HW1.out]
  go_wp2_with (go_at_call 107; refine (HFM.out _).mono ?_; rintro e w3 ⟨rfl, hB3⟩; have hlt3 := (hP.keep hB3).lt; obtain ⟨t0, t1, t2, t3, t4, t5⟩ := ((hP.keep hB3).alloc (.cells #[.bool false, .bool true, .bool true, .int .i64 0] 153)).six)
  go_ret
  exact ⟨rfl, below_allocs (below_up hB1 hB3) _⟩
theorem checkForm_H (op : Int) (ka : Option Addr) (kn kc : Nat) (text : ByteArray) (low high : Int) (aa : Option Addr) (an ac : Nat) (w : World) (hkn : kn ≤ 9223372036854775807) (han : an ≤ 9223372036854775807) (b : Bool) (hb : Cnd.formB op kn an text low high = b) (hop : op = 9 ∨ op = 10 ∨ op = 11 ∨ op = 12 ∨ op = 13 ∨ op = 16) : Calls Tryz.prog 66 #[.agg #[.int .i64 op, .slice ka kn kc, .string text, .int .i64 low, .int .i64 high, .slice aa an ac]] w fun e w' => e = .returned (.int .i64 (if b = true then 0 else 1)) ∧ Below w.heap.size w w' := by
 have HFM := Lib.hid (Cnd.formC_H op hop)
 have op3 : (op == 3) = false := by rcases hop with rfl | rfl | rfl | rfl | rfl | rfl <;> rfl
 have op14 : (op == 14) = false := by rcases hop with rfl | rfl | rfl | rfl | rfl | rfl <;> rfl
 have op15 : (op == 15) = false := by rcases hop with rfl | rfl | rfl | rfl | rfl | rfl <;> rfl
 have op4 : (op == 4) = false := by rcases hop with rfl | rfl | rfl | rfl | rfl | rfl <;> rfl
 have op5 : (op == 5) = false := by rcases hop with rfl | rfl | rfl | rfl | rfl | rfl <;> rfl
 have op6 : (op == 6) = false := by rcases hop with rfl | rfl | rfl | rfl | rfl | rfl <;> rfl
 have op7 : (op == 7) = false := by rcases hop with rfl | rfl | rfl | rfl | rfl | rfl <;> rfl
 have op8 : (op == 8) = false := by rcases hop with rfl | rfl | rfl | rfl | rfl | rfl <;> rfl
 have opg : (4 : Int) ≤ op := by omega
 have opl : ¬ op < 1 := by omega
 have opm : ¬ (16 : Int) < op := by omega
 have HOP := Lib.hid hop; clear hop
 obtain ⟨W1, hW1, hP, hz1, hB1⟩ := box w #[.int .i64 op, .slice ka kn kc, .string text, .int .i64 low, .int .i64 high, .slice aa an ac] 25
 have HW1 := Lib.hid hW1
 clear hW1 hz1
 obtain ⟨q0, q1, q2, q3, q4, q5⟩ := hP.six
 by_cases g0 : kn = 0
 ·have G0 := Lib.hid g0
  have k1 : ¬ (0 : Int) < (kn : Int) := by omega
  clear g0
  by_cases g1 : an = 0
  ·have G1 := Lib.hid g1
   have a1 : ((an : Int) != 0) = false := by simp; omega
   clear g1
   cases ht : text.toList.isEmpty
   ·have HT := Lib.hid ht
    obtain rfl : b = false := by rw [← hb]; exact Cnd.formB_text_H _ kn an text low high HOP.out HT.out
    rw [if_neg (by simp)]
    clear hb
    go_enter Tryz.func66, Tryz.ntmps66
    go_wp2_with fail
    rw [HW1.out]
    go_wp2_with (go_at_call 107; refine (HFM.out _).mono ?_; rintro e w3 ⟨rfl, hB3⟩; have hlt3 := (hP.keep hB3).lt; obtain ⟨t0, t1, t2, t3, t4, t5⟩ := ((hP.keep hB3).alloc (.cells #[.bool false, .bool false, .bool false, .int .i64 0] 153)).six)
    go_ret
    exact ⟨rfl, below_allocs (below_up hB1 hB3) _⟩
   ·have HT := Lib.hid ht
    by_cases g3 : low = 0
    ·have G3 := Lib.hid g3
     have l1 : (low != 0) = false := by simp; omega
     clear g3
     by_cases g4 : high = 0
     ·have G4 := Lib.hid g4
      have h1 : (high != 0) = false := by simp; omega
      clear g4
      obtain rfl : b = true := by rw [← hb]; exact Cnd.formB_H _ kn an text low high HOP.out G0.out G1.out HT.out G3.out G4.out
      rw [if_pos rfl]
      clear hb
      go_enter Tryz.func66, Tryz.ntmps66
      go_wp2_with fail
      rw [HW1.out]
      go_wp2_with (go_at_call 107; refine (HFM.out _).mono ?_; rintro e w3 ⟨rfl, hB3⟩; have hlt3 := (hP.keep hB3).lt; obtain ⟨t0, t1, t2, t3, t4, t5⟩ := ((hP.keep hB3).alloc (.cells #[.bool false, .bool false, .bool false, .int .i64 0] 153)).six)
      go_ret
      exact ⟨rfl, below_allocs (below_up hB1 hB3) _⟩
     ·have G4 := Lib.hid g4
      have h1 : (high != 0) = true := by simp; omega
      clear g4
      obtain rfl : b = false := by rw [← hb]; exact Cnd.formB_high_H _ kn an text low high HOP.out G4.out
      rw [if_neg (by simp)]
      clear hb
      go_enter Tryz.func66, Tryz.ntmps66
      go_wp2_with fail
      rw [HW1.out]
      go_wp2_with (go_at_call 107; refine (HFM.out _).mono ?_; rintro e w3 ⟨rfl, hB3⟩; have hlt3 := (hP.keep hB3).lt; obtain ⟨t0, t1, t2, t3, t4, t5⟩ := ((hP.keep hB3).alloc (.cells #[.bool false, .bool false, .bool false, .int .i64 0] 153)).six)
      go_ret
      exact ⟨rfl, below_allocs (below_up hB1 hB3) _⟩
    ·have G3 := Lib.hid g3
     have l1 : (low != 0) = true := by simp; omega
     clear g3
     obtain rfl : b = false := by rw [← hb]; exact Cnd.formB_low_H _ kn an text low high HOP.out G3.out
     rw [if_neg (by simp)]
     clear hb
     go_enter Tryz.func66, Tryz.ntmps66
     go_wp2_with fail
     rw [HW1.out]
     go_wp2_with (go_at_call 107; refine (HFM.out _).mono ?_; rintro e w3 ⟨rfl, hB3⟩; have hlt3 := (hP.keep hB3).lt; obtain ⟨t0, t1, t2, t3, t4, t5⟩ := ((hP.keep hB3).alloc (.cells #[.bool false, .bool false, .bool false, .int .i64 0] 153)).six)
     go_ret
     exact ⟨rfl, below_allocs (below_up hB1 hB3) _⟩
  ·have G1 := Lib.hid g1
   have a1 : ((an : Int) != 0) = true := by simp; omega
   clear g1
   obtain rfl : b = false := by rw [← hb]; exact Cnd.formB_at_H _ kn an text low high HOP.out G1.out
   rw [if_neg (by simp)]
   clear hb
   go_enter Tryz.func66, Tryz.ntmps66
   go_wp2_with fail
   rw [HW1.out]
   go_wp2_with (go_at_call 107; refine (HFM.out _).mono ?_; rintro e w3 ⟨rfl, hB3⟩; have hlt3 := (hP.keep hB3).lt; obtain ⟨t0, t1, t2, t3, t4, t5⟩ := ((hP.keep hB3).alloc (.cells #[.bool false, .bool false, .bool false, .int .i64 0] 153)).six)
   go_ret
   exact ⟨rfl, below_allocs (below_up hB1 hB3) _⟩
 ·have G0 := Lib.hid g0
  have k1 : (0 : Int) < (kn : Int) := by omega
  clear g0
  obtain rfl : b = false := by rw [← hb]; exact Cnd.formB_kids_H _ kn an text low high HOP.out G0.out
  rw [if_neg (by simp)]
  clear hb
  go_enter Tryz.func66, Tryz.ntmps66
  go_wp2_with fail
  rw [HW1.out]
  go_wp2_with (go_at_call 107; refine (HFM.out _).mono ?_; rintro e w3 ⟨rfl, hB3⟩; have hlt3 := (hP.keep hB3).lt; obtain ⟨t0, t1, t2, t3, t4, t5⟩ := ((hP.keep hB3).alloc (.cells #[.bool false, .bool false, .bool false, .int .i64 0] 153)).six)
  go_ret
  exact ⟨rfl, below_allocs (below_up hB1 hB3) _⟩
theorem checkForm_I (op : Int) (ka : Option Addr) (kn kc : Nat) (text : ByteArray) (low high : Int) (aa : Option Addr) (an ac : Nat) (w : World) (hkn : kn ≤ 9223372036854775807) (han : an ≤ 9223372036854775807) (b : Bool) (hb : Cnd.formB op kn an text low high = b) (hop : op = 14) : Calls Tryz.prog 66 #[.agg #[.int .i64 op, .slice ka kn kc, .string text, .int .i64 low, .int .i64 high, .slice aa an ac]] w fun e w' => e = .returned (.int .i64 (if b = true then 0 else 1)) ∧ Below w.heap.size w w' := by
 have HFM := Lib.hid (Cnd.formC_I op hop)
 have HOP := Lib.hid hop; clear hop
 obtain ⟨W1, hW1, hP, hz1, hB1⟩ := box w #[.int .i64 op, .slice ka kn kc, .string text, .int .i64 low, .int .i64 high, .slice aa an ac] 25
 have HW1 := Lib.hid hW1
 clear hW1 hz1
 obtain ⟨q0, q1, q2, q3, q4, q5⟩ := hP.six
 obtain rfl : op = 14 := HOP.out
 by_cases g0 : kn = 0
 ·have G0 := Lib.hid g0
  have k1 : ¬ (0 : Int) < (kn : Int) := by omega
  clear g0
  by_cases g1 : an = 1
  ·have G1 := Lib.hid g1
   have a1 : ((an : Int) != 1) = false := by simp; omega
   clear g1
   cases ht : text.toList.isEmpty
   ·have HT := Lib.hid ht
    obtain rfl : b = false := by rw [← hb]; exact Cnd.formB_text_I _ kn an text low high HOP.out HT.out
    rw [if_neg (by simp)]
    clear hb
    go_enter Tryz.func66, Tryz.ntmps66
    go_wp2_with fail
    rw [HW1.out]
    go_wp2_with (go_at_call 107; refine (HFM.out _).mono ?_; rintro e w3 ⟨rfl, hB3⟩; have hlt3 := (hP.keep hB3).lt; obtain ⟨t0, t1, t2, t3, t4, t5⟩ := ((hP.keep hB3).alloc (.cells #[.bool false, .bool true, .bool false, .int .i64 1] 153)).six)
    go_ret
    exact ⟨rfl, below_allocs (below_up hB1 hB3) _⟩
   ·have HT := Lib.hid ht
    by_cases g3 : high = 0
    ·have G3 := Lib.hid g3
     have h1 : (high != 0) = false := by simp; omega
     clear g3
     obtain rfl : b = true := by rw [← hb]; exact Cnd.formB_I _ kn an text low high HOP.out G0.out G1.out HT.out G3.out
     rw [if_pos rfl]
     clear hb
     go_enter Tryz.func66, Tryz.ntmps66
     go_wp2_with fail
     rw [HW1.out]
     go_wp2_with (go_at_call 107; refine (HFM.out _).mono ?_; rintro e w3 ⟨rfl, hB3⟩; have hlt3 := (hP.keep hB3).lt; obtain ⟨t0, t1, t2, t3, t4, t5⟩ := ((hP.keep hB3).alloc (.cells #[.bool false, .bool true, .bool false, .int .i64 1] 153)).six)
     go_ret
     exact ⟨rfl, below_allocs (below_up hB1 hB3) _⟩
    ·have G3 := Lib.hid g3
     have h1 : (high != 0) = true := by simp; omega
     clear g3
     obtain rfl : b = false := by rw [← hb]; exact Cnd.formB_high_I _ kn an text low high HOP.out G3.out
     rw [if_neg (by simp)]
     clear hb
     go_enter Tryz.func66, Tryz.ntmps66
     go_wp2_with fail
     rw [HW1.out]
     go_wp2_with (go_at_call 107; refine (HFM.out _).mono ?_; rintro e w3 ⟨rfl, hB3⟩; have hlt3 := (hP.keep hB3).lt; obtain ⟨t0, t1, t2, t3, t4, t5⟩ := ((hP.keep hB3).alloc (.cells #[.bool false, .bool true, .bool false, .int .i64 1] 153)).six)
     go_ret
     exact ⟨rfl, below_allocs (below_up hB1 hB3) _⟩
  ·have G1 := Lib.hid g1
   have a1 : ((an : Int) != 1) = true := by simp; omega
   clear g1
   obtain rfl : b = false := by rw [← hb]; exact Cnd.formB_at_I _ kn an text low high HOP.out G1.out
   rw [if_neg (by simp)]
   clear hb
   go_enter Tryz.func66, Tryz.ntmps66
   go_wp2_with fail
   rw [HW1.out]
   go_wp2_with (go_at_call 107; refine (HFM.out _).mono ?_; rintro e w3 ⟨rfl, hB3⟩; have hlt3 := (hP.keep hB3).lt; obtain ⟨t0, t1, t2, t3, t4, t5⟩ := ((hP.keep hB3).alloc (.cells #[.bool false, .bool true, .bool false, .int .i64 1] 153)).six)
   go_ret
   exact ⟨rfl, below_allocs (below_up hB1 hB3) _⟩
 ·have G0 := Lib.hid g0
  have k1 : (0 : Int) < (kn : Int) := by omega
  clear g0
  obtain rfl : b = false := by rw [← hb]; exact Cnd.formB_kids_I _ kn an text low high HOP.out G0.out
  rw [if_neg (by simp)]
  clear hb
  go_enter Tryz.func66, Tryz.ntmps66
  go_wp2_with fail
  rw [HW1.out]
  go_wp2_with (go_at_call 107; refine (HFM.out _).mono ?_; rintro e w3 ⟨rfl, hB3⟩; have hlt3 := (hP.keep hB3).lt; obtain ⟨t0, t1, t2, t3, t4, t5⟩ := ((hP.keep hB3).alloc (.cells #[.bool false, .bool true, .bool false, .int .i64 1] 153)).six)
  go_ret
  exact ⟨rfl, below_allocs (below_up hB1 hB3) _⟩
theorem checkForm_J (op : Int) (ka : Option Addr) (kn kc : Nat) (text : ByteArray) (low high : Int) (aa : Option Addr) (an ac : Nat) (w : World) (hkn : kn ≤ 9223372036854775807) (han : an ≤ 9223372036854775807) (b : Bool) (hb : Cnd.formB op kn an text low high = b) (hop : op = 15) : Calls Tryz.prog 66 #[.agg #[.int .i64 op, .slice ka kn kc, .string text, .int .i64 low, .int .i64 high, .slice aa an ac]] w fun e w' => e = .returned (.int .i64 (if b = true then 0 else 1)) ∧ Below w.heap.size w w' := by
 have HFM := Lib.hid (Cnd.formC_J op hop)
 have HOP := Lib.hid hop; clear hop
 obtain ⟨W1, hW1, hP, hz1, hB1⟩ := box w #[.int .i64 op, .slice ka kn kc, .string text, .int .i64 low, .int .i64 high, .slice aa an ac] 25
 have HW1 := Lib.hid hW1
 clear hW1 hz1
 obtain ⟨q0, q1, q2, q3, q4, q5⟩ := hP.six
 obtain rfl : op = 15 := HOP.out
 by_cases g0 : kn = 0
 ·have G0 := Lib.hid g0
  have k1 : ¬ (0 : Int) < (kn : Int) := by omega
  clear g0
  by_cases g1 : an = 2
  ·have G1 := Lib.hid g1
   have a1 : ((an : Int) != 2) = false := by simp; omega
   clear g1
   cases ht : text.toList.isEmpty
   ·have HT := Lib.hid ht
    obtain rfl : b = false := by rw [← hb]; exact Cnd.formB_text_J _ kn an text low high HOP.out HT.out
    rw [if_neg (by simp)]
    clear hb
    go_enter Tryz.func66, Tryz.ntmps66
    go_wp2_with fail
    rw [HW1.out]
    go_wp2_with (go_at_call 107; refine (HFM.out _).mono ?_; rintro e w3 ⟨rfl, hB3⟩; have hlt3 := (hP.keep hB3).lt; obtain ⟨t0, t1, t2, t3, t4, t5⟩ := ((hP.keep hB3).alloc (.cells #[.bool false, .bool false, .bool false, .int .i64 2] 153)).six)
    go_ret
    exact ⟨rfl, below_allocs (below_up hB1 hB3) _⟩
   ·have HT := Lib.hid ht
    by_cases g3 : low = 0
    ·have G3 := Lib.hid g3
     have l1 : (low != 0) = false := by simp; omega
     clear g3
     by_cases g4 : high = 0
     ·have G4 := Lib.hid g4
      have h1 : (high != 0) = false := by simp; omega
      clear g4
      obtain rfl : b = true := by rw [← hb]; exact Cnd.formB_J _ kn an text low high HOP.out G0.out G1.out HT.out G3.out G4.out
      rw [if_pos rfl]
      clear hb
      go_enter Tryz.func66, Tryz.ntmps66
      go_wp2_with fail
      rw [HW1.out]
      go_wp2_with (go_at_call 107; refine (HFM.out _).mono ?_; rintro e w3 ⟨rfl, hB3⟩; have hlt3 := (hP.keep hB3).lt; obtain ⟨t0, t1, t2, t3, t4, t5⟩ := ((hP.keep hB3).alloc (.cells #[.bool false, .bool false, .bool false, .int .i64 2] 153)).six)
      go_ret
      exact ⟨rfl, below_allocs (below_up hB1 hB3) _⟩
     ·have G4 := Lib.hid g4
      have h1 : (high != 0) = true := by simp; omega
      clear g4
      obtain rfl : b = false := by rw [← hb]; exact Cnd.formB_high_J _ kn an text low high HOP.out G4.out
      rw [if_neg (by simp)]
      clear hb
      go_enter Tryz.func66, Tryz.ntmps66
      go_wp2_with fail
      rw [HW1.out]
      go_wp2_with (go_at_call 107; refine (HFM.out _).mono ?_; rintro e w3 ⟨rfl, hB3⟩; have hlt3 := (hP.keep hB3).lt; obtain ⟨t0, t1, t2, t3, t4, t5⟩ := ((hP.keep hB3).alloc (.cells #[.bool false, .bool false, .bool false, .int .i64 2] 153)).six)
      go_ret
      exact ⟨rfl, below_allocs (below_up hB1 hB3) _⟩
    ·have G3 := Lib.hid g3
     have l1 : (low != 0) = true := by simp; omega
     clear g3
     obtain rfl : b = false := by rw [← hb]; exact Cnd.formB_low_J _ kn an text low high HOP.out G3.out
     rw [if_neg (by simp)]
     clear hb
     go_enter Tryz.func66, Tryz.ntmps66
     go_wp2_with fail
     rw [HW1.out]
     go_wp2_with (go_at_call 107; refine (HFM.out _).mono ?_; rintro e w3 ⟨rfl, hB3⟩; have hlt3 := (hP.keep hB3).lt; obtain ⟨t0, t1, t2, t3, t4, t5⟩ := ((hP.keep hB3).alloc (.cells #[.bool false, .bool false, .bool false, .int .i64 2] 153)).six)
     go_ret
     exact ⟨rfl, below_allocs (below_up hB1 hB3) _⟩
  ·have G1 := Lib.hid g1
   have a1 : ((an : Int) != 2) = true := by simp; omega
   clear g1
   obtain rfl : b = false := by rw [← hb]; exact Cnd.formB_at_J _ kn an text low high HOP.out G1.out
   rw [if_neg (by simp)]
   clear hb
   go_enter Tryz.func66, Tryz.ntmps66
   go_wp2_with fail
   rw [HW1.out]
   go_wp2_with (go_at_call 107; refine (HFM.out _).mono ?_; rintro e w3 ⟨rfl, hB3⟩; have hlt3 := (hP.keep hB3).lt; obtain ⟨t0, t1, t2, t3, t4, t5⟩ := ((hP.keep hB3).alloc (.cells #[.bool false, .bool false, .bool false, .int .i64 2] 153)).six)
   go_ret
   exact ⟨rfl, below_allocs (below_up hB1 hB3) _⟩
 ·have G0 := Lib.hid g0
  have k1 : (0 : Int) < (kn : Int) := by omega
  clear g0
  obtain rfl : b = false := by rw [← hb]; exact Cnd.formB_kids_J _ kn an text low high HOP.out G0.out
  rw [if_neg (by simp)]
  clear hb
  go_enter Tryz.func66, Tryz.ntmps66
  go_wp2_with fail
  rw [HW1.out]
  go_wp2_with (go_at_call 107; refine (HFM.out _).mono ?_; rintro e w3 ⟨rfl, hB3⟩; have hlt3 := (hP.keep hB3).lt; obtain ⟨t0, t1, t2, t3, t4, t5⟩ := ((hP.keep hB3).alloc (.cells #[.bool false, .bool false, .bool false, .int .i64 2] 153)).six)
  go_ret
  exact ⟨rfl, below_allocs (below_up hB1 hB3) _⟩
end Go.Proofs.YtimjmjmpaicdbaaGreatDoor
