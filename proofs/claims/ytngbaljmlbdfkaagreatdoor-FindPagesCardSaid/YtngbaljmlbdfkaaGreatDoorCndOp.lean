/- formOf, and the form's tests by classes of operations. -/
import Derived.Test.YtngbaljmlbdfkaaGreatDoorCndForm
import Derived.Test.YtngbaljmlbdfkaaGreatDoorFdSmall
import Derived.Test.YtngbaljmlbdfkaaGreatDoorFdStr3
namespace Go.Proofs.YtngbaljmlbdfkaaGreatDoor
open Go.RowKit Go.Sort
set_option linter.unusedVariables false
theorem Blk.six {w : World} {b : Nat} {c0 c1 c2 c3 c4 c5 : Value} {t : TypeId} (h : Blk w b #[c0, c1, c2, c3, c4, c5] t) :
    w.cell? ⟨b, 0, none⟩ = some c0 ∧ w.cell? ⟨b, 1, none⟩ = some c1 ∧ w.cell? ⟨b, 2, none⟩ = some c2 ∧ w.cell? ⟨b, 3, none⟩ = some c3 ∧ w.cell? ⟨b, 4, none⟩ = some c4 ∧ w.cell? ⟨b, 5, none⟩ = some c5 :=
  ⟨by rw [h.cell]; rfl, by rw [h.cell]; rfl, by rw [h.cell]; rfl, by rw [h.cell]; rfl, by rw [h.cell]; rfl, by rw [h.cell]; rfl⟩
/-- An operation's form, as formOf returns it. -/
def FormC (op : Int) (ft fl fh : Bool) (a : Int) : Prop := ∀ w : World, Calls Tryz.prog 129 #[.int .i64 op] w fun e w' => e = .returned (.agg #[.bool ft, .bool fl, .bool fh, .int .i64 a]) ∧ Below w.heap.size w w'
theorem Blk.four {w : World} {b : Nat} {c0 c1 c2 c3 : Value} {t : TypeId} (h : Blk w b #[c0, c1, c2, c3] t) :
    w.cell? ⟨b, 0, none⟩ = some c0 ∧ w.cell? ⟨b, 1, none⟩ = some c1 ∧ w.cell? ⟨b, 2, none⟩ = some c2 ∧ w.cell? ⟨b, 3, none⟩ = some c3 :=
  ⟨by rw [h.cell]; rfl, by rw [h.cell]; rfl, by rw [h.cell]; rfl, by rw [h.cell]; rfl⟩
theorem Fd.size_of_full {s : ByteArray} (h : s.toList.isEmpty = false) : 1 ≤ s.size := by
  rcases Nat.eq_zero_or_pos s.size with h0 | h0
  · rw [strEmpty_yes s h0] at h; cases h
  · exact h0
theorem Fd.size_of_empty {s : ByteArray} (h : s.toList.isEmpty = true) : s.size = 0 := by
  rcases Nat.eq_zero_or_pos s.size with h0 | h0
  · exact h0
  · rw [strEmpty_no s (by omega)] at h; cases h
theorem Cnd.formC_A (op : Int) (hop : op = 1 ∨ op = 2) : FormC op false false false 0 := by
  rcases hop with rfl | rfl <;> (intro w; go_enter Tryz.func129, Tryz.ntmps129; go_wp2_with fail; refine bodyPost_ret (v := .agg #[.bool false, .bool false, .bool false, .int .i64 0]) (by simp [results, Tryz.results129, go_sem]) rfl ⟨rfl, below_allocs (Below.refl _ _) _⟩)
theorem Cnd.formB_A (op : Int) (kn an : Nat) (text : ByteArray) (low high : Int) (hop : op = 1 ∨ op = 2) (g0 : an = 0) (g1 : text.toList.isEmpty = true) (g2 : low = 0) (g3 : high = 0) : Cnd.formB op kn an text low high = true := by
  rcases hop with rfl | rfl <;> simp_all [Cnd.formB, Cnd.kidsB, Cnd.fText, Cnd.fLow, Cnd.fHigh, Cnd.fAt]
theorem Cnd.formB_at_A (op : Int) (kn an : Nat) (text : ByteArray) (low high : Int) (hop : op = 1 ∨ op = 2) (g : ¬ an = 0) : Cnd.formB op kn an text low high = false := by
  rcases hop with rfl | rfl <;> (unfold Cnd.formB; simp [Cnd.kidsB, Cnd.fText, Cnd.fLow, Cnd.fHigh, Cnd.fAt]; intros; first | omega | simp_all)
theorem Cnd.formB_text_A (op : Int) (kn an : Nat) (text : ByteArray) (low high : Int) (hop : op = 1 ∨ op = 2) (g : text.toList.isEmpty = false) : Cnd.formB op kn an text low high = false := by
  rcases hop with rfl | rfl <;> (unfold Cnd.formB; simp [Cnd.kidsB, Cnd.fText, Cnd.fLow, Cnd.fHigh, Cnd.fAt]; intros; first | omega | simp_all)
theorem Cnd.formB_low_A (op : Int) (kn an : Nat) (text : ByteArray) (low high : Int) (hop : op = 1 ∨ op = 2) (g : ¬ low = 0) : Cnd.formB op kn an text low high = false := by
  rcases hop with rfl | rfl <;> (unfold Cnd.formB; simp [Cnd.kidsB, Cnd.fText, Cnd.fLow, Cnd.fHigh, Cnd.fAt]; intros; first | omega | simp_all)
theorem Cnd.formB_high_A (op : Int) (kn an : Nat) (text : ByteArray) (low high : Int) (hop : op = 1 ∨ op = 2) (g : ¬ high = 0) : Cnd.formB op kn an text low high = false := by
  rcases hop with rfl | rfl <;> (unfold Cnd.formB; simp [Cnd.kidsB, Cnd.fText, Cnd.fLow, Cnd.fHigh, Cnd.fAt]; intros; first | omega | simp_all)
theorem Cnd.formC_B (op : Int) (hop : op = 3) : FormC op false false false 0 := by
  subst hop <;> (intro w; go_enter Tryz.func129, Tryz.ntmps129; go_wp2_with fail; refine bodyPost_ret (v := .agg #[.bool false, .bool false, .bool false, .int .i64 0]) (by simp [results, Tryz.results129, go_sem]) rfl ⟨rfl, below_allocs (Below.refl _ _) _⟩)
theorem Cnd.formB_B (op : Int) (kn an : Nat) (text : ByteArray) (low high : Int) (hop : op = 3) (g0 : kn = 1) (g1 : an = 0) (g2 : text.toList.isEmpty = true) (g3 : low = 0) (g4 : high = 0) : Cnd.formB op kn an text low high = true := by
  subst hop <;> simp_all [Cnd.formB, Cnd.kidsB, Cnd.fText, Cnd.fLow, Cnd.fHigh, Cnd.fAt]
theorem Cnd.formB_kids_B (op : Int) (kn an : Nat) (text : ByteArray) (low high : Int) (hop : op = 3) (g : ¬ kn = 1) : Cnd.formB op kn an text low high = false := by
  subst hop <;> (unfold Cnd.formB; simp [Cnd.kidsB, Cnd.fText, Cnd.fLow, Cnd.fHigh, Cnd.fAt]; intros; first | omega | simp_all)
theorem Cnd.formB_at_B (op : Int) (kn an : Nat) (text : ByteArray) (low high : Int) (hop : op = 3) (g : ¬ an = 0) : Cnd.formB op kn an text low high = false := by
  subst hop <;> (unfold Cnd.formB; simp [Cnd.kidsB, Cnd.fText, Cnd.fLow, Cnd.fHigh, Cnd.fAt]; intros; first | omega | simp_all)
theorem Cnd.formB_text_B (op : Int) (kn an : Nat) (text : ByteArray) (low high : Int) (hop : op = 3) (g : text.toList.isEmpty = false) : Cnd.formB op kn an text low high = false := by
  subst hop <;> (unfold Cnd.formB; simp [Cnd.kidsB, Cnd.fText, Cnd.fLow, Cnd.fHigh, Cnd.fAt]; intros; first | omega | simp_all)
theorem Cnd.formB_low_B (op : Int) (kn an : Nat) (text : ByteArray) (low high : Int) (hop : op = 3) (g : ¬ low = 0) : Cnd.formB op kn an text low high = false := by
  subst hop <;> (unfold Cnd.formB; simp [Cnd.kidsB, Cnd.fText, Cnd.fLow, Cnd.fHigh, Cnd.fAt]; intros; first | omega | simp_all)
theorem Cnd.formB_high_B (op : Int) (kn an : Nat) (text : ByteArray) (low high : Int) (hop : op = 3) (g : ¬ high = 0) : Cnd.formB op kn an text low high = false := by
  subst hop <;> (unfold Cnd.formB; simp [Cnd.kidsB, Cnd.fText, Cnd.fLow, Cnd.fHigh, Cnd.fAt]; intros; first | omega | simp_all)
theorem Cnd.formC_C (op : Int) (hop : op = 4) : FormC op true false false 0 := by
  subst hop <;> (intro w; go_enter Tryz.func129, Tryz.ntmps129; go_wp2_with fail; refine bodyPost_ret (v := .agg #[.bool true, .bool false, .bool false, .int .i64 0]) (by simp [results, Tryz.results129, go_sem]) rfl ⟨rfl, below_allocs (Below.refl _ _) _⟩)
theorem Cnd.formB_C (op : Int) (kn an : Nat) (text : ByteArray) (low high : Int) (hop : op = 4) (g0 : kn = 0) (g1 : an = 0) (g2 : low = 0) (g3 : high = 0) : Cnd.formB op kn an text low high = true := by
  subst hop <;> simp_all [Cnd.formB, Cnd.kidsB, Cnd.fText, Cnd.fLow, Cnd.fHigh, Cnd.fAt]
theorem Cnd.formB_kids_C (op : Int) (kn an : Nat) (text : ByteArray) (low high : Int) (hop : op = 4) (g : ¬ kn = 0) : Cnd.formB op kn an text low high = false := by
  subst hop <;> (unfold Cnd.formB; simp [Cnd.kidsB, Cnd.fText, Cnd.fLow, Cnd.fHigh, Cnd.fAt]; intros; first | omega | simp_all)
theorem Cnd.formB_at_C (op : Int) (kn an : Nat) (text : ByteArray) (low high : Int) (hop : op = 4) (g : ¬ an = 0) : Cnd.formB op kn an text low high = false := by
  subst hop <;> (unfold Cnd.formB; simp [Cnd.kidsB, Cnd.fText, Cnd.fLow, Cnd.fHigh, Cnd.fAt]; intros; first | omega | simp_all)
theorem Cnd.formB_low_C (op : Int) (kn an : Nat) (text : ByteArray) (low high : Int) (hop : op = 4) (g : ¬ low = 0) : Cnd.formB op kn an text low high = false := by
  subst hop <;> (unfold Cnd.formB; simp [Cnd.kidsB, Cnd.fText, Cnd.fLow, Cnd.fHigh, Cnd.fAt]; intros; first | omega | simp_all)
theorem Cnd.formB_high_C (op : Int) (kn an : Nat) (text : ByteArray) (low high : Int) (hop : op = 4) (g : ¬ high = 0) : Cnd.formB op kn an text low high = false := by
  subst hop <;> (unfold Cnd.formB; simp [Cnd.kidsB, Cnd.fText, Cnd.fLow, Cnd.fHigh, Cnd.fAt]; intros; first | omega | simp_all)
theorem Cnd.formC_D (op : Int) (hop : op = 5) : FormC op true false false 0 := by
  subst hop <;> (intro w; go_enter Tryz.func129, Tryz.ntmps129; go_wp2_with fail; refine bodyPost_ret (v := .agg #[.bool true, .bool false, .bool false, .int .i64 0]) (by simp [results, Tryz.results129, go_sem]) rfl ⟨rfl, below_allocs (Below.refl _ _) _⟩)
theorem Cnd.formB_D (op : Int) (kn an : Nat) (text : ByteArray) (low high : Int) (hop : op = 5) (g0 : kn = 0) (g1 : an = 0) (g2 : low = 0) (g3 : high = 0) : Cnd.formB op kn an text low high = true := by
  subst hop <;> simp_all [Cnd.formB, Cnd.kidsB, Cnd.fText, Cnd.fLow, Cnd.fHigh, Cnd.fAt]
theorem Cnd.formB_kids_D (op : Int) (kn an : Nat) (text : ByteArray) (low high : Int) (hop : op = 5) (g : ¬ kn = 0) : Cnd.formB op kn an text low high = false := by
  subst hop <;> (unfold Cnd.formB; simp [Cnd.kidsB, Cnd.fText, Cnd.fLow, Cnd.fHigh, Cnd.fAt]; intros; first | omega | simp_all)
theorem Cnd.formB_at_D (op : Int) (kn an : Nat) (text : ByteArray) (low high : Int) (hop : op = 5) (g : ¬ an = 0) : Cnd.formB op kn an text low high = false := by
  subst hop <;> (unfold Cnd.formB; simp [Cnd.kidsB, Cnd.fText, Cnd.fLow, Cnd.fHigh, Cnd.fAt]; intros; first | omega | simp_all)
theorem Cnd.formB_low_D (op : Int) (kn an : Nat) (text : ByteArray) (low high : Int) (hop : op = 5) (g : ¬ low = 0) : Cnd.formB op kn an text low high = false := by
  subst hop <;> (unfold Cnd.formB; simp [Cnd.kidsB, Cnd.fText, Cnd.fLow, Cnd.fHigh, Cnd.fAt]; intros; first | omega | simp_all)
theorem Cnd.formB_high_D (op : Int) (kn an : Nat) (text : ByteArray) (low high : Int) (hop : op = 5) (g : ¬ high = 0) : Cnd.formB op kn an text low high = false := by
  subst hop <;> (unfold Cnd.formB; simp [Cnd.kidsB, Cnd.fText, Cnd.fLow, Cnd.fHigh, Cnd.fAt]; intros; first | omega | simp_all)
theorem Cnd.formC_E (op : Int) (hop : op = 6) : FormC op false true false 0 := by
  subst hop <;> (intro w; go_enter Tryz.func129, Tryz.ntmps129; go_wp2_with fail; refine bodyPost_ret (v := .agg #[.bool false, .bool true, .bool false, .int .i64 0]) (by simp [results, Tryz.results129, go_sem]) rfl ⟨rfl, below_allocs (Below.refl _ _) _⟩)
theorem Cnd.formB_E (op : Int) (kn an : Nat) (text : ByteArray) (low high : Int) (hop : op = 6) (g0 : kn = 0) (g1 : an = 0) (g2 : text.toList.isEmpty = true) (g3 : high = 0) : Cnd.formB op kn an text low high = true := by
  subst hop <;> simp_all [Cnd.formB, Cnd.kidsB, Cnd.fText, Cnd.fLow, Cnd.fHigh, Cnd.fAt]
theorem Cnd.formB_kids_E (op : Int) (kn an : Nat) (text : ByteArray) (low high : Int) (hop : op = 6) (g : ¬ kn = 0) : Cnd.formB op kn an text low high = false := by
  subst hop <;> (unfold Cnd.formB; simp [Cnd.kidsB, Cnd.fText, Cnd.fLow, Cnd.fHigh, Cnd.fAt]; intros; first | omega | simp_all)
theorem Cnd.formB_at_E (op : Int) (kn an : Nat) (text : ByteArray) (low high : Int) (hop : op = 6) (g : ¬ an = 0) : Cnd.formB op kn an text low high = false := by
  subst hop <;> (unfold Cnd.formB; simp [Cnd.kidsB, Cnd.fText, Cnd.fLow, Cnd.fHigh, Cnd.fAt]; intros; first | omega | simp_all)
theorem Cnd.formB_text_E (op : Int) (kn an : Nat) (text : ByteArray) (low high : Int) (hop : op = 6) (g : text.toList.isEmpty = false) : Cnd.formB op kn an text low high = false := by
  subst hop <;> (unfold Cnd.formB; simp [Cnd.kidsB, Cnd.fText, Cnd.fLow, Cnd.fHigh, Cnd.fAt]; intros; first | omega | simp_all)
theorem Cnd.formB_high_E (op : Int) (kn an : Nat) (text : ByteArray) (low high : Int) (hop : op = 6) (g : ¬ high = 0) : Cnd.formB op kn an text low high = false := by
  subst hop <;> (unfold Cnd.formB; simp [Cnd.kidsB, Cnd.fText, Cnd.fLow, Cnd.fHigh, Cnd.fAt]; intros; first | omega | simp_all)
theorem Cnd.formC_F (op : Int) (hop : op = 7) : FormC op false true true 0 := by
  subst hop <;> (intro w; go_enter Tryz.func129, Tryz.ntmps129; go_wp2_with fail; refine bodyPost_ret (v := .agg #[.bool false, .bool true, .bool true, .int .i64 0]) (by simp [results, Tryz.results129, go_sem]) rfl ⟨rfl, below_allocs (Below.refl _ _) _⟩)
theorem Cnd.formB_F (op : Int) (kn an : Nat) (text : ByteArray) (low high : Int) (hop : op = 7) (g0 : kn = 0) (g1 : an = 0) (g2 : text.toList.isEmpty = true) : Cnd.formB op kn an text low high = true := by
  subst hop <;> simp_all [Cnd.formB, Cnd.kidsB, Cnd.fText, Cnd.fLow, Cnd.fHigh, Cnd.fAt]
theorem Cnd.formB_kids_F (op : Int) (kn an : Nat) (text : ByteArray) (low high : Int) (hop : op = 7) (g : ¬ kn = 0) : Cnd.formB op kn an text low high = false := by
  subst hop <;> (unfold Cnd.formB; simp [Cnd.kidsB, Cnd.fText, Cnd.fLow, Cnd.fHigh, Cnd.fAt]; intros; first | omega | simp_all)
theorem Cnd.formB_at_F (op : Int) (kn an : Nat) (text : ByteArray) (low high : Int) (hop : op = 7) (g : ¬ an = 0) : Cnd.formB op kn an text low high = false := by
  subst hop <;> (unfold Cnd.formB; simp [Cnd.kidsB, Cnd.fText, Cnd.fLow, Cnd.fHigh, Cnd.fAt]; intros; first | omega | simp_all)
theorem Cnd.formB_text_F (op : Int) (kn an : Nat) (text : ByteArray) (low high : Int) (hop : op = 7) (g : text.toList.isEmpty = false) : Cnd.formB op kn an text low high = false := by
  subst hop <;> (unfold Cnd.formB; simp [Cnd.kidsB, Cnd.fText, Cnd.fLow, Cnd.fHigh, Cnd.fAt]; intros; first | omega | simp_all)
theorem Cnd.formC_G (op : Int) (hop : op = 8) : FormC op false true true 0 := by
  subst hop <;> (intro w; go_enter Tryz.func129, Tryz.ntmps129; go_wp2_with fail; refine bodyPost_ret (v := .agg #[.bool false, .bool true, .bool true, .int .i64 0]) (by simp [results, Tryz.results129, go_sem]) rfl ⟨rfl, below_allocs (Below.refl _ _) _⟩)
theorem Cnd.formB_G (op : Int) (kn an : Nat) (text : ByteArray) (low high : Int) (hop : op = 8) (g0 : kn = 0) (g1 : an = 0) (g2 : text.toList.isEmpty = true) : Cnd.formB op kn an text low high = true := by
  subst hop <;> simp_all [Cnd.formB, Cnd.kidsB, Cnd.fText, Cnd.fLow, Cnd.fHigh, Cnd.fAt]
theorem Cnd.formB_kids_G (op : Int) (kn an : Nat) (text : ByteArray) (low high : Int) (hop : op = 8) (g : ¬ kn = 0) : Cnd.formB op kn an text low high = false := by
  subst hop <;> (unfold Cnd.formB; simp [Cnd.kidsB, Cnd.fText, Cnd.fLow, Cnd.fHigh, Cnd.fAt]; intros; first | omega | simp_all)
theorem Cnd.formB_at_G (op : Int) (kn an : Nat) (text : ByteArray) (low high : Int) (hop : op = 8) (g : ¬ an = 0) : Cnd.formB op kn an text low high = false := by
  subst hop <;> (unfold Cnd.formB; simp [Cnd.kidsB, Cnd.fText, Cnd.fLow, Cnd.fHigh, Cnd.fAt]; intros; first | omega | simp_all)
theorem Cnd.formB_text_G (op : Int) (kn an : Nat) (text : ByteArray) (low high : Int) (hop : op = 8) (g : text.toList.isEmpty = false) : Cnd.formB op kn an text low high = false := by
  subst hop <;> (unfold Cnd.formB; simp [Cnd.kidsB, Cnd.fText, Cnd.fLow, Cnd.fHigh, Cnd.fAt]; intros; first | omega | simp_all)
theorem Cnd.formC_H (op : Int) (hop : op = 9 ∨ op = 10 ∨ op = 11 ∨ op = 12 ∨ op = 13 ∨ op = 16) : FormC op false false false 0 := by
  rcases hop with rfl | rfl | rfl | rfl | rfl | rfl <;> (intro w; go_enter Tryz.func129, Tryz.ntmps129; go_wp2_with fail; refine bodyPost_ret (v := .agg #[.bool false, .bool false, .bool false, .int .i64 0]) (by simp [results, Tryz.results129, go_sem]) rfl ⟨rfl, below_allocs (Below.refl _ _) _⟩)
theorem Cnd.formB_H (op : Int) (kn an : Nat) (text : ByteArray) (low high : Int) (hop : op = 9 ∨ op = 10 ∨ op = 11 ∨ op = 12 ∨ op = 13 ∨ op = 16) (g0 : kn = 0) (g1 : an = 0) (g2 : text.toList.isEmpty = true) (g3 : low = 0) (g4 : high = 0) : Cnd.formB op kn an text low high = true := by
  rcases hop with rfl | rfl | rfl | rfl | rfl | rfl <;> simp_all [Cnd.formB, Cnd.kidsB, Cnd.fText, Cnd.fLow, Cnd.fHigh, Cnd.fAt]
theorem Cnd.formB_kids_H (op : Int) (kn an : Nat) (text : ByteArray) (low high : Int) (hop : op = 9 ∨ op = 10 ∨ op = 11 ∨ op = 12 ∨ op = 13 ∨ op = 16) (g : ¬ kn = 0) : Cnd.formB op kn an text low high = false := by
  rcases hop with rfl | rfl | rfl | rfl | rfl | rfl <;> (unfold Cnd.formB; simp [Cnd.kidsB, Cnd.fText, Cnd.fLow, Cnd.fHigh, Cnd.fAt]; intros; first | omega | simp_all)
theorem Cnd.formB_at_H (op : Int) (kn an : Nat) (text : ByteArray) (low high : Int) (hop : op = 9 ∨ op = 10 ∨ op = 11 ∨ op = 12 ∨ op = 13 ∨ op = 16) (g : ¬ an = 0) : Cnd.formB op kn an text low high = false := by
  rcases hop with rfl | rfl | rfl | rfl | rfl | rfl <;> (unfold Cnd.formB; simp [Cnd.kidsB, Cnd.fText, Cnd.fLow, Cnd.fHigh, Cnd.fAt]; intros; first | omega | simp_all)
theorem Cnd.formB_text_H (op : Int) (kn an : Nat) (text : ByteArray) (low high : Int) (hop : op = 9 ∨ op = 10 ∨ op = 11 ∨ op = 12 ∨ op = 13 ∨ op = 16) (g : text.toList.isEmpty = false) : Cnd.formB op kn an text low high = false := by
  rcases hop with rfl | rfl | rfl | rfl | rfl | rfl <;> (unfold Cnd.formB; simp [Cnd.kidsB, Cnd.fText, Cnd.fLow, Cnd.fHigh, Cnd.fAt]; intros; first | omega | simp_all)
theorem Cnd.formB_low_H (op : Int) (kn an : Nat) (text : ByteArray) (low high : Int) (hop : op = 9 ∨ op = 10 ∨ op = 11 ∨ op = 12 ∨ op = 13 ∨ op = 16) (g : ¬ low = 0) : Cnd.formB op kn an text low high = false := by
  rcases hop with rfl | rfl | rfl | rfl | rfl | rfl <;> (unfold Cnd.formB; simp [Cnd.kidsB, Cnd.fText, Cnd.fLow, Cnd.fHigh, Cnd.fAt]; intros; first | omega | simp_all)
theorem Cnd.formB_high_H (op : Int) (kn an : Nat) (text : ByteArray) (low high : Int) (hop : op = 9 ∨ op = 10 ∨ op = 11 ∨ op = 12 ∨ op = 13 ∨ op = 16) (g : ¬ high = 0) : Cnd.formB op kn an text low high = false := by
  rcases hop with rfl | rfl | rfl | rfl | rfl | rfl <;> (unfold Cnd.formB; simp [Cnd.kidsB, Cnd.fText, Cnd.fLow, Cnd.fHigh, Cnd.fAt]; intros; first | omega | simp_all)
theorem Cnd.formC_I (op : Int) (hop : op = 14) : FormC op false true false 1 := by
  subst hop <;> (intro w; go_enter Tryz.func129, Tryz.ntmps129; go_wp2_with fail; refine bodyPost_ret (v := .agg #[.bool false, .bool true, .bool false, .int .i64 1]) (by simp [results, Tryz.results129, go_sem]) rfl ⟨rfl, below_allocs (Below.refl _ _) _⟩)
theorem Cnd.formB_I (op : Int) (kn an : Nat) (text : ByteArray) (low high : Int) (hop : op = 14) (g0 : kn = 0) (g1 : an = 1) (g2 : text.toList.isEmpty = true) (g3 : high = 0) : Cnd.formB op kn an text low high = true := by
  subst hop <;> simp_all [Cnd.formB, Cnd.kidsB, Cnd.fText, Cnd.fLow, Cnd.fHigh, Cnd.fAt]
theorem Cnd.formB_kids_I (op : Int) (kn an : Nat) (text : ByteArray) (low high : Int) (hop : op = 14) (g : ¬ kn = 0) : Cnd.formB op kn an text low high = false := by
  subst hop <;> (unfold Cnd.formB; simp [Cnd.kidsB, Cnd.fText, Cnd.fLow, Cnd.fHigh, Cnd.fAt]; intros; first | omega | simp_all)
theorem Cnd.formB_at_I (op : Int) (kn an : Nat) (text : ByteArray) (low high : Int) (hop : op = 14) (g : ¬ an = 1) : Cnd.formB op kn an text low high = false := by
  subst hop <;> (unfold Cnd.formB; simp [Cnd.kidsB, Cnd.fText, Cnd.fLow, Cnd.fHigh, Cnd.fAt]; intros; first | omega | simp_all)
theorem Cnd.formB_text_I (op : Int) (kn an : Nat) (text : ByteArray) (low high : Int) (hop : op = 14) (g : text.toList.isEmpty = false) : Cnd.formB op kn an text low high = false := by
  subst hop <;> (unfold Cnd.formB; simp [Cnd.kidsB, Cnd.fText, Cnd.fLow, Cnd.fHigh, Cnd.fAt]; intros; first | omega | simp_all)
theorem Cnd.formB_high_I (op : Int) (kn an : Nat) (text : ByteArray) (low high : Int) (hop : op = 14) (g : ¬ high = 0) : Cnd.formB op kn an text low high = false := by
  subst hop <;> (unfold Cnd.formB; simp [Cnd.kidsB, Cnd.fText, Cnd.fLow, Cnd.fHigh, Cnd.fAt]; intros; first | omega | simp_all)
theorem Cnd.formC_J (op : Int) (hop : op = 15) : FormC op false false false 2 := by
  subst hop <;> (intro w; go_enter Tryz.func129, Tryz.ntmps129; go_wp2_with fail; refine bodyPost_ret (v := .agg #[.bool false, .bool false, .bool false, .int .i64 2]) (by simp [results, Tryz.results129, go_sem]) rfl ⟨rfl, below_allocs (Below.refl _ _) _⟩)
theorem Cnd.formB_J (op : Int) (kn an : Nat) (text : ByteArray) (low high : Int) (hop : op = 15) (g0 : kn = 0) (g1 : an = 2) (g2 : text.toList.isEmpty = true) (g3 : low = 0) (g4 : high = 0) : Cnd.formB op kn an text low high = true := by
  subst hop <;> simp_all [Cnd.formB, Cnd.kidsB, Cnd.fText, Cnd.fLow, Cnd.fHigh, Cnd.fAt]
theorem Cnd.formB_kids_J (op : Int) (kn an : Nat) (text : ByteArray) (low high : Int) (hop : op = 15) (g : ¬ kn = 0) : Cnd.formB op kn an text low high = false := by
  subst hop <;> (unfold Cnd.formB; simp [Cnd.kidsB, Cnd.fText, Cnd.fLow, Cnd.fHigh, Cnd.fAt]; intros; first | omega | simp_all)
theorem Cnd.formB_at_J (op : Int) (kn an : Nat) (text : ByteArray) (low high : Int) (hop : op = 15) (g : ¬ an = 2) : Cnd.formB op kn an text low high = false := by
  subst hop <;> (unfold Cnd.formB; simp [Cnd.kidsB, Cnd.fText, Cnd.fLow, Cnd.fHigh, Cnd.fAt]; intros; first | omega | simp_all)
theorem Cnd.formB_text_J (op : Int) (kn an : Nat) (text : ByteArray) (low high : Int) (hop : op = 15) (g : text.toList.isEmpty = false) : Cnd.formB op kn an text low high = false := by
  subst hop <;> (unfold Cnd.formB; simp [Cnd.kidsB, Cnd.fText, Cnd.fLow, Cnd.fHigh, Cnd.fAt]; intros; first | omega | simp_all)
theorem Cnd.formB_low_J (op : Int) (kn an : Nat) (text : ByteArray) (low high : Int) (hop : op = 15) (g : ¬ low = 0) : Cnd.formB op kn an text low high = false := by
  subst hop <;> (unfold Cnd.formB; simp [Cnd.kidsB, Cnd.fText, Cnd.fLow, Cnd.fHigh, Cnd.fAt]; intros; first | omega | simp_all)
theorem Cnd.formB_high_J (op : Int) (kn an : Nat) (text : ByteArray) (low high : Int) (hop : op = 15) (g : ¬ high = 0) : Cnd.formB op kn an text low high = false := by
  subst hop <;> (unfold Cnd.formB; simp [Cnd.kidsB, Cnd.fText, Cnd.fLow, Cnd.fHigh, Cnd.fAt]; intros; first | omega | simp_all)
end Go.Proofs.YtngbaljmlbdfkaaGreatDoor
