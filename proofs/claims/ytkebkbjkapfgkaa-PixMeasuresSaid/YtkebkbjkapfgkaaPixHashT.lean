/- HashTurned of the program. -/
import Derived.Test.YtkebkbjkapfgkaaPixMeas
namespace Go.Proofs.Ytkebkbjkapfgkaa
open Go.RowKit Go.Sort
set_option linter.unusedVariables false
theorem hturned_err (W H : Int) (a : Option Addr) (n ca : Nat) (q : Int) (w : World) (hn : n ≤ 9223372036854775807) (he : Im.err W H n = q) (hq : q ≠ 0) :
    Calls Try.prog 43 #[.agg #[.int .i64 W, .int .i64 H, .slice a n ca]] w fun e w' => e = .returned (.tuple #[.slice none 0 0, .int .i64 q]) ∧ Below w.heap.size w w' := by
  have HE := Lib.hid he; clear he
  have hq' : (q == 0) = false := by simpa using hq
  obtain ⟨W1, HW1, hP, hs1, hB1⟩ := box w #[.int .i64 W, .int .i64 H, .slice a n ca] 24
  have H1 := Lib.hid HW1; clear HW1
  obtain ⟨p0, p1, p2⟩ := hP.three
  go_enter Try.func43, Try.ntmps43
  go_wp2_with (go_at_call 28; rw [H1.out]; refine (check_is _ _ _ _ _ _ hn).mono ?_; rw [HE.out]; rintro e w' ⟨rfl, hB⟩)
  go_ret2
  exact ⟨rfl, below_up hB1 hB⟩
/-- The eight hashes. -/
def Im.hT (W H : Nat) (px : Nat → Int) (t : Nat) : Nat := Im.hashOf (Im.sw t W H) (Im.sh t W H) (Im.turnOf t W H px)
def hcells (h : Nat → Nat) (i : Nat) : Array Value := ((List.range 8).map (fun j => Value.int .u64 (if j < i then (h (j + 1) : Int) else 0))).toArray
theorem hcells_set (h : Nat → Nat) (i : Nat) (hi : i < 8) : (hcells h i).setIfInBounds i (.int .u64 (h (i + 1) : Int)) = hcells h (i + 1) := by
  unfold hcells
  rw [← Array.toList_inj]
  simp only [Array.toList_setIfInBounds]
  refine List.ext_getElem (by simp) fun k h1 h2 => ?_
  rw [List.getElem_set]
  by_cases hk : k = i
  · subst hk; simp
  · rw [if_neg (fun e => hk e.symm)]
    simp
    by_cases h3 : k < i
    · rw [if_pos h3, if_pos (by omega)]
    · rw [if_neg h3, if_neg (by omega)]
theorem make8' (w : World) : (Instr.makeSlice 57 (.int .i64 8) (.int .i64 8)).run Try.prog w = .ok (.slice (some ⟨w.heap.size, 0, none⟩) 8 8) (w.alloc (.cells #[.int .u64 0, .int .u64 0, .int .u64 0, .int .u64 0, .int .u64 0, .int .u64 0, .int .u64 0, .int .u64 0] 51)) := by kernel_rfl
theorem make8 (h : Nat → Nat) (w : World) : (Instr.makeSlice 57 (.int .i64 8) (.int .i64 8)).run Try.prog w = .ok (.slice (some ⟨w.heap.size, 0, none⟩) 8 8) (w.alloc (.cells (hcells h 0) 51)) := by
  have e : hcells h 0 = #[.int .u64 0, .int .u64 0, .int .u64 0, .int .u64 0, .int .u64 0, .int .u64 0, .int .u64 0, .int .u64 0] := by
    simp [hcells, List.range, List.range.loop]
  rw [e]; exact make8' w
set_option maxRecDepth 100000 in
set_option maxHeartbeats 1000000 in
theorem hturned_ok (W H : Nat) (a : Option Addr) (ca : Nat) (px : Nat → Int) (w : World) (hW : 1 ≤ W ∧ W ≤ 64 ∧ 1 ≤ H ∧ H ≤ 64) (hr : Bytes w a (3 * (H * W)) px)
    (hca : 3 * (H * W) ≤ ca) (hca2 : ca ≤ 9223372036854775807) (hpx : ∀ i, 0 ≤ px i ∧ px i ≤ 255) :
    Calls Try.prog 43 #[.agg #[.int .i64 W, .int .i64 H, .slice a (3 * (H * W)) ca]] w fun e w' => ∃ g, e = .returned (.tuple #[.slice (some ⟨g, 0, none⟩) 8 8, .int .i64 0]) ∧ Blk w' g (hcells (Im.hT W H px) 8) 51 ∧ Below w.heap.size w w' := by
  have HE := Lib.hid (err_ok W H hW)
  have HT := Lib.hid (fun t (ht : 1 ≤ t ∧ t ≤ 8) V (hV : Below w.heap.size w V) => turned_is t W H a ca px V ht hW (hr.keep hV) hca hca2)
  have hh : ∀ t, 1 ≤ t ∧ t ≤ 8 → ∀ V a2 c2, Bytes V a2 (3 * (H * W)) (Im.turnOf t W H px) → 3 * (H * W) ≤ c2 → c2 ≤ 9223372036854775807 → Calls Try.prog 77 #[.agg #[.int .i64 (Im.sw t W H : Nat), .int .i64 (Im.sh t W H : Nat), .slice a2 (3 * (H * W)) c2]] V fun e w' => e = .returned (.int .u64 (Im.hT W H px t : Nat)) ∧ Below V.heap.size V w' := by
    intro t ht V a2 c2 h1 h2 h3
    have := hash_is (Im.sw t W H) (Im.sh t W H) a2 c2 (Im.turnOf t W H px) V (Im.s_bd hW) (by rw [Im.s_mul]; exact h1) (by rw [Im.s_mul]; exact h2) h3 (fun i => hpx _)
    rw [Im.s_mul] at this
    exact this
  have HH := Lib.hid hh; clear hh
  have hWH : H * W ≤ 4096 := Nat.mul_le_mul hW.2.2.2 hW.2.1
  generalize Im.hT W H px = h at *
  generalize 3 * (H * W) = N at *
  clear hr hpx
  obtain ⟨W1, HW1, hP, hs1, hB1⟩ := box w #[.int .i64 W, .int .i64 H, .slice a N ca] 24
  have H1 := Lib.hid HW1; clear HW1
  have hmk := make8 h
  go_enter Try.func43, Try.ntmps43
  go_wp2_with (go_at_call 28; rw [H1.out]; refine (check_is _ _ _ _ _ _ (by omega)).mono ?_; rw [HE.out]; rintro e w1 ⟨rfl, hB⟩)
  obtain ⟨w2, HW2, hL, hs2, hB2⟩ := box w1 (hcells h 0) 51
  rw [HW2]
  have hP := (hP.keep hB).keep hB2
  have hB02 := below_up hB1 (below_up hB hB2)
  obtain ⟨g, hg⟩ : ∃ g, g = w1.heap.size := ⟨_, rfl⟩
  rw [← hg] at hL ⊢
  have hgp : w.heap.size + 1 ≤ g := by have := hB.size; omega
  clear HW2 hs2 hg hmk hB1 hB hB2 hs1
  go_loopg [15] 8 (fun gk v wr => ∃ i : Nat, i ≤ 8 ∧ gk = 8 - i ∧ v = .int .i64 i ∧ Blk wr g (hcells h i) 51 ∧ Blk wr w.heap.size #[.int .i64 W, .int .i64 H, .slice a N ca] 24 ∧ Below w.heap.size w wr)
  case atStart => exact ⟨0, by omega, rfl, rfl, hL, hP, hB02⟩
  case round =>
    clear hL hP hB02
    obtain ⟨i, hi, rfl, rfl, hL, hP, hB⟩ := hrel
    by_cases hlt : i < 8
    · obtain ⟨p0, p1, p2⟩ := hP.three
      have HTI := Lib.hid (HT.out (i + 1) (by omega))
      have HHI := Lib.hid (HH.out (i + 1) (by omega))
      have HST := Lib.hid (hcells_set h i hlt)
      rw [show ((i + 1 : Nat) : Int) = (i : Int) + 1 from by simp] at HTI
      generalize h (i + 1) = hv at *
      generalize Im.turnOf (i + 1) W H px = gt at *
      generalize Im.sw (i + 1) W H = tw at *
      generalize Im.sh (i + 1) W H = th at *
      go_wp2_with (first
        | (go_at_call 70; refine (HTI.out _ hB).mono ?_; rintro e w3 ⟨a3, c3, rfl, hb3, hc3, hd3, hBx⟩; have hL := hL.keep hBx; have hP := hP.keep hBx; have hB := below_up hB hBx)
        | (go_at_call 77; refine (HHI.out _ _ _ hb3 hc3 hd3).mono ?_; rintro e w4 ⟨rfl, hBx⟩; have hL := hL.keep hBx; have hP := hP.keep hBx; have hB := below_up hB hBx; have hLF := hL.free; have hcell : w4.cell? ⟨g, i, none⟩ = some (.int .u64 0) := (by rw [hL.cell]; simp [hcells, hlt])))
      have hL2 := hL.set i (.int .u64 hv)
      rw [HST.out] at hL2
      go_roundg (8 - (i + 1))
      case rel => exact ⟨i + 1, by omega, rfl, by go_num, hL2, hP.setOther (by simp; omega) _, hB.setCell (by simp; omega) _⟩
      case measure => omega
    · obtain rfl : i = 8 := by omega
      go_wp2_with fail
      go_ret2
      exact ⟨g, rfl, hL, hB⟩
end Go.Proofs.Ytkebkbjkapfgkaa
