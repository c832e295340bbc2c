/- Turn: errors, and the turned image. -/
import Derived.Test.YtkebkbjkapfgkaaPixTurned
namespace Go.Proofs.Ytkebkbjkapfgkaa
open Go.RowKit Go.Sort
set_option linter.unusedVariables false
/-- Bytes are not the fields of a box: a store into the box leaves them. -/
theorem Bytes.fields {w : World} {B : Nat} {x y : Int} {p : Option Addr} {q r : Nat} {t : TypeId} {a : Option Addr} {n : Nat} {f : Nat → Int} (h : Blk w B #[.int .i64 x, .int .i64 y, .slice p q r] t) (hb : Bytes w a n f) (v0 v1 v2 : Value) :
    Bytes (((w.setCell ⟨B, 0, none⟩ v0).setCell ⟨B, 1, none⟩ v1).setCell ⟨B, 2, none⟩ v2) a n f := by
  intro hn
  obtain ⟨b, off, rfl, hlt, hc⟩ := hb hn
  have hne : b ≠ B := by
    rintro rfl
    have h0 : w.cell? ⟨b, off + 0, none⟩ = some (.int .u8 (f 0)) := hc 0 hn
    rw [h.cell] at h0
    match off, h0 with
    | 0, h0 => simp at h0
    | 1, h0 => simp at h0
    | 2, h0 => simp at h0
    | k + 3, h0 => simp at h0
  refine ⟨b, off, rfl, by simpa using hlt, fun i hi => ?_⟩
  rw [← hc i hi]
  unfold World.cell?
  rw [show ((((w.setCell ⟨B, 0, none⟩ v0).setCell ⟨B, 1, none⟩ v1).setCell ⟨B, 2, none⟩ v2).heap[b]? = w.heap[b]?) from
    ((Below.heap_setCell _ _ _ _ (by simpa using hne)).trans (Below.heap_setCell _ _ _ _ (by simpa using hne))).trans (Below.heap_setCell _ _ _ _ (by simpa using hne))]
set_option maxHeartbeats 1000000 in
theorem turn_err (W H t : Int) (a : Option Addr) (n ca : Nat) (q : Int) (w : World) (hn : n ≤ 9223372036854775807) (he : Im.err W H n = q) (hq : q ≠ 0) :
    Calls Try.prog 21 #[.agg #[.int .i64 W, .int .i64 H, .slice a n ca], .int .i64 t] w fun e w' => e = .returned (.tuple #[.agg #[.int .i64 0, .int .i64 0, .slice none 0 0], .int .i64 q]) ∧ Below w.heap.size w w' := by
  have HE := Lib.hid he; clear he
  have hq' : (q == 0) = false := by simpa using hq
  -- .int .i64 W, .int .i64 H, .slice a n ca: the image's fields; the parameter's box and the result's box (a zero image) under names
  obtain ⟨W1, HW1, hP, hs1, hB1⟩ := box w #[.int .i64 W, .int .i64 H, .slice a n ca] 24
  obtain ⟨W2, HW2, hR, hs2, hB2⟩ := box W1 #[.int .i64 0, .int .i64 0, .slice none 0 0] 24
  have hP := hP.keep hB2
  rw [hs1] at hR hs2
  have hB12 := below_up hB1 hB2
  have H1 := Lib.hid HW1; have H2 := Lib.hid HW2; clear HW1 HW2 hB1 hB2 hs1
  go_enter Try.func21, Try.ntmps21
  go_wp2_with (go_at_call 28; rw [H1.out, H2.out]; refine (check_is _ _ _ _ _ _ hn).mono ?_; rw [HE.out]; rintro e w' ⟨rfl, hB⟩; have hR1 := hR.keep hB; have hF1 := hR1.free; obtain ⟨r0, r1, r2⟩ := hR1.three)
  -- tintype/pix.Turn: the function; q: the error; hB: the last Below fact (from W2)
  have hBf := ((((hB12.trans ((hB).mono hB12.size)).setCell (p := ⟨w.heap.size + 1, 0, none⟩) (by simp) (.int .i64 0)).setCell (p := ⟨w.heap.size + 1, 1, none⟩) (by simp) (.int .i64 0)).setCell (p := ⟨w.heap.size + 1, 2, none⟩) (by simp) (.slice none 0 0))
  exact bodyPost_ret (v := .tuple #[.agg #[.int .i64 0, .int .i64 0, .slice none 0 0], .int .i64 q]) (by simp [results, Try.results21, go_sem, r0, r1, r2]) rfl ⟨rfl, hBf⟩
set_option maxHeartbeats 1000000 in
theorem turn_range (W H t : Int) (a : Option Addr) (n ca : Nat) (w : World) (hn : n ≤ 9223372036854775807) (he : Im.err W H n = 0) (ht : t < 1 ∨ 8 < t) :
    Calls Try.prog 21 #[.agg #[.int .i64 W, .int .i64 H, .slice a n ca], .int .i64 t] w fun e w' => e = .returned (.tuple #[.agg #[.int .i64 0, .int .i64 0, .slice none 0 0], .int .i64 2]) ∧ Below w.heap.size w w' := by
  have HE := Lib.hid he; clear he
  -- .int .i64 W, .int .i64 H, .slice a n ca: the image's fields; the parameter's box and the result's box (a zero image) under names
  obtain ⟨W1, HW1, hP, hs1, hB1⟩ := box w #[.int .i64 W, .int .i64 H, .slice a n ca] 24
  obtain ⟨W2, HW2, hR, hs2, hB2⟩ := box W1 #[.int .i64 0, .int .i64 0, .slice none 0 0] 24
  have hP := hP.keep hB2
  rw [hs1] at hR hs2
  have hB12 := below_up hB1 hB2
  have H1 := Lib.hid HW1; have H2 := Lib.hid HW2; clear HW1 HW2 hB1 hB2 hs1
  go_enter Try.func21, Try.ntmps21
  go_wp2_with (first | (go_at_call 28; rw [H1.out, H2.out]; refine (check_is _ _ _ _ _ _ hn).mono ?_; rw [HE.out]; rintro e w' ⟨rfl, hB⟩; have hR1 := hR.keep hB; have hF1 := hR1.free; obtain ⟨r0, r1, r2⟩ := hR1.three; obtain ⟨p0, p1, p2⟩ := (hP.keep hB).three) | (go_at_call 63; refine (outside_yes _ _ _ _ ht).mono ?_; rintro e w'' ⟨rfl, rfl⟩))
  -- tintype/pix.Turn: the function; 2: the error; hB: the last Below fact (from W2)
  have hBf := ((((hB12.trans ((hB).mono hB12.size)).setCell (p := ⟨w.heap.size + 1, 0, none⟩) (by simp) (.int .i64 0)).setCell (p := ⟨w.heap.size + 1, 1, none⟩) (by simp) (.int .i64 0)).setCell (p := ⟨w.heap.size + 1, 2, none⟩) (by simp) (.slice none 0 0))
  exact bodyPost_ret (v := .tuple #[.agg #[.int .i64 0, .int .i64 0, .slice none 0 0], .int .i64 2]) (by simp [results, Try.results21, go_sem, r0, r1, r2]) rfl ⟨rfl, hBf⟩
theorem err_ok (W H : Nat) (hW : 1 ≤ W ∧ W ≤ 64 ∧ 1 ≤ H ∧ H ≤ 64) : Im.err (W : Int) (H : Int) (3 * (H * W)) = 0 := by
  unfold Im.err
  rw [if_neg (by omega), if_pos (by rw [Int.mul_assoc, Int.mul_comm (W : Int)]; simp)]
/-- An image is returned, with the error 0. -/
def ImgPost2 (w : World) (W H : Int) (n : Nat) (f : Nat → Int) (e : Ending) (w' : World) : Prop :=
  ∃ a ca, e = .returned (.tuple #[.agg #[.int .i64 W, .int .i64 H, .slice a n ca], .int .i64 0]) ∧ Bytes w' a n f ∧ n ≤ ca ∧ ca ≤ 9223372036854775807 ∧ Below w.heap.size w w'
set_option maxHeartbeats 1000000 in
theorem turn_ok (t W H : Nat) (a : Option Addr) (ca : Nat) (px : Nat → Int) (w : World) (ht : 1 ≤ t ∧ t ≤ 8) (hW : 1 ≤ W ∧ W ≤ 64 ∧ 1 ≤ H ∧ H ≤ 64) (hr : Row w a (3 * (H * W)) (fun i => .int .u8 (px i)))
    (hca : 3 * (H * W) ≤ ca) (hca2 : ca ≤ 9223372036854775807) :
    Calls Try.prog 21 #[.agg #[.int .i64 W, .int .i64 H, .slice a (3 * (H * W)) ca], .int .i64 t] w (ImgPost2 w (Im.sw t W H) (Im.sh t W H) (3 * (H * W)) (Im.turnOf t W H px)) := by
  have HE := Lib.hid (err_ok W H hW)
  have HTR := Lib.hid (fun V (hV : Below w.heap.size w V) => turned_is t W H a ca px V ht hW (hr.keep hV) hca hca2)
  have hWH : H * W ≤ 4096 := Nat.mul_le_mul hW.2.2.2 hW.2.1
  generalize Im.turnOf t W H px = f at *
  generalize Im.sw t W H = cw at *
  generalize Im.sh t W H = ch at *
  generalize 3 * (H * W) = N at *
  clear hr
  -- .int .i64 W, .int .i64 H, .slice a N ca: the image's fields; the parameter's box and the result's box (a zero image) under names
  obtain ⟨W1, HW1, hP, hs1, hB1⟩ := box w #[.int .i64 W, .int .i64 H, .slice a N ca] 24
  obtain ⟨W2, HW2, hR, hs2, hB2⟩ := box W1 #[.int .i64 0, .int .i64 0, .slice none 0 0] 24
  have hP := hP.keep hB2
  rw [hs1] at hR hs2
  have hB12 := below_up hB1 hB2
  have H1 := Lib.hid HW1; have H2 := Lib.hid HW2; clear HW1 HW2 hB1 hB2 hs1
  go_enter Try.func21, Try.ntmps21
  go_wp2_with (first
    | (go_at_call 28; rw [H1.out, H2.out]; refine (check_is _ _ _ _ _ _ (by omega)).mono ?_; rw [HE.out]; rintro e w1 ⟨rfl, hB⟩; have hR1 := hR.keep hB; have hB1 := below_up hB12 hB; obtain ⟨p0, p1, p2⟩ := (hP.keep hB).three)
    | (go_at_call 63; refine (outside_no _ _ _ _ (by omega) (by omega)).mono ?_; rintro e w'' ⟨rfl, rfl⟩)
    | (go_at_call 70; refine (HTR.out _ hB1).mono ?_; rintro e w2 ⟨a2, ca2, rfl, hb2, hc2, hd2, hB2⟩; have hR2 := hR1.keep hB2; have hF2 := hR2.free; obtain ⟨r0, r1, r2⟩ := hR2.three))
  have hBf := (((below_up hB1 hB2).setCell (p := ⟨w.heap.size + 1, 0, none⟩) (by simp) (.int .i64 cw)).setCell (p := ⟨w.heap.size + 1, 1, none⟩) (by simp) (.int .i64 ch)).setCell (p := ⟨w.heap.size + 1, 2, none⟩) (by simp) (.slice a2 N ca2)
  exact bodyPost_ret (v := .tuple #[.agg #[.int .i64 cw, .int .i64 ch, .slice a2 N ca2], .int .i64 0]) (by simp [results, Try.results21, go_sem, r0, r1, r2]) rfl ⟨_, _, rfl, Bytes.fields hR2 hb2 _ _ _, hc2, hd2, hBf⟩
end Go.Proofs.Ytkebkbjkapfgkaa
