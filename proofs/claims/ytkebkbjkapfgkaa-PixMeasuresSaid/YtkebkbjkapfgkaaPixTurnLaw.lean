/- The law PixTurns, walked. -/
import Derived.Test.YtkebkbjkapfgkaaPixBoth
namespace Go.Proofs.Ytkebkbjkapfgkaa
open Go.RowKit Go.Sort Go.Shelf
set_option linter.unusedVariables false
set_option maxHeartbeats 1000000 in
theorem pixTurns1_is (t W H : Nat) (a : Option Addr) (ca : Nat) (px : Nat → Int) (w : World) (ht : 1 ≤ t ∧ t ≤ 8) (hW : 1 ≤ W ∧ W ≤ 64 ∧ 1 ≤ H ∧ H ≤ 64) (hr : Bytes w a (3 * (H * W)) px)
    (hca : 3 * (H * W) ≤ ca) (hca2 : ca ≤ 9223372036854775807) (b5 b6 : Nat)
    (c : (w.cell? ⟨b5, 0, none⟩ = some (.int .i64 W) ∧ w.cell? ⟨b5, 1, none⟩ = some (.int .i64 H) ∧ w.cell? ⟨b5, 2, none⟩ = some (.slice a (3 * (H * W)) ca)) ∧ w.cell? ⟨b6, 0, none⟩ = some (.int .i64 t)) :
    Calls Try.prog 24 #[.pointer (some ⟨b5, 0, none⟩), .pointer (some ⟨b6, 0, none⟩)] w (ImgPost w (Im.sw t W H) (Im.sh t W H) (3 * (H * W)) (Im.turnOf t W H px)) := by
  obtain ⟨⟨c0, c1, c2⟩, c3⟩ := c
  have l5 := World.block_lt_of_cell? w _ c0
  have l6 := World.block_lt_of_cell? w _ c3
  obtain ⟨W1, HW1, hR, hs1, hB1⟩ := box w #[.int .i64 0, .int .i64 0, .slice none 0 0] 24
  have HTR := Lib.hid (rturned_is t W H a ca px W1 ht hW (hr.keep hB1) hca hca2)
  generalize Im.turnOf t W H px = f at *
  generalize Im.sw t W H = cw at *
  generalize Im.sh t W H = ch at *
  have H1 := Lib.hid HW1; clear HW1
  go_enter Try.func24, Try.ntmps24
  go_wp2_with (go_at_call 25; rw [H1.out]; refine HTR.out.mono ?_; rintro e w2 ⟨a2, ca2, rfl, hb2, hc2, hd2, hB2⟩; have hR2 := hR.keep hB2; have hF := hR2.free; obtain ⟨r0, r1, r2⟩ := hR2.three)
  have hBf := (((below_up hB1 hB2).setCell (p := ⟨w.heap.size, 0, none⟩) (by simp) (.int .i64 cw)).setCell (p := ⟨w.heap.size, 1, none⟩) (by simp) (.int .i64 ch)).setCell (p := ⟨w.heap.size, 2, none⟩) (by simp) (.slice a2 (3 * (H * W)) ca2)
  exact bodyPost_ret (v := .agg #[.int .i64 cw, .int .i64 ch, .slice a2 (3 * (H * W)) ca2]) (by simp [results, Try.results24, go_sem, r0, r1, r2]) rfl ⟨_, _, rfl, Bytes.fields hR2 hb2 _ _ _, hc2, hd2, hBf⟩
theorem pixTurns1_eg : ∀ args w, (callFunc 24 args).run Try.prog w = .ok (.enter 24 args) w := enters_of Try.func24 (by kernel_rfl) rfl
theorem Im.cmb_bk {t : Nat} (ht : 1 ≤ t ∧ t ≤ 8) : Im.cmb t (Im.bk t) = 1 := by
  have := Im.bk_is ht (Im.bk_range ht)
  simpa using this
theorem both_bk (t : Nat) (ht : 1 ≤ t ∧ t ≤ 8) (V : World) : Calls Try.prog 26 #[.int .i64 t, .int .i64 (Im.bk t)] V fun e V' => e = .returned (.int .i64 1) ∧ Below V.heap.size V V' := by
  have := both_is t (Im.bk t) V ht (Im.bk_range ht)
  rwa [Im.cmb_bk ht] at this
end Go.Proofs.Ytkebkbjkapfgkaa
