/- The law PixScales: its three closures. -/
import Derived.Test.YtkebkbjkapfgkaaPixThumbed
import Derived.Test.YtkebkbjkapfgkaaPixGreyed
namespace Go.Proofs.Ytkebkbjkapfgkaa
open Go.RowKit Go.Sort Go.Shelf
set_option linter.unusedVariables false
theorem greyed_post (W H : Nat) (a : Option Addr) (ca : Nat) (px : Nat → Int) (w : World) (hW : 1 ≤ W ∧ W ≤ 64 ∧ 1 ≤ H ∧ H ≤ 64) (hr : Bytes w a (3 * (H * W)) px)
    (hca : 3 * (H * W) ≤ ca) (hca2 : ca ≤ 9223372036854775807) (hpx : ∀ i, 0 ≤ px i ∧ px i ≤ 255) :
    Calls Try.prog 38 #[.agg #[.int .i64 W, .int .i64 H, .slice a (3 * (H * W)) ca]] w (ImgPost w W H (3 * (H * W)) (Im.greyOf W px)) :=
  (greyed_is W H a ca px w hW hr hca hca2 hpx).mono fun e w' ⟨g, cap, h1, h2, h3, h4, h5⟩ => ⟨_, _, h1, bytes_of_own h4, h2, by unfold maxLen at h3; omega, h5⟩
/-- A thumb's sides, length and bytes. -/
def Im.tW (W H most : Nat) : Nat := if W ≤ most ∧ H ≤ most then W else Im.thW W H most
def Im.tN (W H most : Nat) : Nat := if W ≤ most ∧ H ≤ most then 3 * (H * W) else 3 * (Im.thW H W most * Im.thW W H most)
def Im.tB (W H most : Nat) (px : Nat → Int) : Nat → Int := if W ≤ most ∧ H ≤ most then px else Im.scOf W H px (Im.thW W H most) (Im.thW H W most)
/-- An image by one of two roads, as the laws' closures hand it back. -/
theorem thumbed_any (W H most : Nat) (a : Option Addr) (ca : Nat) (px : Nat → Int) (w : World) (hW : 1 ≤ W ∧ W ≤ 64 ∧ 1 ≤ H ∧ H ≤ 64) (hm : 1 ≤ most ∧ most ≤ 64) (hr : Bytes w a (3 * (H * W)) px)
    (hca : 3 * (H * W) ≤ ca) (hca2 : ca ≤ 9223372036854775807) (hpx : ∀ i, 0 ≤ px i ∧ px i ≤ 255) :
    Calls Try.prog 36 #[.agg #[.int .i64 W, .int .i64 H, .slice a (3 * (H * W)) ca], .int .i64 most] w (ImgPost w (Im.tW W H most) (Im.tW H W most) (Im.tN W H most) (Im.tB W H most px)) := by
  unfold Im.tW Im.tN Im.tB
  by_cases hl : W ≤ most ∧ H ≤ most
  · rw [if_pos hl, if_pos (And.intro hl.2 hl.1), if_pos hl, if_pos hl]
    exact thumbed_small W H most a ca px w hW hm hl hr hca hca2
  · rw [if_neg hl, if_neg (fun h => hl ⟨h.2, h.1⟩), if_neg hl, if_neg hl]
    exact thumbed_big W H most a ca px w hW hm hl hr hca hca2 hpx
theorem thumb_any (W H most : Nat) (a : Option Addr) (ca : Nat) (px : Nat → Int) (w : World) (hW : 1 ≤ W ∧ W ≤ 64 ∧ 1 ≤ H ∧ H ≤ 64) (hm : 1 ≤ most ∧ most ≤ 64) (hr : Bytes w a (3 * (H * W)) px)
    (hca : 3 * (H * W) ≤ ca) (hca2 : ca ≤ 9223372036854775807) (hpx : ∀ i, 0 ≤ px i ∧ px i ≤ 255) :
    Calls Try.prog 31 #[.agg #[.int .i64 W, .int .i64 H, .slice a (3 * (H * W)) ca], .int .i64 most] w (ImgPost2 w (Im.tW W H most) (Im.tW H W most) (Im.tN W H most) (Im.tB W H most px)) := by
  unfold Im.tW Im.tN Im.tB
  by_cases hl : W ≤ most ∧ H ≤ most
  · rw [if_pos hl, if_pos (And.intro hl.2 hl.1), if_pos hl, if_pos hl]
    exact thumb_small W H most a ca px w hW hm hl hr hca hca2
  · rw [if_neg hl, if_neg (fun h => hl ⟨h.2, h.1⟩), if_neg hl, if_neg hl]
    exact thumb_big W H most a ca px w hW hm hl hr hca hca2 hpx
theorem tN_bd {W H most : Nat} (hW : 1 ≤ W ∧ W ≤ 64 ∧ 1 ≤ H ∧ H ≤ 64) (hm : 1 ≤ most ∧ most ≤ 64) : Im.tN W H most ≤ 12288 := by
  unfold Im.tN
  have h1 := Im.th_bd hW hm
  have h2 := Im.th_bd (W := H) (H := W) ⟨hW.2.2.1, hW.2.2.2, hW.1, hW.2.1⟩ hm
  have h3 : H * W ≤ 64 * 64 := Nat.mul_le_mul hW.2.2.2 hW.2.1
  have h4 : Im.thW H W most * Im.thW W H most ≤ 64 * 64 := Nat.mul_le_mul h2.2 h1.2
  split <;> omega
set_option maxHeartbeats 1000000 in
theorem pixScales1_is (W H : Nat) (a : Option Addr) (N ca : Nat) (px : Nat → Int) (w : World) (hW : 1 ≤ W ∧ W ≤ 64 ∧ 1 ≤ H ∧ H ≤ 64) (hN : N = 3 * (H * W)) (hr : Bytes w a N px) (hca : N ≤ ca) (hca2 : ca ≤ 9223372036854775807) (hpx : ∀ i, 0 ≤ px i ∧ px i ≤ 255) (cw ch : Nat) (hs : 1 ≤ cw ∧ cw ≤ 64 ∧ 1 ≤ ch ∧ ch ≤ 64) (b5 b6 b7 : Nat) (c : (w.cell? ⟨b5, 0, none⟩ = some (.int .i64 W) ∧ w.cell? ⟨b5, 1, none⟩ = some (.int .i64 H) ∧ w.cell? ⟨b5, 2, none⟩ = some (.slice a N ca)) ∧ w.cell? ⟨b6, 0, none⟩ = some (.int .i64 cw) ∧ w.cell? ⟨b7, 0, none⟩ = some (.int .i64 ch)) :
    Calls Try.prog 33 #[.pointer (some ⟨b5, 0, none⟩), .pointer (some ⟨b6, 0, none⟩), .pointer (some ⟨b7, 0, none⟩)] w (ImgPost w cw ch (3 * (ch * cw)) (Im.scOf W H px cw ch)) := by
  obtain ⟨⟨c0, c1, c2⟩, c3, c4⟩ := c
  have l5 := World.block_lt_of_cell? w _ c0
  have l6 := World.block_lt_of_cell? w _ c3
  have l7 := World.block_lt_of_cell? w _ c4
  have htr := fun (W1 : World) (hB1 : Below w.heap.size w W1) => rscaled_is W H cw ch a ca px W1 hW hs (hN ▸ hr.keep hB1) (hN ▸ hca) hca2 hpx
  simp only [← hN] at htr
  generalize Im.scOf W H px cw ch = f at *
  generalize 3 * (ch * cw) = M at *
  clear hr hN hpx
  -- x: the closure; x: the reference's function; htr  : sides, bytes; HTR: its contract at W1
  obtain ⟨W1, HW1, hR, hs1, hB1⟩ := box w #[.int .i64 0, .int .i64 0, .slice none 0 0] 24
  have HTR := Lib.hid (htr W1 hB1)
  have H1 := Lib.hid HW1; clear HW1
  clear htr
  -- L.PixScales$1: the closure; R.Scaled: the reference's function
  go_enter Try.func33, Try.ntmps33
  go_wp2_with (go_at_call 34; rw [H1.out]; refine HTR.out.mono ?_; rintro e w2 ⟨a2, ca2, rfl, hb2, hc2, hd2, hB2⟩; have hR2 := hR.keep hB2; have hF := hR2.free; obtain ⟨r0, r1, r2⟩ := hR2.three)
  have hBf := (((below_up hB1 hB2).setCell (p := ⟨w.heap.size, 0, none⟩) (by simp) (.int .i64 cw)).setCell (p := ⟨w.heap.size, 1, none⟩) (by simp) (.int .i64 ch)).setCell (p := ⟨w.heap.size, 2, none⟩) (by simp) (.slice a2 M ca2)
  exact bodyPost_ret (v := .agg #[.int .i64 cw, .int .i64 ch, .slice a2 M ca2]) (by simp [results, Try.results33, go_sem, r0, r1, r2]) rfl ⟨_, _, rfl, Bytes.fields hR2 hb2 _ _ _, hc2, hd2, hBf⟩
set_option maxHeartbeats 1000000 in
theorem pixScales2_is (W H : Nat) (a : Option Addr) (N ca : Nat) (px : Nat → Int) (w : World) (hW : 1 ≤ W ∧ W ≤ 64 ∧ 1 ≤ H ∧ H ≤ 64) (hN : N = 3 * (H * W)) (hr : Bytes w a N px) (hca : N ≤ ca) (hca2 : ca ≤ 9223372036854775807) (hpx : ∀ i, 0 ≤ px i ∧ px i ≤ 255) (most : Nat) (hm : 1 ≤ most ∧ most ≤ 64) (b5 b6 : Nat) (c : (w.cell? ⟨b5, 0, none⟩ = some (.int .i64 W) ∧ w.cell? ⟨b5, 1, none⟩ = some (.int .i64 H) ∧ w.cell? ⟨b5, 2, none⟩ = some (.slice a N ca)) ∧ w.cell? ⟨b6, 0, none⟩ = some (.int .i64 most)) :
    Calls Try.prog 35 #[.pointer (some ⟨b5, 0, none⟩), .pointer (some ⟨b6, 0, none⟩)] w (ImgPost w (Im.tW W H most) (Im.tW H W most) (Im.tN W H most) (Im.tB W H most px)) := by
  obtain ⟨⟨c0, c1, c2⟩, c3⟩ := c
  have l5 := World.block_lt_of_cell? w _ c0
  have l6 := World.block_lt_of_cell? w _ c3
  have htr := fun (W1 : World) (hB1 : Below w.heap.size w W1) => thumbed_any W H most a ca px W1 hW hm (hN ▸ hr.keep hB1) (hN ▸ hca) hca2 hpx
  simp only [← hN] at htr
  generalize Im.tW W H most = cw at *
  generalize Im.tW H W most = ch at *
  generalize Im.tB W H most px = f at *
  generalize Im.tN W H most = M at *
  clear hr hN hpx
  -- x: the closure; x: the reference's function; htr  : sides, bytes; HTR: its contract at W1
  obtain ⟨W1, HW1, hR, hs1, hB1⟩ := box w #[.int .i64 0, .int .i64 0, .slice none 0 0] 24
  have HTR := Lib.hid (htr W1 hB1)
  have H1 := Lib.hid HW1; clear HW1
  clear htr
  -- L.PixScales$2: the closure; R.Thumbed: the reference's function
  go_enter Try.func35, Try.ntmps35
  go_wp2_with (go_at_call 36; rw [H1.out]; refine HTR.out.mono ?_; rintro e w2 ⟨a2, ca2, rfl, hb2, hc2, hd2, hB2⟩; have hR2 := hR.keep hB2; have hF := hR2.free; obtain ⟨r0, r1, r2⟩ := hR2.three)
  have hBf := (((below_up hB1 hB2).setCell (p := ⟨w.heap.size, 0, none⟩) (by simp) (.int .i64 cw)).setCell (p := ⟨w.heap.size, 1, none⟩) (by simp) (.int .i64 ch)).setCell (p := ⟨w.heap.size, 2, none⟩) (by simp) (.slice a2 M ca2)
  exact bodyPost_ret (v := .agg #[.int .i64 cw, .int .i64 ch, .slice a2 M ca2]) (by simp [results, Try.results35, go_sem, r0, r1, r2]) rfl ⟨_, _, rfl, Bytes.fields hR2 hb2 _ _ _, hc2, hd2, hBf⟩
set_option maxHeartbeats 1000000 in
theorem pixScales3_is (W H : Nat) (a : Option Addr) (N ca : Nat) (px : Nat → Int) (w : World) (hW : 1 ≤ W ∧ W ≤ 64 ∧ 1 ≤ H ∧ H ≤ 64) (hN : N = 3 * (H * W)) (hr : Bytes w a N px) (hca : N ≤ ca) (hca2 : ca ≤ 9223372036854775807) (hpx : ∀ i, 0 ≤ px i ∧ px i ≤ 255) (b5 : Nat) (c : (w.cell? ⟨b5, 0, none⟩ = some (.int .i64 W) ∧ w.cell? ⟨b5, 1, none⟩ = some (.int .i64 H) ∧ w.cell? ⟨b5, 2, none⟩ = some (.slice a N ca))) :
    Calls Try.prog 37 #[.pointer (some ⟨b5, 0, none⟩)] w (ImgPost w W H N (Im.greyOf W px)) := by
  obtain ⟨c0, c1, c2⟩ := c
  have l5 := World.block_lt_of_cell? w _ c0
  have htr := fun (W1 : World) (hB1 : Below w.heap.size w W1) => greyed_post W H a ca px W1 hW (hN ▸ hr.keep hB1) (hN ▸ hca) hca2 hpx
  simp only [← hN] at htr
  generalize Im.greyOf W px = f at *
  obtain ⟨cw, rfl⟩ : ∃ cw : Nat, cw = W := ⟨_, rfl⟩
  obtain ⟨ch, rfl⟩ : ∃ ch : Nat, ch = H := ⟨_, rfl⟩
  obtain ⟨M, rfl⟩ : ∃ M : Nat, M = N := ⟨_, rfl⟩
  clear hr hN hpx
  -- x: the closure; x: the reference's function; htr  : sides, bytes; HTR: its contract at W1
  obtain ⟨W1, HW1, hR, hs1, hB1⟩ := box w #[.int .i64 0, .int .i64 0, .slice none 0 0] 24
  have HTR := Lib.hid (htr W1 hB1)
  have H1 := Lib.hid HW1; clear HW1
  clear htr
  -- L.PixScales$3: the closure; R.Greyed: the reference's function
  go_enter Try.func37, Try.ntmps37
  go_wp2_with (go_at_call 38; rw [H1.out]; refine HTR.out.mono ?_; rintro e w2 ⟨a2, ca2, rfl, hb2, hc2, hd2, hB2⟩; have hR2 := hR.keep hB2; have hF := hR2.free; obtain ⟨r0, r1, r2⟩ := hR2.three)
  have hBf := (((below_up hB1 hB2).setCell (p := ⟨w.heap.size, 0, none⟩) (by simp) (.int .i64 cw)).setCell (p := ⟨w.heap.size, 1, none⟩) (by simp) (.int .i64 ch)).setCell (p := ⟨w.heap.size, 2, none⟩) (by simp) (.slice a2 M ca2)
  exact bodyPost_ret (v := .agg #[.int .i64 cw, .int .i64 ch, .slice a2 M ca2]) (by simp [results, Try.results37, go_sem, r0, r1, r2]) rfl ⟨_, _, rfl, Bytes.fields hR2 hb2 _ _ _, hc2, hd2, hBf⟩
theorem img_short {g : Nat} {lb : Array Value} {V : World} {W H : Int} {n : Nat} {f : Nat → Int} (h : Calls Try.prog g lb V (ImgPost V W H n f)) :
    Calls Try.prog g lb V fun e w' => ∃ a2 ca2, e = .returned (.agg #[.int .i64 W, .int .i64 H, .slice a2 n ca2]) ∧ Bytes w' a2 n f ∧ n ≤ ca2 ∧ Below V.heap.size V w' :=
  h.mono fun e w' ⟨a9, c9, h1, h2, h3, _, h5⟩ => ⟨a9, c9, h1, h2, h3, h5⟩
theorem pixScales1_eg : ∀ args w, (callFunc 33 args).run Try.prog w = .ok (.enter 33 args) w := enters_of Try.func33 (by kernel_rfl) rfl
theorem pixScales2_eg : ∀ args w, (callFunc 35 args).run Try.prog w = .ok (.enter 35 args) w := enters_of Try.func35 (by kernel_rfl) rfl
theorem pixScales3_eg : ∀ args w, (callFunc 37 args).run Try.prog w = .ok (.enter 37 args) w := enters_of Try.func37 (by kernel_rfl) rfl
end Go.Proofs.Ytkebkbjkapfgkaa
