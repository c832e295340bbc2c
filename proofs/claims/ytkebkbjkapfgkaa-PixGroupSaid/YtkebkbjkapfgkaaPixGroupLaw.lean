/- The law PixGroup, walked. -/
import Derived.Test.YtkebkbjkapfgkaaPixTurnAll
import Derived.Test.YtkebkbjkapfgkaaPixAwake
namespace Go.Proofs.Ytkebkbjkapfgkaa
open Go.RowKit Go.Sort Go.Shelf
set_option linter.unusedVariables false
/-- Then of whatever two turns. -/
theorem then_any (a b : Int) (w : World) : Calls Try.prog 22 #[.int .i64 a, .int .i64 b] w fun e w' => (∃ x q : Int, e = .returned (.tuple #[.int .i64 x, .int .i64 q]) ∧ (((1 ≤ a ∧ a ≤ 8) ∧ 1 ≤ b ∧ b ≤ 8) ∨ q = 2 ∧ x = 0)) ∧ Below w.heap.size w w' := by
  by_cases h : (a < 1 ∨ 8 < a) ∨ (b < 1 ∨ 8 < b)
  · exact (then_range a b w h).mono fun e w' ⟨h1, h2⟩ => ⟨⟨0, 2, h1, .inr ⟨rfl, rfl⟩⟩, h2⟩
  · obtain ⟨an, rfl⟩ := Int.eq_ofNat_of_zero_le (show 0 ≤ a by omega)
    obtain ⟨bn, rfl⟩ := Int.eq_ofNat_of_zero_le (show 0 ≤ b by omega)
    exact (then_ok an bn w (by omega) (by omega)).mono fun e w' ⟨h1, h2⟩ => ⟨⟨_, 0, h1, .inl (by omega)⟩, h2⟩
set_option maxRecDepth 100000 in
set_option maxHeartbeats 1000000 in
theorem group_first (W H t b c : Int) (a : Option Addr) (n ca : Nat) (w : World) (hn : n ≤ 9223372036854775807) (h : (t < 1 ∨ 8 < t) ∨ (b < 1 ∨ 8 < b)) : Calls Try.prog 6 #[.agg #[.int .i64 W, .int .i64 H, .slice a n ca], .int .i64 t, .int .i64 b, .int .i64 c] w fun e w' => e = .returned (.bool true) ∧ Below w.heap.size w w' := by
  have HT1 := Lib.hid (fun V => then_range t b V h)
  have HT2 := Lib.hid (fun V => then_any b c V)
  clear h
  obtain ⟨W1, HW1, hP1, hs1, hB1⟩ := box w #[.int .i64 W, .int .i64 H, .slice a n ca] 24
  have HALL := Lib.hid (fun V (hV : Below W1.heap.size W1 V) => (hP1.keep hV).three)
  have H1 := Lib.hid HW1
  clear HW1 hP1 hs1
  go_enter Try.func6, Try.ntmps6
  go_wp2_with (first
    | (go_at_call 27; rw [H1.out]; refine (awake_is _).mono ?_; rintro e w' ⟨rfl, rfl⟩)
    | (go_at_call 22; first | ((with_reducible refine (HT1.out _).mono ?_); rintro e w1 ⟨rfl, hBa⟩) | ((with_reducible refine (HT2.out _).mono ?_); rintro e w2 ⟨⟨x, q, rfl, hx⟩, hBb⟩; clear hx)))
  go_ret
  exact ⟨rfl, below_up hB1 (below_up hBa hBb)⟩
set_option maxRecDepth 100000 in
set_option maxHeartbeats 1000000 in
theorem group_second (W H : Int) (t b : Nat) (c : Int) (a : Option Addr) (n ca : Nat) (w : World) (hn : n ≤ 9223372036854775807) (ht : 1 ≤ t ∧ t ≤ 8) (hb : 1 ≤ b ∧ b ≤ 8) (hc : c < 1 ∨ 8 < c) : Calls Try.prog 6 #[.agg #[.int .i64 W, .int .i64 H, .slice a n ca], .int .i64 t, .int .i64 b, .int .i64 c] w fun e w' => e = .returned (.bool true) ∧ Below w.heap.size w w' := by
  have HT1 := Lib.hid (fun V => then_ok t b V ht hb)
  have HT2 := Lib.hid (fun V => then_range b c V (.inr hc))
  have hcr := Im.cmb_range ht hb
  generalize Im.cmb t b = x at *
  have hx0 : ((x : Int) == 0) = false := by simp; omega
  clear hc
  obtain ⟨W1, HW1, hP1, hs1, hB1⟩ := box w #[.int .i64 W, .int .i64 H, .slice a n ca] 24
  have HALL := Lib.hid (fun V (hV : Below W1.heap.size W1 V) => (hP1.keep hV).three)
  have H1 := Lib.hid HW1
  clear HW1 hP1 hs1
  go_enter Try.func6, Try.ntmps6
  go_wp2_with (first
    | (go_at_call 27; rw [H1.out]; refine (awake_is _).mono ?_; rintro e w' ⟨rfl, rfl⟩)
    | (go_at_call 22; first | ((with_reducible refine (HT1.out _).mono ?_); rintro e w1 ⟨rfl, hBa⟩) | ((with_reducible refine (HT2.out _).mono ?_); rintro e w2 ⟨rfl, hBb⟩)))
  go_ret
  exact ⟨rfl, below_up hB1 (below_up hBa hBb)⟩
set_option maxRecDepth 100000 in
set_option maxHeartbeats 2000000 in
theorem group_err (W H : Int) (t b c : Nat) (a : Option Addr) (n ca : Nat) (w : World) (hn : n ≤ 9223372036854775807) (ht : 1 ≤ t ∧ t ≤ 8) (hb : 1 ≤ b ∧ b ≤ 8) (hc : 1 ≤ c ∧ c ≤ 8) (q : Int) (he : Im.err W H n = q) (hq : q ≠ 0) : Calls Try.prog 6 #[.agg #[.int .i64 W, .int .i64 H, .slice a n ca], .int .i64 t, .int .i64 b, .int .i64 c] w fun e w' => e = .returned (.bool true) ∧ Below w.heap.size w w' := by
  have HE := Lib.hid he; clear he
  have hq' : (q == 0) = false := by simpa using hq
  have HTR := Lib.hid (fun V => turn_err W H t a n ca q V hn HE.out hq)
  have HT1 := Lib.hid (fun V => then_ok t b V ht hb)
  have HT2 := Lib.hid (fun V => then_ok b c V hb hc)
  have HT3 := Lib.hid (fun V => then_ok (Im.cmb t b) c V (Im.cmb_range ht hb) hc)
  have HT4 := Lib.hid (fun V => then_ok t (Im.cmb b c) V ht (Im.cmb_range hb hc))
  rw [Im.cmb_assoc ht hb hc] at HT3
  have HBK := Lib.hid (fun V => back_ok t V ht)
  have hbr := Im.bk_range ht
  have hx := Im.cmb_range ht hb
  have hy := Im.cmb_range hb hc
  generalize Im.cmb t (Im.cmb b c) = p at *
  generalize Im.cmb t b = x at *
  generalize Im.cmb b c = y at *
  generalize Im.bk t = u at *
  obtain ⟨W1, HW1, hP1, hs1, hB1⟩ := box w #[.int .i64 W, .int .i64 H, .slice a n ca] 24
  have HALL := Lib.hid (fun V (hV : Below W1.heap.size W1 V) => (hP1.keep hV).three)
  have H1 := Lib.hid HW1
  clear HW1 hP1 hs1
  go_enter Try.func6, Try.ntmps6
  go_wp2_with (first
    | (go_at_call 27; rw [H1.out]; refine (awake_is _).mono ?_; rintro e w' ⟨rfl, rfl⟩)
    | (go_at_call 22; first | ((with_reducible refine (HT1.out _).mono ?_); rintro e w1 ⟨rfl, hBa⟩) | ((with_reducible refine (HT2.out _).mono ?_); rintro e w2 ⟨rfl, hBb⟩) | ((with_reducible refine (HT3.out _).mono ?_); rintro e w3 ⟨rfl, hBc⟩) | ((with_reducible refine (HT4.out _).mono ?_); rintro e w4 ⟨rfl, hBd⟩))
    | (go_at_call 23; refine (HBK.out _).mono ?_; rintro e w5 ⟨rfl, hBe⟩; have hBf := below_up (below_up (below_up (below_up hBa hBb) hBc) hBd) hBe; obtain ⟨p0, p1, p2⟩ := HALL.out _ hBf)
    | (go_at_call 21; refine (HTR.out _).mono ?_; rintro e w6 ⟨rfl, hBg⟩; have hBh := below_allocs (below_up hBf hBg) (.cells #[.int .i64 0, .int .i64 0, .slice none 0 0] 24); obtain ⟨k0, k1, k2⟩ := HALL.out _ hBh)
    | (go_at_call 28; refine (check_is _ _ _ _ _ _ hn).mono ?_; rw [HE.out]; rintro e w7 ⟨rfl, hBi⟩; have hBj := below_up hBh hBi))
  go_ret
  exact ⟨rfl, below_up hB1 hBj⟩
theorem Im.back_sides {t W H : Nat} (ht : 1 ≤ t ∧ t ≤ 8) : Im.sw (Im.bk t) (Im.sw t W H) (Im.sh t W H) = W ∧ Im.sh (Im.bk t) (Im.sw t W H) (Im.sh t W H) = H := by
  rcases Im.one_to_eight ht with rfl | rfl | rfl | rfl | rfl | rfl | rfl | rfl <;> simp [Im.sw, Im.sh, Im.bk]
theorem turn_back_ok (t W H : Nat) (a : Option Addr) (ca : Nat) (px : Nat → Int) (w : World) (ht : 1 ≤ t ∧ t ≤ 8) (hW : 1 ≤ W ∧ W ≤ 64 ∧ 1 ≤ H ∧ H ≤ 64) (hr : Bytes w a (3 * (H * W)) (Im.turnOf t W H px))
    (hca : 3 * (H * W) ≤ ca) (hca2 : ca ≤ 9223372036854775807) :
    Calls Try.prog 21 #[.agg #[.int .i64 (Im.sw t W H : Nat), .int .i64 (Im.sh t W H : Nat), .slice a (3 * (H * W)) ca], .int .i64 (Im.bk t)] w (ImgPost2 w W H (3 * (H * W)) px) := by
  have := turn_ok (Im.bk t) (Im.sw t W H) (Im.sh t W H) a ca (Im.turnOf t W H px) w (Im.bk_range ht) (Im.s_bd hW) (by rw [Im.s_mul]; exact hr) (by rw [Im.s_mul]; exact hca) hca2
  rw [(Im.back_sides ht).1, (Im.back_sides ht).2, Im.s_mul] at this
  exact this.mono fun e w' ⟨a2, c2, h1, h2, h3, h4, h5⟩ => ⟨a2, c2, h1, h2.congr fun i hi => Im.turn_back t W H px ht i hi, h3, h4, h5⟩
set_option maxRecDepth 100000 in
set_option maxHeartbeats 2000000 in
theorem group_ok (W H : Nat) (t b c : Nat) (a : Option Addr) (n ca : Nat) (w : World) (hn : n ≤ 9223372036854775807) (ht : 1 ≤ t ∧ t ≤ 8) (hb : 1 ≤ b ∧ b ≤ 8) (hc : 1 ≤ c ∧ c ≤ 8) (px : Nat → Int) (hW : 1 ≤ W ∧ W ≤ 64 ∧ 1 ≤ H ∧ H ≤ 64) (hnn : n = 3 * (H * W)) (hr : Bytes w a n px) (hca : n ≤ ca) (hca2 : ca ≤ 9223372036854775807) : Calls Try.prog 6 #[.agg #[.int .i64 W, .int .i64 H, .slice a n ca], .int .i64 t, .int .i64 b, .int .i64 c] w fun e w' => e = .returned (.bool true) ∧ Below w.heap.size w w' := by
  have hn2 : n ≤ 12288 := by
    have hWH : H * W ≤ 4096 := Nat.mul_le_mul hW.2.2.2 hW.2.1
    omega
  have htr := fun V (hV : Below w.heap.size w V) => turn_ok t W H a ca px V ht hW (by rw [← hnn]; exact hr.keep hV) (by rw [← hnn]; exact hca) hca2
  have htb := fun V a2 c2 (h1 : Bytes V a2 n (Im.turnOf t W H px)) h2 h3 => turn_back_ok t W H a2 c2 px V ht hW (by rw [← hnn]; exact h1) h2 h3
  simp only [← hnn] at htr htb
  have HSM := Lib.hid (fun V a2 c2 (hV : Below w.heap.size w V) (h2 : Bytes V a2 n px) h3 => same_any W H W H a a2 n n ca c2 px px V (hr.keep hV) h2 hn2 hca h3)
  rw [show Im.eqB W H n px W H n px = true from by simp [Im.eqB]] at HSM
  have HT1 := Lib.hid (fun V => then_ok t b V ht hb)
  have HT2 := Lib.hid (fun V => then_ok b c V hb hc)
  have HT3 := Lib.hid (fun V => then_ok (Im.cmb t b) c V (Im.cmb_range ht hb) hc)
  have HT4 := Lib.hid (fun V => then_ok t (Im.cmb b c) V ht (Im.cmb_range hb hc))
  rw [Im.cmb_assoc ht hb hc] at HT3
  have HBK := Lib.hid (fun V => back_ok t V ht)
  have hbr := Im.bk_range ht
  have hx := Im.cmb_range ht hb
  have hy := Im.cmb_range hb hc
  generalize Im.cmb t (Im.cmb b c) = p at *
  generalize Im.cmb t b = x at *
  generalize Im.cmb b c = y at *
  generalize Im.bk t = u at *
  generalize Im.turnOf t W H px = f at *
  generalize Im.sw t W H = cw at *
  generalize Im.sh t W H = ch at *
  have HTR := Lib.hid htr; have HTB := Lib.hid htb
  clear htr htb hnn hr
  obtain ⟨W1, HW1, hP1, hs1, hB1⟩ := box w #[.int .i64 W, .int .i64 H, .slice a n ca] 24
  have HALL := Lib.hid (fun V (hV : Below W1.heap.size W1 V) => (hP1.keep hV).three)
  have H1 := Lib.hid HW1
  clear HW1 hP1 hs1
  go_enter Try.func6, Try.ntmps6
  go_wp2_with (first
    | (go_at_call 27; rw [H1.out]; refine (awake_is _).mono ?_; rintro e w' ⟨rfl, rfl⟩)
    | (go_at_call 22; first | ((with_reducible refine (HT1.out _).mono ?_); rintro e w1 ⟨rfl, hBa⟩) | ((with_reducible refine (HT2.out _).mono ?_); rintro e w2 ⟨rfl, hBb⟩) | ((with_reducible refine (HT3.out _).mono ?_); rintro e w3 ⟨rfl, hBc⟩) | ((with_reducible refine (HT4.out _).mono ?_); rintro e w4 ⟨rfl, hBd⟩))
    | (go_at_call 23; refine (HBK.out _).mono ?_; rintro e w5 ⟨rfl, hBe⟩; have hBf := below_up (below_up (below_up (below_up hBa hBb) hBc) hBd) hBe; obtain ⟨p0, p1, p2⟩ := HALL.out _ hBf)
    | (go_at_call 21; (with_reducible refine (HTR.out _ (below_up hB1 hBf)).mono ?_); rintro e w6 ⟨a6, c6, rfl, hb6, hc6, hd6, hBg⟩; have hBh := below_allocs (below_up hBf hBg) (.cells #[.int .i64 cw, .int .i64 ch, .slice a6 n c6] 24); have hb6' := hb6.keep (below_allocs (Below.refl _ w6) (.cells #[.int .i64 cw, .int .i64 ch, .slice a6 n c6] 24)))
    | (go_at_call 21; (with_reducible refine (HTB.out _ _ _ hb6' hc6 hd6).mono ?_); rintro e w7 ⟨a7, c7, rfl, hb7, hc7, hd7, hBi⟩; have hI7 := (Blk.new w6 #[.int .i64 cw, .int .i64 ch, .slice a6 n c6] 24).keep hBi; have hF7 := hI7.free; obtain ⟨j0, j1, j2⟩ := hI7.three; have hBj := below_up hBh hBi; have hlt := (below_up hBf hBg).size; have hBk := ((hBj.setCell (p := ⟨w6.heap.size, 0, none⟩) hlt (.int .i64 W)).setCell (p := ⟨w6.heap.size, 1, none⟩) hlt (.int .i64 H)).setCell (p := ⟨w6.heap.size, 2, none⟩) hlt (.slice a7 n c7); obtain ⟨k0, k1, k2⟩ := HALL.out _ hBk; have hI8 : Blk (((w7.setCell ⟨w6.heap.size, 0, none⟩ (.int .i64 W)).setCell ⟨w6.heap.size, 1, none⟩ (.int .i64 H)).setCell ⟨w6.heap.size, 2, none⟩ (.slice a7 n c7)) w6.heap.size #[.int .i64 W, .int .i64 H, .slice a7 n c7] 24 := (by simpa using ((hI7.set 0 (.int .i64 W)).set 1 (.int .i64 H)).set 2 (.slice a7 n c7)); obtain ⟨l0, l1, l2⟩ := hI8.three; have hb8 := Bytes.fields hI7 hb7 (.int .i64 W) (.int .i64 H) (.slice a7 n c7))
    | (go_at_call 29; refine (HSM.out _ _ _ (below_up hB1 hBk) hb8 hc7).mono ?_; rintro e w9 ⟨rfl, hBl⟩))
  go_ret
  exact ⟨rfl, below_up hB1 (below_up hBk hBl)⟩
/-- The law: for every image and three turns it returns true. -/
theorem pixGroup_walk (W H : Int) (a : Option Addr) (n ca : Nat) (px : Nat → Int) (t b c : Int) (w : World) (hr : Row w a n (fun i => .int .u8 (px i))) (hn : n ≤ 9223372036854775807) (hca : n ≤ ca) (hca2 : ca ≤ 9223372036854775807) :
    Calls Try.prog 6 #[.agg #[.int .i64 W, .int .i64 H, .slice a n ca], .int .i64 t, .int .i64 b, .int .i64 c] w fun e w' => e = .returned (.bool true) ∧ Below w.heap.size w w' := by
  by_cases h1 : (t < 1 ∨ 8 < t) ∨ (b < 1 ∨ 8 < b)
  · exact group_first W H t b c a n ca w hn h1
  · obtain ⟨tn, rfl⟩ := Int.eq_ofNat_of_zero_le (show 0 ≤ t by omega)
    obtain ⟨bn, rfl⟩ := Int.eq_ofNat_of_zero_le (show 0 ≤ b by omega)
    by_cases h2 : c < 1 ∨ 8 < c
    · exact group_second W H tn bn c a n ca w hn (by omega) (by omega) h2
    · obtain ⟨cn, rfl⟩ := Int.eq_ofNat_of_zero_le (show 0 ≤ c by omega)
      by_cases he : Im.err W H n = 0
      · obtain ⟨Wn, Hn, rfl, rfl, hW, hnn⟩ := right_nat he
        exact group_ok Wn Hn tn bn cn a n ca w hn (by omega) (by omega) (by omega) px hW hnn hr hca hca2
      · exact group_err W H tn bn cn a n ca w hn (by omega) (by omega) (by omega) _ rfl he
end Go.Proofs.Ytkebkbjkapfgkaa
