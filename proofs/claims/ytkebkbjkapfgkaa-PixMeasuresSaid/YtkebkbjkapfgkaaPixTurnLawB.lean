/- The law PixTurns, walked: an image that is not right. -/
import Derived.Test.YtkebkbjkapfgkaaPixTurnLaw
namespace Go.Proofs.Ytkebkbjkapfgkaa
open Go.RowKit Go.Sort Go.Shelf
set_option linter.unusedVariables false
set_option maxRecDepth 100000 in
set_option maxHeartbeats 1000000 in
theorem turns_err_in_in (W H : Int) (t b : Nat) (a : Option Addr) (n ca : Nat) (w : World) (hn : n ≤ 9223372036854775807) (q : Int) (he : Im.err W H n = q) (hq : q ≠ 0) (ht : 1 ≤ t ∧ t ≤ 8) (hb : 1 ≤ b ∧ b ≤ 8) : Calls Try.prog 5 #[.agg #[.int .i64 W, .int .i64 H, .slice a n ca], .int .i64 t, .int .i64 b] w fun e w' => e = .returned (.bool true) ∧ Below w.heap.size w w' := by
  have HE := Lib.hid he; clear he
  have hq' : (q == 0) = false := by simpa using hq
  have HTR := Lib.hid (fun V (hV : Below w.heap.size w V) => turn_err W H t a n ca q V hn HE.out hq)
  have hd8 : decide ((t : Int) ≤ 8) = true := by simp; omega
  have HBK := Lib.hid (fun V => back_ok t V ht)
  have HB1 := Lib.hid (fun V => both_bk t ht V)
  have hbr := Im.bk_range ht
  generalize Im.bk t = u at *
  have HTH := Lib.hid (fun V => then_ok t b V ht hb)
  have HB2 := Lib.hid (fun V => both_is t b V ht hb)
  generalize Im.cmb t b = c at *
  obtain ⟨W1, HW1, hP1, hs1, hB1⟩ := box w #[.int .i64 W, .int .i64 H, .slice a n ca] 24
  obtain ⟨W2, HW2, hP2, hs2, hB2⟩ := box W1 #[.int .i64 t] 3
  have hB02 := below_up hB1 hB2
  have hP1 := hP1.keep hB2
  rw [hs1] at hP2
  have HALL := Lib.hid (fun V (hV : Below W2.heap.size W2 V) => And.intro (hP1.keep hV).three (hP2.keep hV).one)
  have H1 := Lib.hid HW1; have H2 := Lib.hid HW2
  clear HW1 HW2 hP1 hP2 hB1 hB2 hs1 hs2
  -- rintro e w1 ⟨rfl, hBt⟩: behind Turn; .int .i64 0, .int .i64 0, .slice none 0 0: the made image's fields; refine (HTH.out _).mono ?_: Then; refine (HBK.out _).mono ?_: Back; refine (made_err q hq _ _ _).mono ?_: made; | (go_at_call 26; first | ((with_reducible refine (HB1.out _).mono ?_); rintro e w6 ⟨rfl, hBk⟩; have hBl := below_up hBj hBk; obtain ⟨⟨k0, k1, k2⟩, k3⟩ := HALL.out _ hBl) | ((with_reducible refine (HB2.out _).mono ?_); rintro e w7 ⟨rfl, hBm⟩; have hBn := below_up hBl hBm)): Both's arms
  go_enter Try.func5, Try.ntmps5
  go_wp2_with (first
    | (go_at_call 21; rw [H1.out, H2.out]; refine (HTR.out _ hB02).mono ?_; rintro e w1 ⟨rfl, hBt⟩; have hBa := below_allocs hBt (.cells #[.int .i64 0, .int .i64 0, .slice none 0 0] 24); obtain ⟨⟨p0, p1, p2⟩, p3⟩ := HALL.out _ hBa)
    | (go_at_call 22; refine (HTH.out _).mono ?_; rintro e w2 ⟨rfl, hBb⟩; have hBc := below_up hBa hBb; obtain ⟨⟨p0, p1, p2⟩, p3⟩ := HALL.out _ hBc)
    | (go_at_call 23; refine (HBK.out _).mono ?_; rintro e w3 ⟨rfl, hBd⟩; have hBe := below_up hBc hBd; obtain ⟨⟨p0, p1, p2⟩, p3⟩ := HALL.out _ hBe)
    | (go_at_call 15; refine (imageError_is _ _ _ _ _ _ hn).mono ?_; rw [HE.out]; rintro e w4 ⟨rfl, hBg⟩; have hBh := below_up hBe hBg; obtain ⟨⟨k0, k1, k2⟩, k3⟩ := HALL.out _ hBh; have hBx := below_up (below_up hBb hBd) hBg; obtain ⟨j0, j1, j2⟩ := ((Blk.new w1 #[.int .i64 0, .int .i64 0, .slice none 0 0] 24).keep hBx).three)
    | (go_at_call 16; refine (made_err q hq _ _ _).mono ?_; rintro e w5 ⟨rfl, hBi⟩; have hBj := below_up hBh hBi; obtain ⟨⟨k0, k1, k2⟩, k3⟩ := HALL.out _ hBj)| (go_at_call 26; first | ((with_reducible refine (HB1.out _).mono ?_); rintro e w6 ⟨rfl, hBk⟩; have hBl := below_up hBj hBk; obtain ⟨⟨k0, k1, k2⟩, k3⟩ := HALL.out _ hBl) | ((with_reducible refine (HB2.out _).mono ?_); rintro e w7 ⟨rfl, hBm⟩; have hBn := below_up hBl hBm)))
  go_ret
  exact ⟨rfl, below_up hB02 hBn⟩
set_option maxRecDepth 100000 in
set_option maxHeartbeats 1000000 in
theorem turns_err_in_out (W H b : Int) (t : Nat) (a : Option Addr) (n ca : Nat) (w : World) (hn : n ≤ 9223372036854775807) (q : Int) (he : Im.err W H n = q) (hq : q ≠ 0) (ht : 1 ≤ t ∧ t ≤ 8) (hb : b < 1 ∨ 8 < b) : Calls Try.prog 5 #[.agg #[.int .i64 W, .int .i64 H, .slice a n ca], .int .i64 t, .int .i64 b] w fun e w' => e = .returned (.bool true) ∧ Below w.heap.size w w' := by
  have HE := Lib.hid he; clear he
  have hq' : (q == 0) = false := by simpa using hq
  have HTR := Lib.hid (fun V (hV : Below w.heap.size w V) => turn_err W H t a n ca q V hn HE.out hq)
  have hd8 : decide ((t : Int) ≤ 8) = true := by simp; omega
  have HBK := Lib.hid (fun V => back_ok t V ht)
  have HB1 := Lib.hid (fun V => both_bk t ht V)
  have hbr := Im.bk_range ht
  generalize Im.bk t = u at *
  have HTH := Lib.hid (fun V => then_range t b V (.inr hb))
  obtain ⟨W1, HW1, hP1, hs1, hB1⟩ := box w #[.int .i64 W, .int .i64 H, .slice a n ca] 24
  obtain ⟨W2, HW2, hP2, hs2, hB2⟩ := box W1 #[.int .i64 t] 3
  have hB02 := below_up hB1 hB2
  have hP1 := hP1.keep hB2
  rw [hs1] at hP2
  have HALL := Lib.hid (fun V (hV : Below W2.heap.size W2 V) => And.intro (hP1.keep hV).three (hP2.keep hV).one)
  have H1 := Lib.hid HW1; have H2 := Lib.hid HW2
  clear HW1 HW2 hP1 hP2 hB1 hB2 hs1 hs2
  by_cases hb1' : b < 1
  · clear hb
    -- rintro e w1 ⟨rfl, hBt⟩: behind Turn; .int .i64 0, .int .i64 0, .slice none 0 0: the made image's fields; refine (HTH.out _).mono ?_: Then; refine (HBK.out _).mono ?_: Back; refine (made_err q hq _ _ _).mono ?_: made; | (go_at_call 26; refine (HB1.out _).mono ?_; rintro e w6 ⟨rfl, hBk⟩; have hBl := below_up hBj hBk): Both's arms
    go_enter Try.func5, Try.ntmps5
    go_wp2_with (first
      | (go_at_call 21; rw [H1.out, H2.out]; refine (HTR.out _ hB02).mono ?_; rintro e w1 ⟨rfl, hBt⟩; have hBa := below_allocs hBt (.cells #[.int .i64 0, .int .i64 0, .slice none 0 0] 24); obtain ⟨⟨p0, p1, p2⟩, p3⟩ := HALL.out _ hBa)
      | (go_at_call 22; refine (HTH.out _).mono ?_; rintro e w2 ⟨rfl, hBb⟩; have hBc := below_up hBa hBb; obtain ⟨⟨p0, p1, p2⟩, p3⟩ := HALL.out _ hBc)
      | (go_at_call 23; refine (HBK.out _).mono ?_; rintro e w3 ⟨rfl, hBd⟩; have hBe := below_up hBc hBd; obtain ⟨⟨p0, p1, p2⟩, p3⟩ := HALL.out _ hBe)
      | (go_at_call 15; refine (imageError_is _ _ _ _ _ _ hn).mono ?_; rw [HE.out]; rintro e w4 ⟨rfl, hBg⟩; have hBh := below_up hBe hBg; obtain ⟨⟨k0, k1, k2⟩, k3⟩ := HALL.out _ hBh; have hBx := below_up (below_up hBb hBd) hBg; obtain ⟨j0, j1, j2⟩ := ((Blk.new w1 #[.int .i64 0, .int .i64 0, .slice none 0 0] 24).keep hBx).three)
      | (go_at_call 16; refine (made_err q hq _ _ _).mono ?_; rintro e w5 ⟨rfl, hBi⟩; have hBj := below_up hBh hBi; obtain ⟨⟨k0, k1, k2⟩, k3⟩ := HALL.out _ hBj)| (go_at_call 26; refine (HB1.out _).mono ?_; rintro e w6 ⟨rfl, hBk⟩; have hBl := below_up hBj hBk))
    go_ret
    exact ⟨rfl, below_up hB02 hBl⟩
  · have hb2 : 8 < b := by omega
    clear hb
    -- rintro e w1 ⟨rfl, hBt⟩: behind Turn; .int .i64 0, .int .i64 0, .slice none 0 0: the made image's fields; refine (HTH.out _).mono ?_: Then; refine (HBK.out _).mono ?_: Back; refine (made_err q hq _ _ _).mono ?_: made; | (go_at_call 26; refine (HB1.out _).mono ?_; rintro e w6 ⟨rfl, hBk⟩; have hBl := below_up hBj hBk): Both's arms
    go_enter Try.func5, Try.ntmps5
    go_wp2_with (first
      | (go_at_call 21; rw [H1.out, H2.out]; refine (HTR.out _ hB02).mono ?_; rintro e w1 ⟨rfl, hBt⟩; have hBa := below_allocs hBt (.cells #[.int .i64 0, .int .i64 0, .slice none 0 0] 24); obtain ⟨⟨p0, p1, p2⟩, p3⟩ := HALL.out _ hBa)
      | (go_at_call 22; refine (HTH.out _).mono ?_; rintro e w2 ⟨rfl, hBb⟩; have hBc := below_up hBa hBb; obtain ⟨⟨p0, p1, p2⟩, p3⟩ := HALL.out _ hBc)
      | (go_at_call 23; refine (HBK.out _).mono ?_; rintro e w3 ⟨rfl, hBd⟩; have hBe := below_up hBc hBd; obtain ⟨⟨p0, p1, p2⟩, p3⟩ := HALL.out _ hBe)
      | (go_at_call 15; refine (imageError_is _ _ _ _ _ _ hn).mono ?_; rw [HE.out]; rintro e w4 ⟨rfl, hBg⟩; have hBh := below_up hBe hBg; obtain ⟨⟨k0, k1, k2⟩, k3⟩ := HALL.out _ hBh; have hBx := below_up (below_up hBb hBd) hBg; obtain ⟨j0, j1, j2⟩ := ((Blk.new w1 #[.int .i64 0, .int .i64 0, .slice none 0 0] 24).keep hBx).three)
      | (go_at_call 16; refine (made_err q hq _ _ _).mono ?_; rintro e w5 ⟨rfl, hBi⟩; have hBj := below_up hBh hBi; obtain ⟨⟨k0, k1, k2⟩, k3⟩ := HALL.out _ hBj)| (go_at_call 26; refine (HB1.out _).mono ?_; rintro e w6 ⟨rfl, hBk⟩; have hBl := below_up hBj hBk))
    go_ret
    exact ⟨rfl, below_up hB02 hBl⟩
end Go.Proofs.Ytkebkbjkapfgkaa
