/- The law PixTurns, walked: a turn that is none. -/
import Derived.Test.YtkebkbjkapfgkaaPixTurnLaw
namespace Go.Proofs.Ytkebkbjkapfgkaa
open Go.RowKit Go.Sort Go.Shelf
set_option linter.unusedVariables false
set_option maxRecDepth 100000 in
set_option maxHeartbeats 1000000 in
theorem turns_err_out (W H t b : Int) (a : Option Addr) (n ca : Nat) (w : World) (hn : n ≤ 9223372036854775807) (q : Int) (he : Im.err W H n = q) (hq : q ≠ 0) (ht : t < 1 ∨ 8 < t) : Calls Try.prog 5 #[.agg #[.int .i64 W, .int .i64 H, .slice a n ca], .int .i64 t, .int .i64 b] w fun e w' => e = .returned (.bool true) ∧ Below w.heap.size w w' := by
  have HE := Lib.hid he; clear he
  have hq' : (q == 0) = false := by simpa using hq
  have HTR := Lib.hid (fun V (hV : Below w.heap.size w V) => turn_err W H t a n ca q V hn HE.out hq)
  obtain ⟨W1, HW1, hP1, hs1, hB1⟩ := box w #[.int .i64 W, .int .i64 H, .slice a n ca] 24
  obtain ⟨W2, HW2, hP2, hs2, hB2⟩ := box W1 #[.int .i64 t] 3
  have hB02 := below_up hB1 hB2
  have hP1 := hP1.keep hB2
  rw [hs1] at hP2
  have HALL := Lib.hid (fun V (hV : Below W2.heap.size W2 V) => And.intro (hP1.keep hV).three (hP2.keep hV).one)
  have H1 := Lib.hid HW1; have H2 := Lib.hid HW2
  clear HW1 HW2 hP1 hP2 hB1 hB2 hs1 hs2
  have HT' := Lib.hid ht
  by_cases ht1 : t < 1
  · clear ht
    -- rintro e w1 ⟨rfl, hBt⟩: behind Turn; .int .i64 0, .int .i64 0, .slice none 0 0: the made image's fields; refine (then_range _ _ _ (.inl HT'.out)).mono ?_: Then; refine (back_range _ _ HT'.out).mono ?_: Back; refine (made_err q hq _ _ _).mono ?_: made; : Both's arms
    go_enter Try.func5, Try.ntmps5
    go_wp2_with (first
      | (go_at_call 21; rw [H1.out, H2.out]; refine (HTR.out _ hB02).mono ?_; rintro e w1 ⟨rfl, hBt⟩; have hBa := below_allocs hBt (.cells #[.int .i64 0, .int .i64 0, .slice none 0 0] 24); obtain ⟨⟨p0, p1, p2⟩, p3⟩ := HALL.out _ hBa)
      | (go_at_call 22; refine (then_range _ _ _ (.inl HT'.out)).mono ?_; rintro e w2 ⟨rfl, hBb⟩; have hBc := below_up hBa hBb; obtain ⟨⟨p0, p1, p2⟩, p3⟩ := HALL.out _ hBc)
      | (go_at_call 23; refine (back_range _ _ HT'.out).mono ?_; rintro e w3 ⟨rfl, hBd⟩; have hBe := below_up hBc hBd; obtain ⟨⟨p0, p1, p2⟩, p3⟩ := HALL.out _ hBe)
      | (go_at_call 15; refine (imageError_is _ _ _ _ _ _ hn).mono ?_; rw [HE.out]; rintro e w4 ⟨rfl, hBg⟩; have hBh := below_up hBe hBg; obtain ⟨⟨k0, k1, k2⟩, k3⟩ := HALL.out _ hBh; have hBx := below_up (below_up hBb hBd) hBg; obtain ⟨j0, j1, j2⟩ := ((Blk.new w1 #[.int .i64 0, .int .i64 0, .slice none 0 0] 24).keep hBx).three)
      | (go_at_call 16; refine (made_err q hq _ _ _).mono ?_; rintro e w5 ⟨rfl, hBi⟩; have hBj := below_up hBh hBi; obtain ⟨⟨k0, k1, k2⟩, k3⟩ := HALL.out _ hBj))
    go_ret
    exact ⟨rfl, below_up hB02 hBj⟩
  · have ht2 : 8 < t := by omega
    have hd8 : decide (t ≤ 8) = false := by simp; omega
    clear ht
    -- rintro e w1 ⟨rfl, hBt⟩: behind Turn; .int .i64 0, .int .i64 0, .slice none 0 0: the made image's fields; refine (then_range _ _ _ (.inl HT'.out)).mono ?_: Then; refine (back_range _ _ HT'.out).mono ?_: Back; refine (made_err q hq _ _ _).mono ?_: made; : Both's arms
    go_enter Try.func5, Try.ntmps5
    go_wp2_with (first
      | (go_at_call 21; rw [H1.out, H2.out]; refine (HTR.out _ hB02).mono ?_; rintro e w1 ⟨rfl, hBt⟩; have hBa := below_allocs hBt (.cells #[.int .i64 0, .int .i64 0, .slice none 0 0] 24); obtain ⟨⟨p0, p1, p2⟩, p3⟩ := HALL.out _ hBa)
      | (go_at_call 22; refine (then_range _ _ _ (.inl HT'.out)).mono ?_; rintro e w2 ⟨rfl, hBb⟩; have hBc := below_up hBa hBb; obtain ⟨⟨p0, p1, p2⟩, p3⟩ := HALL.out _ hBc)
      | (go_at_call 23; refine (back_range _ _ HT'.out).mono ?_; rintro e w3 ⟨rfl, hBd⟩; have hBe := below_up hBc hBd; obtain ⟨⟨p0, p1, p2⟩, p3⟩ := HALL.out _ hBe)
      | (go_at_call 15; refine (imageError_is _ _ _ _ _ _ hn).mono ?_; rw [HE.out]; rintro e w4 ⟨rfl, hBg⟩; have hBh := below_up hBe hBg; obtain ⟨⟨k0, k1, k2⟩, k3⟩ := HALL.out _ hBh; have hBx := below_up (below_up hBb hBd) hBg; obtain ⟨j0, j1, j2⟩ := ((Blk.new w1 #[.int .i64 0, .int .i64 0, .slice none 0 0] 24).keep hBx).three)
      | (go_at_call 16; refine (made_err q hq _ _ _).mono ?_; rintro e w5 ⟨rfl, hBi⟩; have hBj := below_up hBh hBi; obtain ⟨⟨k0, k1, k2⟩, k3⟩ := HALL.out _ hBj))
    go_ret
    exact ⟨rfl, below_up hB02 hBj⟩
set_option maxRecDepth 100000 in
set_option maxHeartbeats 1000000 in
theorem turns_ok_out (W H t b : Int) (a : Option Addr) (n ca : Nat) (w : World) (hn : n ≤ 9223372036854775807) (he : Im.err W H n = 0) (ht : t < 1 ∨ 8 < t) : Calls Try.prog 5 #[.agg #[.int .i64 W, .int .i64 H, .slice a n ca], .int .i64 t, .int .i64 b] w fun e w' => e = .returned (.bool true) ∧ Below w.heap.size w w' := by
  have HE := Lib.hid he; clear he
  have HTR := Lib.hid (fun V (hV : Below w.heap.size w V) => turn_range W H t a n ca V hn HE.out ht)
  obtain ⟨W1, HW1, hP1, hs1, hB1⟩ := box w #[.int .i64 W, .int .i64 H, .slice a n ca] 24
  obtain ⟨W2, HW2, hP2, hs2, hB2⟩ := box W1 #[.int .i64 t] 3
  have hB02 := below_up hB1 hB2
  have hP1 := hP1.keep hB2
  rw [hs1] at hP2
  have HALL := Lib.hid (fun V (hV : Below W2.heap.size W2 V) => And.intro (hP1.keep hV).three (hP2.keep hV).one)
  have H1 := Lib.hid HW1; have H2 := Lib.hid HW2
  clear HW1 HW2 hP1 hP2 hB1 hB2 hs1 hs2
  have HT' := Lib.hid ht
  by_cases ht1 : t < 1
  · clear ht
    -- rintro e w1 ⟨rfl, hBt⟩: behind Turn; .int .i64 0, .int .i64 0, .slice none 0 0: the made image's fields; refine (then_range _ _ _ (.inl HT'.out)).mono ?_: Then; refine (back_range _ _ HT'.out).mono ?_: Back; refine (made_err 2 (by omega) _ _ _).mono ?_: made; : Both's arms
    go_enter Try.func5, Try.ntmps5
    go_wp2_with (first
      | (go_at_call 21; rw [H1.out, H2.out]; refine (HTR.out _ hB02).mono ?_; rintro e w1 ⟨rfl, hBt⟩; have hBa := below_allocs hBt (.cells #[.int .i64 0, .int .i64 0, .slice none 0 0] 24); obtain ⟨⟨p0, p1, p2⟩, p3⟩ := HALL.out _ hBa)
      | (go_at_call 22; refine (then_range _ _ _ (.inl HT'.out)).mono ?_; rintro e w2 ⟨rfl, hBb⟩; have hBc := below_up hBa hBb; obtain ⟨⟨p0, p1, p2⟩, p3⟩ := HALL.out _ hBc)
      | (go_at_call 23; refine (back_range _ _ HT'.out).mono ?_; rintro e w3 ⟨rfl, hBd⟩; have hBe := below_up hBc hBd; obtain ⟨⟨p0, p1, p2⟩, p3⟩ := HALL.out _ hBe)
      | (go_at_call 15; refine (imageError_is _ _ _ _ _ _ hn).mono ?_; rw [HE.out]; rintro e w4 ⟨rfl, hBg⟩; have hBh := below_up hBe hBg; obtain ⟨⟨k0, k1, k2⟩, k3⟩ := HALL.out _ hBh; have hBx := below_up (below_up hBb hBd) hBg; obtain ⟨j0, j1, j2⟩ := ((Blk.new w1 #[.int .i64 0, .int .i64 0, .slice none 0 0] 24).keep hBx).three)
      | (go_at_call 16; refine (made_err 2 (by omega) _ _ _).mono ?_; rintro e w5 ⟨rfl, hBi⟩; have hBj := below_up hBh hBi; obtain ⟨⟨k0, k1, k2⟩, k3⟩ := HALL.out _ hBj))
    go_ret
    exact ⟨rfl, below_up hB02 hBj⟩
  · have ht2 : 8 < t := by omega
    have hd8 : decide (t ≤ 8) = false := by simp; omega
    clear ht
    -- rintro e w1 ⟨rfl, hBt⟩: behind Turn; .int .i64 0, .int .i64 0, .slice none 0 0: the made image's fields; refine (then_range _ _ _ (.inl HT'.out)).mono ?_: Then; refine (back_range _ _ HT'.out).mono ?_: Back; refine (made_err 2 (by omega) _ _ _).mono ?_: made; : Both's arms
    go_enter Try.func5, Try.ntmps5
    go_wp2_with (first
      | (go_at_call 21; rw [H1.out, H2.out]; refine (HTR.out _ hB02).mono ?_; rintro e w1 ⟨rfl, hBt⟩; have hBa := below_allocs hBt (.cells #[.int .i64 0, .int .i64 0, .slice none 0 0] 24); obtain ⟨⟨p0, p1, p2⟩, p3⟩ := HALL.out _ hBa)
      | (go_at_call 22; refine (then_range _ _ _ (.inl HT'.out)).mono ?_; rintro e w2 ⟨rfl, hBb⟩; have hBc := below_up hBa hBb; obtain ⟨⟨p0, p1, p2⟩, p3⟩ := HALL.out _ hBc)
      | (go_at_call 23; refine (back_range _ _ HT'.out).mono ?_; rintro e w3 ⟨rfl, hBd⟩; have hBe := below_up hBc hBd; obtain ⟨⟨p0, p1, p2⟩, p3⟩ := HALL.out _ hBe)
      | (go_at_call 15; refine (imageError_is _ _ _ _ _ _ hn).mono ?_; rw [HE.out]; rintro e w4 ⟨rfl, hBg⟩; have hBh := below_up hBe hBg; obtain ⟨⟨k0, k1, k2⟩, k3⟩ := HALL.out _ hBh; have hBx := below_up (below_up hBb hBd) hBg; obtain ⟨j0, j1, j2⟩ := ((Blk.new w1 #[.int .i64 0, .int .i64 0, .slice none 0 0] 24).keep hBx).three)
      | (go_at_call 16; refine (made_err 2 (by omega) _ _ _).mono ?_; rintro e w5 ⟨rfl, hBi⟩; have hBj := below_up hBh hBi; obtain ⟨⟨k0, k1, k2⟩, k3⟩ := HALL.out _ hBj))
    go_ret
    exact ⟨rfl, below_up hB02 hBj⟩
end Go.Proofs.Ytkebkbjkapfgkaa
