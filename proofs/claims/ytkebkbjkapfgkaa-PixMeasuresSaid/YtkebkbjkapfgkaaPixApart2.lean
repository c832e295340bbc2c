/- Apart of the program. -/
import Derived.Test.YtkebkbjkapfgkaaPixApart
import Derived.Test.YtkebkbjkapfgkaaPixTurn
namespace Go.Proofs.Ytkebkbjkapfgkaa
open Go.RowKit Go.Sort
set_option linter.unusedVariables false
/-- The greatest difference of the first k bytes. -/
def Im.apartTo (p q : Nat → Int) : Nat → Int
  | 0 => 0
  | k + 1 => max (Im.apartTo p q k) (Im.ad (p k) (q k))
theorem Im.apartTo_bd (p q : Nat → Int) (hp : ∀ i, 0 ≤ p i ∧ p i ≤ 255) (hq : ∀ i, 0 ≤ q i ∧ q i ≤ 255) (k : Nat) : 0 ≤ Im.apartTo p q k ∧ Im.apartTo p q k ≤ 255 := by
  induction k with
  | zero => simp [Im.apartTo]
  | succ k ih => have := Im.ad_bd (hp k) (hq k); rw [Im.apartTo]; omega
set_option maxRecDepth 100000 in
set_option maxHeartbeats 1000000 in
theorem apart_err1 (W H W' H' : Int) (a a2 : Option Addr) (n ca m ca2 : Nat) (w : World) (hn : n ≤ 9223372036854775807) (hm : m ≤ 9223372036854775807) (q : Int) (he : Im.err W H n = q) (hq : q ≠ 0) : Calls Try.prog 41 #[.agg #[.int .i64 W, .int .i64 H, .slice a n ca], .agg #[.int .i64 W', .int .i64 H', .slice a2 m ca2]] w fun e w' => e = .returned (.tuple #[.int .i64 0, .int .i64 q]) ∧ Below w.heap.size w w' := by
  have HE := Lib.hid he; clear he
  have hq' : (q == 0) = false := by simpa using hq
  obtain ⟨W1, HW1, hP1, hs1, hB1⟩ := box w #[.int .i64 W, .int .i64 H, .slice a n ca] 24
  obtain ⟨W2, HW2, hP2, hs2, hB2⟩ := box W1 #[.int .i64 W', .int .i64 H', .slice a2 m ca2] 24
  obtain ⟨W3, HW3, hS, hs3, hB3⟩ := box W2 #[.int .i64 W, .int .i64 H, .slice a n ca, .int .i64 W', .int .i64 H', .slice a2 m ca2] 24
  have hP1 := (hP1.keep hB2).keep hB3
  have hP2 := hP2.keep hB3
  rw [hs1] at hP2
  rw [show W2.heap.size = w.heap.size + 2 by omega] at hS
  obtain ⟨c0, c1, c2⟩ := (Blk.three hP1)
  have HALL := Lib.hid (fun V (hV : Below W3.heap.size W3 V) => And.intro (hP1.keep hV).three (And.intro (hP2.keep hV).three (And.intro (show V.cell? ⟨w.heap.size + 2, 0, none⟩ = some (.int .i64 W) by rw [(hS.keep hV).cell]; rfl) (And.intro (show V.cell? ⟨w.heap.size + 2, 1, none⟩ = some (.int .i64 H) by rw [(hS.keep hV).cell]; rfl) (And.intro (show V.cell? ⟨w.heap.size + 2, 2, none⟩ = some (.slice a n ca) by rw [(hS.keep hV).cell]; rfl)
    (And.intro (show V.cell? ⟨w.heap.size + 2, 3, none⟩ = some (.int .i64 W') by rw [(hS.keep hV).cell]; rfl) (And.intro (show V.cell? ⟨w.heap.size + 2, 4, none⟩ = some (.int .i64 H') by rw [(hS.keep hV).cell]; rfl) (show V.cell? ⟨w.heap.size + 2, 5, none⟩ = some (.slice a2 m ca2) by rw [(hS.keep hV).cell]; rfl))))))))
  have hB03 := below_up hB1 (below_up hB2 hB3)
  have H1 := Lib.hid HW1; have H2 := Lib.hid HW2; have H3 := Lib.hid HW3
  clear HW1 HW2 HW3 hP1 hP2 hS hs1 hs2 hs3 hB1 hB2 hB3 c0 c1 c2
  have hL := Below.refl W3.heap.size W3
  obtain ⟨⟨p0, p1, p2⟩, ⟨q0, q1, q2⟩, s0, s1, s2, s3, s4, s5⟩ := HALL.out _ hL
  go_enter Try.func41, Try.ntmps41
  go_wp2_with fail
  try rw [H1.out, H2.out, H3.out]
  clear hL p0 p1 p2 q0 q1 q2 s0 s1 s2 s3 s4 s5
  go_loopg [16] 2 (fun gk v wr => gk = 2 ∧ v = .int .i64 0 ∧ Below W3.heap.size W3 wr)
  case atStart => exact ⟨rfl, rfl, Below.refl _ _⟩
  case round =>
    obtain ⟨rfl, rfl, hL⟩ := hrel
    -- HE: what is known of the error
    obtain ⟨⟨p0, p1, p2⟩, ⟨q0, q1, q2⟩, s0, s1, s2, s3, s4, s5⟩ := HALL.out _ hL
    go_wp2_with (go_at_call 28; refine (check_is _ _ _ _ _ _ (by assumption)).mono ?_; rw [HE.out]; rintro e w2 ⟨rfl, hBx⟩; have hL := below_up (below_allocs hL _) hBx)
    go_ret2
    exact ⟨rfl, below_up hB03 hL⟩
set_option maxRecDepth 100000 in
set_option maxHeartbeats 1000000 in
theorem apart_err2 (W H W' H' : Int) (a a2 : Option Addr) (n ca m ca2 : Nat) (w : World) (hn : n ≤ 9223372036854775807) (hm : m ≤ 9223372036854775807) (he1 : Im.err W H n = 0) (q : Int) (he : Im.err W' H' m = q) (hq : q ≠ 0) : Calls Try.prog 41 #[.agg #[.int .i64 W, .int .i64 H, .slice a n ca], .agg #[.int .i64 W', .int .i64 H', .slice a2 m ca2]] w fun e w' => e = .returned (.tuple #[.int .i64 0, .int .i64 q]) ∧ Below w.heap.size w w' := by
  have HE := Lib.hid he; clear he
  have HE1 := Lib.hid he1; clear he1
  have hq' : (q == 0) = false := by simpa using hq
  obtain ⟨W1, HW1, hP1, hs1, hB1⟩ := box w #[.int .i64 W, .int .i64 H, .slice a n ca] 24
  obtain ⟨W2, HW2, hP2, hs2, hB2⟩ := box W1 #[.int .i64 W', .int .i64 H', .slice a2 m ca2] 24
  obtain ⟨W3, HW3, hS, hs3, hB3⟩ := box W2 #[.int .i64 W, .int .i64 H, .slice a n ca, .int .i64 W', .int .i64 H', .slice a2 m ca2] 24
  have hP1 := (hP1.keep hB2).keep hB3
  have hP2 := hP2.keep hB3
  rw [hs1] at hP2
  rw [show W2.heap.size = w.heap.size + 2 by omega] at hS
  obtain ⟨c0, c1, c2⟩ := (Blk.three hP1)
  have HALL := Lib.hid (fun V (hV : Below W3.heap.size W3 V) => And.intro (hP1.keep hV).three (And.intro (hP2.keep hV).three (And.intro (show V.cell? ⟨w.heap.size + 2, 0, none⟩ = some (.int .i64 W) by rw [(hS.keep hV).cell]; rfl) (And.intro (show V.cell? ⟨w.heap.size + 2, 1, none⟩ = some (.int .i64 H) by rw [(hS.keep hV).cell]; rfl) (And.intro (show V.cell? ⟨w.heap.size + 2, 2, none⟩ = some (.slice a n ca) by rw [(hS.keep hV).cell]; rfl)
    (And.intro (show V.cell? ⟨w.heap.size + 2, 3, none⟩ = some (.int .i64 W') by rw [(hS.keep hV).cell]; rfl) (And.intro (show V.cell? ⟨w.heap.size + 2, 4, none⟩ = some (.int .i64 H') by rw [(hS.keep hV).cell]; rfl) (show V.cell? ⟨w.heap.size + 2, 5, none⟩ = some (.slice a2 m ca2) by rw [(hS.keep hV).cell]; rfl))))))))
  have hB03 := below_up hB1 (below_up hB2 hB3)
  have H1 := Lib.hid HW1; have H2 := Lib.hid HW2; have H3 := Lib.hid HW3
  clear HW1 HW2 HW3 hP1 hP2 hS hs1 hs2 hs3 hB1 hB2 hB3 c0 c1 c2
  have hL := Below.refl W3.heap.size W3
  obtain ⟨⟨p0, p1, p2⟩, ⟨q0, q1, q2⟩, s0, s1, s2, s3, s4, s5⟩ := HALL.out _ hL
  go_enter Try.func41, Try.ntmps41
  go_wp2_with fail
  try rw [H1.out, H2.out, H3.out]
  clear hL p0 p1 p2 q0 q1 q2 s0 s1 s2 s3 s4 s5
  go_loopg [16] 2 (fun gk v wr => Below W3.heap.size W3 wr ∧ ((gk = 2 ∧ v = .int .i64 0) ∨ (gk = 1 ∧ v = .int .i64 1)))
  case atStart => exact ⟨Below.refl _ _, .inl ⟨rfl, rfl⟩⟩
  case round =>
    obtain ⟨hL, ⟨rfl, rfl⟩ | ⟨rfl, rfl⟩⟩ := hrel
    · -- HE1: what is known of the error
      obtain ⟨⟨p0, p1, p2⟩, ⟨q0, q1, q2⟩, s0, s1, s2, s3, s4, s5⟩ := HALL.out _ hL
      go_wp2_with (go_at_call 28; refine (check_is _ _ _ _ _ _ (by assumption)).mono ?_; rw [HE1.out]; rintro e w2 ⟨rfl, hBx⟩; have hL := below_up (below_allocs hL _) hBx)
      go_roundg 1
      case rel => exact ⟨hL, .inr ⟨rfl, rfl⟩⟩
      case measure => omega
    · -- HE: what is known of the error
      obtain ⟨⟨p0, p1, p2⟩, ⟨q0, q1, q2⟩, s0, s1, s2, s3, s4, s5⟩ := HALL.out _ hL
      go_wp2_with (go_at_call 28; refine (check_is _ _ _ _ _ _ (by assumption)).mono ?_; rw [HE.out]; rintro e w2 ⟨rfl, hBx⟩; have hL := below_up (below_allocs hL _) hBx)
      go_ret2
      exact ⟨rfl, below_up hB03 hL⟩
set_option maxRecDepth 100000 in
set_option maxHeartbeats 1000000 in
theorem apart_form (W H W' H' : Int) (a a2 : Option Addr) (n ca m ca2 : Nat) (w : World) (hn : n ≤ 9223372036854775807) (hm : m ≤ 9223372036854775807) (he1 : Im.err W H n = 0) (he : Im.err W' H' m = 0) (hd : W ≠ W' ∨ H ≠ H') : Calls Try.prog 41 #[.agg #[.int .i64 W, .int .i64 H, .slice a n ca], .agg #[.int .i64 W', .int .i64 H', .slice a2 m ca2]] w fun e w' => e = .returned (.tuple #[.int .i64 0, .int .i64 1]) ∧ Below w.heap.size w w' := by
  have HE := Lib.hid he; clear he
  have HE1 := Lib.hid he1; clear he1
  obtain ⟨W1, HW1, hP1, hs1, hB1⟩ := box w #[.int .i64 W, .int .i64 H, .slice a n ca] 24
  obtain ⟨W2, HW2, hP2, hs2, hB2⟩ := box W1 #[.int .i64 W', .int .i64 H', .slice a2 m ca2] 24
  obtain ⟨W3, HW3, hS, hs3, hB3⟩ := box W2 #[.int .i64 W, .int .i64 H, .slice a n ca, .int .i64 W', .int .i64 H', .slice a2 m ca2] 24
  have hP1 := (hP1.keep hB2).keep hB3
  have hP2 := hP2.keep hB3
  rw [hs1] at hP2
  rw [show W2.heap.size = w.heap.size + 2 by omega] at hS
  obtain ⟨c0, c1, c2⟩ := (Blk.three hP1)
  have HALL := Lib.hid (fun V (hV : Below W3.heap.size W3 V) => And.intro (hP1.keep hV).three (And.intro (hP2.keep hV).three (And.intro (show V.cell? ⟨w.heap.size + 2, 0, none⟩ = some (.int .i64 W) by rw [(hS.keep hV).cell]; rfl) (And.intro (show V.cell? ⟨w.heap.size + 2, 1, none⟩ = some (.int .i64 H) by rw [(hS.keep hV).cell]; rfl) (And.intro (show V.cell? ⟨w.heap.size + 2, 2, none⟩ = some (.slice a n ca) by rw [(hS.keep hV).cell]; rfl)
    (And.intro (show V.cell? ⟨w.heap.size + 2, 3, none⟩ = some (.int .i64 W') by rw [(hS.keep hV).cell]; rfl) (And.intro (show V.cell? ⟨w.heap.size + 2, 4, none⟩ = some (.int .i64 H') by rw [(hS.keep hV).cell]; rfl) (show V.cell? ⟨w.heap.size + 2, 5, none⟩ = some (.slice a2 m ca2) by rw [(hS.keep hV).cell]; rfl))))))))
  have hB03 := below_up hB1 (below_up hB2 hB3)
  have H1 := Lib.hid HW1; have H2 := Lib.hid HW2; have H3 := Lib.hid HW3
  clear HW1 HW2 HW3 hP1 hP2 hS hs1 hs2 hs3 hB1 hB2 hB3 c0 c1 c2
  by_cases h1 : W = W'
  · have h2 : H ≠ H' := by rcases hd with h | h; exact absurd h1 h; exact h
    have g1 : (H == H') = false := by simpa using h2
    have g2 : (H != H') = true := by simpa using h2
    have g3 : (W == W') = true := by simpa using h1
    have g4 : (W != W') = false := by simpa using h1
    clear hd h2 h1
    have hL := Below.refl W3.heap.size W3
    obtain ⟨⟨p0, p1, p2⟩, ⟨q0, q1, q2⟩, s0, s1, s2, s3, s4, s5⟩ := HALL.out _ hL
    go_enter Try.func41, Try.ntmps41
    go_wp2_with fail
    try rw [H1.out, H2.out, H3.out]
    clear hL p0 p1 p2 q0 q1 q2 s0 s1 s2 s3 s4 s5
    go_loopg [16] 2 (fun gk v wr => Below W3.heap.size W3 wr ∧ ((gk = 2 ∧ v = .int .i64 0) ∨ (gk = 1 ∧ v = .int .i64 1) ∨ (gk = 0 ∧ v = .int .i64 2)))
    case atStart => exact ⟨Below.refl _ _, .inl ⟨rfl, rfl⟩⟩
    case round =>
      obtain ⟨hL, ⟨rfl, rfl⟩ | ⟨rfl, rfl⟩ | ⟨rfl, rfl⟩⟩ := hrel
      · -- HE1: what is known of the error
        obtain ⟨⟨p0, p1, p2⟩, ⟨q0, q1, q2⟩, s0, s1, s2, s3, s4, s5⟩ := HALL.out _ hL
        go_wp2_with (go_at_call 28; refine (check_is _ _ _ _ _ _ (by assumption)).mono ?_; rw [HE1.out]; rintro e w2 ⟨rfl, hBx⟩; have hL := below_up (below_allocs hL _) hBx)
        go_roundg 1
        case rel => exact ⟨hL, .inr (.inl ⟨rfl, rfl⟩)⟩
        case measure => omega
      · -- HE: what is known of the error
        obtain ⟨⟨p0, p1, p2⟩, ⟨q0, q1, q2⟩, s0, s1, s2, s3, s4, s5⟩ := HALL.out _ hL
        go_wp2_with (go_at_call 28; refine (check_is _ _ _ _ _ _ (by assumption)).mono ?_; rw [HE.out]; rintro e w2 ⟨rfl, hBx⟩; have hL := below_up (below_allocs hL _) hBx)
        go_roundg 0
        case rel => exact ⟨hL, .inr (.inr ⟨rfl, rfl⟩)⟩
        case measure => omega
      · obtain ⟨⟨p0, p1, p2⟩, ⟨q0, q1, q2⟩, s0, s1, s2, s3, s4, s5⟩ := HALL.out _ hL
        go_wp2_with fail
        go_ret2
        exact ⟨rfl, below_up hB03 hL⟩
  · have g3 : (W == W') = false := by simpa using h1
    have g4 : (W != W') = true := by simpa using h1
    clear hd
    have hL := Below.refl W3.heap.size W3
    obtain ⟨⟨p0, p1, p2⟩, ⟨q0, q1, q2⟩, s0, s1, s2, s3, s4, s5⟩ := HALL.out _ hL
    go_enter Try.func41, Try.ntmps41
    go_wp2_with fail
    try rw [H1.out, H2.out, H3.out]
    clear hL p0 p1 p2 q0 q1 q2 s0 s1 s2 s3 s4 s5
    go_loopg [16] 2 (fun gk v wr => Below W3.heap.size W3 wr ∧ ((gk = 2 ∧ v = .int .i64 0) ∨ (gk = 1 ∧ v = .int .i64 1) ∨ (gk = 0 ∧ v = .int .i64 2)))
    case atStart => exact ⟨Below.refl _ _, .inl ⟨rfl, rfl⟩⟩
    case round =>
      obtain ⟨hL, ⟨rfl, rfl⟩ | ⟨rfl, rfl⟩ | ⟨rfl, rfl⟩⟩ := hrel
      · -- HE1: what is known of the error
        obtain ⟨⟨p0, p1, p2⟩, ⟨q0, q1, q2⟩, s0, s1, s2, s3, s4, s5⟩ := HALL.out _ hL
        go_wp2_with (go_at_call 28; refine (check_is _ _ _ _ _ _ (by assumption)).mono ?_; rw [HE1.out]; rintro e w2 ⟨rfl, hBx⟩; have hL := below_up (below_allocs hL _) hBx)
        go_roundg 1
        case rel => exact ⟨hL, .inr (.inl ⟨rfl, rfl⟩)⟩
        case measure => omega
      · -- HE: what is known of the error
        obtain ⟨⟨p0, p1, p2⟩, ⟨q0, q1, q2⟩, s0, s1, s2, s3, s4, s5⟩ := HALL.out _ hL
        go_wp2_with (go_at_call 28; refine (check_is _ _ _ _ _ _ (by assumption)).mono ?_; rw [HE.out]; rintro e w2 ⟨rfl, hBx⟩; have hL := below_up (below_allocs hL _) hBx)
        go_roundg 0
        case rel => exact ⟨hL, .inr (.inr ⟨rfl, rfl⟩)⟩
        case measure => omega
      · obtain ⟨⟨p0, p1, p2⟩, ⟨q0, q1, q2⟩, s0, s1, s2, s3, s4, s5⟩ := HALL.out _ hL
        go_wp2_with fail
        go_ret2
        exact ⟨rfl, below_up hB03 hL⟩
set_option maxRecDepth 100000 in
set_option maxHeartbeats 1000000 in
theorem apart_ok (W H : Int) (a a2 : Option Addr) (n ca ca2 : Nat) (px qx : Nat → Int) (w : World) (hn : n ≤ 9223372036854775807) (hr : Bytes w a n px) (hr2 : Bytes w a2 n qx) (he : Im.err W H n = 0) (hn2 : n ≤ 12288) (hpx : ∀ i, 0 ≤ px i ∧ px i ≤ 255) (hqx : ∀ i, 0 ≤ qx i ∧ qx i ≤ 255) :
    Calls Try.prog 41 #[.agg #[.int .i64 W, .int .i64 H, .slice a n ca], .agg #[.int .i64 W, .int .i64 H, .slice a2 n ca2]] w fun e w' => e = .returned (.tuple #[.int .i64 (Im.apartTo px qx n), .int .i64 0]) ∧ Below w.heap.size w w' := by
  have HE := Lib.hid he
  have HE1 := Lib.hid he; clear he
  have HR := Lib.hid hr; have HR2 := Lib.hid hr2; have HPX := Lib.hid hpx; have HQX := Lib.hid hqx
  have HBD := Lib.hid (fun k => Im.apartTo_bd px qx hpx hqx k)
  clear hr hr2 hpx hqx
  obtain ⟨W1, HW1, hP1, hs1, hB1⟩ := box w #[.int .i64 W, .int .i64 H, .slice a n ca] 24
  obtain ⟨W2, HW2, hP2, hs2, hB2⟩ := box W1 #[.int .i64 W, .int .i64 H, .slice a2 n ca2] 24
  obtain ⟨W3, HW3, hS, hs3, hB3⟩ := box W2 #[.int .i64 W, .int .i64 H, .slice a n ca, .int .i64 W, .int .i64 H, .slice a2 n ca2] 24
  have hP1 := (hP1.keep hB2).keep hB3
  have hP2 := hP2.keep hB3
  rw [hs1] at hP2
  rw [show W2.heap.size = w.heap.size + 2 by omega] at hS
  obtain ⟨c0, c1, c2⟩ := (Blk.three hP1)
  have HALL := Lib.hid (fun V (hV : Below W3.heap.size W3 V) => And.intro (hP1.keep hV).three (And.intro (hP2.keep hV).three (And.intro (show V.cell? ⟨w.heap.size + 2, 0, none⟩ = some (.int .i64 W) by rw [(hS.keep hV).cell]; rfl) (And.intro (show V.cell? ⟨w.heap.size + 2, 1, none⟩ = some (.int .i64 H) by rw [(hS.keep hV).cell]; rfl) (And.intro (show V.cell? ⟨w.heap.size + 2, 2, none⟩ = some (.slice a n ca) by rw [(hS.keep hV).cell]; rfl)
    (And.intro (show V.cell? ⟨w.heap.size + 2, 3, none⟩ = some (.int .i64 W) by rw [(hS.keep hV).cell]; rfl) (And.intro (show V.cell? ⟨w.heap.size + 2, 4, none⟩ = some (.int .i64 H) by rw [(hS.keep hV).cell]; rfl) (show V.cell? ⟨w.heap.size + 2, 5, none⟩ = some (.slice a2 n ca2) by rw [(hS.keep hV).cell]; rfl))))))))
  have hB03 := below_up hB1 (below_up hB2 hB3)
  have H1 := Lib.hid HW1; have H2 := Lib.hid HW2; have H3 := Lib.hid HW3
  clear HW1 HW2 HW3 hP1 hP2 hS hs1 hs2 hs3 hB1 hB2 hB3 c0 c1 c2
  have hL := Below.refl W3.heap.size W3
  obtain ⟨⟨p0, p1, p2⟩, ⟨q0, q1, q2⟩, s0, s1, s2, s3, s4, s5⟩ := HALL.out _ hL
  go_enter Try.func41, Try.ntmps41
  go_wp2_with fail
  try rw [H1.out, H2.out, H3.out]
  clear hL p0 p1 p2 q0 q1 q2 s0 s1 s2 s3 s4 s5
  go_loopg [16] 2 (fun gk v wr => Below W3.heap.size W3 wr ∧ ((gk = 2 ∧ v = .int .i64 0) ∨ (gk = 1 ∧ v = .int .i64 1) ∨ (gk = 0 ∧ v = .int .i64 2)))
  case atStart => exact ⟨Below.refl _ _, .inl ⟨rfl, rfl⟩⟩
  case round =>
    obtain ⟨hL, ⟨rfl, rfl⟩ | ⟨rfl, rfl⟩ | ⟨rfl, rfl⟩⟩ := hrel
    · -- HE1: what is known of the error
      obtain ⟨⟨p0, p1, p2⟩, ⟨q0, q1, q2⟩, s0, s1, s2, s3, s4, s5⟩ := HALL.out _ hL
      go_wp2_with (go_at_call 28; refine (check_is _ _ _ _ _ _ (by assumption)).mono ?_; rw [HE1.out]; rintro e w2 ⟨rfl, hBx⟩; have hL := below_up (below_allocs hL _) hBx)
      go_roundg 1
      case rel => exact ⟨hL, .inr (.inl ⟨rfl, rfl⟩)⟩
      case measure => omega
    · -- HE: what is known of the error
      obtain ⟨⟨p0, p1, p2⟩, ⟨q0, q1, q2⟩, s0, s1, s2, s3, s4, s5⟩ := HALL.out _ hL
      go_wp2_with (go_at_call 28; refine (check_is _ _ _ _ _ _ (by assumption)).mono ?_; rw [HE.out]; rintro e w2 ⟨rfl, hBx⟩; have hL := below_up (below_allocs hL _) hBx)
      go_roundg 0
      case rel => exact ⟨hL, .inr (.inr ⟨rfl, rfl⟩)⟩
      case measure => omega
    · obtain ⟨⟨p0, p1, p2⟩, ⟨q0, q1, q2⟩, s0, s1, s2, s3, s4, s5⟩ := HALL.out _ hL
      have hL2 := hL
      go_wp2_with fail
      clear p0 p1 p2 q0 q1 q2 s0 s1 s2 s3 s4 s5
      go_loopg [9, 41] n (fun gk v9 v wr => ∃ i : Nat, i ≤ n ∧ gk = n - i ∧ v9 = .int .i64 (Im.apartTo px qx i) ∧ v = .int .i64 i ∧ Below W3.heap.size W3 wr)
      case atStart => exact ⟨0, by omega, rfl, rfl, rfl, hL⟩
      case round =>
        clear hL hL2
        obtain ⟨i, hi, rfl, rfl, rfl, hL⟩ := hrel
        obtain ⟨⟨p0, p1, p2⟩, ⟨q0, q1, q2⟩, s0, s1, s2, s3, s4, s5⟩ := HALL.out _ hL
        by_cases hlt : i < n
        · obtain ⟨b1, o1, rfl, hb1, hc1⟩ := HR.out.keep (below_up hB03 hL) (by omega)
          obtain ⟨b2, o2, rfl, hb2, hc2⟩ := HR2.out.keep (below_up hB03 hL) (by omega)
          have e1 : wr.cell? ⟨b1, o1 + i, none⟩ = some (.int .u8 (px i)) := hc1 i hlt
          have e2 : wr.cell? ⟨b2, o2 + i, none⟩ = some (.int .u8 (qx i)) := hc2 i hlt
          have hbd := HBD.out i
          have hp := HPX.out i
          have hq := HQX.out i
          have had := Im.ad_bd hp hq
          have HNX : Hid (Im.apartTo px qx (i + 1) = max (Im.apartTo px qx i) (Im.ad (px i) (qx i))) := rfl
          have HAP := Lib.hid (fun V => apart_is (px i) (qx i) hp hq V)
          generalize Im.ad (px i) (qx i) = d at *
          generalize Im.apartTo px qx i = s at *
          generalize px i = u at *
          generalize qx i = v at *
          clear hc1 hc2
          by_cases hsd : s < d
          · go_wp2_with (go_at_call 78; refine (HAP.out _).mono ?_; rintro e w2 ⟨rfl, rfl⟩)
            go_roundg (n - (i + 1))
            case rel => exact ⟨i + 1, by omega, rfl, by rw [HNX.out]; congr 1; omega, by go_num, hL⟩
            case measure => omega
          · go_wp2_with (go_at_call 78; refine (HAP.out _).mono ?_; rintro e w2 ⟨rfl, rfl⟩)
            go_roundg (n - (i + 1))
            case rel => exact ⟨i + 1, by omega, rfl, by rw [HNX.out]; congr 1; omega, by go_num, hL⟩
            case measure => omega
        · obtain rfl : n = i := by omega
          go_wp2_with fail
          go_ret2
          exact ⟨rfl, below_up hB03 hL⟩
end Go.Proofs.Ytkebkbjkapfgkaa
