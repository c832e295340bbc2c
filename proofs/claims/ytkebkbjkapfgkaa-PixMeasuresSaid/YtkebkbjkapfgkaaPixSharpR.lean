/- The reference's Sharp. -/
import Derived.Test.YtkebkbjkapfgkaaPixGreyed
import Derived.Test.YtkebkbjkapfgkaaPixSharp
namespace Go.Proofs.Ytkebkbjkapfgkaa
open Go.RowKit Go.Sort
set_option linter.unusedVariables false
attribute [local go_sem ↓] Go.wp_at_zero Go.wp_at_succ
theorem pixel_zero (W H x y : Nat) (X Y : Int) (hX : X = x) (hY : Y = y) (b n ca : Nat) (w : World)
    (hk : 3 * (y * W + x) + 3 ≤ n) (hn : n ≤ 12288) (hca : n ≤ ca) (hca2 : ca ≤ 9223372036854775807) :
    Calls Try.prog 68 #[.agg #[.int .i64 W, .int .i64 H, .slice (some ⟨b, 0, none⟩) n ca], .int .i64 X, .int .i64 Y] w fun e w' => e = .returned (.slice (some ⟨b, 3 * (y * W + x), none⟩) 3 (ca - 3 * (y * W + x))) ∧ Below w.heap.size w w' := by
  have := pixel_int W H x y X Y hX hY b 0 n ca w hk hn hca hca2
  rwa [Nat.zero_add] at this
theorem _root_.Go.IntKind.wrap_i64_of {n : Int} (h1 : -9223372036854775808 ≤ n) (h2 : n ≤ 9223372036854775807) : IntKind.i64.wrap n = n := by rw [IntKind.wrap_i64]; omega
structure See2 (w wr : World) (x0 x1 x2 : Value) (W H : Nat) (o gb cap : Nat) (g : Nat → Nat → Int) : Prop where
  par : Blk wr w.heap.size #[x0, x1, x2] 24
  out : Blk wr o #[.int .i64 W, .int .i64 H, .slice (some ⟨gb, 0, none⟩) (3 * (H * W)) cap] 24
  lt : gb < wr.heap.size
  cells : ∀ i, i < 3 * (H * W) → wr.cell? ⟨gb, i, none⟩ = some (.int .u8 (Im.content W (fun i k _ => g i k) i))
  bel : Below w.heap.size w wr
namespace See2
variable {w wr wr' : World} {x0 x1 x2 : Value} {W H o gb cap : Nat} {g : Nat → Nat → Int}
theorem keep (h : See2 w wr x0 x1 x2 W H o gb cap g) (hb : Below wr.heap.size wr wr') : See2 w wr' x0 x1 x2 W H o gb cap g :=
  ⟨h.par.keep hb, h.out.keep hb, Nat.lt_of_lt_of_le h.lt hb.size, fun i hi => (hb.cell (p := ⟨gb, i, none⟩) h.lt).trans (h.cells i hi), below_up h.bel hb⟩
theorem drew (h : See2 w wr x0 x1 x2 W H o gb cap g) : See2 w wr.drew x0 x1 x2 W H o gb cap g := h.keep (Below.refl _ _).drew
theorem byte (h : See2 w wr x0 x1 x2 W H o gb cap g) {x y : Nat} (hx : x < W) (hy : y < H) : wr.cell? ⟨gb, 3 * (y * W + x), none⟩ = some (.int .u8 (g x y)) := by
  have := Im.place_lt W H x y hx hy
  have e := h.cells (3 * (y * W + x)) (by omega)
  rwa [show Im.content W (fun i k _ => g i k) (3 * (y * W + x)) = g x y from Im.content_at W (fun i k _ => g i k) x y 0 hx (by omega)] at e
theorem five (h : See2 w wr x0 x1 x2 W H o gb cap g) {x y x' y' : Nat} (hx : x < W) (hy : y < H) (hx' : x' < W) (hy' : y' < H) :
    wr.cell? ⟨o, 0, none⟩ = some (.int .i64 W) ∧ wr.cell? ⟨o, 1, none⟩ = some (.int .i64 H) ∧ wr.cell? ⟨o, 2, none⟩ = some (.slice (some ⟨gb, 0, none⟩) (3 * (H * W)) cap) ∧
    wr.cell? ⟨gb, 3 * (y * W + x), none⟩ = some (.int .u8 (g x y)) ∧ wr.cell? ⟨gb, 3 * (y' * W + x'), none⟩ = some (.int .u8 (g x' y')) :=
  ⟨h.out.three.1, h.out.three.2.1, h.out.three.2.2, h.byte hx hy, h.byte hx' hy'⟩
end See2
set_option maxRecDepth 100000 in
set_option maxHeartbeats 4000000 in
theorem rsharp_is (W H : Nat) (a : Option Addr) (ca : Nat) (px : Nat → Int) (w : World) (hW : 1 ≤ W ∧ W ≤ 64 ∧ 1 ≤ H ∧ H ≤ 64) (hr : Row w a (3 * (H * W)) (fun i => .int .u8 (px i)))
    (hca : 3 * (H * W) ≤ ca) (hca2 : ca ≤ 9223372036854775807) (hpx : ∀ i, 0 ≤ px i ∧ px i ≤ 255) :
    Calls Try.prog 46 #[.agg #[.int .i64 W, .int .i64 H, .slice a (3 * (H * W)) ca]] w fun e w' => e = .returned (.int .i64 (Im.sharp (Im.gr px W) W H H)) ∧ Below w.heap.size w w' := by
  have hWH : H * W ≤ 4096 := Nat.mul_le_mul hW.2.2.2 hW.2.1
  have hWH1 : 1 ≤ H * W := Nat.mul_le_mul (show 1 ≤ H from hW.2.2.1) hW.1
  obtain ⟨W1, HW1, hP, hs1, hB1⟩ := box w #[.int .i64 W, .int .i64 H, .slice a (3 * (H * W)) ca] 24
  have HGR := Lib.hid (greyed_is W H a ca px W1 hW (hr.keep hB1) hca hca2 hpx)
  have hgb := Im.gr_bd W hpx
  obtain ⟨g, hg⟩ : ∃ g, Im.gr px W = g := ⟨_, rfl⟩
  have hcont : (Im.content W fun i k c => Im.grey (Im.pix px W i k 0) (Im.pix px W i k 1) (Im.pix px W i k 2)) = Im.content W (fun i k c => g i k) := by rw [← hg]; rfl
  rw [hcont] at HGR
  rw [hg] at hgb ⊢
  clear hcont hg hr
  have HGB := Lib.hid hgb; clear hgb
  have H1 := Lib.hid HW1; clear HW1
  go_enter Try.func46, Try.ntmps46
  go_wp2_with (go_at_call 38; rw [H1.out]; refine HGR.out.mono ?_; rintro e w2 ⟨gb, cap, rfl, hcap1, hcap2, hown, hB2⟩; obtain ⟨p0, p1, p2⟩ := ((hP.keep hB2).alloc (.cells #[.int .i64 W, .int .i64 H, .slice (some ⟨gb, 0, none⟩) (3 * (H * W)) cap] 24)).three)
  obtain ⟨w3, HW3, hO3, hs3, hB3⟩ := box w2 #[.int .i64 W, .int .i64 H, .slice (some ⟨gb, 0, none⟩) (3 * (H * W)) cap] 24
  rw [HW3]
  have hcap2 : cap ≤ 9223372036854775807 := by unfold maxLen at hcap2; omega
  have hgl := (hown.lt gb rfl).2
  have hS : See2 w w3 (.int .i64 W) (.int .i64 H) (.slice a (3 * (H * W)) ca) W H w2.heap.size gb cap g :=
    ⟨(hP.keep hB2).keep hB3, hO3, by omega, fun i hi => by
      have h1 := hown.cells (g := gb) rfl i (.int .u8 (Im.content W (fun i k _ => g i k) i)) (by simp [bytes, hi])
      rw [show (⟨gb, 0, none⟩ : Addr).add i = ⟨gb, i, none⟩ from by unfold Addr.add; split <;> simp_all] at h1
      exact (hB3.cell (p := ⟨gb, i, none⟩) hgl).trans h1, below_up (below_up hB1 hB2) hB3⟩
  obtain ⟨o, ho⟩ : ∃ o, o = w2.heap.size := ⟨_, rfl⟩
  rw [← ho] at hS ⊢
  clear hO3 hP p0 p1 p2 hB2 hB3 HW3 ho H1 hB1 hs3 hown hgl HGR
  obtain ⟨p0, p1, p2⟩ := hS.par.three
  go_wp2_with fail
  clear p0 p1 p2
  go_loopg [4, 11] H (fun gk s v wr => ∃ j : Nat, j ≤ H ∧ gk = H - j ∧ s = .int .i64 (Im.sharp g W H j) ∧ v = .int .i64 j ∧ See2 w wr (.int .i64 W) (.int .i64 H) (.slice a (3 * (H * W)) ca) W H o gb cap g)
  case atStart => exact ⟨0, by omega, rfl, rfl, rfl, hS⟩
  case round =>
    clear hS
    obtain ⟨j, hj, rfl, rfl, rfl, hS⟩ := hrel
    by_cases hlt : j < H
    · obtain ⟨p0, p1, p2⟩ := hS.par.three
      have hsb := Im.sharp_bd (W := W) (H := H) HGB.out hW.2.1 j
      obtain ⟨s0, hs0⟩ : ∃ s, Im.sharp g W H j = s := ⟨_, rfl⟩
      rw [hs0] at hsb ⊢
      have HS0 := Lib.hid hs0; clear hs0
      go_wp2_with fail
      go_loopg [4, 16] W (fun gk s v wr => ∃ i : Nat, i ≤ W ∧ gk = W - i ∧ s = .int .i64 (s0 + Im.rowSum g W H j i) ∧ v = .int .i64 i ∧ See2 w wr (.int .i64 W) (.int .i64 H) (.slice a (3 * (H * W)) ca) W H o gb cap g)
      case atStart => exact ⟨0, by omega, rfl, by simp [Im.rowSum], rfl, hS⟩
      case round =>
        clear hS p0 p1 p2
        obtain ⟨i, hi, rfl, rfl, rfl, hS⟩ := hrel
        by_cases hlt2 : i < W
        · obtain ⟨p0, p1, p2⟩ := hS.par.three
          have hrb := Im.rowSum_bd (W := W) (H := H) HGB.out j i
          have hA1 := Im.ad_bd (HGB.out i j) (HGB.out (i + 1) j)
          have hA2 := Im.ad_bd (HGB.out i j) (HGB.out i (j + 1))
          have gb1 := HGB.out i j
          have gb2 := HGB.out (i + 1) j
          have gb3 := HGB.out i (j + 1)
          obtain ⟨S, hSS⟩ : ∃ S, s0 + Im.rowSum g W H j i = S := ⟨_, rfl⟩
          have hSb0 : 0 ≤ S ∧ S ≤ 3000000 := by omega
          rw [hSS]
          have HSS := Lib.hid hSS; clear hSS hrb
          have hpl := Im.place_lt W H i j hlt2 hlt
          have hpl2 : i + 1 < W → j * W + (i + 1) + 1 ≤ H * W := fun h => Im.place_lt W H (i + 1) j h hlt
          have hpl3 : j + 1 < H → (j + 1) * W + i + 1 ≤ H * W := fun h => Im.place_lt W H i (j + 1) hlt2 h
          have q1 : IntKind.i64.wrap (g i j) = g i j := IntKind.wrap_i64_of (by omega) (by omega)
          have q2 : IntKind.i64.wrap (g (i + 1) j) = g (i + 1) j := IntKind.wrap_i64_of (by omega) (by omega)
          have q3 : IntKind.i64.wrap (g i (j + 1)) = g i (j + 1) := IntKind.wrap_i64_of (by omega) (by omega)
          have q4 : IntKind.i64.wrap (g i j - g (i + 1) j) = g i j - g (i + 1) j := IntKind.wrap_i64_of (by omega) (by omega)
          have q5 : IntKind.i64.wrap (g i j - g i (j + 1)) = g i j - g i (j + 1) := IntKind.wrap_i64_of (by omega) (by omega)
          obtain ⟨S1, hS1⟩ : ∃ S1, S + Im.ad (g i j) (g (i + 1) j) = S1 := ⟨_, rfl⟩
          have hS1b : 0 ≤ S1 ∧ S1 ≤ 3000300 := by omega
          have q6 : IntKind.i64.wrap (S + Im.ad (g i j) (g (i + 1) j)) = S1 := by rw [IntKind.wrap_i64_of (by omega) (by omega)]; exact hS1
          have q7 : IntKind.i64.wrap (S1 + Im.ad (g i j) (g i (j + 1))) = S1 + Im.ad (g i j) (g i (j + 1)) := IntKind.wrap_i64_of (by omega) (by omega)
          have q8 : IntKind.i64.wrap (S + Im.ad (g i j) (g i (j + 1))) = S + Im.ad (g i j) (g i (j + 1)) := IntKind.wrap_i64_of (by omega) (by omega)
          have HS1 := Lib.hid hS1; clear hS1
          by_cases c1 : i + 1 < W
          · have hpl2' := hpl2 c1; clear hpl2
            by_cases c2 : j + 1 < H
            · have hpl3' := hpl3 c2; clear hpl3
              -- a drawn region of Sharp: hS: the fact of what lies; (i + 1) j: the neighbour's place; hSb: the name of the fact behind
              go_wp2_with fail
              go_region_held3 (fun w' => w'.cell? ⟨o, 0, none⟩ = some (.int .i64 W) ∧ w'.cell? ⟨o, 1, none⟩ = some (.int .i64 H) ∧ w'.cell? ⟨o, 2, none⟩ = some (.slice (some ⟨gb, 0, none⟩) (3 * (H * W)) cap) ∧ w'.cell? ⟨gb, 3 * (j * W + i), none⟩ = some (.int .u8 (g i j)) ∧ w'.cell? ⟨gb, 3 * (j * W + (i + 1)), none⟩ = some (.int .u8 (g (i + 1) j)))
                (first | exact (hS).drew.five (by omega) (by omega) (by omega) (by omega) | exact hSba.five (by omega) (by omega) (by omega) (by omega) | exact hSb.five (by omega) (by omega) (by omega) (by omega))
                (first
                  | (go_at_call 68; refine (pixel_zero W H i j _ _ (by first | rfl | (rw [IntKind.wrap_i64]; omega)) (by first | rfl | (rw [IntKind.wrap_i64]; omega)) gb (3 * (H * W)) cap _ (by omega) (by omega) hcap1 hcap2).mono ?_; rintro e w4 ⟨rfl, hB4⟩; have hSba := (hS).drew.keep hB4)
                  | (go_at_call 68; refine (pixel_zero W H (i + 1) j _ _ (by first | rfl | (rw [IntKind.wrap_i64]; omega)) (by first | rfl | (rw [IntKind.wrap_i64]; omega)) gb (3 * (H * W)) cap _ (by omega) (by omega) hcap1 hcap2).mono ?_; rintro e w5 ⟨rfl, hB5⟩; have hSb := hSba.keep hB5)
                  | (go_at_call 80; refine (rsize_ad _ _ (HGB.out _ _) (HGB.out _ _) _).mono ?_; rintro e w6 ⟨rfl, rfl⟩))
              obtain ⟨p0, p1, p2⟩ := hSb.par.three
              -- a drawn region of Sharp: hSb: the fact of what lies; i (j + 1): the neighbour's place; hSc: the name of the fact behind
              go_wp2_with fail
              go_region_held3 (fun w' => w'.cell? ⟨o, 0, none⟩ = some (.int .i64 W) ∧ w'.cell? ⟨o, 1, none⟩ = some (.int .i64 H) ∧ w'.cell? ⟨o, 2, none⟩ = some (.slice (some ⟨gb, 0, none⟩) (3 * (H * W)) cap) ∧ w'.cell? ⟨gb, 3 * (j * W + i), none⟩ = some (.int .u8 (g i j)) ∧ w'.cell? ⟨gb, 3 * ((j + 1) * W + i), none⟩ = some (.int .u8 (g i (j + 1))))
                (first | exact (hSb).drew.five (by omega) (by omega) (by omega) (by omega) | exact hSca.five (by omega) (by omega) (by omega) (by omega) | exact hSc.five (by omega) (by omega) (by omega) (by omega))
                (first
                  | (go_at_call 68; refine (pixel_zero W H i j _ _ (by first | rfl | (rw [IntKind.wrap_i64]; omega)) (by first | rfl | (rw [IntKind.wrap_i64]; omega)) gb (3 * (H * W)) cap _ (by omega) (by omega) hcap1 hcap2).mono ?_; rintro e w4 ⟨rfl, hB4⟩; have hSca := (hSb).drew.keep hB4)
                  | (go_at_call 68; refine (pixel_zero W H i (j + 1) _ _ (by first | rfl | (rw [IntKind.wrap_i64]; omega)) (by first | rfl | (rw [IntKind.wrap_i64]; omega)) gb (3 * (H * W)) cap _ (by omega) (by omega) hcap1 hcap2).mono ?_; rintro e w5 ⟨rfl, hB5⟩; have hSc := hSca.keep hB5)
                  | (go_at_call 80; refine (rsize_ad _ _ (HGB.out _ _) (HGB.out _ _) _).mono ?_; rintro e w6 ⟨rfl, rfl⟩))
              -- hSc: the fact of what lies; the round's end
              go_wp2_with fail
              go_roundg (W - (i + 1))
              case rel => exact ⟨i + 1, by omega, rfl, by have e1 := HSS.out; have e2 := HS1.out; simp only [Im.rowSum, Im.near1, Im.near2]; (first | rw [if_pos c1] | rw [if_neg c1]); (first | rw [if_pos c2] | rw [if_neg c2]); congr 1; omega, by go_num, hSc⟩
              case measure => omega
            · clear hpl3
              -- a drawn region of Sharp: hS: the fact of what lies; (i + 1) j: the neighbour's place; hSb: the name of the fact behind
              go_wp2_with fail
              go_region_held3 (fun w' => w'.cell? ⟨o, 0, none⟩ = some (.int .i64 W) ∧ w'.cell? ⟨o, 1, none⟩ = some (.int .i64 H) ∧ w'.cell? ⟨o, 2, none⟩ = some (.slice (some ⟨gb, 0, none⟩) (3 * (H * W)) cap) ∧ w'.cell? ⟨gb, 3 * (j * W + i), none⟩ = some (.int .u8 (g i j)) ∧ w'.cell? ⟨gb, 3 * (j * W + (i + 1)), none⟩ = some (.int .u8 (g (i + 1) j)))
                (first | exact (hS).drew.five (by omega) (by omega) (by omega) (by omega) | exact hSba.five (by omega) (by omega) (by omega) (by omega) | exact hSb.five (by omega) (by omega) (by omega) (by omega))
                (first
                  | (go_at_call 68; refine (pixel_zero W H i j _ _ (by first | rfl | (rw [IntKind.wrap_i64]; omega)) (by first | rfl | (rw [IntKind.wrap_i64]; omega)) gb (3 * (H * W)) cap _ (by omega) (by omega) hcap1 hcap2).mono ?_; rintro e w4 ⟨rfl, hB4⟩; have hSba := (hS).drew.keep hB4)
                  | (go_at_call 68; refine (pixel_zero W H (i + 1) j _ _ (by first | rfl | (rw [IntKind.wrap_i64]; omega)) (by first | rfl | (rw [IntKind.wrap_i64]; omega)) gb (3 * (H * W)) cap _ (by omega) (by omega) hcap1 hcap2).mono ?_; rintro e w5 ⟨rfl, hB5⟩; have hSb := hSba.keep hB5)
                  | (go_at_call 80; refine (rsize_ad _ _ (HGB.out _ _) (HGB.out _ _) _).mono ?_; rintro e w6 ⟨rfl, rfl⟩))
              obtain ⟨p0, p1, p2⟩ := hSb.par.three
              -- hSb: the fact of what lies; the round's end
              go_wp2_with fail
              go_roundg (W - (i + 1))
              case rel => exact ⟨i + 1, by omega, rfl, by have e1 := HSS.out; have e2 := HS1.out; simp only [Im.rowSum, Im.near1, Im.near2]; (first | rw [if_pos c1] | rw [if_neg c1]); (first | rw [if_pos c2] | rw [if_neg c2]); congr 1; omega, by go_num, hSb⟩
              case measure => omega
          · clear hpl2
            by_cases c2 : j + 1 < H
            · have hpl3' := hpl3 c2; clear hpl3
              -- a drawn region of Sharp: hS: the fact of what lies; i (j + 1): the neighbour's place; hSc: the name of the fact behind
              go_wp2_with fail
              go_region_held3 (fun w' => w'.cell? ⟨o, 0, none⟩ = some (.int .i64 W) ∧ w'.cell? ⟨o, 1, none⟩ = some (.int .i64 H) ∧ w'.cell? ⟨o, 2, none⟩ = some (.slice (some ⟨gb, 0, none⟩) (3 * (H * W)) cap) ∧ w'.cell? ⟨gb, 3 * (j * W + i), none⟩ = some (.int .u8 (g i j)) ∧ w'.cell? ⟨gb, 3 * ((j + 1) * W + i), none⟩ = some (.int .u8 (g i (j + 1))))
                (first | exact (hS).drew.five (by omega) (by omega) (by omega) (by omega) | exact hSca.five (by omega) (by omega) (by omega) (by omega) | exact hSc.five (by omega) (by omega) (by omega) (by omega))
                (first
                  | (go_at_call 68; refine (pixel_zero W H i j _ _ (by first | rfl | (rw [IntKind.wrap_i64]; omega)) (by first | rfl | (rw [IntKind.wrap_i64]; omega)) gb (3 * (H * W)) cap _ (by omega) (by omega) hcap1 hcap2).mono ?_; rintro e w4 ⟨rfl, hB4⟩; have hSca := (hS).drew.keep hB4)
                  | (go_at_call 68; refine (pixel_zero W H i (j + 1) _ _ (by first | rfl | (rw [IntKind.wrap_i64]; omega)) (by first | rfl | (rw [IntKind.wrap_i64]; omega)) gb (3 * (H * W)) cap _ (by omega) (by omega) hcap1 hcap2).mono ?_; rintro e w5 ⟨rfl, hB5⟩; have hSc := hSca.keep hB5)
                  | (go_at_call 80; refine (rsize_ad _ _ (HGB.out _ _) (HGB.out _ _) _).mono ?_; rintro e w6 ⟨rfl, rfl⟩))
              -- hSc: the fact of what lies; the round's end
              go_wp2_with fail
              go_roundg (W - (i + 1))
              case rel => exact ⟨i + 1, by omega, rfl, by have e1 := HSS.out; have e2 := HS1.out; simp only [Im.rowSum, Im.near1, Im.near2]; (first | rw [if_pos c1] | rw [if_neg c1]); (first | rw [if_pos c2] | rw [if_neg c2]); congr 1; omega, by go_num, hSc⟩
              case measure => omega
            · clear hpl3
              -- hS: the fact of what lies; the round's end
              go_wp2_with fail
              go_roundg (W - (i + 1))
              case rel => exact ⟨i + 1, by omega, rfl, by have e1 := HSS.out; have e2 := HS1.out; simp only [Im.rowSum, Im.near1, Im.near2]; (first | rw [if_pos c1] | rw [if_neg c1]); (first | rw [if_pos c2] | rw [if_neg c2]); congr 1; omega, by go_num, hS⟩
              case measure => omega
        · obtain rfl : i = W := by omega
          go_wp2_with fail
          go_roundg (H - (j + 1))
          case rel => exact ⟨j + 1, by omega, rfl, by rw [Im.sharp, HS0.out], by go_num, hS⟩
          case measure => omega
    · obtain rfl : j = H := by omega
      go_wp2_with fail
      go_ret
      exact ⟨rfl, hS.bel⟩
end Go.Proofs.Ytkebkbjkapfgkaa
