/- Best of the program, for a list of right images. -/
import Derived.Test.YtkebkbjkapfgkaaPixBest
namespace Go.Proofs.Ytkebkbjkapfgkaa
open Go.RowKit Go.Sort
set_option linter.unusedVariables false
def Im.areaOf (Wn Hn : Nat → Nat) (i : Nat) : Int := (Wn i : Int) * (Hn i : Int)
def Im.sharpOf (px : Nat → Nat → Int) (Wn Hn : Nat → Nat) (i : Nat) : Int := Im.sharp (Im.gr (px i) (Wn i)) (Wn i) (Hn i) (Hn i)
set_option maxRecDepth 100000 in
set_option maxHeartbeats 4000000 in
theorem best_ok (a : Option Addr) (n ca : Nat) (Wn Hn : Nat → Nat) (ads : Nat → Option Addr) (cas : Nat → Nat) (px : Nat → Nat → Int) (w : World) (hl : ImgList w a n (fun i => (Wn i : Int)) (fun i => (Hn i : Int)) ads (fun i => 3 * (Hn i * Wn i)) cas px) (hn : n ≤ 9223372036854775807) (hn0 : 0 < n)
    (hok : ∀ i, i < n → 1 ≤ Wn i ∧ Wn i ≤ 64 ∧ 1 ≤ Hn i ∧ Hn i ≤ 64) (hpx : ∀ i k, 0 ≤ px i k ∧ px i k ≤ 255) :
    Calls Try.prog 19 #[.slice a n ca] w fun e w' => e = .returned (.tuple #[.int .i64 (Im.best (Im.areaOf Wn Hn) (Im.sharpOf px Wn Hn) n), .int .i64 0]) ∧ Below w.heap.size w w' := by
  have HL := Lib.hid hl; clear hl
  have H0 := Lib.hid hok
  have hz : ((n : Int) == 0) = false := by simp; omega
  have herr : ∀ i, i < n → Im.err (Wn i : Int) (Hn i : Int) (3 * (Hn i * Wn i)) = 0 := fun i hi => by
    have := hok i hi
    unfold Im.err
    rw [if_neg (by omega), if_pos (by rw [Int.mul_assoc, Int.mul_comm (Wn i : Int)]; simp)]
  have HE := Lib.hid herr; clear herr hok
  have HSH := Lib.hid (fun i (hi : i < n) V (hV : Below w.heap.size w V) => sharpness_is (Wn i) (Hn i) (ads i) (cas i) (px i) V (H0.out i hi) ((HL.out.rows i hi).1.keep hV) (HL.out.rows i hi).2.1 (HL.out.rows i hi).2.2.1 (hpx i))
  have HSB := Lib.hid (fun i (hi : i < n) => Im.sharp_bd (W := Wn i) (H := Hn i) (Im.gr_bd (Wn i) (hpx i)) (H0.out i hi).2.1 (Hn i))
  clear hpx
  go_enter Try.func19, Try.ntmps19
  go_wp2_with fail
  go_loopg [19] n (fun gk v wr => ∃ i : Nat, i ≤ n ∧ gk = n - i ∧ v = .int .i64 i ∧ Below w.heap.size w wr)
  case atStart => exact ⟨0, by omega, rfl, rfl, Below.refl _ _⟩
  case round =>
    obtain ⟨i, hi, rfl, rfl, hB⟩ := hrel
    by_cases hlt : i < n
    · obtain ⟨b, off, rfl, hb, hc⟩ := (HL.out.keep hB).elems (by omega)
      obtain ⟨e0, e1, e2⟩ := hc i (by omega)
      have hns := (HL.out.rows i (by omega)).2.2.2
      clear hc
      go_wp2_with (go_at_call 28; refine (check_is _ _ _ _ _ _ hns).mono ?_; rw [HE.out i hlt]; rintro e w2 ⟨rfl, hB2⟩)
      go_roundg (n - (i + 1))
      case rel => exact ⟨i + 1, by omega, rfl, by go_num, below_up (below_allocs hB _) hB2⟩
      case measure => omega
    · obtain rfl : i = n := by omega
      go_wp2_with fail
      have hB0 := hB
      obtain ⟨A, hA⟩ : ∃ A, Im.areaOf Wn Hn = A := ⟨_, rfl⟩
      obtain ⟨S, hS⟩ : ∃ S, Im.sharpOf px Wn Hn = S := ⟨_, rfl⟩
      have HAA : Hid (∀ k, (Wn k : Int) * (Hn k : Int) = A k) := by rw [← hA]; exact fun k => rfl
      have HSS : Hid (∀ k, Im.sharp (Im.gr (px k) (Wn k)) (Wn k) (Hn k) (Hn k) = S k) := by rw [← hS]; exact fun k => rfl
      have HA := Lib.hid hA; have HS := Lib.hid hS; clear hA hS
      go_loopg [7, 8, 9, 31] i (fun gk v7 v8 v9 v wr => ∃ (j : Nat) (B Pb Sb : Int), j ≤ i ∧ gk = i - j ∧ v7 = .int .i64 B ∧ v8 = .int .i64 Pb ∧ v9 = .int .i64 Sb ∧ v = .int .i64 j ∧ Below w.heap.size w wr ∧ Im.St A S j B Pb Sb)
      case atStart => exact ⟨0, 0, 0, -1, by omega, rfl, rfl, rfl, rfl, rfl, hB, .inl ⟨rfl, rfl, rfl, rfl⟩⟩
      case round =>
        clear hB hB0
        obtain ⟨j, B, Pb, Sb, hj, rfl, rfl, rfl, rfl, rfl, hB, hst⟩ := hrel
        have HST := Lib.hid hst; clear hst
        by_cases hlt2 : j < i
        · obtain ⟨b, off, rfl, hb, hc⟩ := (HL.out.keep hB).elems (by omega)
          obtain ⟨e0, e1, e2⟩ := hc j (by omega)
          clear hc
          have hok := H0.out j hlt2
          have hmul := mul_bd (a := (Wn j : Int)) (b := (Hn j : Int)) (by omega) (by omega) (by omega) (by omega)
          have hpos : 1 ≤ (Wn j : Int) * (Hn j : Int) := by
            have := Nat.mul_le_mul hok.1 hok.2.2.1
            rw [← Int.natCast_mul]; omega
          have hsb := HSB.out j hlt2
          have HSJ := Lib.hid (HSH.out j hlt2)
          rw [HSS.out j] at HSJ hsb
          have hAj := HAA.out j
          rw [hAj] at hmul hpos
          obtain ⟨q1, hq1⟩ : ∃ q, A j = q := ⟨_, rfl⟩
          obtain ⟨q2, hq2⟩ : ∃ q, S j = q := ⟨_, rfl⟩
          rw [hq1] at hAj hmul hpos
          rw [hq2] at HSJ hsb
          have HQ1 := Lib.hid hq1; have HQ2 := Lib.hid hq2; clear hq1 hq2
          have hwr : IntKind.i64.wrap ((Wn j : Int) * (Hn j : Int)) = q1 := by rw [hAj, IntKind.wrap_i64]; omega
          have HAJ := Lib.hid hAj; clear hAj
          by_cases c1 : q1 < Pb
          · go_wp2_with fail
            go_roundg (i - (j + 1))
            case rel => exact ⟨j + 1, B, Pb, Sb, by omega, rfl, rfl, rfl, rfl, by go_num, below_allocs hB _, Im.st_keep HST.out (by rw [HQ1.out]; omega) (by rw [HQ2.out]; omega) (by rw [HQ1.out, HQ2.out]; omega)⟩
            case measure => omega
          · by_cases c2 : Pb < q1 ∨ Sb < q2
            · by_cases c3 : Pb < q1
              · go_wp2_with (go_at_call 69; refine (HSJ.out _ (hB.alloc hB.size _)).mono ?_; rintro e w2 ⟨rfl, hB2⟩)
                go_roundg (i - (j + 1))
                case rel => exact ⟨j + 1, j, q1, q2, by omega, rfl, rfl, rfl, rfl, by go_num, below_up (below_allocs hB _) hB2, by have := Im.st_take HST.out (by rw [HQ1.out, HQ2.out]; omega); rw [HQ1.out, HQ2.out] at this; exact this⟩
                case measure => omega
              · have c4 : Sb < q2 := by omega
                go_wp2_with (go_at_call 69; refine (HSJ.out _ (hB.alloc hB.size _)).mono ?_; rintro e w2 ⟨rfl, hB2⟩)
                go_roundg (i - (j + 1))
                case rel => exact ⟨j + 1, j, q1, q2, by omega, rfl, rfl, rfl, rfl, by go_num, below_up (below_allocs hB _) hB2, by have := Im.st_take HST.out (by rw [HQ1.out, HQ2.out]; omega); rw [HQ1.out, HQ2.out] at this; exact this⟩
                case measure => omega
            · have c3 : ¬ Pb < q1 := by omega
              have c4 : ¬ Sb < q2 := by omega
              go_wp2_with (go_at_call 69; refine (HSJ.out _ (hB.alloc hB.size _)).mono ?_; rintro e w2 ⟨rfl, hB2⟩)
              go_roundg (i - (j + 1))
              case rel => exact ⟨j + 1, B, Pb, Sb, by omega, rfl, rfl, rfl, rfl, by go_num, below_up (below_allocs hB _) hB2, Im.st_keep HST.out (by rw [HQ1.out]; omega) (by rw [HQ2.out]; omega) (by rw [HQ1.out, HQ2.out]; omega)⟩
              case measure => omega
        · obtain rfl : j = i := by omega
          go_wp2_with fail
          go_ret2
          exact ⟨by rw [Im.st_end HST.out hn0, ← HA.out, ← HS.out]; rfl, hB⟩
end Go.Proofs.Ytkebkbjkapfgkaa
