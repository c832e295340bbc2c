/- The reference's sample and Both. -/
import Derived.Test.YtkebkbjkapfgkaaPixTurnedR
import Derived.Test.YtkebkbjkapfgkaaPixThen
namespace Go.Proofs.Ytkebkbjkapfgkaa
open Go.RowKit Go.Sort
set_option linter.unusedVariables false
attribute [local go_sem ↓] Go.wp_at_zero Go.wp_at_succ
theorem owns_keep {w w' : World} {B : Nat} {v : Value} {k : Nat} {f : Nat → Int} (h : w.ownsRow B 5 1 v k (bytes k f)) (hb : Below w.heap.size w w') : w'.ownsRow B 5 1 v k (bytes k f) :=
  h.kept (row := none) ⟨hb.os, hb.tape, hb.output, hb.size, fun k hk _ => hb.block k hk⟩ (Classical.em _)
theorem owns_ne {w : World} {B : Nat} {v : Value} {k : Nat} {xs : List Value} (h : w.ownsRow B 5 1 v k xs) (b : Nat) (hb : b < B) : some b ≠ v.ownBlock := by
  rcases h.2 with ⟨rfl, _⟩ | ⟨g, cap, cur, rfl, hg, _⟩
  · simp [Value.ownBlock]
  · simp [Value.ownBlock]; omega
set_option maxRecDepth 100000 in
set_option maxHeartbeats 2000000 in
theorem rsample_is (w : World) : Calls Try.prog 73 #[] w (ImgPost w 3 2 18 Im.sampR) := by
  obtain ⟨i0, hi0, hz0, hz1, hz2⟩ := info_parts infoByte2
  have HI0 := Lib.hid hi0; have HI1 := Lib.hid hz0; have HI2 := Lib.hid hz1; have HI3 := Lib.hid hz2
  clear hi0 hz0 hz1 hz2
  obtain ⟨W1, HW1, hR, hs1, hB1⟩ := box w #[.int .i64 0, .int .i64 0, .slice none 0 0] 24
  obtain ⟨W2, HW2, hI, hs2, hB2⟩ := box W1 #[.int .i64 3, .int .i64 2, .slice none 0 0] 24
  rw [hs1] at hI hs2
  have hR := hR.keep hB2
  have hB12 := below_up hB1 hB2
  have H1 := Lib.hid HW1; have H2 := Lib.hid HW2; clear HW1 HW2 hB1 hB2 hs1
  have hown : W2.ownsRow (w.heap.size + 2) 5 1 (.slice none 0 0) 0 (bytes 0 Im.sampR) := ⟨by simp [bytes], .inl ⟨rfl, rfl⟩⟩
  go_enter Try.func73, Try.ntmps73
  go_wp2_with fail
  rw [H1.out, H2.out]
  clear H1 H2 hs2
  go_loopg [4] 6 (fun gk v wr => ∃ (i : Nat) (vv : Value), i ≤ 6 ∧ gk = 6 - i ∧ v = .int .i64 i ∧ Blk wr w.heap.size #[.int .i64 0, .int .i64 0, .slice none 0 0] 24 ∧ Blk wr (w.heap.size + 1) #[.int .i64 3, .int .i64 2, vv] 24 ∧ wr.ownsRow (w.heap.size + 2) 5 1 vv (3 * i) (bytes (3 * i) Im.sampR) ∧ Below w.heap.size w wr)
  case atStart => exact ⟨0, _, by omega, rfl, rfl, hR, hI, hown, hB12⟩
  case round =>
    clear hR hI hown hB12
    obtain ⟨i, vv, hi, rfl, rfl, hR, hI, hown, hB⟩ := hrel
    obtain ⟨o0, o1, o2⟩ := hI.three
    by_cases hlt : i < 6
    · have e0 : Im.sampR (3 * i) = (i : Int) := by simp only [Im.sampR]; omega
      have e1 : Im.sampR (3 * i + 1) = (i : Int) := by simp only [Im.sampR]; omega
      have e2 : Im.sampR (3 * i + 2) = (i : Int) := by simp only [Im.sampR]; omega
      have hby := Lib.hid (bytes_more _ _ _ _ _ e0 e1 e2); clear e0 e1 e2
      have hmx : 3 * i + 3 ≤ maxLen := by unfold maxLen; omega
      have hbz : (3 * i + 3) * 1 ≤ 140737488355328 := by omega
      have hlt2 := hI.lt
      have hownA := owns_keep hown (below_allocs (Below.refl _ wr) (.cells #[.int .u8 i, .int .u8 i, .int .u8 i] 5))
      have hIA := hI.alloc (.cells #[.int .u8 i, .int .u8 i, .int .u8 i] 5)
      have hRA := hR.alloc (.cells #[.int .u8 i, .int .u8 i, .int .u8 i] 5)
      have hbig : w.heap.size + 2 ≤ (wr.alloc (.cells #[.int .u8 i, .int .u8 i, .int .u8 i] 5)).heap.size := by simp; omega
      go_wp2_with (at_builtin; refine wpList_append_own2 _ rfl _ _ 22 rfl (w.heap.size + 2) 5 i0 (.int .u8 0) 1 1 Try.underlying22 HI0.out HI1.out HI2.out HI3.out rfl (by decide) vv (3 * i) (bytes (3 * i) Im.sampR) rfl hownA ⟨wr.heap.size, 0, none⟩ 3 3 [.int .u8 i, .int .u8 i, .int .u8 i] rfl (by decide) rfl (World.news_of_block (cs := #[.int .u8 i, .int .u8 i, .int .u8 i]) (t := 5) (fr := (0, 0)) (heap_alloc_new wr _)) (by simp [Value.oneCell']) hmx hbz hbig ?_; intro gg cap w7 hown7 hgrow7 hnew7; have hI7 := hIA.grown hgrow7 (owns_ne hownA _ (by omega)); have hf7 := hI7.free; obtain ⟨y0, y1, y2⟩ := hI7.three)
      have hR8 := (hRA.grown hgrow7 (owns_ne hownA _ (by omega))).setOther (a := ⟨w.heap.size + 1, 2, none⟩) (by simp) (.slice (some ⟨gg, 0, none⟩) (3 * i + 3) cap)
      have hI8 := hI7.set 2 (.slice (some ⟨gg, 0, none⟩) (3 * i + 3) cap)
      have hown8 := Grow.kept_set (hby.out ▸ hown7) (a := ⟨w.heap.size + 1, 2, none⟩) (by simp) (.slice (some ⟨gg, 0, none⟩) (3 * i + 3) cap)
      have hBA := below_allocs hB (.cells #[.int .u8 i, .int .u8 i, .int .u8 i] 5)
      have hB8 := (hBA.grown hgrow7 hBA.size (fun k e => by
        rcases hownA.2 with ⟨rfl, _⟩ | ⟨g', cap', cur, rfl, hg', _⟩
        · simp [Value.ownBlock] at e
        · simp [Value.ownBlock] at e; omega)).setCell (p := ⟨w.heap.size + 1, 2, none⟩) (by simp) (.slice (some ⟨gg, 0, none⟩) (3 * i + 3) cap)
      go_roundg (6 - (i + 1))
      case rel => exact ⟨i + 1, _, by omega, rfl, by go_num, hR8, by simpa using hI8, by rw [Nat.mul_add]; exact hown8, hB8⟩
      case measure => omega
    · obtain rfl : i = 6 := by omega
      have hFr := hR.free
      obtain ⟨r0, r1, r2⟩ := hR.three
      rcases hown.2 with ⟨_, h0⟩ | ⟨g, cap, cur, rfl, hg, hcell, hk, hm, _⟩
      · omega
      go_wp2_with fail
      have hBf := ((hB.setCell (p := ⟨w.heap.size, 0, none⟩) (by simp) (.int .i64 3)).setCell (p := ⟨w.heap.size, 1, none⟩) (by simp) (.int .i64 2)).setCell (p := ⟨w.heap.size, 2, none⟩) (by simp) (.slice (some ⟨g, 0, none⟩) 18 cap)
      exact bodyPost_ret (v := .agg #[.int .i64 3, .int .i64 2, .slice (some ⟨g, 0, none⟩) 18 cap]) (by simp [results, Try.results73, go_sem, r0, r1, r2]) rfl ⟨_, _, rfl, Bytes.fields hR (bytes_of_own hown) _ _ _, hk, by unfold maxLen at hm; omega, hBf⟩
set_option maxRecDepth 100000 in
set_option maxHeartbeats 2000000 in
theorem both_is (a b : Nat) (w : World) (ha : 1 ≤ a ∧ a ≤ 8) (hb : 1 ≤ b ∧ b ≤ 8) :
    Calls Try.prog 26 #[.int .i64 a, .int .i64 b] w fun e w' => e = .returned (.int .i64 (Im.cmb a b)) ∧ Below w.heap.size w w' := by
  have hsw := Im.s_bd (t := a) (w := 3) (h := 2) (by omega)
  have hmul := Im.s_mul a 3 2
  have hmul2 := Im.s_mul b (Im.sw a 3 2) (Im.sh a 3 2)
  have h18 : 3 * (Im.sh a 3 2 * Im.sw a 3 2) = 18 := by rw [hmul]
  have ht1 : ∀ (t : Nat) V ad ca, 1 ≤ t ∧ t ≤ 8 → Bytes V ad 18 Im.sampR → 18 ≤ ca → ca ≤ 9223372036854775807 →
      Calls Try.prog 25 #[.agg #[.int .i64 3, .int .i64 2, .slice ad 18 ca], .int .i64 t] V (ImgPost V (Im.sw t 3 2) (Im.sh t 3 2) 18 (Im.turnOf t 3 2 Im.sampR)) :=
    fun t V ad ca h1 h2 h3 h4 => rturned_is t 3 2 ad ca Im.sampR V h1 (by omega) h2 h3 h4
  have ht2 : ∀ V ad ca, Bytes V ad 18 (Im.turnOf a 3 2 Im.sampR) → 18 ≤ ca → ca ≤ 9223372036854775807 →
      Calls Try.prog 25 #[.agg #[.int .i64 (Im.sw a 3 2 : Nat), .int .i64 (Im.sh a 3 2 : Nat), .slice ad 18 ca], .int .i64 b] V (ImgPost V (Im.sw b (Im.sw a 3 2) (Im.sh a 3 2) : Nat) (Im.sh b (Im.sw a 3 2) (Im.sh a 3 2) : Nat) 18 (Im.turnOf b (Im.sw a 3 2) (Im.sh a 3 2) (Im.turnOf a 3 2 Im.sampR))) := by
    intro V ad ca h2 h3 h4
    have := rturned_is b (Im.sw a 3 2) (Im.sh a 3 2) ad ca (Im.turnOf a 3 2 Im.sampR) V hb hsw (by rw [h18]; exact h2) (by rw [h18]; exact h3) h4
    rwa [h18] at this
  have hal : ∀ t : Nat, 1 ≤ t ∧ t ≤ 8 → Im.eqB (Im.sw t 3 2) (Im.sh t 3 2) 18 (Im.turnOf t 3 2 Im.sampR) (Im.sw b (Im.sw a 3 2) (Im.sh a 3 2)) (Im.sh b (Im.sw a 3 2) (Im.sh a 3 2)) 18 (Im.turnOf b (Im.sw a 3 2) (Im.sh a 3 2) (Im.turnOf a 3 2 Im.sampR)) = (t == Im.cmb a b) :=
    fun t ht => (eqB_alike 3 2 Im.sampR a b t 18 18 rfl rfl).trans (Im.alike_sampR ha hb ht)
  have hcr := Im.cmb_range ha hb
  generalize Im.turnOf b (Im.sw a 3 2) (Im.sh a 3 2) (Im.turnOf a 3 2 Im.sampR) = g2 at *
  generalize Im.sw b (Im.sw a 3 2) (Im.sh a 3 2) = cw2 at *
  generalize Im.sh b (Im.sw a 3 2) (Im.sh a 3 2) = ch2 at *
  generalize Im.cmb a b = c at *
  generalize hg1 : Im.turnOf a 3 2 Im.sampR = g1 at *
  generalize hcw : Im.sw a 3 2 = cw at *
  generalize hch : Im.sh a 3 2 = ch at *
  have HT1 := Lib.hid ht1; have HT2 := Lib.hid ht2; have HAL := Lib.hid hal
  have HTA := Lib.hid (fun V ad ca h2 h3 h4 => ht1 a V ad ca ha h2 h3 h4)
  rw [hg1, hcw, hch] at HTA
  clear ht1 ht2 hal h18 hmul hmul2 hg1 hcw hch
  go_enter Try.func26, Try.ntmps26
  go_wp2_with (first
    | (go_at_call 73; refine (rsample_is _).mono ?_; rintro e w1 ⟨a1, c1, rfl, hb1, hc1, hd1, hB1⟩)
    | (go_at_call 25; (with_reducible refine (HTA.out _ _ _ hb1 hc1 hd1).mono ?_); rintro e w2 ⟨a2, c2, rfl, hb2, hc2, hd2, hB2⟩)
    | (go_at_call 25; (with_reducible refine (HT2.out _ _ _ hb2 hc2 hd2).mono ?_); rintro e w3 ⟨a3, c3, rfl, hb3, hc3, hd3, hB3⟩))
  obtain ⟨w4, HW4, hI, hs4, hB4⟩ := box w3 #[.int .i64 cw2, .int .i64 ch2, .slice a3 18 c3] 24
  rw [HW4]
  have hb4 := hb3.keep hB4
  have hB := below_up (below_up (below_up hB1 hB2) hB3) hB4
  obtain ⟨o, ho⟩ : ∃ o, o = w3.heap.size := ⟨_, rfl⟩
  rw [← ho] at hI ⊢
  clear HW4 hs4 hB1 hB2 hB3 hB4 hb1 hb2 hb3 ho HTA HT2
  go_loopg [6] 9 (fun gk v wr => ∃ t : Nat, 1 ≤ t ∧ t ≤ c ∧ gk = 10 - t ∧ v = .int .i64 t ∧ Blk wr o #[.int .i64 cw2, .int .i64 ch2, .slice a3 18 c3] 24 ∧ Bytes wr a3 18 g2 ∧ Below w.heap.size w wr)
  case atStart => exact ⟨1, by omega, by omega, rfl, rfl, hI, hb4, hB⟩
  case round =>
    clear hI hb4 hB
    obtain ⟨t, ht1, ht2, rfl, rfl, hI, hb, hB⟩ := hrel
    have HTT := Lib.hid (fun V ad ca h2 h3 h4 => HT1.out t V ad ca (by omega) h2 h3 h4)
    have HAT := Lib.hid (HAL.out t (by omega))
    generalize Im.turnOf t 3 2 Im.sampR = gt at *
    generalize Im.sw t 3 2 = cwt at *
    generalize Im.sh t 3 2 = cht at *
    have hI0 := hI.three
    by_cases hlt : t < c
    · have hq : (t == c) = false := by simp; omega
      rw [hq] at HAT
      clear hq
      go_wp2_with fail
      go_region_held3 (fun w' => w'.cell? ⟨o, 0, none⟩ = some (.int .i64 cw2) ∧ w'.cell? ⟨o, 1, none⟩ = some (.int .i64 ch2) ∧ w'.cell? ⟨o, 2, none⟩ = some (.slice a3 18 c3))
        (first | exact hI.drew.three | exact hI1.three | exact hI2.three | exact hI3.three)
        (first
          | (go_at_call 73; refine (rsample_is _).mono ?_; rintro e w1 ⟨a1, c1, rfl, hx1, hy1, hz1, hB1⟩; have hI1 := hI.drew.keep hB1)
          | (go_at_call 25; refine (HTT.out _ _ _ hx1 hy1 hz1).mono ?_; rintro e w2 ⟨a2, c2, rfl, hx2, hy2, hz2, hB2⟩; have hI2 := hI1.keep hB2)
          | (go_at_call 67; refine (sameImage_any _ _ _ _ _ _ _ _ _ _ _ _ _ hx2 ((hb.keep (Below.refl _ _).drew).keep (below_up hB1 hB2)) (by omega) hy2 hc3).mono ?_; rw [HAT.out]; rintro e w3 ⟨rfl, hB3⟩; have hI3 := hI2.keep hB3))
      go_wp2_with fail
      have hbx := ((hb.keep (Below.refl _ _).drew).keep (below_up hB1 hB2)).keep hB3
      have hBx := below_up hB.drew (below_up (below_up hB1 hB2) hB3)
      go_roundg (10 - (t + 1))
      case rel => exact ⟨t + 1, by omega, by omega, rfl, by go_num, hI3, hbx, hBx⟩
      case measure => omega
    · obtain rfl : t = c := by omega
      have hq : (t == t) = true := by simp
      rw [hq] at HAT
      clear hq
      go_wp2_with fail
      go_region_held3 (fun w' => w'.cell? ⟨o, 0, none⟩ = some (.int .i64 cw2) ∧ w'.cell? ⟨o, 1, none⟩ = some (.int .i64 ch2) ∧ w'.cell? ⟨o, 2, none⟩ = some (.slice a3 18 c3))
        (first | exact hI.drew.three | exact hI1.three | exact hI2.three | exact hI3.three)
        (first
          | (go_at_call 73; refine (rsample_is _).mono ?_; rintro e w1 ⟨a1, c1, rfl, hx1, hy1, hz1, hB1⟩; have hI1 := hI.drew.keep hB1)
          | (go_at_call 25; refine (HTT.out _ _ _ hx1 hy1 hz1).mono ?_; rintro e w2 ⟨a2, c2, rfl, hx2, hy2, hz2, hB2⟩; have hI2 := hI1.keep hB2)
          | (go_at_call 67; refine (sameImage_any _ _ _ _ _ _ _ _ _ _ _ _ _ hx2 ((hb.keep (Below.refl _ _).drew).keep (below_up hB1 hB2)) (by omega) hy2 hc3).mono ?_; rw [HAT.out]; rintro e w3 ⟨rfl, hB3⟩; have hI3 := hI2.keep hB3))
      go_wp2_with fail
      have hBx := below_up hB.drew (below_up (below_up hB1 hB2) hB3)
      go_ret
      exact ⟨rfl, hBx⟩
end Go.Proofs.Ytkebkbjkapfgkaa
