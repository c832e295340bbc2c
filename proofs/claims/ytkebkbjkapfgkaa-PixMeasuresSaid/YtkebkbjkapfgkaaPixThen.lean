/- The program's sample, Then and Back. -/
import Derived.Test.YtkebkbjkapfgkaaPixTurn
namespace Go.Proofs.Ytkebkbjkapfgkaa
open Go.RowKit Go.Sort
set_option linter.unusedVariables false
attribute [local go_sem ↓] Go.wp_at_zero Go.wp_at_succ
theorem Out.setAt {w : World} {b N : Nat} {f : Nat → Int} (h : Out w b N f) (i : Nat) (hi : i < N) (v : Int) : Out (w.setCell ⟨b, i, none⟩ (.int .u8 v)) b N (fun j => if j = i then v else f j) := by
  have := Blk.set h i (.int .u8 v)
  unfold Out
  have e : ((List.range N).map (fun i => Value.int .u8 (f i))).toArray.setIfInBounds i (.int .u8 v) = ((List.range N).map (fun j => Value.int .u8 (if j = i then v else f j))).toArray := by
    rw [← Array.toList_inj]
    simp only [Array.toList_setIfInBounds]
    refine List.ext_getElem (by simp) fun k h1 h2 => ?_
    rw [List.getElem_set]
    by_cases hk : k = i
    · simp [hk]
    · rw [if_neg (fun e => hk e.symm)]; simp [hk]
  rwa [e] at this
theorem blank23 (w : World) : Calls Try.prog 64 #[.int .i64 2, .int .i64 3] w fun e w' => ∃ b, e = .returned (.agg #[.int .i64 2, .int .i64 3, .slice (some ⟨b, 0, none⟩) 18 18]) ∧ w.heap.size ≤ b ∧ Out w' b 18 (fun _ => 0) ∧ Below w.heap.size w w' :=
  blank_is 2 3 w (by omega) (by omega) (by omega) (by omega)
set_option maxRecDepth 100000 in
set_option maxHeartbeats 1000000 in
theorem sample_is (w : World) : Calls Try.prog 71 #[] w (ImgPost w 2 3 18 Im.samp) := by
  obtain ⟨W1, HW1, hR, hs1, hB1⟩ := box w #[.int .i64 0, .int .i64 0, .slice none 0 0] 24
  have H1 := Lib.hid HW1; clear HW1
  go_enter Try.func71, Try.ntmps71
  go_wp2_with (go_at_call 64; rw [H1.out]; refine (blank23 _).mono ?_; rintro e w2 ⟨b, rfl, hbb, hO, hB2⟩)
  obtain ⟨w3, HW3, hO3, hs3, hB3⟩ := box w2 #[.int .i64 2, .int .i64 3, .slice (some ⟨b, 0, none⟩) 18 18] 24
  rw [HW3]
  have hbl := hO.lt
  have hlt3 : w.heap.size < w3.heap.size := by have := hB2.size; omega
  have hR3 := (hR.keep hB2).keep hB3
  have hO := Blk.keep hO hB3
  have hB3 := below_up (below_up hB1 hB2) hB3
  obtain ⟨o, ho⟩ : ∃ o, o = w2.heap.size := ⟨_, rfl⟩
  rw [← ho] at hO3 hbl ⊢
  have hob : w.heap.size + 1 ≤ b := by omega
  clear HW3 ho H1 hR hB1 hB2 hs1 hs3 hbb
  go_loopg [7] 18 (fun gk v wr => ∃ i : Nat, i ≤ 18 ∧ gk = 18 - i ∧ v = .int .i64 i ∧ Blk wr w.heap.size #[.int .i64 0, .int .i64 0, .slice none 0 0] 24 ∧ Blk wr o #[.int .i64 2, .int .i64 3, .slice (some ⟨b, 0, none⟩) 18 18] 24 ∧ Out wr b 18 (fun j => if j < i then (j : Int) else 0) ∧ Below w.heap.size w wr)
  case atStart => exact ⟨0, by omega, rfl, rfl, hR3, hO3, (by simp only [Nat.not_lt_zero, if_false]; exact hO), hB3⟩
  case round =>
    clear hO hO3 hR3 hB3
    obtain ⟨i, hi, rfl, rfl, hR, hI, hO, hB⟩ := hrel
    obtain ⟨o0, o1, o2⟩ := hI.three
    by_cases hlt : i < 18
    · have hcell : wr.cell? ⟨b, i, none⟩ = some (.int .u8 (if i < i then (i : Int) else 0)) := by rw [Blk.cell hO]; simp [hlt]
      have hfz := Blk.frozen hO
      go_wp2_with fail
      have hO2 := Out.setAt hO i hlt i
      have hR2 := hR.setOther (a := ⟨b, i, none⟩) (by simp; omega) (.int .u8 i)
      have hI2 := hI.setOther (a := ⟨b, i, none⟩) (by simp; omega) (.int .u8 i)
      have hB2 := hB.setCell (p := ⟨b, i, none⟩) (by simp; omega) (.int .u8 i)
      go_roundg (18 - (i + 1))
      case rel => exact ⟨i + 1, by omega, rfl, by go_num, hR2, hI2, (by
        unfold Out at hO2 ⊢
        have e : ((List.range 18).map (fun j => Value.int .u8 (if j < i + 1 then (j : Int) else 0))) = (List.range 18).map (fun j => Value.int .u8 (if j = i then (i : Int) else if j < i then (j : Int) else 0)) :=
          List.map_congr_left fun j _ => by
            by_cases h1 : j = i
            · subst h1; simp
            · by_cases h2 : j < i
              · rw [if_pos (by omega), if_neg h1, if_pos h2]
              · rw [if_neg (by omega), if_neg h1, if_neg h2]
        rw [e]; exact hO2), hB2⟩
      case measure => omega
    · obtain rfl : i = 18 := by omega
      have hFr := hR.free
      obtain ⟨r0, r1, r2⟩ := hR.three
      go_wp2_with fail
      have hBf := ((hB.setCell (p := ⟨w.heap.size, 0, none⟩) (by simp) (.int .i64 2)).setCell (p := ⟨w.heap.size, 1, none⟩) (by simp) (.int .i64 3)).setCell (p := ⟨w.heap.size, 2, none⟩) (by simp) (.slice (some ⟨b, 0, none⟩) 18 18)
      have hby : Bytes wr (some ⟨b, 0, none⟩) 18 Im.samp := (bytes_of_out hO).congr fun i hi => by simp [hi, Im.samp]
      exact bodyPost_ret (v := .agg #[.int .i64 2, .int .i64 3, .slice (some ⟨b, 0, none⟩) 18 18]) (by simp [results, Try.results71, go_sem, r0, r1, r2]) rfl ⟨_, _, rfl, Bytes.fields hR hby _ _ _, Nat.le_refl _, by omega, hBf⟩
/-- The sameness of two turned samples. -/
theorem eqB_alike (w h : Nat) (px : Nat → Int) (a b t : Nat) (n m : Nat) (hn : n = 3 * (h * w)) (hm : m = 3 * (h * w)) :
    Im.eqB (Im.sw t w h) (Im.sh t w h) n (Im.turnOf t w h px) (Im.sw b (Im.sw a w h) (Im.sh a w h)) (Im.sh b (Im.sw a w h) (Im.sh a w h)) m (Im.turnOf b (Im.sw a w h) (Im.sh a w h) (Im.turnOf a w h px)) = Im.alike w h px a b t := by
  subst hn hm
  unfold Im.eqB Im.alike
  rw [Bool.eq_iff_iff]
  simp only [decide_eq_true_eq, Bool.and_eq_true, beq_iff_eq, List.all_eq_true, List.mem_range, Int.ofNat_inj, true_and, and_assoc]
set_option maxRecDepth 100000 in
set_option maxHeartbeats 2000000 in
theorem then_ok (a b : Nat) (w : World) (ha : 1 ≤ a ∧ a ≤ 8) (hb : 1 ≤ b ∧ b ≤ 8) :
    Calls Try.prog 22 #[.int .i64 a, .int .i64 b] w fun e w' => e = .returned (.tuple #[.int .i64 (Im.cmb a b), .int .i64 0]) ∧ Below w.heap.size w w' := by
  have hsw := Im.s_bd (t := a) (w := 2) (h := 3) (by omega)
  have hmul := Im.s_mul a 2 3
  have hmul2 := Im.s_mul b (Im.sw a 2 3) (Im.sh a 2 3)
  have h18 : 3 * (Im.sh a 2 3 * Im.sw a 2 3) = 18 := by rw [hmul]
  have ht1 : ∀ (t : Nat) V ad ca, 1 ≤ t ∧ t ≤ 8 → Bytes V ad 18 Im.samp → 18 ≤ ca → ca ≤ 9223372036854775807 →
      Calls Try.prog 70 #[.agg #[.int .i64 2, .int .i64 3, .slice ad 18 ca], .int .i64 t] V (ImgPost V (Im.sw t 2 3) (Im.sh t 2 3) 18 (Im.turnOf t 2 3 Im.samp)) :=
    fun t V ad ca h1 h2 h3 h4 => turned_is t 2 3 ad ca Im.samp V h1 (by omega) h2 h3 h4
  have ht2 : ∀ V ad ca, Bytes V ad 18 (Im.turnOf a 2 3 Im.samp) → 18 ≤ ca → ca ≤ 9223372036854775807 →
      Calls Try.prog 70 #[.agg #[.int .i64 (Im.sw a 2 3 : Nat), .int .i64 (Im.sh a 2 3 : Nat), .slice ad 18 ca], .int .i64 b] V (ImgPost V (Im.sw b (Im.sw a 2 3) (Im.sh a 2 3) : Nat) (Im.sh b (Im.sw a 2 3) (Im.sh a 2 3) : Nat) 18 (Im.turnOf b (Im.sw a 2 3) (Im.sh a 2 3) (Im.turnOf a 2 3 Im.samp))) := by
    intro V ad ca h2 h3 h4
    have := turned_is b (Im.sw a 2 3) (Im.sh a 2 3) ad ca (Im.turnOf a 2 3 Im.samp) V hb hsw (by rw [h18]; exact h2) (by rw [h18]; exact h3) h4
    rwa [h18] at this
  have hal : ∀ t : Nat, 1 ≤ t ∧ t ≤ 8 → Im.eqB (Im.sw t 2 3) (Im.sh t 2 3) 18 (Im.turnOf t 2 3 Im.samp) (Im.sw b (Im.sw a 2 3) (Im.sh a 2 3)) (Im.sh b (Im.sw a 2 3) (Im.sh a 2 3)) 18 (Im.turnOf b (Im.sw a 2 3) (Im.sh a 2 3) (Im.turnOf a 2 3 Im.samp)) = (t == Im.cmb a b) :=
    fun t ht => (eqB_alike 2 3 Im.samp a b t 18 18 rfl rfl).trans (Im.alike_samp ha hb ht)
  have hcr := Im.cmb_range ha hb
  generalize Im.turnOf b (Im.sw a 2 3) (Im.sh a 2 3) (Im.turnOf a 2 3 Im.samp) = g2 at *
  generalize Im.sw b (Im.sw a 2 3) (Im.sh a 2 3) = cw2 at *
  generalize Im.sh b (Im.sw a 2 3) (Im.sh a 2 3) = ch2 at *
  generalize Im.cmb a b = c at *
  generalize hg1 : Im.turnOf a 2 3 Im.samp = g1 at *
  generalize hcw : Im.sw a 2 3 = cw at *
  generalize hch : Im.sh a 2 3 = ch at *
  have HT1 := Lib.hid ht1; have HT2 := Lib.hid ht2; have HAL := Lib.hid hal
  have HTA := Lib.hid (fun V ad ca h2 h3 h4 => ht1 a V ad ca ha h2 h3 h4)
  rw [hg1, hcw, hch] at HTA
  clear ht1 ht2 hal h18 hmul hmul2 hg1 hcw hch
  go_enter Try.func22, Try.ntmps22
  go_wp2_with (first
    | (go_at_call 63; refine (outside_no _ _ _ _ (by omega) (by omega)).mono ?_; rintro e w' ⟨rfl, rfl⟩)
    | (go_at_call 71; refine (sample_is _).mono ?_; rintro e w1 ⟨a1, c1, rfl, hb1, hc1, hd1, hB1⟩)
    | (go_at_call 70; (with_reducible refine (HTA.out _ _ _ hb1 hc1 hd1).mono ?_); rintro e w2 ⟨a2, c2, rfl, hb2, hc2, hd2, hB2⟩)
    | (go_at_call 70; (with_reducible refine (HT2.out _ _ _ hb2 hc2 hd2).mono ?_); rintro e w3 ⟨a3, c3, rfl, hb3, hc3, hd3, hB3⟩))
  obtain ⟨w4, HW4, hI, hs4, hB4⟩ := box w3 #[.int .i64 cw2, .int .i64 ch2, .slice a3 18 c3] 24
  rw [HW4]
  have hb4 := hb3.keep hB4
  have hB := below_up (below_up (below_up hB1 hB2) hB3) hB4
  obtain ⟨o, ho⟩ : ∃ o, o = w3.heap.size := ⟨_, rfl⟩
  rw [← ho] at hI ⊢
  clear HW4 hs4 hB1 hB2 hB3 hB4 hb1 hb2 hb3 ho HTA HT2
  go_loopg [7] 9 (fun gk v wr => ∃ t : Nat, 1 ≤ t ∧ t ≤ c ∧ gk = 10 - t ∧ v = .int .i64 t ∧ Blk wr o #[.int .i64 cw2, .int .i64 ch2, .slice a3 18 c3] 24 ∧ Bytes wr a3 18 g2 ∧ Below w.heap.size w wr)
  case atStart => exact ⟨1, by omega, by omega, rfl, rfl, hI, hb4, hB⟩
  case round =>
    clear hI hb4 hB
    obtain ⟨t, ht1, ht2, rfl, rfl, hI, hb, hB⟩ := hrel
    have HTT := Lib.hid (fun V ad ca h2 h3 h4 => HT1.out t V ad ca (by omega) h2 h3 h4)
    have HAT := Lib.hid (HAL.out t (by omega))
    generalize Im.turnOf t 2 3 Im.samp = gt at *
    generalize Im.sw t 2 3 = cwt at *
    generalize Im.sh t 2 3 = cht at *
    have hI0 := hI.three
    by_cases hlt : t < c
    · have hq : (t == c) = false := by simp; omega
      rw [hq] at HAT
      clear hq
      go_wp2_with fail
      go_region_held3 (fun w' => w'.cell? ⟨o, 0, none⟩ = some (.int .i64 cw2) ∧ w'.cell? ⟨o, 1, none⟩ = some (.int .i64 ch2) ∧ w'.cell? ⟨o, 2, none⟩ = some (.slice a3 18 c3))
        (first | exact hI.drew.three | exact hI1.three | exact hI2.three | exact hI3.three)
        (first
          | (go_at_call 71; refine (sample_is _).mono ?_; rintro e w1 ⟨a1, c1, rfl, hx1, hy1, hz1, hB1⟩; have hI1 := hI.drew.keep hB1)
          | (go_at_call 70; refine (HTT.out _ _ _ hx1 hy1 hz1).mono ?_; rintro e w2 ⟨a2, c2, rfl, hx2, hy2, hz2, hB2⟩; have hI2 := hI1.keep hB2)
          | (go_at_call 29; refine (same_any _ _ _ _ _ _ _ _ _ _ _ _ _ hx2 ((hb.keep (Below.refl _ _).drew).keep (below_up hB1 hB2)) (by omega) hy2 hc3).mono ?_; rw [HAT.out]; rintro e w3 ⟨rfl, hB3⟩; have hI3 := hI2.keep hB3))
      go_wp2_with fail
      have hbx := ((hb.keep (Below.refl _ _).drew).keep (below_up hB1 hB2)).keep hB3
      have hBx := below_up hB.drew (below_up (below_up hB1 hB2) hB3)
      go_roundg (10 - (t + 1))
      case rel => exact ⟨t + 1, by omega, by omega, rfl, by go_num, hI3, hbx, hBx⟩
      case measure => omega
    · obtain rfl : t = c := by omega
      have hq : (t == t) = true := by simp
      rw [hq] at HAT
      clear hq
      go_wp2_with fail
      go_region_held3 (fun w' => w'.cell? ⟨o, 0, none⟩ = some (.int .i64 cw2) ∧ w'.cell? ⟨o, 1, none⟩ = some (.int .i64 ch2) ∧ w'.cell? ⟨o, 2, none⟩ = some (.slice a3 18 c3))
        (first | exact hI.drew.three | exact hI1.three | exact hI2.three | exact hI3.three)
        (first
          | (go_at_call 71; refine (sample_is _).mono ?_; rintro e w1 ⟨a1, c1, rfl, hx1, hy1, hz1, hB1⟩; have hI1 := hI.drew.keep hB1)
          | (go_at_call 70; refine (HTT.out _ _ _ hx1 hy1 hz1).mono ?_; rintro e w2 ⟨a2, c2, rfl, hx2, hy2, hz2, hB2⟩; have hI2 := hI1.keep hB2)
          | (go_at_call 29; refine (same_any _ _ _ _ _ _ _ _ _ _ _ _ _ hx2 ((hb.keep (Below.refl _ _).drew).keep (below_up hB1 hB2)) (by omega) hy2 hc3).mono ?_; rw [HAT.out]; rintro e w3 ⟨rfl, hB3⟩; have hI3 := hI2.keep hB3))
      go_wp2_with fail
      have hBx := below_up hB.drew (below_up (below_up hB1 hB2) hB3)
      go_ret2
      exact ⟨rfl, hBx⟩
theorem then_range (a b : Int) (w : World) (h : (a < 1 ∨ 8 < a) ∨ (b < 1 ∨ 8 < b)) :
    Calls Try.prog 22 #[.int .i64 a, .int .i64 b] w fun e w' => e = .returned (.tuple #[.int .i64 0, .int .i64 2]) ∧ Below w.heap.size w w' := by
  by_cases ha : a < 1 ∨ 8 < a
  · clear h
    go_enter Try.func22, Try.ntmps22
    go_wp2_with (go_at_call 63; refine (outside_yes _ _ _ _ ha).mono ?_; rintro e w' ⟨rfl, rfl⟩)
    go_ret2
    exact ⟨rfl, Below.refl _ _⟩
  · have hb : b < 1 ∨ 8 < b := by omega
    have ha1 : 1 ≤ a := by omega
    have ha2 : a ≤ 8 := by omega
    clear h ha
    go_enter Try.func22, Try.ntmps22
    go_wp2_with (go_at_call 63; first | ((with_reducible refine (outside_no a _ _ _ ha1 ha2).mono ?_); rintro e w' ⟨rfl, rfl⟩) | ((with_reducible refine (outside_yes b _ _ _ hb).mono ?_); rintro e w' ⟨rfl, rfl⟩))
    go_ret2
    exact ⟨rfl, Below.refl _ _⟩
theorem back_range (a : Int) (w : World) (ha : a < 1 ∨ 8 < a) :
    Calls Try.prog 23 #[.int .i64 a] w fun e w' => e = .returned (.tuple #[.int .i64 0, .int .i64 2]) ∧ Below w.heap.size w w' := by
  go_enter Try.func23, Try.ntmps23
  go_wp2_with (go_at_call 63; refine (outside_yes _ _ _ _ ha).mono ?_; rintro e w' ⟨rfl, rfl⟩)
  go_ret2
  exact ⟨rfl, Below.refl _ _⟩
set_option maxRecDepth 100000 in
set_option maxHeartbeats 2000000 in
theorem back_ok (a : Nat) (w : World) (ha : 1 ≤ a ∧ a ≤ 8) :
    Calls Try.prog 23 #[.int .i64 a] w fun e w' => e = .returned (.tuple #[.int .i64 (Im.bk a), .int .i64 0]) ∧ Below w.heap.size w w' := by
  have hth := fun (t : Nat) V h => then_ok a t V ha h
  have hbk : ∀ t, 1 ≤ t ∧ t ≤ 8 → (((Im.cmb a t : Nat) : Int) == 1) = (t == Im.bk a) := fun t ht => by
    rw [← Im.bk_is ha ht, Bool.eq_iff_iff]; simp; omega
  have hbr := Im.bk_range ha
  generalize Im.cmb a = cm at *
  generalize Im.bk a = c at *
  have HTH := Lib.hid hth; have HBK := Lib.hid hbk
  clear hth hbk
  go_enter Try.func23, Try.ntmps23
  go_wp2_with (go_at_call 63; refine (outside_no _ _ _ _ (by omega) (by omega)).mono ?_; rintro e w' ⟨rfl, rfl⟩)
  go_loopg [4] 9 (fun gk v wr => ∃ t : Nat, 1 ≤ t ∧ t ≤ c ∧ gk = 10 - t ∧ v = .int .i64 t ∧ Below w.heap.size w wr)
  case atStart => exact ⟨1, by omega, by omega, rfl, rfl, Below.refl _ _⟩
  case round =>
    obtain ⟨t, ht1, ht2, rfl, rfl, hB⟩ := hrel
    have HT := Lib.hid (fun V => HTH.out t V (by omega))
    have hq := HBK.out t (by omega)
    generalize cm t = k at *
    by_cases hlt : t < c
    · have hq2 : (t == c) = false := by simp; omega
      rw [hq2] at hq
      clear hq2
      go_wp2_with (go_at_call 22; refine (HT.out _).mono ?_; rintro e w1 ⟨rfl, hB1⟩)
      go_roundg (10 - (t + 1))
      case rel => exact ⟨t + 1, by omega, by omega, rfl, by go_num, below_up hB hB1⟩
      case measure => omega
    · obtain rfl : t = c := by omega
      have hq2 : (t == t) = true := by simp
      rw [hq2] at hq
      clear hq2
      go_wp2_with (go_at_call 22; refine (HT.out _).mono ?_; rintro e w1 ⟨rfl, hB1⟩)
      go_ret2
      exact ⟨rfl, below_up hB hB1⟩
end Go.Proofs.Ytkebkbjkapfgkaa
