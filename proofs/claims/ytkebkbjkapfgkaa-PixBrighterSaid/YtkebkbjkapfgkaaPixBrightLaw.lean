/- The law PixBrighter, walked. -/
import Derived.Test.YtkebkbjkapfgkaaPixBrightMath
import Derived.Test.YtkebkbjkapfgkaaPixHash
import Derived.Test.YtkebkbjkapfgkaaPixApart2
import Derived.Test.YtkebkbjkapfgkaaPixClone
import Derived.Test.YtkebkbjkapfgkaaPixTurnAll
import Derived.Test.YtkebkbjkapfgkaaPixAwake
import Derived.Laws.OwnMore
namespace Go.Proofs.Ytkebkbjkapfgkaa
open Go.RowKit Go.Sort Go.Shelf
set_option linter.unusedVariables false
attribute [local go_sem ↓] Go.wp_at_zero Go.wp_at_succ
set_option maxHeartbeats 1000000 in
theorem bright_err (W H d : Int) (a : Option Addr) (n ca : Nat) (w : World) (hn : n ≤ 9223372036854775807) (q : Int) (he : Im.err W H n = q) (hq : q ≠ 0) : Calls Try.prog 8 #[.agg #[.int .i64 W, .int .i64 H, .slice a n ca], .int .u8 d] w fun e w' => e = .returned (.bool true) ∧ Below w.heap.size w w' := by
  have HE := Lib.hid he; clear he
  have hq' : (q == 0) = false := by simpa using hq
  obtain ⟨W1, HW1, hP1, hs1, hB1⟩ := box w #[.int .i64 W, .int .i64 H, .slice a n ca] 24
  have H1 := Lib.hid HW1; clear HW1
  obtain ⟨p0, p1, p2⟩ := hP1.three
  go_enter Try.func8, Try.ntmps8
  go_wp2_with (first
    | (go_at_call 27; rw [H1.out]; refine (awake_is _).mono ?_; rintro e w' ⟨rfl, rfl⟩)
    | (go_at_call 28; refine (check_is _ _ _ _ _ _ hn).mono ?_; rw [HE.out]; rintro e w7 ⟨rfl, hBi⟩))
  go_ret
  exact ⟨rfl, below_up hB1 hBi⟩
theorem Im.apart_up (px qx : Nat → Int) (d : Int) (hd : 0 ≤ d) (n : Nat) (e : ∀ i, i < n → qx i = px i + d) (hn : 1 ≤ n) : Im.apartTo px qx n = d := by
  have had : ∀ i, i < n → Im.ad (px i) (qx i) = d := fun i hi => by rw [e i hi]; unfold Im.ad; split <;> omega
  have : ∀ k, k ≤ n → 1 ≤ k → Im.apartTo px qx k = d := by
    intro k
    induction k with
    | zero => intro _ h; omega
    | succ k ih =>
      intro h1 _
      rw [Im.apartTo, had k (by omega)]
      rcases Nat.eq_zero_or_pos k with h | h
      · subst h; simp [Im.apartTo]; omega
      · rw [ih (by omega) h]; omega
  exact this n (Nat.le_refl _) hn
theorem bytes_set (n i : Nat) (f : Nat → Int) (v : Int) : (bytes n f).set i (.int .u8 v) = bytes n (fun j => if j = i then v else f j) := by
  refine List.ext_getElem (by simp [bytes]) fun k h1 h2 => ?_
  rw [List.getElem_set]
  by_cases hk : k = i
  · simp [hk, bytes]
  · rw [if_neg (fun e => hk e.symm)]; simp [bytes, hk]
theorem bytes_congr (n : Nat) (f g : Nat → Int) (e : ∀ j, j < n → f j = g j) : bytes n f = bytes n g := by
  unfold bytes; exact List.map_congr_left fun j hj => by rw [e j (List.mem_range.1 hj)]
/-- The bytes where the first i are made greater. -/
def Im.up (px : Nat → Int) (d : Int) (i j : Nat) : Int := if j < i then px j + d else px j
set_option maxRecDepth 100000 in
set_option maxHeartbeats 2000000 in
theorem bright_ok (W H : Nat) (d : Int) (a : Option Addr) (n ca : Nat) (w : World) (hn : n ≤ 9223372036854775807) (px : Nat → Int) (hW : 1 ≤ W ∧ W ≤ 64 ∧ 1 ≤ H ∧ H ≤ 64) (hnn : n = 3 * (H * W)) (hr : Bytes w a n px) (hca : n ≤ ca) (hca2 : ca ≤ 9223372036854775807) (hpx : ∀ i, 0 ≤ px i ∧ px i ≤ 255) (hd : 0 ≤ d ∧ d ≤ 255) : Calls Try.prog 8 #[.agg #[.int .i64 W, .int .i64 H, .slice a n ca], .int .u8 d] w fun e w' => e = .returned (.bool true) ∧ Below w.heap.size w w' := by
  have HE : Hid (Im.err (W : Int) (H : Int) n = 0) := by rw [hnn]; exact err_ok W H hW
  have hWH1 : 1 ≤ H * W := Nat.mul_le_mul (show 1 ≤ H from hW.2.2.1) hW.1
  have hn2 : 1 ≤ n ∧ n ≤ 12288 := by
    have hWH : H * W ≤ 4096 := Nat.mul_le_mul hW.2.2.2 hW.2.1
    omega
  have hh1 := fun V (hV : Below w.heap.size w V) => hash_ok W H a ca px V hW (by rw [← hnn]; exact hr.keep hV) (by rw [← hnn]; exact hca) hca2 hpx
  have hh2 : (∀ k, k < n → px k + d ≤ 255) → ∀ V a2 c2, Bytes V a2 n (fun j => if j < n then px j + d else 0) → n ≤ c2 → c2 ≤ 9223372036854775807 → Calls Try.prog 40 #[.agg #[.int .i64 W, .int .i64 H, .slice a2 n c2]] V fun e w' => e = .returned (.tuple #[.int .u64 (Im.hashOf W H px : Nat), .int .i64 0]) ∧ Below V.heap.size V w' := by
    intro hb V a2 c2 h1 h2 h3
    have hx := hash_ok W H a2 c2 (fun j => if j < n then px j + d else 0) V hW (by rw [← hnn]; exact h1) (by rw [← hnn]; exact h2) h3 (fun i => by
      by_cases hi : i < n
      · have := hpx i; have := hb i hi; simp [hi]; omega
      · simp [hi])
    rw [← hnn, Im.hash_up W H px _ d hWH1 (fun i hi => by rw [← hnn] at hi; simp [hi])] at hx
    exact hx
  have hap : (∀ k, k < n → px k + d ≤ 255) → ∀ V a2 c2, Below w.heap.size w V → Bytes V a2 n (fun j => if j < n then px j + d else 0) → Calls Try.prog 41 #[.agg #[.int .i64 W, .int .i64 H, .slice a n ca], .agg #[.int .i64 W, .int .i64 H, .slice a2 n c2]] V fun e w' => e = .returned (.tuple #[.int .i64 d, .int .i64 0]) ∧ Below V.heap.size V w' := by
    intro hb V a2 c2 hV h1
    have hx := apart_ok W H a a2 n ca c2 px (fun j => if j < n then px j + d else 0) V hn (hr.keep hV) h1 HE.out hn2.2 hpx (fun i => by
      by_cases hi : i < n
      · have := hpx i; have := hb i hi; simp [hi]; omega
      · simp [hi])
    rw [Im.apart_up px _ d hd.1 n (fun i hi => by simp [hi]) hn2.1] at hx
    exact hx
  simp only [← hnn] at hh1
  generalize Im.hashOf W H px = hv at *
  have HH1 := Lib.hid hh1; have HH2 := Lib.hid hh2; have HAP := Lib.hid hap; have HPX := Lib.hid hpx
  obtain ⟨b0, off0, rfl, hb0, hcell⟩ := hr (by omega)
  have HC := Lib.hid hcell
  clear hh1 hh2 hap hpx hcell hr hnn hWH1
  obtain ⟨W1, HW1, hP1, hz1, hB1⟩ := box w #[.int .i64 W, .int .i64 H, .slice (some ⟨b0, off0, none⟩) n ca] 24
  have HALL := Lib.hid (fun V (hV : Below W1.heap.size W1 V) => (hP1.keep hV).three)
  have HCL := Lib.hid (fun V (hV : Below w.heap.size w V) => clone_is b0 off0 n ca px V (Nat.lt_of_lt_of_le hb0 hV.size) (fun i hi => (hV.cell (p := ⟨b0, off0 + i, none⟩) hb0).trans (HC.out i hi)) hn2.1 hn2.2)
  have H1 := Lib.hid HW1; clear HW1 hz1 hP1
  go_enter Try.func8, Try.ntmps8
  go_wp2_with (first
    | (go_at_call 27; rw [H1.out]; refine (awake_is _).mono ?_; rintro e w' ⟨rfl, rfl⟩; have hC := Below.refl W1.heap.size W1; obtain ⟨p0, p1, p2⟩ := HALL.out _ hC)
    | (go_at_call 28; refine (check_is _ _ _ _ _ _ hn).mono ?_; rw [HE.out]; rintro e w1 ⟨rfl, hBx⟩; have hC := below_up hC hBx; obtain ⟨p0, p1, p2⟩ := HALL.out _ hC))
  have hC0 := hC
  have hCA : Below W1.heap.size W1 (w1.alloc (.cells #[.int .i64 0, .int .i64 0, .slice none 0 0] 24)).drew := (below_allocs hC _).drew
  have hZ : Blk (w1.alloc (.cells #[.int .i64 0, .int .i64 0, .slice none 0 0] 24)).drew w1.heap.size #[.int .i64 0, .int .i64 0, .slice none 0 0] 24 := (Blk.new w1 _ _).drew
  have hC := hC.drew
  have hw1 := hC0.size
  go_region_held3 (fun w' => w'.cell? ⟨w.heap.size, 0, none⟩ = some (.int .i64 W) ∧ w'.cell? ⟨w.heap.size, 1, none⟩ = some (.int .i64 H) ∧ w'.cell? ⟨w.heap.size, 2, none⟩ = some (.slice (some ⟨b0, off0, none⟩) n ca))
    (first | exact HALL.out _ hC | exact HALL.out _ hCA | exact HALL.out _ (below_allocs hC _) | exact HALL.out _ (((hC.setCell hw1 _).setCell hw1 _).setCell hw1 _))
    (first
      | (go_at_call 39; (with_reducible refine (HCL.out _ (below_up hB1 hC)).mono ?_); rintro e w2 ⟨g, cap, rfl, hcap1, hcap2, hown, hBx⟩; have hC := below_up hC hBx)
      | (go_at_call 39; refine (HCL.out _ (below_up hB1 hCA)).mono ?_; rintro e w2 ⟨g, cap, rfl, hcap1, hcap2, hown, hBx⟩; have hC := below_up hCA hBx; have hZ := hZ.keep hBx; have hZF := hZ.free; obtain ⟨u0, u1, u2⟩ := hZ.three))
  · have hcap3 : cap ≤ 9223372036854775807 := by unfold maxLen at hcap2; omega
    go_wp2_with fail
    have hlt2 := (hown.lt g rfl).2
    have hgb := (hown.lt g rfl).1
    have hNB := Blk.new w2 #[.int .i64 W, .int .i64 H, .slice (some ⟨g, 0, none⟩) n cap] 24
    have hown := ownsRow_down (hown.alloc (.cells #[.int .i64 W, .int .i64 H, .slice (some ⟨g, 0, none⟩) n cap] 24)) (base' := W1.heap.size) (by simp; omega)
    have hCC := below_allocs hC (.cells #[.int .i64 W, .int .i64 H, .slice (some ⟨g, 0, none⟩) n cap] 24)
    have hgn : g ≠ w2.heap.size := by omega
    have hnb : W1.heap.size ≤ w2.heap.size := hC.size
    generalize w2.alloc (.cells #[.int .i64 W, .int .i64 H, .slice (some ⟨g, 0, none⟩) n cap] 24) = wx at *
    generalize w2.heap.size = nb at *
    clear hC
    have hown : wx.ownsRow W1.heap.size 5 1 (.slice (some ⟨g, 0, none⟩) n cap) n (bytes n (Im.up px d 0)) := by
      rw [bytes_congr n (Im.up px d 0) px (fun j hj => by simp [Im.up])]; exact hown
    go_loopg [30] n (fun gk v wr => ∃ i : Nat, i ≤ n ∧ gk = n - i ∧ v = .int .i64 i ∧ Blk wr nb #[.int .i64 W, .int .i64 H, .slice (some ⟨g, 0, none⟩) n cap] 24 ∧ wr.ownsRow W1.heap.size 5 1 (.slice (some ⟨g, 0, none⟩) n cap) n (bytes n (Im.up px d i)) ∧ Hid (∀ k, k < i → px k + d ≤ 255) ∧ Below W1.heap.size W1 wr)
    case atStart => exact ⟨0, by omega, rfl, rfl, hNB, hown, (fun k hk => by omega), hCC⟩
    case round =>
      clear hNB hown hCC
      obtain ⟨i, hi, rfl, rfl, hNB, hown, HQ, hC⟩ := hrel
      obtain ⟨j0, j1, j2⟩ := hNB.three
      have hgW := (hown.lt g rfl).1
      by_cases hlt : i < n
      · have e1 : wr.cell? ⟨g, i, none⟩ = some (.int .u8 (px i)) := by
          have h := hown.cells (g := g) rfl i (.int .u8 (Im.up px d i i)) (by simp [bytes, hlt])
          rw [show (⟨g, 0, none⟩ : Addr).add i = ⟨g, i, none⟩ from by unfold Addr.add; split <;> simp_all, show Im.up px d i i = px i by simp [Im.up]] at h
          exact h
        have hfz := hown.frozenAt i
        have hp := HPX.out i
        have HST := Lib.hid (hown.stored i (.int .u8 (px i + d)))
        have HBS := Lib.hid (show (bytes n (Im.up px d i)).set i (.int .u8 (px i + d)) = bytes n (Im.up px d (i + 1)) by
          rw [bytes_set]; exact bytes_congr _ _ _ fun j hj => by
            unfold Im.up
            by_cases h1 : j = i
            · subst h1; simp
            · by_cases h2 : j < i
              · rw [if_neg h1, if_pos h2, if_pos (by omega)]
              · rw [if_neg h1, if_neg h2, if_neg (by omega)])
        by_cases hq : 255 - d < px i
        · clear HST HBS hown
          generalize px i = u at *
          go_wp2_with fail
          go_ret
          exact ⟨rfl, below_up hB1 hC⟩
        · have HQ2 : Hid (∀ k, k < i + 1 → px k + d ≤ 255) := fun k hk => by
            by_cases e : k = i
            · subst e; omega
            · exact HQ.out k (by omega)
          generalize px i = u at *
          have hud : u + d ≤ 255 := by omega
          go_wp2_with fail
          have hst := HST.out
          rw [HBS.out] at hst
          go_roundg (n - (i + 1))
          case rel => exact ⟨i + 1, by omega, rfl, by go_num, hNB.setOther (by simpa using fun e => hgn e.symm) _, hst.1, HQ2, hC.setCell hgW _⟩
          case measure => omega
      · obtain rfl : n = i := by omega
        have hby : Bytes wr (some ⟨g, 0, none⟩) n (fun j => if j < n then px j + d else 0) := by
          refine (bytes_of_own hown).congr fun j hj => ?_
          simp [Im.up, hj]
        have HHN := Lib.hid (HH2.out HQ.out)
        have HAN := Lib.hid (HAP.out HQ.out)
        obtain ⟨p0, p1, p2⟩ := HALL.out _ hC
        clear hown HQ HH2 HAP
        go_wp2_with (first
          | (go_at_call 40; first
             | ((with_reducible refine (HH1.out _ (below_up hB1 hC)).mono ?_); rintro e w5 ⟨rfl, hBx⟩; have hC := below_up hC hBx; have hby := hby.keep hBx; have hNB := hNB.keep hBx; obtain ⟨p0, p1, p2⟩ := HALL.out _ hC; obtain ⟨j0, j1, j2⟩ := hNB.three)
             | ((with_reducible refine (HHN.out _ _ _ hby hcap1 hcap3).mono ?_); rintro e w6 ⟨rfl, hBx⟩; have hC := below_up hC hBx; have hby := hby.keep hBx; have hNB := hNB.keep hBx; obtain ⟨p0, p1, p2⟩ := HALL.out _ hC; obtain ⟨j0, j1, j2⟩ := hNB.three))
          | (go_at_call 41; refine (HAN.out _ _ _ (below_up hB1 hC) hby).mono ?_; rintro e w7 ⟨rfl, hBx⟩; have hC := below_up hC hBx))
        go_ret
        exact ⟨rfl, below_up hB1 hC⟩
  · have hcap3 : cap ≤ 9223372036854775807 := by unfold maxLen at hcap2; omega
    go_wp2_with fail
    have hgb := (hown.lt g rfl).1
    have hNB : Blk (((w2.setCell ⟨w1.heap.size, 0, none⟩ (.int .i64 W)).setCell ⟨w1.heap.size, 1, none⟩ (.int .i64 H)).setCell ⟨w1.heap.size, 2, none⟩ (.slice (some ⟨g, 0, none⟩) n cap)) w1.heap.size #[.int .i64 W, .int .i64 H, .slice (some ⟨g, 0, none⟩) n cap] 24 := by
      simpa using ((hZ.set 0 (.int .i64 W)).set 1 (.int .i64 H)).set 2 (.slice (some ⟨g, 0, none⟩) n cap)
    have hgb2 : w1.heap.size + 1 ≤ g := by simpa using hgb
    have hlt1 : w1.heap.size < (w1.alloc (.cells #[.int .i64 0, .int .i64 0, .slice none 0 0] 24)).drew.heap.size := by simp
    have hown := ownsRow_down (Grow.kept_set (Grow.kept_set (Grow.kept_set hown (a := ⟨w1.heap.size, 0, none⟩) hlt1 (.int .i64 W)) (a := ⟨w1.heap.size, 1, none⟩) hlt1 (.int .i64 H)) (a := ⟨w1.heap.size, 2, none⟩) hlt1 (.slice (some ⟨g, 0, none⟩) n cap)) (base' := W1.heap.size) (by simp; omega)
    have hCC := ((hC.setCell (p := ⟨w1.heap.size, 0, none⟩) hw1 (.int .i64 W)).setCell (p := ⟨w1.heap.size, 1, none⟩) hw1 (.int .i64 H)).setCell (p := ⟨w1.heap.size, 2, none⟩) hw1 (.slice (some ⟨g, 0, none⟩) n cap)
    have hgn : g ≠ w1.heap.size := by omega
    have hnb : W1.heap.size ≤ w1.heap.size := hw1
    generalize ((w2.setCell ⟨w1.heap.size, 0, none⟩ (.int .i64 W)).setCell ⟨w1.heap.size, 1, none⟩ (.int .i64 H)).setCell ⟨w1.heap.size, 2, none⟩ (.slice (some ⟨g, 0, none⟩) n cap) = wx at *
    clear hZ hZF u0 u1 u2 hlt1 hgb hgb2 hCA hC0
    generalize w1.heap.size = nb at *
    clear hC
    have hown : wx.ownsRow W1.heap.size 5 1 (.slice (some ⟨g, 0, none⟩) n cap) n (bytes n (Im.up px d 0)) := by
      rw [bytes_congr n (Im.up px d 0) px (fun j hj => by simp [Im.up])]; exact hown
    go_loopg [30] n (fun gk v wr => ∃ i : Nat, i ≤ n ∧ gk = n - i ∧ v = .int .i64 i ∧ Blk wr nb #[.int .i64 W, .int .i64 H, .slice (some ⟨g, 0, none⟩) n cap] 24 ∧ wr.ownsRow W1.heap.size 5 1 (.slice (some ⟨g, 0, none⟩) n cap) n (bytes n (Im.up px d i)) ∧ Hid (∀ k, k < i → px k + d ≤ 255) ∧ Below W1.heap.size W1 wr)
    case atStart => exact ⟨0, by omega, rfl, rfl, hNB, hown, (fun k hk => by omega), hCC⟩
    case round =>
      clear hNB hown hCC
      obtain ⟨i, hi, rfl, rfl, hNB, hown, HQ, hC⟩ := hrel
      obtain ⟨j0, j1, j2⟩ := hNB.three
      have hgW := (hown.lt g rfl).1
      by_cases hlt : i < n
      · have e1 : wr.cell? ⟨g, i, none⟩ = some (.int .u8 (px i)) := by
          have h := hown.cells (g := g) rfl i (.int .u8 (Im.up px d i i)) (by simp [bytes, hlt])
          rw [show (⟨g, 0, none⟩ : Addr).add i = ⟨g, i, none⟩ from by unfold Addr.add; split <;> simp_all, show Im.up px d i i = px i by simp [Im.up]] at h
          exact h
        have hfz := hown.frozenAt i
        have hp := HPX.out i
        have HST := Lib.hid (hown.stored i (.int .u8 (px i + d)))
        have HBS := Lib.hid (show (bytes n (Im.up px d i)).set i (.int .u8 (px i + d)) = bytes n (Im.up px d (i + 1)) by
          rw [bytes_set]; exact bytes_congr _ _ _ fun j hj => by
            unfold Im.up
            by_cases h1 : j = i
            · subst h1; simp
            · by_cases h2 : j < i
              · rw [if_neg h1, if_pos h2, if_pos (by omega)]
              · rw [if_neg h1, if_neg h2, if_neg (by omega)])
        by_cases hq : 255 - d < px i
        · clear HST HBS hown
          generalize px i = u at *
          go_wp2_with fail
          go_ret
          exact ⟨rfl, below_up hB1 hC⟩
        · have HQ2 : Hid (∀ k, k < i + 1 → px k + d ≤ 255) := fun k hk => by
            by_cases e : k = i
            · subst e; omega
            · exact HQ.out k (by omega)
          generalize px i = u at *
          have hud : u + d ≤ 255 := by omega
          go_wp2_with fail
          have hst := HST.out
          rw [HBS.out] at hst
          go_roundg (n - (i + 1))
          case rel => exact ⟨i + 1, by omega, rfl, by go_num, hNB.setOther (by simpa using fun e => hgn e.symm) _, hst.1, HQ2, hC.setCell hgW _⟩
          case measure => omega
      · obtain rfl : n = i := by omega
        have hby : Bytes wr (some ⟨g, 0, none⟩) n (fun j => if j < n then px j + d else 0) := by
          refine (bytes_of_own hown).congr fun j hj => ?_
          simp [Im.up, hj]
        have HHN := Lib.hid (HH2.out HQ.out)
        have HAN := Lib.hid (HAP.out HQ.out)
        obtain ⟨p0, p1, p2⟩ := HALL.out _ hC
        clear hown HQ HH2 HAP
        go_wp2_with (first
          | (go_at_call 40; first
             | ((with_reducible refine (HH1.out _ (below_up hB1 hC)).mono ?_); rintro e w5 ⟨rfl, hBx⟩; have hC := below_up hC hBx; have hby := hby.keep hBx; have hNB := hNB.keep hBx; obtain ⟨p0, p1, p2⟩ := HALL.out _ hC; obtain ⟨j0, j1, j2⟩ := hNB.three)
             | ((with_reducible refine (HHN.out _ _ _ hby hcap1 hcap3).mono ?_); rintro e w6 ⟨rfl, hBx⟩; have hC := below_up hC hBx; have hby := hby.keep hBx; have hNB := hNB.keep hBx; obtain ⟨p0, p1, p2⟩ := HALL.out _ hC; obtain ⟨j0, j1, j2⟩ := hNB.three))
          | (go_at_call 41; refine (HAN.out _ _ _ (below_up hB1 hC) hby).mono ?_; rintro e w7 ⟨rfl, hBx⟩; have hC := below_up hC hBx))
        go_ret
        exact ⟨rfl, below_up hB1 hC⟩
end Go.Proofs.Ytkebkbjkapfgkaa
