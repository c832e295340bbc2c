/- Parts of the proof, no condition: StRef4, StRef5, StRef6. -/
import Derived.Test.YtbbgebpgpadclaaGreatDoorSr16
import Derived.Test.YtbbgebpgpadclaaGreatDoorSr3
import Derived.Lib.QuietBelow
import Derived.Test.YtbbgebpgpadclaaGreatDoorSr9
set_option maxRecDepth 100000
set_option maxHeartbeats 16000000
set_option linter.unusedSimpArgs false
set_option linter.unusedVariables false
namespace Go.Proofs.YtbbgebpgpadclaaGreatDoor
open Go.RowKit Go.Sort Go.Shelf Go.Maps
theorem freeIn_is (s : Sto) (a : StA) (x : Tir) (k : Nat) (hk : s.tiers[k]? = some x) (hka : St.tierAt s.tiers x.name = (k : Int)) (w : World) (hI : StIn w s a) (hz : St.Szs s.files) (hc : s.copies.length ≤ 4000) (hr : 0 ≤ x.room ∧ x.room ≤ 1000000000000) :
  Calls Tryz.prog 66 #[.agg #[.int .i64 s.least, .int .i64 s.wait, .slice a.ta s.tiers.length a.tc, .slice a.fa s.files.length a.fc, .slice a.ca s.copies.length a.cc, .slice a.ha s.held.length a.hc, .slice a.ba s.bin.length a.bc], .string x.name] w fun e w' => e = .returned (.int .i64 (x.room - St.used s.files x.name s.copies)) ∧ Below w.heap.size w w' := by
 obtain ⟨W1, hW1, hP, hz1, hB1⟩ := box w #[.int .i64 s.least, .int .i64 s.wait, .slice a.ta s.tiers.length a.tc, .slice a.fa s.files.length a.fc, .slice a.ca s.copies.length a.cc, .slice a.ha s.held.length a.hc, .slice a.ba s.bin.length a.bc] 28
 have HW1 := Lib.hid hW1
 have HI1 := Lib.hid (hI.keep hB1)
 have q0 : W1.cell? ⟨w.heap.size, 0, none⟩ = some (.int .i64 s.least) := (hP.cell 0).trans rfl
 have q1 : W1.cell? ⟨w.heap.size, 1, none⟩ = some (.int .i64 s.wait) := (hP.cell 1).trans rfl
 have q2 : W1.cell? ⟨w.heap.size, 2, none⟩ = some (.slice a.ta s.tiers.length a.tc) := (hP.cell 2).trans rfl
 have q3 : W1.cell? ⟨w.heap.size, 3, none⟩ = some (.slice a.fa s.files.length a.fc) := (hP.cell 3).trans rfl
 have q4 : W1.cell? ⟨w.heap.size, 4, none⟩ = some (.slice a.ca s.copies.length a.cc) := (hP.cell 4).trans rfl
 have q5 : W1.cell? ⟨w.heap.size, 5, none⟩ = some (.slice a.ha s.held.length a.hc) := (hP.cell 5).trans rfl
 have q6 : W1.cell? ⟨w.heap.size, 6, none⟩ = some (.slice a.ba s.bin.length a.bc) := (hP.cell 6).trans rfl
 have HP := Lib.hid hP; have HB1 := Lib.hid hB1
 clear hW1 hP
 have hcl := hI.cl
 have htl := hI.tl
 have HZ := Lib.hid hz
 have hklt := (List.getElem?_eq_some_iff.1 hk).1
 have HT := Lib.hid (fun d os => Calls.regrown_of (w := W1) (d := d) (os := os) (tierOf_is s a x.name _ (HI1.out.keep (below_regrown W1 d os))))
 rw [hka] at HT
 obtain ⟨tb, toff, hta, htb, htc⟩ := HI1.out.ti (by omega)
 have t1 : W1.cell? ⟨tb, toff + k * 4 + 1, none⟩ = some (.int .i64 x.room) := htc k x hk 1 (.int .i64 x.room) rfl
 have HFO := Lib.hid (fun (d : ByteArray) W (hb : Below W1.heap.size W1 W) => fileOf_is s a d W (HI1.out.keep hb))
 have HCL : Hid (∀ W, Below W1.heap.size W1 W → W.cell? ⟨w.heap.size, 0, none⟩ = some (.int .i64 s.least) ∧ W.cell? ⟨w.heap.size, 1, none⟩ = some (.int .i64 s.wait) ∧ W.cell? ⟨w.heap.size, 2, none⟩ = some (.slice a.ta s.tiers.length a.tc) ∧ W.cell? ⟨w.heap.size, 3, none⟩ = some (.slice a.fa s.files.length a.fc) ∧ W.cell? ⟨w.heap.size, 4, none⟩ = some (.slice a.ca s.copies.length a.cc) ∧ W.cell? ⟨w.heap.size, 5, none⟩ = some (.slice a.ha s.held.length a.hc) ∧ W.cell? ⟨w.heap.size, 6, none⟩ = some (.slice a.ba s.bin.length a.bc)) := Lib.hid fun W hb =>
  have k := HP.out.keep hb
  ⟨(k.cell 0).trans rfl, (k.cell 1).trans rfl, (k.cell 2).trans rfl, (k.cell 3).trans rfl, (k.cell 4).trans rfl, (k.cell 5).trans rfl, (k.cell 6).trans rfl⟩
 obtain ⟨tot, htot⟩ : ∃ tot, x.room - St.used s.files x.name s.copies = tot := ⟨_, rfl⟩
 rw [htot]
 have hub := St.used_bd hz x.name s.copies
 have htt : -5000000000000 ≤ tot ∧ tot ≤ 1000000000000 := by omega
 have HT0 : Hid (x.room = tot + St.used s.files x.name (s.copies.drop 0)) := Lib.hid (by rw [List.drop_zero]; omega)
 clear hI hz htot hub hka htc hk
 obtain ⟨n, hn⟩ : ∃ n, s.copies.length = n := ⟨_, rfl⟩
 have HN := Lib.hid hn
 obtain ⟨nt, hnt⟩ : ∃ nt, s.tiers.length = nt := ⟨_, rfl⟩
 rw [hn] at q4 hcl hc HW1 HT HFO HCL ⊢
 rw [hnt] at q2 htl hklt HW1 HT HFO HCL ⊢
 rw [hta] at q2 HW1 HT HFO HCL ⊢
 clear hn hnt
 have hk0 : (0 : Int) ≤ (k : Int) := by omega
 have hk1 : (k : Int) < (nt : Int) := by omega
 go_enter Tryz.func66, Tryz.ntmps66
 go_wp2_with fail
 rw [HW1.out]
 have k0 := cell_regrown q0
 have k1 := cell_regrown q1
 have k2 := cell_regrown q2
 have k3 := cell_regrown q3
 have k4 := cell_regrown q4
 have k5 := cell_regrown q5
 have k6 := cell_regrown q6
 have k7 := cell_regrown t1
 refine wp_region_quiet_below (by kernel_rfl) (by kernel_rfl) ?_
 repeat (go_big_quiet_step ((go_at_call 59; with_reducible exact HT.out _ _)))
 refine wpQuiet_nil ?_
 intro _ hw'
 obtain ⟨⟨dq, osq⟩, hw''⟩ := hw'
 subst hw''
 have hBw2 := below_regrown W1 dq osq
 generalize grow (redrawn W1 dq) osq = w2 at *
 clear dq osq
 clear k0 k1 k2 k3 k4 k5 k6 k7 q0 q1 q2 q3 q4 q5 q6 t1
 obtain ⟨m0, m1, m2, m3, m4, m5, m6⟩ := HCL.out _ hBw2
 have HB2 := Lib.hid hBw2
 go_wp2_with fail
 clear m0 m1 m2 m3 m4 m5 m6 hBw2
 go_loopg [5, 21] n (fun gk v i wr => ∃ (j : Nat) (z : Int), j ≤ n ∧ gk = n - j ∧ i = .int .i64 j ∧ v = .int .i64 z ∧ z = tot + St.used s.files x.name (s.copies.drop j) ∧ Below W1.heap.size W1 wr)
 case atStart => exact ⟨0, x.room, by omega, rfl, rfl, rfl, HT0.out, HB2.out⟩
 case round =>
  obtain ⟨j, z, hj, rfl, rfl, rfl, hz, hB⟩ := hrel
  by_cases hlt : j < n
  ·obtain ⟨y, hy⟩ : ∃ y, s.copies[j]? = some y := ⟨_, List.getElem?_eq_getElem (by rw [HN.out]; exact hlt)⟩
   obtain ⟨b, off, ha, hb, hcell⟩ := (HI1.out.keep hB).co (by rw [HN.out]; omega)
   have c0 : wr.cell? ⟨b, off + j * 4, none⟩ = some (.string y.dig) := hcell j y hy 0 (.string y.dig) rfl
   have c1 : wr.cell? ⟨b, off + j * 4 + 1, none⟩ = some (.string y.tier) := hcell j y hy 1 (.string y.tier) rfl
   have c2 : wr.cell? ⟨b, off + j * 4 + 2, none⟩ = some (.bool y.good) := hcell j y hy 2 (.bool y.good) rfl
   have c3 : wr.cell? ⟨b, off + j * 4 + 3, none⟩ = some (.int .i64 y.asked) := hcell j y hy 3 (.int .i64 y.asked) rfl
   clear hcell
   obtain ⟨W3, hW3, hX3, hz3, hB3⟩ := box wr #[.string y.dig, .string y.tier, .bool y.good, .int .i64 y.asked] 70
   have HW3 := Lib.hid hW3
   have d0 : W3.cell? ⟨wr.heap.size, 0, none⟩ = some (.string y.dig) := (hX3.cell 0).trans rfl
   have d1 : W3.cell? ⟨wr.heap.size, 1, none⟩ = some (.string y.tier) := (hX3.cell 1).trans rfl
   have HAL := Lib.hid (below_up hB hB3)
   have HFF := Lib.hid (HFO.out y.dig _ HAL.out)
   obtain ⟨f, hf⟩ : ∃ f, St.filD s.files y.dig = f := ⟨_, rfl⟩
   obtain ⟨fb, hfb⟩ : ∃ fb, (St.fileOf s.files y.dig).isSome = fb := ⟨_, rfl⟩
   rw [hf, hfb] at HFF
   unfold St.fval at HFF
   have hfz : 0 ≤ f.size ∧ f.size ≤ 1000000000 := by rw [← hf, St.filD_size]; exact St.size_bd HZ.out y.dig
   have hstep := St.used_drop (F := s.files) (n := x.name) hy
   have hub := St.used_bd HZ.out x.name (s.copies.drop (j + 1))
   have hl1 : (s.copies.drop (j + 1)).length ≤ 4000 := by rw [List.length_drop]; have := HN.out; omega
   have hsz : St.sizeOf s.files y.dig = f.size := by rw [← hf, St.filD_size]
   rw [hsz] at hstep
   obtain ⟨m0, m1, m2, m3, m4, m5, m6⟩ := HCL.out _ HAL.out
   have hj0 : (0 : Int) ≤ (j : Int) := by omega
   have hj1 : (j : Int) < (n : Int) := by omega
   obtain ⟨ud, hud⟩ : ∃ ud, St.used s.files x.name (s.copies.drop (j + 1)) = ud := ⟨_, rfl⟩
   have HUD := Lib.hid hud
   rw [hud] at hstep hub
   clear hud
   obtain ⟨bq, hbq⟩ : ∃ bq, (y.tier.toList == x.name.toList) = bq := ⟨_, rfl⟩
   have hbq' : St.eq y.tier x.name = bq := hbq
   rw [hbq'] at hstep
   rw [hstep] at hz
   have hbnd : 0 ≤ ud ∧ ud ≤ 4000000000000 := by omega
   have HB3 := Lib.hid hB3
   clear hy hB hX3 hz3 hB3 hW3 hf hfb hsz hstep hub hl1 hbq'
   rw [ha] at m4 HFF ⊢
   cases bq
   ·rw [if_neg (by decide)] at hz
    have HZN : Hid (z = tot + ud) := Lib.hid (by omega)
    have hzb : -5000000000000 ≤ z ∧ z ≤ 5000000000000 := by omega
    clear hz
    go_upto_region 5 with fail
    rw [HW3.out]
    go_wp2_with fail
    rw [← ha]
    go_roundg (n - (j + 1))
    case rel => exact ⟨j + 1, z, by omega, rfl, by go_num, rfl, by rw [HUD.out]; exact HZN.out, HAL.out⟩
    case measure => omega
   ·rw [if_pos rfl] at hz
    have HZN : Hid (z - f.size = tot + ud) := Lib.hid (by omega)
    have hzb : -5000000000000 ≤ z ∧ z ≤ 5001000000000 := by omega
    clear hz
    go_upto_region 5 with fail
    rw [HW3.out]
    go_wp2_with (go_at_call 63; (with_reducible refine HFF.out.mono ?_); rintro e w4 ⟨rfl, hB4⟩)
    rw [← ha]
    go_roundg (n - (j + 1))
    case rel => exact ⟨j + 1, z - f.size, by omega, rfl, by go_num, rfl, by rw [HUD.out]; exact HZN.out, below_allocs (below_up HAL.out hB4) _⟩
    case measure => omega
  ·obtain rfl : j = n := by omega
   have hz2 : z = tot := by
    rw [hz, List.drop_eq_nil_of_le (by rw [HN.out]; exact Nat.le_refl _)]; simp [St.used]
   have HZ2 := Lib.hid hz2
   clear hz hz2
   go_wp2_with fail
   go_ret
   exact ⟨ret_int HZ2.out, below_up HB1.out hB⟩
theorem stErr_sizes (s : Sto) (a : StA) (w : World) (hI : StIn w s a) (hne : St.sizesE s ≠ 0) :
  Calls Tryz.prog 20 #[.agg #[.int .i64 s.least, .int .i64 s.wait, .slice a.ta s.tiers.length a.tc, .slice a.fa s.files.length a.fc, .slice a.ca s.copies.length a.cc, .slice a.ha s.held.length a.hc, .slice a.ba s.bin.length a.bc]] w fun e w' => e = .returned (.int .i64 (St.sizesE s)) ∧ Below w.heap.size w w' := by
 obtain ⟨W1, hW1, hP, hz1, hB1⟩ := box w #[.int .i64 s.least, .int .i64 s.wait, .slice a.ta s.tiers.length a.tc, .slice a.fa s.files.length a.fc, .slice a.ca s.copies.length a.cc, .slice a.ha s.held.length a.hc, .slice a.ba s.bin.length a.bc] 28
 have HW1 := Lib.hid hW1
 have HI1 := Lib.hid (hI.keep hB1)
 have q0 : W1.cell? ⟨w.heap.size, 0, none⟩ = some (.int .i64 s.least) := (hP.cell 0).trans rfl
 have q1 : W1.cell? ⟨w.heap.size, 1, none⟩ = some (.int .i64 s.wait) := (hP.cell 1).trans rfl
 have q2 : W1.cell? ⟨w.heap.size, 2, none⟩ = some (.slice a.ta s.tiers.length a.tc) := (hP.cell 2).trans rfl
 have q3 : W1.cell? ⟨w.heap.size, 3, none⟩ = some (.slice a.fa s.files.length a.fc) := (hP.cell 3).trans rfl
 have q4 : W1.cell? ⟨w.heap.size, 4, none⟩ = some (.slice a.ca s.copies.length a.cc) := (hP.cell 4).trans rfl
 have q5 : W1.cell? ⟨w.heap.size, 5, none⟩ = some (.slice a.ha s.held.length a.hc) := (hP.cell 5).trans rfl
 have q6 : W1.cell? ⟨w.heap.size, 6, none⟩ = some (.slice a.ba s.bin.length a.bc) := (hP.cell 6).trans rfl
 have HP := Lib.hid hP; have HB1 := Lib.hid hB1
 clear hW1 hP
 obtain ⟨q, hq⟩ : ∃ q, St.sizesE s = q := ⟨_, rfl⟩
 rw [hq] at hne ⊢
 unfold St.sizesE at hq
 have HO1 := Lib.hid (fun W => inS_is s.least 1 8 W)
 have HO2 := Lib.hid (fun W => inS_is s.wait 0 1000 W)
 have h1 := hI.tl; have h2 := hI.fl; have h3 := hI.cl; have h4 := hI.hl; have h5 := hI.bl
 clear hI
 generalize s.tiers.length = n1 at *
 generalize s.files.length = n2 at *
 generalize s.copies.length = n3 at *
 generalize s.held.length = n4 at *
 generalize s.bin.length = n5 at *
 generalize St.inB s.least 1 8 = b1 at *
 generalize St.inB s.wait 0 1000 = b2 at *
 cases b1
 ·have HQ : Hid ((2 : Int) = q) := Lib.hid (by rw [← hq, if_neg (by simp)])
  clear hq
  go_enter Tryz.func20, Tryz.ntmps20
  go_wp2_with fail
  rw [HW1.out]
  go_wp2_with (go_at_call 57; first | ((with_reducible refine (HO1.out _).mono ?_); rintro e w2 ⟨rfl, rfl⟩) | ((with_reducible refine (HO2.out _).mono ?_); rintro e w2 ⟨rfl, rfl⟩))
  go_ret
  exact ⟨ret_int HQ.out, HB1.out⟩
 ·cases b2
  ·have HQ : Hid ((2 : Int) = q) := Lib.hid (by rw [← hq, if_neg (by simp)])
   clear hq
   go_enter Tryz.func20, Tryz.ntmps20
   go_wp2_with fail
   rw [HW1.out]
   go_wp2_with (go_at_call 57; first | ((with_reducible refine (HO1.out _).mono ?_); rintro e w2 ⟨rfl, rfl⟩) | ((with_reducible refine (HO2.out _).mono ?_); rintro e w2 ⟨rfl, rfl⟩))
   go_ret
   exact ⟨ret_int HQ.out, HB1.out⟩
  ·rw [if_pos ⟨rfl, rfl⟩] at hq
   by_cases g1 : 8 < n1
   ·have HQ : Hid ((4 : Int) = q) := Lib.hid (by rw [← hq, if_pos (.inl g1)])
    have g1' : (8 : Int) < (n1 : Int) := by omega
    clear hq
    go_enter Tryz.func20, Tryz.ntmps20
    go_wp2_with fail
    rw [HW1.out]
    go_wp2_with (go_at_call 57; first | ((with_reducible refine (HO1.out _).mono ?_); rintro e w2 ⟨rfl, rfl⟩) | ((with_reducible refine (HO2.out _).mono ?_); rintro e w2 ⟨rfl, rfl⟩))
    go_ret
    exact ⟨ret_int HQ.out, HB1.out⟩
   have g1' : ¬ ((8 : Int) < (n1 : Int)) := by omega
   by_cases g2 : 500 < n2
   ·have HQ : Hid ((4 : Int) = q) := Lib.hid (by rw [← hq, if_pos (.inr (.inl g2))])
    have g2' : (500 : Int) < (n2 : Int) := by omega
    clear hq
    go_enter Tryz.func20, Tryz.ntmps20
    go_wp2_with fail
    rw [HW1.out]
    go_wp2_with (go_at_call 57; first | ((with_reducible refine (HO1.out _).mono ?_); rintro e w2 ⟨rfl, rfl⟩) | ((with_reducible refine (HO2.out _).mono ?_); rintro e w2 ⟨rfl, rfl⟩))
    go_ret
    exact ⟨ret_int HQ.out, HB1.out⟩
   have g2' : ¬ ((500 : Int) < (n2 : Int)) := by omega
   by_cases g3 : 4000 < n3
   ·have HQ : Hid ((4 : Int) = q) := Lib.hid (by rw [← hq, if_pos (.inr (.inr (.inl g3)))])
    have g3' : (4000 : Int) < (n3 : Int) := by omega
    clear hq
    go_enter Tryz.func20, Tryz.ntmps20
    go_wp2_with fail
    rw [HW1.out]
    go_wp2_with (go_at_call 57; first | ((with_reducible refine (HO1.out _).mono ?_); rintro e w2 ⟨rfl, rfl⟩) | ((with_reducible refine (HO2.out _).mono ?_); rintro e w2 ⟨rfl, rfl⟩))
    go_ret
    exact ⟨ret_int HQ.out, HB1.out⟩
   have g3' : ¬ ((4000 : Int) < (n3 : Int)) := by omega
   by_cases g4 : 500 < n4
   ·have HQ : Hid ((4 : Int) = q) := Lib.hid (by rw [← hq, if_pos (.inr (.inr (.inr (.inl g4))))])
    have g4' : (500 : Int) < (n4 : Int) := by omega
    clear hq
    go_enter Tryz.func20, Tryz.ntmps20
    go_wp2_with fail
    rw [HW1.out]
    go_wp2_with (go_at_call 57; first | ((with_reducible refine (HO1.out _).mono ?_); rintro e w2 ⟨rfl, rfl⟩) | ((with_reducible refine (HO2.out _).mono ?_); rintro e w2 ⟨rfl, rfl⟩))
    go_ret
    exact ⟨ret_int HQ.out, HB1.out⟩
   have g4' : ¬ ((500 : Int) < (n4 : Int)) := by omega
   by_cases g5 : 500 < n5
   ·have HQ : Hid ((4 : Int) = q) := Lib.hid (by rw [← hq, if_pos (.inr (.inr (.inr (.inr g5))))])
    have g5' : (500 : Int) < (n5 : Int) := by omega
    clear hq
    go_enter Tryz.func20, Tryz.ntmps20
    go_wp2_with fail
    rw [HW1.out]
    go_wp2_with (go_at_call 57; first | ((with_reducible refine (HO1.out _).mono ?_); rintro e w2 ⟨rfl, rfl⟩) | ((with_reducible refine (HO2.out _).mono ?_); rintro e w2 ⟨rfl, rfl⟩))
    go_ret
    exact ⟨ret_int HQ.out, HB1.out⟩
   exact absurd (by rw [← hq, if_neg (by omega)]) hne
namespace St
theorem tier_self {L : List Tir} (h : scan tierE [] L = 0) {j : Nat} {t : Tir} (ht : L[j]? = some t) : tierAt L t.name = (j : Int) := by
 have h1 := scan_iff.1 h j t ht
 have h2 : ¬ tierAt L t.name < (j : Int) := fun g => by
  have h3 := (tier_first ht).1 g
  unfold tierE at h1
  rw [if_pos h3] at h1
  split at h1 <;> cases h1
 have h4 : 0 ≤ idx (fun x : Tir => eq x.name t.name) L 0 := by have : 0 ≤ tierAt L t.name := by omega
                                                               exact this
 obtain ⟨k, x, e1, e2, e3, e4⟩ := idx_some rfl h4
 rcases Nat.lt_or_ge j k with g | g
 ·have := e4 j t g ht
  rw [eq_refl] at this; cases this
 ·have e5 : tierAt L t.name = ((0 + k : Nat) : Int) := e1
  omega
end St
theorem stErr_good (s : Sto) (a : StA) (w : World) (hI : StIn w s a) (hsz : St.sizesE s = 0) :
  Calls Tryz.prog 20 #[.agg #[.int .i64 s.least, .int .i64 s.wait, .slice a.ta s.tiers.length a.tc, .slice a.fa s.files.length a.fc, .slice a.ca s.copies.length a.cc, .slice a.ha s.held.length a.hc, .slice a.ba s.bin.length a.bc]] w fun e w' => e = .returned (.int .i64 (St.err s)) ∧ Below w.heap.size w w' := by
 obtain ⟨W1, hW1, hP, hz1, hB1⟩ := box w #[.int .i64 s.least, .int .i64 s.wait, .slice a.ta s.tiers.length a.tc, .slice a.fa s.files.length a.fc, .slice a.ca s.copies.length a.cc, .slice a.ha s.held.length a.hc, .slice a.ba s.bin.length a.bc] 28
 have HW1 := Lib.hid hW1
 have HI1 := Lib.hid (hI.keep hB1)
 have q0 : W1.cell? ⟨w.heap.size, 0, none⟩ = some (.int .i64 s.least) := (hP.cell 0).trans rfl
 have q1 : W1.cell? ⟨w.heap.size, 1, none⟩ = some (.int .i64 s.wait) := (hP.cell 1).trans rfl
 have q2 : W1.cell? ⟨w.heap.size, 2, none⟩ = some (.slice a.ta s.tiers.length a.tc) := (hP.cell 2).trans rfl
 have q3 : W1.cell? ⟨w.heap.size, 3, none⟩ = some (.slice a.fa s.files.length a.fc) := (hP.cell 3).trans rfl
 have q4 : W1.cell? ⟨w.heap.size, 4, none⟩ = some (.slice a.ca s.copies.length a.cc) := (hP.cell 4).trans rfl
 have q5 : W1.cell? ⟨w.heap.size, 5, none⟩ = some (.slice a.ha s.held.length a.hc) := (hP.cell 5).trans rfl
 have q6 : W1.cell? ⟨w.heap.size, 6, none⟩ = some (.slice a.ba s.bin.length a.bc) := (hP.cell 6).trans rfl
 have HP := Lib.hid hP; have HB1 := Lib.hid hB1
 clear hW1 hP
 obtain ⟨⟨z1, z2⟩, y1, y2, y3, y4, y5⟩ := St.sizes_iff.1 hsz
 have htl := hI.tl; have hfl := hI.fl; have hcl := hI.cl; have hhl := hI.hl; have hbl := hI.bl
 have HTZ := Lib.hid hI.tz; have HFZ := Lib.hid hI.fz; have HCZ := Lib.hid hI.cz
 obtain ⟨qa, hqa⟩ : ∃ q, St.scan St.tierE [] s.tiers = q := ⟨_, rfl⟩
 obtain ⟨qb, hqb⟩ : ∃ q, St.filesE s.files = q := ⟨_, rfl⟩
 obtain ⟨qc, hqc⟩ : ∃ q, St.copiesE s = q := ⟨_, rfl⟩
 obtain ⟨qd, hqd⟩ : ∃ q, St.keptE s = q := ⟨_, rfl⟩
 have HF : Hid (St.err s = if qa = 0 then (if qb = 0 then (if qc = 0 then qd else qc) else qb) else qa) := Lib.hid (by unfold St.err; rw [if_pos hsz, hqa, hqb, hqc, hqd])
 have HQ1 : Hid (St.scan St.tierE (s.tiers.take 0) (s.tiers.drop 0) = qa) := Lib.hid hqa
 have HQB := Lib.hid hqb; have HQC := Lib.hid hqc; have HQD := Lib.hid hqd; have HQA := Lib.hid hqa
 have HTO := Lib.hid (fun W (hb : Below W1.heap.size W1 W) (name : ByteArray) => tierOf_is s a name W (HI1.out.keep hb))
 have HFO := Lib.hid (fun W (hb : Below W1.heap.size W1 W) (d : ByteArray) => fileOf_is s a d W (HI1.out.keep hb))
 have HOR := Lib.hid (fun W (hb : Below W1.heap.size W1 W) (d : ByteArray) => original_is s a d W (HI1.out.keep hb))
 have HKE := Lib.hid (fun W (hb : Below W1.heap.size W1 W) => keptError_is s a W (HI1.out.keep hb))
 have HFI := Lib.hid (fun W (hb : Below W1.heap.size W1 W) x k hk hka hz hr => freeIn_is s a x k hk hka W (HI1.out.keep hb) hz y3 hr)
 have HS1 := Lib.hid (fun W => inS_is s.least 1 8 W)
 have HS2 := Lib.hid (fun W => inS_is s.wait 0 1000 W)
 rw [z1] at HS1; rw [z2] at HS2; rw [hqd] at HKE
 have HCL : Hid (∀ W, Below W1.heap.size W1 W → W.cell? ⟨w.heap.size, 0, none⟩ = some (.int .i64 s.least) ∧ W.cell? ⟨w.heap.size, 1, none⟩ = some (.int .i64 s.wait) ∧ W.cell? ⟨w.heap.size, 2, none⟩ = some (.slice a.ta s.tiers.length a.tc) ∧ W.cell? ⟨w.heap.size, 3, none⟩ = some (.slice a.fa s.files.length a.fc) ∧ W.cell? ⟨w.heap.size, 4, none⟩ = some (.slice a.ca s.copies.length a.cc) ∧ W.cell? ⟨w.heap.size, 5, none⟩ = some (.slice a.ha s.held.length a.hc) ∧ W.cell? ⟨w.heap.size, 6, none⟩ = some (.slice a.ba s.bin.length a.bc)) := Lib.hid fun W hb =>
  have k := HP.out.keep hb
  ⟨(k.cell 0).trans rfl, (k.cell 1).trans rfl, (k.cell 2).trans rfl, (k.cell 3).trans rfl, (k.cell 4).trans rfl, (k.cell 5).trans rfl, (k.cell 6).trans rfl⟩
 clear hI hqa hqb hqc hqd hsz z1 z2
 obtain ⟨nt, hnt⟩ : ∃ nt, s.tiers.length = nt := ⟨_, rfl⟩
 obtain ⟨nf, hnf⟩ : ∃ nf, s.files.length = nf := ⟨_, rfl⟩
 obtain ⟨nc, hnc⟩ : ∃ nc, s.copies.length = nc := ⟨_, rfl⟩
 obtain ⟨nh, hnh⟩ : ∃ nh, s.held.length = nh := ⟨_, rfl⟩
 obtain ⟨nb, hnb⟩ : ∃ nb, s.bin.length = nb := ⟨_, rfl⟩
 have HNT := Lib.hid hnt; have HNF := Lib.hid hnf; have HNC := Lib.hid hnc
 rw [hnt] at q2 htl y1 HW1 HTO HFO HOR HKE HFI HCL ⊢
 rw [hnf] at q3 hfl y2 HW1 HTO HFO HOR HKE HFI HCL ⊢
 rw [hnc] at q4 hcl y3 HW1 HTO HFO HOR HKE HFI HCL ⊢
 rw [hnh] at q5 hhl y4 HW1 HTO HFO HOR HKE HFI HCL ⊢
 rw [hnb] at q6 hbl y5 HW1 HTO HFO HOR HKE HFI HCL ⊢
 clear hnt hnf hnc hnh hnb
 have g1' : ¬ ((8 : Int) < (nt : Int)) := by omega
 have g2' : ¬ ((500 : Int) < (nf : Int)) := by omega
 have g3' : ¬ ((4000 : Int) < (nc : Int)) := by omega
 have g4' : ¬ ((500 : Int) < (nh : Int)) := by omega
 have g5' : ¬ ((500 : Int) < (nb : Int)) := by omega
 go_enter Tryz.func20, Tryz.ntmps20
 go_wp2_with fail
 rw [HW1.out]
 go_wp2_with (go_at_call 57; first | ((with_reducible refine (HS1.out _).mono ?_); rintro e w2 ⟨rfl, rfl⟩) | ((with_reducible refine (HS2.out _).mono ?_); rintro e w2 ⟨rfl, rfl⟩))
 clear q0 q1 q2 q3 q4 q5 q6
 go_loopg [57] nt (fun gk i wr => ∃ j : Nat, j ≤ nt ∧ gk = nt - j ∧ i = .int .i64 j ∧ St.scan St.tierE (s.tiers.take j) (s.tiers.drop j) = qa ∧ Below W1.heap.size W1 wr)
 case atStart => exact ⟨0, by omega, rfl, rfl, HQ1.out, Below.refl _ _⟩
 case round =>
  obtain ⟨j, hj, rfl, rfl, hs, hBW⟩ := hrel
  have hB := below_up HB1.out hBW
  have HS := Lib.hid hs; clear hs
  by_cases hlt : j < nt
  ·obtain ⟨x, hx⟩ : ∃ x, s.tiers[j]? = some x := ⟨_, List.getElem?_eq_getElem (by rw [HNT.out]; exact hlt)⟩
   obtain ⟨b, off, ha, hb, hcell⟩ := ((HI1.out.keep hBW).ti) (by rw [HNT.out]; omega)
   have c0 : wr.cell? ⟨b, off + j * 4, none⟩ = some (.string x.name) := hcell j x hx 0 (.string x.name) rfl
   have c1 : wr.cell? ⟨b, off + j * 4 + 1, none⟩ = some (.int .i64 x.room) := hcell j x hx 1 (.int .i64 x.room) rfl
   have c2 : wr.cell? ⟨b, off + j * 4 + 2, none⟩ = some (.int .i64 x.cost) := hcell j x hx 2 (.int .i64 x.cost) rfl
   have c3 : wr.cell? ⟨b, off + j * 4 + 3, none⟩ = some (.bool x.away) := hcell j x hx 3 (.bool x.away) rfl
   clear hcell
   have HX := Lib.hid hx
   obtain ⟨W3, hW3, hX3, hz3, hB3⟩ := box wr #[.string x.name, .int .i64 x.room, .int .i64 x.cost, .bool x.away] 65
   have HW3 := Lib.hid hW3
   have HAL := Lib.hid (below_up hB hB3)
   have HAW := Lib.hid (below_up hBW hB3)
   have HD : Hid (∀ W, Below W3.heap.size W3 W → W.cell? ⟨wr.heap.size, 0, none⟩ = some (.string x.name) ∧ W.cell? ⟨wr.heap.size, 1, none⟩ = some (.int .i64 x.room) ∧ W.cell? ⟨wr.heap.size, 2, none⟩ = some (.int .i64 x.cost) ∧ W.cell? ⟨wr.heap.size, 3, none⟩ = some (.bool x.away)) := Lib.hid fun W hb =>
    have k := hX3.keep hb
    ⟨(k.cell 0).trans rfl, (k.cell 1).trans rfl, (k.cell 2).trans rfl, (k.cell 3).trans rfl⟩
   obtain ⟨d0, d1, d2, d3⟩ := HD.out _ (Below.refl _ _)
   obtain ⟨m0, m1, m2, m3, m4, m5, m6⟩ := HCL.out _ HAW.out
   have HNM := Lib.hid (fun W => isNameR_is x.name (HTZ.out x (List.mem_of_getElem? hx)) _ rfl W)
   have HTA := Lib.hid (HTO.out _ HAW.out x.name)
   have HO1 := Lib.hid (fun W => inS_is x.room 0 1000000000000 W)
   have HO2 := Lib.hid (fun W => inS_is x.cost 0 1000000 W)
   have hfst := St.tier_first hx
   have HDF : Hid (St.tierE (s.tiers.take j) x = if Fd.nameB x.name = true then (if St.hasTier (s.tiers.take j) x.name = true then 6 else if St.inB x.room 0 1000000000000 = true ∧ St.inB x.cost 0 1000000 = true then 0 else 2) else 3) := Lib.hid rfl
   have hj0 : (0 : Int) ≤ (j : Int) := by omega
   have hj1 : (j : Int) < (nt : Int) := by omega
   generalize Fd.nameB x.name = bn at *
   generalize St.hasTier (s.tiers.take j) x.name = bt at *
   generalize St.inB x.room 0 1000000000000 = b1 at *
   generalize St.inB x.cost 0 1000000 = b2 at *
   generalize St.tierAt s.tiers x.name = ti at *
   clear hx hB hBW hX3 hz3 hB3 hW3
   rw [ha] at HTA HCL m2 ⊢
   cases bn
   ·have HBD : Hid (St.tierE (s.tiers.take j) x = 3) := Lib.hid (by rw [HDF.out]; rfl)
    have HE := Lib.hid (St.scan_here HS.out HX.out (by rw [HBD.out]; decide))
    rw [HBD.out] at HE
    go_wp2_with fail
    rw [HW3.out]
    go_wp2_with (first | (go_at_call 58; (with_reducible refine (HNM.out _).mono ?_); rintro e w4 ⟨rfl, rfl⟩) | (go_at_call 59; (with_reducible refine HTA.out.mono ?_); rintro e w4 ⟨rfl, hB4⟩; have HB4 := Lib.hid hB4; obtain ⟨d0, d1, d2, d3⟩ := HD.out _ hB4) | (go_at_call 57; first | ((with_reducible refine (HO1.out _).mono ?_); rintro e w2 ⟨rfl, rfl⟩) | ((with_reducible refine (HO2.out _).mono ?_); rintro e w2 ⟨rfl, rfl⟩)))
    go_ret
    exact ⟨ret_int (by rw [HF.out, if_neg (by rw [HE.out]; decide), HE.out]), HAL.out⟩
   cases bt
   ·have hge : ¬ (ti < (j : Int)) := fun g => by have := hfst.1 g; cases this
    cases b1
    ·have HBD : Hid (St.tierE (s.tiers.take j) x = 2) := Lib.hid (by rw [HDF.out]; rfl)
     have HE := Lib.hid (St.scan_here HS.out HX.out (by rw [HBD.out]; decide))
     rw [HBD.out] at HE
     clear hfst
     go_wp2_with fail
     rw [HW3.out]
     go_wp2_with (first | (go_at_call 58; (with_reducible refine (HNM.out _).mono ?_); rintro e w4 ⟨rfl, rfl⟩) | (go_at_call 59; (with_reducible refine HTA.out.mono ?_); rintro e w4 ⟨rfl, hB4⟩; have HB4 := Lib.hid hB4; obtain ⟨d0, d1, d2, d3⟩ := HD.out _ hB4) | (go_at_call 57; first | ((with_reducible refine (HO1.out _).mono ?_); rintro e w2 ⟨rfl, rfl⟩) | ((with_reducible refine (HO2.out _).mono ?_); rintro e w2 ⟨rfl, rfl⟩)))
     go_ret
     exact ⟨ret_int (by rw [HF.out, if_neg (by rw [HE.out]; decide), HE.out]), below_up HAL.out HB4.out⟩
    cases b2
    ·have HBD : Hid (St.tierE (s.tiers.take j) x = 2) := Lib.hid (by rw [HDF.out]; rfl)
     have HE := Lib.hid (St.scan_here HS.out HX.out (by rw [HBD.out]; decide))
     rw [HBD.out] at HE
     clear hfst
     go_wp2_with fail
     rw [HW3.out]
     go_wp2_with (first | (go_at_call 58; (with_reducible refine (HNM.out _).mono ?_); rintro e w4 ⟨rfl, rfl⟩) | (go_at_call 59; (with_reducible refine HTA.out.mono ?_); rintro e w4 ⟨rfl, hB4⟩; have HB4 := Lib.hid hB4; obtain ⟨d0, d1, d2, d3⟩ := HD.out _ hB4) | (go_at_call 57; first | ((with_reducible refine (HO1.out _).mono ?_); rintro e w2 ⟨rfl, rfl⟩) | ((with_reducible refine (HO2.out _).mono ?_); rintro e w2 ⟨rfl, rfl⟩)))
     go_ret
     exact ⟨ret_int (by rw [HF.out, if_neg (by rw [HE.out]; decide), HE.out]), below_up HAL.out HB4.out⟩
    ·have HBD : Hid (St.tierE (s.tiers.take j) x = 0) := Lib.hid (by rw [HDF.out]; rfl)
     have HE := Lib.hid (St.scan_next HS.out HX.out HBD.out)
     clear hfst
     go_wp2_with fail
     rw [HW3.out]
     go_wp2_with (first | (go_at_call 58; (with_reducible refine (HNM.out _).mono ?_); rintro e w4 ⟨rfl, rfl⟩) | (go_at_call 59; (with_reducible refine HTA.out.mono ?_); rintro e w4 ⟨rfl, hB4⟩; have HB4 := Lib.hid hB4; obtain ⟨d0, d1, d2, d3⟩ := HD.out _ hB4) | (go_at_call 57; first | ((with_reducible refine (HO1.out _).mono ?_); rintro e w2 ⟨rfl, rfl⟩) | ((with_reducible refine (HO2.out _).mono ?_); rintro e w2 ⟨rfl, rfl⟩)))
     rw [← ha]
     go_roundg (nt - (j + 1))
     case rel => exact ⟨j + 1, by omega, rfl, by go_num, HE.out, below_up HAW.out HB4.out⟩
     case measure => omega
   ·have hge : ti < (j : Int) := hfst.2 rfl
    have HBD : Hid (St.tierE (s.tiers.take j) x = 6) := Lib.hid (by rw [HDF.out]; rfl)
    have HE := Lib.hid (St.scan_here HS.out HX.out (by rw [HBD.out]; decide))
    rw [HBD.out] at HE
    clear hfst
    go_wp2_with fail
    rw [HW3.out]
    go_wp2_with (first | (go_at_call 58; (with_reducible refine (HNM.out _).mono ?_); rintro e w4 ⟨rfl, rfl⟩) | (go_at_call 59; (with_reducible refine HTA.out.mono ?_); rintro e w4 ⟨rfl, hB4⟩; have HB4 := Lib.hid hB4; obtain ⟨d0, d1, d2, d3⟩ := HD.out _ hB4) | (go_at_call 57; first | ((with_reducible refine (HO1.out _).mono ?_); rintro e w2 ⟨rfl, rfl⟩) | ((with_reducible refine (HO2.out _).mono ?_); rintro e w2 ⟨rfl, rfl⟩)))
    go_ret
    exact ⟨ret_int (by rw [HF.out, if_neg (by rw [HE.out]; decide), HE.out]), below_up HAL.out HB4.out⟩
  ·obtain rfl : j = nt := by omega
   have HE := HS.out
   rw [← HNT.out] at HE
   have hq0 := St.scan_done HE
   have HF1 : Hid (St.err s = (if qb = 0 then (if qc = 0 then qd else qc) else qb)) := Lib.hid (by rw [HF.out, if_pos hq0])
   have HQA0 := Lib.hid hq0
   obtain ⟨q2a, h2a⟩ : ∃ q, St.scan St.fileE [] s.files = q := ⟨_, rfl⟩
   obtain ⟨q2b, h2b⟩ : ∃ q, St.scan (St.fromE s.files) [] s.files = q := ⟨_, rfl⟩
   have hqb2 : qb = if q2a = 0 then q2b else q2a := by rw [← HQB.out]; unfold St.filesE; rw [h2a, h2b]
   have HF2 : Hid (St.err s = (if (if q2a = 0 then q2b else q2a) = 0 then (if qc = 0 then qd else qc) else (if q2a = 0 then q2b else q2a))) := Lib.hid (by rw [HF1.out, hqb2])
   have HQ2 : Hid (St.scan St.fileE (s.files.take 0) (s.files.drop 0) = q2a) := Lib.hid h2a
   have H2A := Lib.hid h2a; have H2B := Lib.hid h2b
   obtain ⟨m0, m1, m2, m3, m4, m5, m6⟩ := HCL.out _ hBW
   have HBK := Lib.hid hBW
   clear HE hq0 hqb2 h2a h2b hBW hB
   go_wp2_with fail
   clear m0 m1 m2 m3 m4 m5 m6
   go_loopg [89] nf (fun gk i wq => ∃ k : Nat, k ≤ nf ∧ gk = nf - k ∧ i = .int .i64 k ∧ St.scan St.fileE (s.files.take k) (s.files.drop k) = q2a ∧ Below W1.heap.size W1 wq)
   case atStart => exact ⟨0, by omega, rfl, rfl, HQ2.out, HBK.out⟩
   case round =>
    obtain ⟨k, hk, rfl, rfl, hs, hBW⟩ := hrel
    have HSB := Lib.hid hs; clear hs
    have hB := below_up HB1.out hBW
    by_cases hlt2 : k < nf
    ·obtain ⟨x, hx⟩ : ∃ x, s.files[k]? = some x := ⟨_, List.getElem?_eq_getElem (by rw [HNF.out]; exact hlt2)⟩
     obtain ⟨b, off, ha, hb, hcell⟩ := ((HI1.out.keep hBW).fi) (by rw [HNF.out]; omega)
     have c0 : wr.cell? ⟨b, off + k * 4, none⟩ = some (.string x.dig) := hcell k x hx 0 (.string x.dig) rfl
     have c1 : wr.cell? ⟨b, off + k * 4 + 1, none⟩ = some (.int .i64 x.size) := hcell k x hx 1 (.int .i64 x.size) rfl
     have c2 : wr.cell? ⟨b, off + k * 4 + 2, none⟩ = some (.int .i64 x.kind) := hcell k x hx 2 (.int .i64 x.kind) rfl
     have c3 : wr.cell? ⟨b, off + k * 4 + 3, none⟩ = some (.string x.frm) := hcell k x hx 3 (.string x.frm) rfl
     clear hcell
     have HX := Lib.hid hx
     obtain ⟨W3, hW3, hX3, hz3, hB3⟩ := box wr #[.string x.dig, .int .i64 x.size, .int .i64 x.kind, .string x.frm] 68
     have HW3 := Lib.hid hW3
     have HAL3 := Lib.hid (below_up hB hB3)
     have HAW3 := Lib.hid (below_up hBW hB3)
     have HD : Hid (∀ W, Below W3.heap.size W3 W → W.cell? ⟨wr.heap.size, 0, none⟩ = some (.string x.dig) ∧ W.cell? ⟨wr.heap.size, 1, none⟩ = some (.int .i64 x.size) ∧ W.cell? ⟨wr.heap.size, 2, none⟩ = some (.int .i64 x.kind) ∧ W.cell? ⟨wr.heap.size, 3, none⟩ = some (.string x.frm)) := Lib.hid fun W hb =>
      have k := hX3.keep hb
      ⟨(k.cell 0).trans rfl, (k.cell 1).trans rfl, (k.cell 2).trans rfl, (k.cell 3).trans rfl⟩
     obtain ⟨d0, d1, d2, d3⟩ := HD.out _ (Below.refl _ _)
     obtain ⟨m0, m1, m2, m3, m4, m5, m6⟩ := HCL.out _ HAW3.out
     have HPV : Hid (∀ W, Below W1.heap.size W1 W → ∀ (i : Nat) (y : Fil), s.files[i]? = some y → W.cell? ⟨b, off + i * 4, none⟩ = some (.string y.dig)) := Lib.hid fun W hb i y hy => by
      obtain ⟨b2, off2, ha2, hb2, hc2⟩ := (HI1.out.keep hb).fi (by rw [HNF.out]; omega)
      rw [ha] at ha2; cases ha2
      exact hc2 i y hy 0 _ rfl
     obtain ⟨fb, hfb⟩ : ∃ fb, Fd.fileB x.dig = fb := ⟨_, rfl⟩
     have HDG := Lib.hid (isDigest_is x.dig (HFZ.out x (List.mem_of_getElem? hx)).1 _ hfb W3)
     have HFB := Lib.hid hfb
     have hj0 : (0 : Int) ≤ (k : Int) := by omega
     have hj1 : (k : Int) < (nf : Int) := by omega
     clear hx hX3 hz3 hB3 hW3 hBW hB hfb
     rw [ha] at m3 HCL ⊢
     cases fb
     ·have HBD : Hid (St.fileE (s.files.take k) x = 1) := Lib.hid (by unfold St.fileE; rw [HFB.out]; rfl)
      have HE := Lib.hid (St.scan_here HSB.out HX.out (by rw [HBD.out]; decide))
      go_upto_region 18 with fail
      rw [HW3.out]
      go_wp2_with (go_at_call 60; (with_reducible refine HDG.out.mono ?_); rintro e w6 ⟨rfl, rfl⟩)
      go_ret
      exact ⟨ret_int (by rw [HF2.out, HE.out, HBD.out]; rfl), HAL3.out⟩
     ·have HDH : Hid (St.fileE (s.files.take k) x = (match (s.files.take k).getLast? with | some p => (if St.le x.dig p.dig = true then 5 else St.fileR x) | none => St.fileR x)) := Lib.hid (by unfold St.fileE; rw [if_pos HFB.out]; rfl)
      go_upto_region 18 with fail
      rw [HW3.out]
      go_upto_region 20 with (go_at_call 60; (with_reducible refine HDG.out.mono ?_); rintro e w6 ⟨rfl, rfl⟩)
      have k0 := cell_regrown d0
      have k6 := cell_regrown m3
      clear c0 c1 c2 c3 m0 m1 m2 m3 m4 m5 m6 d0 d1 d2 d3
      rcases Nat.eq_zero_or_pos k with rfl | hjp
      ·have HDZ : Hid (St.fileE (s.files.take 0) x = St.fileR x) := Lib.hid (by rw [HDH.out, St.last_zero])
       refine wp_region_quiet_below (by kernel_rfl) (by kernel_rfl) ?_
       repeat (go_big_quiet_step ((fail)))
       refine wpQuiet_nil ?_
       intro _ hw'
       obtain ⟨⟨dq, osq⟩, hw''⟩ := hw'
       subst hw''
       have hBw7 := below_regrown W3 dq osq
       generalize grow (redrawn W3 dq) osq = w7 at *
       clear dq osq
       clear k0 k6
       obtain ⟨d0, d1, d2, d3⟩ := HD.out _ hBw7
       have HAW7 := Lib.hid (below_up HAW3.out hBw7)
       have HAL7 := Lib.hid (below_up HAL3.out hBw7)
       obtain ⟨er, her⟩ : ∃ er, St.fileR x = er := ⟨_, rfl⟩
       have HDE : Hid (St.fileE (s.files.take (0)) x = er) := Lib.hid (HDZ.out.trans her)
       have HFT := Lib.hid (fileFault_is x (HFZ.out x (List.mem_of_getElem? HX.out)).1 w7)
       have hft : St.faultE x = er := by unfold St.faultE; rw [if_pos HFB.out]; exact her
       rw [hft] at HFT
       clear her hft
       by_cases he : er = 0
       ·have hez : (er != 0) = false := by simpa using he
        have HE := Lib.hid (St.scan_next HSB.out HX.out (HDE.out.trans he))
        clear he
        go_wp2_with (go_at_call 61; (with_reducible refine HFT.out.mono ?_); rintro e w8 ⟨rfl, hB8⟩)
        rw [← ha]
        go_roundg (nf - (0 + 1))
        case rel => exact ⟨0 + 1, by omega, rfl, by go_num, HE.out, below_up HAW7.out hB8⟩
        case measure => omega
       ·have hez : (er != 0) = true := by simpa using he
        have HE := Lib.hid (St.scan_here HSB.out HX.out (by rw [HDE.out]; exact he))
        have HNZ := Lib.hid he
        clear he
        go_wp2_with (go_at_call 61; (with_reducible refine HFT.out.mono ?_); rintro e w8 ⟨rfl, hB8⟩)
        go_ret
        exact ⟨ret_int (by rw [HF2.out, HE.out, HDE.out, if_neg HNZ.out, if_neg HNZ.out]), below_up HAL7.out hB8⟩
      ·obtain ⟨p, hp, hlast⟩ := St.last_at (L := s.files) (by rw [HNF.out]; exact hlt2) hjp
       obtain ⟨i, rfl⟩ : ∃ i, k = i + 1 := ⟨k - 1, by omega⟩
       rw [Nat.add_sub_cancel] at hp
       have k5 := cell_regrown (HPV.out _ HAW3.out i p hp)
       obtain ⟨bl, hbq⟩ : ∃ bl, (Op.bytesLess x.dig.toList p.dig.toList || x.dig.toList == p.dig.toList) = bl := ⟨_, rfl⟩
       have HBQ2 : Hid (St.le x.dig p.dig = bl) := Lib.hid hbq
       have HDP : Hid (St.fileE (s.files.take (i + 1)) x = if bl = true then 5 else St.fileR x) := Lib.hid (by rw [HDH.out, hlast, ← HBQ2.out])
       have HBC := Lib.hid hbq
       clear hp hlast hbq
       refine wp_region_quiet_below (by kernel_rfl) (by kernel_rfl) ?_
       repeat (go_big_quiet_step ((fail)))
       refine wpQuiet_nil ?_
       intro _ hw'
       obtain ⟨⟨dq, osq⟩, hw''⟩ := hw'
       subst hw''
       have hBw7 := below_regrown W3 dq osq
       generalize grow (redrawn W3 dq) osq = w7 at *
       clear dq osq
       clear k0 k5 k6
       cases bl
       ·have HDZ : Hid (St.fileE (s.files.take (i + 1)) x = St.fileR x) := Lib.hid (by rw [HDP.out]; rfl)
        simp only [HBC.out]
        obtain ⟨d0, d1, d2, d3⟩ := HD.out _ hBw7
        have HAW7 := Lib.hid (below_up HAW3.out hBw7)
        have HAL7 := Lib.hid (below_up HAL3.out hBw7)
        obtain ⟨er, her⟩ : ∃ er, St.fileR x = er := ⟨_, rfl⟩
        have HDE : Hid (St.fileE (s.files.take (i + 1)) x = er) := Lib.hid (HDZ.out.trans her)
        have HFT := Lib.hid (fileFault_is x (HFZ.out x (List.mem_of_getElem? HX.out)).1 w7)
        have hft : St.faultE x = er := by unfold St.faultE; rw [if_pos HFB.out]; exact her
        rw [hft] at HFT
        clear her hft
        by_cases he : er = 0
        ·have hez : (er != 0) = false := by simpa using he
         have HE := Lib.hid (St.scan_next HSB.out HX.out (HDE.out.trans he))
         clear he
         go_wp2_with (go_at_call 61; (with_reducible refine HFT.out.mono ?_); rintro e w8 ⟨rfl, hB8⟩)
         rw [← ha]
         go_roundg (nf - (i + 1 + 1))
         case rel => exact ⟨i + 1 + 1, by omega, rfl, by go_num, HE.out, below_up HAW7.out hB8⟩
         case measure => omega
        ·have hez : (er != 0) = true := by simpa using he
         have HE := Lib.hid (St.scan_here HSB.out HX.out (by rw [HDE.out]; exact he))
         have HNZ := Lib.hid he
         clear he
         go_wp2_with (go_at_call 61; (with_reducible refine HFT.out.mono ?_); rintro e w8 ⟨rfl, hB8⟩)
         go_ret
         exact ⟨ret_int (by rw [HF2.out, HE.out, HDE.out, if_neg HNZ.out, if_neg HNZ.out]), below_up HAL7.out hB8⟩
       ·have HBD : Hid (St.fileE (s.files.take (i + 1)) x = 5) := Lib.hid (by rw [HDP.out]; rfl)
        have HE := Lib.hid (St.scan_here HSB.out HX.out (by rw [HBD.out]; decide))
        simp only [HBC.out]
        go_wp2_with fail
        go_ret
        exact ⟨ret_int (by rw [HF2.out, HE.out, HBD.out]; rfl), below_up HAL3.out hBw7⟩
    ·obtain rfl : k = nf := by omega
     have HE := HSB.out
     rw [← HNF.out] at HE
     have hq0 := St.scan_done HE
     have HF3 : Hid (St.err s = (if q2b = 0 then (if qc = 0 then qd else qc) else q2b)) := Lib.hid (by rw [HF2.out, if_pos hq0])
     have HQ20 := Lib.hid hq0
     have HQ3 : Hid (St.scan (St.fromE s.files) (s.files.take 0) (s.files.drop 0) = q2b) := Lib.hid H2B.out
     obtain ⟨m0, m1, m2, m3, m4, m5, m6⟩ := HCL.out _ hBW
     have HBK2 := Lib.hid hBW
     clear HE hq0 hBW hB
     go_wp2_with fail
     clear m0 m1 m2 m3 m4 m5 m6
     go_loopg [121] k (fun gk i wq => ∃ l : Nat, l ≤ k ∧ gk = k - l ∧ i = .int .i64 l ∧ St.scan (St.fromE s.files) (s.files.take l) (s.files.drop l) = q2b ∧ Below W1.heap.size W1 wq)
     case atStart => exact ⟨0, by omega, rfl, rfl, HQ3.out, HBK2.out⟩
     case round =>
      obtain ⟨l, hl, rfl, rfl, hs, hBW⟩ := hrel
      have HSC := Lib.hid hs; clear hs
      have hB := below_up HB1.out hBW
      by_cases hlt3 : l < k
      ·obtain ⟨x, hx⟩ : ∃ x, s.files[l]? = some x := ⟨_, List.getElem?_eq_getElem (by rw [HNF.out]; exact hlt3)⟩
       obtain ⟨b, off, ha, hb, hcell⟩ := ((HI1.out.keep hBW).fi) (by rw [HNF.out]; omega)
       have c0 : wr.cell? ⟨b, off + l * 4, none⟩ = some (.string x.dig) := hcell l x hx 0 (.string x.dig) rfl
       have c1 : wr.cell? ⟨b, off + l * 4 + 1, none⟩ = some (.int .i64 x.size) := hcell l x hx 1 (.int .i64 x.size) rfl
       have c2 : wr.cell? ⟨b, off + l * 4 + 2, none⟩ = some (.int .i64 x.kind) := hcell l x hx 2 (.int .i64 x.kind) rfl
       have c3 : wr.cell? ⟨b, off + l * 4 + 3, none⟩ = some (.string x.frm) := hcell l x hx 3 (.string x.frm) rfl
       clear hcell
       have HX := Lib.hid hx
       obtain ⟨W3, hW3, hX3, hz3, hB3⟩ := box wr #[.string x.dig, .int .i64 x.size, .int .i64 x.kind, .string x.frm] 68
       have HW3 := Lib.hid hW3
       have HAL3 := Lib.hid (below_up hB hB3)
       have HAW3 := Lib.hid (below_up hBW hB3)
       have d0 : W3.cell? ⟨wr.heap.size, 0, none⟩ = some (.string x.dig) := (hX3.cell 0).trans rfl
       have d1 : W3.cell? ⟨wr.heap.size, 1, none⟩ = some (.int .i64 x.size) := (hX3.cell 1).trans rfl
       have d2 : W3.cell? ⟨wr.heap.size, 2, none⟩ = some (.int .i64 x.kind) := (hX3.cell 2).trans rfl
       have d3 : W3.cell? ⟨wr.heap.size, 3, none⟩ = some (.string x.frm) := (hX3.cell 3).trans rfl
       obtain ⟨m0, m1, m2, m3, m4, m5, m6⟩ := HCL.out _ HAW3.out
       obtain ⟨kd, hkd⟩ : ∃ kd, decide (St.kindOf s.files x.frm = 1) = kd := ⟨_, rfl⟩
       have HOX := Lib.hid (HOR.out _ HAW3.out x.frm)
       rw [hkd] at HOX
       have HDF : Hid (St.fromE s.files (s.files.take l) x = if x.kind ≠ 1 ∧ kd = false then 7 else 0) := Lib.hid (by
        unfold St.fromE; rw [← hkd]; simp only [decide_eq_false_iff_not, ne_eq])
       have hj0 : (0 : Int) ≤ (l : Int) := by omega
       have hj1 : (l : Int) < (k : Int) := by omega
       clear hx hX3 hz3 hB3 hW3 hBW hB hkd
       rw [ha] at m3 HOX HCL ⊢
       by_cases hk1 : x.kind = 1
       ·have hkb : (x.kind != 1) = false := by simpa using hk1
        have HE := Lib.hid (St.scan_next HSC.out HX.out (by rw [HDF.out, if_neg (fun g => g.1 hk1)]))
        clear hk1
        go_upto_region 29 with fail
        rw [HW3.out]
        go_wp2_with fail
        rw [← ha]
        go_roundg (k - (l + 1))
        case rel => exact ⟨l + 1, by omega, rfl, by go_num, HE.out, HAW3.out⟩
        case measure => omega
       ·have hkb : (x.kind != 1) = true := by simpa using hk1
        have HK1 := Lib.hid hk1
        clear hk1
        cases kd
        ·have HBD : Hid (St.fromE s.files (s.files.take l) x = 7) := Lib.hid (by rw [HDF.out, if_pos ⟨HK1.out, rfl⟩])
         have HE := Lib.hid (St.scan_here HSC.out HX.out (by rw [HBD.out]; decide))
         go_upto_region 29 with fail
         rw [HW3.out]
         go_wp2_with (go_at_call 62; (with_reducible refine HOX.out.mono ?_); rintro e w6 ⟨rfl, hB6⟩)
         go_ret
         exact ⟨ret_int (by rw [HF3.out, HE.out, HBD.out]; rfl), below_up HAL3.out hB6⟩
        ·have HE := Lib.hid (St.scan_next HSC.out HX.out (by rw [HDF.out, if_neg (by rintro ⟨_, g⟩; cases g)]))
         go_upto_region 29 with fail
         rw [HW3.out]
         go_wp2_with (go_at_call 62; (with_reducible refine HOX.out.mono ?_); rintro e w6 ⟨rfl, hB6⟩)
         rw [← ha]
         go_roundg (k - (l + 1))
         case rel => exact ⟨l + 1, by omega, rfl, by go_num, HE.out, below_up HAW3.out hB6⟩
         case measure => omega
      ·obtain rfl : l = k := by omega
       have HE := HSC.out
       rw [← HNF.out] at HE
       have hq0 := St.scan_done HE
       obtain ⟨q4a, h4a⟩ : ∃ q, St.scan (St.copyE s.tiers s.files) [] s.copies = q := ⟨_, rfl⟩
       obtain ⟨q4b, h4b⟩ : ∃ q, St.scan (St.fullE s.files s.copies) [] s.tiers = q := ⟨_, rfl⟩
       have hqc2 : qc = if q4a = 0 then q4b else q4a := by rw [← HQC.out]; unfold St.copiesE; rw [h4a, h4b]
       have HF5 : Hid (St.err s = (if (if q4a = 0 then q4b else q4a) = 0 then qd else (if q4a = 0 then q4b else q4a))) := Lib.hid (by rw [HF3.out, if_pos hq0, hqc2])
       have HQ4 : Hid (St.scan (St.copyE s.tiers s.files) (s.copies.take 0) (s.copies.drop 0) = q4a) := Lib.hid h4a
       have H4B := Lib.hid h4b
       obtain ⟨m0, m1, m2, m3, m4, m5, m6⟩ := HCL.out _ hBW
       have HBK3 := Lib.hid hBW
       clear HE hq0 hBW hB hqc2 h4a h4b
       go_wp2_with fail
       clear m0 m1 m2 m3 m4 m5 m6
       go_loopg [139] nc (fun gk i wq => ∃ u : Nat, u ≤ nc ∧ gk = nc - u ∧ i = .int .i64 u ∧ St.scan (St.copyE s.tiers s.files) (s.copies.take u) (s.copies.drop u) = q4a ∧ Below W1.heap.size W1 wq)
       case atStart => exact ⟨0, by omega, rfl, rfl, HQ4.out, HBK3.out⟩
       case round =>
        obtain ⟨u, hu, rfl, rfl, hs, hBW⟩ := hrel
        have HSD := Lib.hid hs; clear hs
        have hB := below_up HB1.out hBW
        by_cases hlt4 : u < nc
        ·obtain ⟨x, hx⟩ : ∃ x, s.copies[u]? = some x := ⟨_, List.getElem?_eq_getElem (by rw [HNC.out]; exact hlt4)⟩
         obtain ⟨b, off, ha, hb, hcell⟩ := ((HI1.out.keep hBW).co) (by rw [HNC.out]; omega)
         have c0 : wr.cell? ⟨b, off + u * 4, none⟩ = some (.string x.dig) := hcell u x hx 0 (.string x.dig) rfl
         have c1 : wr.cell? ⟨b, off + u * 4 + 1, none⟩ = some (.string x.tier) := hcell u x hx 1 (.string x.tier) rfl
         have c2 : wr.cell? ⟨b, off + u * 4 + 2, none⟩ = some (.bool x.good) := hcell u x hx 2 (.bool x.good) rfl
         have c3 : wr.cell? ⟨b, off + u * 4 + 3, none⟩ = some (.int .i64 x.asked) := hcell u x hx 3 (.int .i64 x.asked) rfl
         clear hcell
         have HX := Lib.hid hx
         obtain ⟨W3, hW3, hX3, hz3, hB3⟩ := box wr #[.string x.dig, .string x.tier, .bool x.good, .int .i64 x.asked] 70
         have HW3 := Lib.hid hW3
         have HAL3 := Lib.hid (below_up hB hB3)
         have HAW3 := Lib.hid (below_up hBW hB3)
         have HD : Hid (∀ W, Below W3.heap.size W3 W → W.cell? ⟨wr.heap.size, 0, none⟩ = some (.string x.dig) ∧ W.cell? ⟨wr.heap.size, 1, none⟩ = some (.string x.tier) ∧ W.cell? ⟨wr.heap.size, 2, none⟩ = some (.bool x.good) ∧ W.cell? ⟨wr.heap.size, 3, none⟩ = some (.int .i64 x.asked)) := Lib.hid fun W hb =>
          have k := hX3.keep hb
          ⟨(k.cell 0).trans rfl, (k.cell 1).trans rfl, (k.cell 2).trans rfl, (k.cell 3).trans rfl⟩
         obtain ⟨d0, d1, d2, d3⟩ := HD.out _ (Below.refl _ _)
         obtain ⟨m0, m1, m2, m3, m4, m5, m6⟩ := HCL.out _ HAW3.out
         have HPV : Hid (∀ W, Below W1.heap.size W1 W → ∀ (i : Nat) (y : Cop), s.copies[i]? = some y → W.cell? ⟨b, off + i * 4, none⟩ = some (.string y.dig) ∧ W.cell? ⟨b, off + i * 4 + 1, none⟩ = some (.string y.tier) ∧ W.cell? ⟨b, off + i * 4 + 2, none⟩ = some (.bool y.good) ∧ W.cell? ⟨b, off + i * 4 + 3, none⟩ = some (.int .i64 y.asked)) := Lib.hid fun W hb i y hy => by
          obtain ⟨b2, off2, ha2, hb2, hc2⟩ := (HI1.out.keep hb).co (by rw [HNC.out]; omega)
          rw [ha] at ha2; cases ha2
          exact ⟨hc2 i y hy 0 _ rfl, hc2 i y hy 1 _ rfl, hc2 i y hy 2 _ rfl, hc2 i y hy 3 _ rfl⟩
         obtain ⟨y, hy⟩ : ∃ y, St.filD s.files x.dig = y := ⟨_, rfl⟩
         obtain ⟨bf, hbf⟩ : ∃ bf, (St.fileOf s.files x.dig).isSome = bf := ⟨_, rfl⟩
         have HFF := Lib.hid (HFO.out _ HAW3.out x.dig)
         rw [hy, hbf] at HFF
         unfold St.fval at HFF
         have HDF : Hid (St.copyE s.tiers s.files (s.copies.take u) x = if bf = true ∧ St.hasTier s.tiers x.tier = true then (match (s.copies.take u).getLast? with | some p => (if St.ahead p x = true then (if St.isMom x.asked = true then 0 else 2) else 5) | none => (if St.isMom x.asked = true then 0 else 2)) else 7) := Lib.hid (by unfold St.copyE; rw [hbf]; rfl)
         have HTX := Lib.hid (fun W hb => HTO.out W hb x.tier)
         have HHT := Lib.hid (St.hasTier_idx s.tiers x.tier)
         have hj0 : (0 : Int) ≤ (u : Int) := by omega
         have hj1 : (u : Int) < (nc : Int) := by omega
         generalize St.tierAt s.tiers x.tier = ti at HTX HHT
         clear hx hX3 hz3 hB3 hW3 hBW hB hy hbf
         rw [ha] at m4 HFF HTX HCL ⊢
         cases bf
         ·have HBD : Hid (St.copyE s.tiers s.files (s.copies.take u) x = 7) := Lib.hid (by rw [HDF.out, if_neg (by simp)])
          have HE := Lib.hid (St.scan_here HSD.out HX.out (by rw [HBD.out]; decide))
          go_upto_region 35 with fail
          rw [HW3.out]
          go_upto_region 36 with (first | (go_at_call 63; (with_reducible refine HFF.out.mono ?_); rintro e w4 ⟨rfl, hB4⟩; obtain ⟨W5, hW5, hX5, hz5, hB5⟩ := box w4 #[.string y.dig, .int .i64 y.size, .int .i64 y.kind, .string y.frm] 68; have HW5 := Lib.hid hW5; have HB35 := Lib.hid (below_up hB4 hB5); have HAW5 := Lib.hid (below_up HAW3.out HB35.out); have HAL5 := Lib.hid (below_up HAL3.out HB35.out); clear hW5 hX5 hz5 hB5))
          rw [HW5.out]
          go_wp2_with fail
          go_ret
          exact ⟨ret_int (by rw [HF5.out, HE.out, HBD.out]; rfl), HAL5.out⟩
         go_upto_region 35 with fail
         rw [HW3.out]
         go_upto_region 36 with (first | (go_at_call 63; (with_reducible refine HFF.out.mono ?_); rintro e w4 ⟨rfl, hB4⟩; obtain ⟨W5, hW5, hX5, hz5, hB5⟩ := box w4 #[.string y.dig, .int .i64 y.size, .int .i64 y.kind, .string y.frm] 68; have HW5 := Lib.hid hW5; have HB35 := Lib.hid (below_up hB4 hB5); have HAW5 := Lib.hid (below_up HAW3.out HB35.out); have HAL5 := Lib.hid (below_up HAL3.out HB35.out); clear hW5 hX5 hz5 hB5))
         rw [HW5.out]
         clear c0 c1 c2 c3 d0 d1 d2 d3 m0 m1 m2 m3 m4 m5 m6
         obtain ⟨d0, d1, d2, d3⟩ := HD.out _ HB35.out
         obtain ⟨m0, m1, m2, m3, m4, m5, m6⟩ := HCL.out _ HAW5.out
         have HTA := Lib.hid (HTX.out _ HAW5.out)
         by_cases hti : ti < 0
         ·have HBD : Hid (St.copyE s.tiers s.files (s.copies.take u) x = 7) := Lib.hid (by rw [HDF.out, if_neg (by rintro ⟨_, g⟩; rw [HHT.out, decide_eq_true_eq] at g; omega)])
          have HE := Lib.hid (St.scan_here HSD.out HX.out (by rw [HBD.out]; decide))
          go_wp2_with (go_at_call 59; (with_reducible refine HTA.out.mono ?_); rintro e w6 ⟨rfl, hB6⟩)
          go_ret
          exact ⟨ret_int (by rw [HF5.out, HE.out, HBD.out]; rfl), below_up HAL5.out hB6⟩
         ·have HDG : Hid (St.copyE s.tiers s.files (s.copies.take u) x = match (s.copies.take u).getLast? with | some p => (if St.ahead p x = true then (if St.isMom x.asked = true then 0 else 2) else 5) | none => (if St.isMom x.asked = true then 0 else 2)) := Lib.hid (by rw [HDF.out, if_pos ⟨by first | rfl | trivial, by rw [HHT.out, decide_eq_true_eq]; omega⟩])
          go_upto_region 38 with (go_at_call 59; (with_reducible refine HTA.out.mono ?_); rintro e w6 ⟨rfl, hB6⟩; have HB36 := Lib.hid (below_up HB35.out hB6); have HAW6 := Lib.hid (below_up HAW5.out hB6); have HAL6 := Lib.hid (below_up HAL5.out hB6))
          clear d0 d1 d2 d3 m0 m1 m2 m3 m4 m5 m6
          obtain ⟨d0, d1, d2, d3⟩ := HD.out _ HB36.out
          obtain ⟨m0, m1, m2, m3, m4, m5, m6⟩ := HCL.out _ HAW6.out
          have k0 := cell_regrown d0
          have k1 := cell_regrown d1
          have k2 := cell_regrown d2
          have k3 := cell_regrown d3
          have k4 := cell_regrown m4
          clear d0 d1 d2 d3 m0 m1 m2 m3 m4 m5 m6
          rcases Nat.eq_zero_or_pos u with rfl | hjp
          ·have HDZ : Hid (St.copyE s.tiers s.files (s.copies.take 0) x = if St.isMom x.asked = true then 0 else 2) := Lib.hid (by rw [HDG.out, St.last_zero])
           refine wp_region_quiet_below (by kernel_rfl) (by kernel_rfl) ?_
           repeat (go_big_quiet_step ((fail)))
           refine wpQuiet_nil ?_
           intro _ hw'
           obtain ⟨⟨dq, osq⟩, hw''⟩ := hw'
           subst hw''
           have hBw7 := below_regrown w6 dq osq
           generalize grow (redrawn w6 dq) osq = w7 at *
           clear dq osq
           clear k0 k1 k2 k3 k4
           obtain ⟨d0, d1, d2, d3⟩ := HD.out _ (below_up HB36.out hBw7)
           have HAW7 := Lib.hid (below_up HAW6.out hBw7)
           have HAL7 := Lib.hid (below_up HAL6.out hBw7)
           have HMO := Lib.hid (fun W => momentS_is x.asked W)
           obtain ⟨gd, hgd⟩ : ∃ gd, St.isMom x.asked = gd := ⟨_, rfl⟩
           have HDE : Hid (St.copyE s.tiers s.files (s.copies.take (0)) x = if gd = true then 0 else 2) := Lib.hid (by rw [HDZ.out, hgd])
           rw [hgd] at HMO
           clear hgd
           cases gd
           ·have HBD : Hid (St.copyE s.tiers s.files (s.copies.take (0)) x = 2) := Lib.hid (by rw [HDE.out]; rfl)
            have HE := Lib.hid (St.scan_here HSD.out HX.out (by rw [HBD.out]; decide))
            go_wp2_with (go_at_call 65; (with_reducible refine (HMO.out _).mono ?_); rintro e w8 ⟨rfl, rfl⟩)
            go_ret
            exact ⟨ret_int (by rw [HF5.out, HE.out, HBD.out]; rfl), HAL7.out⟩
           ·have HBD : Hid (St.copyE s.tiers s.files (s.copies.take (0)) x = 0) := Lib.hid (by rw [HDE.out]; rfl)
            have HE := Lib.hid (St.scan_next HSD.out HX.out HBD.out)
            go_wp2_with (go_at_call 65; (with_reducible refine (HMO.out _).mono ?_); rintro e w8 ⟨rfl, rfl⟩)
            rw [← ha]
            go_roundg (nc - (0 + 1))
            case rel => exact ⟨0 + 1, by omega, rfl, by go_num, HE.out, HAW7.out⟩
            case measure => omega
          ·obtain ⟨p, hp, hlast⟩ := St.last_at (L := s.copies) (by rw [HNC.out]; exact hlt4) hjp
           obtain ⟨i, rfl⟩ : ∃ i, u = i + 1 := ⟨u - 1, by omega⟩
           rw [Nat.add_sub_cancel] at hp
           obtain ⟨p0, p1, p2, p3⟩ := HPV.out _ HAW6.out i p hp
           have k5 := cell_regrown p0
           have k6 := cell_regrown p1
           have k7 := cell_regrown p2
           have k8 := cell_regrown p3
           obtain ⟨ah, hah⟩ : ∃ ah, St.ahead p x = ah := ⟨_, rfl⟩
           have HDP : Hid (St.copyE s.tiers s.files (s.copies.take (i + 1)) x = if ah = true then (if St.isMom x.asked = true then 0 else 2) else 5) := Lib.hid (by rw [HDG.out, hlast, ← hah])
           have HBE := Lib.hid (fun d os => Calls.regrown_of (w := w6) (d := d) (os := os) (before_is p x _))
           rw [hah] at HBE
           clear hp hlast hah p0 p1 p2 p3
           refine wp_region_quiet_below (by kernel_rfl) (by kernel_rfl) ?_
           repeat (go_big_quiet_step ((go_at_call 64; with_reducible exact HBE.out _ _)))
           refine wpQuiet_nil ?_
           intro _ hw'
           obtain ⟨⟨dq, osq⟩, hw''⟩ := hw'
           subst hw''
           have hBw7 := below_regrown w6 dq osq
           generalize grow (redrawn w6 dq) osq = w7 at *
           clear dq osq
           clear k0 k1 k2 k3 k4 k5 k6 k7 k8
           cases ah
           ·have HBD : Hid (St.copyE s.tiers s.files (s.copies.take (i + 1)) x = 5) := Lib.hid (by rw [HDP.out]; rfl)
            have HE := Lib.hid (St.scan_here HSD.out HX.out (by rw [HBD.out]; decide))
            go_wp2_with fail
            go_ret
            exact ⟨ret_int (by rw [HF5.out, HE.out, HBD.out]; rfl), below_up HAL6.out hBw7⟩
           ·have HDZ : Hid (St.copyE s.tiers s.files (s.copies.take (i + 1)) x = if St.isMom x.asked = true then 0 else 2) := Lib.hid (by rw [HDP.out, if_pos rfl])
            obtain ⟨d0, d1, d2, d3⟩ := HD.out _ (below_up HB36.out hBw7)
            have HAW7 := Lib.hid (below_up HAW6.out hBw7)
            have HAL7 := Lib.hid (below_up HAL6.out hBw7)
            have HMO := Lib.hid (fun W => momentS_is x.asked W)
            obtain ⟨gd, hgd⟩ : ∃ gd, St.isMom x.asked = gd := ⟨_, rfl⟩
            have HDE : Hid (St.copyE s.tiers s.files (s.copies.take (i + 1)) x = if gd = true then 0 else 2) := Lib.hid (by rw [HDZ.out, hgd])
            rw [hgd] at HMO
            clear hgd
            cases gd
            ·have HBD : Hid (St.copyE s.tiers s.files (s.copies.take (i + 1)) x = 2) := Lib.hid (by rw [HDE.out]; rfl)
             have HE := Lib.hid (St.scan_here HSD.out HX.out (by rw [HBD.out]; decide))
             go_wp2_with (go_at_call 65; (with_reducible refine (HMO.out _).mono ?_); rintro e w8 ⟨rfl, rfl⟩)
             go_ret
             exact ⟨ret_int (by rw [HF5.out, HE.out, HBD.out]; rfl), HAL7.out⟩
            ·have HBD : Hid (St.copyE s.tiers s.files (s.copies.take (i + 1)) x = 0) := Lib.hid (by rw [HDE.out]; rfl)
             have HE := Lib.hid (St.scan_next HSD.out HX.out HBD.out)
             go_wp2_with (go_at_call 65; (with_reducible refine (HMO.out _).mono ?_); rintro e w8 ⟨rfl, rfl⟩)
             rw [← ha]
             go_roundg (nc - (i + 1 + 1))
             case rel => exact ⟨i + 1 + 1, by omega, rfl, by go_num, HE.out, HAW7.out⟩
             case measure => omega
        ·obtain rfl : u = nc := by omega
         have HE := HSD.out
         rw [← HNC.out] at HE
         have hq0 := St.scan_done HE
         have HF6 : Hid (St.err s = (if q4b = 0 then qd else q4b)) := Lib.hid (by rw [HF5.out, if_pos hq0])
         have HQ5 : Hid (St.scan (St.fullE s.files s.copies) (s.tiers.take 0) (s.tiers.drop 0) = q4b) := Lib.hid H4B.out
         have HQA1 := Lib.hid (HQA.out.trans HQA0.out)
         have HSZ := Lib.hid (St.szs_of fun f hf => ((St.files_iff.1 (H2A.out.trans HQ20.out)).1 f hf).2)
         obtain ⟨m0, m1, m2, m3, m4, m5, m6⟩ := HCL.out _ hBW
         have HBK4 := Lib.hid hBW
         clear HE hq0 hBW hB
         go_wp2_with fail
         clear m0 m1 m2 m3 m4 m5 m6
         go_loopg [181] j (fun gk i wq => ∃ v : Nat, v ≤ j ∧ gk = j - v ∧ i = .int .i64 v ∧ St.scan (St.fullE s.files s.copies) (s.tiers.take v) (s.tiers.drop v) = q4b ∧ Below W1.heap.size W1 wq)
         case atStart => exact ⟨0, by omega, rfl, rfl, HQ5.out, HBK4.out⟩
         case round =>
          obtain ⟨v, hv, rfl, rfl, hs, hBW⟩ := hrel
          have HSE := Lib.hid hs; clear hs
          have hB := below_up HB1.out hBW
          by_cases hlt5 : v < j
          ·obtain ⟨x, hx⟩ : ∃ x, s.tiers[v]? = some x := ⟨_, List.getElem?_eq_getElem (by rw [HNT.out]; exact hlt5)⟩
           obtain ⟨b, off, ha, hb, hcell⟩ := ((HI1.out.keep hBW).ti) (by rw [HNT.out]; omega)
           have c0 : wr.cell? ⟨b, off + v * 4, none⟩ = some (.string x.name) := hcell v x hx 0 (.string x.name) rfl
           have c1 : wr.cell? ⟨b, off + v * 4 + 1, none⟩ = some (.int .i64 x.room) := hcell v x hx 1 (.int .i64 x.room) rfl
           have c2 : wr.cell? ⟨b, off + v * 4 + 2, none⟩ = some (.int .i64 x.cost) := hcell v x hx 2 (.int .i64 x.cost) rfl
           have c3 : wr.cell? ⟨b, off + v * 4 + 3, none⟩ = some (.bool x.away) := hcell v x hx 3 (.bool x.away) rfl
           clear hcell
           have HX := Lib.hid hx
           obtain ⟨W3, hW3, hX3, hz3, hB3⟩ := box wr #[.string x.name, .int .i64 x.room, .int .i64 x.cost, .bool x.away] 65
           have HW3 := Lib.hid hW3
           have d0 : W3.cell? ⟨wr.heap.size, 0, none⟩ = some (.string x.name) := (hX3.cell 0).trans rfl
           have HAL3 := Lib.hid (below_up hB hB3)
           have HAW3 := Lib.hid (below_up hBW hB3)
           obtain ⟨m0, m1, m2, m3, m4, m5, m6⟩ := HCL.out _ HAW3.out
           have HFE := Lib.hid (HFI.out _ HAW3.out x v hx (St.tier_self HQA1.out hx) HSZ.out (St.tier_ok HQA1.out (List.mem_of_getElem? hx)).2.1)
           obtain ⟨fr, hfr⟩ : ∃ fr, x.room - St.used s.files x.name s.copies = fr := ⟨_, rfl⟩
           have HDF : Hid (St.fullE s.files s.copies (s.tiers.take v) x = if fr < 0 then 12 else 0) := Lib.hid (by unfold St.fullE; rw [hfr])
           rw [hfr] at HFE
           have hj0 : (0 : Int) ≤ (v : Int) := by omega
           have hj1 : (v : Int) < (j : Int) := by omega
           clear hx hX3 hz3 hB3 hW3 hBW hB hfr
           rw [ha] at m2 HFE ⊢
           by_cases hf : fr < 0
           ·have HBD : Hid (St.fullE s.files s.copies (s.tiers.take v) x = 12) := Lib.hid (by rw [HDF.out, if_pos hf])
            have HE := Lib.hid (St.scan_here HSE.out HX.out (by rw [HBD.out]; decide))
            go_upto_region 46 with fail
            rw [HW3.out]
            go_wp2_with (go_at_call 66; (with_reducible refine HFE.out.mono ?_); rintro e w6 ⟨rfl, hB6⟩)
            go_ret
            exact ⟨ret_int (by rw [HF6.out, HE.out, HBD.out]; rfl), below_up HAL3.out hB6⟩
           ·have HE := Lib.hid (St.scan_next HSE.out HX.out (by rw [HDF.out, if_neg hf]))
            go_upto_region 46 with fail
            rw [HW3.out]
            go_wp2_with (go_at_call 66; (with_reducible refine HFE.out.mono ?_); rintro e w6 ⟨rfl, hB6⟩)
            rw [← ha]
            go_roundg (j - (v + 1))
            case rel => exact ⟨v + 1, by omega, rfl, by go_num, HE.out, below_up HAW3.out hB6⟩
            case measure => omega
          ·obtain rfl : v = j := by omega
           have HE := HSE.out
           rw [← HNT.out] at HE
           have hq0 := St.scan_done HE
           have HF7 : Hid (St.err s = qd) := Lib.hid (by rw [HF6.out, if_pos hq0])
           obtain ⟨m0, m1, m2, m3, m4, m5, m6⟩ := HCL.out _ hBW
           have HKF := Lib.hid (HKE.out _ hBW)
           have HBZ := Lib.hid hB
           clear HE hq0 hBW hB
           go_wp2_with (go_at_call 67; (with_reducible refine HKF.out.mono ?_); rintro e w6 ⟨rfl, hB6⟩)
           go_ret
           exact ⟨ret_int HF7.out.symm, below_up HBZ.out hB6⟩
theorem storeError_is (s : Sto) (a : StA) (w : World) (hI : StIn w s a) :
  Calls Tryz.prog 20 #[.agg #[.int .i64 s.least, .int .i64 s.wait, .slice a.ta s.tiers.length a.tc, .slice a.fa s.files.length a.fc, .slice a.ca s.copies.length a.cc, .slice a.ha s.held.length a.hc, .slice a.ba s.bin.length a.bc]] w fun e w' => e = .returned (.int .i64 (St.err s)) ∧ Below w.heap.size w w' := by
 by_cases h : St.sizesE s = 0
 ·exact stErr_good s a w hI h
 ·refine (stErr_sizes s a w hI h).mono ?_
  rintro e w' ⟨rfl, hB⟩
  exact ⟨ret_int (by unfold St.err; rw [if_neg h]), hB⟩
end Go.Proofs.YtbbgebpgpadclaaGreatDoor
