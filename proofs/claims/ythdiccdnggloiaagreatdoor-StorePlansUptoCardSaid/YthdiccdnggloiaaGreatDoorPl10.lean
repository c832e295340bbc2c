/- Parts of the proof, no condition: StTlM, StTlP, StGar, StGarL, StTlQ, StRlR, StHfR. -/
import Derived.Test.YthdiccdnggloiaaGreatDoorPl4
import Derived.Test.YthdiccdnggloiaaGreatDoorPl7
import Derived.Deep.RegionHeld3
import Derived.Test.YthdiccdnggloiaaGreatDoorPl9
import Derived.Test.YthdiccdnggloiaaGreatDoorPl6
import Derived.Maps.RangeWalk
set_option maxRecDepth 100000
set_option maxHeartbeats 16000000
set_option linter.unusedSimpArgs false
set_option linter.unusedVariables false
namespace Go.Proofs.YthdiccdnggloiaaGreatDoor
open Go.RowKit
namespace St
theorem awayN_le (L : List Tir) : awayN L ≤ L.length := List.countP_le_length
theorem awayN_next {L : List Tir} {j : Nat} {x : Tir} (h : L[j]? = some x) : awayN (L.take (j + 1)) = awayN (L.take j) + (if x.away = true then 1 else 0) := by
 unfold awayN
 rw [List.take_add_one, h, List.countP_append]
 congr 1
 simp only [Option.toList_some, List.countP_cons, List.countP_nil]
 simp
theorem neededL_len (s : Sto) : (neededL s).length ≤ s.files.length := by
 unfold neededL
 rw [List.length_map]
 exact List.length_filter_le _ _
theorem needed_16 {s : Sto} (r : Right s) {d : ByteArray} (h : d ∈ neededL s) : d.size = 16 := by
 unfold neededL at h
 obtain ⟨f, hf, rfl⟩ := List.mem_map.1 h
 exact dig16 (r.dig f (List.mem_filter.1 hf).1).1
end St
end Go.Proofs.YthdiccdnggloiaaGreatDoor
namespace Go.Proofs.YthdiccdnggloiaaGreatDoor
open Go.RowKit Go.Sort Go.Shelf Go.Maps
theorem away_is (L : List Tir) (sa : Option Addr) (sc : Nat) (w : World) (hr : RowE St.eT w sa L) (hl : L.length ≤ 1000000) : Calls Tryz.prog 172 #[.slice sa L.length sc] w fun e w' => e = .returned (.int .i64 (St.awayN L : Nat)) ∧ Below w.heap.size w w' := by
 have HR := Lib.hid hr
 obtain ⟨q, hq⟩ : ∃ q, St.awayN L = q := ⟨_, rfl⟩
 have HQ := Lib.hid hq
 obtain ⟨n, hn⟩ : ∃ n, L.length = n := ⟨_, rfl⟩
 have HN := Lib.hid hn
 rw [hn] at hl ⊢
 rw [hq]
 clear hr hn hq
 go_enter Tryz.func172, Tryz.ntmps172
 go_wp2_with fail
 go_loopg [3, 8] n (fun gk c i wr => ∃ j k : Nat, j ≤ n ∧ gk = n - j ∧ i = .int .i64 j ∧ c = .int .i64 (k : Int) ∧ k = St.awayN (L.take j) ∧ Below w.heap.size w wr)
 case atStart => exact ⟨0, 0, by omega, rfl, rfl, rfl, rfl, Below.refl _ _⟩
 case round =>
  obtain ⟨j, k, hj, rfl, rfl, rfl, hk, hB⟩ := hrel
  have HK := Lib.hid hk
  have hk2 : k ≤ 1000000 := by
   have h1 := St.awayN_le (L.take j)
   rw [List.length_take] at h1; omega
  clear hk
  by_cases hlt : j < n
  ·obtain ⟨x, hx⟩ : ∃ x, L[j]? = some x := ⟨_, List.getElem?_eq_getElem (by rw [HN.out]; exact hlt)⟩
   obtain ⟨b, off, ha, hb, hcell⟩ := (HR.out.keep hB) (by rw [HN.out]; omega)
   have c0 : wr.cell? ⟨b, off + j * 4, none⟩ = some (.string x.name) := hcell j x hx 0 (.string x.name) rfl
   have c1 : wr.cell? ⟨b, off + j * 4 + 1, none⟩ = some (.int .i64 x.room) := hcell j x hx 1 (.int .i64 x.room) rfl
   have c2 : wr.cell? ⟨b, off + j * 4 + 2, none⟩ = some (.int .i64 x.cost) := hcell j x hx 2 (.int .i64 x.cost) rfl
   have c3 : wr.cell? ⟨b, off + j * 4 + 3, none⟩ = some (.bool x.away) := hcell j x hx 3 (.bool x.away) rfl
   clear hcell
   have HNX := Lib.hid (St.awayN_next hx)
   obtain ⟨W3, hW3, hX3, hz3, hB3⟩ := box wr #[.string x.name, .int .i64 x.room, .int .i64 x.cost, .bool x.away] 46
   have HW3 := Lib.hid hW3
   have HAW := Lib.hid (below_up hB hB3)
   obtain ⟨e0, e1, e2, e3⟩ := hX3.four
   have hj0 : (0 : Int) ≤ (j : Int) := by omega
   have hj1 : (j : Int) < (n : Int) := by omega
   obtain ⟨bq, hbq⟩ : ∃ bq, x.away = bq := ⟨_, rfl⟩
   rw [hbq] at HNX e3
   rw [hbq] at c3 HW3
   clear hx hX3 hW3 hz3 hB3 hB
   rw [ha]
   cases bq
   ·go_upto_region 5 with fail
    rw [HW3.out]
    go_wp2_with fail
    rw [← ha]
    go_roundg (n - (j + 1))
    case rel => exact ⟨j + 1, k, by omega, rfl, by go_num, rfl, by rw [HNX.out, HK.out]; simp, HAW.out⟩
    case measure => omega
   ·go_upto_region 5 with fail
    rw [HW3.out]
    go_wp2_with fail
    rw [← ha]
    go_roundg (n - (j + 1))
    case rel => exact ⟨j + 1, k + 1, by omega, rfl, by go_num, by go_num, by rw [HNX.out, HK.out]; simp, HAW.out⟩
    case measure => omega
  ·obtain rfl : j = n := by omega
   go_wp2_with fail
   go_ret
   exact ⟨ret_int (by rw [HK.out, ← HQ.out, ← HN.out, List.take_length]), hB⟩
theorem lack_is (s : Sto) (a : StA) (mb : Nat) (d : ByteArray) (w : World) (hI : StIn w s a) (r : St.Right s) (hd : d.size = 16) :
  Calls Tryz.prog 100 #[.agg #[.int .i64 s.least, .int .i64 s.wait, .slice a.ta s.tiers.length a.tc, .slice a.fa s.files.length a.fc, .slice a.ca s.copies.length a.cc, .slice a.ha s.held.length a.hc, .slice a.ba s.bin.length a.bc, .map (some mb)], .string d] w fun e w' => e = .returned (.tuple #[.agg #[.string d, .int .i64 ((St.goodL s d).length : Nat), .int .i64 (St.awayN (St.goodL s d) : Nat)], .bool (St.short s d)]) ∧ Below w.heap.size w w' := by
 obtain ⟨W1, hW1, hP, hz1, hB1⟩ := box w #[.int .i64 s.least, .int .i64 s.wait, .slice a.ta s.tiers.length a.tc, .slice a.fa s.files.length a.fc, .slice a.ca s.copies.length a.cc, .slice a.ha s.held.length a.hc, .slice a.ba s.bin.length a.bc, .map (some mb)] 135
 obtain ⟨W2, hW2, hQ, hz2, hB2⟩ := box W1 #[.string ⟨#[]⟩, .int .i64 0, .int .i64 0] 70
 have HW1 := Lib.hid hW1; have HW2 := Lib.hid hW2
 have hP := hP.keep hB2
 rw [hz1] at hQ hz2
 have hB := below_up hB1 hB2
 have HB := Lib.hid hB
 obtain ⟨_, y1, y2, y3, y4, y5⟩ := St.sizes_iff.1 r.sizes
 have HGO := Lib.hid (fun V (hv : Below W2.heap.size W2 V) => good_is s a mb d V ((hI.keep hB).keep hv) r hd)
 unfold TirPost at HGO
 have HAT := Lib.hid (fun V (hv : Below W2.heap.size W2 V) => away_is s.tiers a.ta a.tc V ((hI.keep hB).keep hv).ti (by omega))
 have HCL : Hid (∀ V, Below W2.heap.size W2 V → V.cell? ⟨w.heap.size, 0, none⟩ = some (.int .i64 s.least) ∧ V.cell? ⟨w.heap.size, 1, none⟩ = some (.int .i64 s.wait) ∧ V.cell? ⟨w.heap.size, 2, none⟩ = some (.slice a.ta s.tiers.length a.tc) ∧ V.cell? ⟨w.heap.size, 3, none⟩ = some (.slice a.fa s.files.length a.fc) ∧ V.cell? ⟨w.heap.size, 4, none⟩ = some (.slice a.ca s.copies.length a.cc) ∧ V.cell? ⟨w.heap.size, 5, none⟩ = some (.slice a.ha s.held.length a.hc) ∧ V.cell? ⟨w.heap.size, 6, none⟩ = some (.slice a.ba s.bin.length a.bc) ∧ V.cell? ⟨w.heap.size, 7, none⟩ = some (.map (some mb))) := Lib.hid fun V hv => (hP.keep hv).eight
 have HQ := Lib.hid hQ; have HZ2 := Lib.hid hz2
 have hgl := St.goodL_len s d
 have hSH : St.short s d = (decide (((St.goodL s d).length : Int) < s.least) || (decide (St.awayN (St.goodL s d) = 0) && decide (0 < St.awayN s.tiers))) := rfl
 have hal := St.awayN_le (St.goodL s d)
 obtain ⟨mt, hmt⟩ : ∃ mt, St.awayN s.tiers = mt := ⟨_, rfl⟩
 obtain ⟨GL, hGL⟩ : ∃ GL, St.goodL s d = GL := ⟨_, rfl⟩
 rw [hGL] at HGO hSH hgl hal ⊢
 rw [hmt] at HAT hSH
 obtain ⟨mg, hmg⟩ : ∃ mg, GL.length = mg := ⟨_, rfl⟩
 have HMG := Lib.hid hmg
 rw [hmg] at HGO hSH hgl hal ⊢
 obtain ⟨ma, hma⟩ : ∃ ma, St.awayN GL = ma := ⟨_, rfl⟩
 have HMA := Lib.hid hma
 rw [hma] at hSH hal ⊢
 obtain ⟨lb, hlb⟩ : ∃ lb, decide ((mg : Int) < s.least) = lb := ⟨_, rfl⟩
 obtain ⟨zb, hzb⟩ : ∃ zb, decide (ma = 0) = zb := ⟨_, rfl⟩
 obtain ⟨tb, htb⟩ : ∃ tb, decide (0 < mt) = tb := ⟨_, rfl⟩
 obtain ⟨mi, hmi⟩ : ∃ mi : Int, (ma : Int) = mi := ⟨_, rfl⟩
 obtain ⟨ti, hti0⟩ : ∃ ti : Int, (mt : Int) = ti := ⟨_, rfl⟩
 have hzi : (mi == 0) = zb := by rw [← hzb, ← hmi]; cases ma <;> simp <;> omega
 have hti : decide ((0 : Int) < ti) = tb := by rw [← htb, ← hti0]; simp
 have HMI := Lib.hid hmi
 rw [hti0] at HAT
 rw [hmi]
 rw [hlb, hzb, htb] at hSH
 rw [hSH]
 clear hI r hW1 hW2 hP hQ hz1 hz2 hB1 hB2 hB hSH hmt hGL hmg hma hzb htb hmi hti0 y2 y3 y4 y5 hd
 go_enter Tryz.func100, Tryz.ntmps100
 go_upto_region 1 with fail
 rw [HW1.out, HW2.out]
 have hv : Below W2.heap.size W2 W2 := Below.refl _ _
 obtain ⟨m0, m1, m2, m3, m4, m5, m6, m7⟩ := HCL.out _ hv
 go_upto_region 2 with (go_at_call 103; (with_reducible refine (HGO.out _ hv).mono ?_); rintro e w3 ⟨g, cap, rfl, ho, hq⟩; have hv := below_up hv hq)
 have HRE : Hid (RowE St.eT w3 g GL) := Lib.hid (RowE.ofV (E := St.eT) (ca := cap) (by rw [HMG.out]; exact ho))
 have HAG := Lib.hid (away_is GL g cap w3 HRE.out (by rw [HMG.out]; omega))
 rw [HMG.out, HMA.out, HMI.out] at HAG
 clear ho hq
 go_upto_region 3 with (go_at_call 172; (with_reducible refine HAG.out.mono ?_); rintro e w4 ⟨rfl, hq⟩; have hv := below_up hv hq)
 obtain ⟨W5, hW5, hX5, hz5, hB5⟩ := box w4 #[.string d, .int .i64 (mg : Int), .int .i64 mi] 70
 have HW5 := Lib.hid hW5
 rw [HW5.out]
 have hne : ¬ w.heap.size + 1 = w4.heap.size := by have := hv.size; have := HZ2.out; omega
 have hv5 := below_up hv hB5
 have HV5 := Lib.hid hv5
 have hX := hX5.drew
 have HX := Lib.hid hX
 have hv := hv5.drew
 have hvz := hv5.size
 obtain ⟨x0, x1, x2⟩ := hX.three
 clear m0 m1 m2 m3 m4 m5 m6 m7
 obtain ⟨m0, m1, m2, m3, m4, m5, m6, m7⟩ := HCL.out _ hv
 obtain ⟨z0, z1, z2⟩ := (HQ.out.keep hv).three
 have zf := (HQ.out.keep hv).free
 clear hW5 hX5 hz5 hB5 hv5 hq hX
 cases lb
 ·cases zb
  ·refine wp_region_held_drew (S := fun w' => w'.cell? ⟨w.heap.size, 0, none⟩ = some (.int .i64 s.least) ∧ w'.cell? ⟨w.heap.size, 2, none⟩ = some (.slice a.ta s.tiers.length a.tc) ∧ w'.cell? ⟨w4.heap.size, 0, none⟩ = some (.string d) ∧ w'.cell? ⟨w4.heap.size, 1, none⟩ = some (.int .i64 (mg : Int)) ∧ w'.cell? ⟨w4.heap.size, 2, none⟩ = some (.int .i64 mi)) (by kernel_rfl) ⟨m0, m2, x0, x1, x2⟩ (fun hHeld => ?_)
   generalize W5.drew = w5 at *
   refine wpAnyH_take (i := 0) (v := ?_) rfl (by kernel_rfl) (by kernel_rfl) (by kernel_rfl) (fun _ _ _ h => h) (Or.inl ⟨by kernel_rfl, ?_⟩) (by assumption) ?_
   rotate_left
   ·(intro w hSw; (try dsimp only at hSw); go_simp; try (with_reducible rfl))
   try go_frame
   refine wpAnyH_take (i := 1) (v := ?_) rfl (by kernel_rfl) (by kernel_rfl) (by kernel_rfl) (fun _ _ _ h => h) (Or.inl ⟨by kernel_rfl, ?_⟩) (by assumption) ?_
   rotate_left
   ·(intro w hSw; (try dsimp only at hSw); go_simp; try (with_reducible rfl))
   try go_frame
   refine wpAnyH_take (i := 2) (v := ?_) rfl (by kernel_rfl) (by kernel_rfl) (by kernel_rfl) (fun _ _ _ h => h) (Or.inl ⟨by kernel_rfl, ?_⟩) (by assumption) ?_
   rotate_left
   ·(intro w hSw; (try dsimp only at hSw); go_simp; try (with_reducible rfl))
   try go_frame
   refine wpAnyH_take (i := 3) (v := ?_) rfl (by kernel_rfl) (by kernel_rfl) (by kernel_rfl) (fun _ _ _ h => h) (Or.inl ⟨by kernel_rfl, ?_⟩) (by assumption) ?_
   rotate_left
   ·(intro w hSw; (try dsimp only at hSw); go_simp; try (with_reducible rfl))
   try go_frame
   refine wpAnyH_take (i := 4) (v := ?_) rfl (by kernel_rfl) (by kernel_rfl) (by kernel_rfl) (fun _ _ _ h => h) (Or.inl ⟨by kernel_rfl, ?_⟩) (by assumption) ?_
   rotate_left
   ·(intro w hSw; (try dsimp only at hSw); go_simp; try (with_reducible rfl))
   try go_frame
   refine wpAnyH_take (i := 5) (v := ?_) rfl (by kernel_rfl) (by kernel_rfl) (by kernel_rfl) (fun _ _ _ h => h) (Or.inl ⟨by kernel_rfl, ?_⟩) (by assumption) ?_
   rotate_left
   ·(intro w hSw; (try dsimp only at hSw); go_simp; try (with_reducible rfl))
   try go_frame
   refine wpAnyH_take (i := 6) (v := ?_) rfl (by kernel_rfl) (by kernel_rfl) (by kernel_rfl) (fun _ _ _ h => h) (Or.inl ⟨by kernel_rfl, ?_⟩) (by assumption) ?_
   rotate_left
   ·(intro w hSw; (try dsimp only at hSw); go_simp; try (with_reducible rfl))
   try go_frame
   refine wpAnyH_take (i := 7) (v := ?_) rfl (by kernel_rfl) (by kernel_rfl) (by kernel_rfl) (fun _ _ _ h => h) (Or.inl ⟨by kernel_rfl, ?_⟩) (by assumption) ?_
   rotate_left
   ·(intro w hSw; (try dsimp only at hSw); go_simp; try (with_reducible rfl))
   try go_frame
   refine wpAnyH_take (i := 8) (v := ?_) rfl (by kernel_rfl) (by kernel_rfl) (by kernel_rfl) (fun _ _ _ h => h) (Or.inl ⟨by kernel_rfl, ?_⟩) (by assumption) ?_
   rotate_left
   ·(intro w hSw; (try dsimp only at hSw); go_simp; try (with_reducible rfl))
   try go_frame
   refine wpAnyH_take (i := 9) (v := ?_) rfl (by kernel_rfl) (by kernel_rfl) (by kernel_rfl) (fun _ _ _ h => h) (Or.inl ⟨by kernel_rfl, ?_⟩) (by assumption) ?_
   rotate_left
   ·(intro w hSw; (try dsimp only at hSw); go_simp; try (with_reducible rfl))
   try go_frame
   refine wpAnyH_take (i := 10) (v := ?_) rfl (by kernel_rfl) (by kernel_rfl) (by kernel_rfl) (fun _ _ _ h => h) (Or.inl ⟨by kernel_rfl, ?_⟩) (by assumption) ?_
   rotate_left
   ·(intro w hSw; (try dsimp only at hSw); go_simp; try (with_reducible rfl))
   try go_frame
   refine wpAnyH_take (i := 11) (v := ?_) rfl (by kernel_rfl) (by kernel_rfl) (by kernel_rfl) (fun _ _ _ h => h) (Or.inl ⟨by kernel_rfl, ?_⟩) (by assumption) ?_
   rotate_left
   ·(intro w hSw; (try dsimp only at hSw); go_simp; try (with_reducible rfl))
   try go_frame
   refine wpAnyH_take (i := 12) (v := ?_) rfl (by kernel_rfl) (by kernel_rfl) (by kernel_rfl) (fun _ _ _ h => h) (Or.inr ⟨by kernel_rfl, ?_⟩) (by assumption) ?_
   rotate_left
   ·rfl
   try go_frame
   refine wpAnyH_take (i := 13) (v := ?_) rfl (by kernel_rfl) (by kernel_rfl) (by kernel_rfl) (fun _ _ _ h => h) (Or.inr ⟨by kernel_rfl, ?_⟩) (by assumption) ?_
   rotate_left
   ·rfl
   try go_frame
   refine wpAnyH_take (i := 14) (v := ?_) rfl (by kernel_rfl) (by kernel_rfl) (by kernel_rfl) (fun _ _ _ h => h) (Or.inr ⟨by kernel_rfl, ?_⟩) (by assumption) ?_
   rotate_left
   ·rfl
   try go_frame
   refine wpAnyH_take (i := 15) (v := ?_) rfl (by kernel_rfl) (by kernel_rfl) (by kernel_rfl) (fun _ _ _ h => h) (Or.inr ⟨by kernel_rfl, ?_⟩) (by assumption) ?_
   rotate_left
   ·rfl
   try go_frame
   refine wpAnyH_take (i := 16) (v := ?_) rfl (by kernel_rfl) (by kernel_rfl) (by kernel_rfl) (fun _ _ _ h => h) (Or.inr ⟨by kernel_rfl, ?_⟩) (by assumption) ?_
   rotate_left
   ·rfl
   try go_frame
   refine wpAnyH_take (i := 17) (v := ?_) rfl (by kernel_rfl) (by kernel_rfl) (by kernel_rfl) (fun _ _ _ h => h) (Or.inl ⟨by kernel_rfl, ?_⟩) (by assumption) ?_
   rotate_left
   ·(intro w hSw; (try dsimp only at hSw); go_simp; try (with_reducible rfl))
   try go_frame
   refine wpAnyH_take (i := 18) (v := ?_) rfl (by kernel_rfl) (by kernel_rfl) (by kernel_rfl) (fun _ _ _ h => h) (Or.inl ⟨by kernel_rfl, ?_⟩) (by assumption) ?_
   rotate_left
   ·(intro w hSw; (try dsimp only at hSw); go_simp; try (with_reducible rfl))
   try go_frame
   refine wpAnyH_ready (rs := [19]) (by kernel_rfl) (by simp) ?_
   refine AllReadyH.cons rfl (fun K hK => ?_) AllReadyH.nil
   go_simp
   refine hK.out _ _ (by refine ⟨?_, ?_, ?_, ?_, ?_⟩ <;> go_keep) (fun hHeld => ?_)
   clear hK K
   try go_frame
   refine wpAnyH_ready (rs := [20]) (by kernel_rfl) (by simp) ?_
   refine AllReadyH.cons rfl (fun K hK => ?_) AllReadyH.nil
   go_simp
   refine hK.out _ _ (hHeld) (fun hHeld => ?_)
   clear hK K
   try go_frame
   refine wpAnyH_done (by kernel_rfl) ?_ _
   have hZ := ((((HQ.out.keep hv).set 0 (.string d)).set 1 (.int .i64 (mg : Int))).set 2 (.int .i64 mi))
   have hBz := ((((below_up HB.out hv).setCell (p := ⟨w.heap.size + 1, 0, none⟩) (by simp) (.string d)).setCell (p := ⟨w.heap.size + 1, 1, none⟩) (by simp) (.int .i64 (mg : Int))).setCell (p := ⟨w.heap.size + 1, 2, none⟩) (by simp) (.int .i64 mi))
   obtain ⟨V, hV⟩ : ∃ V, (((w5.setCell ⟨w.heap.size + 1, 0, none⟩ (.string d)).setCell ⟨w.heap.size + 1, 1, none⟩ (.int .i64 (mg : Int))).setCell ⟨w.heap.size + 1, 2, none⟩ (.int .i64 mi)) = V := ⟨_, rfl⟩
   rw [hV] at hZ hBz ⊢
   have hZ : Blk V (w.heap.size + 1) #[.string d, .int .i64 (mg : Int), .int .i64 mi] 70 := hZ
   obtain ⟨g0, g1, g2⟩ := hZ.three
   go_wp2_with fail
   refine bodyPost_ret (v := .tuple #[.agg #[.string d, .int .i64 (mg : Int), .int .i64 mi], .bool _]) (by simp [results, Tryz.results100, go_sem, g0, g1, g2]; rfl) rfl ⟨by simp, hBz⟩
  ·cases tb
   ·refine wp_region_held_drew (S := fun w' => w'.cell? ⟨w.heap.size, 0, none⟩ = some (.int .i64 s.least) ∧ w'.cell? ⟨w.heap.size, 2, none⟩ = some (.slice a.ta s.tiers.length a.tc) ∧ w'.cell? ⟨w4.heap.size, 0, none⟩ = some (.string d) ∧ w'.cell? ⟨w4.heap.size, 1, none⟩ = some (.int .i64 (mg : Int)) ∧ w'.cell? ⟨w4.heap.size, 2, none⟩ = some (.int .i64 mi)) (by kernel_rfl) ⟨m0, m2, x0, x1, x2⟩ (fun hHeld => ?_)
    generalize W5.drew = w5 at *
    refine wpAnyH_take (i := 0) (v := ?_) rfl (by kernel_rfl) (by kernel_rfl) (by kernel_rfl) (fun _ _ _ h => h) (Or.inl ⟨by kernel_rfl, ?_⟩) (by assumption) ?_
    rotate_left
    ·(intro w hSw; (try dsimp only at hSw); go_simp; try (with_reducible rfl))
    try go_frame
    refine wpAnyH_take (i := 1) (v := ?_) rfl (by kernel_rfl) (by kernel_rfl) (by kernel_rfl) (fun _ _ _ h => h) (Or.inl ⟨by kernel_rfl, ?_⟩) (by assumption) ?_
    rotate_left
    ·(intro w hSw; (try dsimp only at hSw); go_simp; try (with_reducible rfl))
    try go_frame
    refine wpAnyH_take (i := 2) (v := ?_) rfl (by kernel_rfl) (by kernel_rfl) (by kernel_rfl) (fun _ _ _ h => h) (Or.inl ⟨by kernel_rfl, ?_⟩) (by assumption) ?_
    rotate_left
    ·(intro w hSw; (try dsimp only at hSw); go_simp; try (with_reducible rfl))
    try go_frame
    refine wpAnyH_take (i := 3) (v := ?_) rfl (by kernel_rfl) (by kernel_rfl) (by kernel_rfl) (fun _ _ _ h => h) (Or.inl ⟨by kernel_rfl, ?_⟩) (by assumption) ?_
    rotate_left
    ·(intro w hSw; (try dsimp only at hSw); go_simp; try (with_reducible rfl))
    try go_frame
    refine wpAnyH_take (i := 4) (v := ?_) rfl (by kernel_rfl) (by kernel_rfl) (by kernel_rfl) (fun _ _ _ h => h) (Or.inl ⟨by kernel_rfl, ?_⟩) (by assumption) ?_
    rotate_left
    ·(intro w hSw; (try dsimp only at hSw); go_simp; try (with_reducible rfl))
    try go_frame
    refine wpAnyH_take (i := 5) (v := ?_) rfl (by kernel_rfl) (by kernel_rfl) (by kernel_rfl) (fun _ _ _ h => h) (Or.inl ⟨by kernel_rfl, ?_⟩) (by assumption) ?_
    rotate_left
    ·(intro w hSw; (try dsimp only at hSw); go_simp; try (with_reducible rfl))
    try go_frame
    refine wpAnyH_take (i := 6) (v := ?_) rfl (by kernel_rfl) (by kernel_rfl) (by kernel_rfl) (fun _ _ _ h => h) (Or.inl ⟨by kernel_rfl, ?_⟩) (by assumption) ?_
    rotate_left
    ·(intro w hSw; (try dsimp only at hSw); go_simp; try (with_reducible rfl))
    try go_frame
    refine wpAnyH_take (i := 7) (v := ?_) rfl (by kernel_rfl) (by kernel_rfl) (by kernel_rfl) (fun _ _ _ h => h) (Or.inl ⟨by kernel_rfl, ?_⟩) (by assumption) ?_
    rotate_left
    ·(intro w hSw; (try dsimp only at hSw); go_simp; try (with_reducible rfl))
    try go_frame
    refine wpAnyH_take (i := 8) (v := ?_) rfl (by kernel_rfl) (by kernel_rfl) (by kernel_rfl) (fun _ _ _ h => h) (Or.inl ⟨by kernel_rfl, ?_⟩) (by assumption) ?_
    rotate_left
    ·(intro w hSw; (try dsimp only at hSw); go_simp; try (with_reducible rfl))
    try go_frame
    refine wpAnyH_take (i := 9) (v := ?_) rfl (by kernel_rfl) (by kernel_rfl) (by kernel_rfl) (fun _ _ _ h => h) (Or.inl ⟨by kernel_rfl, ?_⟩) (by assumption) ?_
    rotate_left
    ·(intro w hSw; (try dsimp only at hSw); go_simp; try (with_reducible rfl))
    try go_frame
    refine wpAnyH_take (i := 10) (v := ?_) rfl (by kernel_rfl) (by kernel_rfl) (by kernel_rfl) (fun _ _ _ h => h) (Or.inl ⟨by kernel_rfl, ?_⟩) (by assumption) ?_
    rotate_left
    ·(intro w hSw; (try dsimp only at hSw); go_simp; try (with_reducible rfl))
    try go_frame
    refine wpAnyH_take (i := 11) (v := ?_) rfl (by kernel_rfl) (by kernel_rfl) (by kernel_rfl) (fun _ _ _ h => h) (Or.inl ⟨by kernel_rfl, ?_⟩) (by assumption) ?_
    rotate_left
    ·(intro w hSw; (try dsimp only at hSw); go_simp; try (with_reducible rfl))
    try go_frame
    refine wpAnyH_take (i := 12) (v := ?_) rfl (by kernel_rfl) (by kernel_rfl) (by kernel_rfl) (fun _ _ _ h => h) (Or.inl ⟨by kernel_rfl, ?_⟩) (by assumption) ?_
    rotate_left
    ·(intro w hSw; (try dsimp only at hSw); go_simp; try (with_reducible rfl))
    try go_frame
    refine wpAnyH_take (i := 13) (v := ?_) rfl (by kernel_rfl) (by kernel_rfl) (by kernel_rfl) (fun _ _ _ h => h) (Or.inl ⟨by kernel_rfl, ?_⟩) (by assumption) ?_
    rotate_left
    ·(intro w hSw; (try dsimp only at hSw); go_simp; try (with_reducible rfl))
    try go_frame
    refine wpAnyH_take (i := 14) (v := ?_) rfl (by kernel_rfl) (by kernel_rfl) (by kernel_rfl) (fun _ _ _ h => h) (Or.inl ⟨by kernel_rfl, ?_⟩) (by assumption) ?_
    rotate_left
    ·(intro w hSw; (try dsimp only at hSw); go_simp; try (with_reducible rfl))
    try go_frame
    refine wpAnyH_ready (rs := [15]) (by kernel_rfl) (by simp) ?_
    refine AllReadyH.cons rfl (fun K hK => ?_) AllReadyH.nil
    go_simp
    refine (HAT.out _ hv).mono ?_
    rintro e w6 ⟨rfl, hq⟩
    have hv := below_up hv hq
    clear m0 m1 m2 m3 m4 m5 m6 m7 z0 z1 z2 zf x0 x1 x2
    obtain ⟨m0, m1, m2, m3, m4, m5, m6, m7⟩ := HCL.out _ hv
    obtain ⟨z0, z1, z2⟩ := (HQ.out.keep hv).three
    have zf := (HQ.out.keep hv).free
    obtain ⟨x0, x1, x2⟩ := (HX.out.keep hq).three
    refine hK.out _ _ (⟨m0, m2, x0, x1, x2⟩) (fun hHeld => ?_)
    clear hK K
    try go_frame
    refine wpAnyH_take (i := 16) (v := ?_) rfl (by kernel_rfl) (by kernel_rfl) (by kernel_rfl) (fun _ _ _ h => h) (Or.inl ⟨by kernel_rfl, ?_⟩) (by assumption) ?_
    rotate_left
    ·(intro w hSw; (try dsimp only at hSw); go_simp; try (with_reducible rfl))
    try go_frame
    refine wpAnyH_take (i := 17) (v := ?_) rfl (by kernel_rfl) (by kernel_rfl) (by kernel_rfl) (fun _ _ _ h => h) (Or.inl ⟨by kernel_rfl, ?_⟩) (by assumption) ?_
    rotate_left
    ·(intro w hSw; (try dsimp only at hSw); go_simp; try (with_reducible rfl))
    try go_frame
    refine wpAnyH_take (i := 18) (v := ?_) rfl (by kernel_rfl) (by kernel_rfl) (by kernel_rfl) (fun _ _ _ h => h) (Or.inl ⟨by kernel_rfl, ?_⟩) (by assumption) ?_
    rotate_left
    ·(intro w hSw; (try dsimp only at hSw); go_simp; try (with_reducible rfl))
    try go_frame
    refine wpAnyH_ready (rs := [19]) (by kernel_rfl) (by simp) ?_
    refine AllReadyH.cons rfl (fun K hK => ?_) AllReadyH.nil
    go_simp
    refine hK.out _ _ (by refine ⟨?_, ?_, ?_, ?_, ?_⟩ <;> go_keep) (fun hHeld => ?_)
    clear hK K
    try go_frame
    refine wpAnyH_ready (rs := [20]) (by kernel_rfl) (by simp) ?_
    refine AllReadyH.cons rfl (fun K hK => ?_) AllReadyH.nil
    go_simp
    refine hK.out _ _ (hHeld) (fun hHeld => ?_)
    clear hK K
    try go_frame
    refine wpAnyH_done (by kernel_rfl) ?_ _
    have hZ := ((((HQ.out.keep hv).set 0 (.string d)).set 1 (.int .i64 (mg : Int))).set 2 (.int .i64 mi))
    have hBz := ((((below_up HB.out hv).setCell (p := ⟨w.heap.size + 1, 0, none⟩) (by simp) (.string d)).setCell (p := ⟨w.heap.size + 1, 1, none⟩) (by simp) (.int .i64 (mg : Int))).setCell (p := ⟨w.heap.size + 1, 2, none⟩) (by simp) (.int .i64 mi))
    obtain ⟨V, hV⟩ : ∃ V, (((w6.setCell ⟨w.heap.size + 1, 0, none⟩ (.string d)).setCell ⟨w.heap.size + 1, 1, none⟩ (.int .i64 (mg : Int))).setCell ⟨w.heap.size + 1, 2, none⟩ (.int .i64 mi)) = V := ⟨_, rfl⟩
    rw [hV] at hZ hBz ⊢
    have hZ : Blk V (w.heap.size + 1) #[.string d, .int .i64 (mg : Int), .int .i64 mi] 70 := hZ
    obtain ⟨g0, g1, g2⟩ := hZ.three
    go_wp2_with fail
    refine bodyPost_ret (v := .tuple #[.agg #[.string d, .int .i64 (mg : Int), .int .i64 mi], .bool _]) (by simp [results, Tryz.results100, go_sem, g0, g1, g2]; rfl) rfl ⟨by simp, hBz⟩
   ·refine wp_region_held_drew (S := fun w' => w'.cell? ⟨w.heap.size, 0, none⟩ = some (.int .i64 s.least) ∧ w'.cell? ⟨w.heap.size, 2, none⟩ = some (.slice a.ta s.tiers.length a.tc) ∧ w'.cell? ⟨w4.heap.size, 0, none⟩ = some (.string d) ∧ w'.cell? ⟨w4.heap.size, 1, none⟩ = some (.int .i64 (mg : Int)) ∧ w'.cell? ⟨w4.heap.size, 2, none⟩ = some (.int .i64 mi)) (by kernel_rfl) ⟨m0, m2, x0, x1, x2⟩ (fun hHeld => ?_)
    generalize W5.drew = w5 at *
    refine wpAnyH_take (i := 0) (v := ?_) rfl (by kernel_rfl) (by kernel_rfl) (by kernel_rfl) (fun _ _ _ h => h) (Or.inl ⟨by kernel_rfl, ?_⟩) (by assumption) ?_
    rotate_left
    ·(intro w hSw; (try dsimp only at hSw); go_simp; try (with_reducible rfl))
    try go_frame
    refine wpAnyH_take (i := 1) (v := ?_) rfl (by kernel_rfl) (by kernel_rfl) (by kernel_rfl) (fun _ _ _ h => h) (Or.inl ⟨by kernel_rfl, ?_⟩) (by assumption) ?_
    rotate_left
    ·(intro w hSw; (try dsimp only at hSw); go_simp; try (with_reducible rfl))
    try go_frame
    refine wpAnyH_take (i := 2) (v := ?_) rfl (by kernel_rfl) (by kernel_rfl) (by kernel_rfl) (fun _ _ _ h => h) (Or.inl ⟨by kernel_rfl, ?_⟩) (by assumption) ?_
    rotate_left
    ·(intro w hSw; (try dsimp only at hSw); go_simp; try (with_reducible rfl))
    try go_frame
    refine wpAnyH_take (i := 3) (v := ?_) rfl (by kernel_rfl) (by kernel_rfl) (by kernel_rfl) (fun _ _ _ h => h) (Or.inl ⟨by kernel_rfl, ?_⟩) (by assumption) ?_
    rotate_left
    ·(intro w hSw; (try dsimp only at hSw); go_simp; try (with_reducible rfl))
    try go_frame
    refine wpAnyH_take (i := 4) (v := ?_) rfl (by kernel_rfl) (by kernel_rfl) (by kernel_rfl) (fun _ _ _ h => h) (Or.inl ⟨by kernel_rfl, ?_⟩) (by assumption) ?_
    rotate_left
    ·(intro w hSw; (try dsimp only at hSw); go_simp; try (with_reducible rfl))
    try go_frame
    refine wpAnyH_take (i := 5) (v := ?_) rfl (by kernel_rfl) (by kernel_rfl) (by kernel_rfl) (fun _ _ _ h => h) (Or.inl ⟨by kernel_rfl, ?_⟩) (by assumption) ?_
    rotate_left
    ·(intro w hSw; (try dsimp only at hSw); go_simp; try (with_reducible rfl))
    try go_frame
    refine wpAnyH_take (i := 6) (v := ?_) rfl (by kernel_rfl) (by kernel_rfl) (by kernel_rfl) (fun _ _ _ h => h) (Or.inl ⟨by kernel_rfl, ?_⟩) (by assumption) ?_
    rotate_left
    ·(intro w hSw; (try dsimp only at hSw); go_simp; try (with_reducible rfl))
    try go_frame
    refine wpAnyH_take (i := 7) (v := ?_) rfl (by kernel_rfl) (by kernel_rfl) (by kernel_rfl) (fun _ _ _ h => h) (Or.inl ⟨by kernel_rfl, ?_⟩) (by assumption) ?_
    rotate_left
    ·(intro w hSw; (try dsimp only at hSw); go_simp; try (with_reducible rfl))
    try go_frame
    refine wpAnyH_take (i := 8) (v := ?_) rfl (by kernel_rfl) (by kernel_rfl) (by kernel_rfl) (fun _ _ _ h => h) (Or.inl ⟨by kernel_rfl, ?_⟩) (by assumption) ?_
    rotate_left
    ·(intro w hSw; (try dsimp only at hSw); go_simp; try (with_reducible rfl))
    try go_frame
    refine wpAnyH_take (i := 9) (v := ?_) rfl (by kernel_rfl) (by kernel_rfl) (by kernel_rfl) (fun _ _ _ h => h) (Or.inl ⟨by kernel_rfl, ?_⟩) (by assumption) ?_
    rotate_left
    ·(intro w hSw; (try dsimp only at hSw); go_simp; try (with_reducible rfl))
    try go_frame
    refine wpAnyH_take (i := 10) (v := ?_) rfl (by kernel_rfl) (by kernel_rfl) (by kernel_rfl) (fun _ _ _ h => h) (Or.inl ⟨by kernel_rfl, ?_⟩) (by assumption) ?_
    rotate_left
    ·(intro w hSw; (try dsimp only at hSw); go_simp; try (with_reducible rfl))
    try go_frame
    refine wpAnyH_take (i := 11) (v := ?_) rfl (by kernel_rfl) (by kernel_rfl) (by kernel_rfl) (fun _ _ _ h => h) (Or.inl ⟨by kernel_rfl, ?_⟩) (by assumption) ?_
    rotate_left
    ·(intro w hSw; (try dsimp only at hSw); go_simp; try (with_reducible rfl))
    try go_frame
    refine wpAnyH_take (i := 12) (v := ?_) rfl (by kernel_rfl) (by kernel_rfl) (by kernel_rfl) (fun _ _ _ h => h) (Or.inl ⟨by kernel_rfl, ?_⟩) (by assumption) ?_
    rotate_left
    ·(intro w hSw; (try dsimp only at hSw); go_simp; try (with_reducible rfl))
    try go_frame
    refine wpAnyH_take (i := 13) (v := ?_) rfl (by kernel_rfl) (by kernel_rfl) (by kernel_rfl) (fun _ _ _ h => h) (Or.inl ⟨by kernel_rfl, ?_⟩) (by assumption) ?_
    rotate_left
    ·(intro w hSw; (try dsimp only at hSw); go_simp; try (with_reducible rfl))
    try go_frame
    refine wpAnyH_take (i := 14) (v := ?_) rfl (by kernel_rfl) (by kernel_rfl) (by kernel_rfl) (fun _ _ _ h => h) (Or.inl ⟨by kernel_rfl, ?_⟩) (by assumption) ?_
    rotate_left
    ·(intro w hSw; (try dsimp only at hSw); go_simp; try (with_reducible rfl))
    try go_frame
    refine wpAnyH_ready (rs := [15]) (by kernel_rfl) (by simp) ?_
    refine AllReadyH.cons rfl (fun K hK => ?_) AllReadyH.nil
    go_simp
    refine (HAT.out _ hv).mono ?_
    rintro e w6 ⟨rfl, hq⟩
    have hv := below_up hv hq
    clear m0 m1 m2 m3 m4 m5 m6 m7 z0 z1 z2 zf x0 x1 x2
    obtain ⟨m0, m1, m2, m3, m4, m5, m6, m7⟩ := HCL.out _ hv
    obtain ⟨z0, z1, z2⟩ := (HQ.out.keep hv).three
    have zf := (HQ.out.keep hv).free
    obtain ⟨x0, x1, x2⟩ := (HX.out.keep hq).three
    refine hK.out _ _ (⟨m0, m2, x0, x1, x2⟩) (fun hHeld => ?_)
    clear hK K
    try go_frame
    refine wpAnyH_take (i := 16) (v := ?_) rfl (by kernel_rfl) (by kernel_rfl) (by kernel_rfl) (fun _ _ _ h => h) (Or.inl ⟨by kernel_rfl, ?_⟩) (by assumption) ?_
    rotate_left
    ·(intro w hSw; (try dsimp only at hSw); go_simp; try (with_reducible rfl))
    try go_frame
    refine wpAnyH_take (i := 17) (v := ?_) rfl (by kernel_rfl) (by kernel_rfl) (by kernel_rfl) (fun _ _ _ h => h) (Or.inl ⟨by kernel_rfl, ?_⟩) (by assumption) ?_
    rotate_left
    ·(intro w hSw; (try dsimp only at hSw); go_simp; try (with_reducible rfl))
    try go_frame
    refine wpAnyH_take (i := 18) (v := ?_) rfl (by kernel_rfl) (by kernel_rfl) (by kernel_rfl) (fun _ _ _ h => h) (Or.inl ⟨by kernel_rfl, ?_⟩) (by assumption) ?_
    rotate_left
    ·(intro w hSw; (try dsimp only at hSw); go_simp; try (with_reducible rfl))
    try go_frame
    refine wpAnyH_ready (rs := [19]) (by kernel_rfl) (by simp) ?_
    refine AllReadyH.cons rfl (fun K hK => ?_) AllReadyH.nil
    go_simp
    refine hK.out _ _ (by refine ⟨?_, ?_, ?_, ?_, ?_⟩ <;> go_keep) (fun hHeld => ?_)
    clear hK K
    try go_frame
    refine wpAnyH_ready (rs := [20]) (by kernel_rfl) (by simp) ?_
    refine AllReadyH.cons rfl (fun K hK => ?_) AllReadyH.nil
    go_simp
    refine hK.out _ _ (hHeld) (fun hHeld => ?_)
    clear hK K
    try go_frame
    refine wpAnyH_done (by kernel_rfl) ?_ _
    have hZ := ((((HQ.out.keep hv).set 0 (.string d)).set 1 (.int .i64 (mg : Int))).set 2 (.int .i64 mi))
    have hBz := ((((below_up HB.out hv).setCell (p := ⟨w.heap.size + 1, 0, none⟩) (by simp) (.string d)).setCell (p := ⟨w.heap.size + 1, 1, none⟩) (by simp) (.int .i64 (mg : Int))).setCell (p := ⟨w.heap.size + 1, 2, none⟩) (by simp) (.int .i64 mi))
    obtain ⟨V, hV⟩ : ∃ V, (((w6.setCell ⟨w.heap.size + 1, 0, none⟩ (.string d)).setCell ⟨w.heap.size + 1, 1, none⟩ (.int .i64 (mg : Int))).setCell ⟨w.heap.size + 1, 2, none⟩ (.int .i64 mi)) = V := ⟨_, rfl⟩
    rw [hV] at hZ hBz ⊢
    have hZ : Blk V (w.heap.size + 1) #[.string d, .int .i64 (mg : Int), .int .i64 mi] 70 := hZ
    obtain ⟨g0, g1, g2⟩ := hZ.three
    go_wp2_with fail
    refine bodyPost_ret (v := .tuple #[.agg #[.string d, .int .i64 (mg : Int), .int .i64 mi], .bool _]) (by simp [results, Tryz.results100, go_sem, g0, g1, g2]; rfl) rfl ⟨by simp, hBz⟩
 ·refine wp_region_held_drew (S := fun w' => w'.cell? ⟨w.heap.size, 0, none⟩ = some (.int .i64 s.least) ∧ w'.cell? ⟨w.heap.size, 2, none⟩ = some (.slice a.ta s.tiers.length a.tc) ∧ w'.cell? ⟨w4.heap.size, 0, none⟩ = some (.string d) ∧ w'.cell? ⟨w4.heap.size, 1, none⟩ = some (.int .i64 (mg : Int)) ∧ w'.cell? ⟨w4.heap.size, 2, none⟩ = some (.int .i64 mi)) (by kernel_rfl) ⟨m0, m2, x0, x1, x2⟩ (fun hHeld => ?_)
  generalize W5.drew = w5 at *
  refine wpAnyH_take (i := 0) (v := ?_) rfl (by kernel_rfl) (by kernel_rfl) (by kernel_rfl) (fun _ _ _ h => h) (Or.inl ⟨by kernel_rfl, ?_⟩) (by assumption) ?_
  rotate_left
  ·(intro w hSw; (try dsimp only at hSw); go_simp; try (with_reducible rfl))
  try go_frame
  refine wpAnyH_take (i := 1) (v := ?_) rfl (by kernel_rfl) (by kernel_rfl) (by kernel_rfl) (fun _ _ _ h => h) (Or.inl ⟨by kernel_rfl, ?_⟩) (by assumption) ?_
  rotate_left
  ·(intro w hSw; (try dsimp only at hSw); go_simp; try (with_reducible rfl))
  try go_frame
  refine wpAnyH_take (i := 2) (v := ?_) rfl (by kernel_rfl) (by kernel_rfl) (by kernel_rfl) (fun _ _ _ h => h) (Or.inl ⟨by kernel_rfl, ?_⟩) (by assumption) ?_
  rotate_left
  ·(intro w hSw; (try dsimp only at hSw); go_simp; try (with_reducible rfl))
  try go_frame
  refine wpAnyH_take (i := 3) (v := ?_) rfl (by kernel_rfl) (by kernel_rfl) (by kernel_rfl) (fun _ _ _ h => h) (Or.inl ⟨by kernel_rfl, ?_⟩) (by assumption) ?_
  rotate_left
  ·(intro w hSw; (try dsimp only at hSw); go_simp; try (with_reducible rfl))
  try go_frame
  refine wpAnyH_take (i := 4) (v := ?_) rfl (by kernel_rfl) (by kernel_rfl) (by kernel_rfl) (fun _ _ _ h => h) (Or.inl ⟨by kernel_rfl, ?_⟩) (by assumption) ?_
  rotate_left
  ·(intro w hSw; (try dsimp only at hSw); go_simp; try (with_reducible rfl))
  try go_frame
  refine wpAnyH_take (i := 5) (v := ?_) rfl (by kernel_rfl) (by kernel_rfl) (by kernel_rfl) (fun _ _ _ h => h) (Or.inl ⟨by kernel_rfl, ?_⟩) (by assumption) ?_
  rotate_left
  ·(intro w hSw; (try dsimp only at hSw); go_simp; try (with_reducible rfl))
  try go_frame
  refine wpAnyH_take (i := 6) (v := ?_) rfl (by kernel_rfl) (by kernel_rfl) (by kernel_rfl) (fun _ _ _ h => h) (Or.inl ⟨by kernel_rfl, ?_⟩) (by assumption) ?_
  rotate_left
  ·(intro w hSw; (try dsimp only at hSw); go_simp; try (with_reducible rfl))
  try go_frame
  refine wpAnyH_take (i := 7) (v := ?_) rfl (by kernel_rfl) (by kernel_rfl) (by kernel_rfl) (fun _ _ _ h => h) (Or.inl ⟨by kernel_rfl, ?_⟩) (by assumption) ?_
  rotate_left
  ·(intro w hSw; (try dsimp only at hSw); go_simp; try (with_reducible rfl))
  try go_frame
  refine wpAnyH_take (i := 8) (v := ?_) rfl (by kernel_rfl) (by kernel_rfl) (by kernel_rfl) (fun _ _ _ h => h) (Or.inr ⟨by kernel_rfl, ?_⟩) (by assumption) ?_
  rotate_left
  ·rfl
  try go_frame
  refine wpAnyH_take (i := 9) (v := ?_) rfl (by kernel_rfl) (by kernel_rfl) (by kernel_rfl) (fun _ _ _ h => h) (Or.inr ⟨by kernel_rfl, ?_⟩) (by assumption) ?_
  rotate_left
  ·rfl
  try go_frame
  refine wpAnyH_take (i := 10) (v := ?_) rfl (by kernel_rfl) (by kernel_rfl) (by kernel_rfl) (fun _ _ _ h => h) (Or.inr ⟨by kernel_rfl, ?_⟩) (by assumption) ?_
  rotate_left
  ·rfl
  try go_frame
  refine wpAnyH_take (i := 11) (v := ?_) rfl (by kernel_rfl) (by kernel_rfl) (by kernel_rfl) (fun _ _ _ h => h) (Or.inr ⟨by kernel_rfl, ?_⟩) (by assumption) ?_
  rotate_left
  ·rfl
  try go_frame
  refine wpAnyH_take (i := 12) (v := ?_) rfl (by kernel_rfl) (by kernel_rfl) (by kernel_rfl) (fun _ _ _ h => h) (Or.inr ⟨by kernel_rfl, ?_⟩) (by assumption) ?_
  rotate_left
  ·rfl
  try go_frame
  refine wpAnyH_take (i := 13) (v := ?_) rfl (by kernel_rfl) (by kernel_rfl) (by kernel_rfl) (fun _ _ _ h => h) (Or.inr ⟨by kernel_rfl, ?_⟩) (by assumption) ?_
  rotate_left
  ·rfl
  try go_frame
  refine wpAnyH_take (i := 14) (v := ?_) rfl (by kernel_rfl) (by kernel_rfl) (by kernel_rfl) (fun _ _ _ h => h) (Or.inr ⟨by kernel_rfl, ?_⟩) (by assumption) ?_
  rotate_left
  ·rfl
  try go_frame
  refine wpAnyH_take (i := 15) (v := ?_) rfl (by kernel_rfl) (by kernel_rfl) (by kernel_rfl) (fun _ _ _ h => h) (Or.inr ⟨by kernel_rfl, ?_⟩) (by assumption) ?_
  rotate_left
  ·rfl
  try go_frame
  refine wpAnyH_take (i := 16) (v := ?_) rfl (by kernel_rfl) (by kernel_rfl) (by kernel_rfl) (fun _ _ _ h => h) (Or.inr ⟨by kernel_rfl, ?_⟩) (by assumption) ?_
  rotate_left
  ·rfl
  try go_frame
  refine wpAnyH_take (i := 17) (v := ?_) rfl (by kernel_rfl) (by kernel_rfl) (by kernel_rfl) (fun _ _ _ h => h) (Or.inr ⟨by kernel_rfl, ?_⟩) (by assumption) ?_
  rotate_left
  ·rfl
  try go_frame
  refine wpAnyH_take (i := 18) (v := ?_) rfl (by kernel_rfl) (by kernel_rfl) (by kernel_rfl) (fun _ _ _ h => h) (Or.inl ⟨by kernel_rfl, ?_⟩) (by assumption) ?_
  rotate_left
  ·(intro w hSw; (try dsimp only at hSw); go_simp; try (with_reducible rfl))
  try go_frame
  refine wpAnyH_ready (rs := [19]) (by kernel_rfl) (by simp) ?_
  refine AllReadyH.cons rfl (fun K hK => ?_) AllReadyH.nil
  go_simp
  refine hK.out _ _ (by refine ⟨?_, ?_, ?_, ?_, ?_⟩ <;> go_keep) (fun hHeld => ?_)
  clear hK K
  try go_frame
  refine wpAnyH_ready (rs := [20]) (by kernel_rfl) (by simp) ?_
  refine AllReadyH.cons rfl (fun K hK => ?_) AllReadyH.nil
  go_simp
  refine hK.out _ _ (hHeld) (fun hHeld => ?_)
  clear hK K
  try go_frame
  refine wpAnyH_done (by kernel_rfl) ?_ _
  have hZ := ((((HQ.out.keep hv).set 0 (.string d)).set 1 (.int .i64 (mg : Int))).set 2 (.int .i64 mi))
  have hBz := ((((below_up HB.out hv).setCell (p := ⟨w.heap.size + 1, 0, none⟩) (by simp) (.string d)).setCell (p := ⟨w.heap.size + 1, 1, none⟩) (by simp) (.int .i64 (mg : Int))).setCell (p := ⟨w.heap.size + 1, 2, none⟩) (by simp) (.int .i64 mi))
  obtain ⟨V, hV⟩ : ∃ V, (((w5.setCell ⟨w.heap.size + 1, 0, none⟩ (.string d)).setCell ⟨w.heap.size + 1, 1, none⟩ (.int .i64 (mg : Int))).setCell ⟨w.heap.size + 1, 2, none⟩ (.int .i64 mi)) = V := ⟨_, rfl⟩
  rw [hV] at hZ hBz ⊢
  have hZ : Blk V (w.heap.size + 1) #[.string d, .int .i64 (mg : Int), .int .i64 mi] 70 := hZ
  obtain ⟨g0, g1, g2⟩ := hZ.three
  go_wp2_with fail
  refine bodyPost_ret (v := .tuple #[.agg #[.string d, .int .i64 (mg : Int), .int .i64 mi], .bool _]) (by simp [results, Tryz.results100, go_sem, g0, g1, g2]; rfl) rfl ⟨by simp, hBz⟩
theorem isGarbage_is (s : Sto) (a : StA) (mb : Nat) (c : Cop) (hc : c ∈ s.copies) (w : World) (hI : StIn w s a) (hM : FMap w mb s.files) (r : St.Right s) :
  Calls Tryz.prog 165 #[.agg #[.int .i64 s.least, .int .i64 s.wait, .slice a.ta s.tiers.length a.tc, .slice a.fa s.files.length a.fc, .slice a.ca s.copies.length a.cc, .slice a.ha s.held.length a.hc, .slice a.ba s.bin.length a.bc, .map (some mb)], .agg #[.string c.dig, .string c.tier, .bool c.good, .int .i64 c.asked]] w fun e w' => e = .returned (.bool (St.garbage s c)) ∧ Below w.heap.size w w' := by
 have h16 := St.cop_dig r hc
 obtain ⟨W0, hW0, hP, hz0, hB0⟩ := box w #[.int .i64 s.least, .int .i64 s.wait, .slice a.ta s.tiers.length a.tc, .slice a.fa s.files.length a.fc, .slice a.ca s.copies.length a.cc, .slice a.ha s.held.length a.hc, .slice a.ba s.bin.length a.bc, .map (some mb)] 135
 obtain ⟨W1, hW1, hC, hz1, hB1⟩ := box W0 #[.string c.dig, .string c.tier, .bool c.good, .int .i64 c.asked] 74
 have HW0 := Lib.hid hW0; have HW1 := Lib.hid hW1
 have hP := hP.keep hB1
 rw [hz0] at hC hz1
 have HB1 := Lib.hid (below_up hB0 hB1)
 have q7 : W1.cell? ⟨w.heap.size, 7, none⟩ = some (.map (some mb)) := hP.eight.2.2.2.2.2.2.2
 obtain ⟨c0, c1, c2, c3⟩ := hC.four
 obtain ⟨f, hlk, hf⟩ := FMap.kind (hM.keep HB1.out) r.fup (d := c.dig) (by omega)
 obtain ⟨W2, hW2, hX, hz2, hB2⟩ := box W1 #[.string f.dig, .int .i64 f.size, .int .i64 f.kind, .string f.frm] 30
 have HW2 := Lib.hid hW2
 have HBB := Lib.hid (below_up HB1.out hB2)
 have h16f : f.kind = 3 → f.frm.size = 16 := fun h => by rw [hf] at h ⊢; exact (St.frm16 r (.inl h)).1
 have hgb : St.garbage s c = (!(St.neededD s c.dig || (decide (f.kind = 3) && St.neededD s f.frm)) || (!c.good && decide (0 < (St.goodL s c.dig).length))) := by rw [hf]; rfl
 have HN1 := Lib.hid (fun V (hv : Below W2.heap.size W2 V) => needed_is s a mb c.dig V ((hI.keep HBB.out).keep hv) ((hM.keep HBB.out).keep hv) r (by omega))
 have HN2 := Lib.hid (fun (hk : f.kind = 3) V (hv : Below W2.heap.size W2 V) => needed_is s a mb f.frm V ((hI.keep HBB.out).keep hv) ((hM.keep HBB.out).keep hv) r (by have := h16f hk; omega))
 have HGD := Lib.hid (fun V (hv : Below W2.heap.size W2 V) => good_is s a mb c.dig V ((hI.keep HBB.out).keep hv) r h16)
 unfold TirPost at HGD
 have HVC : Hid (∀ V, Below W2.heap.size W2 V → V.cell? ⟨w.heap.size, 0, none⟩ = some (.int .i64 s.least) ∧ V.cell? ⟨w.heap.size, 1, none⟩ = some (.int .i64 s.wait) ∧ V.cell? ⟨w.heap.size, 2, none⟩ = some (.slice a.ta s.tiers.length a.tc) ∧ V.cell? ⟨w.heap.size, 3, none⟩ = some (.slice a.fa s.files.length a.fc) ∧ V.cell? ⟨w.heap.size, 4, none⟩ = some (.slice a.ca s.copies.length a.cc) ∧ V.cell? ⟨w.heap.size, 5, none⟩ = some (.slice a.ha s.held.length a.hc) ∧ V.cell? ⟨w.heap.size, 6, none⟩ = some (.slice a.ba s.bin.length a.bc) ∧ V.cell? ⟨w.heap.size, 7, none⟩ = some (.map (some mb))) := Lib.hid fun V hv => ((hP.keep hB2).keep hv).eight
 have HUC : Hid (∀ V, Below W2.heap.size W2 V → V.cell? ⟨W1.heap.size, 2, none⟩ = some (.int .i64 f.kind) ∧ V.cell? ⟨W1.heap.size, 3, none⟩ = some (.string f.frm)) := Lib.hid fun V hv => ((hX.keep hv).four).2.2
 have HCC : Hid (∀ V, Below W2.heap.size W2 V → V.cell? ⟨w.heap.size + 1, 0, none⟩ = some (.string c.dig) ∧ V.cell? ⟨w.heap.size + 1, 2, none⟩ = some (.bool c.good)) := Lib.hid fun V hv => ⟨(((hC.keep hB2).keep hv).four).1, (((hC.keep hB2).keep hv).four).2.2.1⟩
 have HGB := Lib.hid hgb
 clear hI hM r hW0 hW1 hP hC hz0 hz1 hB0 hB1 hW2 hX hz2 hB2 hf h16 h16f hgb hc
 go_enter Tryz.func165, Tryz.ntmps165
 go_upto_region 1 with fail
 rw [HW0.out, HW1.out]
 go_upto_region 2 with fail
 rw [HW2.out]
 clear q7 hlk c0 c1 c2 c3
 have hv : Below W2.heap.size W2 W2 := Below.refl _ _
 obtain ⟨p0, p1, p2, p3, p4, p5, p6, p7⟩ := HVC.out _ hv
 obtain ⟨u2, u3⟩ := HUC.out _ hv
 obtain ⟨d0, d2⟩ := HCC.out _ hv
 obtain ⟨kb, hkb⟩ : ∃ kb, decide (f.kind = 3) = kb := ⟨_, rfl⟩
 have hkc : (f.kind == 3) = kb := by rw [← hkb]; rfl
 have HK3 : Hid (kb = true → f.kind = 3) := Lib.hid fun h => by rw [h] at hkb; exact of_decide_eq_true hkb
 have hg := HGB.out
 rw [hkb] at hg
 obtain ⟨m, hm⟩ : ∃ m, (St.goodL s c.dig).length = m := ⟨_, rfl⟩
 rw [hm] at HGD hg
 generalize St.neededD s c.dig = n1 at *
 generalize St.neededD s f.frm = n2 at *
 obtain ⟨cg, hcg⟩ : ∃ cg, c.good = cg := ⟨_, rfl⟩
 rw [hcg] at d2 HCC hg
 have HG := Lib.hid hg
 clear hg hm hkb hcg HGB
 cases kb
 ·cases n1 <;> cases cg
  all_goals
   go_wp2_with (first
    | (go_at_call 171; (with_reducible refine (HN1.out _ hv).mono ?_); rintro e w3 ⟨rfl, hq⟩; have hv := below_up hv hq; obtain ⟨p0, p1, p2, p3, p4, p5, p6, p7⟩ := HVC.out _ hv; obtain ⟨u2, u3⟩ := HUC.out _ hv; obtain ⟨d0, d2⟩ := HCC.out _ hv)
    | (go_at_call 103; (with_reducible refine (HGD.out _ hv).mono ?_); rintro e w5 ⟨g, cap, rfl, ho, hq⟩; have hv := below_up hv hq))
   go_ret
   exact ⟨ret_bool (by rw [HG.out]; first | rfl | simp), below_up HBB.out hv⟩
 ·have HN3 := Lib.hid (HN2.out (HK3.out rfl))
  cases n1 <;> cases n2 <;> cases cg
  all_goals
   go_wp2_with (first
    | (go_at_call 171; (with_reducible refine (HN1.out _ hv).mono ?_); rintro e w3 ⟨rfl, hq⟩; have hv := below_up hv hq; obtain ⟨p0, p1, p2, p3, p4, p5, p6, p7⟩ := HVC.out _ hv; obtain ⟨u2, u3⟩ := HUC.out _ hv; obtain ⟨d0, d2⟩ := HCC.out _ hv)
    | (go_at_call 171; (with_reducible refine (HN3.out _ hv).mono ?_); rintro e w4 ⟨rfl, hq⟩; have hv := below_up hv hq; obtain ⟨p0, p1, p2, p3, p4, p5, p6, p7⟩ := HVC.out _ hv; obtain ⟨u2, u3⟩ := HUC.out _ hv; obtain ⟨d0, d2⟩ := HCC.out _ hv)
    | (go_at_call 103; (with_reducible refine (HGD.out _ hv).mono ?_); rintro e w5 ⟨g, cap, rfl, ho, hq⟩; have hv := below_up hv hq))
   go_ret
   exact ⟨ret_bool (by rw [HG.out]; first | rfl | simp), below_up HBB.out hv⟩
def CopPost (w : World) (L : List Cop) (e : Ending) (w' : World) : Prop := ∃ g cap, e = .returned (.slice g L.length cap) ∧ OwnV w' w.heap.size 74 4 (.slice g L.length cap) L.length (St.eC.flat L) ∧ Below w.heap.size w w'
theorem garbage_is (s : Sto) (a : StA) (mb : Nat) (w : World) (hI : StIn w s a) (hM : FMap w mb s.files) (r : St.Right s) :
  Calls Tryz.prog 105 #[.agg #[.int .i64 s.least, .int .i64 s.wait, .slice a.ta s.tiers.length a.tc, .slice a.fa s.files.length a.fc, .slice a.ca s.copies.length a.cc, .slice a.ha s.held.length a.hc, .slice a.ba s.bin.length a.bc, .map (some mb)]] w (CopPost w (St.garbageL s)) := by
 obtain ⟨W1, hW1, hP, hz1, hB1⟩ := box w #[.int .i64 s.least, .int .i64 s.wait, .slice a.ta s.tiers.length a.tc, .slice a.fa s.files.length a.fc, .slice a.ca s.copies.length a.cc, .slice a.ha s.held.length a.hc, .slice a.ba s.bin.length a.bc, .map (some mb)] 135
 have HW1 := Lib.hid hW1; have HB1 := Lib.hid hB1
 obtain ⟨_, y1, y2, y3, y4, y5⟩ := St.sizes_iff.1 r.sizes
 have HGB := Lib.hid (fun c (hc : c ∈ s.copies) V (hv : Below W1.heap.size W1 V) => isGarbage_is s a mb c hc V ((hI.keep hB1).keep hv) ((hM.keep hB1).keep hv) r)
 have HI := Lib.hid hI
 have hcl := hI.cl
 have HCL : Hid (∀ V, Below W1.heap.size W1 V → V.cell? ⟨w.heap.size, 0, none⟩ = some (.int .i64 s.least) ∧ V.cell? ⟨w.heap.size, 1, none⟩ = some (.int .i64 s.wait) ∧ V.cell? ⟨w.heap.size, 2, none⟩ = some (.slice a.ta s.tiers.length a.tc) ∧ V.cell? ⟨w.heap.size, 3, none⟩ = some (.slice a.fa s.files.length a.fc) ∧ V.cell? ⟨w.heap.size, 4, none⟩ = some (.slice a.ca s.copies.length a.cc) ∧ V.cell? ⟨w.heap.size, 5, none⟩ = some (.slice a.ha s.held.length a.hc) ∧ V.cell? ⟨w.heap.size, 6, none⟩ = some (.slice a.ba s.bin.length a.bc) ∧ V.cell? ⟨w.heap.size, 7, none⟩ = some (.map (some mb))) := Lib.hid fun V hv => (hP.keep hv).eight
 have HGL : Hid (St.garbageL s = s.copies.filter (St.garbage s)) := Lib.hid rfl
 obtain ⟨m0, m1, m2, m3, m4, m5, m6, m7⟩ := HCL.out _ (Below.refl _ _)
 have HS1 := Lib.hid hz1
 clear hI hM r hW1 hP hz1 hB1 m0 m1 m2 m3 m5 m6 m7 y1 y2 y4 y5
 obtain ⟨nc, hnc⟩ : ∃ nc, s.copies.length = nc := ⟨_, rfl⟩
 have HNC := Lib.hid hnc
 rw [hnc] at hcl y3 HCL m4 HW1 HGB ⊢
 clear hnc
 go_enter Tryz.func105, Tryz.ntmps105
 go_wp2_with fail
 rw [HW1.out]
 go_wp2_with fail
 clear m4
 go_loopg [3, 10] nc (fun gk v i wr => ∃ j : Nat, j ≤ nc ∧ gk = nc - j ∧ i = .int .i64 j ∧ wr.ownsRow W1.heap.size 74 4 v ((s.copies.take j).filter (St.garbage s)).length (St.eC.flat ((s.copies.take j).filter (St.garbage s))) ∧ Below W1.heap.size W1 wr)
 case atStart => exact ⟨0, by omega, rfl, rfl, World.ownsRow_nil _ _ _ _, Below.refl _ _⟩
 case round =>
  obtain ⟨j, hj, rfl, rfl, hown, hB⟩ := hrel
  by_cases hlt : j < nc
  ·obtain ⟨x, hx⟩ : ∃ x, s.copies[j]? = some x := ⟨_, List.getElem?_eq_getElem (by rw [HNC.out]; exact hlt)⟩
   obtain ⟨b, off, ha, hb, hcell⟩ := ((HI.out.keep (below_up HB1.out hB)).co) (by rw [HNC.out]; omega)
   have c0 : wr.cell? ⟨b, off + j * 4, none⟩ = some (.string x.dig) := hcell j x hx 0 (.string x.dig) rfl
   have c1 : wr.cell? ⟨b, off + j * 4 + 1, none⟩ = some (.string x.tier) := hcell j x hx 1 (.string x.tier) rfl
   have c2 : wr.cell? ⟨b, off + j * 4 + 2, none⟩ = some (.bool x.good) := hcell j x hx 2 (.bool x.good) rfl
   have c3 : wr.cell? ⟨b, off + j * 4 + 3, none⟩ = some (.int .i64 x.asked) := hcell j x hx 3 (.int .i64 x.asked) rfl
   clear hcell
   have hft := St.filter_take (p := St.garbage s) hx
   have hfl := St.filter_len (p := St.garbage s) (L := s.copies) j
   rw [HNC.out] at hfl
   have hmem := List.mem_of_getElem? hx
   obtain ⟨W3, hW3, hX3, hz3, hB3⟩ := box wr #[.string x.dig, .string x.tier, .bool x.good, .int .i64 x.asked] 74
   have HW3 := Lib.hid hW3
   have HAW := Lib.hid (below_up hB hB3)
   have hown3 := own_keepE hown hB3
   have HX : Hid (∀ V, Below W3.heap.size W3 V → V.cell? ⟨wr.heap.size, 0, none⟩ = some (.string x.dig) ∧ V.cell? ⟨wr.heap.size, 1, none⟩ = some (.string x.tier) ∧ V.cell? ⟨wr.heap.size, 2, none⟩ = some (.bool x.good) ∧ V.cell? ⟨wr.heap.size, 3, none⟩ = some (.int .i64 x.asked)) := Lib.hid fun V hv => (hX3.keep hv).four
   have HGX := Lib.hid (HGB.out x hmem)
   have hj0 : (0 : Int) ≤ (j : Int) := by omega
   have hj1 : (j : Int) < (nc : Int) := by omega
   have HFT := Lib.hid hft
   generalize ((s.copies.take j).filter (St.garbage s)) = G at *
   generalize hgd : St.garbage s x = gd at *
   have hv : Below W3.heap.size W3 W3 := Below.refl _ _
   obtain ⟨e0, e1, e2, e3⟩ := HX.out _ hv
   obtain ⟨n0, n1, n2, n3, n4, n5, n6, n7⟩ := HCL.out _ (below_up HAW.out hv)
   have HOW := Lib.hid hown3
   clear hx hB hX3 hz3 hB3 hW3 hown hown3 hft hmem HGB hgd
   rw [ha] at HGX HCL n4 ⊢
   go_upto_region 5 with fail
   rw [HW3.out]
   clear c0 c1 c2 c3
   cases gd
   ·go_wp2_with (go_at_call 165; (with_reducible refine (HGX.out _ (below_up HAW.out hv)).mono ?_); rintro e w5 ⟨rfl, hq⟩; have hv := below_up hv hq; obtain ⟨e0, e1, e2, e3⟩ := HX.out _ hv)
    rw [← ha]
    go_roundg (nc - (j + 1))
    case rel => exact ⟨j + 1, by omega, rfl, by go_num, by rw [HFT.out, if_neg (by decide), List.append_nil]; exact own_keepE HOW.out hv, below_up HAW.out hv⟩
    case measure => omega
   ·obtain ⟨FL, hFL⟩ : ∃ FL, St.eC.flat G = FL := ⟨_, rfl⟩
    obtain ⟨m, hm⟩ : ∃ m, G.length = m := ⟨_, rfl⟩
    have HFL : Hid (St.eC.flat (G ++ [x]) = FL ++ [.string x.dig, .string x.tier, .bool x.good, .int .i64 x.asked]) := Lib.hid (by rw [Enc.flat_snoc, hFL]; rfl)
    have HM : Hid ((G ++ [x]).length = m + 1) := Lib.hid (by rw [List.length_append, hm]; rfl)
    have HOX := HOW
    rw [hFL, hm] at HOX
    rw [hm] at hfl
    clear hFL hm HOW
    go_wp2_with (first
     | (go_at_call 165; (with_reducible refine (HGX.out _ (below_up HAW.out hv)).mono ?_); rintro e w5 ⟨rfl, hq⟩; have hv := below_up hv hq; obtain ⟨e0, e1, e2, e3⟩ := HX.out _ hv; have hownp := own_keepE HOX.out hv; have hBp := below_up HAW.out hv; have hvs := hBp.size)
     | (at_builtin; go_loud (refine list_appC rfl _ _ rfl _ _ m FL (by rfl) (by rfl) hownp (by omega) (by omega) (by rfl) (by simp [Value.oneCell']) ?_; intro g8 cap8 w8 hown8 hgrow8; have hB8 := below_grownE (below_allocs hBp _) (hownp.alloc _) hgrow8 (by simp; omega))))
    rw [← ha]
    go_roundg (nc - (j + 1))
    case rel => exact ⟨j + 1, by omega, rfl, by go_num, by rw [HFT.out, if_pos (by first | rfl | trivial), HFL.out, HM.out]; exact hown8, hB8⟩
    case measure => omega
  ·obtain rfl : nc = j := by omega
   rw [← HNC.out, List.take_length, ← HGL.out] at hown
   have HO := Lib.hid ((OwnV.of_own hown).down (show w.heap.size ≤ W1.heap.size by have := HS1.out; omega))
   obtain ⟨g, cap, rfl⟩ := ownV_slice (OwnV.of_own hown)
   obtain ⟨l1, l2⟩ := HO.out.caps
   clear hown
   go_wp2_with (go_at_call 138; (with_reducible refine (clnC_clip _ _ _ _ l1 l2).mono ?_); rintro e wc ⟨rfl, rfl⟩)
   go_ret
   exact ⟨g, _, rfl, HO.out.clip, below_up HB1.out hB⟩
namespace St
theorem filD_of {s : Sto} (r : Right s) {f : Fil} (hf : f ∈ s.files) : filD s.files f.dig = f := by
 unfold filD
 cases hq : fileOf s.files f.dig with
 | none =>
   have := List.find?_eq_none.1 hq f hf
   simp at this
   exact absurd (eq_iff.2 rfl) (by rw [this]; decide)
 | some g =>
   obtain ⟨h1, h2⟩ := find_mem hq
   exact r.fup.one h1 hf (eq_iff.1 h2)
theorem neededD_of {s : Sto} (r : Right s) {f : Fil} (hf : f ∈ s.files) : neededD s f.dig = needed s f := by
 unfold neededD; rw [filD_of r hf]
end St
def DigPost (w : World) (L : List ByteArray) (e : Ending) (w' : World) : Prop := ∃ g cap, e = .returned (.slice g L.length cap) ∧ OwnV w' w.heap.size 9 1 (.slice g L.length cap) L.length (St.eS.flat L) ∧ Below w.heap.size w w'
theorem allNeeded_is (s : Sto) (a : StA) (mb : Nat) (w : World) (hI : StIn w s a) (hM : FMap w mb s.files) (r : St.Right s) :
  Calls Tryz.prog 99 #[.agg #[.int .i64 s.least, .int .i64 s.wait, .slice a.ta s.tiers.length a.tc, .slice a.fa s.files.length a.fc, .slice a.ca s.copies.length a.cc, .slice a.ha s.held.length a.hc, .slice a.ba s.bin.length a.bc, .map (some mb)]] w (DigPost w (St.neededL s)) := by
 obtain ⟨W1, hW1, hP, hz1, hB1⟩ := box w #[.int .i64 s.least, .int .i64 s.wait, .slice a.ta s.tiers.length a.tc, .slice a.fa s.files.length a.fc, .slice a.ca s.copies.length a.cc, .slice a.ha s.held.length a.hc, .slice a.ba s.bin.length a.bc, .map (some mb)] 135
 have HW1 := Lib.hid hW1; have HB1 := Lib.hid hB1
 obtain ⟨_, y1, y2, y3, y4, y5⟩ := St.sizes_iff.1 r.sizes
 have HGB : Hid (∀ f ∈ s.files, ∀ V, Below W1.heap.size W1 V → Calls Tryz.prog 171 #[.agg #[.int .i64 s.least, .int .i64 s.wait, .slice a.ta s.tiers.length a.tc, .slice a.fa s.files.length a.fc, .slice a.ca s.copies.length a.cc, .slice a.ha s.held.length a.hc, .slice a.ba s.bin.length a.bc, .map (some mb)], .string f.dig] V fun e w' => e = .returned (.bool (St.needed s f)) ∧ Below V.heap.size V w') := Lib.hid fun f hf V hv => by
  have h16 := St.dig16 (r.dig f hf).1
  have := needed_is s a mb f.dig V ((hI.keep hB1).keep hv) ((hM.keep hB1).keep hv) r (by omega)
  rwa [St.neededD_of r hf] at this
 have HI := Lib.hid hI
 have hfl0 := hI.fl
 have HCL : Hid (∀ V, Below W1.heap.size W1 V → V.cell? ⟨w.heap.size, 0, none⟩ = some (.int .i64 s.least) ∧ V.cell? ⟨w.heap.size, 1, none⟩ = some (.int .i64 s.wait) ∧ V.cell? ⟨w.heap.size, 2, none⟩ = some (.slice a.ta s.tiers.length a.tc) ∧ V.cell? ⟨w.heap.size, 3, none⟩ = some (.slice a.fa s.files.length a.fc) ∧ V.cell? ⟨w.heap.size, 4, none⟩ = some (.slice a.ca s.copies.length a.cc) ∧ V.cell? ⟨w.heap.size, 5, none⟩ = some (.slice a.ha s.held.length a.hc) ∧ V.cell? ⟨w.heap.size, 6, none⟩ = some (.slice a.ba s.bin.length a.bc) ∧ V.cell? ⟨w.heap.size, 7, none⟩ = some (.map (some mb))) := Lib.hid fun V hv => (hP.keep hv).eight
 have HGL : Hid (St.neededL s = (s.files.filter (St.needed s)).map (·.dig)) := Lib.hid rfl
 obtain ⟨m0, m1, m2, m3, m4, m5, m6, m7⟩ := HCL.out _ (Below.refl _ _)
 have HS1 := Lib.hid hz1
 clear hI hM r hW1 hP hz1 hB1 m0 m1 m2 m4 m5 m6 m7 y1 y3 y4 y5
 obtain ⟨nf, hnf⟩ : ∃ nf, s.files.length = nf := ⟨_, rfl⟩
 have HNF := Lib.hid hnf
 rw [hnf] at hfl0 y2 HCL m3 HW1 HGB ⊢
 clear hnf
 go_enter Tryz.func99, Tryz.ntmps99
 go_wp2_with fail
 rw [HW1.out]
 go_wp2_with fail
 clear m3
 go_loopg [3, 10] nf (fun gk v i wr => ∃ j : Nat, j ≤ nf ∧ gk = nf - j ∧ i = .int .i64 j ∧ wr.ownsRow W1.heap.size 9 1 v (((s.files.take j).filter (St.needed s)).map (·.dig)).length (St.eS.flat (((s.files.take j).filter (St.needed s)).map (·.dig))) ∧ Below W1.heap.size W1 wr)
 case atStart => exact ⟨0, by omega, rfl, rfl, World.ownsRow_nil _ _ _ _, Below.refl _ _⟩
 case round =>
  obtain ⟨j, hj, rfl, rfl, hown, hB⟩ := hrel
  by_cases hlt : j < nf
  ·obtain ⟨x, hx⟩ : ∃ x, s.files[j]? = some x := ⟨_, List.getElem?_eq_getElem (by rw [HNF.out]; exact hlt)⟩
   obtain ⟨b, off, ha, hb, hcell⟩ := ((HI.out.keep (below_up HB1.out hB)).fi) (by rw [HNF.out]; omega)
   have c0 : wr.cell? ⟨b, off + j * 4, none⟩ = some (.string x.dig) := hcell j x hx 0 (.string x.dig) rfl
   have c1 : wr.cell? ⟨b, off + j * 4 + 1, none⟩ = some (.int .i64 x.size) := hcell j x hx 1 (.int .i64 x.size) rfl
   have c2 : wr.cell? ⟨b, off + j * 4 + 2, none⟩ = some (.int .i64 x.kind) := hcell j x hx 2 (.int .i64 x.kind) rfl
   have c3 : wr.cell? ⟨b, off + j * 4 + 3, none⟩ = some (.string x.frm) := hcell j x hx 3 (.string x.frm) rfl
   clear hcell
   have hft := congrArg (List.map (·.dig)) (St.filter_take (p := St.needed s) hx)
   rw [List.map_append] at hft
   have hfl : (((s.files.take j).filter (St.needed s)).map (·.dig)).length ≤ s.files.length := by rw [List.length_map]; exact St.filter_len (p := St.needed s) (L := s.files) j
   rw [HNF.out] at hfl
   have hmem := List.mem_of_getElem? hx
   obtain ⟨W3, hW3, hX3, hz3, hB3⟩ := box wr #[.string x.dig, .int .i64 x.size, .int .i64 x.kind, .string x.frm] 30
   have HW3 := Lib.hid hW3
   have HAW := Lib.hid (below_up hB hB3)
   have hown3 := own_keepE hown hB3
   have HX : Hid (∀ V, Below W3.heap.size W3 V → V.cell? ⟨wr.heap.size, 0, none⟩ = some (.string x.dig) ∧ V.cell? ⟨wr.heap.size, 1, none⟩ = some (.int .i64 x.size) ∧ V.cell? ⟨wr.heap.size, 2, none⟩ = some (.int .i64 x.kind) ∧ V.cell? ⟨wr.heap.size, 3, none⟩ = some (.string x.frm)) := Lib.hid fun V hv => (hX3.keep hv).four
   have HGX := Lib.hid (HGB.out x hmem)
   have hj0 : (0 : Int) ≤ (j : Int) := by omega
   have hj1 : (j : Int) < (nf : Int) := by omega
   have HFT := Lib.hid hft
   generalize (((s.files.take j).filter (St.needed s)).map (·.dig)) = G at *
   generalize hgd : St.needed s x = gd at *
   have hv : Below W3.heap.size W3 W3 := Below.refl _ _
   obtain ⟨e0, e1, e2, e3⟩ := HX.out _ hv
   obtain ⟨n0, n1, n2, n3, n4, n5, n6, n7⟩ := HCL.out _ (below_up HAW.out hv)
   have HOW := Lib.hid hown3
   clear hx hB hX3 hz3 hB3 hW3 hown hown3 hft hmem HGB hgd
   rw [ha] at HGX HCL n3 ⊢
   go_upto_region 5 with fail
   rw [HW3.out]
   clear c0 c1 c2 c3
   cases gd
   ·go_wp2_with (go_at_call 171; (with_reducible refine (HGX.out _ (below_up HAW.out hv)).mono ?_); rintro e w5 ⟨rfl, hq⟩; have hv := below_up hv hq; obtain ⟨e0, e1, e2, e3⟩ := HX.out _ hv)
    rw [← ha]
    go_roundg (nf - (j + 1))
    case rel => exact ⟨j + 1, by omega, rfl, by go_num, by rw [HFT.out, if_neg (by decide), List.map_nil, List.append_nil]; exact own_keepE HOW.out hv, below_up HAW.out hv⟩
    case measure => omega
   ·obtain ⟨FL, hFL⟩ : ∃ FL, St.eS.flat G = FL := ⟨_, rfl⟩
    obtain ⟨m, hm⟩ : ∃ m, G.length = m := ⟨_, rfl⟩
    have HFL : Hid (St.eS.flat (G ++ [x.dig]) = FL ++ [.string x.dig]) := Lib.hid (by rw [Enc.flat_snoc, hFL]; rfl)
    have HM : Hid ((G ++ [x.dig]).length = m + 1) := Lib.hid (by rw [List.length_append, hm]; rfl)
    have HOX := HOW
    rw [hFL, hm] at HOX
    rw [hm] at hfl
    clear hFL hm HOW
    go_wp2_with (first
     | (go_at_call 171; (with_reducible refine (HGX.out _ (below_up HAW.out hv)).mono ?_); rintro e w5 ⟨rfl, hq⟩; have hv := below_up hv hq; obtain ⟨e0, e1, e2, e3⟩ := HX.out _ hv; have hownp := own_keepE HOX.out hv; have hBp := below_up HAW.out hv; have hvs := hBp.size)
     | (at_builtin; refine list_appS rfl _ _ rfl _ _ m FL (by rfl) (by rfl) hownp (by omega) (by omega) (by rfl) (by simp [Value.oneCell']) ?_; intro g8 cap8 w8 hown8 hgrow8; have hB8 := below_grownE (below_allocs hBp _) (hownp.alloc _) hgrow8 (by simp; omega)))
    rw [← ha]
    go_roundg (nf - (j + 1))
    case rel => exact ⟨j + 1, by omega, rfl, by go_num, by rw [HFT.out, if_pos (by first | rfl | trivial), List.map_cons, List.map_nil, HFL.out, HM.out]; exact hown8, hB8⟩
    case measure => omega
  ·obtain rfl : nf = j := by omega
   rw [← HNF.out, List.take_length, ← HGL.out] at hown
   have HO := Lib.hid ((OwnV.of_own hown).down (show w.heap.size ≤ W1.heap.size by have := HS1.out; omega))
   obtain ⟨g, cap, rfl⟩ := ownV_slice (OwnV.of_own hown)
   obtain ⟨l1, l2⟩ := HO.out.caps
   clear hown
   go_wp2_with (go_at_call 104; (with_reducible refine (clnS_clip _ _ _ _ l1 l2).mono ?_); rintro e wc ⟨rfl, rfl⟩)
   go_ret
   exact ⟨g, _, rfl, HO.out.clip, below_up HB1.out hB⟩
theorem infoLck : (Tryz.prog.info? 70).map (fun i => (i.zero, i.size, i.bytes)) = some (some (.agg #[.string ByteArray.empty, .int .i64 0, .int .i64 0]), 3, 32) := by kernel_rfl

theorem St.filtmap_take {α β : Type} {p : α → Bool} {f : α → β} {L : List α} {j : Nat} {x : α} (h : L[j]? = some x) : ((L.take (j + 1)).filter p).map f = ((L.take j).filter p).map f ++ (if p x = true then [f x] else []) := by
 rw [St.filter_take h, List.map_append]
 congr 1
 split <;> rfl
namespace St
end St
theorem Blk.besideV {V x1 : World} {B k n q : Nat} {e t : TypeId} {v : Value} {xs : List Value} {c : Array Value} (hb : Blk V q c t) (h : OwnV V B e k v n xs) (hg : V.grownBy x1 v.ownBlock) (hq : q < B) : Blk x1 q c t :=
 hb.of_block (hg.block q (Array.getElem?_eq_some_iff.1 hb).1 (fun e2 => by have := (h.lt q e2.symm).1; omega))

theorem blk_seven {w : World} {b q : Nat} {c : Array Value} {t : TypeId} (h : Blk w b c t) (hb : b ≠ q) (i0 i1 i2 i3 i4 i5 i6 : Nat) (u0 u1 u2 u3 u4 u5 u6 : Value) : Blk (((((((w.setCell ⟨q, i0, none⟩ u0).setCell ⟨q, i1, none⟩ u1).setCell ⟨q, i2, none⟩ u2).setCell ⟨q, i3, none⟩ u3).setCell ⟨q, i4, none⟩ u4).setCell ⟨q, i5, none⟩ u5).setCell ⟨q, i6, none⟩ u6) b c t :=
 ((((((h.setOther (a := ⟨q, i0, none⟩) hb u0).setOther (a := ⟨q, i1, none⟩) hb u1).setOther (a := ⟨q, i2, none⟩) hb u2).setOther (a := ⟨q, i3, none⟩) hb u3).setOther (a := ⟨q, i4, none⟩) hb u4).setOther (a := ⟨q, i5, none⟩) hb u5).setOther (a := ⟨q, i6, none⟩) hb u6
end Go.Proofs.YthdiccdnggloiaaGreatDoor
