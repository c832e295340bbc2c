/- pix.Text: the text of an image. -/
import Derived.Test.YtpgjpnnjlilokaaDoorPtEq
import Derived.Test.YtpgjpnnjlilokaaDoorPtHex
import Derived.Test.YtpgjpnnjlilokaaDoorBld
import Derived.Test.YtpgjpnnjlilokaaDoorTxTab
import Derived.Test.YtpgjpnnjlilokaaDoorPixImg
import Derived.Lib.QuietBelow
import Derived.Deep.RegionHeld3
import Derived.Deep.DeepCutAuto
namespace Go.Proofs.YtpgjpnnjlilokaaDoor
open Go.RowKit Go.Sort Go.Shelf
set_option linter.unusedVariables false
theorem cat_mk (x y : List UInt8) (h : x.length + y.length ≤ 9223372036854775807) (V : World) : (Op.stringOp .add (Tx.mk x) (Tx.mk y)).run Tryd.prog V = .ok (.string (Tx.mk (x ++ y))) V := by
  rw [run_string_add_sum V _ _ (by rw [Tx.mk_size, Tx.mk_size]; exact h), Tx.mk_append]
theorem itoaB (n : Nat) (h : n ≤ 9223372036854775807) (V : World) (ht : Tx.Tab V) : Calls Tryd.prog 16 #[.int .i64 n] V fun e w' => e = .returned (.string (Tx.mk (Lib.decDigits n))) ∧ Below V.heap.size V w' := by
  refine (itoa_any n (by omega) (by omega) V ht).mono ?_
  rintro e w' ⟨rfl, k, os, rfl⟩
  exact ⟨by rw [Lib.itoa_nonneg], rfl, rfl, rfl, by simp [grow], fun j hj => by simp [grow, Array.getElem?_append, hj]⟩
set_option maxHeartbeats 1000000 in
theorem text_err (W H : Int) (a : Option Addr) (n ca : Nat) (q : Int) (w : World) (hn : n ≤ 9223372036854775807) (he : Im.err W H n = q) (hq : q ≠ 0) :
    Calls Tryd.prog 6 #[.agg #[.int .i64 W, .int .i64 H, .slice a n ca]] w fun e w' => e = .returned (.tuple #[.string ⟨#[]⟩, .int .i64 q]) ∧ Below w.heap.size w w' := by
  obtain ⟨W1, HW1, hP, hs1, hB1⟩ := box w #[.int .i64 W, .int .i64 H, .slice a n ca] 24
  have H1 := Lib.hid HW1
  have HE := Lib.hid (check_is W H a n ca W1 hn)
  rw [he] at HE
  have q1 : (q == 0) = false := by simpa using hq
  have q2 : (q != 0) = true := by simpa using hq
  have hPc := hP.three
  clear HW1 he hq
  go_enter Tryd.func6, Tryd.ntmps6
  go_wp2_with fail
  rw [H1.out]
  go_wp2_with (go_at_call 7; refine HE.out.mono ?_; rintro e w' ⟨rfl, hB⟩)
  go_ret2
  exact ⟨rfl, below_up hB1 hB⟩
set_option maxRecDepth 100000 in
set_option maxHeartbeats 8000000 in
theorem text_ok (W H : Nat) (a : Option Addr) (ca : Nat) (px : Nat → Int) (w : World) (hW : 1 ≤ W ∧ W ≤ 64 ∧ 1 ≤ H ∧ H ≤ 64) (hr : Bytes w a (3 * (H * W)) px) (hpx : ∀ i, 0 ≤ px i ∧ px i ≤ 255) (hca : 3 * (H * W) ≤ ca) (hca2 : ca ≤ 9223372036854775807) (ht : Tx.Tab w) :
    Calls Tryd.prog 6 #[.agg #[.int .i64 W, .int .i64 H, .slice a (3 * (H * W)) ca]] w fun e w' => e = .returned (.tuple #[.string (Tx.mk (Pt.text W H px)), .int .i64 0]) ∧ Below w.heap.size w w' := by
  have hWH : H * W ≤ 4096 := Nat.mul_le_mul hW.2.2.2 hW.2.1
  have hWH1 : 1 ≤ H * W := Nat.mul_le_mul hW.2.2.1 hW.1
  obtain ⟨b0, off0, rfl, hb0, hcell0⟩ := hr (by omega)
  obtain ⟨N, hN⟩ : ∃ N, W * H = N := ⟨_, rfl⟩
  have hNi : (W : Int) * (H : Int) = (N : Int) := by rw [← hN, Int.natCast_mul]
  have hN2 : H * W = N := by rw [← hN, Nat.mul_comm]
  have hW0 : ¬ (W : Int) = 0 := by omega
  have hWz : ¬ W = 0 := by omega
  have hW1 : ((W : Int) == 0) = false := by simp; omega
  have hWm : ¬ (W : Int) = -1 := by omega
  have hWn : ((W : Int) == -1) = false := by simp
  have HWR : Hid (∀ k : Nat, k ≤ 4096 → IntKind.i64.wrap ((k : Int) / (W : Int)) = (k : Int) / (W : Int)) := by
    intro k hk
    have h1 : 0 ≤ (k : Int) / (W : Int) := Int.ediv_nonneg (by omega) (by omega)
    have h2 : (k : Int) / (W : Int) ≤ (k : Int) := Int.ediv_le_self _ (by omega)
    generalize (k : Int) / (W : Int) = q at *
    rw [IntKind.wrap_i64]; omega
  have HAT : Hid (∀ (k : Nat), k < N → ∀ V, Below w.heap.size w V → Calls Tryd.prog 17 #[.agg #[.int .i64 W, .int .i64 H, .slice (some ⟨b0, off0, none⟩) (3 * (H * W)) ca], .int .i64 ((k : Int) % (W : Int)), .int .i64 ((k : Int) / (W : Int))] V fun e w' => e = .returned (.agg #[.int .u8 (px (3 * k)), .int .u8 (px (3 * k + 1)), .int .u8 (px (3 * k + 2))]) ∧ Below V.heap.size V w') := by
    intro k hk V hV
    have hd : k / W * W + k % W = k := by have := Nat.div_add_mod k W; rw [Nat.mul_comm] at this; exact this
    have h := at_int W H (k % W) (k / W) ((k : Int) % (W : Int)) ((k : Int) / (W : Int)) (by simp) (by simp) b0 off0 (3 * (H * W)) ca px V w hb0 hcell0 hV (by rw [hd, hN2]; omega) (by omega) hca hca2
    unfold Im.pix at h
    rw [hd] at h
    exact h
  have HN := Lib.hid hN
  have HN2 := Lib.hid hN2
  have hNs : N ≤ 4096 := by omega
  clear hN hN2
  obtain ⟨W1, HW1, hP, hs1, hB1⟩ := box w #[.int .i64 W, .int .i64 H, .slice (some ⟨b0, off0, none⟩) (3 * (H * W) : Nat) ca] 24
  have H1 := Lib.hid HW1
  have HE := Lib.hid (check_is W H (some ⟨b0, off0, none⟩) (3 * (H * W)) ca W1 (by omega))
  have he : Im.err W H (3 * (H * W)) = 0 := by
    unfold Im.err; rw [if_neg (by omega), if_pos]; simp only [Int.natCast_mul]; rw [Int.mul_assoc, Int.mul_comm (W : Int) H]; rfl
  rw [he] at HE
  have hPc := hP.three
  have HB1 := Lib.hid hB1
  have HT := Lib.hid ht
  have HP := Lib.hid hP
  clear HW1 he ht
  go_enter Tryd.func6, Tryd.ntmps6
  go_wp2_with fail
  rw [H1.out]
  go_wp2_with (go_at_call 7; refine HE.out.mono ?_; rintro e w2 ⟨rfl, hB2⟩; have hPc := (hP.keep hB2).three)
  have HB2 := Lib.hid hB2
  have hd1 := Tx.dl_le W (by omega)
  have hd2 := Tx.dl_le H (by omega)
  have HIW := Lib.hid (fun V hV => itoaB W (by omega) V (Tx.tab_below HT.out hV))
  have HIH := Lib.hid (fun V hV => itoaB H (by omega) V (Tx.tab_below HT.out hV))
  have hc1 := cat_mk [105, 109, 97, 103, 101, 32] (Lib.decDigits W) (by unfold Tx.dl at hd1; simp; omega)
  have hc2 := cat_mk ([105, 109, 97, 103, 101, 32] ++ Lib.decDigits W) [32] (by unfold Tx.dl at hd1; simp; omega)
  have hc3 := cat_mk ([105, 109, 97, 103, 101, 32] ++ Lib.decDigits W ++ [32]) (Lib.decDigits H) (by unfold Tx.dl at hd1 hd2; simp; omega)
  have hc4 := cat_mk ([105, 109, 97, 103, 101, 32] ++ Lib.decDigits W ++ [32] ++ Lib.decDigits H) [10] (by unfold Tx.dl at hd1 hd2; simp; omega)
  have hhl : (Pt.head W H).length ≤ 100 := by unfold Pt.head; unfold Tx.dl at hd1 hd2; simp; omega
  have HWS := Lib.hid (fun V hV => writeString_is w2.heap.size [] (Pt.head W H) V hV (by simp; omega))
  have hh : Pt.head W H = [105, 109, 97, 103, 101, 32] ++ Lib.decDigits W ++ [32] ++ Lib.decDigits H ++ [10] := rfl
  rw [← hh] at hc4
  clear hh hd1 hd2
  generalize Tx.mk (Pt.head W H) = M4 at *
  generalize Tx.mk ([105, 109, 97, 103, 101, 32] ++ Lib.decDigits W ++ [32] ++ Lib.decDigits H) = M3 at *
  generalize Tx.mk ([105, 109, 97, 103, 101, 32] ++ Lib.decDigits W ++ [32]) = M2 at *
  generalize Tx.mk ([105, 109, 97, 103, 101, 32] ++ Lib.decDigits W) = M1 at *
  generalize Tx.mk (Lib.decDigits W) = S1 at *
  generalize Tx.mk (Lib.decDigits H) = S2 at *
  have hbld := Bld.new w2
  have hB3 := (Below.refl w2.heap.size w2).alloc (Nat.le_refl _) (.cells #[.pointer none, .slice none 0 0] 38)
  generalize w2.alloc (.cells #[.pointer none, .slice none 0 0] 38) = w3 at *
  have hBd := hB3.drew
  have hbldd : Bld w3.drew w2.heap.size [] := hbld.keep (Below.refl _ _).drew
  have hPc := (hP.keep (below_up HB2.out hBd)).three
  go_region_held3 (fun w' => w'.cell? ⟨w.heap.size, 0, none⟩ = some (.int .i64 W) ∧ w'.cell? ⟨w.heap.size, 1, none⟩ = some (.int .i64 H) ∧ w'.cell? ⟨w.heap.size, 2, none⟩ = some (.slice (some ⟨b0, off0, none⟩) (3 * (H * W)) ca))
    (first | exact (hP.keep (below_up HB2.out hBd)).three | exact (hP.keep (below_up HB2.out hBa)).three | exact (hP.keep (below_up HB2.out hBb)).three | exact (hP.keep (below_up HB2.out hBc)).three)
    (first
      | (go_at_call 16; first
          | ((with_reducible refine (HIW.out _ (below_up HB1.out (below_up HB2.out hBd))).mono ?_); rintro e w4 ⟨rfl, hB4⟩; have hBa := below_up hBd hB4; have hbla := hbldd.keep hB4)
          | ((with_reducible refine (HIH.out _ (below_up HB1.out (below_up HB2.out hBa))).mono ?_); rintro e w5 ⟨rfl, hB5⟩; have hBb := below_up hBa hB5; have hblb := hbla.keep hB5))
      | (go_at_call 15; (with_reducible refine (HWS.out _ hblb).mono ?_); rintro e w6 ⟨rfl, hbl6, hB6, _⟩; have hBc := hBb.trans hB6))
  have hbl0 : Bld w6 w2.heap.size (Pt.head W H) := by simpa using hbl6
  have hPc := (hP.keep (below_up HB2.out hBc)).three
  clear hB3 hBd hBa hBb hbldd hbla hblb hB4 hB5 hB6 hbl6 hbld hc1 hc2 hc3 hc4
  go_wp2_with fail
  go_loopg [7] N (fun gk f wr => ∃ (j : Nat) (l : List UInt8), j ≤ N ∧ gk = N - j ∧ f = .int .i64 j ∧ l ++ Pt.txt px N j = Pt.text W H px ∧ Bld wr w2.heap.size l ∧ Below w2.heap.size w2 wr)
  case atStart => exact ⟨0, _, by omega, rfl, rfl, by rw [← HN.out]; rfl, hbl0, hBc⟩
  case round =>
    obtain ⟨j, l, hj, rfl, rfl, hl, hbl, hB⟩ := hrel
    have hPc := (hP.keep (below_up HB2.out hB)).three
    by_cases hlt : j < N
    · have hwr := HWR.out j (by omega)
      have htm : (j : Int).tmod (W : Int) = (j : Int) % (W : Int) := Int.tmod_eq_emod_of_nonneg (by omega)
      have htd : (j : Int).tdiv (W : Int) = (j : Int) / (W : Int) := Int.tdiv_eq_ediv_of_nonneg (by omega)
      have HATj := Lib.hid (HAT.out j hlt)
      have hA0 := (Below.refl wr.heap.size wr).drew
      have hA1 := ((Below.refl wr.heap.size wr).alloc (Nat.le_refl _) (.cells #[.int .u8 0, .int .u8 0, .int .u8 0] 45)).drew
      have hZ := Blk.new wr #[.int .u8 0, .int .u8 0, .int .u8 0] 45
      go_upto_region 9 with fail
      go_cut [8] (fun s8 wx => ∃ pb, s8 = .pointer (some ⟨pb, 0, none⟩) ∧ Blk wx pb #[.int .u8 (px (3 * j)), .int .u8 (px (3 * j + 1)), .int .u8 (px (3 * j + 2))] 45 ∧ Below wr.heap.size wr wx ∧ wr.heap.size ≤ pb)
      case first =>
        go_region_held3 (fun w' => w'.cell? ⟨w.heap.size, 0, none⟩ = some (.int .i64 W) ∧ w'.cell? ⟨w.heap.size, 1, none⟩ = some (.int .i64 H) ∧ w'.cell? ⟨w.heap.size, 2, none⟩ = some (.slice (some ⟨b0, off0, none⟩) (3 * (H * W)) ca))
          (first | exact (hP.keep (below_up HB2.out (below_up hB hA0))).three | exact (hP.keep (below_up HB2.out (below_up hB hA1))).three | exact (hP.keep (below_up HB2.out (below_up hB hBa))).three | exact (hP.keep (below_up HB2.out (below_up hB (hBa.alloc hBa.size _)))).three | exact (hP.keep (below_up HB2.out (below_up hB (((hBa.setCell (Nat.le_refl _) _).setCell (Nat.le_refl _) _).setCell (Nat.le_refl _) _)))).three)
          (first
            | (go_at_call 17; first
                | ((with_reducible refine (HATj.out _ (below_up HB1.out (below_up HB2.out (below_up hB hA0)))).mono ?_); rintro e w4 ⟨rfl, hB4⟩; have hBa := below_up hA0 hB4)
                | ((with_reducible refine (HATj.out _ (below_up HB1.out (below_up HB2.out (below_up hB hA1)))).mono ?_); rintro e w4 ⟨rfl, hB4⟩; have hBa := below_up hA1 hB4; have hZ4 := (hZ.keep (Below.refl _ _).drew).keep hB4; have hZf := hZ4.free; obtain ⟨z0, z1, z2⟩ := hZ4.three)))
        all_goals (go_wp2_with fail; go_meet)
        all_goals first
          | exact ⟨_, rfl, Blk.new _ _ _, hBa.alloc hBa.size _, hBa.size⟩
          | exact ⟨_, rfl, by have := ((hZ4.set 0 (.int .u8 (px (3 * j)))).set 1 (.int .u8 (px (3 * j + 1)))).set 2 (.int .u8 (px (3 * j + 2))); simpa using this, ((hBa.setCell (Nat.le_refl _) _).setCell (Nat.le_refl _) _).setCell (Nat.le_refl _) _, Nat.le_refl _⟩
      case rest =>
        obtain ⟨pb, rfl, hZp, hBp, hpb⟩ := hcut
        have hpb2 : pb ≠ w2.heap.size := by have := hbl.lt; omega
        clear hpb
        have hblc := hbl.keep hBp
        have hBc := below_up hB hBp
        clear hA0 hA1 hZ hbl hPc hB hBp htm htd hwr HATj
        generalize wr = wv at *
        have HBC := Lib.hid hBc; have HBLC := Lib.hid hblc; have HZP := Lib.hid hZp
        clear hBc hblc hZp
        go_wp2_with fail
        go_loopg [9] (N - j) (fun gk t wq => ∃ k : Nat, j ≤ k ∧ k ≤ N ∧ gk = N - k ∧ t = .int .i64 k ∧ Pt.stop px N j j = Pt.stop px N j k ∧ Below wc.heap.size wc wq)
        case atStart => exact ⟨j, by omega, by omega, rfl, rfl, rfl, Below.refl _ _⟩
        case round =>
          obtain ⟨k, hk1, hk2, rfl, rfl, hst, hBi⟩ := hrel
          obtain ⟨m0, m1, m2⟩ := (hP.keep (below_up HB2.out (below_up HBC.out hBi))).three
          obtain ⟨z0, z1, z2⟩ := (HZP.out.keep hBi).three
          have k0 := cell_regrown m0
          have k1 := cell_regrown m1
          have k2 := cell_regrown m2
          have y0 := cell_regrown z0
          have y1 := cell_regrown z1
          have y2 := cell_regrown z2
          have hgd := guardPx
          by_cases hkN : k < N
          · have hwr := HWR.out k (by omega)
            have htm : (k : Int).tmod (W : Int) = (k : Int) % (W : Int) := Int.tmod_eq_emod_of_nonneg (by omega)
            have htd : (k : Int).tdiv (W : Int) = (k : Int) / (W : Int) := Int.tdiv_eq_ediv_of_nonneg (by omega)
            have HATk := Lib.hid (fun d os => Calls.regrown_of (HAT.out k hkN (grow (redrawn wr d) os) (below_up HB1.out (below_up HB2.out (below_up HBC.out (below_up hBi (below_regrown wr d os)))))))
            have heq := eqPx (px (3 * k)) (px (3 * k + 1)) (px (3 * k + 2)) (px (3 * j)) (px (3 * j + 1)) (px (3 * j + 2))
            cases hs : Pt.same px k j
            · have hs' := hs
              unfold Pt.same at hs'
              rw [hs'] at heq
              rw [Pt.stop_not hs] at hst
              have HS := Lib.hid hs
              have HST := Lib.hid hst
              clear hs hs' hst
              go_wp2_with fail
              refine wp_region_quiet_below (by kernel_rfl) (by kernel_rfl) ?_
              repeat (go_big_quiet_step ((go_at_call 17; with_reducible exact HATk.out _ _)))
              refine wpQuiet_nil ?_
              intro _ hw'
              obtain ⟨⟨dq, osq⟩, hw''⟩ := hw'
              subst hw''
              have hBw5 := below_regrown wr dq osq
              generalize grow (redrawn wr dq) osq = w5 at *
              clear dq osq
              -- behind the inner loop, in the world w5: the line of the run from j to k
              have hjk : j < k := by have := Pt.stop_gt (px := px) (all := N) (f := j) hlt; rw [HST.out] at this; exact this.1
              have hBX := below_up hBi hBw5
              have hkj : (k : Int) - (j : Int) = ((k - j : Nat) : Int) := by omega
              have hlb : l.length ≤ 120000 := by
                have h1 := congrArg List.length hl
                have h2 := Pt.txt_len px N (by omega) N 0 (by omega) (by omega)
                unfold Pt.text at h1
                rw [HN.out, List.length_append, List.length_append] at h1
                omega
              have hdn := Tx.dl_le (k - j) (by omega)
              have hdn2 : (Lib.decDigits (k - j)).length ≤ 19 := hdn
              have HIK := Lib.hid (itoaB (k - j) (by omega) w5 (Tx.tab_below HT.out (below_up HB1.out (below_up HB2.out (below_up HBC.out hBX)))))
              have hc1 := cat_mk (Lib.decDigits (k - j)) [32] (by simp; omega)
              have HWS2 := Lib.hid (fun V hV => writeString_is w2.heap.size l (Lib.decDigits (k - j) ++ [32]) V hV (by simp; omega))
              generalize Tx.mk (Lib.decDigits (k - j) ++ [32]) = D2 at *
              generalize Tx.mk (Lib.decDigits (k - j)) = D1 at *
              clear m0 m1 m2 z0 z1 z2 k0 k1 k2 y0 y1 y2 hgd
              go_wp2_with fail
              go_at_call 16
              refine HIK.out.mono ?_
              rintro e w7 ⟨rfl, hB7⟩
              have hbl7 := (HBLC.out.keep hBX).keep hB7
              have hC7 := below_up (below_up HBC.out hBX) hB7
              have hz7 := (HZP.out.keep hBX).keep hB7
              go_wp2_with (go_at_call 15; (with_reducible refine (HWS2.out _ hbl7).mono ?_); rintro e w8 ⟨rfl, hbl8, hB8, hk8⟩; have hC8 := hC7.trans hB8; have hz8 := hz7.others hk8 hpb2 (by decide); obtain ⟨z0, z1, z2⟩ := hz8.three)
              have HBL8 := Lib.hid hbl8
              have HC8 := Lib.hid hC8
              clear hbl8 hC8 hk8 hB8 hz8 hz7 hC7 hbl7 hB7 z0 z1 z2 hBX hBw5 hBi
              go_wp2_with fail
              go_loopg [73] 3 (fun gk i wq => ∃ c : Nat, c ≤ 3 ∧ gk = 3 - c ∧ i = .int .i64 c ∧ Bld wq w2.heap.size (l ++ (Lib.decDigits (k - j) ++ [32]) ++ Pt.hexes px j c) ∧ Below w2.heap.size w2 wq)
              case atStart => exact ⟨0, by omega, rfl, rfl, by rw [Pt.hexes, List.append_nil]; exact HBL8.out, HC8.out⟩
              case round =>
                obtain ⟨c, hc3, rfl, rfl, hblc, hCc⟩ := hrel
                have hxl := Pt.hexes_len px j c
                have hcs : c = 0 ∨ c = 1 ∨ c = 2 ∨ c = 3 := by omega
                rcases hcs with rfl | rfl | rfl | rfl
                · have HPC := hpx (3 * j)
                  obtain ⟨u, hu⟩ := Int.eq_ofNat_of_zero_le HPC.1
                  have hu255 : u ≤ 255 := by omega
                  have hpi := pxi0 (px (3 * j)) (px (3 * j + 1)) (px (3 * j + 2))
                  have hA := and15 u hu255
                  have hAr := and15r u hu255
                  have hSr := shr4 u hu255
                  have hHi := hxHi u hu255
                  have hLo := hxLo u hu255
                  have he : Pt.hexes px j (0 + 1) = Pt.hexes px j 0 ++ [Pt.hx (u / 16), Pt.hx (u % 16)] := by
                    show _ ++ Pt.hex2 (px (3 * j)).toNat = _
                    rw [hu]; rfl
                  have HE := Lib.hid he
                  have HV1 := Lib.hid (fun V hV => writeByte_is w2.heap.size (l ++ (Lib.decDigits (k - j) ++ [32]) ++ Pt.hexes px j 0) (Pt.hx (u / 16)) V hV (by simp only [List.length_append, List.length_cons, List.length_nil, hxl]; omega))
                  have HV2 := Lib.hid (fun V hV => writeByte_is w2.heap.size (l ++ (Lib.decDigits (k - j) ++ [32]) ++ Pt.hexes px j 0 ++ [Pt.hx (u / 16)]) (Pt.hx (u % 16)) V hV (by simp only [List.length_append, List.length_cons, List.length_nil, hxl]; omega))
                  rw [← hu] at hA hAr hSr hHi hLo
                  clear he
                  simp only [Int.natCast_zero]
                  obtain ⟨hq0, hq1⟩ := HPC
                  have HU := Lib.hid hu
                  clear hu hu255
                  go_wp2_with (go_at_call 18; first
                    | ((with_reducible refine (HV1.out _ hblc).mono ?_); rintro e wa ⟨rfl, hbla, hBa, _⟩; have hCa := hCc.trans hBa)
                    | ((with_reducible refine (HV2.out _ hbla).mono ?_); rintro e wb ⟨rfl, hblb, hBb, _⟩; have hCb := hCa.trans hBb))
                  go_roundg (3 - (0 + 1))
                  case rel => exact ⟨0 + 1, by omega, rfl, by go_num, by rw [HE.out]; simpa only [List.append_assoc, List.cons_append, List.nil_append] using hblb, hCb⟩
                  case measure => omega
                · have HPC := hpx (3 * j + 1)
                  obtain ⟨u, hu⟩ := Int.eq_ofNat_of_zero_le HPC.1
                  have hu255 : u ≤ 255 := by omega
                  have hpi := pxi1 (px (3 * j)) (px (3 * j + 1)) (px (3 * j + 2))
                  have hA := and15 u hu255
                  have hAr := and15r u hu255
                  have hSr := shr4 u hu255
                  have hHi := hxHi u hu255
                  have hLo := hxLo u hu255
                  have he : Pt.hexes px j (1 + 1) = Pt.hexes px j 1 ++ [Pt.hx (u / 16), Pt.hx (u % 16)] := by
                    show _ ++ Pt.hex2 (px (3 * j + 1)).toNat = _
                    rw [hu]; rfl
                  have HE := Lib.hid he
                  have HV1 := Lib.hid (fun V hV => writeByte_is w2.heap.size (l ++ (Lib.decDigits (k - j) ++ [32]) ++ Pt.hexes px j 1) (Pt.hx (u / 16)) V hV (by simp only [List.length_append, List.length_cons, List.length_nil, hxl]; omega))
                  have HV2 := Lib.hid (fun V hV => writeByte_is w2.heap.size (l ++ (Lib.decDigits (k - j) ++ [32]) ++ Pt.hexes px j 1 ++ [Pt.hx (u / 16)]) (Pt.hx (u % 16)) V hV (by simp only [List.length_append, List.length_cons, List.length_nil, hxl]; omega))
                  rw [← hu] at hA hAr hSr hHi hLo
                  clear he
                  simp only [Int.natCast_one]
                  obtain ⟨hq0, hq1⟩ := HPC
                  have HU := Lib.hid hu
                  clear hu hu255
                  go_wp2_with (go_at_call 18; first
                    | ((with_reducible refine (HV1.out _ hblc).mono ?_); rintro e wa ⟨rfl, hbla, hBa, _⟩; have hCa := hCc.trans hBa)
                    | ((with_reducible refine (HV2.out _ hbla).mono ?_); rintro e wb ⟨rfl, hblb, hBb, _⟩; have hCb := hCa.trans hBb))
                  go_roundg (3 - (1 + 1))
                  case rel => exact ⟨1 + 1, by omega, rfl, by go_num, by rw [HE.out]; simpa only [List.append_assoc, List.cons_append, List.nil_append] using hblb, hCb⟩
                  case measure => omega
                · have HPC := hpx (3 * j + 2)
                  obtain ⟨u, hu⟩ := Int.eq_ofNat_of_zero_le HPC.1
                  have hu255 : u ≤ 255 := by omega
                  have hpi := pxi2 (px (3 * j)) (px (3 * j + 1)) (px (3 * j + 2))
                  have hA := and15 u hu255
                  have hAr := and15r u hu255
                  have hSr := shr4 u hu255
                  have hHi := hxHi u hu255
                  have hLo := hxLo u hu255
                  have he : Pt.hexes px j (2 + 1) = Pt.hexes px j 2 ++ [Pt.hx (u / 16), Pt.hx (u % 16)] := by
                    show _ ++ Pt.hex2 (px (3 * j + 2)).toNat = _
                    rw [hu]; rfl
                  have HE := Lib.hid he
                  have HV1 := Lib.hid (fun V hV => writeByte_is w2.heap.size (l ++ (Lib.decDigits (k - j) ++ [32]) ++ Pt.hexes px j 2) (Pt.hx (u / 16)) V hV (by simp only [List.length_append, List.length_cons, List.length_nil, hxl]; omega))
                  have HV2 := Lib.hid (fun V hV => writeByte_is w2.heap.size (l ++ (Lib.decDigits (k - j) ++ [32]) ++ Pt.hexes px j 2 ++ [Pt.hx (u / 16)]) (Pt.hx (u % 16)) V hV (by simp only [List.length_append, List.length_cons, List.length_nil, hxl]; omega))
                  rw [← hu] at hA hAr hSr hHi hLo
                  clear he
                  simp only [Int.cast_ofNat_Int]
                  obtain ⟨hq0, hq1⟩ := HPC
                  have HU := Lib.hid hu
                  clear hu hu255
                  go_wp2_with (go_at_call 18; first
                    | ((with_reducible refine (HV1.out _ hblc).mono ?_); rintro e wa ⟨rfl, hbla, hBa, _⟩; have hCa := hCc.trans hBa)
                    | ((with_reducible refine (HV2.out _ hbla).mono ?_); rintro e wb ⟨rfl, hblb, hBb, _⟩; have hCb := hCa.trans hBb))
                  go_roundg (3 - (2 + 1))
                  case rel => exact ⟨2 + 1, by omega, rfl, by go_num, by rw [HE.out]; simpa only [List.append_assoc, List.cons_append, List.nil_append] using hblb, hCb⟩
                  case measure => omega
                · have HBn : Hid (∀ V, Bld V w2.heap.size (l ++ (Lib.decDigits (k - j) ++ [32]) ++ Pt.hexes px j 3) → Calls Tryd.prog 18 #[.pointer (some ⟨w2.heap.size, 0, none⟩), .int .u8 10] V fun e w' => e = .returned .nilIface ∧ Bld w' w2.heap.size (l ++ (Lib.decDigits (k - j) ++ [32]) ++ Pt.hexes px j 3 ++ [10]) ∧ Below w2.heap.size V w' ∧ Lib.OthersKept 5 (some w2.heap.size) V w') :=
                    fun V hV => writeByte_is w2.heap.size _ 10 V hV (by simp only [List.length_append, List.length_cons, List.length_nil, hxl]; omega)
                  simp only [Int.cast_ofNat_Int]
                  go_wp2_with (go_at_call 18; (with_reducible refine (HBn.out _ hblc).mono ?_); rintro e wa ⟨rfl, hbla, hBa, _⟩; have hCa := hCc.trans hBa)
                  go_roundg (N - k)
                  case rel =>
                    refine ⟨k, _, by omega, rfl, rfl, ?_, hbla, hCa⟩
                    rw [← hl, Pt.txt_go hlt, HST.out, Pt.hexes_three]
                    unfold Pt.line
                    simp only [List.append_assoc]
                  case measure => omega
            · have hs' := hs
              unfold Pt.same at hs'
              rw [hs'] at heq
              rw [Pt.stop_go hkN hs] at hst
              have HST := Lib.hid hst
              clear hs hs' hst
              go_wp2_with fail
              refine wp_region_quiet_below (by kernel_rfl) (by kernel_rfl) ?_
              repeat (go_big_quiet_step ((go_at_call 17; with_reducible exact HATk.out _ _)))
              refine wpQuiet_nil ?_
              intro _ hw'
              obtain ⟨⟨dq, osq⟩, hw''⟩ := hw'
              subst hw''
              have hBw5 := below_regrown wr dq osq
              generalize grow (redrawn wr dq) osq = w5 at *
              clear dq osq
              go_wp2_with fail
              go_roundg (N - (k + 1))
              case rel => exact ⟨k + 1, by omega, by omega, rfl, by go_num, HST.out, below_up hBi hBw5⟩
              case measure => omega
          · have HST : Hid (Pt.stop px N j j = k) := by
              have e : k = N := by omega
              show _ = _
              rw [hst, e, Pt.stop_end]
            clear hst
            have hd1 : decide ((k : Int) < (N : Int)) = false := decide_eq_false (by omega)
            have hf1 : ((k : Int) < (N : Int)) = False := eq_false (by omega)
            have hd2 : decide (k < N) = false := decide_eq_false (by omega)
            have hf2 : (k < N) = False := eq_false (by omega)
            go_wp2_with fail
            refine wp_region_quiet_below (by kernel_rfl) (by kernel_rfl) ?_
            repeat (go_big_quiet_step (fail))
            refine wpQuiet_nil ?_
            intro _ hw'
            obtain ⟨⟨dq, osq⟩, hw''⟩ := hw'
            subst hw''
            have hBw5 := below_regrown wr dq osq
            generalize grow (redrawn wr dq) osq = w5 at *
            clear dq osq
            -- behind the inner loop, in the world w5: the line of the run from j to k
            have hjk : j < k := by have := Pt.stop_gt (px := px) (all := N) (f := j) hlt; rw [HST.out] at this; exact this.1
            have hBX := below_up hBi hBw5
            have hkj : (k : Int) - (j : Int) = ((k - j : Nat) : Int) := by omega
            have hlb : l.length ≤ 120000 := by
              have h1 := congrArg List.length hl
              have h2 := Pt.txt_len px N (by omega) N 0 (by omega) (by omega)
              unfold Pt.text at h1
              rw [HN.out, List.length_append, List.length_append] at h1
              omega
            have hdn := Tx.dl_le (k - j) (by omega)
            have hdn2 : (Lib.decDigits (k - j)).length ≤ 19 := hdn
            have HIK := Lib.hid (itoaB (k - j) (by omega) w5 (Tx.tab_below HT.out (below_up HB1.out (below_up HB2.out (below_up HBC.out hBX)))))
            have hc1 := cat_mk (Lib.decDigits (k - j)) [32] (by simp; omega)
            have HWS2 := Lib.hid (fun V hV => writeString_is w2.heap.size l (Lib.decDigits (k - j) ++ [32]) V hV (by simp; omega))
            generalize Tx.mk (Lib.decDigits (k - j) ++ [32]) = D2 at *
            generalize Tx.mk (Lib.decDigits (k - j)) = D1 at *
            clear m0 m1 m2 z0 z1 z2 k0 k1 k2 y0 y1 y2 hgd
            go_wp2_with fail
            go_at_call 16
            refine HIK.out.mono ?_
            rintro e w7 ⟨rfl, hB7⟩
            have hbl7 := (HBLC.out.keep hBX).keep hB7
            have hC7 := below_up (below_up HBC.out hBX) hB7
            have hz7 := (HZP.out.keep hBX).keep hB7
            go_wp2_with (go_at_call 15; (with_reducible refine (HWS2.out _ hbl7).mono ?_); rintro e w8 ⟨rfl, hbl8, hB8, hk8⟩; have hC8 := hC7.trans hB8; have hz8 := hz7.others hk8 hpb2 (by decide); obtain ⟨z0, z1, z2⟩ := hz8.three)
            have HBL8 := Lib.hid hbl8
            have HC8 := Lib.hid hC8
            clear hbl8 hC8 hk8 hB8 hz8 hz7 hC7 hbl7 hB7 z0 z1 z2 hBX hBw5 hBi
            go_wp2_with fail
            go_loopg [73] 3 (fun gk i wq => ∃ c : Nat, c ≤ 3 ∧ gk = 3 - c ∧ i = .int .i64 c ∧ Bld wq w2.heap.size (l ++ (Lib.decDigits (k - j) ++ [32]) ++ Pt.hexes px j c) ∧ Below w2.heap.size w2 wq)
            case atStart => exact ⟨0, by omega, rfl, rfl, by rw [Pt.hexes, List.append_nil]; exact HBL8.out, HC8.out⟩
            case round =>
              obtain ⟨c, hc3, rfl, rfl, hblc, hCc⟩ := hrel
              have hxl := Pt.hexes_len px j c
              have hcs : c = 0 ∨ c = 1 ∨ c = 2 ∨ c = 3 := by omega
              rcases hcs with rfl | rfl | rfl | rfl
              · have HPC := hpx (3 * j)
                obtain ⟨u, hu⟩ := Int.eq_ofNat_of_zero_le HPC.1
                have hu255 : u ≤ 255 := by omega
                have hpi := pxi0 (px (3 * j)) (px (3 * j + 1)) (px (3 * j + 2))
                have hA := and15 u hu255
                have hAr := and15r u hu255
                have hSr := shr4 u hu255
                have hHi := hxHi u hu255
                have hLo := hxLo u hu255
                have he : Pt.hexes px j (0 + 1) = Pt.hexes px j 0 ++ [Pt.hx (u / 16), Pt.hx (u % 16)] := by
                  show _ ++ Pt.hex2 (px (3 * j)).toNat = _
                  rw [hu]; rfl
                have HE := Lib.hid he
                have HV1 := Lib.hid (fun V hV => writeByte_is w2.heap.size (l ++ (Lib.decDigits (k - j) ++ [32]) ++ Pt.hexes px j 0) (Pt.hx (u / 16)) V hV (by simp only [List.length_append, List.length_cons, List.length_nil, hxl]; omega))
                have HV2 := Lib.hid (fun V hV => writeByte_is w2.heap.size (l ++ (Lib.decDigits (k - j) ++ [32]) ++ Pt.hexes px j 0 ++ [Pt.hx (u / 16)]) (Pt.hx (u % 16)) V hV (by simp only [List.length_append, List.length_cons, List.length_nil, hxl]; omega))
                rw [← hu] at hA hAr hSr hHi hLo
                clear he
                simp only [Int.natCast_zero]
                obtain ⟨hq0, hq1⟩ := HPC
                have HU := Lib.hid hu
                clear hu hu255
                go_wp2_with (go_at_call 18; first
                  | ((with_reducible refine (HV1.out _ hblc).mono ?_); rintro e wa ⟨rfl, hbla, hBa, _⟩; have hCa := hCc.trans hBa)
                  | ((with_reducible refine (HV2.out _ hbla).mono ?_); rintro e wb ⟨rfl, hblb, hBb, _⟩; have hCb := hCa.trans hBb))
                go_roundg (3 - (0 + 1))
                case rel => exact ⟨0 + 1, by omega, rfl, by go_num, by rw [HE.out]; simpa only [List.append_assoc, List.cons_append, List.nil_append] using hblb, hCb⟩
                case measure => omega
              · have HPC := hpx (3 * j + 1)
                obtain ⟨u, hu⟩ := Int.eq_ofNat_of_zero_le HPC.1
                have hu255 : u ≤ 255 := by omega
                have hpi := pxi1 (px (3 * j)) (px (3 * j + 1)) (px (3 * j + 2))
                have hA := and15 u hu255
                have hAr := and15r u hu255
                have hSr := shr4 u hu255
                have hHi := hxHi u hu255
                have hLo := hxLo u hu255
                have he : Pt.hexes px j (1 + 1) = Pt.hexes px j 1 ++ [Pt.hx (u / 16), Pt.hx (u % 16)] := by
                  show _ ++ Pt.hex2 (px (3 * j + 1)).toNat = _
                  rw [hu]; rfl
                have HE := Lib.hid he
                have HV1 := Lib.hid (fun V hV => writeByte_is w2.heap.size (l ++ (Lib.decDigits (k - j) ++ [32]) ++ Pt.hexes px j 1) (Pt.hx (u / 16)) V hV (by simp only [List.length_append, List.length_cons, List.length_nil, hxl]; omega))
                have HV2 := Lib.hid (fun V hV => writeByte_is w2.heap.size (l ++ (Lib.decDigits (k - j) ++ [32]) ++ Pt.hexes px j 1 ++ [Pt.hx (u / 16)]) (Pt.hx (u % 16)) V hV (by simp only [List.length_append, List.length_cons, List.length_nil, hxl]; omega))
                rw [← hu] at hA hAr hSr hHi hLo
                clear he
                simp only [Int.natCast_one]
                obtain ⟨hq0, hq1⟩ := HPC
                have HU := Lib.hid hu
                clear hu hu255
                go_wp2_with (go_at_call 18; first
                  | ((with_reducible refine (HV1.out _ hblc).mono ?_); rintro e wa ⟨rfl, hbla, hBa, _⟩; have hCa := hCc.trans hBa)
                  | ((with_reducible refine (HV2.out _ hbla).mono ?_); rintro e wb ⟨rfl, hblb, hBb, _⟩; have hCb := hCa.trans hBb))
                go_roundg (3 - (1 + 1))
                case rel => exact ⟨1 + 1, by omega, rfl, by go_num, by rw [HE.out]; simpa only [List.append_assoc, List.cons_append, List.nil_append] using hblb, hCb⟩
                case measure => omega
              · have HPC := hpx (3 * j + 2)
                obtain ⟨u, hu⟩ := Int.eq_ofNat_of_zero_le HPC.1
                have hu255 : u ≤ 255 := by omega
                have hpi := pxi2 (px (3 * j)) (px (3 * j + 1)) (px (3 * j + 2))
                have hA := and15 u hu255
                have hAr := and15r u hu255
                have hSr := shr4 u hu255
                have hHi := hxHi u hu255
                have hLo := hxLo u hu255
                have he : Pt.hexes px j (2 + 1) = Pt.hexes px j 2 ++ [Pt.hx (u / 16), Pt.hx (u % 16)] := by
                  show _ ++ Pt.hex2 (px (3 * j + 2)).toNat = _
                  rw [hu]; rfl
                have HE := Lib.hid he
                have HV1 := Lib.hid (fun V hV => writeByte_is w2.heap.size (l ++ (Lib.decDigits (k - j) ++ [32]) ++ Pt.hexes px j 2) (Pt.hx (u / 16)) V hV (by simp only [List.length_append, List.length_cons, List.length_nil, hxl]; omega))
                have HV2 := Lib.hid (fun V hV => writeByte_is w2.heap.size (l ++ (Lib.decDigits (k - j) ++ [32]) ++ Pt.hexes px j 2 ++ [Pt.hx (u / 16)]) (Pt.hx (u % 16)) V hV (by simp only [List.length_append, List.length_cons, List.length_nil, hxl]; omega))
                rw [← hu] at hA hAr hSr hHi hLo
                clear he
                simp only [Int.cast_ofNat_Int]
                obtain ⟨hq0, hq1⟩ := HPC
                have HU := Lib.hid hu
                clear hu hu255
                go_wp2_with (go_at_call 18; first
                  | ((with_reducible refine (HV1.out _ hblc).mono ?_); rintro e wa ⟨rfl, hbla, hBa, _⟩; have hCa := hCc.trans hBa)
                  | ((with_reducible refine (HV2.out _ hbla).mono ?_); rintro e wb ⟨rfl, hblb, hBb, _⟩; have hCb := hCa.trans hBb))
                go_roundg (3 - (2 + 1))
                case rel => exact ⟨2 + 1, by omega, rfl, by go_num, by rw [HE.out]; simpa only [List.append_assoc, List.cons_append, List.nil_append] using hblb, hCb⟩
                case measure => omega
              · have HBn : Hid (∀ V, Bld V w2.heap.size (l ++ (Lib.decDigits (k - j) ++ [32]) ++ Pt.hexes px j 3) → Calls Tryd.prog 18 #[.pointer (some ⟨w2.heap.size, 0, none⟩), .int .u8 10] V fun e w' => e = .returned .nilIface ∧ Bld w' w2.heap.size (l ++ (Lib.decDigits (k - j) ++ [32]) ++ Pt.hexes px j 3 ++ [10]) ∧ Below w2.heap.size V w' ∧ Lib.OthersKept 5 (some w2.heap.size) V w') :=
                  fun V hV => writeByte_is w2.heap.size _ 10 V hV (by simp only [List.length_append, List.length_cons, List.length_nil, hxl]; omega)
                simp only [Int.cast_ofNat_Int]
                go_wp2_with (go_at_call 18; (with_reducible refine (HBn.out _ hblc).mono ?_); rintro e wa ⟨rfl, hbla, hBa, _⟩; have hCa := hCc.trans hBa)
                go_roundg (N - k)
                case rel =>
                  refine ⟨k, _, by omega, rfl, rfl, ?_, hbla, hCa⟩
                  rw [← hl, Pt.txt_go hlt, HST.out, Pt.hexes_three]
                  unfold Pt.line
                  simp only [List.append_assoc]
                case measure => omega
    · obtain rfl : j = N := by omega
      rw [Pt.txt_end, List.append_nil] at hl
      have HSG := Lib.hid (bldString_is _ _ wr hbl)
      go_wp2_with (go_at_call 19; refine HSG.out.mono ?_; rintro e w7 ⟨rfl, hB7⟩)
      go_ret2
      exact ⟨by first | rfl | (rw [hl]; rfl), below_up HB1.out (below_up HB2.out (hB.trans hB7))⟩
end Go.Proofs.YtpgjpnnjlilokaaDoor
