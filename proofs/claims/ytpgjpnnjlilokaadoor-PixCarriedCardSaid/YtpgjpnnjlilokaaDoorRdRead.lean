/- pix.Read: the errors ahead of the runs. -/
import Derived.Test.YtpgjpnnjlilokaaDoorRdMath
import Derived.Test.YtpgjpnnjlilokaaDoorPtEq
import Derived.Deep.RegionLaw
import Derived.BigQuiet
namespace Go.Proofs.YtpgjpnnjlilokaaDoor
open Go.RowKit Go.Sort Go.Shelf
set_option linter.unusedVariables false
theorem infoRun : (Tryd.prog.info? 59).map (fun i => (i.zero, i.size, i.bytes)) = some (some (.agg #[.int .i64 0, .int .u8 0, .int .u8 0, .int .u8 0]), 4, 16) := by kernel_rfl
theorem below_set3 {B : Nat} {w w' : World} (h : Below B w w') (b : Nat) (hb : B ≤ b) (v0 v1 v2 : Value) : Below B w (((w'.setCell ⟨b, 0, none⟩ v0).setCell ⟨b, 1, none⟩ v1).setCell ⟨b, 2, none⟩ v2) :=
  ((h.setCell (p := ⟨b, 0, none⟩) hb v0).setCell (p := ⟨b, 1, none⟩) hb v1).setCell (p := ⟨b, 2, none⟩) hb v2
theorem clip_bytes (a : Option Addr) (n ca : Nat) (w : World) (h : n ≤ ca) (hc : ca ≤ 9223372036854775807) : Calls Tryd.prog 27 #[.slice a n ca] w fun e w' => e = .returned (.slice a n n) ∧ w = w' := by
  go_enter Tryd.func27, Tryd.ntmps27
  go_wp2_with fail
  go_ret
  exact ⟨rfl, rfl⟩
set_option maxRecDepth 100000 in
set_option maxHeartbeats 2000000 in
theorem read_large (s : List UInt8) (hs : 1000000 < s.length) (w : World) : Calls Tryd.prog 12 #[.string (Tx.mk s)] w (ReadPost w (.err 4)) := by
  obtain ⟨W1, hW1, hR1, hz1, hB1⟩ := box w #[.int .i64 0, .int .i64 0, .slice none 0 0] 24
  have H1 := Lib.hid hW1
  have hsz := Tx.mk_size s
  have rf := hR1.free
  obtain ⟨r0, r1, r2⟩ := hR1.three
  clear hW1
  go_enter Tryd.func12, Tryd.ntmps12
  go_wp2_with fail
  rw [H1.out]
  go_wp2_with fail
  -- tintype/pix.Read: the function; 4: the error; hB1: the last Below
  exact bodyPost_ret (v := .tuple #[.agg #[.int .i64 0, .int .i64 0, .slice none 0 0], .int .i64 4]) (by simp [results, Tryd.results12, go_sem, r0, r1, r2]) rfl (by first | exact ⟨below_set3 (hB1) w.heap.size (Nat.le_refl _) _ _ _, rfl⟩ | exact ⟨hB1, rfl⟩)
set_option maxRecDepth 100000 in
set_option maxHeartbeats 2000000 in
theorem read_nohead (s : List UInt8) (hs : s.length ≤ 1000000) (h : Pr.head (Pr.lin s 0) = none) (w : World) (hm : Mx w) : Calls Tryd.prog 12 #[.string (Tx.mk s)] w (ReadPost w (.err 8)) := by
  obtain ⟨W1, hW1, hR1, hz1, hB1⟩ := box w #[.int .i64 0, .int .i64 0, .slice none 0 0] 24
  have H1 := Lib.hid hW1
  have hsz := Tx.mk_size s
  have HSP : Hid (Calls Tryd.prog 24 #[.string (Tx.mk s), .string ⟨#[10]⟩] W1 fun e w' => e = .returned (.slice (some ⟨W1.heap.size, 0, none⟩) (Pr.spl 10 s).length (Pr.spl 10 s).length) ∧ StrRow w' W1.heap.size (Pr.spl 10 s) ∧ Below W1.heap.size W1 w' ∧ w'.heap.size = W1.heap.size + 1) := split_is s 10 (by omega) W1 (hm.below hB1)
  have HRH := Lib.hid (fun V hV => readHead_is (Pr.lin s 0) (Nat.le_trans (Pr.lin_le s 0) hs) V hV)
  have hLpos : 1 ≤ (Pr.spl 10 s).length := List.length_pos_iff.2 (Pr.spl_ne 10 s)
  have hLle := Pr.spl_len_le 10 s
  have hge : ∀ i, (Pr.spl 10 s).getD i [] = Pr.lin s i := fun i => rfl
  obtain ⟨L, hL⟩ : ∃ L, (Pr.spl 10 s).length = L := ⟨_, rfl⟩
  clear hW1
  rw [hL] at hLpos hLle HSP
  rw [h] at HRH
  obtain ⟨z, hlast⟩ : ∃ z, Tx.mk (Pr.lin s (L - 1)) = z := ⟨_, rfl⟩
  go_enter Tryd.func12, Tryd.ntmps12
  go_wp2_with fail
  rw [H1.out]
  go_wp2_with fail
  go_at_call 24
  refine HSP.out.mono ?_
  rintro e w2 ⟨rfl, hSR, hB2, hz2⟩
  have l0 := hSR.2 0 (by omega)
  have l1 := hSR.2 (L - 1) (by omega)
  rw [hge] at l0 l1
  rw [hlast] at l1
  have lc : (((L : Nat) : Int) - 1) = ((L - 1 : Nat) : Int) := by omega
  obtain ⟨lb, hlb⟩ : ∃ b, W1.heap.size = b := ⟨_, rfl⟩
  rw [hlb] at l0 l1 hSR ⊢
  go_wp2_with fail
  go_at_call 25
  refine (HRH.out _ (hm.below (below_up hB1 hB2))).mono ?_
  rintro e w3 ⟨x, y, ok, rfl, hok, hxy, hB3⟩; (cases ok with | true => exact absurd hok (by simp) | false => ?_)
  have hB13 := below_up hB2 hB3
  obtain ⟨r0, r1, r2⟩ := (hR1.keep hB13).three
  have rf := (hR1.keep hB13).free
  have hSR3 := hSR.keep hB3
  have l3 := hSR3.2 (L - 1) (by omega)
  rw [hge, hlast] at l3
  go_wp2_with fail
  -- tintype/pix.Read: the function; 8: the error; below_up hB1 hB13: the last Below
  exact bodyPost_ret (v := .tuple #[.agg #[.int .i64 0, .int .i64 0, .slice none 0 0], .int .i64 8]) (by simp [results, Tryd.results12, go_sem, r0, r1, r2]) rfl (by first | exact ⟨below_set3 (below_up hB1 hB13) w.heap.size (Nat.le_refl _) _ _ _, rfl⟩ | exact ⟨below_up hB1 hB13, rfl⟩)
set_option maxRecDepth 100000 in
set_option maxHeartbeats 2000000 in
theorem read_last (s : List UInt8) (hs : s.length ≤ 1000000) (h : Pr.lin s ((Pr.spl 10 s).length - 1) ≠ []) (w : World) (hm : Mx w) : Calls Tryd.prog 12 #[.string (Tx.mk s)] w (ReadPost w (.err 8)) := by
  cases hh : Pr.head (Pr.lin s 0) with
  | none => exact read_nohead s hs hh w hm
  | some WH =>
    obtain ⟨W1, hW1, hR1, hz1, hB1⟩ := box w #[.int .i64 0, .int .i64 0, .slice none 0 0] 24
    have H1 := Lib.hid hW1
    have hsz := Tx.mk_size s
    have HSP : Hid (Calls Tryd.prog 24 #[.string (Tx.mk s), .string ⟨#[10]⟩] W1 fun e w' => e = .returned (.slice (some ⟨W1.heap.size, 0, none⟩) (Pr.spl 10 s).length (Pr.spl 10 s).length) ∧ StrRow w' W1.heap.size (Pr.spl 10 s) ∧ Below W1.heap.size W1 w' ∧ w'.heap.size = W1.heap.size + 1) := split_is s 10 (by omega) W1 (hm.below hB1)
    have HRH := Lib.hid (fun V hV => readHead_is (Pr.lin s 0) (Nat.le_trans (Pr.lin_le s 0) hs) V hV)
    have hLpos : 1 ≤ (Pr.spl 10 s).length := List.length_pos_iff.2 (Pr.spl_ne 10 s)
    have hLle := Pr.spl_len_le 10 s
    have hge : ∀ i, (Pr.spl 10 s).getD i [] = Pr.lin s i := fun i => rfl
    obtain ⟨L, hL⟩ : ∃ L, (Pr.spl 10 s).length = L := ⟨_, rfl⟩
    clear hW1
    rw [hL] at hLpos hLle HSP
    rw [hL] at h
    rw [hh] at HRH
    have e1 := mkEmpty_no _ h
    obtain ⟨z, hlast⟩ : ∃ z, Tx.mk (Pr.lin s (L - 1)) = z := ⟨_, rfl⟩
    rw [hlast] at e1
    go_enter Tryd.func12, Tryd.ntmps12
    go_wp2_with fail
    rw [H1.out]
    go_wp2_with fail
    go_at_call 24
    refine HSP.out.mono ?_
    rintro e w2 ⟨rfl, hSR, hB2, hz2⟩
    have l0 := hSR.2 0 (by omega)
    have l1 := hSR.2 (L - 1) (by omega)
    rw [hge] at l0 l1
    rw [hlast] at l1
    have lc : (((L : Nat) : Int) - 1) = ((L - 1 : Nat) : Int) := by omega
    obtain ⟨lb, hlb⟩ : ∃ b, W1.heap.size = b := ⟨_, rfl⟩
    rw [hlb] at l0 l1 hSR ⊢
    go_wp2_with fail
    go_at_call 25
    refine (HRH.out _ (hm.below (below_up hB1 hB2))).mono ?_
    rintro e w3 ⟨x, y, ok, rfl, hok, hxy, hB3⟩; (cases ok with | false => exact absurd hok (by simp) | true => ?_); clear hok
    have hB13 := below_up hB2 hB3
    obtain ⟨r0, r1, r2⟩ := (hR1.keep hB13).three
    have rf := (hR1.keep hB13).free
    have hSR3 := hSR.keep hB3
    have l3 := hSR3.2 (L - 1) (by omega)
    rw [hge, hlast] at l3
    go_wp2_with fail
    -- tintype/pix.Read: the function; 8: the error; below_up hB1 hB13: the last Below
    exact bodyPost_ret (v := .tuple #[.agg #[.int .i64 0, .int .i64 0, .slice none 0 0], .int .i64 8]) (by simp [results, Tryd.results12, go_sem, r0, r1, r2]) rfl (by first | exact ⟨below_set3 (below_up hB1 hB13) w.heap.size (Nat.le_refl _) _ _ _, rfl⟩ | exact ⟨below_up hB1 hB13, rfl⟩)
set_option maxRecDepth 100000 in
set_option maxHeartbeats 8000000 in
theorem read_main (s : List UInt8) (hs : s.length ≤ 1000000) (W H : Nat) (hh : Pr.head (Pr.lin s 0) = some (W, H)) (hlast : Pr.lin s ((Pr.spl 10 s).length - 1) = []) (G M : Nat)
    (hGn : G ≤ (Pr.spl 10 s).length - 2) (hG1 : ∀ i, i < G → (Pr.run (Pr.lin s (i + 1))).isSome = true) (hG2 : G < (Pr.spl 10 s).length - 2 → Pr.run (Pr.lin s (G + 1)) = none)
    (hMn : M ≤ (Pr.spl 10 s).length - 2) (hM1 : ∀ i, i < M → Pr.okAt (W * H) (Pr.rn s) i) (hM2 : M < (Pr.spl 10 s).length - 2 → ¬ Pr.okAt (W * H) (Pr.rn s) M)
    (w : World) (hm : Mx w) :
    Calls Tryd.prog 12 #[.string (Tx.mk s)] w (ReadPost w (Pr.resOf G ((Pr.spl 10 s).length - 2) W H M (Pr.sumN (Pr.rn s) ((Pr.spl 10 s).length - 2)) (Pr.acc (Pr.rn s) ((Pr.spl 10 s).length - 2)))) := by
  have hL2 : 2 ≤ (Pr.spl 10 s).length := by
    rcases Nat.lt_or_ge 1 (Pr.spl 10 s).length with h | h
    · exact h
    · have h1 : (Pr.spl 10 s).length - 1 = 0 := by omega
      rw [h1] at hlast
      rw [hlast] at hh
      have : Pr.head [] = none := by decide
      rw [this] at hh; cases hh
  obtain ⟨i0, hi0, hz0, hz1, hz2⟩ := info_parts infoRun
  have HU0 := Lib.hid hi0; have HU1 := Lib.hid hz0; have HU2 := Lib.hid hz1; have HU3 := Lib.hid hz2
  clear hi0 hz0 hz1 hz2
  obtain ⟨i1, hi0, hz0, hz1, hz2⟩ := info_parts infoU8
  have HV0 := Lib.hid hi0; have HV1 := Lib.hid hz0; have HV2 := Lib.hid hz1; have HV3 := Lib.hid hz2
  clear hi0 hz0 hz1 hz2
  obtain ⟨W1, hW1, hR1, hz1, hB1⟩ := box w #[.int .i64 0, .int .i64 0, .slice none 0 0] 24
  have H1 := Lib.hid hW1
  have hsz := Tx.mk_size s
  have HSP : Hid (Calls Tryd.prog 24 #[.string (Tx.mk s), .string ⟨#[10]⟩] W1 fun e w' => e = .returned (.slice (some ⟨W1.heap.size, 0, none⟩) (Pr.spl 10 s).length (Pr.spl 10 s).length) ∧ StrRow w' W1.heap.size (Pr.spl 10 s) ∧ Below W1.heap.size W1 w' ∧ w'.heap.size = W1.heap.size + 1) := split_is s 10 (by omega) W1 (hm.below hB1)
  have HRH := Lib.hid (fun V hV => readHead_is (Pr.lin s 0) (Nat.le_trans (Pr.lin_le s 0) hs) V hV)
  have hLpos : 1 ≤ (Pr.spl 10 s).length := List.length_pos_iff.2 (Pr.spl_ne 10 s)
  have hLle := Pr.spl_len_le 10 s
  have hge : ∀ i, (Pr.spl 10 s).getD i [] = Pr.lin s i := fun i => rfl
  obtain ⟨L, hL⟩ : ∃ L, (Pr.spl 10 s).length = L := ⟨_, rfl⟩
  clear hW1
  rw [hL] at hLpos hLle HSP
  rw [hL] at hlast hGn hG2 hMn hM2 hL2 ⊢
  rw [hh] at HRH
  have HG1 := Lib.hid hG1; have HG2 := Lib.hid hG2; have HM1 := Lib.hid hM1; have HM2 := Lib.hid hM2
  clear hG1 hG2 hM1 hM2
  have HRR := Lib.hid (fun i V hV => readRun_is (Pr.lin s i) (Nat.le_trans (Pr.lin_le s i) hs) V hV)
  obtain ⟨n, rfl⟩ : ∃ n, L = n + 2 := ⟨L - 2, by omega⟩
  have hlast : Tx.mk (Pr.lin s (n + 1)) = ⟨#[]⟩ := by rw [show n + 1 = n + 2 - 1 from rfl, hlast]
  rw [show n + 2 - 2 = n from rfl] at hGn hMn HG2 HM2 ⊢
  go_enter Tryd.func12, Tryd.ntmps12
  go_wp2_with fail
  rw [H1.out]
  go_wp2_with fail
  go_at_call 24
  refine HSP.out.mono ?_
  rintro e w2 ⟨rfl, hSR, hB2, hz2⟩
  have l0 := hSR.2 0 (by omega)
  have l1 := hSR.2 (n + 1) (by omega)
  rw [hge] at l0 l1
  rw [hlast] at l1
  have lc : (((n + 2 : Nat) : Int) - 1) = ((n + 1 : Nat) : Int) := by omega
  obtain ⟨lb, hlb⟩ : ∃ b, W1.heap.size = b := ⟨_, rfl⟩
  rw [hlb] at l0 l1 hSR ⊢
  go_wp2_with fail
  go_at_call 25
  refine (HRH.out _ (hm.below (below_up hB1 hB2))).mono ?_
  -- the head is good: W and H under their names
  rintro e w3 ⟨x, y, ok, rfl, hok, hxy, hB3⟩
  cases ok with
  | false => exact absurd hok (by simp)
  | true => ?_
  obtain ⟨rfl, rfl⟩ : W = x ∧ H = y := by simpa using hok
  have hB13 := below_up hB2 hB3
  obtain ⟨r0, r1, r2⟩ := (hR1.keep hB13).three
  have rf := (hR1.keep hB13).free
  have hSR3 := hSR.keep hB3
  have l3 := hSR3.2 (n + 1) (by omega)
  rw [hge, hlast] at l3
  have hBw := below_up hB1 hB13
  have hmx := hm.below hBw
  obtain ⟨lb1, hlb1⟩ : ∃ b, w3.heap.size = b := ⟨_, rfl⟩
  have hlbw : w.heap.size + 1 = lb := by omega
  have hlb2 : lb < lb1 := by have := hB3.size; omega
  have hR3 := hR1.keep hB13
  have hn6 : n ≤ 1000000 := by omega
  go_wp2_with fail
  clear r0 r1 r2 rf l0 l1 l3 HRH HSP hLpos
  go_loopg [9, 49] n (fun gk v i wr => ∃ j : Nat, j ≤ G ∧ gk = n - j ∧ i = .int .i64 j ∧ Blk wr w.heap.size #[.int .i64 0, .int .i64 0, .slice none 0 0] 24 ∧ StrRow wr lb (Pr.spl 10 s) ∧ wr.ownsRow lb1 59 4 v j (Pr.flat4 (Pr.rn s) j) ∧ Below w.heap.size w wr ∧ lb1 ≤ wr.heap.size)
  case atStart => exact ⟨0, by omega, rfl, rfl, hR3, hSR3, ⟨rfl, .inl ⟨rfl, rfl⟩⟩, hBw, by omega⟩
  case round =>
    obtain ⟨j, hjG, rfl, rfl, hR, hS, hown, hB, hsz1⟩ := hrel
    obtain ⟨r0, r1, r2⟩ := hR.three
    have rf := hR.free
    by_cases hjn : j < n
    · have lj := hS.2 (1 + j) (by omega)
      rw [hge] at lj
      have HRJ := Lib.hid (HRR.out (1 + j))
      by_cases hjG2 : j < G
      · obtain ⟨r, hr⟩ := Option.isSome_iff_exists.1 (HG1.out j hjG2)
        rw [Nat.add_comm] at hr
        have hrn : Pr.rn s j = r := by unfold Pr.rn; rw [Nat.add_comm, hr]; rfl
        rw [hr] at HRJ
        have hlt := Pr.run_lt hr
        obtain ⟨nn, pa, pb, pc⟩ := r
        have HR2 : Hid (∀ V, Mx V → Calls Tryd.prog 26 #[.string (Tx.mk (Pr.lin s (1 + j)))] V fun e w' => e = .returned (.tuple #[.agg #[.int .i64 nn, .int .u8 pa, .int .u8 pb, .int .u8 pc], .bool true]) ∧ Below V.heap.size V w') := HRJ.out
        have HF4 : Hid (Pr.flat4 (Pr.rn s) j ++ [.int .i64 nn, .int .u8 pa, .int .u8 pb, .int .u8 pc] = Pr.flat4 (Pr.rn s) (j + 1)) := by show _ = Pr.flat4 (Pr.rn s) j ++ _; rw [hrn]
        go_wp2_with fail
        go_at_call 26
        refine (HR2.out _ (hm.below hB)).mono ?_
        rintro e w4 ⟨rfl, hB4⟩
        obtain ⟨W5, hW5, hX5, hz5, hB5⟩ := box w4 #[.int .i64 nn, .int .u8 pa, .int .u8 pb, .int .u8 pc] 59
        have HW5 := Lib.hid hW5
        clear hW5 hz5
        go_upto_region 15 with fail
        rw [HW5.out]
        obtain ⟨x0, x1, x2, x3⟩ := hX5.four
        have hB45 := below_up hB4 hB5
        have hO5 := own_below hown hB45
        have hOa := own_below hO5 (below_allocs (Below.refl W5.heap.size W5) (.cells #[.int .i64 nn, .int .u8 pa, .int .u8 pb, .int .u8 pc] 59))
        have hsz5 : lb1 ≤ W5.heap.size := by have := hB45.size; omega
        go_wp2_with (at_builtin; go_loud (refine wpList_append_own2 _ rfl _ _ 57 rfl lb1 59 i0 (.agg #[.int .i64 0, .int .u8 0, .int .u8 0, .int .u8 0]) 4 16 Tryd.underlying57 HU0.out HU1.out HU2.out HU3.out rfl (by decide) _ _ _ rfl hOa ⟨W5.heap.size, 0, none⟩ 1 1 [.int .i64 nn, .int .u8 pa, .int .u8 pb, .int .u8 pc] rfl (by decide) rfl (cell_four_new _ _ _ _ _ _) (by simp [Value.oneCell']) (by unfold maxLen; omega) (by omega) (by simp; omega) ?_; intro g5 cap5 w5 hown5 hgrow5 hnew5))
        rw [HF4.out] at hown5
        have hne5 : ∀ b, b < lb1 → some b ≠ Value.ownBlock u9 := by
          intro b hb e
          have := (hown.lt b e.symm).1
          omega
        have hBa := (below_allocs (below_up hB hB45) (.cells #[.int .i64 nn, .int .u8 pa, .int .u8 pb, .int .u8 pc] 59)).grown hgrow5 (by have := hB.size; have := hB45.size; simp; omega) (fun k e => by have := (hown.lt k e).1; omega)
        go_wp2_with fail
        go_roundg (n - (j + 1))
        case rel => exact ⟨j + 1, by omega, rfl, by go_num, (((hR.keep hB45).alloc _).grown hgrow5 (hne5 _ (by omega))), (((hS.keep hB45).alloc _).grown hgrow5 (hne5 _ (by omega)) hgrow5.size), hown5, hBa, by have := hgrow5.size; simp at this; omega⟩
        case measure => omega
      · obtain rfl : j = G := by omega
        have hbad := HG2.out hjn
        rw [Nat.add_comm] at hbad
        rw [hbad] at HRJ
        have HR2 : Hid (∀ V, Mx V → Calls Tryd.prog 26 #[.string (Tx.mk (Pr.lin s (1 + j)))] V fun e w' => e = .returned (.tuple #[.agg #[.int .i64 0, .int .u8 0, .int .u8 0, .int .u8 0], .bool false]) ∧ Below V.heap.size V w') := HRJ.out
        have HRS : Hid (Pr.resOf j n W H M (Pr.sumN (Pr.rn s) n) (Pr.acc (Pr.rn s) n) = .err 8) := by show _ = _; unfold Pr.resOf; rw [if_pos hjn]
        go_wp2_with fail
        go_at_call 26
        refine (HR2.out _ (hm.below hB)).mono ?_
        rintro e w4 ⟨rfl, hB4⟩
        have hR4 := (hR.keep hB4).alloc (.cells #[.int .i64 0, .int .u8 0, .int .u8 0, .int .u8 0] 59)
        obtain ⟨r0, r1, r2⟩ := hR4.three
        have rf := hR4.free
        go_wp2_with fail
        rw [HRS.out]
        -- tintype/pix.Read: the function; 8: the error; below_allocs (below_up hB hB4) _: the last Below
        exact bodyPost_ret (v := .tuple #[.agg #[.int .i64 0, .int .i64 0, .slice none 0 0], .int .i64 8]) (by simp [results, Tryd.results12, go_sem, r0, r1, r2]) rfl (by first | exact ⟨below_set3 (below_allocs (below_up hB hB4) _) w.heap.size (Nat.le_refl _) _ _ _, rfl⟩ | exact ⟨below_allocs (below_up hB hB4) _, rfl⟩)
    · obtain rfl : j = n := by omega
      obtain rfl : G = j := by omega
      clear HG1 HG2 HRR hSR hSR3 hS hge hR1 hR3
      by_cases hrange : W < 1 ∨ 64 < W ∨ H < 1 ∨ 64 < H
      · have HRS : Hid (Pr.resOf G G W H M (Pr.sumN (Pr.rn s) G) (Pr.acc (Pr.rn s) G) = .err 2) := by show _ = _; unfold Pr.resOf; rw [if_neg (by omega), if_pos hrange]
        by_cases hw : W < 1 ∨ 64 < W
        · have HO := Lib.hid (fun V => outside_yes W 1 64 V (by omega))
          go_wp2_with (go_at_call 20; (with_reducible refine (HO.out _).mono ?_); rintro e w7 ⟨rfl, rfl⟩)
          rw [HRS.out]
          -- tintype/pix.Read: the function; 2: the error; hB: the last Below
          exact bodyPost_ret (v := .tuple #[.agg #[.int .i64 0, .int .i64 0, .slice none 0 0], .int .i64 2]) (by simp [results, Tryd.results12, go_sem, r0, r1, r2]) rfl (by first | exact ⟨below_set3 (hB) w.heap.size (Nat.le_refl _) _ _ _, rfl⟩ | exact ⟨hB, rfl⟩)
        · have HO := Lib.hid (fun V => outside_no W 1 64 V (by omega) (by omega))
          have HO2 := Lib.hid (fun V => outside_yes H 1 64 V (by omega))
          go_wp2_with (go_at_call 20; first | ((with_reducible refine (HO.out _).mono ?_); rintro e w7 ⟨rfl, rfl⟩) | ((with_reducible refine (HO2.out _).mono ?_); rintro e w7 ⟨rfl, rfl⟩))
          rw [HRS.out]
          -- tintype/pix.Read: the function; 2: the error; hB: the last Below
          exact bodyPost_ret (v := .tuple #[.agg #[.int .i64 0, .int .i64 0, .slice none 0 0], .int .i64 2]) (by simp [results, Tryd.results12, go_sem, r0, r1, r2]) rfl (by first | exact ⟨below_set3 (hB) w.heap.size (Nat.le_refl _) _ _ _, rfl⟩ | exact ⟨hB, rfl⟩)
      · have HO := Lib.hid (fun V => outside_no W 1 64 V (by omega) (by omega))
        have HO2 := Lib.hid (fun V => outside_no H 1 64 V (by omega) (by omega))
        have HB := Lib.hid hB
        obtain ⟨mb, hmb⟩ : ∃ b, wr.heap.size = b := ⟨_, rfl⟩
        obtain ⟨W6, hW6, hX6, hz6, hB6⟩ := box wr #[.int .i64 W, .int .i64 H, .slice none 0 0] 24
        have HW6 := Lib.hid hW6
        rw [hmb] at hX6 hz6
        clear hW6
        go_upto_region 20 with (go_at_call 20; first | ((with_reducible refine (HO.out _).mono ?_); rintro e w7 ⟨rfl, rfl⟩) | ((with_reducible refine (HO2.out _).mono ?_); rintro e w7 ⟨rfl, rfl⟩))
        rw [HW6.out]
        have hRW := hR.keep hB6
        have hR6 := hR
        have hown6 := own_below hown hB6
        have hB06 := below_up hB hB6
        obtain ⟨a, cap, hu9, hga, hcap⟩ : ∃ a cap, u9 = .slice a G cap ∧ (0 < G → ∃ g, a = some ⟨g, 0, none⟩ ∧ g < mb) ∧ G ≤ cap := by
          rcases hown.2 with ⟨h1, h2⟩ | ⟨g, cap, cur, h1, _, _, h3, _⟩
          · exact ⟨none, 0, by rw [h1, h2], fun h => by omega, by omega⟩
          · exact ⟨_, cap, h1, fun _ => ⟨g, rfl, by rw [h1] at hown; rw [← hmb]; exact (hown.lt g rfl).2⟩, h3⟩
        subst hu9
        have HGA := Lib.hid hga
        clear hga hR hmx hxy hok
        obtain ⟨N, hN⟩ : ∃ N, W * H = N := ⟨_, rfl⟩
        have hNi : (W : Int) * (H : Int) = (N : Int) := by rw [← hN, Int.natCast_mul]
        have hN4 : N ≤ 4096 := by rw [← hN]; exact Nat.mul_le_mul (show W ≤ 64 by omega) (show H ≤ 64 by omega)
        have hN1 : 1 ≤ N := by rw [← hN]; exact Nat.mul_le_mul (show 1 ≤ W by omega) (show 1 ≤ H by omega)
        have HER : Hid (∀ k, k ≤ M → k < G → ¬ Pr.okAt N (Pr.rn s) k → Pr.resOf G G W H M (Pr.sumN (Pr.rn s) G) (Pr.acc (Pr.rn s) G) = .err 1) := by
          intro k hk hkG hno
          have : k = M := by
            rcases Nat.lt_or_ge k M with h | h
            · exact absurd (hN ▸ HM1.out k h) hno
            · omega
          unfold Pr.resOf; rw [if_neg (by omega), if_neg hrange, if_pos (by omega)]
        have HSL : Hid (∀ k, k ≤ M → Pr.sumN (Pr.rn s) k ≤ N) := fun k hk => Pr.sumN_le (fun i hi => hN ▸ HM1.out i hi) k hk
        have HRL : Hid (∀ k, (Pr.rn s k).1 < 10000) := by
          intro k
          unfold Pr.rn
          cases hr : Pr.run (Pr.lin s (k + 1)) with
          | none => simp
          | some r => exact (Pr.run_lt hr).1
        have HEND : Hid (M = G → Pr.sumN (Pr.rn s) G = N → Pr.resOf G G W H M (Pr.sumN (Pr.rn s) G) (Pr.acc (Pr.rn s) G) = .ok W H (Pr.acc (Pr.rn s) G)) := by
          intro h1 h2
          unfold Pr.resOf; rw [if_neg (by omega), if_neg hrange, if_neg (by omega), if_neg (by rw [h2, hN]; simp)]
        have HENB : Hid (M = G → Pr.sumN (Pr.rn s) G ≠ N → Pr.resOf G G W H M (Pr.sumN (Pr.rn s) G) (Pr.acc (Pr.rn s) G) = .err 1) := by
          intro h1 h2
          unfold Pr.resOf; rw [if_neg (by omega), if_neg hrange, if_neg (by omega), if_pos (by rw [hN]; exact h2)]
        have HNM : Hid (∀ k, k ≤ M → k < G → Pr.okAt N (Pr.rn s) k → k + 1 ≤ M) := by
          intro k hk hkG hok
          rcases Nat.lt_or_ge k M with h | h
          · omega
          · obtain rfl : k = M := by omega
            exact absurd (hN ▸ hok) (HM2.out hkG)
        have HIN : Hid (¬ (W < 1 ∨ 64 < W ∨ H < 1 ∨ 64 < H)) := hrange
        have hwm : w.heap.size < mb := by rw [← hmb]; exact hR6.lt
        clear hrange HM1 HM2 hN hlast
        generalize hRn : Pr.rn s = R at *
        clear hRn
        go_wp2_with fail
        go_loopg [78] G (fun gk i wr => ∃ (k : Nat) (v : Value), k ≤ M ∧ gk = G - k ∧ i = .int .i64 k ∧ Blk wr w.heap.size #[.int .i64 0, .int .i64 0, .slice none 0 0] 24 ∧ Blk wr mb #[.int .i64 W, .int .i64 H, v] 24 ∧ wr.ownsRow (mb + 1) 5 1 v (3 * Pr.sumN R k) (Pr.acc R k) ∧ wr.ownsRow lb1 59 4 (.slice a G cap) G (Pr.flat4 R G) ∧ Below w.heap.size w wr)
        case atStart => exact ⟨0, _, by omega, rfl, rfl, hRW, hX6, ⟨rfl, .inl ⟨rfl, rfl⟩⟩, hown6, hB06⟩
        case round =>
          clear hB06 hown6 hRW hX6 hBw hB hown
          obtain ⟨k, v, hkM, rfl, rfl, hR, hX, hpx, hl, hB⟩ := hrel
          obtain ⟨S, hS⟩ : ∃ S, Pr.sumN R k = S := ⟨_, rfl⟩
          have hSN := HSL.out k hkM
          rw [hS] at hSN hpx
          obtain ⟨T, hT⟩ : ∃ T, 3 * S = T := ⟨_, rfl⟩
          rw [hT] at hpx
          have hT1 : (T : Int) / 3 = (S : Int) := by omega
          have hT2 : (T : Int).tdiv 3 = (S : Int) := by rw [Int.tdiv_eq_ediv_of_nonneg (by omega)]; exact hT1
          obtain ⟨av, capv, hv⟩ : ∃ av capv, v = .slice av T capv := by
            rcases hpx.2 with ⟨h1, h2⟩ | ⟨g, cap, cur, h1, _⟩
            · exact ⟨none, 0, by rw [h1, h2]⟩
            · exact ⟨_, cap, h1⟩
          by_cases hkG : k < G
          · obtain ⟨g, rfl, hgm⟩ := HGA.out (by omega)
            obtain ⟨l0, l1, l2, l3⟩ := Pr.flat4_get R G k hkG
            have c0 := (hl.cellAt (4 * k) (by omega)).trans l0
            have c1 := (hl.cellAt (4 * k + 1) (by omega)).trans l1
            have c2 := (hl.cellAt (4 * k + 2) (by omega)).trans l2
            have c3 := (hl.cellAt (4 * k + 3) (by omega)).trans l3
            have hn4 := HRL.out k
            obtain ⟨r, hr⟩ : ∃ r, R k = r := ⟨_, rfl⟩
            have HRK := Lib.hid hr
            rw [hr] at c0 c1 c2 c3 hn4
            clear hr l0 l1 l2 l3
            obtain ⟨nn, pa, pb, pc⟩ := r
            simp only at c0 c1 c2 c3 hn4
            rw [Nat.mul_comm] at c0 c1 c2 c3
            obtain ⟨xb, hxb⟩ : ∃ b, wr.heap.size = b := ⟨_, rfl⟩
            obtain ⟨W7, hW7, hX7, hz7, hB7⟩ := box wr #[.int .i64 nn, .int .u8 pa, .int .u8 pb, .int .u8 pc] 59
            have HW7 := Lib.hid hW7
            rw [hxb] at hX7
            clear hW7 hz7
            go_upto_region 23 with fail
            rw [HW7.out]
            have hmx : mb < xb := by rw [← hxb]; exact hX.lt
            obtain ⟨x0, x1, x2, x3⟩ := hX7.four
            have hX6 := hX.keep hB7
            have hR6 := hR.keep hB7
            obtain ⟨m0, m1, m2⟩ := hX6.three
            obtain ⟨r0, r1, r2⟩ := hR6.three
            have rf := hR6.free
            have hl7 := own_below hl hB7
            have hp7 := own_below hpx hB7
            have hB07 := below_up hB hB7
            subst hv
            have hTN : (T : Int) / 3 + (nn : Int) = ((S + nn : Nat) : Int) := by omega
            by_cases h0 : nn = 0
            · subst h0
              have HRS := Lib.hid (HER.out k hkM hkG (fun h => h.1 (by rw [HRK.out])))
              go_wp2_with fail
              go_quiet (fail)
              go_wp2_with fail
              rw [HRS.out]
              -- tintype/pix.Read: the function; 1: the error; below_drewN hB07 _: the last Below
              exact bodyPost_ret (v := .tuple #[.agg #[.int .i64 0, .int .i64 0, .slice none 0 0], .int .i64 1]) (by simp [results, Tryd.results12, go_sem, r0, r1, r2]) rfl (by first | exact ⟨below_set3 (below_drewN hB07 _) w.heap.size (Nat.le_refl _) _ _ _, rfl⟩ | exact ⟨below_drewN hB07 _, rfl⟩)
            · have hz : ((nn : Int) == 0) = false := by simpa using h0
              have hz2 : ¬ (nn : Int) = 0 := by omega
              have hd0 : ((0 : Int) < (nn : Int)) = True := by simp; omega
              by_cases hk0 : k = 0
              · have e1 : decide ((0 : Int) < (k : Int)) = false := by simp; omega
                have e2 : ((0 : Int) < (k : Int)) = False := by simp; omega
                have e3 : decide (0 < k) = false := by rw [hk0]; rfl
                have e4 : (0 < k) = False := by simp; omega
                by_cases hs : S + nn ≤ N
                · have s1 : ¬ (N : Int) < (S : Int) + (nn : Int) := by omega
                  have s2 : decide ((N : Int) < (S : Int) + (nn : Int)) = false := by simpa using s1
                  -- the run may follow: k: its place; .inl hk0: the proof of the middle of okAt
                  have HKM := Lib.hid (HNM.out (k) hkM hkG ⟨by rw [HRK.out]; exact h0, .inl hk0, by rw [HRK.out, hS]; exact hs⟩)
                  go_wp2_with fail
                  go_quiet (fail)
                  go_wp2_with fail
                  have hB8 := below_drewN (Below.refl W7.heap.size W7) nq
                  have hB08 := below_up hB07 hB8
                  have hX8 := hX6.keep hB8
                  have hR8 := hR6.keep hB8
                  have hx8 := hX7.keep hB8
                  have hl8 := own_below hl7 hB8
                  have hp8 := own_below hp7 hB8
                  have HRKh := Lib.hid HRK.out
                  generalize W7.drewN nq = W8 at *
                  clear hX6 hR6 hX7 hl7 hp7 hB07 hB8 m0 m1 m2 r0 r1 r2 rf x0 x1 x2 x3 hX hR hpx hl hB hB7 c0 c1 c2 c3 HER HSL HRL HEND HENB HNM
                  obtain ⟨P, hP⟩ : ∃ P, Pr.acc R (k) = P := ⟨_, rfl⟩
                  rw [hP] at hp8
                  have HP := Lib.hid hP
                  clear hP
                  go_loopg [117] nn (fun gk i wq => ∃ (t : Nat) (v : Value), t ≤ nn ∧ gk = nn - t ∧ i = .int .i64 t ∧ Blk wq w.heap.size #[.int .i64 0, .int .i64 0, .slice none 0 0] 24 ∧ Blk wq mb #[.int .i64 W, .int .i64 H, v] 24 ∧ wq.ownsRow (mb + 1) 5 1 v (3 * (S + t)) (P ++ Pr.rep (pa, pb, pc) t) ∧ wq.ownsRow lb1 59 4 (.slice (some ⟨g, 0, none⟩) G cap) G (Pr.flat4 R G) ∧ Blk wq xb #[.int .i64 nn, .int .u8 pa, .int .u8 pb, .int .u8 pc] 59 ∧ Below w.heap.size w wq)
                  case atStart => exact ⟨0, _, by omega, rfl, rfl, hR8, hX8, by rw [Pr.rep, List.append_nil, show 3 * (S + 0) = T from hT]; exact hp8, hl8, hx8, hB08⟩
                  case round =>
                    clear hX8 hR8 hx8 hl8 hp8 hB08
                    obtain ⟨t, v, htn, rfl, rfl, hR, hX, hpx, hl, hx, hB⟩ := hrel
                    by_cases ht : t < nn
                    · obtain ⟨m0, m1, m2⟩ := hX.three
                      obtain ⟨x0, x1, x2, x3⟩ := hx.four
                      have hOd := own_below hpx (Below.refl wr.heap.size wr).drew
                      have hnw := news_xb (hx.drew)
                      have hmx2 : 3 * (S + t) + 3 ≤ maxLen := by unfold maxLen; omega
                      have hby2 : (3 * (S + t) + 3) * 1 ≤ 140737488355328 := by omega
                      have hbs2 : mb + 1 ≤ wr.drew.heap.size := hX.lt
                      have H3p : Hid ((0 : Nat) < 3) := by show (0 : Nat) < 3; omega
                      go_wp2_with fail
                      go_region_law (first
                        | (refine step_append_lies _ (by rfl) _ _ _ (by rfl) (mb + 1) 5 i1 (.int .u8 0) 1 1 Tryd.underlying22 HV0.out HV1.out HV2.out HV3.out rfl (by decide) v (3 * (S + t)) (P ++ Pr.rep (pa, pb, pc) t) (by rfl) hOd ⟨xb, 1, none⟩ 3 3
                            [.int .u8 pa, .int .u8 pb, .int .u8 pc] (by rfl) (by rfl) hnw (by simp [Value.oneCell']) H3p.out hmx2 hby2 hbs2 _ rfl ?_
                           intro gg cap5 w5 hown5 hgrow5 hat5 hlt5
                           have hX5 := hX.drew.grown hgrow5 (own_old hOd (by omega))
                           have hR5 := hR.drew.grown hgrow5 (own_old hOd (by omega))
                           have hx5 := hx.drew.grown hgrow5 (hx.drew.ne_own hOd (by decide))
                           have hl5 := own_grown (own_below hl (Below.refl wr.heap.size wr).drew) hgrow5 (own_apart hOd (own_below hl (Below.refl wr.heap.size wr).drew) (by decide))
                           have hf5 := hX5.free; obtain ⟨y0, y1, y2⟩ := hX5.three))
                      all_goals
                        have hB5 := hB.drew.grown hgrow5 hB.size (fun k e => by have := (hOd.lt k e).1; omega)
                        go_wp2_with fail
                        go_roundg (nn - (t + 1))
                        case rel => exact ⟨t + 1, _, by omega, rfl, by go_num, hR5.setOther (by simp; omega) _, hX5.set 2 _, own_set (by rw [show 3 * (S + (t + 1)) = 3 * (S + t) + 3 by omega]; simpa only [Pr.rep, List.append_assoc] using hown5) (by simp) _, own_set2 hl5 (.inr (by simp [Value.ownBlock]; omega)) _, hx5.setOther (by simp; omega) _, hB5.setCell (by simp; omega) _⟩
                        case measure => omega
                    · obtain rfl : t = nn := by omega
                      have HSS : Hid (Pr.sumN R (k + 1) = S + t) := by show Pr.sumN R (k) + (R (k)).1 = _; rw [hS, HRKh.out]
                      have HAC : Hid (Pr.acc R (k + 1) = P ++ Pr.rep (pa, pb, pc) t) := by show Pr.acc R (k) ++ Pr.rep (R (k)).2 (R (k)).1 = _; rw [HP.out, HRKh.out]
                      have hkm2 := HKM.out
                      go_wp2_with fail
                      go_roundg (G - (k + 1))
                      case rel => exact ⟨k + 1, _, hkm2, rfl, by go_num, hR, hX, by rw [HSS.out, HAC.out]; exact hpx, hl, hB⟩
                      case measure => omega
                · have HRS := Lib.hid (HER.out k hkM hkG (fun h => hs (by have := h.2.2; rw [HRK.out, hS] at this; exact this)))
                  have s1 : (N : Int) < (S : Int) + (nn : Int) := by omega
                  have s2 : decide ((N : Int) < (S : Int) + (nn : Int)) = true := by simpa using s1
                  go_wp2_with fail
                  go_quiet (fail)
                  go_wp2_with fail
                  rw [HRS.out]
                  -- tintype/pix.Read: the function; 1: the error; below_drewN hB07 _: the last Below
                  exact bodyPost_ret (v := .tuple #[.agg #[.int .i64 0, .int .i64 0, .slice none 0 0], .int .i64 1]) (by simp [results, Tryd.results12, go_sem, r0, r1, r2]) rfl (by first | exact ⟨below_set3 (below_drewN hB07 _) w.heap.size (Nat.le_refl _) _ _ _, rfl⟩ | exact ⟨below_drewN hB07 _, rfl⟩)
              · obtain ⟨k', rfl⟩ : ∃ k', k = k' + 1 := ⟨k - 1, by omega⟩
                obtain ⟨l0, l1, l2, l3⟩ := Pr.flat4_get R G k' (by omega)
                have d1 := (hl7.cellAt (4 * k' + 1) (by omega)).trans l1
                have d2 := (hl7.cellAt (4 * k' + 2) (by omega)).trans l2
                have d3 := (hl7.cellAt (4 * k' + 3) (by omega)).trans l3
                obtain ⟨r', hr'⟩ : ∃ r, R k' = r := ⟨_, rfl⟩
                have HRK2 := Lib.hid hr'
                rw [hr'] at d1 d2 d3
                clear hr' l0 l1 l2 l3
                obtain ⟨nn', qa, qb, qc⟩ := r'
                simp only at d1 d2 d3
                rw [Nat.mul_comm] at d1 d2 d3
                have heq := eqPx pa pb pc qa qb qc
                have e1 : decide ((0 : Int) < (k' : Int) + 1) = true := decide_eq_true (by omega)
                by_cases he : ((pa : Int) = qa ∧ (pb : Int) = qb ∧ (pc : Int) = qc)
                · rw [decide_eq_true he] at heq
                  have HRS := Lib.hid (HER.out (k' + 1) hkM hkG (fun h => by
                    rcases h.2.1 with h | h
                    · omega
                    · refine h ?_
                      rw [HRK.out, Nat.add_sub_cancel, HRK2.out]
                      simp only [Prod.mk.injEq]; omega))
                  clear he
                  go_wp2_with fail
                  go_quiet (fail)
                  go_wp2_with fail
                  rw [HRS.out]
                  -- tintype/pix.Read: the function; 1: the error; below_drewN hB07 _: the last Below
                  exact bodyPost_ret (v := .tuple #[.agg #[.int .i64 0, .int .i64 0, .slice none 0 0], .int .i64 1]) (by simp [results, Tryd.results12, go_sem, r0, r1, r2]) rfl (by first | exact ⟨below_set3 (below_drewN hB07 _) w.heap.size (Nat.le_refl _) _ _ _, rfl⟩ | exact ⟨below_drewN hB07 _, rfl⟩)
                · rw [decide_eq_false he] at heq
                  by_cases hs : S + nn ≤ N
                  · have s1 : ¬ (N : Int) < (S : Int) + (nn : Int) := by omega
                    have s2 : decide ((N : Int) < (S : Int) + (nn : Int)) = false := by simpa using s1
                    have HE := Lib.hid he
                    clear he
                    -- the run may follow: k' + 1: its place; .inr (by rw [HRK.out, Nat.add_sub_cancel, HRK2.out]; intro h; simp only [Prod.mk.injEq] at h; exact HE.out (by omega)): the proof of the middle of okAt
                    have HKM := Lib.hid (HNM.out (k' + 1) hkM hkG ⟨by rw [HRK.out]; exact h0, .inr (by rw [HRK.out, Nat.add_sub_cancel, HRK2.out]; intro h; simp only [Prod.mk.injEq] at h; exact HE.out (by omega)), by rw [HRK.out, hS]; exact hs⟩)
                    go_wp2_with fail
                    go_quiet (fail)
                    go_wp2_with fail
                    have hB8 := below_drewN (Below.refl W7.heap.size W7) nq
                    have hB08 := below_up hB07 hB8
                    have hX8 := hX6.keep hB8
                    have hR8 := hR6.keep hB8
                    have hx8 := hX7.keep hB8
                    have hl8 := own_below hl7 hB8
                    have hp8 := own_below hp7 hB8
                    have HRKh := Lib.hid HRK.out
                    generalize W7.drewN nq = W8 at *
                    clear hX6 hR6 hX7 hl7 hp7 hB07 hB8 m0 m1 m2 r0 r1 r2 rf x0 x1 x2 x3 hX hR hpx hl hB hB7 c0 c1 c2 c3 HER HSL HRL HEND HENB HNM
                    obtain ⟨P, hP⟩ : ∃ P, Pr.acc R (k' + 1) = P := ⟨_, rfl⟩
                    rw [hP] at hp8
                    have HP := Lib.hid hP
                    clear hP
                    go_loopg [117] nn (fun gk i wq => ∃ (t : Nat) (v : Value), t ≤ nn ∧ gk = nn - t ∧ i = .int .i64 t ∧ Blk wq w.heap.size #[.int .i64 0, .int .i64 0, .slice none 0 0] 24 ∧ Blk wq mb #[.int .i64 W, .int .i64 H, v] 24 ∧ wq.ownsRow (mb + 1) 5 1 v (3 * (S + t)) (P ++ Pr.rep (pa, pb, pc) t) ∧ wq.ownsRow lb1 59 4 (.slice (some ⟨g, 0, none⟩) G cap) G (Pr.flat4 R G) ∧ Blk wq xb #[.int .i64 nn, .int .u8 pa, .int .u8 pb, .int .u8 pc] 59 ∧ Below w.heap.size w wq)
                    case atStart => exact ⟨0, _, by omega, rfl, rfl, hR8, hX8, by rw [Pr.rep, List.append_nil, show 3 * (S + 0) = T from hT]; exact hp8, hl8, hx8, hB08⟩
                    case round =>
                      clear hX8 hR8 hx8 hl8 hp8 hB08
                      obtain ⟨t, v, htn, rfl, rfl, hR, hX, hpx, hl, hx, hB⟩ := hrel
                      by_cases ht : t < nn
                      · obtain ⟨m0, m1, m2⟩ := hX.three
                        obtain ⟨x0, x1, x2, x3⟩ := hx.four
                        have hOd := own_below hpx (Below.refl wr.heap.size wr).drew
                        have hnw := news_xb (hx.drew)
                        have hmx2 : 3 * (S + t) + 3 ≤ maxLen := by unfold maxLen; omega
                        have hby2 : (3 * (S + t) + 3) * 1 ≤ 140737488355328 := by omega
                        have hbs2 : mb + 1 ≤ wr.drew.heap.size := hX.lt
                        have H3p : Hid ((0 : Nat) < 3) := by show (0 : Nat) < 3; omega
                        go_wp2_with fail
                        go_region_law (first
                          | (refine step_append_lies _ (by rfl) _ _ _ (by rfl) (mb + 1) 5 i1 (.int .u8 0) 1 1 Tryd.underlying22 HV0.out HV1.out HV2.out HV3.out rfl (by decide) v (3 * (S + t)) (P ++ Pr.rep (pa, pb, pc) t) (by rfl) hOd ⟨xb, 1, none⟩ 3 3
                              [.int .u8 pa, .int .u8 pb, .int .u8 pc] (by rfl) (by rfl) hnw (by simp [Value.oneCell']) H3p.out hmx2 hby2 hbs2 _ rfl ?_
                             intro gg cap5 w5 hown5 hgrow5 hat5 hlt5
                             have hX5 := hX.drew.grown hgrow5 (own_old hOd (by omega))
                             have hR5 := hR.drew.grown hgrow5 (own_old hOd (by omega))
                             have hx5 := hx.drew.grown hgrow5 (hx.drew.ne_own hOd (by decide))
                             have hl5 := own_grown (own_below hl (Below.refl wr.heap.size wr).drew) hgrow5 (own_apart hOd (own_below hl (Below.refl wr.heap.size wr).drew) (by decide))
                             have hf5 := hX5.free; obtain ⟨y0, y1, y2⟩ := hX5.three))
                        all_goals
                          have hB5 := hB.drew.grown hgrow5 hB.size (fun k e => by have := (hOd.lt k e).1; omega)
                          go_wp2_with fail
                          go_roundg (nn - (t + 1))
                          case rel => exact ⟨t + 1, _, by omega, rfl, by go_num, hR5.setOther (by simp; omega) _, hX5.set 2 _, own_set (by rw [show 3 * (S + (t + 1)) = 3 * (S + t) + 3 by omega]; simpa only [Pr.rep, List.append_assoc] using hown5) (by simp) _, own_set2 hl5 (.inr (by simp [Value.ownBlock]; omega)) _, hx5.setOther (by simp; omega) _, hB5.setCell (by simp; omega) _⟩
                          case measure => omega
                      · obtain rfl : t = nn := by omega
                        have HSS : Hid (Pr.sumN R (k' + 1 + 1) = S + t) := by show Pr.sumN R (k' + 1) + (R (k' + 1)).1 = _; rw [hS, HRKh.out]
                        have HAC : Hid (Pr.acc R (k' + 1 + 1) = P ++ Pr.rep (pa, pb, pc) t) := by show Pr.acc R (k' + 1) ++ Pr.rep (R (k' + 1)).2 (R (k' + 1)).1 = _; rw [HP.out, HRKh.out]
                        have hkm2 := HKM.out
                        go_wp2_with fail
                        go_roundg (G - (k' + 1 + 1))
                        case rel => exact ⟨k' + 1 + 1, _, hkm2, rfl, by go_num, hR, hX, by rw [HSS.out, HAC.out]; exact hpx, hl, hB⟩
                        case measure => omega
                  · have HRS := Lib.hid (HER.out (k' + 1) hkM hkG (fun h => hs (by have := h.2.2; rw [HRK.out, hS] at this; exact this)))
                    have s1 : (N : Int) < (S : Int) + (nn : Int) := by omega
                    have s2 : decide ((N : Int) < (S : Int) + (nn : Int)) = true := by simpa using s1
                    clear he
                    go_wp2_with fail
                    go_quiet (fail)
                    go_wp2_with fail
                    rw [HRS.out]
                    -- tintype/pix.Read: the function; 1: the error; below_drewN hB07 _: the last Below
                    exact bodyPost_ret (v := .tuple #[.agg #[.int .i64 0, .int .i64 0, .slice none 0 0], .int .i64 1]) (by simp [results, Tryd.results12, go_sem, r0, r1, r2]) rfl (by first | exact ⟨below_set3 (below_drewN hB07 _) w.heap.size (Nat.le_refl _) _ _ _, rfl⟩ | exact ⟨below_drewN hB07 _, rfl⟩)
          · obtain rfl : k = G := by omega
            obtain rfl : M = k := by omega
            obtain ⟨m0, m1, m2⟩ := hX.three
            have HCK := Lib.hid (fun V => check_is W H av T capv V (by omega))
            subst hv
            by_cases hsum : S = N
            · have he : Im.err W H T = 0 := by
                have := HIN.out
                unfold Im.err; rw [if_neg (by omega), if_pos]; rw [Int.mul_assoc, hNi]; omega
              rw [he] at HCK
              have HRS := Lib.hid (HEND.out rfl (by rw [hS]; exact hsum))
              rcases hpx.2 with ⟨_, h2⟩ | ⟨g, cap2, cur, h1, hg, _, hc1, hc2, _⟩
              · omega
              have hc3 : capv ≤ 9223372036854775807 := by injection h1 with _ _ h1; rw [h1]; exact hc2
              have hc4 : T ≤ capv := by injection h1 with _ _ h1; rw [h1]; exact hc1
              have hav : av = some ⟨g, 0, none⟩ := by injection h1
              subst hav
              have HCL := Lib.hid (fun V => clip_bytes (some ⟨g, 0, none⟩) T capv V hc4 hc3)
              have hlen := Pr.acc_len R M
              rw [hS, hT] at hlen
              have HL := Lib.hid (Lst.of_own hpx (by omega))
              clear he hc1 hc2 h1
              go_wp2_with (first
                | (go_at_call 7; (with_reducible refine (HCK.out _).mono ?_); rintro e w8 ⟨rfl, hB8⟩; have hX8 := hX.keep hB8; have hR8 := hR.keep hB8; obtain ⟨y0, y1, y2⟩ := hX8.three; have yf := hX8.free; obtain ⟨r0, r1, r2⟩ := hR8.three; have rf := hR8.free)
                | (go_at_call 27; (with_reducible refine (HCL.out _).mono ?_); rintro e w9 ⟨rfl, rfl⟩))
              have hL8 := (HL.out.keep hB8)
              have hgmb : g ≠ mb := by omega
              have hgw : g ≠ w.heap.size := by omega
              rw [HRS.out]
              refine bodyPost_ret (v := .tuple #[.agg #[.int .i64 W, .int .i64 H, .slice (some ⟨g, 0, none⟩) T T], .int .i64 0]) (by simp [results, Tryd.results12, go_sem, r0, r1, r2]) rfl ⟨below_set3 ((below_up hB hB8).setCell (p := ⟨mb, 2, none⟩) (by simp; omega) _) w.heap.size (Nat.le_refl _) _ _ _, g, T, ?_, by omega, by omega, ?_⟩
              · rw [hlen]
              · exact (((hL8.setOther hgmb).setOther hgw).setOther hgw).setOther hgw
            · have he : Im.err W H T = 1 := by
                have := HIN.out
                unfold Im.err; rw [if_neg (by omega), if_neg]; rw [Int.mul_assoc, hNi]; omega
              rw [he] at HCK
              have HRS := Lib.hid (HENB.out rfl (by rw [hS]; exact hsum))
              go_wp2_with (go_at_call 7; (with_reducible refine (HCK.out _).mono ?_); rintro e w8 ⟨rfl, hB8⟩; have hR8 := hR.keep hB8; obtain ⟨r0, r1, r2⟩ := hR8.three; have rf := hR8.free)
              rw [HRS.out]
              -- tintype/pix.Read: the function; 1: the error; below_up hB hB8: the last Below
              exact bodyPost_ret (v := .tuple #[.agg #[.int .i64 0, .int .i64 0, .slice none 0 0], .int .i64 1]) (by simp [results, Tryd.results12, go_sem, r0, r1, r2]) rfl (by first | exact ⟨below_set3 (below_up hB hB8) w.heap.size (Nat.le_refl _) _ _ _, rfl⟩ | exact ⟨below_up hB hB8, rfl⟩)
/-- What is read of a string. -/
inductive Says (s : List UInt8) : Pr.Res → Prop
  | large (h : 1000000 < s.length) : Says s (.err 4)
  | nohead (h : s.length ≤ 1000000) (hh : Pr.head (Pr.lin s 0) = none) : Says s (.err 8)
  | last (h : s.length ≤ 1000000) (hl : Pr.lin s ((Pr.spl 10 s).length - 1) ≠ []) : Says s (.err 8)
  | main (h : s.length ≤ 1000000) (W H : Nat) (hh : Pr.head (Pr.lin s 0) = some (W, H)) (hlast : Pr.lin s ((Pr.spl 10 s).length - 1) = []) (G M : Nat)
    (hGn : G ≤ (Pr.spl 10 s).length - 2) (hG1 : ∀ i, i < G → (Pr.run (Pr.lin s (i + 1))).isSome = true) (hG2 : G < (Pr.spl 10 s).length - 2 → Pr.run (Pr.lin s (G + 1)) = none)
    (hMn : M ≤ (Pr.spl 10 s).length - 2) (hM1 : ∀ i, i < M → Pr.okAt (W * H) (Pr.rn s) i) (hM2 : M < (Pr.spl 10 s).length - 2 → ¬ Pr.okAt (W * H) (Pr.rn s) M) :
    Says s (Pr.resOf G ((Pr.spl 10 s).length - 2) W H M (Pr.sumN (Pr.rn s) ((Pr.spl 10 s).length - 2)) (Pr.acc (Pr.rn s) ((Pr.spl 10 s).length - 2)))
theorem says_ex (s : List UInt8) : ∃ r, Says s r := by
  by_cases h : 1000000 < s.length
  · exact ⟨_, .large h⟩
  · cases hh : Pr.head (Pr.lin s 0) with
    | none => exact ⟨_, .nohead (by omega) hh⟩
    | some WH =>
      obtain ⟨W, H⟩ := WH
      by_cases hl : Pr.lin s ((Pr.spl 10 s).length - 1) = []
      · obtain ⟨G, hGn, hG1, hG2⟩ := Pr.first (fun i => (Pr.run (Pr.lin s (i + 1))).isSome = true) ((Pr.spl 10 s).length - 2)
        obtain ⟨M, hMn, hM1, hM2⟩ := Pr.first (fun i => Pr.okAt (W * H) (Pr.rn s) i) ((Pr.spl 10 s).length - 2)
        exact ⟨_, .main (by omega) W H hh hl G M hGn hG1 (fun h => by have := hG2 h; simpa using this) hMn hM1 hM2⟩
      · exact ⟨_, .last (by omega) hl⟩
theorem read_is (s : List UInt8) (r : Pr.Res) (h : Says s r) (w : World) (hm : Mx w) : Calls Tryd.prog 12 #[.string (Tx.mk s)] w (ReadPost w r) := by
  cases h with
  | large h => exact read_large s h w
  | nohead h hh => exact read_nohead s h hh w hm
  | last h hl => exact read_last s h hl w hm
  | main h W H hh hlast G M hGn hG1 hG2 hMn hM1 hM2 => exact read_main s h W H hh hlast G M hGn hG1 hG2 hMn hM1 hM2 w hm
end Go.Proofs.YtpgjpnnjlilokaaDoor
