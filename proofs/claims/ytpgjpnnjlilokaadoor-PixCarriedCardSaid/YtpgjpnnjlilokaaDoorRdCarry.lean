/- The law PixCarried, walked. -/
import Derived.Test.YtpgjpnnjlilokaaDoorRdBack
import Derived.Test.YtpgjpnnjlilokaaDoorPtText
import Derived.Test.YtpgjpnnjlilokaaDoorPixAwake
namespace Go.Proofs.YtpgjpnnjlilokaaDoor
open Go.RowKit Go.Sort Go.Shelf
set_option linter.unusedVariables false
theorem u8_bd {n : Int} (h : (Lit.int .u8 n).wf = true) : 0 ≤ n ∧ n ≤ 255 := by
  simp [Lit.wf, IntKind.min, IntKind.max, IntKind.bits, IntKind.signed] at h
  omega
theorem lst_bytesB {w : World} {g N : Nat} {px : Nat → Int} (h : Lst w g (bytes N px)) : Bytes w (some ⟨g, 0, none⟩) N px := by
  intro _
  refine ⟨g, 0, rfl, h.1, fun i hi => ?_⟩
  rw [Nat.zero_add, h.2 i (by rw [bytes_length]; exact hi)]
  unfold bytes
  rw [List.getElem?_map, List.getElem?_range hi]; rfl
set_option maxRecDepth 100000 in
set_option maxHeartbeats 2000000 in
theorem pixCarried_err (W H : Int) (a : Option Addr) (n ca : Nat) (w : World) (hn : n ≤ 9223372036854775807) (q : Int) (he : Im.err W H n = q) (hq : q ≠ 0) :
    Calls Tryd.prog 5 #[.agg #[.int .i64 W, .int .i64 H, .slice a n ca]] w fun e w' => e = .returned (.bool true) ∧ Below w.heap.size w w' := by
  have HTX := fun V (_ : Below w.heap.size w V) => text_err W H a n ca q V hn he hq
  have q1 : (q == 0) = false := by simpa using hq
  have q2 : (q != 0) = true := by simpa using hq
  clear he hq
  obtain ⟨W1, hW1, hP, hz1, hB1⟩ := box w #[.int .i64 W, .int .i64 H, .slice a n ca] 24
  have H1 := Lib.hid hW1
  have HT := Lib.hid (HTX W1 hB1)
  obtain ⟨p0, p1, p2⟩ := hP.three
  clear hW1 hz1
  go_enter Tryd.func5, Tryd.ntmps5
  go_wp2_with fail
  rw [H1.out]
  go_wp2_with (first | (go_at_call 14; refine (awake_is _).mono ?_; rintro e w2 ⟨rfl, rfl⟩) | (go_at_call 6; (with_reducible refine HT.out.mono ?_); rintro e w3 ⟨rfl, hB3⟩; have hB03 := below_up hB1 hB3))
  go_ret
  exact ⟨rfl, hB03⟩
set_option maxRecDepth 100000 in
set_option maxHeartbeats 4000000 in
theorem pixCarried_ok (Wn Hn : Nat) (a : Option Addr) (n ca : Nat) (px : Nat → Int) (w : World) (hr : Bytes w a n px) (hn : n ≤ 9223372036854775807) (hca : n ≤ ca) (hca2 : ca ≤ 9223372036854775807) (hW : 1 ≤ Wn ∧ Wn ≤ 64 ∧ 1 ≤ Hn ∧ Hn ≤ 64) (hnn : n = 3 * (Hn * Wn)) (hpx : ∀ i, 0 ≤ px i ∧ px i ≤ 255) (htab : Tx.Tab w) (hm : Mx w) :
    Calls Tryd.prog 5 #[.agg #[.int .i64 (Wn : Int), .int .i64 (Hn : Int), .slice a n ca]] w fun e w' => e = .returned (.bool true) ∧ Below w.heap.size w w' := by
  have HTX : ∀ V, Below w.heap.size w V → Calls Tryd.prog 6 #[.agg #[.int .i64 (Wn : Int), .int .i64 (Hn : Int), .slice a n ca]] V fun e w' => e = .returned (.tuple #[.string (Tx.mk (Pt.text Wn Hn px)), .int .i64 0]) ∧ Below V.heap.size V w' := by
    intro V hV
    have hr' := hr.keep hV
    subst hnn
    exact text_ok Wn Hn a ca px V hW hr' hpx hca hca2 (Tx.tab_below htab hV)
  have hsay := says_text Wn Hn px hW hpx
  rw [Nat.mul_comm Wn Hn, ← hnn] at hsay
  have HRD : Hid (∀ V, Mx V → Calls Tryd.prog 12 #[.string (Tx.mk (Pt.text Wn Hn px))] V fun e w' => Below V.heap.size V w' ∧ ∃ g cap, e = .returned (.tuple #[.agg #[.int .i64 (Wn : Int), .int .i64 (Hn : Int), .slice (some ⟨g, 0, none⟩) n cap], .int .i64 0]) ∧ n ≤ cap ∧ V.heap.size ≤ g ∧ Lst w' g (bytes n px)) := by
    intro V hV
    have := read_is _ _ hsay V hV
    unfold ReadPost at this
    simp only [bytes_length] at this
    exact this
  have HRX := Lib.hid hr
  clear hr hsay hnn
  generalize hWi : (Wn : Int) = W at *
  generalize hHi : (Hn : Int) = H at *
  generalize Tx.mk (Pt.text Wn Hn px) = S at *
  clear hWi hHi hW
  obtain ⟨W1, hW1, hP, hz1, hB1⟩ := box w #[.int .i64 W, .int .i64 H, .slice a n ca] 24
  have H1 := Lib.hid hW1
  have HT := Lib.hid (HTX W1 hB1)
  obtain ⟨p0, p1, p2⟩ := hP.three
  clear hW1 hz1
  go_enter Tryd.func5, Tryd.ntmps5
  go_wp2_with fail
  rw [H1.out]
  go_wp2_with (first | (go_at_call 14; refine (awake_is _).mono ?_; rintro e w2 ⟨rfl, rfl⟩) | (go_at_call 6; (with_reducible refine HT.out.mono ?_); rintro e w3 ⟨rfl, hB3⟩; have hB03 := below_up hB1 hB3))
  go_at_call 12
  refine (HRD.out _ (hm.below hB03)).mono ?_
  rintro e w4 ⟨hB4, g, cap, rfl, hc, hg, hl⟩
  obtain ⟨W5, hW5, hy, hz5, hB5⟩ := box w4 #[.int .i64 W, .int .i64 H, .slice (some ⟨g, 0, none⟩) n cap] 24
  have HW5 := Lib.hid hW5
  clear hW5 hz5
  have hP5 := ((hP.keep hB3).keep hB4).keep hB5
  have hl5 := hl.keep hB5
  have hB05 := below_up (below_up hB03 hB4) hB5
  have HS : Hid (Calls Tryd.prog 9 #[.agg #[.int .i64 W, .int .i64 H, .slice a n ca], .agg #[.int .i64 W, .int .i64 H, .slice (some ⟨g, 0, none⟩) n cap]] W5 fun e w' => e = .returned (.bool true) ∧ Below W5.heap.size W5 w') := by
    have := same_anyB W H W H a (some ⟨g, 0, none⟩) n n ca cap px px W5 (HRX.out.keep hB05) (lst_bytesB hl5) hn hca hc
    rw [eqB_refl] at this
    exact this
  go_upto_region 7 with fail
  rw [HW5.out]
  obtain ⟨p0, p1, p2⟩ := hP5.three
  obtain ⟨y0, y1, y2⟩ := hy.three
  go_wp2_with (go_at_call 9; (with_reducible refine HS.out.mono ?_); rintro e w6 ⟨rfl, hB6⟩)
  go_ret
  exact ⟨rfl, below_up hB05 hB6⟩
/-- The law: for every image it returns true. -/
theorem pixCarried_walk (W H : Int) (a : Option Addr) (n ca : Nat) (px : Nat → Int) (w : World) (hr : Row w a n (fun i => .int .u8 (px i))) (hn : n ≤ 9223372036854775807) (hca : n ≤ ca) (hca2 : ca ≤ 9223372036854775807) (hz : ∀ i, (Lit.int .u8 (px i)).wf = true) (htab : Tx.Tab w) (hm : Mx w) :
    Calls Tryd.prog 5 #[.agg #[.int .i64 W, .int .i64 H, .slice a n ca]] w fun e w' => e = .returned (.bool true) ∧ Below w.heap.size w w' := by
  by_cases he : Im.err W H n = 0
  · have hW : (1 ≤ W ∧ W ≤ 64 ∧ 1 ≤ H ∧ H ≤ 64) ∧ (n : Int) = 3 * W * H := by
      unfold Im.err at he
      split at he
      · omega
      · split at he
        · exact ⟨by omega, by assumption⟩
        · omega
    obtain ⟨Wn, rfl⟩ := Int.eq_ofNat_of_zero_le (show 0 ≤ W by omega)
    obtain ⟨Hn, rfl⟩ := Int.eq_ofNat_of_zero_le (show 0 ≤ H by omega)
    have hnn : n = 3 * (Hn * Wn) := by
      have := hW.2
      rw [Int.mul_assoc, Int.mul_comm (Wn : Int)] at this
      exact_mod_cast this
    exact pixCarried_ok Wn Hn a n ca px w hr hn hca hca2 (by omega) hnn (fun i => u8_bd (hz i)) htab hm
  · exact pixCarried_err W H a n ca w hn _ rfl he
end Go.Proofs.YtpgjpnnjlilokaaDoor
