/- The law PixReads, walked. -/
import Derived.Test.YtpgjpnnjlilokaaDoorRdReadS
namespace Go.Proofs.YtpgjpnnjlilokaaDoor
open Go.RowKit Go.Sort Go.Shelf
set_option linter.unusedVariables false
theorem Pr.rep_u8 (p : Nat × Nat × Nat) (t : Nat) : ∀ x ∈ Pr.rep p t, ∃ z, x = .int .u8 z := by
  induction t with
  | zero => intro x hx; cases hx
  | succ t ih =>
    intro x hx
    rcases List.mem_append.1 hx with h | h
    · exact ih x h
    · simp only [List.mem_cons, List.not_mem_nil, or_false] at h
      rcases h with rfl | rfl | rfl <;> exact ⟨_, rfl⟩
theorem Pr.acc_u8 (R : Nat → Pr.Run) (k : Nat) : ∀ x ∈ Pr.acc R k, ∃ z, x = .int .u8 z := by
  induction k with
  | zero => intro x hx; cases hx
  | succ k ih =>
    intro x hx
    rcases List.mem_append.1 hx with h | h
    · exact ih x h
    · exact Pr.rep_u8 _ _ x h
theorem says_u8 {s : List UInt8} {W H : Nat} {xs : List Value} (h : Says s (.ok W H xs)) : ∀ x ∈ xs, ∃ z, x = .int .u8 z := by
  generalize hr : Pr.Res.ok W H xs = r at h
  cases h with
  | large => cases hr
  | nohead => cases hr
  | last => cases hr
  | main h W' H' _ _ G M =>
    unfold Pr.resOf at hr
    split at hr
    · cases hr
    split at hr
    · cases hr
    split at hr
    · cases hr
    split at hr
    · cases hr
    injection hr with _ _ hr
    subst hr
    exact Pr.acc_u8 _ _
theorem says_len {s : List UInt8} {W H : Nat} {xs : List Value} (h : Says s (.ok W H xs)) : xs.length ≤ 1000000 := by
  generalize hr : Pr.Res.ok W H xs = r at h
  cases h with
  | large => cases hr
  | nohead => cases hr
  | last => cases hr
  | main h W' H' hh _ G M =>
    unfold Pr.resOf at hr
    split at hr
    · cases hr
    split at hr
    · cases hr
    split at hr
    · cases hr
    split at hr
    · cases hr
    rename_i h1 h2 h3 h4
    injection hr with _ _ hr
    subst hr
    rw [Pr.acc_len]
    have h4' := Decidable.not_not.1 h4
    have := Nat.mul_le_mul (show W' ≤ 64 by omega) (show H' ≤ 64 by omega)
    omega
/-- The bytes of a list. -/
def pxL (xs : List Value) (i : Nat) : Int := match xs[i]? with | some (.int _ z) => z | _ => 0
theorem pxL_of {xs : List Value} {i : Nat} {z : Int} (h : xs[i]? = some (.int .u8 z)) : pxL xs i = z := by unfold pxL; rw [h]
theorem Lst.bytesL {w : World} {g : Nat} {xs : List Value} (h : Lst w g xs) (hu : ∀ x ∈ xs, ∃ z, x = .int .u8 z) : Bytes w (some ⟨g, 0, none⟩) xs.length (pxL xs) := by
  intro _
  refine ⟨g, 0, rfl, h.1, fun i hi => ?_⟩
  rw [Nat.zero_add, h.2 i hi]
  obtain ⟨z, hz⟩ := hu _ (List.getElem_mem hi)
  have e : xs[i]? = some (.int .u8 z) := by rw [List.getElem?_eq_getElem hi, hz]
  rw [e]
  exact congrArg (fun z => some (Value.int .u8 z)) (pxL_of e).symm
theorem eqB_refl (W H : Int) (n : Nat) (f : Nat → Int) : Im.eqB W H n f W H n f = true := by simp [Im.eqB]
set_option maxRecDepth 100000 in
set_option maxHeartbeats 2000000 in
theorem pixReads_walk (s : List UInt8) (w : World) (hm : Mx w) : Calls Tryd.prog 4 #[.string (Tx.mk s)] w fun e w' => e = .returned (.bool true) ∧ Below w.heap.size w w' := by
  obtain ⟨r, hr⟩ := says_ex s
  have HR := Lib.hid (read_is s r hr w hm)
  have HI := Lib.hid (fun V hV => iread_is s r hr V hV)
  cases r with
  | err q =>
    have HR2 : Hid (Calls Tryd.prog 12 #[.string (Tx.mk s)] w fun e w' => Below w.heap.size w w' ∧ e = .returned (.tuple #[.agg #[.int .i64 0, .int .i64 0, .slice none 0 0], .int .i64 q])) := HR.out
    have HI2 : Hid (∀ V, Mx V → Calls Tryd.prog 13 #[.string (Tx.mk s)] V fun e w' => Below V.heap.size V w' ∧ e = .returned (.tuple #[.agg #[.int .i64 0, .int .i64 0, .slice none 0 0], .int .i64 q])) := HI.out
    have HS : Hid (∀ V, Calls Tryd.prog 10 #[.agg #[.int .i64 0, .int .i64 0, .slice none 0 0], .agg #[.int .i64 0, .int .i64 0, .slice none 0 0]] V fun e w' => e = .returned (.bool true) ∧ Below V.heap.size V w') := by
      intro V
      have := sameImage_anyB 0 0 0 0 none none 0 0 0 0 (fun _ => 0) (fun _ => 0) V (Bytes.nil _ _) (Bytes.nil _ _) (by omega) (by omega) (by omega)
      rw [eqB_refl] at this
      exact this
    clear HR HI hr
    go_enter Tryd.func4, Tryd.ntmps4
    go_wp2_with (first
      | (go_at_call 12; (with_reducible refine HR2.out.mono ?_); rintro e w2 ⟨hB2, rfl⟩; have hx := Blk.new w2 #[.int .i64 0, .int .i64 0, .slice none 0 0] 24; have hB3 := below_allocs hB2 (.cells #[.int .i64 0, .int .i64 0, .slice none 0 0] 24))
      | (go_at_call 13; (with_reducible refine (HI2.out _ (hm.below hB3)).mono ?_); rintro e w4 ⟨hB4, rfl⟩; have hx4 := (hx.keep hB4).alloc (.cells #[.int .i64 0, .int .i64 0, .slice none 0 0] 24); have hy := Blk.new w4 #[.int .i64 0, .int .i64 0, .slice none 0 0] 24; have hB5 := below_allocs (below_up hB3 hB4) (.cells #[.int .i64 0, .int .i64 0, .slice none 0 0] 24); obtain ⟨x0, x1, x2⟩ := hx4.three; obtain ⟨y0, y1, y2⟩ := hy.three)
      | (go_at_call 10; (with_reducible refine (HS.out _).mono ?_); rintro e w6 ⟨rfl, hB6⟩))
    go_ret
    exact ⟨rfl, below_up hB5 hB6⟩
  | ok W H xs =>
    have hu := says_u8 hr
    have hxl := says_len hr
    have HR2 : Hid (Calls Tryd.prog 12 #[.string (Tx.mk s)] w fun e w' => Below w.heap.size w w' ∧ ∃ g cap, e = .returned (.tuple #[.agg #[.int .i64 W, .int .i64 H, .slice (some ⟨g, 0, none⟩) xs.length cap], .int .i64 0]) ∧ xs.length ≤ cap ∧ w.heap.size ≤ g ∧ Lst w' g xs) := HR.out
    have HI2 : Hid (∀ V, Mx V → Calls Tryd.prog 13 #[.string (Tx.mk s)] V fun e w' => Below V.heap.size V w' ∧ ∃ g cap, e = .returned (.tuple #[.agg #[.int .i64 W, .int .i64 H, .slice (some ⟨g, 0, none⟩) xs.length cap], .int .i64 0]) ∧ xs.length ≤ cap ∧ V.heap.size ≤ g ∧ Lst w' g xs) := HI.out
    have HU := Lib.hid hu
    clear HR HI hr hu
    obtain ⟨n, hn⟩ : ∃ n, xs.length = n := ⟨_, rfl⟩
    have HN := Lib.hid hn
    rw [hn] at HR2 HI2 hxl
    clear hn
    go_enter Tryd.func4, Tryd.ntmps4
    go_wp2_with fail
    go_at_call 12
    refine HR2.out.mono ?_
    rintro e w2 ⟨hB2, g, cap, rfl, hc1, hg1, hl1⟩
    obtain ⟨W3, hW3, hx, hz3, hB3⟩ := box w2 #[.int .i64 W, .int .i64 H, .slice (some ⟨g, 0, none⟩) n cap] 24
    have HW3 := Lib.hid hW3
    clear hW3 hz3
    have hB03 := below_up hB2 hB3
    go_upto_region 2 with fail
    rw [HW3.out]
    go_wp2_with fail
    go_at_call 13
    refine (HI2.out _ (hm.below hB03)).mono ?_
    rintro e w4 ⟨hB4, g2, cap2, rfl, hc2, hg2, hl2⟩
    obtain ⟨W5, hW5, hy, hz5, hB5⟩ := box w4 #[.int .i64 W, .int .i64 H, .slice (some ⟨g2, 0, none⟩) n cap2] 24
    have HW5 := Lib.hid hW5
    clear hW5 hz5
    have hx5 := (hx.keep hB4).keep hB5
    have hl15 := ((hl1.keep hB3).keep hB4).keep hB5
    have hl25 := hl2.keep hB5
    have hB05 := below_up (below_up hB03 hB4) hB5
    go_upto_region 3 with fail
    rw [HW5.out]
    have HS : Hid (Calls Tryd.prog 10 #[.agg #[.int .i64 W, .int .i64 H, .slice (some ⟨g, 0, none⟩) n cap], .agg #[.int .i64 W, .int .i64 H, .slice (some ⟨g2, 0, none⟩) n cap2]] W5 fun e w' => e = .returned (.bool true) ∧ Below W5.heap.size W5 w') := by
      have h1 := hl15.bytesL HU.out
      have h2 := hl25.bytesL HU.out
      rw [HN.out] at h1 h2
      have := sameImage_anyB W H W H (some ⟨g, 0, none⟩) (some ⟨g2, 0, none⟩) n n cap cap2 _ _ W5 h1 h2 (by omega) hc1 hc2
      rw [eqB_refl] at this
      exact this
    obtain ⟨x0, x1, x2⟩ := hx5.three
    obtain ⟨y0, y1, y2⟩ := hy.three
    go_wp2_with (go_at_call 10; (with_reducible refine HS.out.mono ?_); rintro e w6 ⟨rfl, hB6⟩)
    go_ret
    exact ⟨rfl, below_up hB05 hB6⟩
end Go.Proofs.YtpgjpnnjlilokaaDoor
