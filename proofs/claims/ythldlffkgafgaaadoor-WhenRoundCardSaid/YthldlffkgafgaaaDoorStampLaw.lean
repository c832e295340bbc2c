/- The law WhenStamps, walked. -/
import Derived.Test.YthldlffkgafgaaaDoorTxRef
namespace Go.Proofs.YthldlffkgafgaaaDoor
open Go.RowKit Go.Sort Go.Shelf
set_option linter.unusedVariables false
namespace Tx
open Classical in
/-- What is written, and the error. -/
noncomputable def stV (t z : Int) : ByteArray := if StOk t z then (if h : ∃ s, StampIs t z s then h.choose else ⟨#[]⟩) else ⟨#[]⟩
open Classical in
noncomputable def stE (t z : Int) : Int := if StOk t z then 0 else 2
open Classical in
noncomputable def plV (l : Int) : ByteArray := if Ev.mom l = true then (if h : ∃ s, PlainIs l s then h.choose else ⟨#[]⟩) else ⟨#[]⟩
def plE (l : Int) : Int := if Ev.mom l = true then 0 else 2
theorem stV_eq {t z : Int} {s : ByteArray} (h0 : StOk t z) (h : StampIs t z s) : s = stV t z := by
  unfold stV; rw [if_pos h0, dif_pos ⟨s, h⟩]
  exact stamp_same h (Exists.choose_spec (⟨s, h⟩ : ∃ s, StampIs t z s))
theorem plV_eq {l : Int} {s : ByteArray} (h0 : Ev.mom l = true) (h : PlainIs l s) : s = plV l := by
  unfold plV; rw [if_pos h0, dif_pos ⟨s, h⟩]
  exact plain_same h (Exists.choose_spec (⟨s, h⟩ : ∃ s, PlainIs l s))
end Tx
theorem stamp_any (t z : Int) (w : World) (ht : Tx.Tab w) : Calls Tryd.prog 10 #[.int .i64 t, .int .i64 z] w fun e w' => e = .returned (.tuple #[.string (Tx.stV t z), .int .i64 (Tx.stE t z)]) ∧ Below w.heap.size w w' := by
  by_cases h : Tx.StOk t z
  · refine (stamp_ok t z h w ht).mono ?_
    rintro e w' ⟨s, hs, rfl, hB⟩
    exact ⟨by rw [Tx.stV_eq h hs]; unfold Tx.stE; rw [if_pos h], hB⟩
  · refine (stamp_err t z h w).mono ?_
    rintro e w' ⟨rfl, rfl⟩
    exact ⟨by unfold Tx.stV Tx.stE; rw [if_neg h, if_neg h], Below.refl _ _⟩
theorem stampOf_any (t z : Int) (w : World) : Calls Tryd.prog 11 #[.int .i64 t, .int .i64 z] w fun e w' => e = .returned (.tuple #[.string (Tx.stV t z), .int .i64 (Tx.stE t z)]) ∧ Below w.heap.size w w' := by
  by_cases h : Tx.StOk t z
  · refine (stampOf_ok t z h w).mono ?_
    rintro e w' ⟨s, hs, rfl, hB⟩
    exact ⟨by rw [Tx.stV_eq h hs]; unfold Tx.stE; rw [if_pos h], hB⟩
  · refine (stampOf_err t z h w).mono ?_
    rintro e w' ⟨rfl, rfl⟩
    exact ⟨by unfold Tx.stV Tx.stE; rw [if_neg h, if_neg h], Below.refl _ _⟩
theorem plain_any (l : Int) (w : World) (ht : Tx.Tab w) : Calls Tryd.prog 12 #[.int .i64 l] w fun e w' => e = .returned (.tuple #[.string (Tx.plV l), .int .i64 (Tx.plE l)]) ∧ Below w.heap.size w w' := by
  by_cases h : Ev.mom l = true
  · refine (plain_ok l ((Ev.mom_iff _).1 h) w ht).mono ?_
    rintro e w' ⟨s, hs, rfl, hB⟩
    exact ⟨by rw [Tx.plV_eq h hs]; unfold Tx.plE; rw [if_pos h], hB⟩
  · refine (plain_err l (by simpa using h) w).mono ?_
    rintro e w' ⟨rfl, rfl⟩
    exact ⟨by unfold Tx.plV Tx.plE; rw [if_neg h, if_neg h], Below.refl _ _⟩
theorem plainOf_any (l : Int) (w : World) : Calls Tryd.prog 13 #[.int .i64 l] w fun e w' => e = .returned (.tuple #[.string (Tx.plV l), .int .i64 (Tx.plE l)]) ∧ Below w.heap.size w w' := by
  by_cases h : Ev.mom l = true
  · refine (plainOf_ok l ((Ev.mom_iff _).1 h) w).mono ?_
    rintro e w' ⟨s, hs, rfl, hB⟩
    exact ⟨by rw [Tx.plV_eq h hs]; unfold Tx.plE; rw [if_pos h], hB⟩
  · refine (plainOf_err l (by simpa using h) w).mono ?_
    rintro e w' ⟨rfl, rfl⟩
    exact ⟨by unfold Tx.plV Tx.plE; rw [if_neg h, if_neg h], Below.refl _ _⟩
set_option maxRecDepth 100000 in
set_option maxHeartbeats 2000000 in
theorem whenStamps_walk (t z l : Int) (w : World) (htab : Tx.Tab w) : Calls Tryd.prog 3 #[.int .i64 t, .int .i64 z, .int .i64 l] w fun e w' => e = .returned (.bool true) ∧ Below w.heap.size w w' := by
  have H1 := Lib.hid (stamp_any t z w htab)
  have H2 := Lib.hid (fun W => stampOf_any t z W)
  have H3 := Lib.hid (fun W hb => plain_any l W (Tx.tab_below htab hb))
  have H4 := Lib.hid (fun W => plainOf_any l W)
  generalize Tx.stV t z = s1 at *
  generalize Tx.stE t z = e1 at *
  generalize Tx.plV l = s2 at *
  generalize Tx.plE l = e2 at *
  clear htab
  go_enter Tryd.func3, Tryd.ntmps3
  go_wp2_with (first | (go_at_call 10; refine H1.out.mono ?_; rintro e w1 ⟨rfl, hB⟩) | (go_at_call 11; refine (H2.out _).mono ?_; rintro e w2 ⟨rfl, hB2⟩; have hB := below_up hB hB2) | (go_at_call 12; refine (H3.out _ hB).mono ?_; rintro e w2 ⟨rfl, hB2⟩; have hB := below_up hB hB2) | (go_at_call 13; refine (H4.out _).mono ?_; rintro e w2 ⟨rfl, hB2⟩; have hB := below_up hB hB2))
  go_ret
  exact ⟨ret_bool (by simp), hB⟩
end Go.Proofs.YthldlffkgafgaaaDoor
