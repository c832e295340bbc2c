/- Stamp and Plain: the program's texts of moments and of local seconds. -/
import Derived.Test.YthldlffkgafgaaaDoorTxLocal
namespace Go.Proofs.YthldlffkgafgaaaDoor
open Go.RowKit Go.Sort Go.Shelf
set_option linter.unusedVariables false
namespace Tx
/-- Stamp accepts these. -/
def StOk (t z : Int) : Prop := (0 ≤ t ∧ t ≤ 6311433599) ∧ (-840 ≤ z ∧ z ≤ 840) ∧ (0 ≤ t + 60 * z ∧ t + 60 * z ≤ 6311433599)
def mag (z : Int) : Int := max z (-z)
def sgn (z : Int) : ByteArray := if z < 0 then ⟨#[45]⟩ else ⟨#[43]⟩
/-- What Stamp writes. -/
def ST (y m d s z : Int) : ByteArray := LT y m d s ⟨#[45]⟩ ⟨#[84]⟩ ++ sgn z ++ P2 (mag z / 60) ++ ⟨#[58]⟩ ++ P2 (mag z % 60)
def StampIs (t z : Int) (s : ByteArray) : Prop := ∃ y m d, Cal.vld y m d = true ∧ Cal.num y m d = (t + 60 * z) / 86400 ∧ s = ST y m d ((t + 60 * z) % 86400) z
def PlainIs (l : Int) (s : ByteArray) : Prop := ∃ y m d, Cal.vld y m d = true ∧ Cal.num y m d = l / 86400 ∧ s = LT y m d (l % 86400) ⟨#[58]⟩ ⟨#[32]⟩
theorem LT_size {y m d s : Int} {sep mid : ByteArray} (hv : Cal.vld y m d = true) (hs : 0 ≤ s ∧ s < 86400) (h1 : sep.size = 1) (h2 : mid.size = 1) : (LT y m d s sep mid).size = 19 := by
  obtain ⟨y1, y2, m1, m2, d1, d2⟩ := (Cal.vld_iff _ _ _).1 hv
  have d3 := Cal.len_bd y m
  unfold LT
  simp only [ByteArray.size_append]
  rw [D_size ⟨y1, y2⟩ ⟨m1, m2⟩ ⟨d1, by omega⟩ h1, P2_size (by omega) (by omega), P2_size (by omega) (by omega), P2_size (by omega) (by omega), h2]; rfl
theorem stamp_same {t z : Int} {a b : ByteArray} (h : StampIs t z a) (h' : StampIs t z b) : a = b := by
  obtain ⟨y, m, d, hv, hn, rfl⟩ := h
  obtain ⟨y', m', d', hv', hn', rfl⟩ := h'
  obtain ⟨rfl, rfl, rfl⟩ := Cal.num_inj _ _ _ _ _ _ hv hv' (hn.trans hn'.symm)
  rfl
theorem plain_same {l : Int} {a b : ByteArray} (h : PlainIs l a) (h' : PlainIs l b) : a = b := by
  obtain ⟨y, m, d, hv, hn, rfl⟩ := h
  obtain ⟨y', m', d', hv', hn', rfl⟩ := h'
  obtain ⟨rfl, rfl, rfl⟩ := Cal.num_inj _ _ _ _ _ _ hv hv' (hn.trans hn'.symm)
  rfl
end Tx
theorem plain_err (l : Int) (h : Ev.mom l = false) (w : World) :
    Calls Tryd.prog 12 #[.int .i64 l] w fun e w' => e = .returned (.tuple #[.string ⟨#[]⟩, .int .i64 2]) ∧ w' = w := by
  go_enter Tryd.func12, Tryd.ntmps12
  go_wp2_with (go_at_call 33; refine (isMoment_is _ false h _).mono ?_; rintro e w2 ⟨rfl, rfl⟩)
  go_ret2
  exact ⟨rfl, rfl⟩
theorem plain_ok (l : Int) (h : 0 ≤ l ∧ l ≤ 6311433599) (w : World) (ht : Tx.Tab w) :
    Calls Tryd.prog 12 #[.int .i64 l] w fun e w' => ∃ s, Tx.PlainIs l s ∧ e = .returned (.tuple #[.string s, .int .i64 0]) ∧ Below w.heap.size w w' := by
  have HL := Lib.hid (localText_is l ⟨#[58]⟩ ⟨#[32]⟩ h rfl rfl w ht)
  have HM := Lib.hid ((Ev.mom_iff _).2 h)
  go_enter Tryd.func12, Tryd.ntmps12
  go_wp2_with (first | (go_at_call 33; refine (isMoment_is _ true HM.out _).mono ?_; rintro e w2 ⟨rfl, rfl⟩) | (go_at_call 35; refine HL.out.mono ?_; rintro e w2 ⟨y, m, d, hv, hn, rfl, hB⟩))
  go_ret2
  exact ⟨_, ⟨y, m, d, hv, hn, rfl⟩, rfl, hB⟩
set_option maxHeartbeats 1000000 in
theorem stamp_err (t z : Int) (h : ¬ Tx.StOk t z) (w : World) :
    Calls Tryd.prog 10 #[.int .i64 t, .int .i64 z] w fun e w' => e = .returned (.tuple #[.string ⟨#[]⟩, .int .i64 2]) ∧ w' = w := by
  by_cases h1 : Ev.mom t = true
  · have hb := (Ev.mom_iff _).1 h1
    have HM := Lib.hid h1
    by_cases h2 : z < -840 ∨ 840 < z
    · clear h1 h
      go_enter Tryd.func10, Tryd.ntmps10
      go_wp2_with (first | (go_at_call 33; first | (with_reducible refine (isMoment_is _ _ HM.out _).mono ?_; rintro e w2 ⟨rfl, rfl⟩) | (with_reducible refine (isMoment_is _ _ HM2.out _).mono ?_; rintro e w2 ⟨rfl, rfl⟩)) | (go_at_call 34; refine (outside_yes _ _ _ _ (by omega)).mono ?_; rintro e w2 ⟨rfl, rfl⟩))
      go_ret2
      exact ⟨rfl, rfl⟩
    · have h4 : Ev.mom (t + 60 * z) = false := by
        rw [Ev.mom_no]; unfold Tx.StOk at h; omega
      have HM2 := Lib.hid h4
      clear h1 h h4
      go_enter Tryd.func10, Tryd.ntmps10
      go_wp2_with (first | (go_at_call 33; first | (with_reducible refine (isMoment_is _ _ HM.out _).mono ?_; rintro e w2 ⟨rfl, rfl⟩) | (with_reducible refine (isMoment_is _ _ HM2.out _).mono ?_; rintro e w2 ⟨rfl, rfl⟩)) | (go_at_call 34; refine (outside_no _ _ _ _ (by omega) (by omega)).mono ?_; rintro e w2 ⟨rfl, rfl⟩))
      go_ret2
      exact ⟨rfl, rfl⟩
  · have h3 : Ev.mom t = false := by simpa using h1
    have HM := Lib.hid h3
    clear h1 h3 h
    go_enter Tryd.func10, Tryd.ntmps10
    go_wp2_with (first | (go_at_call 33; first | (with_reducible refine (isMoment_is _ _ HM.out _).mono ?_; rintro e w2 ⟨rfl, rfl⟩) | (with_reducible refine (isMoment_is _ _ HM2.out _).mono ?_; rintro e w2 ⟨rfl, rfl⟩)) | (go_at_call 34; refine (outside_no _ _ _ _ (by omega) (by omega)).mono ?_; rintro e w2 ⟨rfl, rfl⟩))
    go_ret2
    exact ⟨rfl, rfl⟩
set_option maxRecDepth 100000 in
set_option maxHeartbeats 2000000 in
theorem stamp_ok (t z : Int) (h : Tx.StOk t z) (w : World) (ht : Tx.Tab w) :
    Calls Tryd.prog 10 #[.int .i64 t, .int .i64 z] w fun e w' => ∃ s, Tx.StampIs t z s ∧ e = .returned (.tuple #[.string s, .int .i64 0]) ∧ Below w.heap.size w w' := by
  obtain ⟨h1, h2, h3⟩ := h
  have HL := Lib.hid (localText_is (t + 60 * z) ⟨#[45]⟩ ⟨#[84]⟩ h3 rfl rfl w ht)
  have HM := Lib.hid ((Ev.mom_iff _).2 h1)
  have HM2 := Lib.hid ((Ev.mom_iff _).2 h3)
  have hg : 0 ≤ Tx.mag z ∧ Tx.mag z ≤ 840 := by unfold Tx.mag; omega
  have HH := Lib.hid (fun W => padded2_is (Tx.mag z / 60) (by omega) (by omega) W)
  have HS := Lib.hid (fun W => padded2_is (Tx.mag z % 60) (by omega) (by omega) W)
  have hhs := Tx.P2_size (n := Tx.mag z / 60) (by omega) (by omega)
  have hss := Tx.P2_size (n := Tx.mag z % 60) (by omega) (by omega)
  have hlt := fun (y m d : Int) hv => Tx.LT_size (y := y) (m := m) (d := d) (s := (t + 60 * z) % 86400) (sep := ⟨#[45]⟩) (mid := ⟨#[84]⟩) hv (by omega) rfl rfl
  have HLT := Lib.hid hlt
  clear hlt
  unfold Tx.StampIs Tx.ST
  generalize Tx.P2 (Tx.mag z / 60) = A at *
  generalize Tx.P2 (Tx.mag z % 60) = B at *
  unfold Tx.sgn
  by_cases hz : z < 0
  · unfold Tx.mag at HH HS
    rw [if_pos hz]
    clear hg
    go_enter Tryd.func10, Tryd.ntmps10
    go_wp2_with (first | (go_at_call 33; first | (with_reducible refine (isMoment_is _ _ HM.out _).mono ?_; rintro e w2 ⟨rfl, rfl⟩) | (with_reducible refine (isMoment_is _ _ HM2.out _).mono ?_; rintro e w2 ⟨rfl, rfl⟩)) | (go_at_call 34; refine (outside_no _ _ _ _ (by omega) (by omega)).mono ?_; rintro e w2 ⟨rfl, rfl⟩) | (go_at_call 35; refine HL.out.mono ?_; rintro e w2 ⟨y, m, d, hv, hn, rfl, hB⟩; have hsz := HLT.out _ _ _ hv; have HV := Lib.hid hv; have HN := Lib.hid hn; clear hv hn; generalize hLL : Tx.LT y m d ((t + 60 * z) % 86400) ⟨#[45]⟩ ⟨#[84]⟩ = G at *) | (go_at_call 36; (with_reducible first | (refine (HH.out _).mono ?_) | (refine (HS.out _).mono ?_)); rintro e w' ⟨rfl, rfl⟩))
    go_ret2
    exact ⟨_, ⟨y, m, d, HV.out, HN.out, by rw [hLL]⟩, rfl, hB⟩
  · unfold Tx.mag at HH HS
    rw [if_neg hz]
    clear hg
    go_enter Tryd.func10, Tryd.ntmps10
    go_wp2_with (first | (go_at_call 33; first | (with_reducible refine (isMoment_is _ _ HM.out _).mono ?_; rintro e w2 ⟨rfl, rfl⟩) | (with_reducible refine (isMoment_is _ _ HM2.out _).mono ?_; rintro e w2 ⟨rfl, rfl⟩)) | (go_at_call 34; refine (outside_no _ _ _ _ (by omega) (by omega)).mono ?_; rintro e w2 ⟨rfl, rfl⟩) | (go_at_call 35; refine HL.out.mono ?_; rintro e w2 ⟨y, m, d, hv, hn, rfl, hB⟩; have hsz := HLT.out _ _ _ hv; have HV := Lib.hid hv; have HN := Lib.hid hn; clear hv hn; generalize hLL : Tx.LT y m d ((t + 60 * z) % 86400) ⟨#[45]⟩ ⟨#[84]⟩ = G at *) | (go_at_call 36; (with_reducible first | (refine (HH.out _).mono ?_) | (refine (HS.out _).mono ?_)); rintro e w' ⟨rfl, rfl⟩))
    go_ret2
    exact ⟨_, ⟨y, m, d, HV.out, HN.out, by rw [hLL]⟩, rfl, hB⟩
end Go.Proofs.YthldlffkgafgaaaDoor
