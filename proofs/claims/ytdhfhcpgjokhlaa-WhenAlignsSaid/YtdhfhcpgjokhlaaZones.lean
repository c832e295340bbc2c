/- ZoneGuess and the reference's ZoneFor: one rule, one fold. -/
import Derived.Test.YtdhfhcpgjokhlaaEvErr
namespace Go.Proofs.Ytdhfhcpgjokhlaa
open Go.RowKit Go.Sort Go.Shelf
set_option linter.unusedVariables false
theorem zones_bd (z y : Nat → Int) (n m : Nat) (k : Int) (i : Nat) (hi : i ≤ 113) : -840 ≤ (Ev.zones z y n m k i).1 ∧ (Ev.zones z y n m k i).1 ≤ 840 ∧ 0 ≤ (Ev.zones z y n m k i).2 ∧ (Ev.zones z y n m k i).2 ≤ m := by
  induction i with
  | zero => simp [Ev.zones]
  | succ i ih =>
    have ih := ih (by omega)
    have hb := Ev.hits_bd z y n (-60 * (15 * i - 840)) k m
    unfold Ev.zones Ev.step; split
    · simp only []; omega
    · exact ih
/-- What ZoneGuess answers where the lists are in order. -/
def guessed (st : Int × Int) : Ending := if st.2 = 0 then .returned (.tuple #[.int .i64 0, .int .i64 7]) else .returned (.tuple #[.int .i64 st.1, .int .i64 0])
set_option maxHeartbeats 2000000 in
theorem zoneGuess_ok (a : Option Addr) (n ca : Nat) (z : Nat → Int) (a2 : Option Addr) (m cb : Nat) (y : Nat → Int) (k : Int) (w : World) (hra : Row w a n (fun i => .int .i64 (z i))) (hrb : Row w a2 m (fun i => .int .i64 (y i))) (he : Ev.err z y n m k = 0) :
    Calls Try.prog 14 #[.slice a n ca, .slice a2 m cb, .int .i64 k] w fun e w' => e = guessed (Ev.zones z y n m k 113) ∧ Below w.heap.size w w' := by
  obtain ⟨hn, hm, hz, hy, hk1, hk2⟩ := Ev.err_zero he
  have HE := Lib.hid (fun W hA hB => checkEvents_is a n ca z a2 m cb y k W hA hB (by omega) (by omega))
  rw [he] at HE
  have HRA := Lib.hid hra; have HRB := Lib.hid hrb; have HZ := Lib.hid hz; have HY := Lib.hid hy
  clear he hra hrb hz hy
  go_enter Try.func14, Try.ntmps14
  go_wp2_with (go_at_call 47; refine (HE.out _ HRA.out HRB.out).mono ?_; rintro e w' ⟨rfl, hB⟩)
  go_loopg [9, 10, 11] 113 (fun gk b' c' o wr => ∃ i : Nat, i ≤ 113 ∧ gk = 113 - i ∧ o = .int .i64 (15 * (i : Int) - 840) ∧ b' = .int .i64 (Ev.zones z y n m k i).1 ∧ c' = .int .i64 (Ev.zones z y n m k i).2 ∧ Below w.heap.size w wr)
  case atStart => exact ⟨0, by omega, rfl, rfl, rfl, rfl, hB⟩
  case round =>
    clear hB
    -- : hits' contract; : the worlds' premises
    obtain ⟨i, hi, rfl, rfl, rfl, rfl, hB⟩ := hrel
    have hzb := zones_bd z y n m k i hi
    by_cases hlt : i < 113
    · -- hits_is: hits_is | hitsR_is; (first | (go_at_call 48; refine (HC.out _ (HRA.out.keep hB) (HRB.out.keep hB)).mono ?_; rintro e w' ⟨rfl, hB2⟩) | (go_at_call 49; refine (HNC.out _).mono ?_; rintro e w' ⟨rfl, rfl⟩)): arms; nearer_is: nearer; below_up hB hB2: Below at the end
      have HNX : Hid (Ev.zones z y n m k (i + 1) = Ev.step z y n m k (Ev.zones z y n m k i) (-60 * (15 * (i : Int) - 840)) (15 * i - 840)) := rfl
      generalize Ev.zones z y n m k i = st at hzb HNX ⊢
      obtain ⟨b, c⟩ := st
      simp only [] at hzb HNX ⊢
      obtain ⟨h, hh⟩ : ∃ h, Ev.hits z y n (-60 * (15 * (i : Int) - 840)) k m = h := ⟨_, rfl⟩
      have hbd := Ev.hits_bd z y n (-60 * (15 * (i : Int) - 840)) k m
      rw [hh] at hbd
      have HH := Lib.hid hh
      have HC := Lib.hid (fun W hA hB => hits_is a n ca z a2 m cb y (-60 * (15 * (i : Int) - 840)) k W hA hB hn hm HZ.out HY.out (by omega) (by omega))
      rw [hh] at HC
      clear hh
      -- (first | (go_at_call 48; refine (HC.out _ (HRA.out.keep hB) (HRB.out.keep hB)).mono ?_; rintro e w' ⟨rfl, hB2⟩) | (go_at_call 49; refine (HNC.out _).mono ?_; rintro e w' ⟨rfl, rfl⟩)): the walk's arms; below_up hB hB2: the end of the relation
      · by_cases hc : c < h
        · have HS := Lib.hid (Ev.step_yes (o := 15 * (i : Int) - 840) HH.out (Ev.takes_more (best := b) hc))
          go_wp2_with (first | (go_at_call 48; refine (HC.out _ (HRA.out.keep hB) (HRB.out.keep hB)).mono ?_; rintro e w' ⟨rfl, hB2⟩) | (go_at_call 49; refine (HNC.out _).mono ?_; rintro e w' ⟨rfl, rfl⟩))
          go_roundg (113 - (i + 1))
          case rel => exact ⟨i + 1, by omega, rfl, by go_num, by rw [HNX.out, HS.out], by rw [HNX.out, HS.out], below_up hB hB2⟩
          case measure => omega
        · by_cases hd : h = c
          · have hd' : (h == c) = true := by simpa using hd
            have hdd : decide (c < h) = false := by simpa using hc
            cases hn : Ev.nearer (15 * (i : Int) - 840) b
            · have HN := Lib.hid hn; clear hn
              have HS := Lib.hid (Ev.step_no (o := 15 * (i : Int) - 840) HH.out ((Ev.takes_same (best := b) (s := 15 * (i : Int) - 840) hd).trans HN.out))
              have HNC := Lib.hid (fun W => nearer_is (15 * (i : Int) - 840) b W (by omega) (by omega) (by omega) (by omega))
              rw [HN.out] at HNC
              clear hd
              go_wp2_with (first | (go_at_call 48; refine (HC.out _ (HRA.out.keep hB) (HRB.out.keep hB)).mono ?_; rintro e w' ⟨rfl, hB2⟩) | (go_at_call 49; refine (HNC.out _).mono ?_; rintro e w' ⟨rfl, rfl⟩))
              go_roundg (113 - (i + 1))
              case rel => exact ⟨i + 1, by omega, rfl, by go_num, by rw [HNX.out, HS.out], by rw [HNX.out, HS.out], below_up hB hB2⟩
              case measure => omega
            · have HN := Lib.hid hn; clear hn
              have HS := Lib.hid (Ev.step_yes (o := 15 * (i : Int) - 840) HH.out ((Ev.takes_same (best := b) (s := 15 * (i : Int) - 840) hd).trans HN.out))
              have HNC := Lib.hid (fun W => nearer_is (15 * (i : Int) - 840) b W (by omega) (by omega) (by omega) (by omega))
              rw [HN.out] at HNC
              clear hd
              go_wp2_with (first | (go_at_call 48; refine (HC.out _ (HRA.out.keep hB) (HRB.out.keep hB)).mono ?_; rintro e w' ⟨rfl, hB2⟩) | (go_at_call 49; refine (HNC.out _).mono ?_; rintro e w' ⟨rfl, rfl⟩))
              go_roundg (113 - (i + 1))
              case rel => exact ⟨i + 1, by omega, rfl, by go_num, by rw [HNX.out, HS.out], by rw [HNX.out, HS.out], below_up hB hB2⟩
              case measure => omega
          · have HS := Lib.hid (Ev.step_no (o := 15 * (i : Int) - 840) HH.out (Ev.takes_less (best := b) (show h < c by omega)))
            have hd' : (h == c) = false := by simpa using hd
            go_wp2_with (first | (go_at_call 48; refine (HC.out _ (HRA.out.keep hB) (HRB.out.keep hB)).mono ?_; rintro e w' ⟨rfl, hB2⟩) | (go_at_call 49; refine (HNC.out _).mono ?_; rintro e w' ⟨rfl, rfl⟩))
            go_roundg (113 - (i + 1))
            case rel => exact ⟨i + 1, by omega, rfl, by go_num, by rw [HNX.out, HS.out], by rw [HNX.out, HS.out], below_up hB hB2⟩
            case measure => omega
    · obtain rfl : i = 113 := by omega
      generalize hst : Ev.zones z y n m k 113 = st at hzb ⊢
      obtain ⟨b, c⟩ := st
      have HST := Lib.hid hst; clear hst
      simp only [] at hzb ⊢
      by_cases hc : c = 0
      · subst hc
        go_wp2_with fail
        go_ret2
        exact ⟨by rw [HST.out]; simp [guessed], hB⟩
      · have hc' : (c == 0) = false := by simpa using hc
        go_wp2_with fail
        go_ret2
        exact ⟨by rw [HST.out]; simp [guessed, hc], hB⟩
theorem zoneGuess_err (a : Option Addr) (n ca : Nat) (z : Nat → Int) (a2 : Option Addr) (m cb : Nat) (y : Nat → Int) (k : Int) (w : World) (hra : Row w a n (fun i => .int .i64 (z i))) (hrb : Row w a2 m (fun i => .int .i64 (y i))) (hn : n ≤ 9223372036854775807) (hm : m ≤ 9223372036854775807) (q : Int) (he : Ev.err z y n m k = q) (hq : q ≠ 0) :
    Calls Try.prog 14 #[.slice a n ca, .slice a2 m cb, .int .i64 k] w fun e w' => e = .returned (.tuple #[.int .i64 0, .int .i64 q]) ∧ Below w.heap.size w w' := by
  have HE := Lib.hid (fun W hA hB => checkEvents_is a n ca z a2 m cb y k W hA hB hn hm)
  rw [he] at HE
  have hq' : (q == 0) = false := by simpa using hq
  clear he
  go_enter Try.func14, Try.ntmps14
  go_wp2_with (go_at_call 47; refine (HE.out _ hra hrb).mono ?_; rintro e w' ⟨rfl, hB⟩)
  go_ret2
  exact ⟨rfl, hB⟩
set_option maxHeartbeats 2000000 in
theorem zoneFor_is (a : Option Addr) (n ca : Nat) (z : Nat → Int) (a2 : Option Addr) (m cb : Nat) (y : Nat → Int) (k : Int) (w : World) (hra : Row w a n (fun i => .int .i64 (z i))) (hrb : Row w a2 m (fun i => .int .i64 (y i))) (he : Ev.err z y n m k = 0) :
    Calls Try.prog 16 #[.slice a n ca, .slice a2 m cb, .int .i64 k] w fun e w' => e = .returned (.tuple #[.int .i64 (Ev.zones z y n m k 113).1, .bool (decide (0 < (Ev.zones z y n m k 113).2))]) ∧ Below w.heap.size w w' := by
  obtain ⟨hn, hm, hz, hy, hk1, hk2⟩ := Ev.err_zero he
  have HRA := Lib.hid hra; have HRB := Lib.hid hrb; have HZ := Lib.hid hz; have HY := Lib.hid hy
  clear he hra hrb hz hy
  go_enter Try.func16, Try.ntmps16
  go_wp2_with fail
  go_loopg [8, 9, 10] 113 (fun gk b' c' o wr => ∃ i : Nat, i ≤ 113 ∧ gk = 113 - i ∧ o = .int .i64 (15 * (i : Int) - 840) ∧ b' = .int .i64 (Ev.zones z y n m k i).1 ∧ c' = .int .i64 (Ev.zones z y n m k i).2 ∧ Below w.heap.size w wr)
  case atStart => exact ⟨0, by omega, rfl, rfl, rfl, rfl, Below.refl _ _⟩
  case round =>
    -- : hits' contract; : the worlds' premises
    obtain ⟨i, hi, rfl, rfl, rfl, rfl, hB⟩ := hrel
    have hzb := zones_bd z y n m k i hi
    by_cases hlt : i < 113
    · -- hitsR_is: hits_is | hitsR_is; (first | (go_at_call 51; refine (HC.out _ (HRA.out.keep hB) (HRB.out.keep hB)).mono ?_; rintro e w' ⟨rfl, rfl⟩) | (go_at_call 52; refine (HNC.out _).mono ?_; rintro e w' ⟨rfl, rfl⟩)): arms; nearerR_is: nearer; hB: Below at the end
      have HNX : Hid (Ev.zones z y n m k (i + 1) = Ev.step z y n m k (Ev.zones z y n m k i) (-60 * (15 * (i : Int) - 840)) (15 * i - 840)) := rfl
      generalize Ev.zones z y n m k i = st at hzb HNX ⊢
      obtain ⟨b, c⟩ := st
      simp only [] at hzb HNX ⊢
      obtain ⟨h, hh⟩ : ∃ h, Ev.hits z y n (-60 * (15 * (i : Int) - 840)) k m = h := ⟨_, rfl⟩
      have hbd := Ev.hits_bd z y n (-60 * (15 * (i : Int) - 840)) k m
      rw [hh] at hbd
      have HH := Lib.hid hh
      have HC := Lib.hid (fun W hA hB => hitsR_is a n ca z a2 m cb y (-60 * (15 * (i : Int) - 840)) k W hA hB hn hm HZ.out HY.out (by omega) (by omega))
      rw [hh] at HC
      clear hh
      -- (first | (go_at_call 51; refine (HC.out _ (HRA.out.keep hB) (HRB.out.keep hB)).mono ?_; rintro e w' ⟨rfl, rfl⟩) | (go_at_call 52; refine (HNC.out _).mono ?_; rintro e w' ⟨rfl, rfl⟩)): the walk's arms; hB: the end of the relation
      · by_cases hc : c < h
        · have HS := Lib.hid (Ev.step_yes (o := 15 * (i : Int) - 840) HH.out (Ev.takes_more (best := b) hc))
          go_wp2_with (first | (go_at_call 51; refine (HC.out _ (HRA.out.keep hB) (HRB.out.keep hB)).mono ?_; rintro e w' ⟨rfl, rfl⟩) | (go_at_call 52; refine (HNC.out _).mono ?_; rintro e w' ⟨rfl, rfl⟩))
          go_roundg (113 - (i + 1))
          case rel => exact ⟨i + 1, by omega, rfl, by go_num, by rw [HNX.out, HS.out], by rw [HNX.out, HS.out], hB⟩
          case measure => omega
        · by_cases hd : h = c
          · have hd' : (h == c) = true := by simpa using hd
            have hdd : decide (c < h) = false := by simpa using hc
            cases hn : Ev.nearer (15 * (i : Int) - 840) b
            · have HN := Lib.hid hn; clear hn
              have HS := Lib.hid (Ev.step_no (o := 15 * (i : Int) - 840) HH.out ((Ev.takes_same (best := b) (s := 15 * (i : Int) - 840) hd).trans HN.out))
              have HNC := Lib.hid (fun W => nearerR_is (15 * (i : Int) - 840) b W (by omega) (by omega) (by omega) (by omega))
              rw [HN.out] at HNC
              clear hd
              go_wp2_with (first | (go_at_call 51; refine (HC.out _ (HRA.out.keep hB) (HRB.out.keep hB)).mono ?_; rintro e w' ⟨rfl, rfl⟩) | (go_at_call 52; refine (HNC.out _).mono ?_; rintro e w' ⟨rfl, rfl⟩))
              go_roundg (113 - (i + 1))
              case rel => exact ⟨i + 1, by omega, rfl, by go_num, by rw [HNX.out, HS.out], by rw [HNX.out, HS.out], hB⟩
              case measure => omega
            · have HN := Lib.hid hn; clear hn
              have HS := Lib.hid (Ev.step_yes (o := 15 * (i : Int) - 840) HH.out ((Ev.takes_same (best := b) (s := 15 * (i : Int) - 840) hd).trans HN.out))
              have HNC := Lib.hid (fun W => nearerR_is (15 * (i : Int) - 840) b W (by omega) (by omega) (by omega) (by omega))
              rw [HN.out] at HNC
              clear hd
              go_wp2_with (first | (go_at_call 51; refine (HC.out _ (HRA.out.keep hB) (HRB.out.keep hB)).mono ?_; rintro e w' ⟨rfl, rfl⟩) | (go_at_call 52; refine (HNC.out _).mono ?_; rintro e w' ⟨rfl, rfl⟩))
              go_roundg (113 - (i + 1))
              case rel => exact ⟨i + 1, by omega, rfl, by go_num, by rw [HNX.out, HS.out], by rw [HNX.out, HS.out], hB⟩
              case measure => omega
          · have HS := Lib.hid (Ev.step_no (o := 15 * (i : Int) - 840) HH.out (Ev.takes_less (best := b) (show h < c by omega)))
            have hd' : (h == c) = false := by simpa using hd
            go_wp2_with (first | (go_at_call 51; refine (HC.out _ (HRA.out.keep hB) (HRB.out.keep hB)).mono ?_; rintro e w' ⟨rfl, rfl⟩) | (go_at_call 52; refine (HNC.out _).mono ?_; rintro e w' ⟨rfl, rfl⟩))
            go_roundg (113 - (i + 1))
            case rel => exact ⟨i + 1, by omega, rfl, by go_num, by rw [HNX.out, HS.out], by rw [HNX.out, HS.out], hB⟩
            case measure => omega
    · obtain rfl : i = 113 := by omega
      generalize hst : Ev.zones z y n m k 113 = st at hzb ⊢
      obtain ⟨b, c⟩ := st
      have HST := Lib.hid hst; clear hst
      simp only [] at hzb ⊢
      go_wp2_with fail
      go_ret2
      exact ⟨by rw [HST.out]; rfl, hB⟩
end Go.Proofs.Ytdhfhcpgjokhlaa
