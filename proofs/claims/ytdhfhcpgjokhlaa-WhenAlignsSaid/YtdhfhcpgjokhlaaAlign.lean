/- Align: the list of shifts, and the best of them; the reference's Aligned. -/
import Derived.Test.YtdhfhcpgjokhlaaZones
import Derived.Test.YtdhfhcpgjokhlaaAlignMath
import Derived.Test.YtdhfhcpgjokhlaaOwn
namespace Go.Proofs.Ytdhfhcpgjokhlaa
open Go.RowKit Go.Sort Go.Shelf
set_option linter.unusedVariables false
set_option maxHeartbeats 2000000 in
theorem bestShift_is (a : Option Addr) (n ca : Nat) (z : Nat → Int) (a2 : Option Addr) (m cb : Nat) (y : Nat → Int) (k : Int) (w : World) (hra : Row w a n (fun i => .int .i64 (z i))) (hrb : Row w a2 m (fun i => .int .i64 (y i))) (he : Ev.err z y n m k = 0) (a3 : Option Addr) (ls cs : Nat) (s : Nat → Int) (hrs : Row w a3 ls (fun i => .int .i64 (s i))) (hls : ls ≤ 9223372036854775807) (hs : ∀ i, -1000000000000 ≤ s i ∧ s i ≤ 1000000000000) :
    Calls Try.prog 54 #[.slice a n ca, .slice a2 m cb, .int .i64 k, .slice a3 ls cs] w fun e w' => e = .returned (.tuple #[.int .i64 (Ev.bestN z y n m k s ls).1, .int .i64 (Ev.bestN z y n m k s ls).2]) ∧ Below w.heap.size w w' := by
  obtain ⟨hn, hm, hz, hy, hk1, hk2⟩ := Ev.err_zero he
  have HRA := Lib.hid hra; have HRB := Lib.hid hrb; have HZ := Lib.hid hz; have HY := Lib.hid hy; have HRS := Lib.hid hrs; have HSB := Lib.hid hs
  clear he hra hrb hz hy hrs hs
  go_enter Try.func54, Try.ntmps54
  go_wp2_with fail
  go_loopg [8, 9, 15] ls (fun gk b' c' o wr => ∃ i : Nat, i ≤ ls ∧ gk = ls - i ∧ o = .int .i64 i ∧ b' = .int .i64 (Ev.bestN z y n m k s i).1 ∧ c' = .int .i64 (Ev.bestN z y n m k s i).2 ∧ Below w.heap.size w wr)
  case atStart => exact ⟨0, by omega, rfl, rfl, rfl, rfl, Below.refl _ _⟩
  case round =>
    obtain ⟨i, hi, rfl, rfl, rfl, rfl, hB⟩ := hrel
    have hzb := Ev.bestN_ok (z := z) (y := y) (n := n) (m := m) (k := k) HSB.out i
    unfold Ev.StOk at hzb
    by_cases hlt : i < ls
    · have hsi := HSB.out i
      obtain ⟨b3, off3, rfl, hb3, hcell3⟩ := (HRS.out.keep hB) (by omega)
      have hc3 := hcell3 i hlt
      have HNX : Hid (Ev.bestN z y n m k s (i + 1) = Ev.step z y n m k (Ev.bestN z y n m k s i) (s i) (s i)) := rfl
      generalize Ev.bestN z y n m k s i = st at hzb HNX ⊢
      obtain ⟨b, c⟩ := st
      simp only [] at hzb HNX ⊢
      obtain ⟨h, hh⟩ : ∃ h, Ev.hits z y n (s i) k m = h := ⟨_, rfl⟩
      have hbd := Ev.hits_bd z y n (s i) k m
      rw [hh] at hbd
      have HH := Lib.hid hh
      have HC := Lib.hid (fun W hA hB => hits_is a n ca z a2 m cb y (s i) k W hA hB hn hm HZ.out HY.out (by omega) (by omega))
      rw [hh] at HC
      clear hh hcell3
      -- (first | (go_at_call 48; refine (HC.out _ (HRA.out.keep hB) (HRB.out.keep hB)).mono ?_; rintro e w' ⟨rfl, hB2⟩) | (go_at_call 49; refine (HNC.out _).mono ?_; rintro e w' ⟨rfl, rfl⟩)): the walk's arms; (ls - (i + 1)): the ghost behind the round; ⟨i + 1, by omega, rfl, by go_num, by rw [HNX.out, HS.out], by rw [HNX.out, HS.out], below_up hB hB2⟩: the relation; s i: the shift; nearer_is: nearer
      · by_cases hc : c < h
        · have HS := Lib.hid (Ev.step_yes (o := s i) HH.out (Ev.takes_more (best := b) hc))
          go_wp2_with (first | (go_at_call 48; refine (HC.out _ (HRA.out.keep hB) (HRB.out.keep hB)).mono ?_; rintro e w' ⟨rfl, hB2⟩) | (go_at_call 49; refine (HNC.out _).mono ?_; rintro e w' ⟨rfl, rfl⟩))
          go_roundg (ls - (i + 1))
          case rel => exact ⟨i + 1, by omega, rfl, by go_num, by rw [HNX.out, HS.out], by rw [HNX.out, HS.out], below_up hB hB2⟩
          case measure => omega
        · by_cases hd : h = c
          · have hd' : (h == c) = true := by simpa using hd
            have hdd : decide (c < h) = false := by simpa using hc
            have HNC := Lib.hid (fun W => nearer_is (s i) b W (by omega) (by omega) (by omega) (by omega))
            by_cases hn : Ev.nearer (s i) b = true
            · have HN := Lib.hid hn
              have HS := Lib.hid (Ev.step_yes (o := s i) HH.out ((Ev.takes_same (best := b) (s := s i) hd).trans HN.out))
              rw [hn] at HNC
              clear hd hn
              go_wp2_with (first | (go_at_call 48; refine (HC.out _ (HRA.out.keep hB) (HRB.out.keep hB)).mono ?_; rintro e w' ⟨rfl, hB2⟩) | (go_at_call 49; refine (HNC.out _).mono ?_; rintro e w' ⟨rfl, rfl⟩))
              go_roundg (ls - (i + 1))
              case rel => exact ⟨i + 1, by omega, rfl, by go_num, by rw [HNX.out, HS.out], by rw [HNX.out, HS.out], below_up hB hB2⟩
              case measure => omega
            · have hn : Ev.nearer (s i) b = false := by simpa using hn
              have HN := Lib.hid hn
              have HS := Lib.hid (Ev.step_no (o := s i) HH.out ((Ev.takes_same (best := b) (s := s i) hd).trans HN.out))
              rw [hn] at HNC
              clear hd hn
              go_wp2_with (first | (go_at_call 48; refine (HC.out _ (HRA.out.keep hB) (HRB.out.keep hB)).mono ?_; rintro e w' ⟨rfl, hB2⟩) | (go_at_call 49; refine (HNC.out _).mono ?_; rintro e w' ⟨rfl, rfl⟩))
              go_roundg (ls - (i + 1))
              case rel => exact ⟨i + 1, by omega, rfl, by go_num, by rw [HNX.out, HS.out], by rw [HNX.out, HS.out], below_up hB hB2⟩
              case measure => omega
          · have HS := Lib.hid (Ev.step_no (o := s i) HH.out (Ev.takes_less (best := b) (show h < c by omega)))
            have hd' : (h == c) = false := by simpa using hd
            go_wp2_with (first | (go_at_call 48; refine (HC.out _ (HRA.out.keep hB) (HRB.out.keep hB)).mono ?_; rintro e w' ⟨rfl, hB2⟩) | (go_at_call 49; refine (HNC.out _).mono ?_; rintro e w' ⟨rfl, rfl⟩))
            go_roundg (ls - (i + 1))
            case rel => exact ⟨i + 1, by omega, rfl, by go_num, by rw [HNX.out, HS.out], by rw [HNX.out, HS.out], below_up hB hB2⟩
            case measure => omega
    · obtain rfl : i = ls := by omega
      generalize hst : Ev.bestN z y n m k s i = st at hzb ⊢
      obtain ⟨b, c⟩ := st
      have HST := Lib.hid hst; clear hst
      go_wp2_with fail
      go_ret2
      exact ⟨by rw [HST.out]; rfl, hB⟩
theorem alignError_is (a : Option Addr) (n ca : Nat) (z : Nat → Int) (a2 : Option Addr) (m cb : Nat) (y : Nat → Int) (k : Int) (w : World) (hra : Row w a n (fun i => .int .i64 (z i))) (hrb : Row w a2 m (fun i => .int .i64 (y i))) (most : Int) (hn : n ≤ 9223372036854775807) (hm : m ≤ 9223372036854775807) :
    Calls Try.prog 18 #[.slice a n ca, .slice a2 m cb, .int .i64 k, .int .i64 most] w fun e w' => e = .returned (.int .i64 (if Ev.err z y n m k = 0 then (if Ev.mom most = true then 0 else 2) else Ev.err z y n m k)) ∧ Below w.heap.size w w' := by
  have HE := Lib.hid (fun W hA hB => eventsError_is a n ca z a2 m cb y k W hA hB hn hm)
  obtain ⟨q, hq⟩ : ∃ q, Ev.err z y n m k = q := ⟨_, rfl⟩
  rw [hq] at HE ⊢
  clear hq
  have HRA := Lib.hid hra; have HRB := Lib.hid hrb
  clear hra hrb
  by_cases h0 : q = 0
  · subst h0
    by_cases hv : Ev.mom most = true
    · have HV := Lib.hid hv
      rw [if_pos rfl, if_pos hv]; clear hv
      go_enter Try.func18, Try.ntmps18
      go_wp2_with (first | (go_at_call 50; refine (HE.out _ HRA.out HRB.out).mono ?_; rintro e w' ⟨rfl, hB⟩) | (go_at_call 55; refine (moment_is _ true HV.out _).mono ?_; rintro e w' ⟨rfl, rfl⟩))
      go_ret
      exact ⟨rfl, hB⟩
    · have HV : Hid (Ev.mom most = false) := by simpa [Hid] using hv
      rw [if_pos rfl, if_neg hv]; clear hv
      go_enter Try.func18, Try.ntmps18
      go_wp2_with (first | (go_at_call 50; refine (HE.out _ HRA.out HRB.out).mono ?_; rintro e w' ⟨rfl, hB⟩) | (go_at_call 55; refine (moment_is _ false HV.out _).mono ?_; rintro e w' ⟨rfl, rfl⟩))
      go_ret
      exact ⟨rfl, hB⟩
  · rw [if_neg h0]
    have h0' : (q == 0) = false := by simpa using h0
    clear h0
    go_enter Try.func18, Try.ntmps18
    go_wp2_with (go_at_call 50; refine (HE.out _ HRA.out HRB.out).mono ?_; rintro e w' ⟨rfl, hB⟩)
    go_ret
    exact ⟨rfl, hB⟩
end Go.Proofs.Ytdhfhcpgjokhlaa
