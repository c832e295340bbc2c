/- The reference's Aligned, and the law WhenAligns. -/
import Derived.Test.YtdhfhcpgjokhlaaAlign2
namespace Go.Proofs.Ytdhfhcpgjokhlaa
open Go.RowKit Go.Sort Go.Shelf
set_option linter.unusedVariables false
theorem adv_no {z y : Nat → Int} {n m : Nat} {k most s : Int} {st : Int × Int} (h : Ev.inside most s = false) : Ev.adv z y n m k most st s = st := by unfold Ev.adv; rw [if_neg (by rw [h]; exact Bool.false_ne_true)]
theorem adv_yes {z y : Nat → Int} {n m : Nat} {k most s : Int} {st : Int × Int} (h : Ev.inside most s = true) : Ev.adv z y n m k most st s = Ev.step z y n m k st s s := by unfold Ev.adv; rw [if_pos h]
theorem size_out {most s : Int} (h : Ev.inside most s = false) : most < Ev.abs s := by have := Ev.inside_no h; unfold Ev.abs; omega
theorem size_in {most s : Int} (h : Ev.inside most s = true) : Ev.abs s ≤ most := by have := Ev.inside_yes h; unfold Ev.abs; omega
set_option maxRecDepth 100000 in
set_option maxHeartbeats 4000000 in
theorem aligned_is (a : Option Addr) (n ca : Nat) (z : Nat → Int) (a2 : Option Addr) (m cb : Nat) (y : Nat → Int) (k : Int) (w : World) (hra : Row w a n (fun i => .int .i64 (z i))) (hrb : Row w a2 m (fun i => .int .i64 (y i))) (most : Int) (he : Ev.err z y n m k = 0) (hmo : Ev.mom most = true) :
    Calls Try.prog 19 #[.slice a n ca, .slice a2 m cb, .int .i64 k, .int .i64 most] w fun e w' => e = .returned (.tuple #[.int .i64 (Ev.out z y n m k most n).1, .int .i64 (Ev.out z y n m k most n).2]) ∧ Below w.heap.size w w' := by
  obtain ⟨hn, hm, hz, hy, hk1, hk2⟩ := Ev.err_zero he
  have hmb := (Ev.mom_iff most).1 hmo
  have HRA := Lib.hid hra; have HRB := Lib.hid hrb; have HZ := Lib.hid hz; have HY := Lib.hid hy
  clear he hra hrb hz hy hmo
  have HC0 := Lib.hid (fun W hA hB => hitsR_is a n ca z a2 m cb y 0 k W hA hB hn hm HZ.out HY.out (by omega) (by omega))
  go_enter Try.func19, Try.ntmps19
  go_wp2_with (go_at_call 51; refine (HC0.out _ HRA.out HRB.out).mono ?_; rintro e w' ⟨rfl, rfl⟩)
  go_loopg [10, 11, 25] n (fun gk b' c' i wr => ∃ j : Nat, j ≤ n ∧ gk = n - j ∧ i = .int .i64 j ∧ b' = .int .i64 (Ev.out z y n m k most j).1 ∧ c' = .int .i64 (Ev.out z y n m k most j).2 ∧ Below w.heap.size w wr)
  case atStart => exact ⟨0, by omega, rfl, rfl, rfl, rfl, Below.refl _ _⟩
  case round =>
    obtain ⟨i, hi, rfl, rfl, rfl, rfl, hB⟩ := hrel
    have hok := Ev.out_ok (z := z) (y := y) (n := n) (m := m) (k := k) (most := most) (by omega) i
    by_cases hlt : i < n
    · obtain ⟨b1, off1, rfl, hb1, hcell1⟩ := (HRA.out.keep hB) (by omega)
      have hc1 := hcell1 i hlt
      have hzi := Ev.moments_bd HZ.out i hlt
      have HO : Hid (Ev.out z y n m k most (i + 1) = Ev.inn z y n m k most (z i) (Ev.out z y n m k most i) m) := rfl
      generalize Ev.out z y n m k most i = st0 at hok HO ⊢
      clear hcell1
      go_wp2_with fail
      go_loopg [10, 11, 31] m (fun gk b' c' i' wr => ∃ j : Nat, j ≤ m ∧ gk = m - j ∧ i' = .int .i64 j ∧ b' = .int .i64 (Ev.inn z y n m k most (z i) st0 j).1 ∧ c' = .int .i64 (Ev.inn z y n m k most (z i) st0 j).2 ∧ Below w.heap.size w wr)
      case atStart => exact ⟨0, by omega, rfl, rfl, rfl, rfl, hB⟩
      case round =>
        clear hB hc1 hb1
        obtain ⟨j, hj, rfl, rfl, rfl, rfl, hB⟩ := hrel
        have hok := Ev.inn_ok (z := z) (y := y) (n := n) (k := k) (most := most) (x := z i) hok (by omega) j
        by_cases hlt2 : j < m
        · obtain ⟨b2', off2, rfl, hb2', hcell2⟩ := (HRB.out.keep hB) (by omega)
          have hc2 := hcell2 j hlt2
          have hyj := Ev.moments_bd HY.out j hlt2
          clear hcell2
          have HO2 : Hid (Ev.inn z y n m k most (z i) st0 (j + 1) = Ev.adv z y n m k most (Ev.adv z y n m k most (Ev.inn z y n m k most (z i) st0 j) (y j - z i - k)) (y j - z i + k)) := rfl
          generalize Ev.inn z y n m k most (z i) st0 j = st1 at hok HO2 ⊢
          have hP2 := Blk.new wr #[.int .i64 (y j - z i - k), .int .i64 (y j - z i + k)] 3
          have hB1 := hB.alloc hB.size (.cells #[.int .i64 (y j - z i - k), .int .i64 (y j - z i + k)] 3)
          obtain ⟨s1, hs1⟩ : ∃ s, y j - z i - k = s := ⟨_, rfl⟩
          obtain ⟨s2, hs2⟩ : ∃ s, y j - z i + k = s := ⟨_, rfl⟩
          rw [hs1, hs2] at hP2 hB1 HO2
          have hsb : -1000000000000 ≤ s1 ∧ s1 ≤ 1000000000000 ∧ -1000000000000 ≤ s2 ∧ s2 ≤ 1000000000000 := by omega
          have HS1 := Lib.hid hs1; have HS2 := Lib.hid hs2
          obtain ⟨wo, hwo⟩ : ∃ wo : World, wo = wr := ⟨_, rfl⟩
          clear hs1 hs2
          go_wp2_with fail
          rw [HS1.out, HS2.out]
          rw [← hwo] at hP2 hB1 hB ⊢
          have hBo := hB.size
          clear hB hb2' hc2
          clear hwo wr
          go_loopg [10, 11, 47] 2 (fun gk b' c' i' wr => Blk wr wo.heap.size #[.int .i64 s1, .int .i64 s2] 3 ∧ Below w.heap.size w wr ∧ ∃ st, b' = .int .i64 st.1 ∧ c' = .int .i64 st.2 ∧ ((gk = 2 ∧ i' = .int .i64 0 ∧ st = st1) ∨ (gk = 1 ∧ i' = .int .i64 1 ∧ st = Ev.adv z y n m k most st1 s1) ∨ (gk = 0 ∧ i' = .int .i64 2 ∧ st = Ev.adv z y n m k most (Ev.adv z y n m k most st1 s1) s2)))
          case atStart => exact ⟨hP2, hB1, st1, rfl, rfl, .inl ⟨rfl, rfl, rfl⟩⟩
          case round =>
            clear hP2 hB1
            obtain ⟨hP2, hB, st, rfl, rfl, hrel⟩ := hrel
            obtain ⟨c0, c1⟩ := hP2.two
            rcases hrel with ⟨rfl, rfl, rfl⟩ | ⟨rfl, rfl, rfl⟩ | ⟨rfl, rfl, rfl⟩
            · -- s1: the shift; 1: the ghost; ⟨Ev.adv z y n m k most st s1, by rw [HA.out], by rw [HA.out], .inr (.inl ⟨rfl, rfl, rfl⟩)⟩: the state's choice from the equation 'adv st s = (..)' named HA; st: the state before
              have HNX : Hid (Ev.adv z y n m k most st s1 = Ev.adv z y n m k most st s1) := rfl
              cases hv : Ev.inside most s1
              · have HV := Lib.hid hv
                have hno := size_out hv; clear hv
                have HA := Lib.hid (adv_no (z := z) (y := y) (n := n) (m := m) (k := k) (st := st) HV.out)
                go_wp2_with (go_at_call 56; refine (size_any _ _ (by omega) (by omega)).mono ?_; rintro e w' ⟨rfl, rfl⟩)
                go_roundg 1
                case rel => exact ⟨hP2, hB, ⟨Ev.adv z y n m k most st s1, by rw [HA.out], by rw [HA.out], .inr (.inl ⟨rfl, rfl, rfl⟩)⟩⟩
                case measure => omega
              · have HV := Lib.hid hv
                have hyes := size_in hv; clear hv
                have HA := Lib.hid (adv_yes (z := z) (y := y) (n := n) (m := m) (k := k) (st := st) HV.out)
                have hst : ∃ b c, st = (b, c) := ⟨_, _, rfl⟩
                obtain ⟨b, c, hbc⟩ := hst
                rw [hbc] at hok ⊢
                unfold Ev.StOk at hok
                simp only [] at hok ⊢
                rw [hbc] at HA
                have HBC := Lib.hid hbc; clear hbc
                obtain ⟨h, hh⟩ : ∃ h, Ev.hits z y n s1 k m = h := ⟨_, rfl⟩
                have hbd := Ev.hits_bd z y n s1 k m
                rw [hh] at hbd
                have HH := Lib.hid hh
                have HC := Lib.hid (fun W a a2 hA hB => hitsR_is a n ca z a2 m cb y s1 k W hA hB hn hm HZ.out HY.out (by omega) (by omega))
                rw [hh] at HC
                clear hh
                -- (first | (go_at_call 56; refine (size_any _ _ (by omega) (by omega)).mono ?_; rintro e w' ⟨rfl, rfl⟩) | (go_at_call 51; refine (HC.out _ _ _ (HRA.out.keep hB) (HRB.out.keep hB)).mono ?_; rintro e w' ⟨rfl, rfl⟩) | (go_at_call 52; refine (HNC.out _).mono ?_; rintro e w' ⟨rfl, rfl⟩)): the walk's arms; 1: the ghost behind the round; ⟨hP2, hB, ⟨Ev.adv z y n m k most (b, c) s1, by rw [HA.out, HS.out], by rw [HA.out, HS.out], .inr (.inl ⟨rfl, rfl, by rw [HBC.out]⟩)⟩⟩: the relation; s1: the shift; nearerR_is: nearer
                · by_cases hc : c < h
                  · have HS := Lib.hid (Ev.step_yes (o := s1) HH.out (Ev.takes_more (best := b) hc))
                    go_wp2_with (first | (go_at_call 56; refine (size_any _ _ (by omega) (by omega)).mono ?_; rintro e w' ⟨rfl, rfl⟩) | (go_at_call 51; refine (HC.out _ _ _ (HRA.out.keep hB) (HRB.out.keep hB)).mono ?_; rintro e w' ⟨rfl, rfl⟩) | (go_at_call 52; refine (HNC.out _).mono ?_; rintro e w' ⟨rfl, rfl⟩))
                    go_roundg 1
                    case rel => exact ⟨hP2, hB, ⟨Ev.adv z y n m k most (b, c) s1, by rw [HA.out, HS.out], by rw [HA.out, HS.out], .inr (.inl ⟨rfl, rfl, by rw [HBC.out]⟩)⟩⟩
                    case measure => omega
                  · by_cases hd : h = c
                    · have hd' : (h == c) = true := by simpa using hd
                      have hdd : decide (c < h) = false := by simpa using hc
                      have HNC := Lib.hid (fun W => nearerR_is (s1) b W (by omega) (by omega) (by omega) (by omega))
                      by_cases hn : Ev.nearer (s1) b = true
                      · have HN := Lib.hid hn
                        have HS := Lib.hid (Ev.step_yes (o := s1) HH.out ((Ev.takes_same (best := b) (s := s1) hd).trans HN.out))
                        rw [hn] at HNC
                        clear hd hn
                        go_wp2_with (first | (go_at_call 56; refine (size_any _ _ (by omega) (by omega)).mono ?_; rintro e w' ⟨rfl, rfl⟩) | (go_at_call 51; refine (HC.out _ _ _ (HRA.out.keep hB) (HRB.out.keep hB)).mono ?_; rintro e w' ⟨rfl, rfl⟩) | (go_at_call 52; refine (HNC.out _).mono ?_; rintro e w' ⟨rfl, rfl⟩))
                        go_roundg 1
                        case rel => exact ⟨hP2, hB, ⟨Ev.adv z y n m k most (b, c) s1, by rw [HA.out, HS.out], by rw [HA.out, HS.out], .inr (.inl ⟨rfl, rfl, by rw [HBC.out]⟩)⟩⟩
                        case measure => omega
                      · have hn : Ev.nearer (s1) b = false := by simpa using hn
                        have HN := Lib.hid hn
                        have HS := Lib.hid (Ev.step_no (o := s1) HH.out ((Ev.takes_same (best := b) (s := s1) hd).trans HN.out))
                        rw [hn] at HNC
                        clear hd hn
                        go_wp2_with (first | (go_at_call 56; refine (size_any _ _ (by omega) (by omega)).mono ?_; rintro e w' ⟨rfl, rfl⟩) | (go_at_call 51; refine (HC.out _ _ _ (HRA.out.keep hB) (HRB.out.keep hB)).mono ?_; rintro e w' ⟨rfl, rfl⟩) | (go_at_call 52; refine (HNC.out _).mono ?_; rintro e w' ⟨rfl, rfl⟩))
                        go_roundg 1
                        case rel => exact ⟨hP2, hB, ⟨Ev.adv z y n m k most (b, c) s1, by rw [HA.out, HS.out], by rw [HA.out, HS.out], .inr (.inl ⟨rfl, rfl, by rw [HBC.out]⟩)⟩⟩
                        case measure => omega
                    · have HS := Lib.hid (Ev.step_no (o := s1) HH.out (Ev.takes_less (best := b) (show h < c by omega)))
                      have hd' : (h == c) = false := by simpa using hd
                      go_wp2_with (first | (go_at_call 56; refine (size_any _ _ (by omega) (by omega)).mono ?_; rintro e w' ⟨rfl, rfl⟩) | (go_at_call 51; refine (HC.out _ _ _ (HRA.out.keep hB) (HRB.out.keep hB)).mono ?_; rintro e w' ⟨rfl, rfl⟩) | (go_at_call 52; refine (HNC.out _).mono ?_; rintro e w' ⟨rfl, rfl⟩))
                      go_roundg 1
                      case rel => exact ⟨hP2, hB, ⟨Ev.adv z y n m k most (b, c) s1, by rw [HA.out, HS.out], by rw [HA.out, HS.out], .inr (.inl ⟨rfl, rfl, by rw [HBC.out]⟩)⟩⟩
                      case measure => omega
            · have hok := Ev.adv_ok (z := z) (y := y) (n := n) (k := k) (most := most) (s := s1) hok (by omega)
              obtain ⟨sq, hsq⟩ : ∃ sq, Ev.adv z y n m k most st1 s1 = sq := ⟨_, rfl⟩
              rw [hsq] at hok ⊢
              have HSQ := Lib.hid hsq; clear hsq
              -- s2: the shift; 0: the ghost; ⟨Ev.adv z y n m k most sq s2, by rw [HA.out], by rw [HA.out], .inr (.inr ⟨rfl, rfl, by rw [HSQ.out]⟩)⟩: the state's choice from the equation 'adv st s = (..)' named HA; sq: the state before
              have HNX : Hid (Ev.adv z y n m k most sq s2 = Ev.adv z y n m k most sq s2) := rfl
              cases hv : Ev.inside most s2
              · have HV := Lib.hid hv
                have hno := size_out hv; clear hv
                have HA := Lib.hid (adv_no (z := z) (y := y) (n := n) (m := m) (k := k) (st := sq) HV.out)
                go_wp2_with (go_at_call 56; refine (size_any _ _ (by omega) (by omega)).mono ?_; rintro e w' ⟨rfl, rfl⟩)
                go_roundg 0
                case rel => exact ⟨hP2, hB, ⟨Ev.adv z y n m k most sq s2, by rw [HA.out], by rw [HA.out], .inr (.inr ⟨rfl, rfl, by rw [HSQ.out]⟩)⟩⟩
                case measure => omega
              · have HV := Lib.hid hv
                have hyes := size_in hv; clear hv
                have HA := Lib.hid (adv_yes (z := z) (y := y) (n := n) (m := m) (k := k) (st := sq) HV.out)
                have hst : ∃ b c, sq = (b, c) := ⟨_, _, rfl⟩
                obtain ⟨b, c, hbc⟩ := hst
                rw [hbc] at hok ⊢
                unfold Ev.StOk at hok
                simp only [] at hok ⊢
                rw [hbc] at HA
                have HBC := Lib.hid hbc; clear hbc
                obtain ⟨h, hh⟩ : ∃ h, Ev.hits z y n s2 k m = h := ⟨_, rfl⟩
                have hbd := Ev.hits_bd z y n s2 k m
                rw [hh] at hbd
                have HH := Lib.hid hh
                have HC := Lib.hid (fun W a a2 hA hB => hitsR_is a n ca z a2 m cb y s2 k W hA hB hn hm HZ.out HY.out (by omega) (by omega))
                rw [hh] at HC
                clear hh
                -- (first | (go_at_call 56; refine (size_any _ _ (by omega) (by omega)).mono ?_; rintro e w' ⟨rfl, rfl⟩) | (go_at_call 51; refine (HC.out _ _ _ (HRA.out.keep hB) (HRB.out.keep hB)).mono ?_; rintro e w' ⟨rfl, rfl⟩) | (go_at_call 52; refine (HNC.out _).mono ?_; rintro e w' ⟨rfl, rfl⟩)): the walk's arms; 0: the ghost behind the round; ⟨hP2, hB, ⟨Ev.adv z y n m k most (b, c) s2, by rw [HA.out, HS.out], by rw [HA.out, HS.out], .inr (.inr ⟨rfl, rfl, by rw [HSQ.out, HBC.out]⟩)⟩⟩: the relation; s2: the shift; nearerR_is: nearer
                · by_cases hc : c < h
                  · have HS := Lib.hid (Ev.step_yes (o := s2) HH.out (Ev.takes_more (best := b) hc))
                    go_wp2_with (first | (go_at_call 56; refine (size_any _ _ (by omega) (by omega)).mono ?_; rintro e w' ⟨rfl, rfl⟩) | (go_at_call 51; refine (HC.out _ _ _ (HRA.out.keep hB) (HRB.out.keep hB)).mono ?_; rintro e w' ⟨rfl, rfl⟩) | (go_at_call 52; refine (HNC.out _).mono ?_; rintro e w' ⟨rfl, rfl⟩))
                    go_roundg 0
                    case rel => exact ⟨hP2, hB, ⟨Ev.adv z y n m k most (b, c) s2, by rw [HA.out, HS.out], by rw [HA.out, HS.out], .inr (.inr ⟨rfl, rfl, by rw [HSQ.out, HBC.out]⟩)⟩⟩
                    case measure => omega
                  · by_cases hd : h = c
                    · have hd' : (h == c) = true := by simpa using hd
                      have hdd : decide (c < h) = false := by simpa using hc
                      have HNC := Lib.hid (fun W => nearerR_is (s2) b W (by omega) (by omega) (by omega) (by omega))
                      by_cases hn : Ev.nearer (s2) b = true
                      · have HN := Lib.hid hn
                        have HS := Lib.hid (Ev.step_yes (o := s2) HH.out ((Ev.takes_same (best := b) (s := s2) hd).trans HN.out))
                        rw [hn] at HNC
                        clear hd hn
                        go_wp2_with (first | (go_at_call 56; refine (size_any _ _ (by omega) (by omega)).mono ?_; rintro e w' ⟨rfl, rfl⟩) | (go_at_call 51; refine (HC.out _ _ _ (HRA.out.keep hB) (HRB.out.keep hB)).mono ?_; rintro e w' ⟨rfl, rfl⟩) | (go_at_call 52; refine (HNC.out _).mono ?_; rintro e w' ⟨rfl, rfl⟩))
                        go_roundg 0
                        case rel => exact ⟨hP2, hB, ⟨Ev.adv z y n m k most (b, c) s2, by rw [HA.out, HS.out], by rw [HA.out, HS.out], .inr (.inr ⟨rfl, rfl, by rw [HSQ.out, HBC.out]⟩)⟩⟩
                        case measure => omega
                      · have hn : Ev.nearer (s2) b = false := by simpa using hn
                        have HN := Lib.hid hn
                        have HS := Lib.hid (Ev.step_no (o := s2) HH.out ((Ev.takes_same (best := b) (s := s2) hd).trans HN.out))
                        rw [hn] at HNC
                        clear hd hn
                        go_wp2_with (first | (go_at_call 56; refine (size_any _ _ (by omega) (by omega)).mono ?_; rintro e w' ⟨rfl, rfl⟩) | (go_at_call 51; refine (HC.out _ _ _ (HRA.out.keep hB) (HRB.out.keep hB)).mono ?_; rintro e w' ⟨rfl, rfl⟩) | (go_at_call 52; refine (HNC.out _).mono ?_; rintro e w' ⟨rfl, rfl⟩))
                        go_roundg 0
                        case rel => exact ⟨hP2, hB, ⟨Ev.adv z y n m k most (b, c) s2, by rw [HA.out, HS.out], by rw [HA.out, HS.out], .inr (.inr ⟨rfl, rfl, by rw [HSQ.out, HBC.out]⟩)⟩⟩
                        case measure => omega
                    · have HS := Lib.hid (Ev.step_no (o := s2) HH.out (Ev.takes_less (best := b) (show h < c by omega)))
                      have hd' : (h == c) = false := by simpa using hd
                      go_wp2_with (first | (go_at_call 56; refine (size_any _ _ (by omega) (by omega)).mono ?_; rintro e w' ⟨rfl, rfl⟩) | (go_at_call 51; refine (HC.out _ _ _ (HRA.out.keep hB) (HRB.out.keep hB)).mono ?_; rintro e w' ⟨rfl, rfl⟩) | (go_at_call 52; refine (HNC.out _).mono ?_; rintro e w' ⟨rfl, rfl⟩))
                      go_roundg 0
                      case rel => exact ⟨hP2, hB, ⟨Ev.adv z y n m k most (b, c) s2, by rw [HA.out, HS.out], by rw [HA.out, HS.out], .inr (.inr ⟨rfl, rfl, by rw [HSQ.out, HBC.out]⟩)⟩⟩
                      case measure => omega
            · go_wp2_with fail
              go_roundg (m - (j + 1))
              case rel => exact ⟨j + 1, by omega, rfl, by go_num, by rw [HO2.out], by rw [HO2.out], hB⟩
              case measure => omega
        · obtain rfl : j = m := by omega
          go_wp2_with fail
          go_roundg (n - (i + 1))
          case rel => exact ⟨i + 1, by omega, rfl, by go_num, by rw [HO.out], by rw [HO.out], hB⟩
          case measure => omega
    · obtain rfl : i = n := by omega
      go_wp2_with fail
      go_ret2
      exact ⟨rfl, hB⟩
set_option maxRecDepth 100000 in
set_option maxHeartbeats 2000000 in
theorem whenAligns_walk (a : Option Addr) (n ca : Nat) (z : Nat → Int) (a2 : Option Addr) (m cb : Nat) (y : Nat → Int) (k : Int) (w : World) (hra : Row w a n (fun i => .int .i64 (z i))) (hrb : Row w a2 m (fun i => .int .i64 (y i))) (most : Int) (hn : n ≤ 9223372036854775807) (hm : m ≤ 9223372036854775807) :
    Calls Try.prog 5 #[.slice a n ca, .slice a2 m cb, .int .i64 k, .int .i64 most] w fun e w' => e = .returned (.bool true) ∧ Below w.heap.size w w' := by
  have HE := Lib.hid (fun W hA hB => alignError_is a n ca z a2 m cb y k W hA hB most hn hm)
  have HRA := Lib.hid hra; have HRB := Lib.hid hrb
  by_cases he : Ev.err z y n m k = 0
  · rw [if_pos he] at HE
    by_cases hmo : Ev.mom most = true
    · rw [if_pos hmo] at HE
      have HG := Lib.hid (align_ok a n ca z a2 m cb y k w hra hrb most he hmo)
      have HF := Lib.hid (fun W hA hB => aligned_is a n ca z a2 m cb y k W hA hB most he hmo)
      generalize Ev.out z y n m k most n = st at HG HF
      clear he hmo hra hrb
      go_enter Try.func5, Try.ntmps5
      go_wp2_with (first | (go_at_call 17; refine HG.out.mono ?_; rintro e w1 ⟨rfl, hB⟩) | (go_at_call 18; refine (HE.out _ (HRA.out.keep hB) (HRB.out.keep hB)).mono ?_; rintro e w2 ⟨rfl, hB2⟩; have hB := below_up hB hB2) | (go_at_call 19; refine (HF.out _ (HRA.out.keep hB) (HRB.out.keep hB)).mono ?_; rintro e w3 ⟨rfl, hB3⟩; have hB := below_up hB hB3))
      go_ret
      exact ⟨ret_bool (by simp), hB⟩
    · rw [if_neg hmo] at HE
      have hmo' : Ev.mom most = false := by simpa using hmo
      have HG := Lib.hid (align_most a n ca z a2 m cb y k w hra hrb most he hmo')
      clear he hmo hmo' hra hrb
      go_enter Try.func5, Try.ntmps5
      go_wp2_with (first | (go_at_call 17; refine HG.out.mono ?_; rintro e w1 ⟨rfl, hB⟩) | (go_at_call 18; refine (HE.out _ (HRA.out.keep hB) (HRB.out.keep hB)).mono ?_; rintro e w2 ⟨rfl, hB2⟩; have hB := below_up hB hB2))
      go_ret
      exact ⟨ret_bool (by simp), hB⟩
  · rw [if_neg he] at HE
    obtain ⟨q, hq⟩ : ∃ q, Ev.err z y n m k = q := ⟨_, rfl⟩
    have HG := Lib.hid (align_err a n ca z a2 m cb y k w hra hrb most hn hm q hq (by rw [← hq]; exact he))
    rw [hq] at HE he
    have he' : (q == 0) = false := by simpa using he
    clear hq hra hrb he
    go_enter Try.func5, Try.ntmps5
    go_wp2_with (first | (go_at_call 17; refine HG.out.mono ?_; rintro e w1 ⟨rfl, hB⟩) | (go_at_call 18; refine (HE.out _ (HRA.out.keep hB) (HRB.out.keep hB)).mono ?_; rintro e w2 ⟨rfl, hB2⟩; have hB := below_up hB hB2))
    go_ret
    exact ⟨ret_bool (by simp), hB⟩
end Go.Proofs.Ytdhfhcpgjokhlaa
