/- The contracts of hits: the program's (with a closure) and the reference's. -/
import Derived.Test.YtdhfhcpgjokhlaaEvents
namespace Go.Proofs.Ytdhfhcpgjokhlaa
open Go.RowKit Go.Sort Go.Shelf
set_option linter.unusedVariables false
theorem hits1_is (x s y k : Int) (a1 a2 a3 : Addr) (w : World) (c1 : w.cell? a1 = some (.int .i64 s)) (c2 : w.cell? a2 = some (.int .i64 y)) (c3 : w.cell? a3 = some (.int .i64 k))
    (hx : 0 ≤ x ∧ x ≤ 6311433599) (hs : -1000000000000 ≤ s ∧ s ≤ 1000000000000) (hy : 0 ≤ y ∧ y ≤ 6311433599) (hk : 0 ≤ k ∧ k ≤ 86400) :
    Calls Try.prog 78 #[.int .i64 x, .pointer (some a1), .pointer (some a2), .pointer (some a3)] w fun e w' => e = .returned (.bool (Ev.meets x s y k)) ∧ w = w' := by
  cases hm : Ev.meets x s y k
  · have hm' := (Ev.meets_no x s y k).1 hm
    have H := Lib.hid (fun W => outside_yes (x + s - y) (-k) k W hm')
    clear hm hm'
    go_enter Try.func78, Try.ntmps78
    go_wp2_with (go_at_call 42; refine (H.out _).mono ?_; rintro e w' ⟨rfl, rfl⟩)
    go_ret
    exact ⟨rfl, rfl⟩
  · have hm' := (Ev.meets_iff x s y k).1 hm
    have H := Lib.hid (fun W => outside_no (x + s - y) (-k) k W hm'.1 hm'.2)
    clear hm hm'
    go_enter Try.func78, Try.ntmps78
    go_wp2_with (go_at_call 42; refine (H.out _).mono ?_; rintro e w' ⟨rfl, rfl⟩)
    go_ret
    exact ⟨rfl, rfl⟩
theorem hits1_eg : ∀ args w, (callFunc 78 args).run Try.prog w = .ok (.enter 78 args) w := enters_of Try.func78 (by kernel_rfl) rfl
set_option maxHeartbeats 1000000 in
theorem hits_is (a : Option Addr) (n ca : Nat) (z : Nat → Int) (b : Option Addr) (m cb : Nat) (y : Nat → Int) (s k : Int) (w : World)
    (hra : Row w a n (fun i => .int .i64 (z i))) (hrb : Row w b m (fun i => .int .i64 (y i))) (hn : n ≤ 50) (hm : m ≤ 50)
    (hz : ∀ i, i < n → Ev.mom (z i) = true) (hy : ∀ i, i < m → Ev.mom (y i) = true) (hs : -1000000000000 ≤ s ∧ s ≤ 1000000000000) (hk : 0 ≤ k ∧ k ≤ 86400) :
    Calls Try.prog 48 #[.slice a n ca, .slice b m cb, .int .i64 s, .int .i64 k] w fun e w' => e = .returned (.int .i64 (Ev.hits z y n s k m)) ∧ Below w.heap.size w w' := by
  obtain ⟨W1, hW1, hP1, hz1, hb1⟩ := box w #[.int .i64 s] 3
  obtain ⟨W2, hW2, hP2, hz2, hb2⟩ := box W1 #[.int .i64 k] 3
  have hP1 := hP1.keep hb2
  rw [hz1] at hP2
  have hB := below_up hb1 hb2
  have HW1 := Lib.hid hW1; have HW2 := Lib.hid hW2
  have HZ := Lib.hid hz; have HY := Lib.hid hy
  have HX := Lib.hid hz1
  clear hW1 hW2 hb1 hb2 hz1 hz2 hz hy
  go_enter Try.func48, Try.ntmps48
  go_wp2_with fail
  rw [HW1.out, HW2.out]
  go_loopw [9, 14] (fun c i wr => ∃ j : Nat, j ≤ m ∧ i = .int .i64 j ∧ c = .int .i64 (Ev.hits z y n s k j) ∧ Blk wr w.heap.size #[.int .i64 s] 3 ∧ Blk wr (w.heap.size + 1) #[.int .i64 k] 3 ∧ Below w.heap.size w wr) (fun _ i _ => m - (intOf i).toNat)
  case atStart => exact ⟨0, by omega, rfl, rfl, hP1, hP2, hB⟩
  case round =>
    obtain ⟨j, hj, rfl, rfl, hP1, hP2, hB⟩ := hrel
    have hbd := Ev.hits_bd z y n s k j
    by_cases hlt : j < m
    · obtain ⟨b', off, rfl, hbl, hcell⟩ := (hrb.keep hB) (by omega)
      have hcx := hcell j hlt
      clear hcell
      have HC : Hid (∀ i, i < n → Calls Try.prog 78 (#[.int .i64 (z i)] ++ #[.pointer (some ⟨w.heap.size, 0, none⟩), .pointer (some ⟨wr.heap.size, 0, none⟩), .pointer (some ⟨w.heap.size + 1, 0, none⟩)]) (wr.alloc (.cells #[.int .i64 (y j)] 3)) fun e w' => e = .returned (.bool (Ev.meets (z i) s (y j) k)) ∧ (wr.alloc (.cells #[.int .i64 (y j)] 3)) = w') :=
        fun i hi => hits1_is (z i) s (y j) k _ _ _ _ (hP1.alloc _).one (Blk.new _ _ _).one (hP2.alloc _).one (Ev.moments_bd HZ.out i hi) hs (Ev.moments_bd HY.out j hlt) hk
      have HR := Lib.hid ((hra.keep hB).keep (below_allocs (Below.refl _ wr) (.cells #[.int .i64 (y j)] 3)))
      have hB' := below_allocs hB (.cells #[.int .i64 (y j)] 3)
      have hP1' := hP1.alloc (.cells #[.int .i64 (y j)] 3)
      have hP2' := hP2.alloc (.cells #[.int .i64 (y j)] 3)
      cases hv : Ev.near z n s (y j) k
      · have HV := Lib.hid hv; clear hv
        have HN := Lib.hid (Ev.hits_no HV.out)
        go_wp2_with (go_at_call 67; refine (containsFunc_any _ _ (fun x => Ev.meets x s (y j) k) hits1_eg _ _ _ z _ (by omega) HR.out HC.out).mono ?_; rintro e w' ⟨rfl, rfl⟩; rw [show Ev.anyB (fun x => Ev.meets x s (y j) k) z n = Ev.near z n s (y j) k from rfl, HV.out])
        go_roundw
        case rel => exact ⟨j + 1, by omega, by go_num, by rw [HN.out], hP1', hP2', hB'⟩
        case measure => simp [intOf]; omega
      · have HV := Lib.hid hv; clear hv
        have HN := Lib.hid (Ev.hits_yes HV.out)
        go_wp2_with (go_at_call 67; refine (containsFunc_any _ _ (fun x => Ev.meets x s (y j) k) hits1_eg _ _ _ z _ (by omega) HR.out HC.out).mono ?_; rintro e w' ⟨rfl, rfl⟩; rw [show Ev.anyB (fun x => Ev.meets x s (y j) k) z n = Ev.near z n s (y j) k from rfl, HV.out])
        go_roundw
        case rel => exact ⟨j + 1, by omega, by go_num, by rw [HN.out], hP1', hP2', hB'⟩
        case measure => simp [intOf]; omega
    · obtain rfl : j = m := by omega
      go_wp2_with fail
      go_ret
      exact ⟨rfl, hB⟩
theorem meets_abs_yes {x s y k : Int} (h : Ev.meets x s y k = true) : Ev.abs (x + s - y) ≤ k := by have := (Ev.meets_iff _ _ _ _).1 h; unfold Ev.abs; omega
theorem meets_abs_no {x s y k : Int} (h : Ev.meets x s y k = false) : k < Ev.abs (x + s - y) := by have := (Ev.meets_no _ _ _ _).1 h; unfold Ev.abs; omega
set_option maxHeartbeats 1000000 in
theorem hitsR_is (a : Option Addr) (n ca : Nat) (z : Nat → Int) (b : Option Addr) (m cb : Nat) (y : Nat → Int) (s k : Int) (w : World)
    (hra : Row w a n (fun i => .int .i64 (z i))) (hrb : Row w b m (fun i => .int .i64 (y i))) (hn : n ≤ 50) (hm : m ≤ 50)
    (hz : ∀ i, i < n → Ev.mom (z i) = true) (hy : ∀ i, i < m → Ev.mom (y i) = true) (hs : -1000000000000 ≤ s ∧ s ≤ 1000000000000) (hk : 0 ≤ k ∧ k ≤ 86400) :
    Calls Try.prog 51 #[.slice a n ca, .slice b m cb, .int .i64 s, .int .i64 k] w fun e w' => e = .returned (.int .i64 (Ev.hits z y n s k m)) ∧ w = w' := by
  have HZ := Lib.hid hz; have HY := Lib.hid hy
  clear hz hy
  go_enter Try.func51, Try.ntmps51
  go_wp2_with fail
  go_loopg [9, 16] m (fun gk c i wr => ∃ j : Nat, j ≤ m ∧ gk = m - j ∧ i = .int .i64 j ∧ c = .int .i64 (Ev.hits z y n s k j) ∧ w = wr)
  case atStart => exact ⟨0, by omega, rfl, rfl, rfl, rfl⟩
  case round =>
    obtain ⟨j, hj, rfl, rfl, rfl, rfl⟩ := hrel
    have hbd := Ev.hits_bd z y n s k j
    by_cases hlt : j < m
    · obtain ⟨b', off, rfl, hbl, hcell⟩ := hrb (by omega)
      have hcx := hcell j hlt
      have hyj := Ev.moments_bd HY.out j hlt
      clear hcell
      go_wp2_with fail
      go_loopg [9, 22] n (fun gk c i wr => ∃ l : Nat, l ≤ n ∧ gk = n - l ∧ i = .int .i64 l ∧ c = .int .i64 (Ev.hits z y n s k j) ∧ w = wr ∧ ∀ t, t < l → Ev.meets (z t) s (y j) k = false)
      case atStart => exact ⟨0, by omega, rfl, rfl, rfl, rfl, fun t ht => by omega⟩
      case round =>
        obtain ⟨l, hl, rfl, rfl, rfl, rfl, hno⟩ := hrel
        have HNO := Lib.hid hno; clear hno
        by_cases hlt2 : l < n
        · obtain ⟨a', off', rfl, hal, hcella⟩ := hra (by omega)
          have hca := hcella l hlt2
          have hzl := Ev.moments_bd HZ.out l hlt2
          clear hcella
          cases hv : Ev.meets (z l) s (y j) k
          · have HV := Lib.hid hv
            have hab := meets_abs_no hv; clear hv
            go_wp2_with (go_at_call 56; refine (size_any _ _ (by omega) (by omega)).mono ?_; rintro e w' ⟨rfl, rfl⟩)
            go_roundg (n - (l + 1))
            case rel => exact ⟨l + 1, by omega, rfl, by go_num, rfl, rfl, fun t ht => by (by_cases e : t = l); exact e ▸ HV.out; exact HNO.out t (by omega)⟩
            case measure => omega
          · have HV := Lib.hid hv
            have hab := meets_abs_yes hv; clear hv
            go_wp2_with (go_at_call 56; refine (size_any _ _ (by omega) (by omega)).mono ?_; rintro e w' ⟨rfl, rfl⟩)
            go_roundg (m - (j + 1))
            case rel => exact ⟨j + 1, by omega, rfl, by go_num, by rw [Ev.hits_yes (Ev.near_yes l hlt2 HV.out)], rfl⟩
            case measure => omega
        · obtain rfl : l = n := by omega
          go_wp2_with fail
          go_roundg (m - (j + 1))
          case rel => exact ⟨j + 1, by omega, rfl, by go_num, by rw [Ev.hits_no (Ev.near_no HNO.out)], rfl⟩
          case measure => omega
    · obtain rfl : j = m := by omega
      go_wp2_with fail
      go_ret
      exact ⟨rfl, rfl⟩
end Go.Proofs.Ytdhfhcpgjokhlaa
