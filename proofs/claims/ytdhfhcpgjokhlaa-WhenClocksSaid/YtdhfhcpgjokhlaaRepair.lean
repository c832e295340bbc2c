/- repaired and the reference's Meant: what a clock meant. -/
import Derived.Test.YtdhfhcpgjokhlaaClock
import Derived.BigRegion
namespace Go.Proofs.Ytdhfhcpgjokhlaa
open Go.RowKit Go.Sort Go.Shelf
set_option linter.unusedVariables false
set_option maxHeartbeats 1000000 in
theorem repaired1_is (n ca : Nat) (S T : Nat → Int) (a : Option Addr) (s : Int) (i : Nat) (hi : i < n) (p1 p2 : Addr) (w : World) (c1 : w.cell? p1 = some (.slice a n ca)) (c2 : w.cell? p2 = some (.int .i64 s))
    (hr : Row2 w a n (fun i => .int .i64 (S i)) (fun i => .int .i64 (T i))) (hn : n ≤ 100) :
    Calls Try.prog 79 #[.int .i64 i, .pointer (some p1), .pointer (some p2)] w fun e w' => e = .returned (.bool (decide (s < S i))) ∧ Below w.heap.size w w' := by
  obtain ⟨b, off, rfl, hb, hcell⟩ := hr (by omega)
  obtain ⟨d0, d1⟩ := hcell i hi
  have h0 : (0 : Int) ≤ (i : Int) := by omega
  have h1 : (i : Int) < (n : Int) := by omega
  clear hcell hr
  go_enter Try.func79, Try.ntmps79
  go_wp2_with fail
  go_quiet (fail)
  go_wp2_with fail
  go_ret
  exact ⟨rfl, below_drewN (Below.refl _ _) _⟩
theorem repaired1_eg : ∀ args w, (callFunc 79 args).run Try.prog w = .ok (.enter 79 args) w := enters_of Try.func79 (by kernel_rfl) rfl
set_option maxRecDepth 100000 in
set_option maxHeartbeats 2000000 in
theorem repaired_is (a : Option Addr) (n ca : Nat) (S T : Nat → Int) (w : World) (hr : Row2 w a n (fun i => .int .i64 (S i)) (fun i => .int .i64 (T i))) (s : Int) (hs : 0 ≤ s ∧ s ≤ 6311433599) (hR : Ck.Right S T n) :
    Calls Try.prog 58 #[.slice a n ca, .int .i64 s] w fun e w' => e = .returned (.int .i64 (Ck.rep S T n s)) ∧ Below w.heap.size w w' := by
  have hn := hR.few
  have hp := hR.pos
  obtain ⟨W1, hW1, hP1, hz1, hb1⟩ := box w #[.slice a n ca] 45
  obtain ⟨W2, hW2, hP2, hz2, hb2⟩ := box W1 #[.int .i64 s] 3
  have hP1 := hP1.keep hb2
  rw [hz1] at hP2
  have hB := below_up hb1 hb2
  have HW1 := Lib.hid hW1; have HW2 := Lib.hid hW2
  have hr2 := hr.keep hB
  clear hW1 hW2 hb1 hb2 hz1 hz2 hr
  have HI : Hid (∀ i W, 0 ≤ i → i < (n : Int) → Below W2.heap.size W2 W → Calls Try.prog 79 (#[.int .i64 i] ++ #[.pointer (some ⟨w.heap.size, 0, none⟩), .pointer (some ⟨w.heap.size + 1, 0, none⟩)]) W fun e w' => e = .returned (.bool (decide (s < S i.toNat))) ∧ Below W.heap.size W w') := by
    intro i W h0 h1 hbW
    obtain ⟨k, rfl⟩ := Int.eq_ofNat_of_zero_le h0
    rw [Int.toNat_natCast]
    exact repaired1_is n ca S T a s k (by omega) _ _ W (hP1.keep hbW).one (hP2.keep hbW).one (hr2.keep hbW) hn
  obtain ⟨k, hk⟩ : ∃ k, Ck.idx S s n = k := ⟨_, rfl⟩
  have hkn := Ck.idx_le S s n
  have hlo := Ck.idx_lo hR s n (Nat.le_refl _)
  have hhi := Ck.idx_hi S s n
  rw [hk] at hkn hlo hhi
  have HRep : Hid (Ck.rep S T n s = Ck.at_ S T n s k) := by show Ck.rep S T n s = _; unfold Ck.rep; rw [hk]
  have HS := Lib.hid (search_any 79 #[.pointer (some ⟨w.heap.size, 0, none⟩), .pointer (some ⟨w.heap.size + 1, 0, none⟩)] (fun x => decide (s < S x.toNat)) repaired1_eg n k W2 (by omega) (by omega) (by omega)
    (fun i h0 h1 => by have := hlo i.toNat (by omega); simp; omega) (fun i h0 h1 => by have := hhi i.toNat (by omega) (by omega); simp; omega) HI.out)
  clear hk HI
  have c1 := hP1.one
  have hlt1 := hP1.lt
  by_cases k0 : k = 0
  · have k0' : ((k : Int) == 0) = true := by simpa using k0
    have HK := Lib.hid k0; clear k0 hlo hhi
    go_enter Try.func58, Try.ntmps58
    go_wp2_with fail
    rw [HW1.out, HW2.out]
    go_wp2_with (go_at_call 59; refine HS.out.mono ?_; rintro e w3 ⟨rfl, hB3⟩; have hP1 := hP1.keep hB3; have hP2 := hP2.keep hB3; have c1 := hP1.one; have c2 := hP2.one; have hr3 := hr2.keep hB3)
    obtain ⟨b, off, rfl, hb, hcell⟩ := hr3 (by omega)
    obtain ⟨d0, d1⟩ := hcell 0 (by omega)
    rw [Nat.zero_mul, Nat.add_zero] at d0 d1
    have hpn : (0 : Int) < (n : Int) := by omega
    have hm0 := hR.mom 0 (by omega)
    clear hcell
    go_quiet (fail)
    go_wp2_with fail
    go_ret
    exact ⟨ret_int (by rw [HRep.out, Ck.at_, if_pos HK.out]), below_drewN (below_up hB hB3) _⟩
  · have k0' : ((k : Int) == 0) = false := by simpa using k0
    have k1 : (0 : Int) ≤ (k : Int) - 1 := by omega
    have k2 : (k : Int) - 1 < (n : Int) := by omega
    have hm0 := hR.mom (k - 1) (by omega)
    by_cases kn : k = n
    · have kn' : ((k : Int) == (n : Int)) = true := by simp; omega
      have HK := Lib.hid kn; clear kn hlo hhi
      go_enter Try.func58, Try.ntmps58
      go_wp2_with fail
      rw [HW1.out, HW2.out]
      go_wp2_with (go_at_call 59; refine HS.out.mono ?_; rintro e w3 ⟨rfl, hB3⟩; have hP1 := hP1.keep hB3; have hP2 := hP2.keep hB3; have c1 := hP1.one; have c2 := hP2.one; have hr3 := hr2.keep hB3)
      obtain ⟨b, off, rfl, hb, hcell⟩ := hr3 (by omega)
      obtain ⟨d0, d1⟩ := hcell (k - 1) (by omega)
      clear hcell
      go_quiet (fail)
      go_wp2_with fail
      go_ret
      exact ⟨ret_int (by rw [HRep.out, Ck.at_, if_neg k0, if_pos HK.out, HK.out]), below_drewN (below_up hB hB3) _⟩
    · have kn' : ((k : Int) == (n : Int)) = false := by simp; omega
      have k3 : (k : Int) < (n : Int) := by omega
      have hm1 := hR.mom k (by omega)
      have hss : S (k - 1) ≤ s ∧ s < S k := ⟨hlo (k - 1) (by omega), hhi k (Nat.le_refl _) (by omega)⟩
      clear hlo hhi
      have hup := hR.up (k - 1) (by omega)
      rw [show k - 1 + 1 = k by omega] at hup
      go_enter Try.func58, Try.ntmps58
      go_wp2_with fail
      rw [HW1.out, HW2.out]
      go_wp2_with (go_at_call 59; refine HS.out.mono ?_; rintro e w3 ⟨rfl, hB3⟩; have hP1 := hP1.keep hB3; have hP2 := hP2.keep hB3; have c1 := hP1.one; have c2 := hP2.one; have hr3 := hr2.keep hB3)
      obtain ⟨b, off, rfl, hb, hcell⟩ := hr3 (by omega)
      obtain ⟨d0, d1⟩ := hcell (k - 1) (by omega)
      obtain ⟨e0, e1⟩ := hcell k (by omega)
      clear hcell
      have f1 := fun o1 o2 => ((hP1.alloc o1).alloc o2).one
      have g1 := fun o1 => (hP1.alloc o1).one
      have f2 := fun o1 o2 => ((hP2.alloc o1).alloc o2).one
      have dd := fun (o1 : Obj) => And.intro ((World.cell?_alloc_lt w3 o1 ⟨b, off + (k - 1) * 2, none⟩ hb).trans d0) ((World.cell?_alloc_lt w3 o1 ⟨b, off + (k - 1) * 2 + 1, none⟩ hb).trans d1)
      have ee := fun (o1 : Obj) => And.intro ((World.cell?_alloc_lt w3 o1 ⟨b, off + k * 2, none⟩ hb).trans e0) ((World.cell?_alloc_lt w3 o1 ⟨b, off + k * 2 + 1, none⟩ hb).trans e1)
      have hb' : ∀ o1, b < (w3.alloc o1).heap.size := fun o1 => by simp; omega
      have dd2 := fun (o1 o2 : Obj) => And.intro ((World.cell?_alloc_lt (w3.alloc o1) o2 ⟨b, off + (k - 1) * 2, none⟩ (hb' o1)).trans (dd o1).1) ((World.cell?_alloc_lt (w3.alloc o1) o2 ⟨b, off + (k - 1) * 2 + 1, none⟩ (hb' o1)).trans (dd o1).2)
      have ee2 := fun (o1 o2 : Obj) => And.intro ((World.cell?_alloc_lt (w3.alloc o1) o2 ⟨b, off + k * 2, none⟩ (hb' o1)).trans (ee o1).1) ((World.cell?_alloc_lt (w3.alloc o1) o2 ⟨b, off + k * 2 + 1, none⟩ (hb' o1)).trans (ee o1).2)
      clear hb'
      have hx0 : 0 ≤ s - S (k - 1) ∧ s - S (k - 1) < S k - S (k - 1) := by omega
      have pb := Ck.part_bd (s - S (k - 1)) (T k - T (k - 1)) (S k - S (k - 1)) hx0.1 hx0.2 (by omega)
      have pm0 : 0 ≤ (s - S (k - 1)) * (T k - T (k - 1)) := Int.mul_nonneg hx0.1 (by omega)
      have pm1 : (s - S (k - 1)) * (T k - T (k - 1)) ≤ 1000000000 * 1000000000 := Int.mul_le_mul (by omega) (by omega) (by omega) (by omega)
      have pm1 : (s - S (k - 1)) * (T k - T (k - 1)) ≤ 1000000000000000000 := by omega
      go_region
      all_goals
        go_wp2_with fail
        go_quiet (fail)
        go_wp2_with fail
        go_ret
        exact ⟨ret_int (by rw [HRep.out, Ck.at_, if_neg k0, if_neg kn]), below_drewN (Below.drew (below_allocs (below_allocs (below_up hB hB3) _) _)) _⟩
set_option maxRecDepth 100000 in
set_option maxHeartbeats 2000000 in
theorem meant_is (a : Option Addr) (n ca : Nat) (S T : Nat → Int) (w : World) (hr : Row2 w a n (fun i => .int .i64 (S i)) (fun i => .int .i64 (T i))) (s : Int) (hs : 0 ≤ s ∧ s ≤ 6311433599) (hR : Ck.Right S T n) :
    Calls Try.prog 24 #[.slice a n ca, .int .i64 s] w fun e w' => e = .returned (.int .i64 (Ck.rep S T n s)) ∧ Below w.heap.size w w' := by
  have hn := hR.few
  have hp := hR.pos
  obtain ⟨b, off, rfl, hb, hcell⟩ := hr (by omega)
  obtain ⟨d0, d1⟩ := hcell 0 (by omega)
  rw [Nat.zero_mul, Nat.add_zero] at d0 d1
  have hpn : (0 : Int) < (n : Int) := by omega
  have hm0 := hR.mom 0 (by omega)
  have HR := Lib.hid hr
  obtain ⟨W1, hW1, hP1, hz1, hb1⟩ := box w #[.int .i64 (S 0), .int .i64 (T 0)] 79
  have HW1 := Lib.hid hW1
  clear hW1 hcell hr hz1
  go_enter Try.func24, Try.ntmps24
  go_wp2_with fail
  rw [HW1.out]
  clear d0 d1 hb
  go_loopg [13] n (fun gk i wr => ∃ j : Nat, j ≤ n ∧ gk = n - j ∧ i = .int .i64 j ∧ Blk wr w.heap.size #[.int .i64 (S (j - 1)), .int .i64 (T (j - 1))] 79 ∧ (∀ i, i < j → S i ≤ s) ∧ Below w.heap.size w wr)
  case atStart => exact ⟨0, by omega, rfl, rfl, hP1, fun i hi => by omega, hb1⟩
  case round =>
    clear hP1 hb1
    obtain ⟨j, hj, rfl, rfl, hP, hall, hB⟩ := hrel
    have HALL := Lib.hid hall; clear hall
    have hmj := hR.mom (j - 1) (by omega)
    obtain ⟨l0, l1⟩ := hP.two
    have lf := hP.free
    by_cases hlt : j < n
    · obtain ⟨b', off', he', hb, hcell⟩ := (HR.out.keep hB) (by omega)
      cases he'
      obtain ⟨d0, d1⟩ := hcell j hlt
      have m0 := fun o => (hP.alloc o).two.1
      have m1 := fun o => (hP.alloc o).two.2
      have mf := fun o => (hP.alloc o).free
      have hm1 := hR.mom j hlt
      clear hcell
      by_cases hle : S j ≤ s
      · go_wp2_with fail
        go_roundg (n - (j + 1))
        case rel => exact ⟨j + 1, by omega, rfl, by go_num, by have := ((hP.alloc (.cells #[.int .i64 (S j), .int .i64 (T j)] 79)).set 0 (.int .i64 (S j))).set 1 (.int .i64 (T j)); simpa using this, fun i hi => by (by_cases e : i = j); exact e ▸ hle; exact HALL.out i (by omega), by first | exact ((below_allocs hB _).setCell (Nat.le_refl _) _).setCell (Nat.le_refl _) _ | skip⟩
        case measure => omega
      · by_cases hj0 : j = 0
        · have hj0' : ((j : Int) == 0) = true := by simpa using hj0
          have HJ := Lib.hid hj0; clear hj0
          go_wp2_with fail
          go_ret
          exact ⟨ret_int (by rw [Ck.rep_at hR s 0 (by omega) (by omega) (fun _ => by have := HJ.out; subst this; omega), Ck.at_, if_pos rfl, HJ.out]), below_allocs hB _⟩
        · have hj0' : ((j : Int) == 0) = false := by simpa using hj0
          have hup := hR.up (j - 1) (by omega)
          rw [show j - 1 + 1 = j by omega] at hup
          have hss : S (j - 1) ≤ s := HALL.out (j - 1) (by omega)
          have hx0 : 0 ≤ s - S (j - 1) ∧ s - S (j - 1) < S j - S (j - 1) := by omega
          have pb := Ck.part_bd (s - S (j - 1)) (T j - T (j - 1)) (S j - S (j - 1)) hx0.1 hx0.2 (by omega)
          have pm0 : 0 ≤ (s - S (j - 1)) * (T j - T (j - 1)) := Int.mul_nonneg hx0.1 (by omega)
          have pm1 : (s - S (j - 1)) * (T j - T (j - 1)) ≤ 1000000000 * 1000000000 := Int.mul_le_mul (by omega) (by omega) (by omega) (by omega)
          have pm1 : (s - S (j - 1)) * (T j - T (j - 1)) ≤ 1000000000000000000 := by omega
          go_wp2_with fail
          go_quiet (fail)
          go_wp2_with fail
          go_ret
          exact ⟨ret_int (by rw [Ck.rep_at hR s j (by omega) (fun _ => hss) (fun _ => by omega), Ck.at_, if_neg hj0, if_neg (by omega)]), below_drewN (below_allocs hB _) _⟩
    · obtain rfl : j = n := by omega
      go_wp2_with fail
      go_ret
      exact ⟨ret_int (by rw [Ck.rep_at hR s j (by omega) (fun _ => HALL.out (j - 1) (by omega)) (fun _ => by omega), Ck.at_, if_neg (by omega), if_pos rfl]), hB⟩
end Go.Proofs.Ytdhfhcpgjokhlaa
