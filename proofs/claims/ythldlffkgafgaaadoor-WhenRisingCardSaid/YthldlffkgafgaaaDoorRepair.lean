/- repaired and the reference's Meant: what a clock meant. -/
import Derived.Test.YthldlffkgafgaaaDoorClock
import Derived.BigRegion
namespace Go.Proofs.YthldlffkgafgaaaDoor
open Go.RowKit Go.Sort Go.Shelf
set_option linter.unusedVariables false
set_option maxHeartbeats 1000000 in
theorem repaired1_is (n ca : Nat) (S T : Nat → Int) (a : Option Addr) (s : Int) (i : Nat) (hi : i < n) (p1 p2 : Addr) (w : World) (c1 : w.cell? p1 = some (.slice a n ca)) (c2 : w.cell? p2 = some (.int .i64 s))
    (hr : Row2 w a n (fun i => .int .i64 (S i)) (fun i => .int .i64 (T i))) (hn : n ≤ 100) :
    Calls Tryd.prog 74 #[.int .i64 i, .pointer (some p1), .pointer (some p2)] w fun e w' => e = .returned (.bool (decide (s < S i))) ∧ Below w.heap.size w w' := by
  obtain ⟨b, off, rfl, hb, hcell⟩ := hr (by omega)
  obtain ⟨d0, d1⟩ := hcell i hi
  have h0 : (0 : Int) ≤ (i : Int) := by omega
  have h1 : (i : Int) < (n : Int) := by omega
  clear hcell hr
  go_enter Tryd.func74, Tryd.ntmps74
  go_wp2_with fail
  go_quiet (fail)
  go_wp2_with fail
  go_ret
  exact ⟨rfl, below_drewN (Below.refl _ _) _⟩
theorem repaired1_eg : ∀ args w, (callFunc 74 args).run Tryd.prog w = .ok (.enter 74 args) w := enters_of Tryd.func74 (by kernel_rfl) rfl
set_option maxRecDepth 100000 in
set_option maxHeartbeats 2000000 in
theorem repaired_is (a : Option Addr) (n ca : Nat) (S T : Nat → Int) (w : World) (hr : Row2 w a n (fun i => .int .i64 (S i)) (fun i => .int .i64 (T i))) (s : Int) (hs : 0 ≤ s ∧ s ≤ 6311433599) (hR : Ck.Right S T n) :
    Calls Tryd.prog 44 #[.slice a n ca, .int .i64 s] w fun e w' => e = .returned (.int .i64 (Ck.rep S T n s)) ∧ Below w.heap.size w w' := by
  have hn := hR.few
  have hp := hR.pos
  obtain ⟨W1, hW1, hP1, hz1, hb1⟩ := box w #[.slice a n ca] 27
  obtain ⟨W2, hW2, hP2, hz2, hb2⟩ := box W1 #[.int .i64 s] 3
  have hP1 := hP1.keep hb2
  rw [hz1] at hP2
  have hB := below_up hb1 hb2
  have HW1 := Lib.hid hW1; have HW2 := Lib.hid hW2
  have hr2 := hr.keep hB
  clear hW1 hW2 hb1 hb2 hz1 hz2 hr
  have HI : Hid (∀ i W, 0 ≤ i → i < (n : Int) → Below W2.heap.size W2 W → Calls Tryd.prog 74 (#[.int .i64 i] ++ #[.pointer (some ⟨w.heap.size, 0, none⟩), .pointer (some ⟨w.heap.size + 1, 0, none⟩)]) W fun e w' => e = .returned (.bool (decide (s < S i.toNat))) ∧ Below W.heap.size W w') := by
    intro i W h0 h1 hbW
    obtain ⟨k, rfl⟩ := Int.eq_ofNat_of_zero_le h0
    rw [Int.toNat_natCast]
    exact repaired1_is n ca S T a s k (by omega) _ _ W (hP1.keep hbW).one (hP2.keep hbW).one (hr2.keep hbW) hn
  obtain ⟨k, hk⟩ : ∃ k, Ck.idx S s n = k := ⟨_, rfl⟩
  have hkn := Ck.idx_le S s n
  have hlo := Ck.idx_lo hR s n (Nat.le_refl _)
  have hhi := Ck.idx_hi S s n
  rw [hk] at hkn hlo hhi
  have HRep : Hid (Ck.rep S T n s = Ck.at_ S T n s k) := by show Ck.rep S T n s = _; unfold Ck.rep; rw [hk]
  have HS := Lib.hid (search_any 74 #[.pointer (some ⟨w.heap.size, 0, none⟩), .pointer (some ⟨w.heap.size + 1, 0, none⟩)] (fun x => decide (s < S x.toNat)) repaired1_eg n k W2 (by omega) (by omega) (by omega)
    (fun i h0 h1 => by have := hlo i.toNat (by omega); simp; omega) (fun i h0 h1 => by have := hhi i.toNat (by omega) (by omega); simp; omega) HI.out)
  clear hk HI
  have c1 := hP1.one
  have hlt1 := hP1.lt
  by_cases k0 : k = 0
  · have k0' : ((k : Int) == 0) = true := by simpa using k0
    have HK := Lib.hid k0; clear k0 hlo hhi
    go_enter Tryd.func44, Tryd.ntmps44
    go_wp2_with fail
    rw [HW1.out, HW2.out]
    go_wp2_with (go_at_call 45; refine HS.out.mono ?_; rintro e w3 ⟨rfl, hB3⟩; have hP1 := hP1.keep hB3; have hP2 := hP2.keep hB3; have c1 := hP1.one; have c2 := hP2.one; have hr3 := hr2.keep hB3)
    obtain ⟨b, off, rfl, hb, hcell⟩ := hr3 (by omega)
    obtain ⟨d0, d1⟩ := hcell 0 (by omega)
    rw [Nat.zero_mul, Nat.add_zero] at d0 d1
    have hpn : (0 : Int) < (n : Int) := by omega
    have hm0 := hR.mom 0 (by omega)
    clear hcell
    go_quiet (fail)
    go_wp2_with fail
    go_ret
    exact ⟨ret_int (by rw [HRep.out, Ck.at_, if_pos HK.out]), below_drewN (below_up hB hB3) _⟩
  · have k0' : ((k : Int) == 0) = false := by simpa using k0
    have k1 : (0 : Int) ≤ (k : Int) - 1 := by omega
    have k2 : (k : Int) - 1 < (n : Int) := by omega
    have hm0 := hR.mom (k - 1) (by omega)
    by_cases kn : k = n
    · have kn' : ((k : Int) == (n : Int)) = true := by simp; omega
      have HK := Lib.hid kn; clear kn hlo hhi
      go_enter Tryd.func44, Tryd.ntmps44
      go_wp2_with fail
      rw [HW1.out, HW2.out]
      go_wp2_with (go_at_call 45; refine HS.out.mono ?_; rintro e w3 ⟨rfl, hB3⟩; have hP1 := hP1.keep hB3; have hP2 := hP2.keep hB3; have c1 := hP1.one; have c2 := hP2.one; have hr3 := hr2.keep hB3)
      obtain ⟨b, off, rfl, hb, hcell⟩ := hr3 (by omega)
      obtain ⟨d0, d1⟩ := hcell (k - 1) (by omega)
      clear hcell
      go_quiet (fail)
      go_wp2_with fail
      go_ret
      exact ⟨ret_int (by rw [HRep.out, Ck.at_, if_neg k0, if_pos HK.out, HK.out]), below_drewN (below_up hB hB3) _⟩
    · have kn' : ((k : Int) == (n : Int)) = false := by simp; omega
      have k3 : (k : Int) < (n : Int) := by omega
      have hm1 := hR.mom k (by omega)
      have hss : S (k - 1) ≤ s ∧ s < S k := ⟨hlo (k - 1) (by omega), hhi k (Nat.le_refl _) (by omega)⟩
      clear hlo hhi
      have hup := hR.up (k - 1) (by omega)
      rw [show k - 1 + 1 = k by omega] at hup
      go_enter Tryd.func44, Tryd.ntmps44
      go_wp2_with fail
      rw [HW1.out, HW2.out]
      go_wp2_with (go_at_call 45; refine HS.out.mono ?_; rintro e w3 ⟨rfl, hB3⟩; have hP1 := hP1.keep hB3; have hP2 := hP2.keep hB3; have c1 := hP1.one; have c2 := hP2.one; have hr3 := hr2.keep hB3)
      obtain ⟨b, off, rfl, hb, hcell⟩ := hr3 (by omega)
      obtain ⟨d0, d1⟩ := hcell (k - 1) (by omega)
      obtain ⟨e0, e1⟩ := hcell k (by omega)
      clear hcell
      have f1 := fun o1 o2 => ((hP1.alloc o1).alloc o2).one
      have g1 := fun o1 => (hP1.alloc o1).one
      have f2 := fun o1 o2 => ((hP2.alloc o1).alloc o2).one
      have dd := fun (o1 : Obj) => And.intro ((World.cell?_alloc_lt w3 o1 ⟨b, off + (k - 1) * 2, none⟩ hb).trans d0) ((World.cell?_alloc_lt w3 o1 ⟨b, off + (k - 1) * 2 + 1, none⟩ hb).trans d1)
      have ee := fun (o1 : Obj) => And.intro ((World.cell?_alloc_lt w3 o1 ⟨b, off + k * 2, none⟩ hb).trans e0) ((World.cell?_alloc_lt w3 o1 ⟨b, off + k * 2 + 1, none⟩ hb).trans e1)
      have hb' : ∀ o1, b < (w3.alloc o1).heap.size := fun o1 => by simp; omega
      have dd2 := fun (o1 o2 : Obj) => And.intro ((World.cell?_alloc_lt (w3.alloc o1) o2 ⟨b, off + (k - 1) * 2, none⟩ (hb' o1)).trans (dd o1).1) ((World.cell?_alloc_lt (w3.alloc o1) o2 ⟨b, off + (k - 1) * 2 + 1, none⟩ (hb' o1)).trans (dd o1).2)
      have ee2 := fun (o1 o2 : Obj) => And.intro ((World.cell?_alloc_lt (w3.alloc o1) o2 ⟨b, off + k * 2, none⟩ (hb' o1)).trans (ee o1).1) ((World.cell?_alloc_lt (w3.alloc o1) o2 ⟨b, off + k * 2 + 1, none⟩ (hb' o1)).trans (ee o1).2)
      clear hb'
      have hx0 : 0 ≤ s - S (k - 1) ∧ s - S (k - 1) < S k - S (k - 1) := by omega
      have pb := Ck.part_bd (s - S (k - 1)) (T k - T (k - 1)) (S k - S (k - 1)) hx0.1 hx0.2 (by omega)
      have pm0 : 0 ≤ (s - S (k - 1)) * (T k - T (k - 1)) := Int.mul_nonneg hx0.1 (by omega)
      have pm1 : (s - S (k - 1)) * (T k - T (k - 1)) ≤ 1000000000 * 1000000000 := Int.mul_le_mul (by omega) (by omega) (by omega) (by omega)
      have pm1 : (s - S (k - 1)) * (T k - T (k - 1)) ≤ 1000000000000000000 := by omega
      go_region
      all_goals
        go_wp2_with fail
        go_quiet (fail)
        go_wp2_with fail
        go_ret
        exact ⟨ret_int (by rw [HRep.out, Ck.at_, if_neg k0, if_neg kn]), below_drewN (Below.drew (below_allocs (below_allocs (below_up hB hB3) _) _)) _⟩
end Go.Proofs.YthldlffkgafgaaaDoor
