/- The law WhenBursts, walked. -/
import Derived.Laws.StructEq
import Derived.Test.YtbbedepojogfmaaBstBurR
import Derived.Test.YtbbedepojogfmaaBstAnv
import Derived.Test.YtbbedepojogfmaaBstAvR
namespace Go.Proofs.Ytbbedepojogfmaa
open Go.RowKit Go.Sort Go.Shelf
set_option linter.unusedVariables false
theorem neStretch (a b a' b' : Int) (w : World) : Sem.run Try.prog (binOp .neq 81 (.agg #[.int .i64 a, .int .i64 b]) (.agg #[.int .i64 a', .int .i64 b'])) w = .ok (.bool (!(a == a' && b == b'))) w := by
  have u3 := Try.underlying3
  have a3 := Try.isAgg3
  have z3 := Try.sizeOf3
  have hS : Try.prog.underlying 81 = some (.struct (Try.prog.fieldsOf 81)) := by kernel_rfl
  have hp : Try.prog.stoodInHeld 81 = false := by kernel_rfl
  rw [run_neq_struct, show (10000 : Nat) = 9999 + 1 from rfl, run_equalIn_agg w 9999 81 _ _ hS hp]
  simp only [Program.fieldsOf, Try.underlying81]
  go_simp
  by_cases h1 : a = a' <;> by_cases h2 : b = b' <;> simp [h1, h2]
theorem guardStretch : Try.prog.eqGuardType Try.prog.depth 81 = false := by kernel_rfl
set_option maxRecDepth 100000 in
set_option maxHeartbeats 2000000 in
theorem eqStretch_same (a : Option Addr) (ca : Nat) (b : Option Addr) (cb : Nat) (ps : Bst.Ps) (w : World) (hx : RowP w a ps) (hy : RowP w b ps) (hps : ps.length ≤ 1000) :
    Calls Try.prog 48 #[.slice a ps.length ca, .slice b ps.length cb] w fun e w' => e = .returned (.bool true) ∧ Below w.heap.size w w' := by
  have HX := Lib.hid hx; have HY := Lib.hid hy
  clear hx hy
  obtain ⟨n, hn⟩ : ∃ n, ps.length = n := ⟨_, rfl⟩
  have HN := Lib.hid hn
  rw [hn] at hps ⊢
  clear hn
  have hl' : ((n : Int) == (n : Int)) = true := by simp
  go_enter Try.func48, Try.ntmps48
  go_wp2_with fail
  go_loopg [13] n (fun gk i wr => ∃ j : Nat, j ≤ n ∧ gk = n - j ∧ i = .int .i64 j ∧ Below w.heap.size w wr)
  case atStart => exact ⟨0, by omega, rfl, rfl, Below.refl _ _⟩
  case round =>
    obtain ⟨j, hj, rfl, rfl, hB⟩ := hrel
    by_cases hlt : j < n
    · obtain ⟨b1, o1, rfl, hb1, hc1⟩ := HX.out.keep hB (by rw [HN.out]; omega)
      obtain ⟨b2, o2, rfl, hb2, hc2⟩ := HY.out.keep hB (by rw [HN.out]; omega)
      obtain ⟨c1, c2⟩ := hc1 j (by rw [HN.out]; exact hlt)
      obtain ⟨d1, d2⟩ := hc2 j (by rw [HN.out]; exact hlt)
      have c1 : wr.cell? ⟨b1, o1 + j * 2, none⟩ = some (.int .i64 (ps[j]?.getD (0, 0)).1) := c1
      have c2 : wr.cell? ⟨b1, o1 + j * 2 + 1, none⟩ = some (.int .i64 (ps[j]?.getD (0, 0)).2) := c2
      have d1 : wr.cell? ⟨b2, o2 + j * 2, none⟩ = some (.int .i64 (ps[j]?.getD (0, 0)).1) := d1
      have d2 : wr.cell? ⟨b2, o2 + j * 2 + 1, none⟩ = some (.int .i64 (ps[j]?.getD (0, 0)).2) := d2
      clear hc1 hc2
      generalize (ps[j]?.getD (0, 0)).1 = p at *
      generalize (ps[j]?.getD (0, 0)).2 = q at *
      have hj0 : (0 : Int) ≤ (j : Int) := by omega
      have hj1 : (j : Int) < (n : Int) := by omega
      have hne := neStretch p q p q
      have hgd := guardStretch
      simp only [BEq.rfl, Bool.and_true, Bool.not_true] at hne
      go_wp2_with fail
      go_quiet (fail)
      go_wp2_with fail
      go_roundg (n - (j + 1))
      case rel => exact ⟨j + 1, by omega, rfl, by go_num, below_drewN hB _⟩
      case measure => omega
    · obtain rfl : j = n := by omega
      go_wp2_with fail
      go_ret
      exact ⟨rfl, hB⟩
theorem Bst.err_zero {xs : List Int} {gap : Int} (h : Bst.err xs gap = 0) : xs.length ≤ 1000 ∧ Ev.mom gap = true ∧ Ev.anyB (fun x => !Ev.mom x) (fun i => xs[i]?.getD 0) xs.length = false := by
  unfold Bst.err at h
  split at h
  · omega
  · split at h
    · omega
    · rename_i h1 h2
      refine ⟨by omega, ?_, ?_⟩
      · cases hg : Ev.mom gap
        · exact absurd (.inl hg) h2
        · rfl
      · cases hg : Ev.anyB (fun x => !Ev.mom x) (fun i => xs[i]?.getD 0) xs.length
        · rfl
        · exact absurd (.inr hg) h2
theorem bur_is (a : Option Addr) (xs : List Int) (ca : Nat) (gap : Int) (w : World) (hr : RowL w a xs) (hl : xs.length ≤ 9223372036854775807) : Calls Try.prog 44 #[.slice a xs.length ca, .int .i64 gap] w (BurPost w xs gap) := by
  by_cases h : Bst.err xs gap = 0
  · obtain ⟨h1, h2, h3⟩ := Bst.err_zero h
    exact bur_ok a xs ca gap w hr h1 h2 h3
  · exact bur_bad a xs ca gap w hr hl h
set_option maxRecDepth 100000 in
set_option maxHeartbeats 4000000 in
theorem whenBursts_xs (a0 : Option Addr) (xs : List Int) (ca0 : Nat) (gap : Int) (a2 : Option Addr) (ds : List Int) (ca2 : Nat) (day s : Int) (W : World) (hr0 : RowL W a0 xs) (hr2 : RowL W a2 ds) (hl0 : xs.length ≤ 9223372036854775807) (hl2 : ds.length ≤ 9223372036854775807) :
    Calls Try.prog 9 #[.slice a0 xs.length ca0, .int .i64 gap, .slice a2 ds.length ca2, .int .i64 day, .int .i64 s] W fun e w' => e = .returned (.bool true) ∧ Below W.heap.size W w' := by
  have HA := Lib.hid (bur_is a0 xs ca0 gap W hr0 hl0)
  have HN := Lib.hid (fun V (hV : Below W.heap.size W V) => anv_is a2 ds ca2 day s V (hr2.keep hV) hl2)
  have HR := Lib.hid (fun V (hV : Below W.heap.size W V) => avR_is a2 ds ca2 day s V (hr2.keep hV) hl2)
  have HE := Lib.hid (fun V (hV : Below W.heap.size W V) => burErr_is a0 xs ca0 gap V (hr0.keep hV) hl0)
  have hzl : (An.res ds day s).length ≤ 9223372036854775807 := by
    unfold An.res; split
    · exact Nat.le_trans (An.flt_len _ _ _ _) hl2
    · simp
  unfold AnPost at HN HR
  generalize An.res ds day s = zs at *
  generalize An.err ds day s = ae at *
  have HEQ : Hid (∀ b2 c2 b3 c3 (V : World), RowL V b2 zs → RowL V b3 zs → Calls Try.prog 17 #[.slice b2 zs.length c2, .slice b3 zs.length c3] V fun e w' => e = .returned (.bool true) ∧ Below V.heap.size V w') :=
    Lib.hid fun b2 c2 b3 c3 V h1 h2 => by have h := equal_ints b2 zs c2 b3 zs c3 V h1 h2 hzl hzl; simpa using h
  unfold BurPost at HA
  by_cases h0 : Bst.err xs gap = 0
  · obtain ⟨g1, g2, g3⟩ := Bst.err_zero h0
    have HO := Lib.hid (fun V (hV : Below W.heap.size W V) => burOf_is a0 xs ca0 gap V (hr0.keep hV) g1 g2 g3)
    have hres : Bst.res xs gap = Bst.all xs gap := by unfold Bst.res; rw [if_pos h0]
    rw [h0, hres] at HA
    rw [h0] at HE
    unfold BurOfPost at HO
    have hpl : (Bst.all xs gap).length ≤ 1000 := by unfold Bst.all; exact Nat.le_trans (Bst.upto_len _ _ _) g1
    generalize Bst.all xs gap = ps at *
    clear g1 g2 g3 hres h0 hr0 hr2
    go_enter Try.func9, Try.ntmps9
    go_wp2_with (first
      | (go_at_call 44; refine HA.out.mono ?_; rintro e w1 ⟨b1, c1, rfl, hrow1, hB1⟩)
      | (go_at_call 45; refine (HN.out _ hB1).mono ?_; rintro e w2 ⟨b2, c2, rfl, hrow2, hB2⟩; have hC2 := below_up hB1 hB2; have hrow1 := hrow1.keep hB2)
      | (go_at_call 46; refine (HR.out _ hC2).mono ?_; rintro e w3 ⟨b3, c3, rfl, hrow3, hB3⟩; have hC3 := below_up hC2 hB3; have hrow1 := hrow1.keep hB3; have hrow2 := hrow2.keep hB3)
      | (go_at_call 17; refine (HEQ.out _ _ _ _ _ hrow2 hrow3).mono ?_; rintro e w4 ⟨rfl, hB4⟩; have hC4 := below_up hC3 hB4; have hrow1 := hrow1.keep hB4)
      | (go_at_call 47; refine (HE.out _ hC4).mono ?_; rintro e w5 ⟨rfl, rfl⟩)
      | (go_at_call 49; refine (HO.out _ hC4).mono ?_; rintro e w6 ⟨b6, c6, rfl, hrow6, hB6⟩; have hC6 := below_up hC4 hB6; have hrow1 := hrow1.keep hB6)
      | (go_at_call 48; refine (eqStretch_same _ _ _ _ _ _ hrow1 hrow6 hpl).mono ?_; rintro e w7 ⟨rfl, hB7⟩; have hC7 := below_up hC6 hB7))
    go_ret
    exact ⟨rfl, hC7⟩
  · have hres : Bst.res xs gap = [] := by unfold Bst.res; rw [if_neg h0]
    rw [hres] at HA
    generalize Bst.err xs gap = k at *
    have k1 : (k == 0) = false := by simpa using h0
    have k2 : (k != 0) = true := by simpa using h0
    clear h0 hres hr0 hr2
    go_enter Try.func9, Try.ntmps9
    go_wp2_with (first
      | (go_at_call 44; refine HA.out.mono ?_; rintro e w1 ⟨b1, c1, rfl, hrow1, hB1⟩)
      | (go_at_call 45; refine (HN.out _ hB1).mono ?_; rintro e w2 ⟨b2, c2, rfl, hrow2, hB2⟩; have hC2 := below_up hB1 hB2; have hrow1 := hrow1.keep hB2)
      | (go_at_call 46; refine (HR.out _ hC2).mono ?_; rintro e w3 ⟨b3, c3, rfl, hrow3, hB3⟩; have hC3 := below_up hC2 hB3; have hrow1 := hrow1.keep hB3; have hrow2 := hrow2.keep hB3)
      | (go_at_call 17; refine (HEQ.out _ _ _ _ _ hrow2 hrow3).mono ?_; rintro e w4 ⟨rfl, hB4⟩; have hC4 := below_up hC3 hB4; have hrow1 := hrow1.keep hB4)
      | (go_at_call 47; refine (HE.out _ hC4).mono ?_; rintro e w5 ⟨rfl, rfl⟩)
      | (go_at_call 49; refine (HO.out _ hC4).mono ?_; rintro e w6 ⟨b6, c6, rfl, hrow6, hB6⟩; have hC6 := below_up hC4 hB6; have hrow1 := hrow1.keep hB6)
      | (go_at_call 48; refine (eqStretch_same _ _ _ _ _ _ hrow1 hrow6 hpl).mono ?_; rintro e w7 ⟨rfl, hB7⟩; have hC7 := below_up hC6 hB7))
    go_ret
    exact ⟨ret_bool (by simp), hC4⟩
theorem rowL_of {w : World} {a : Option Addr} {n : Nat} {z : Nat → Int} (h : Row w a n (fun i => .int .i64 (z i))) : ∃ xs : List Int, xs.length = n ∧ RowL w a xs := by
  refine ⟨(List.range n).map z, by simp, fun hl => ?_⟩
  have hl' : 0 < n := by simpa using hl
  obtain ⟨b, off, rfl, hb, hc⟩ := h hl'
  refine ⟨b, off, rfl, hb, fun i hi => ?_⟩
  have hi' : i < n := by simpa using hi
  rw [hc i hi']; simp [hi']
theorem whenBursts_walk (a0 : Option Addr) (n0 ca0 : Nat) (z0 : Nat → Int) (gap : Int) (a2 : Option Addr) (n2 ca2 : Nat) (z2 : Nat → Int) (day s : Int) (W : World) (hr0 : Row W a0 n0 (fun i => .int .i64 (z0 i))) (hr2 : Row W a2 n2 (fun i => .int .i64 (z2 i))) (hl0 : n0 ≤ 9223372036854775807) (hl2 : n2 ≤ 9223372036854775807) :
    Calls Try.prog 9 #[.slice a0 n0 ca0, .int .i64 gap, .slice a2 n2 ca2, .int .i64 day, .int .i64 s] W fun e w' => e = .returned (.bool true) ∧ Below W.heap.size W w' := by
  obtain ⟨xs, rfl, h0⟩ := rowL_of hr0
  obtain ⟨ds, rfl, h2⟩ := rowL_of hr2
  exact whenBursts_xs a0 xs ca0 gap a2 ds ca2 day s W h0 h2 hl0 hl2
end Go.Proofs.Ytbbedepojogfmaa
