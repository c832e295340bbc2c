/- The errors of two lists of events: the program's checkEvents and the reference's eventsError. -/
import Derived.Test.YtdhfhcpgjokhlaaHits
namespace Go.Proofs.Ytdhfhcpgjokhlaa
open Go.RowKit Go.Sort Go.Shelf
set_option linter.unusedVariables false
theorem checkEvents1_is (x : Int) (w : World) : Calls Try.prog 77 #[.int .i64 x] w fun e w' => e = .returned (.bool (!Ev.mom x)) ∧ w = w' := by
  cases h : Ev.mom x
  · have HV := Lib.hid h; clear h
    go_enter Try.func77, Try.ntmps77
    go_wp2_with (go_at_call 53; refine (isMoment_is _ false HV.out _).mono ?_; rintro e w' ⟨rfl, rfl⟩)
    go_ret
    exact ⟨rfl, rfl⟩
  · have HV := Lib.hid h; clear h
    go_enter Try.func77, Try.ntmps77
    go_wp2_with (go_at_call 53; refine (isMoment_is _ true HV.out _).mono ?_; rintro e w' ⟨rfl, rfl⟩)
    go_ret
    exact ⟨rfl, rfl⟩
theorem checkEvents1_eg : ∀ args w, (callFunc 77 args).run Try.prog w = .ok (.enter 77 args) w := enters_of Try.func77 (by kernel_rfl) rfl
theorem anyWrong (a : Option Addr) (n ca : Nat) (z : Nat → Int) (w : World) (hr : Row w a n (fun i => .int .i64 (z i))) (hn : n ≤ 9223372036854775807) (b : Bool) (h : Ev.anyB (fun x => !Ev.mom x) z n = b) :
    Calls Try.prog 67 #[.slice a n ca, .func (.func 77) #[] #[]] w fun e w' => e = .returned (.bool b) ∧ w = w' := by
  rw [← h]
  exact containsFunc_any _ _ (fun x => !Ev.mom x) checkEvents1_eg a n ca z w hn hr fun i _ => checkEvents1_is _ _
set_option maxHeartbeats 1000000 in
theorem checkEvents_is (a : Option Addr) (n ca : Nat) (z : Nat → Int) (b : Option Addr) (m cb : Nat) (y : Nat → Int) (k : Int) (w : World) (hra : Row w a n (fun i => .int .i64 (z i))) (hrb : Row w b m (fun i => .int .i64 (y i))) (hn : n ≤ 9223372036854775807) (hm : m ≤ 9223372036854775807) :
    Calls Try.prog 47 #[.slice a n ca, .slice b m cb, .int .i64 k] w fun e w' => e = .returned (.int .i64 (Ev.err z y n m k)) ∧ Below w.heap.size w w' := by
  by_cases hl : 50 < n
  · rw [Ev.err_large (.inl hl)]
    go_enter Try.func47, Try.ntmps47
    go_wp2_with fail
    go_ret
    exact ⟨rfl, Below.refl _ _⟩
  · by_cases hl2 : 50 < m
    · rw [Ev.err_large (.inr hl2)]
      go_enter Try.func47, Try.ntmps47
      go_wp2_with fail
      go_ret
      exact ⟨rfl, Below.refl _ _⟩
    · obtain ⟨W1, hW1, hP1, hz1, hb1⟩ := box w #[.slice a n ca, .slice b m cb] 33
      have HW1 := Lib.hid hW1
      have HRA := Lib.hid (hra.keep hb1); have HRB := Lib.hid (hrb.keep hb1)
      obtain ⟨c0, c1⟩ := hP1.two
      obtain ⟨ee, hee⟩ : ∃ ee, Ev.err z y n m k = ee := ⟨_, rfl⟩
      rw [hee]
      have HE := Lib.hid hee
      clear hW1 hz1 hra hrb hee hP1
      go_enter Try.func47, Try.ntmps47
      go_wp2_with fail
      rw [HW1.out]
      go_loop [21] (fun i => i = .int .i64 0 ∨ (i = .int .i64 1 ∧ Ev.anyB (fun x => !Ev.mom x) z n = false) ∨ (i = .int .i64 2 ∧ Ev.anyB (fun x => !Ev.mom x) z n = false ∧ Ev.anyB (fun x => !Ev.mom x) y m = false)) (fun i => (2 - intOf i).toNat)
      case atStart => exact .inl rfl
      case round =>
        rcases hrel with rfl | ⟨rfl, ha⟩ | ⟨rfl, ha, hb⟩
        · cases hv : Ev.anyB (fun x => !Ev.mom x) z n
          · have HV := Lib.hid hv; clear hv
            go_wp2_with (go_at_call 67; refine (anyWrong _ _ _ z _ HRA.out (by omega) false HV.out).mono ?_; rintro e w' ⟨rfl, rfl⟩)
            go_round
            case rel => exact .inr (.inl ⟨rfl, by first | trivial | exact HV.out⟩)
            case measure => simp [intOf]
          · have HV := Lib.hid hv; clear hv
            go_wp2_with (go_at_call 67; refine (anyWrong _ _ _ z _ HRA.out (by omega) true HV.out).mono ?_; rintro e w' ⟨rfl, rfl⟩)
            go_ret
            exact ⟨ret_int (by rw [← HE.out, Ev.err_a (by omega) (by omega) HV.out]), hb1⟩
        · have HA := Lib.hid ha; clear ha
          cases hv : Ev.anyB (fun x => !Ev.mom x) y m
          · have HV := Lib.hid hv; clear hv
            go_wp2_with (go_at_call 67; refine (anyWrong _ _ _ y _ HRB.out (by omega) false HV.out).mono ?_; rintro e w' ⟨rfl, rfl⟩)
            go_round
            case rel => exact .inr (.inr ⟨rfl, HA.out, by first | trivial | exact HV.out⟩)
            case measure => simp [intOf]
          · have HV := Lib.hid hv; clear hv
            go_wp2_with (go_at_call 67; refine (anyWrong _ _ _ y _ HRB.out (by omega) true HV.out).mono ?_; rintro e w' ⟨rfl, rfl⟩)
            go_ret
            exact ⟨ret_int (by rw [← HE.out, Ev.err_b (by omega) (by omega) HV.out]), hb1⟩
        · have HA := Lib.hid ha; clear ha
          have HB := Lib.hid hb; clear hb
          by_cases hk : k < 0 ∨ 86400 < k
          · go_wp2_with (go_at_call 42; refine (outside_yes _ _ _ _ hk).mono ?_; rintro e w' ⟨rfl, rfl⟩)
            go_ret
            exact ⟨ret_int (by rw [← HE.out, Ev.err_k (by omega) (by omega) hk]), hb1⟩
          · go_wp2_with (go_at_call 42; refine (outside_no _ _ _ _ (by omega) (by omega)).mono ?_; rintro e w' ⟨rfl, rfl⟩)
            go_ret
            exact ⟨ret_int (by rw [← HE.out, Ev.err_ok (by omega) (by omega) HA.out HB.out (by omega) (by omega)]), hb1⟩
set_option maxHeartbeats 1000000 in
theorem eventsError_is (a : Option Addr) (n ca : Nat) (z : Nat → Int) (b : Option Addr) (m cb : Nat) (y : Nat → Int) (k : Int) (w : World) (hra : Row w a n (fun i => .int .i64 (z i))) (hrb : Row w b m (fun i => .int .i64 (y i))) (hn : n ≤ 9223372036854775807) (hm : m ≤ 9223372036854775807) :
    Calls Try.prog 50 #[.slice a n ca, .slice b m cb, .int .i64 k] w fun e w' => e = .returned (.int .i64 (Ev.err z y n m k)) ∧ Below w.heap.size w w' := by
  by_cases hl : 50 < n
  · rw [Ev.err_large (.inl hl)]
    go_enter Try.func50, Try.ntmps50
    go_wp2_with fail
    go_ret
    exact ⟨rfl, Below.refl _ _⟩
  · by_cases hl2 : 50 < m
    · rw [Ev.err_large (.inr hl2)]
      go_enter Try.func50, Try.ntmps50
      go_wp2_with fail
      go_ret
      exact ⟨rfl, Below.refl _ _⟩
    · obtain ⟨W1, hW1, hP1, hz1, hb1⟩ := box w #[.slice a n ca, .slice b m cb] 33
      have HW1 := Lib.hid hW1
      have HRA := Lib.hid (hra.keep hb1); have HRB := Lib.hid (hrb.keep hb1)
      obtain ⟨c0, c1⟩ := hP1.two
      obtain ⟨ee, hee⟩ : ∃ ee, Ev.err z y n m k = ee := ⟨_, rfl⟩
      rw [hee]
      have HE := Lib.hid hee
      clear hW1 hz1 hra hrb hee hP1
      go_enter Try.func50, Try.ntmps50
      go_wp2_with fail
      rw [HW1.out]
      go_loopg [23] 2 (fun gk i wr => W1 = wr ∧ ((gk = 2 ∧ i = .int .i64 0) ∨ (gk = 1 ∧ i = .int .i64 1 ∧ Ev.anyB (fun x => !Ev.mom x) z n = false) ∨ (gk = 0 ∧ i = .int .i64 2 ∧ Ev.anyB (fun x => !Ev.mom x) z n = false ∧ Ev.anyB (fun x => !Ev.mom x) y m = false)))
      case atStart => exact ⟨rfl, .inl ⟨rfl, rfl⟩⟩
      case round =>
        rcases hrel with ⟨rfl, ⟨rfl, rfl⟩ | ⟨rfl, rfl, ha⟩ | ⟨rfl, rfl, ha, hb⟩⟩
        · -- one of the two lists, with its moments
          go_wp2_with fail
          go_loopg [29] n (fun gk i wr => ∃ l : Nat, l ≤ n ∧ gk = n - l ∧ i = .int .i64 l ∧ W1 = wr ∧ ∀ t, t < l → (!Ev.mom (z t)) = false)
          case atStart => exact ⟨0, by omega, rfl, rfl, rfl, fun t ht => by omega⟩
          case round =>
            obtain ⟨l, hl, rfl, rfl, rfl, hno⟩ := hrel
            have HNO := Lib.hid hno; clear hno
            by_cases hlt2 : l < n
            · obtain ⟨a', off', rfl, hal, hcella⟩ := HRA.out (by omega)
              have hca := hcella l hlt2
              clear hcella
              by_cases hv : Ev.mom (z l) = true
              · have HV := Lib.hid hv; clear hv
                go_wp2_with (go_at_call 55; refine (moment_is _ true HV.out _).mono ?_; rintro e w' ⟨rfl, rfl⟩)
                go_roundg (n - (l + 1))
                case rel => exact ⟨l + 1, by omega, rfl, by go_num, rfl, fun t ht => by (by_cases e : t = l); exact e ▸ (by rw [HV.out]; rfl); exact HNO.out t (by omega)⟩
                case measure => omega
              · have HV : Hid (Ev.mom (z l) = false) := by simpa [Hid] using hv
                clear hv
                go_wp2_with (go_at_call 55; refine (moment_is _ false HV.out _).mono ?_; rintro e w' ⟨rfl, rfl⟩)
                go_ret
                exact ⟨ret_int (by rw [← HE.out, Ev.err_a (by omega) (by omega) (Ev.anyB_yes (p := fun x => !Ev.mom x) l hlt2 (by rw [HV.out]; rfl))]), hb1⟩
            · obtain rfl : l = n := by omega
              have HV : Hid (Ev.anyB (fun x => !Ev.mom x) z l = false) := Ev.anyB_no (p := fun x => !Ev.mom x) HNO.out
              go_wp2_with fail
              go_roundg 1
              case rel => exact ⟨rfl, .inr (.inl ⟨rfl, rfl, HV.out⟩)⟩
              case measure => omega
        · have HA := Lib.hid ha; clear ha
          -- one of the two lists, with its moments
          go_wp2_with fail
          go_loopg [29] m (fun gk i wr => ∃ l : Nat, l ≤ m ∧ gk = m - l ∧ i = .int .i64 l ∧ W1 = wr ∧ ∀ t, t < l → (!Ev.mom (y t)) = false)
          case atStart => exact ⟨0, by omega, rfl, rfl, rfl, fun t ht => by omega⟩
          case round =>
            obtain ⟨l, hl, rfl, rfl, rfl, hno⟩ := hrel
            have HNO := Lib.hid hno; clear hno
            by_cases hlt2 : l < m
            · obtain ⟨a', off', rfl, hal, hcella⟩ := HRB.out (by omega)
              have hca := hcella l hlt2
              clear hcella
              by_cases hv : Ev.mom (y l) = true
              · have HV := Lib.hid hv; clear hv
                go_wp2_with (go_at_call 55; refine (moment_is _ true HV.out _).mono ?_; rintro e w' ⟨rfl, rfl⟩)
                go_roundg (m - (l + 1))
                case rel => exact ⟨l + 1, by omega, rfl, by go_num, rfl, fun t ht => by (by_cases e : t = l); exact e ▸ (by rw [HV.out]; rfl); exact HNO.out t (by omega)⟩
                case measure => omega
              · have HV : Hid (Ev.mom (y l) = false) := by simpa [Hid] using hv
                clear hv
                go_wp2_with (go_at_call 55; refine (moment_is _ false HV.out _).mono ?_; rintro e w' ⟨rfl, rfl⟩)
                go_ret
                exact ⟨ret_int (by rw [← HE.out, Ev.err_b (by omega) (by omega) (Ev.anyB_yes (p := fun x => !Ev.mom x) l hlt2 (by rw [HV.out]; rfl))]), hb1⟩
            · obtain rfl : l = m := by omega
              have HV : Hid (Ev.anyB (fun x => !Ev.mom x) y l = false) := Ev.anyB_no (p := fun x => !Ev.mom x) HNO.out
              go_wp2_with fail
              go_roundg 0
              case rel => exact ⟨rfl, .inr (.inr ⟨rfl, rfl, HA.out, HV.out⟩)⟩
              case measure => omega
        · have HA := Lib.hid ha; clear ha
          have HB := Lib.hid hb; clear hb
          by_cases hk : k < 0
          · go_wp2_with fail
            go_ret
            exact ⟨ret_int (by rw [← HE.out, Ev.err_k (by omega) (by omega) (.inl hk)]), hb1⟩
          · by_cases hk2 : 86400 < k
            · go_wp2_with fail
              go_ret
              exact ⟨ret_int (by rw [← HE.out, Ev.err_k (by omega) (by omega) (.inr hk2)]), hb1⟩
            · go_wp2_with fail
              go_ret
              exact ⟨ret_int (by rw [← HE.out, Ev.err_ok (by omega) (by omega) HA.out HB.out (by omega) (by omega)]), hb1⟩
theorem guessError_is (a : Option Addr) (n ca : Nat) (z : Nat → Int) (b : Option Addr) (m cb : Nat) (y : Nat → Int) (k : Int) (w : World) (hra : Row w a n (fun i => .int .i64 (z i))) (hrb : Row w b m (fun i => .int .i64 (y i))) (hn : n ≤ 9223372036854775807) (hm : m ≤ 9223372036854775807) :
    Calls Try.prog 15 #[.slice a n ca, .slice b m cb, .int .i64 k] w fun e w' => e = .returned (.int .i64 (Ev.err z y n m k)) ∧ Below w.heap.size w w' := by
  go_enter Try.func15, Try.ntmps15
  go_wp2_with (go_at_call 50; refine (eventsError_is _ _ _ z _ _ _ y _ _ hra hrb hn hm).mono ?_; rintro e w' ⟨rfl, hB⟩)
  go_ret
  exact ⟨rfl, hB⟩
end Go.Proofs.Ytdhfhcpgjokhlaa
