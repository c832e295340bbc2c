/- empty; the reference's SameCond against a condition that has nothing. -/
import Derived.Test.YtbbedepojogfmaaAlbMath
import Derived.Test.YtbbedepojogfmaaFdEq
namespace Go.Proofs.Ytbbedepojogfmaa
open Go.RowKit Go.Sort Go.Shelf
set_option linter.unusedVariables false
set_option maxHeartbeats 4000000 in
theorem empty_is (op : Int) (ka : Option Addr) (kn kc : Nat) (text : ByteArray) (low high : Int) (aa : Option Addr) (an ac : Nat) (w : World) (hkn : kn ≤ 9223372036854775807) (han : an ≤ 9223372036854775807) (b : Bool) (hb : decide (op = 0 ∧ kn = 0 ∧ text.size = 0 ∧ low = 0 ∧ high = 0 ∧ an = 0) = b) : Calls Try.prog 98 #[.agg #[.int .i64 op, .slice ka kn kc, .string text, .int .i64 low, .int .i64 high, .slice aa an ac]] w fun e w' => e = .returned (.bool b) ∧ Below w.heap.size w w' := by
  have HB := Lib.hid hb; clear hb
  by_cases g0 : op = 0
  · have e0 : (op == 0) = true := by simpa using g0
    by_cases g1 : kn = 0
    · have e1 : ((kn : Int) == 0) = true := by simp; omega
      have HK : Hid (decide (kn = 0) = true) := Lib.hid (decide_eq_true g1)
      by_cases g2 : text.size = 0
      · have e2 := strEmpty_yes text g2
        by_cases g3 : low = 0
        · have e3 : (low == 0) = true := by simpa using g3
          by_cases g4 : high = 0
          · have e4 : (high == 0) = true := by simpa using g4
            by_cases g5 : an = 0
            · have e5 : ((an : Int) == 0) = true := by simp; omega
              have H0 := Lib.hid g0; have H1 := Lib.hid g1; have H2 := Lib.hid g2; have H3 := Lib.hid g3; have H4 := Lib.hid g4; have H5 := Lib.hid g5
              have := True.intro
              clear g0 g1 g2 g3 g4 g5
              go_enter Try.func98, Try.ntmps98
              go_wp2_with fail
              go_ret
              exact ⟨ret_bool (by rw [← HB.out]; exact (decide_eq_true ⟨H0.out, H1.out, H2.out, H3.out, H4.out, H5.out⟩).symm), below_allocs (Below.refl _ _) _⟩
            · have e5 : ((an : Int) == 0) = false := by simp; omega
              have H5 := Lib.hid g5
              have := True.intro
              clear g0 g1 g2 g3 g4 g5
              go_enter Try.func98, Try.ntmps98
              go_wp2_with fail
              go_ret
              exact ⟨ret_bool (by rw [← HB.out]; exact (decide_eq_false (fun h => H5.out h.2.2.2.2.2)).symm), below_allocs (Below.refl _ _) _⟩
          · have e4 : (high == 0) = false := by simpa using g4
            have H4 := Lib.hid g4
            clear g0 g1 g2 g3 g4
            go_enter Try.func98, Try.ntmps98
            go_wp2_with fail
            go_ret
            exact ⟨ret_bool (by rw [← HB.out]; exact (decide_eq_false (fun h => H4.out h.2.2.2.2.1)).symm), below_allocs (Below.refl _ _) _⟩
        · have e3 : (low == 0) = false := by simpa using g3
          have H3 := Lib.hid g3
          clear g0 g1 g2 g3
          go_enter Try.func98, Try.ntmps98
          go_wp2_with fail
          go_ret
          exact ⟨ret_bool (by rw [← HB.out]; exact (decide_eq_false (fun h => H3.out h.2.2.2.1)).symm), below_allocs (Below.refl _ _) _⟩
      · have e2 := strEmpty_no text g2
        have H2 := Lib.hid g2
        clear g0 g1 g2
        go_enter Try.func98, Try.ntmps98
        go_wp2_with fail
        go_ret
        exact ⟨ret_bool (by rw [← HB.out]; exact (decide_eq_false (fun h => H2.out h.2.2.1)).symm), below_allocs (Below.refl _ _) _⟩
    · have e1 : ((kn : Int) == 0) = false := by simp; omega
      have H1 := Lib.hid g1
      have := True.intro
      clear g0 g1
      go_enter Try.func98, Try.ntmps98
      go_wp2_with fail
      go_ret
      exact ⟨ret_bool (by rw [← HB.out]; exact (decide_eq_false (fun h => H1.out h.2.1)).symm), below_allocs (Below.refl _ _) _⟩
  · have e0 : (op == 0) = false := by simpa using g0
    have H0 := Lib.hid g0
    clear g0
    go_enter Try.func98, Try.ntmps98
    go_wp2_with fail
    go_ret
    exact ⟨ret_bool (by rw [← HB.out]; exact (decide_eq_false (fun h => H0.out h.1)).symm), below_allocs (Below.refl _ _) _⟩
set_option maxHeartbeats 2000000 in
theorem equalKids_is (a : Option Addr) (n ca : Nat) (g : Value) (w : World) (hn : n ≤ 9223372036854775807) (b : Bool) (hb : decide (n = 0) = b) :
    Calls Try.prog 133 #[.slice a n ca, .slice none 0 0, g] w fun e w' => e = .returned (.bool b) ∧ w = w' := by
  by_cases h : n = 0
  · subst h
    subst hb
    go_enter Try.func133, Try.ntmps133
    go_wp2_with fail
    go_loopg [17] 0 (fun gk i wr => gk = 0 ∧ i = .int .i64 0 ∧ w = wr)
    case atStart => exact ⟨rfl, rfl, rfl⟩
    case round =>
      obtain ⟨rfl, rfl, rfl⟩ := hrel
      go_wp2_with fail
      go_ret
      exact ⟨rfl, rfl⟩
  · have h1 : ((n : Int) != 0) = true := by simp; omega
    have HB : Hid (b = false) := Lib.hid (by rw [← hb]; exact decide_eq_false h)
    clear h hb
    go_enter Try.func133, Try.ntmps133
    go_wp2_with fail
    go_ret
    exact ⟨ret_bool HB.out.symm, rfl⟩
set_option maxHeartbeats 4000000 in
theorem sameBlank_is (op : Int) (ka : Option Addr) (kn kc : Nat) (text : ByteArray) (low high : Int) (aa : Option Addr) (an ac : Nat) (lat lon : Nat → Int) (s : ByteArray) (hs : s.size = 0) (w : World) (hkn : kn ≤ 9223372036854775807) (han : an ≤ 9223372036854775807) (hrow : Row2 w aa an (fun i => .int .i64 (lat i)) (fun i => .int .i64 (lon i))) (b : Bool) (hb : decide (op = 0 ∧ kn = 0 ∧ text.size = 0 ∧ low = 0 ∧ high = 0 ∧ an = 0) = b) :
    Calls Try.prog 102 #[.agg #[.int .i64 op, .slice ka kn kc, .string text, .int .i64 low, .int .i64 high, .slice aa an ac], .agg #[.int .i64 0, .slice none 0 0, .string s, .int .i64 0, .int .i64 0, .slice none 0 0]] w fun e w' => e = .returned (.bool b) ∧ Below w.heap.size w w' := by
  have HB := Lib.hid hb; have HROW := Lib.hid hrow; clear hb hrow
  by_cases g0 : op = 0
  · have e0 : (op == 0) = true := by simpa using g0
    by_cases g1 : kn = 0
    · have e1 : ((kn : Int) == 0) = true := by simp; omega
      have HK : Hid (decide (kn = 0) = true) := Lib.hid (decide_eq_true g1)
      by_cases g2 : text.size = 0
      · have e2 : (text.toList == s.toList) = true := by rw [List.isEmpty_iff.1 (strEmpty_yes text g2), List.isEmpty_iff.1 (strEmpty_yes s hs)]; rfl
        by_cases g3 : low = 0
        · have e3 : (low == 0) = true := by simpa using g3
          by_cases g4 : high = 0
          · have e4 : (high == 0) = true := by simpa using g4
            by_cases g5 : an = 0
            · have e5 : ((an : Int) == 0) = true := by simp; omega
              have H0 := Lib.hid g0; have H1 := Lib.hid g1; have H2 := Lib.hid g2; have H3 := Lib.hid g3; have H4 := Lib.hid g4; have H5 := Lib.hid g5
              have HE : Hid (Fd.eqRow an 0 (fun i => lat i == lat i && lon i == lon i) = true) := Lib.hid (by subst g5; exact Fd.eqRow_yes fun i hi => by omega)
              clear g0 g1 g2 g3 g4 g5
              go_enter Try.func102, Try.ntmps102
              go_wp2_with (first
                | (go_at_call 133; refine (equalKids_is ka kn kc _ _ hkn true HK.out).mono ?_; rintro e w5 ⟨rfl, rfl⟩)
                | (go_at_call 96; refine (eqPlaces_is aa an ac lat lon none 0 0 lat lon _ (HROW.out.keep (below_allocs (below_allocs (Below.refl _ _) _) _)) (fun h => absurd h (Nat.lt_irrefl 0)) han (Nat.zero_le _) (fun i => lat i == lat i && lon i == lon i) (fun i => rfl)).mono ?_; rintro e w6 ⟨rfl, hB6⟩; rw [HE.out]))
              go_ret
              exact ⟨ret_bool (by rw [← HB.out]; exact (decide_eq_true ⟨H0.out, H1.out, H2.out, H3.out, H4.out, H5.out⟩).symm), below_up (below_allocs (below_allocs (Below.refl _ _) _) _) hB6⟩
            · have e5 : ((an : Int) == 0) = false := by simp; omega
              have H5 := Lib.hid g5
              have HE : Hid (Fd.eqRow an 0 (fun i => lat i == lat i && lon i == lon i) = false) := Lib.hid (Fd.eqRow_len g5)
              clear g0 g1 g2 g3 g4 g5
              go_enter Try.func102, Try.ntmps102
              go_wp2_with (first
                | (go_at_call 133; refine (equalKids_is ka kn kc _ _ hkn true HK.out).mono ?_; rintro e w5 ⟨rfl, rfl⟩)
                | (go_at_call 96; refine (eqPlaces_is aa an ac lat lon none 0 0 lat lon _ (HROW.out.keep (below_allocs (below_allocs (Below.refl _ _) _) _)) (fun h => absurd h (Nat.lt_irrefl 0)) han (Nat.zero_le _) (fun i => lat i == lat i && lon i == lon i) (fun i => rfl)).mono ?_; rintro e w6 ⟨rfl, hB6⟩; rw [HE.out]))
              go_ret
              exact ⟨ret_bool (by rw [← HB.out]; exact (decide_eq_false (fun h => H5.out h.2.2.2.2.2)).symm), below_up (below_allocs (below_allocs (Below.refl _ _) _) _) hB6⟩
          · have e4 : (high == 0) = false := by simpa using g4
            have H4 := Lib.hid g4
            clear g0 g1 g2 g3 g4
            go_enter Try.func102, Try.ntmps102
            go_wp2_with (first
              | (go_at_call 133; refine (equalKids_is ka kn kc _ _ hkn true HK.out).mono ?_; rintro e w5 ⟨rfl, rfl⟩)
              | (go_at_call 96; refine (eqPlaces_is aa an ac lat lon none 0 0 lat lon _ (HROW.out.keep (below_allocs (below_allocs (Below.refl _ _) _) _)) (fun h => absurd h (Nat.lt_irrefl 0)) han (Nat.zero_le _) (fun i => lat i == lat i && lon i == lon i) (fun i => rfl)).mono ?_; rintro e w6 ⟨rfl, hB6⟩; rw [HE.out]))
            go_ret
            exact ⟨ret_bool (by rw [← HB.out]; exact (decide_eq_false (fun h => H4.out h.2.2.2.2.1)).symm), below_allocs (below_allocs (Below.refl _ _) _) _⟩
        · have e3 : (low == 0) = false := by simpa using g3
          have H3 := Lib.hid g3
          clear g0 g1 g2 g3
          go_enter Try.func102, Try.ntmps102
          go_wp2_with (first
            | (go_at_call 133; refine (equalKids_is ka kn kc _ _ hkn true HK.out).mono ?_; rintro e w5 ⟨rfl, rfl⟩)
            | (go_at_call 96; refine (eqPlaces_is aa an ac lat lon none 0 0 lat lon _ (HROW.out.keep (below_allocs (below_allocs (Below.refl _ _) _) _)) (fun h => absurd h (Nat.lt_irrefl 0)) han (Nat.zero_le _) (fun i => lat i == lat i && lon i == lon i) (fun i => rfl)).mono ?_; rintro e w6 ⟨rfl, hB6⟩; rw [HE.out]))
          go_ret
          exact ⟨ret_bool (by rw [← HB.out]; exact (decide_eq_false (fun h => H3.out h.2.2.2.1)).symm), below_allocs (below_allocs (Below.refl _ _) _) _⟩
      · have e2 : (text.toList == s.toList) = false := by
          have h1 := strEmpty_no text g2
          rw [List.isEmpty_iff.1 (strEmpty_yes s hs)]
          cases h : text.toList with
          | nil => rw [h] at h1; cases h1
          | cons x l => rfl
        have H2 := Lib.hid g2
        clear g0 g1 g2
        go_enter Try.func102, Try.ntmps102
        go_wp2_with (first
          | (go_at_call 133; refine (equalKids_is ka kn kc _ _ hkn true HK.out).mono ?_; rintro e w5 ⟨rfl, rfl⟩)
          | (go_at_call 96; refine (eqPlaces_is aa an ac lat lon none 0 0 lat lon _ (HROW.out.keep (below_allocs (below_allocs (Below.refl _ _) _) _)) (fun h => absurd h (Nat.lt_irrefl 0)) han (Nat.zero_le _) (fun i => lat i == lat i && lon i == lon i) (fun i => rfl)).mono ?_; rintro e w6 ⟨rfl, hB6⟩; rw [HE.out]))
        go_ret
        exact ⟨ret_bool (by rw [← HB.out]; exact (decide_eq_false (fun h => H2.out h.2.2.1)).symm), below_allocs (below_allocs (Below.refl _ _) _) _⟩
    · have e1 : ((kn : Int) == 0) = false := by simp; omega
      have H1 := Lib.hid g1
      have HK : Hid (decide (kn = 0) = false) := Lib.hid (decide_eq_false g1)
      clear g0 g1
      go_enter Try.func102, Try.ntmps102
      go_wp2_with (first
        | (go_at_call 133; refine (equalKids_is ka kn kc _ _ hkn false HK.out).mono ?_; rintro e w5 ⟨rfl, rfl⟩)
        | (go_at_call 96; refine (eqPlaces_is aa an ac lat lon none 0 0 lat lon _ (HROW.out.keep (below_allocs (below_allocs (Below.refl _ _) _) _)) (fun h => absurd h (Nat.lt_irrefl 0)) han (Nat.zero_le _) (fun i => lat i == lat i && lon i == lon i) (fun i => rfl)).mono ?_; rintro e w6 ⟨rfl, hB6⟩; rw [HE.out]))
      go_ret
      exact ⟨ret_bool (by rw [← HB.out]; exact (decide_eq_false (fun h => H1.out h.2.1)).symm), below_allocs (below_allocs (Below.refl _ _) _) _⟩
  · have e0 : (op == 0) = false := by simpa using g0
    have H0 := Lib.hid g0
    clear g0
    go_enter Try.func102, Try.ntmps102
    go_wp2_with fail
    go_ret
    exact ⟨ret_bool (by rw [← HB.out]; exact (decide_eq_false (fun h => H0.out h.1)).symm), below_allocs (below_allocs (Below.refl _ _) _) _⟩
end Go.Proofs.Ytbbedepojogfmaa
