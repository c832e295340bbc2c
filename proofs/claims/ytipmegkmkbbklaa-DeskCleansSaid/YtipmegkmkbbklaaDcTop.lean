/- The errors of Clean: times and homes. -/
import Derived.Test.YtipmegkmkbbklaaDcMath
import Derived.Test.YtipmegkmkbbklaaFdStr3
import Derived.Test.YtipmegkmkbbklaaFdSmall
import Derived.Test.YtipmegkmkbbklaaFdPhoto
import Derived.Test.YtipmegkmkbbklaaFdErr
namespace Go.Proofs.Ytipmegkmkbbklaa
open Go.RowKit Go.Sort Go.Shelf
set_option linter.unusedVariables false
theorem outD_is (n lo hi : Int) (b : Bool) (h : decide (lo ≤ n ∧ n ≤ hi) = b) (w : World) : Calls Try.prog 78 #[.int .i64 n, .int .i64 lo, .int .i64 hi] w fun e w' => e = .returned (.bool (!b)) ∧ w = w' := by
  cases b
  · have h' : n < lo ∨ hi < n := by rw [decide_eq_false_iff_not] at h; omega
    clear h
    by_cases c : n < lo
    · go_enter Try.func78, Try.ntmps78
      go_wp2
      go_ret
      exact ⟨rfl, rfl⟩
    · have d : hi < n := by omega
      go_enter Try.func78, Try.ntmps78
      go_wp2
      go_ret
      exact ⟨rfl, rfl⟩
  · obtain ⟨h1, h2⟩ := of_decide_eq_true h
    clear h
    go_enter Try.func78, Try.ntmps78
    go_wp2
    go_ret
    exact ⟨ret_bool (by simp <;> omega), rfl⟩
def Dc.mom (n : Int) : Bool := decide (0 ≤ n ∧ n ≤ 6311433599)
theorem isMomD_is (n : Int) (b : Bool) (h : Dc.mom n = b) (w : World) : Calls Try.prog 76 #[.int .i64 n] w fun e w' => e = .returned (.bool b) ∧ w = w' := by
  have HO := Lib.hid (outD_is n 0 6311433599 b h w)
  go_enter Try.func76, Try.ntmps76
  go_wp2_with (go_at_call 78; refine HO.out.mono ?_; rintro e w2 ⟨rfl, rfl⟩)
  go_ret
  exact ⟨ret_bool (by simp), rfl⟩
theorem momR_is (n : Int) (b : Bool) (h : Dc.mom n = b) (w : World) : Calls Try.prog 32 #[.int .i64 n] w fun e w' => e = .returned (.bool b) ∧ w = w' := by
  unfold Dc.mom at h
  by_cases c : 0 ≤ n
  · by_cases d : n ≤ 6311433599
    · have hb : b = true := by rw [← h]; exact decide_eq_true ⟨c, d⟩
      subst hb
      clear h
      go_enter Try.func32, Try.ntmps32
      go_wp2
      go_ret
      exact ⟨ret_bool (by simp <;> omega), rfl⟩
    · have hb : b = false := by rw [← h]; exact decide_eq_false (fun g => d g.2)
      subst hb
      clear h
      go_enter Try.func32, Try.ntmps32
      go_wp2
      go_ret
      exact ⟨ret_bool (by simp <;> omega), rfl⟩
  · have hb : b = false := by rw [← h]; exact decide_eq_false (fun g => c g.1)
    subst hb
    clear h
    go_enter Try.func32, Try.ntmps32
    go_wp2
    go_ret
    exact ⟨ret_bool (by simp <;> omega), rfl⟩
/-- The error of a link's times. -/
def Dc.times (F T : Int) : Int := if (Dc.mom F && Dc.mom T) = true then (if T < F then 5 else 0) else 2
/-- Is an area right? -/
def Dc.area (a o r : Int) : Bool := Fd.placeB a o && decide (0 ≤ r ∧ r ≤ 20100000)
/-- The error of homes. -/
def Dc.homes (la lo ra : Nat → Int) : Nat → Int
  | 0 => 0
  | n + 1 => if Dc.homes la lo ra n = 0 then (if Dc.area (la n) (lo n) (ra n) = true then 0 else 2) else 2
theorem Dc.homes_bad {la lo ra : Nat → Int} {n j : Nat} (hj : j < n) (h : Dc.area (la j) (lo j) (ra j) = false) : Dc.homes la lo ra n = 2 := by
  induction n with
  | zero => omega
  | succ n ih =>
    unfold Dc.homes
    by_cases e : j = n
    · subst e; rw [h]; split <;> rfl
    · rw [ih (by omega)]; rfl
theorem Dc.homes_ok {la lo ra : Nat → Int} {n : Nat} (h : ∀ j, j < n → Dc.area (la j) (lo j) (ra j) = true) : Dc.homes la lo ra n = 0 := by
  induction n with
  | zero => rfl
  | succ n ih =>
    unfold Dc.homes
    rw [ih (fun j hj => h j (by omega)), h n (by omega)]; rfl
theorem placedB_is (a o : Int) (w : World) (b : Bool) (h : Fd.placeB a o = b) : Calls Try.prog 63 #[.agg #[.int .i64 a, .int .i64 o]] w fun e w' => e = .returned (.bool b) ∧ Below w.heap.size w w' := placed_is a o w b h
-- d.checkHomes: the function; W.CheckPlace: its look at a place; checkPlaceW_is: the contract of this; d.outside: its look at a radius; outD_is: the contract
set_option maxRecDepth 100000 in
set_option maxHeartbeats 2000000 in
theorem checkHomes_is (a : Option Addr) (n ca : Nat) (la lo ra : Nat → Int) (w : World) (hr : Ars w a n la lo ra) (hn : n ≤ 9223372036854775807) : Calls Try.prog 29 #[.slice a n ca] w fun e w' => e = .returned (.int .i64 (Dc.homes la lo ra n)) ∧ Below w.heap.size w w' := by
  have HR := Lib.hid hr
  have HBAD := Lib.hid (fun j (hj : j < n) h => Dc.homes_bad (la := la) (lo := lo) (ra := ra) hj h)
  have HOK := Lib.hid (fun h => Dc.homes_ok (la := la) (lo := lo) (ra := ra) (n := n) h)
  generalize Dc.homes la lo ra n = q at *
  clear hr
  go_enter Try.func29, Try.ntmps29
  go_wp2_with fail
  go_loopg [7] n (fun gk i wr => ∃ j : Nat, j ≤ n ∧ gk = n - j ∧ i = .int .i64 j ∧ (∀ k, k < j → Dc.area (la k) (lo k) (ra k) = true) ∧ Below w.heap.size w wr)
  case atStart => exact ⟨0, by omega, rfl, rfl, fun k hk => by omega, Below.refl _ _⟩
  case round =>
    obtain ⟨j, hj, rfl, rfl, hok, hB⟩ := hrel
    have HJ := Lib.hid hok; clear hok
    by_cases hjn : j < n
    · obtain ⟨b, off, rfl, hb, hc⟩ := (HR.out.keep hB) (by omega)
      obtain ⟨x0, x1, x2⟩ := hc j hjn
      obtain ⟨W4, hW4, hX, hz4, hB4⟩ := box wr #[.int .i64 (la j), .int .i64 (lo j), .int .i64 (ra j)] 77
      have HW4 := Lib.hid hW4
      have hB04 := below_up hB hB4
      clear hW4 hz4 hc
      go_upto_region 4 with fail
      rw [HW4.out]
      obtain ⟨b0, b1, b2⟩ := hX.three
      cases hp : Fd.placeB (la j) (lo j)
      · have HQ := Lib.hid (HBAD.out j hjn (by unfold Dc.area; rw [hp]; rfl))
        have HP := Lib.hid (fun V => checkPlaceW_is (la j) (lo j) V false hp)
        clear hp
        go_wp2_with (go_at_call 77; refine (HP.out _).mono ?_; rintro e w5 ⟨rfl, hB5⟩)
        go_ret
        exact ⟨ret_int HQ.out.symm, below_up hB04 hB5⟩
      · have HP := Lib.hid (fun V => checkPlaceW_is (la j) (lo j) V true hp)
        cases hq : decide (0 ≤ ra j ∧ ra j ≤ 20100000)
        · have HQ := Lib.hid (HBAD.out j hjn (by unfold Dc.area; rw [hp, hq]; rfl))
          have HO := Lib.hid (fun V => outD_is (ra j) 0 20100000 false hq V)
          clear hp hq
          go_wp2_with (first | (go_at_call 77; refine (HP.out _).mono ?_; rintro e w5 ⟨rfl, hB5⟩; obtain ⟨b0, b1, b2⟩ := (hX.keep hB5).three) | (go_at_call 78; refine (HO.out _).mono ?_; rintro e w6 ⟨rfl, rfl⟩))
          go_ret
          exact ⟨ret_int HQ.out.symm, below_up hB04 hB5⟩
        · have HA := Lib.hid (show Dc.area (la j) (lo j) (ra j) = true by unfold Dc.area; rw [hp, hq]; rfl)
          have HO := Lib.hid (fun V => outD_is (ra j) 0 20100000 true hq V)
          clear hp hq
          go_wp2_with (first | (go_at_call 77; refine (HP.out _).mono ?_; rintro e w5 ⟨rfl, hB5⟩; obtain ⟨b0, b1, b2⟩ := (hX.keep hB5).three) | (go_at_call 78; refine (HO.out _).mono ?_; rintro e w6 ⟨rfl, rfl⟩))
          go_roundg (n - (j + 1))
          case rel => exact ⟨j + 1, by omega, rfl, by go_num, fun k hk => by (by_cases e : k = j); exact e ▸ HA.out; exact HJ.out k (by omega), below_up hB04 hB5⟩
          case measure => omega
    · obtain rfl : j = n := by omega
      have HQ := Lib.hid (HOK.out HJ.out)
      go_wp2_with fail
      go_ret
      exact ⟨ret_int HQ.out.symm, hB⟩
-- R.homesError: the function; R.placed: its look at a place; placedB_is: the contract of this; R.in: its look at a radius; in_is: the contract
set_option maxRecDepth 100000 in
set_option maxHeartbeats 2000000 in
theorem homesError_is (a : Option Addr) (n ca : Nat) (la lo ra : Nat → Int) (w : World) (hr : Ars w a n la lo ra) (hn : n ≤ 9223372036854775807) : Calls Try.prog 33 #[.slice a n ca] w fun e w' => e = .returned (.int .i64 (Dc.homes la lo ra n)) ∧ Below w.heap.size w w' := by
  have HR := Lib.hid hr
  have HBAD := Lib.hid (fun j (hj : j < n) h => Dc.homes_bad (la := la) (lo := lo) (ra := ra) hj h)
  have HOK := Lib.hid (fun h => Dc.homes_ok (la := la) (lo := lo) (ra := ra) (n := n) h)
  generalize Dc.homes la lo ra n = q at *
  clear hr
  go_enter Try.func33, Try.ntmps33
  go_wp2_with fail
  go_loopg [7] n (fun gk i wr => ∃ j : Nat, j ≤ n ∧ gk = n - j ∧ i = .int .i64 j ∧ (∀ k, k < j → Dc.area (la k) (lo k) (ra k) = true) ∧ Below w.heap.size w wr)
  case atStart => exact ⟨0, by omega, rfl, rfl, fun k hk => by omega, Below.refl _ _⟩
  case round =>
    obtain ⟨j, hj, rfl, rfl, hok, hB⟩ := hrel
    have HJ := Lib.hid hok; clear hok
    by_cases hjn : j < n
    · obtain ⟨b, off, rfl, hb, hc⟩ := (HR.out.keep hB) (by omega)
      obtain ⟨x0, x1, x2⟩ := hc j hjn
      obtain ⟨W4, hW4, hX, hz4, hB4⟩ := box wr #[.int .i64 (la j), .int .i64 (lo j), .int .i64 (ra j)] 77
      have HW4 := Lib.hid hW4
      have hB04 := below_up hB hB4
      clear hW4 hz4 hc
      go_upto_region 4 with fail
      rw [HW4.out]
      obtain ⟨b0, b1, b2⟩ := hX.three
      cases hp : Fd.placeB (la j) (lo j)
      · have HQ := Lib.hid (HBAD.out j hjn (by unfold Dc.area; rw [hp]; rfl))
        have HP := Lib.hid (fun V => placedB_is (la j) (lo j) V false hp)
        clear hp
        go_wp2_with (go_at_call 63; refine (HP.out _).mono ?_; rintro e w5 ⟨rfl, hB5⟩)
        go_ret
        exact ⟨ret_int HQ.out.symm, below_up hB04 hB5⟩
      · have HP := Lib.hid (fun V => placedB_is (la j) (lo j) V true hp)
        cases hq : decide (0 ≤ ra j ∧ ra j ≤ 20100000)
        · have HQ := Lib.hid (HBAD.out j hjn (by unfold Dc.area; rw [hp, hq]; rfl))
          have HO := Lib.hid (fun V => in_is (ra j) 0 20100000 false hq V)
          clear hp hq
          go_wp2_with (first | (go_at_call 63; refine (HP.out _).mono ?_; rintro e w5 ⟨rfl, hB5⟩; obtain ⟨b0, b1, b2⟩ := (hX.keep hB5).three) | (go_at_call 60; refine (HO.out _).mono ?_; rintro e w6 ⟨rfl, rfl⟩))
          go_ret
          exact ⟨ret_int HQ.out.symm, below_up hB04 hB5⟩
        · have HA := Lib.hid (show Dc.area (la j) (lo j) (ra j) = true by unfold Dc.area; rw [hp, hq]; rfl)
          have HO := Lib.hid (fun V => in_is (ra j) 0 20100000 true hq V)
          clear hp hq
          go_wp2_with (first | (go_at_call 63; refine (HP.out _).mono ?_; rintro e w5 ⟨rfl, hB5⟩; obtain ⟨b0, b1, b2⟩ := (hX.keep hB5).three) | (go_at_call 60; refine (HO.out _).mono ?_; rintro e w6 ⟨rfl, rfl⟩))
          go_roundg (n - (j + 1))
          case rel => exact ⟨j + 1, by omega, rfl, by go_num, fun k hk => by (by_cases e : k = j); exact e ▸ HA.out; exact HJ.out k (by omega), below_up hB04 hB5⟩
          case measure => omega
    · obtain rfl : j = n := by omega
      have HQ := Lib.hid (HOK.out HJ.out)
      go_wp2_with fail
      go_ret
      exact ⟨ret_int HQ.out.symm, hB⟩
end Go.Proofs.Ytipmegkmkbbklaa
namespace Go.Proofs.Ytipmegkmkbbklaa
open Go.RowKit Go.Sort Go.Shelf
set_option linter.unusedVariables false
theorem Blk.link {w : World} {b : Nat} {c0 c1 c2 c3 c4 c5 c6 : Value} {t : TypeId} (h : Blk w b #[c0, c1, c2, c3, c4, c5, c6] t) :
    w.cell? ⟨b, 0, none⟩ = some c0 ∧ w.cell? ⟨b, 1, none⟩ = some c1 ∧ w.cell? ⟨b, 2, none⟩ = some c2 ∧ w.cell? ⟨b, 3, none⟩ = some c3 ∧ w.cell? ⟨b, 4, none⟩ = some c4 ∧ w.cell? ⟨b, 5, none⟩ = some c5 ∧ w.cell? ⟨b, 6, none⟩ = some c6 := by
  simp only [h.cell]; exact ⟨rfl, rfl, rfl, rfl, rfl, rfl, rfl⟩
set_option maxHeartbeats 2000000 in
theorem checkTimes_is (key album : ByteArray) (pl pe wo : Bool) (F T : Int) (w : World) (q : Int) (hq : Dc.times F T = q) : Calls Try.prog 28 #[.agg #[.string key, .string album, .bool pl, .bool pe, .bool wo, .int .i64 F, .int .i64 T]] w fun e w' => e = .returned (.int .i64 q) ∧ Below w.heap.size w w' := by
  obtain ⟨W1, hW1, hL, hz1, hB1⟩ := box w #[.string key, .string album, .bool pl, .bool pe, .bool wo, .int .i64 F, .int .i64 T] 28
  have HW1 := Lib.hid hW1
  obtain ⟨l0, l1, l2, l3, l4, l5, l6⟩ := hL.link
  clear hW1 hz1
  unfold Dc.times at hq
  cases hF : Dc.mom F
  · have HF := Lib.hid (fun V => isMomD_is F false hF V)
    have HT := HF
    have : q = 2 := by rw [← hq, hF]; rfl
    subst this
    clear hF hq
    go_enter Try.func28, Try.ntmps28
    go_wp2_with fail
    rw [HW1.out]
    go_wp2_with (go_at_call 76; first | ((with_reducible refine (HF.out _).mono ?_); rintro e w2 ⟨rfl, rfl⟩) | ((with_reducible refine (HT.out _).mono ?_); rintro e w3 ⟨rfl, rfl⟩))
    go_ret
    exact ⟨rfl, hB1⟩
  · cases hT : Dc.mom T
    · have HF := Lib.hid (fun V => isMomD_is F true hF V)
      have HT := Lib.hid (fun V => isMomD_is T false hT V)
      have : q = 2 := by rw [← hq, hF, hT]; rfl
      subst this
      clear hF hT hq
      go_enter Try.func28, Try.ntmps28
      go_wp2_with fail
      rw [HW1.out]
      go_wp2_with (go_at_call 76; first | ((with_reducible refine (HF.out _).mono ?_); rintro e w2 ⟨rfl, rfl⟩) | ((with_reducible refine (HT.out _).mono ?_); rintro e w3 ⟨rfl, rfl⟩))
      go_ret
      exact ⟨rfl, hB1⟩
    · have HF := Lib.hid (fun V => isMomD_is F true hF V)
      have HT := Lib.hid (fun V => isMomD_is T true hT V)
      by_cases ho : T < F
      · have : q = 5 := by rw [← hq, hF, hT, if_pos (show (true && true) = true from rfl), if_pos ho]
        subst this
        clear hF hT hq
        go_enter Try.func28, Try.ntmps28
        go_wp2_with fail
        rw [HW1.out]
        go_wp2_with (go_at_call 76; first | ((with_reducible refine (HF.out _).mono ?_); rintro e w2 ⟨rfl, rfl⟩) | ((with_reducible refine (HT.out _).mono ?_); rintro e w3 ⟨rfl, rfl⟩))
        go_ret
        exact ⟨rfl, hB1⟩
      · have : q = 0 := by rw [← hq, hF, hT, if_pos (show (true && true) = true from rfl), if_neg ho]
        subst this
        clear hF hT hq
        go_enter Try.func28, Try.ntmps28
        go_wp2_with fail
        rw [HW1.out]
        go_wp2_with (go_at_call 76; first | ((with_reducible refine (HF.out _).mono ?_); rintro e w2 ⟨rfl, rfl⟩) | ((with_reducible refine (HT.out _).mono ?_); rintro e w3 ⟨rfl, rfl⟩))
        go_ret
        exact ⟨rfl, hB1⟩
/-- The error of Clean. -/
def Dc.err (p : Ph) (key : ByteArray) (F T h : Int) : Int := if p.err = 0 then (if Fd.nameB key = true then (if Dc.times F T = 0 then h else Dc.times F T) else 3) else p.err
theorem Ph.few_of {p : Ph} (h : p.err = 0) : p.Few := by
  unfold Ph.err at h
  split at h
  · split at h
    · split at h
      · split at h
        · omega
        · split at h
          · omega
          · split at h
            · unfold Ph.words at h
              split at h
              · omega
              · split at h
                · split at h
                  · omega
                  · split at h
                    · split at h
                      · omega
                      · exact ⟨by omega, by omega, by omega⟩
                    · omega
                · rename_i hne; exact absurd h hne
            · omega
      · omega
    · omega
  · omega
theorem Dc.times_ne {F T : Int} : Dc.times F T = 0 ∨ Dc.times F T = 2 ∨ Dc.times F T = 5 := by
  unfold Dc.times
  split
  · split
    · exact .inr (.inr rfl)
    · exact .inl rfl
  · exact .inr (.inl rfl)
end Go.Proofs.Ytipmegkmkbbklaa
