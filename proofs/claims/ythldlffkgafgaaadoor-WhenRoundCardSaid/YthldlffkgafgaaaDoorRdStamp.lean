/- ReadStamp: the program's reader of a moment and an offset. -/
import Derived.Test.YthldlffkgafgaaaDoorRsMath
import Derived.IntWalk
namespace Go.Proofs.YthldlffkgafgaaaDoor
open Go.RowKit Go.Sort Go.Shelf
set_option linter.unusedVariables false
namespace Rs
/-- What the program reads behind the local time: the two numbers behind a sign. -/
def plus (s : List UInt8) : Option (List Int) := Ft.res (s.drop 19) (Ft.zoneF 43)
def minus (s : List UInt8) : Option (List Int) := Ft.res (s.drop 19) (Ft.zoneF 45)
/-- What the program returns. -/
def out (l : Option Int) (p m : Option (List Int)) : Option (Int × Int) :=
  match l, p, m with
  | some l, some [a, b], _ => if b ≤ 59 ∧ 60 * a + b ≤ 840 ∧ 0 ≤ l - 60 * (60 * a + b) ∧ l - 60 * (60 * a + b) ≤ 6311433599 then some (l - 60 * (60 * a + b), 60 * a + b) else none
  | some l, none, some [a, b] => if ¬ (a = 0 ∧ b = 0) ∧ b ≤ 59 ∧ 60 * a + b ≤ 840 ∧ 0 ≤ l - 60 * (-(60 * a + b)) ∧ l - 60 * (-(60 * a + b)) ≤ 6311433599 then some (l - 60 * (-(60 * a + b)), -(60 * a + b)) else none
  | _, _, _ => none
def read (s : List UInt8) : Option (Int × Int) := if s.length < 19 then none else out (Ft.loc (Ft.res (Ft.win s 0 19) Ft.stampF)) (plus s) (minus s)
theorem two_of {t : List UInt8} {c : UInt8} (hc : c ≠ 48) {xs : List Int} (h : Ft.res t (Ft.zoneF c) = some xs) : ∃ a b : Int, xs = [a, b] ∧ (0 ≤ a ∧ a ≤ 99) ∧ (0 ≤ b ∧ b ≤ 99) ∧ t[0]? = some c := by
  rw [Ft.res_zone t c hc] at h
  split at h
  · rename_i hh
    injection h with h
    have k : ∀ i, Dg.allD (Ft.win t i (i + 2)) = true → (Dg.val (Ft.win t i (i + 2)) : Int) ≤ 99 := by
      intro i hd
      have h1 := Dg.val_lt hd
      have h2 : (Ft.win t i (i + 2)).length ≤ 2 := by unfold Ft.win; exact Nat.le_trans (List.length_take_le _ _) (by omega)
      have h3 : 10 ^ (Ft.win t i (i + 2)).length ≤ 10 ^ 2 := Nat.pow_le_pow_right (by omega) h2
      have h4 : (10 : Nat) ^ 2 = 100 := rfl
      omega
    exact ⟨_, _, h.symm, ⟨by omega, k 1 hh.2.2.1.1⟩, ⟨by omega, k 4 hh.2.2.2⟩, hh.2.1⟩
  · exact absurd h (by simp)
end Rs
theorem FtPost.two {w w' : World} {a b : Int} {e : Ending} (h : FtPost w (some [a, b]) e w') : ∃ (bk off ca : Nat), e = .returned (.tuple #[.slice (some ⟨bk, off, none⟩) 2 ca, .bool true]) ∧ w'.cell? ⟨bk, off, none⟩ = some (.int .i64 a) ∧ w'.cell? ⟨bk, off + 1, none⟩ = some (.int .i64 b) ∧ Below w.heap.size w w' := by
  rcases h with ⟨hn, _, _⟩ | ⟨xs, ad, ca, hq, rfl, hrow, hB2, _⟩
  · exact absurd hn (by simp)
  · obtain rfl := (Option.some.inj hq).symm
    obtain ⟨bk, off, rfl, hb, hcell⟩ := hrow (by simp)
    exact ⟨bk, off, ca, rfl, hcell 0 (by simp), hcell 1 (by simp), hB2⟩
theorem FtPost.nope {w w' : World} {e : Ending} (h : FtPost w none e w') : e = .returned (.tuple #[.slice none 0 0, .bool false]) ∧ Below w.heap.size w w' := by
  rcases h with ⟨_, he, hB⟩ | ⟨xs, ad, ca, hq, _⟩
  · exact ⟨he, hB⟩
  · exact absurd hq (by simp)
set_option maxRecDepth 100000 in
set_option maxHeartbeats 4000000 in
theorem readStamp_short (s : List UInt8) (h : s.length < 19) (w : World) :
    Calls Tryd.prog 23 #[.string (Tx.mk s)] w fun e w' => e = .returned (Rs.outV (Rs.read s)) ∧ Below w.heap.size w w' := by
  have hsz := Tx.mk_size s
  have HR : Hid (Rs.read s = none) := by show _ = _; unfold Rs.read; rw [if_pos h]
  have h1 : (s.length : Int) < 19 := by omega
  rw [HR.out]
  go_enter Tryd.func23, Tryd.ntmps23
  go_wp2_with fail
  go_ret3
  exact ⟨rfl, Below.refl _ _⟩
set_option maxRecDepth 100000 in
set_option maxHeartbeats 4000000 in
theorem readStamp_plus (s : List UInt8) (hs : s.length ≤ 1000000000000) (h : 19 ≤ s.length) (a b : Int) (hp : Rs.plus s = some [a, b]) (w : World) :
    Calls Tryd.prog 23 #[.string (Tx.mk s)] w fun e w' => e = .returned (Rs.outV (Rs.read s)) ∧ Below w.heap.size w w' := by
  have hsz := Tx.mk_size s
  have h1 : ¬ (s.length : Int) < 19 := by omega
  have h2 : (19 : Int) ≤ (s.length : Int) := by omega
  have hx0 := ext_mk s 0 19
  have hx1 : (Tx.mk s).extract 19 s.length = Tx.mk (s.drop 19) := by rw [ext_mk]; unfold Ft.win; rw [List.take_of_length_le (by rw [List.length_drop]; exact Nat.le_refl _)]
  have HLOC : Hid (∀ W, Calls Tryd.prog 58 #[.string (Tx.mk (Ft.win s 0 19)), .string ⟨#[48, 48, 48, 48, 45, 48, 48, 45, 48, 48, 84, 48, 48, 58, 48, 48, 58, 48, 48]⟩] W fun e w' => e = .returned (.tuple #[.int .i64 ((Ft.loc (Ft.res (Ft.win s 0 19) Ft.stampF)).getD 0), .bool (Ft.loc (Ft.res (Ft.win s 0 19) Ft.stampF)).isSome]) ∧ Below W.heap.size W w') :=
    fun W => readLocal_is (Ft.win s 0 19) Ft.stampF (by rw [Ft.win_len s 0 19 h]; omega) Ft.few_stamp (Ft.six_stamp _) W
  have HP : Hid (∀ W, Calls Tryd.prog 59 #[.string (Tx.mk (s.drop 19)), .string ⟨#[43, 48, 48, 58, 48, 48]⟩] W (FtPost W (Rs.plus s))) := fun W => fits_is (s.drop 19) (Ft.zoneF 43) (by rw [List.length_drop]; omega) (Ft.few_zone 43) W
  obtain ⟨a', b', he, hab, hbb, h43⟩ := Rs.two_of (by decide) hp
  obtain ⟨rfl, rfl⟩ : a = a' ∧ b = b' := by simpa using he
  rw [Ft.drop_at] at h43
  have hl19 := (List.getElem?_eq_some_iff.1 h43).1
  have hl19' : (19 : Int) < (s.length : Int) := by omega
  have i19 := strIdx s 19 43 h43
  have a19 := strAt s 19 43 h43
  obtain ⟨R, hR⟩ : ∃ R, Rs.read s = R := ⟨_, rfl⟩
  rw [hR]
  have hbd := Sc.secs_bd (Ft.win s 0 19) 45 84
  unfold Rs.read at hR
  rw [if_neg (by omega), hp] at hR
  rw [hp] at HP
  rw [Ft.loc_stamp] at HLOC hR
  clear hp he h
  generalize Sc.secs (Ft.win s 0 19) 45 84 = q at *
  by_cases hq : q < 0
  · rw [if_pos hq] at HLOC hR
    have HR : Hid (R = none) := by show _ = _; rw [← hR]; rfl
    rw [HR.out]
    clear hR
    go_enter Tryd.func23, Tryd.ntmps23
    go_wp2_with (first | (go_at_call 58; refine (HLOC.out _).mono ?_; rintro e w1 ⟨rfl, hB1⟩) | (go_at_call 59; (with_reducible refine (HP.out _).mono ?_); intro e w2 hft; obtain ⟨bk, off, ca, rfl, c0, c1, hB2⟩ := FtPost.two hft; clear hft))
    go_quiet (fail)
    go_wp2_with fail
    go_ret3
    exact ⟨rfl, below_drewN (below_up hB1 hB2) _⟩
  · rw [if_neg hq] at HLOC hR
    have hR' : (if b ≤ 59 ∧ 60 * a + b ≤ 840 ∧ 0 ≤ q - 60 * (60 * a + b) ∧ q - 60 * (60 * a + b) ≤ 6311433599 then some (q - 60 * (60 * a + b), 60 * a + b) else none) = R := hR
    clear hR
    have hw1 : IntKind.i64.wrap (60 * a) = 60 * a := IntWalk.i64_in _ (by omega)
    have hw2 : IntKind.i64.wrap (60 * a + b) = 60 * a + b := IntWalk.i64_in _ (by omega)
    by_cases hb : b ≤ 59
    · have hb1 : decide (59 < b) = false := by simp; omega
      have hb2 : (59 < b) = False := by simp; omega
      by_cases hz : 60 * a + b ≤ 840
      · have hz1 : decide (840 < 60 * a + b) = false := by simp; omega
        have hz2 : (840 < 60 * a + b) = False := by simp; omega
        by_cases hm : 0 ≤ q - 60 * (60 * a + b) ∧ q - 60 * (60 * a + b) ≤ 6311433599
        · have HR : Hid (R = some (q - 60 * (60 * a + b), 60 * a + b)) := by show _ = _; rw [← hR', if_pos ⟨hb, hz, hm⟩]
          have HM := Lib.hid ((Ev.mom_iff _).2 hm)
          rw [HR.out]
          clear hR' hm
          go_enter Tryd.func23, Tryd.ntmps23
          go_wp2_with (first | (go_at_call 58; refine (HLOC.out _).mono ?_; rintro e w1 ⟨rfl, hB1⟩) | (go_at_call 59; (with_reducible refine (HP.out _).mono ?_); intro e w2 hft; obtain ⟨bk, off, ca, rfl, c0, c1, hB2⟩ := FtPost.two hft; clear hft))
          go_quiet (fail)
          go_wp2_with fail
          go_quiet (fail)
          go_wp2_with (go_at_call 33; refine (isMoment_is _ _ HM.out _).mono ?_; rintro e w9 ⟨rfl, rfl⟩)
          go_ret3
          exact ⟨rfl, below_drewN (below_up hB1 hB2) _⟩
        · have HR : Hid (R = none) := by show _ = _; rw [← hR', if_neg (fun h => hm h.2.2)]
          have HM : Hid (Ev.mom (q - 60 * (60 * a + b)) = false) := by show _ = _; rw [Ev.mom_no]; omega
          rw [HR.out]
          clear hR' hm
          go_enter Tryd.func23, Tryd.ntmps23
          go_wp2_with (first | (go_at_call 58; refine (HLOC.out _).mono ?_; rintro e w1 ⟨rfl, hB1⟩) | (go_at_call 59; (with_reducible refine (HP.out _).mono ?_); intro e w2 hft; obtain ⟨bk, off, ca, rfl, c0, c1, hB2⟩ := FtPost.two hft; clear hft))
          go_quiet (fail)
          go_wp2_with fail
          go_quiet (fail)
          go_wp2_with (go_at_call 33; refine (isMoment_is _ _ HM.out _).mono ?_; rintro e w9 ⟨rfl, rfl⟩)
          go_ret3
          exact ⟨rfl, below_drewN (below_up hB1 hB2) _⟩
      · have HR : Hid (R = none) := by show _ = _; rw [← hR', if_neg (fun h => hz h.2.1)]
        have hz1 : decide (840 < 60 * a + b) = true := by simp; omega
        have hz2 : (840 < 60 * a + b) = True := by simp; omega
        rw [HR.out]
        clear hR'
        go_enter Tryd.func23, Tryd.ntmps23
        go_wp2_with (first | (go_at_call 58; refine (HLOC.out _).mono ?_; rintro e w1 ⟨rfl, hB1⟩) | (go_at_call 59; (with_reducible refine (HP.out _).mono ?_); intro e w2 hft; obtain ⟨bk, off, ca, rfl, c0, c1, hB2⟩ := FtPost.two hft; clear hft))
        go_quiet (fail)
        go_wp2_with fail
        go_ret3
        exact ⟨rfl, below_drewN (below_up hB1 hB2) _⟩
    · have HR : Hid (R = none) := by show _ = _; rw [← hR', if_neg (fun h => hb h.1)]
      rw [HR.out]
      clear hR'
      go_enter Tryd.func23, Tryd.ntmps23
      go_wp2_with (first | (go_at_call 58; refine (HLOC.out _).mono ?_; rintro e w1 ⟨rfl, hB1⟩) | (go_at_call 59; (with_reducible refine (HP.out _).mono ?_); intro e w2 hft; obtain ⟨bk, off, ca, rfl, c0, c1, hB2⟩ := FtPost.two hft; clear hft))
      go_quiet (fail)
      go_wp2_with fail
      go_ret3
      exact ⟨rfl, below_drewN (below_up hB1 hB2) _⟩
end Go.Proofs.YthldlffkgafgaaaDoor
namespace Go.Proofs.YthldlffkgafgaaaDoor
open Go.RowKit Go.Sort Go.Shelf
set_option linter.unusedVariables false
set_option maxRecDepth 100000 in
set_option maxHeartbeats 8000000 in
theorem readStamp_rest (s : List UInt8) (hs : s.length ≤ 1000000000000) (h : 19 ≤ s.length) (hp : Rs.plus s = none) (w : World) :
    Calls Tryd.prog 23 #[.string (Tx.mk s)] w fun e w' => e = .returned (Rs.outV (Rs.read s)) ∧ Below w.heap.size w w' := by
  have hsz := Tx.mk_size s
  have h1 : ¬ (s.length : Int) < 19 := by omega
  have h2 : (19 : Int) ≤ (s.length : Int) := by omega
  have hx0 := ext_mk s 0 19
  have hx1 : (Tx.mk s).extract 19 s.length = Tx.mk (s.drop 19) := by rw [ext_mk]; unfold Ft.win; rw [List.take_of_length_le (by rw [List.length_drop]; exact Nat.le_refl _)]
  have HLOC : Hid (∀ W, Calls Tryd.prog 58 #[.string (Tx.mk (Ft.win s 0 19)), .string ⟨#[48, 48, 48, 48, 45, 48, 48, 45, 48, 48, 84, 48, 48, 58, 48, 48, 58, 48, 48]⟩] W fun e w' => e = .returned (.tuple #[.int .i64 ((Ft.loc (Ft.res (Ft.win s 0 19) Ft.stampF)).getD 0), .bool (Ft.loc (Ft.res (Ft.win s 0 19) Ft.stampF)).isSome]) ∧ Below W.heap.size W w') :=
    fun W => readLocal_is (Ft.win s 0 19) Ft.stampF (by rw [Ft.win_len s 0 19 h]; omega) Ft.few_stamp (Ft.six_stamp _) W
  have HP : Hid (∀ W, Calls Tryd.prog 59 #[.string (Tx.mk (s.drop 19)), .string ⟨#[43, 48, 48, 58, 48, 48]⟩] W (FtPost W (Rs.plus s))) := fun W => fits_is (s.drop 19) (Ft.zoneF 43) (by rw [List.length_drop]; omega) (Ft.few_zone 43) W
  have HQ : Hid (∀ W, Calls Tryd.prog 59 #[.string (Tx.mk (s.drop 19)), .string ⟨#[45, 48, 48, 58, 48, 48]⟩] W (FtPost W (Rs.minus s))) := fun W => fits_is (s.drop 19) (Ft.zoneF 45) (by rw [List.length_drop]; omega) (Ft.few_zone 45) W
  obtain ⟨R, hR⟩ : ∃ R, Rs.read s = R := ⟨_, rfl⟩
  rw [hR]
  have hbd := Sc.secs_bd (Ft.win s 0 19) 45 84
  unfold Rs.read at hR
  rw [if_neg (by omega), hp] at hR
  rw [hp] at HP
  rw [Ft.loc_stamp] at HLOC hR
  generalize Sc.secs (Ft.win s 0 19) 45 84 = q at *
  cases hm : Rs.minus s with
  | none =>
    rw [hm] at HQ hR
    have HR : Hid (R = none) := by show _ = _; rw [← hR]; unfold Rs.out; split <;> simp_all
    rw [HR.out]
    clear hR hp hm h
    by_cases hq : q < 0
    · rw [if_pos hq] at HLOC
      -- neither sign
      go_enter Tryd.func23, Tryd.ntmps23
      go_wp2_with (first | (go_at_call 58; refine (HLOC.out _).mono ?_; rintro e w1 ⟨rfl, hB1⟩) | (go_at_call 59; (with_reducible refine (HP.out _).mono ?_); intro e w2 hft; obtain ⟨rfl, hB2⟩ := FtPost.nope hft; clear hft) | (go_at_call 59; (with_reducible refine (HQ.out _).mono ?_); intro e w3 hft; obtain ⟨rfl, hB3⟩ := FtPost.nope hft; clear hft))
      go_quiet (fail)
      go_wp2_with fail
      go_ret3
      exact ⟨rfl, below_drewN (below_up (below_up hB1 hB2) hB3) _⟩
    · rw [if_neg hq] at HLOC
      -- neither sign
      go_enter Tryd.func23, Tryd.ntmps23
      go_wp2_with (first | (go_at_call 58; refine (HLOC.out _).mono ?_; rintro e w1 ⟨rfl, hB1⟩) | (go_at_call 59; (with_reducible refine (HP.out _).mono ?_); intro e w2 hft; obtain ⟨rfl, hB2⟩ := FtPost.nope hft; clear hft) | (go_at_call 59; (with_reducible refine (HQ.out _).mono ?_); intro e w3 hft; obtain ⟨rfl, hB3⟩ := FtPost.nope hft; clear hft))
      go_quiet (fail)
      go_wp2_with fail
      go_ret3
      exact ⟨rfl, below_drewN (below_up (below_up hB1 hB2) hB3) _⟩
  | some xs =>
    obtain ⟨a, b, rfl, hab, hbb, h45⟩ := Rs.two_of (by decide) hm
    rw [hm] at HQ hR
    rw [Ft.drop_at] at h45
    have hl19 := (List.getElem?_eq_some_iff.1 h45).1
    have hl19' : (19 : Int) < (s.length : Int) := by omega
    have i19 := strIdx s 19 45 h45
    have a19 := strAt s 19 45 h45
    clear hm hp h
    by_cases hzz : a = 0 ∧ b = 0
    · obtain ⟨rfl, rfl⟩ := hzz
      have HR : Hid (R = none) := by
        show _ = _; rw [← hR]
        by_cases hq : q < 0
        · rw [if_pos hq]; rfl
        · rw [if_neg hq]; simp [Rs.out]
      rw [HR.out]
      clear hR
      by_cases hq : q < 0
      · rw [if_pos hq] at HLOC
        go_enter Tryd.func23, Tryd.ntmps23
        go_wp2_with (first | (go_at_call 58; refine (HLOC.out _).mono ?_; rintro e w1 ⟨rfl, hB1⟩) | (go_at_call 59; (with_reducible refine (HP.out _).mono ?_); intro e w2 hft; obtain ⟨rfl, hB2⟩ := FtPost.nope hft; clear hft) | (go_at_call 59; (with_reducible refine (HQ.out _).mono ?_); intro e w3 hft; obtain ⟨bk, off, ca, rfl, c0, c1, hB3⟩ := FtPost.two hft; clear hft))
        go_quiet (fail)
        go_wp2_with fail
        go_ret3
        exact ⟨rfl, below_drewN (below_up (below_up hB1 hB2) hB3) _⟩
      · rw [if_neg hq] at HLOC
        go_enter Tryd.func23, Tryd.ntmps23
        go_wp2_with (first | (go_at_call 58; refine (HLOC.out _).mono ?_; rintro e w1 ⟨rfl, hB1⟩) | (go_at_call 59; (with_reducible refine (HP.out _).mono ?_); intro e w2 hft; obtain ⟨rfl, hB2⟩ := FtPost.nope hft; clear hft) | (go_at_call 59; (with_reducible refine (HQ.out _).mono ?_); intro e w3 hft; obtain ⟨bk, off, ca, rfl, c0, c1, hB3⟩ := FtPost.two hft; clear hft))
        go_quiet (fail)
        go_wp2_with fail
        go_ret3
        exact ⟨rfl, below_drewN (below_up (below_up hB1 hB2) hB3) _⟩
    · by_cases hq : q < 0
      · rw [if_pos hq] at HLOC hR
        have HR : Hid (R = none) := by show _ = _; rw [← hR]; rfl
        rw [HR.out]
        clear hR
        by_cases ha0 : a = 0
        · have hb0 : ¬ b = 0 := fun e => hzz ⟨ha0, e⟩
          subst ha0
          clear hzz
          go_enter Tryd.func23, Tryd.ntmps23
          go_wp2_with (first | (go_at_call 58; refine (HLOC.out _).mono ?_; rintro e w1 ⟨rfl, hB1⟩) | (go_at_call 59; (with_reducible refine (HP.out _).mono ?_); intro e w2 hft; obtain ⟨rfl, hB2⟩ := FtPost.nope hft; clear hft) | (go_at_call 59; (with_reducible refine (HQ.out _).mono ?_); intro e w3 hft; obtain ⟨bk, off, ca, rfl, c0, c1, hB3⟩ := FtPost.two hft; clear hft))
          go_quiet (fail)
          go_wp2_with fail
          go_ret3
          exact ⟨rfl, below_drewN (below_up (below_up hB1 hB2) hB3) _⟩
        · clear hzz
          go_enter Tryd.func23, Tryd.ntmps23
          go_wp2_with (first | (go_at_call 58; refine (HLOC.out _).mono ?_; rintro e w1 ⟨rfl, hB1⟩) | (go_at_call 59; (with_reducible refine (HP.out _).mono ?_); intro e w2 hft; obtain ⟨rfl, hB2⟩ := FtPost.nope hft; clear hft) | (go_at_call 59; (with_reducible refine (HQ.out _).mono ?_); intro e w3 hft; obtain ⟨bk, off, ca, rfl, c0, c1, hB3⟩ := FtPost.two hft; clear hft))
          go_quiet (fail)
          go_wp2_with fail
          go_ret3
          exact ⟨rfl, below_drewN (below_up (below_up hB1 hB2) hB3) _⟩
      · rw [if_neg hq] at HLOC hR
        have hR' : (if ¬ (a = 0 ∧ b = 0) ∧ b ≤ 59 ∧ 60 * a + b ≤ 840 ∧ 0 ≤ q - 60 * (-(60 * a + b)) ∧ q - 60 * (-(60 * a + b)) ≤ 6311433599 then some (q - 60 * (-(60 * a + b)), -(60 * a + b)) else none) = R := hR
        clear hR
        have hw1 : IntKind.i64.wrap (60 * a) = 60 * a := IntWalk.i64_in _ (by omega)
        have hw2 : IntKind.i64.wrap (60 * a + b) = 60 * a + b := IntWalk.i64_in _ (by omega)
        by_cases hok : b ≤ 59 ∧ 60 * a + b ≤ 840
        · obtain ⟨hb, hz⟩ := hok
          have hb1 : decide (59 < b) = false := by simp; omega
          have hb2 : (59 < b) = False := by simp; omega
          have hz1 : decide (840 < 60 * a + b) = false := by simp; omega
          have hz2 : (840 < 60 * a + b) = False := by simp; omega
          by_cases hm : 0 ≤ q - 60 * (-(60 * a + b)) ∧ q - 60 * (-(60 * a + b)) ≤ 6311433599
          · have HR : Hid (R = some (q - 60 * (-(60 * a + b)), -(60 * a + b))) := by show _ = _; rw [← hR', if_pos ⟨hzz, hb, hz, hm⟩]
            have HM := Lib.hid ((Ev.mom_iff _).2 hm)
            rw [HR.out]
            clear hR' hm
            by_cases ha0 : a = 0
            · have hb0 : ¬ b = 0 := fun e => hzz ⟨ha0, e⟩
              have ha1 : (a == 0) = true := by simpa using ha0
              clear hzz ha0
              go_enter Tryd.func23, Tryd.ntmps23
              go_wp2_with (first | (go_at_call 58; refine (HLOC.out _).mono ?_; rintro e w1 ⟨rfl, hB1⟩) | (go_at_call 59; (with_reducible refine (HP.out _).mono ?_); intro e w2 hft; obtain ⟨rfl, hB2⟩ := FtPost.nope hft; clear hft) | (go_at_call 59; (with_reducible refine (HQ.out _).mono ?_); intro e w3 hft; obtain ⟨bk, off, ca, rfl, c0, c1, hB3⟩ := FtPost.two hft; clear hft))
              go_quiet (fail)
              go_wp2_with fail
              go_quiet (fail)
              go_wp2_with (go_at_call 33; refine (isMoment_is _ _ HM.out _).mono ?_; rintro e w9 ⟨rfl, rfl⟩)
              go_ret3
              exact ⟨rfl, below_drewN (below_up (below_up hB1 hB2) hB3) _⟩
            · clear hzz
              go_enter Tryd.func23, Tryd.ntmps23
              go_wp2_with (first | (go_at_call 58; refine (HLOC.out _).mono ?_; rintro e w1 ⟨rfl, hB1⟩) | (go_at_call 59; (with_reducible refine (HP.out _).mono ?_); intro e w2 hft; obtain ⟨rfl, hB2⟩ := FtPost.nope hft; clear hft) | (go_at_call 59; (with_reducible refine (HQ.out _).mono ?_); intro e w3 hft; obtain ⟨bk, off, ca, rfl, c0, c1, hB3⟩ := FtPost.two hft; clear hft))
              go_quiet (fail)
              go_wp2_with fail
              go_quiet (fail)
              go_wp2_with (go_at_call 33; refine (isMoment_is _ _ HM.out _).mono ?_; rintro e w9 ⟨rfl, rfl⟩)
              go_ret3
              exact ⟨rfl, below_drewN (below_up (below_up hB1 hB2) hB3) _⟩
          · have HR : Hid (R = none) := by show _ = _; rw [← hR', if_neg (fun h => hm h.2.2.2)]
            have HM : Hid (Ev.mom (q - 60 * (-(60 * a + b))) = false) := by show _ = _; rw [Ev.mom_no]; omega
            rw [HR.out]
            clear hR' hm
            by_cases ha0 : a = 0
            · have hb0 : ¬ b = 0 := fun e => hzz ⟨ha0, e⟩
              have ha1 : (a == 0) = true := by simpa using ha0
              clear hzz ha0
              go_enter Tryd.func23, Tryd.ntmps23
              go_wp2_with (first | (go_at_call 58; refine (HLOC.out _).mono ?_; rintro e w1 ⟨rfl, hB1⟩) | (go_at_call 59; (with_reducible refine (HP.out _).mono ?_); intro e w2 hft; obtain ⟨rfl, hB2⟩ := FtPost.nope hft; clear hft) | (go_at_call 59; (with_reducible refine (HQ.out _).mono ?_); intro e w3 hft; obtain ⟨bk, off, ca, rfl, c0, c1, hB3⟩ := FtPost.two hft; clear hft))
              go_quiet (fail)
              go_wp2_with fail
              go_quiet (fail)
              go_wp2_with (go_at_call 33; refine (isMoment_is _ _ HM.out _).mono ?_; rintro e w9 ⟨rfl, rfl⟩)
              go_ret3
              exact ⟨rfl, below_drewN (below_up (below_up hB1 hB2) hB3) _⟩
            · clear hzz
              go_enter Tryd.func23, Tryd.ntmps23
              go_wp2_with (first | (go_at_call 58; refine (HLOC.out _).mono ?_; rintro e w1 ⟨rfl, hB1⟩) | (go_at_call 59; (with_reducible refine (HP.out _).mono ?_); intro e w2 hft; obtain ⟨rfl, hB2⟩ := FtPost.nope hft; clear hft) | (go_at_call 59; (with_reducible refine (HQ.out _).mono ?_); intro e w3 hft; obtain ⟨bk, off, ca, rfl, c0, c1, hB3⟩ := FtPost.two hft; clear hft))
              go_quiet (fail)
              go_wp2_with fail
              go_quiet (fail)
              go_wp2_with (go_at_call 33; refine (isMoment_is _ _ HM.out _).mono ?_; rintro e w9 ⟨rfl, rfl⟩)
              go_ret3
              exact ⟨rfl, below_drewN (below_up (below_up hB1 hB2) hB3) _⟩
        · have HR : Hid (R = none) := by show _ = _; rw [← hR', if_neg (fun h => hok ⟨h.2.1, h.2.2.1⟩)]
          rw [HR.out]
          clear hR'
          by_cases hb : b ≤ 59
          · have hb1 : decide (59 < b) = false := by simp; omega
            have hb2 : (59 < b) = False := by simp; omega
            have hz1 : decide (840 < 60 * a + b) = true := by simp; omega
            have hz2 : (840 < 60 * a + b) = True := by simp; omega
            by_cases ha0 : a = 0
            · omega
            · clear hzz hok
              go_enter Tryd.func23, Tryd.ntmps23
              go_wp2_with (first | (go_at_call 58; refine (HLOC.out _).mono ?_; rintro e w1 ⟨rfl, hB1⟩) | (go_at_call 59; (with_reducible refine (HP.out _).mono ?_); intro e w2 hft; obtain ⟨rfl, hB2⟩ := FtPost.nope hft; clear hft) | (go_at_call 59; (with_reducible refine (HQ.out _).mono ?_); intro e w3 hft; obtain ⟨bk, off, ca, rfl, c0, c1, hB3⟩ := FtPost.two hft; clear hft))
              go_quiet (fail)
              go_wp2_with fail
              go_ret3
              exact ⟨rfl, below_drewN (below_up (below_up hB1 hB2) hB3) _⟩
          · have hb1 : decide (59 < b) = true := by simp; omega
            have hb2 : (59 < b) = True := by simp; omega
            by_cases ha0 : a = 0
            · have hb0 : ¬ b = 0 := fun e => hzz ⟨ha0, e⟩
              clear hzz hok
              go_enter Tryd.func23, Tryd.ntmps23
              go_wp2_with (first | (go_at_call 58; refine (HLOC.out _).mono ?_; rintro e w1 ⟨rfl, hB1⟩) | (go_at_call 59; (with_reducible refine (HP.out _).mono ?_); intro e w2 hft; obtain ⟨rfl, hB2⟩ := FtPost.nope hft; clear hft) | (go_at_call 59; (with_reducible refine (HQ.out _).mono ?_); intro e w3 hft; obtain ⟨bk, off, ca, rfl, c0, c1, hB3⟩ := FtPost.two hft; clear hft))
              go_quiet (fail)
              go_wp2_with fail
              go_ret3
              exact ⟨rfl, below_drewN (below_up (below_up hB1 hB2) hB3) _⟩
            · clear hzz hok
              go_enter Tryd.func23, Tryd.ntmps23
              go_wp2_with (first | (go_at_call 58; refine (HLOC.out _).mono ?_; rintro e w1 ⟨rfl, hB1⟩) | (go_at_call 59; (with_reducible refine (HP.out _).mono ?_); intro e w2 hft; obtain ⟨rfl, hB2⟩ := FtPost.nope hft; clear hft) | (go_at_call 59; (with_reducible refine (HQ.out _).mono ?_); intro e w3 hft; obtain ⟨bk, off, ca, rfl, c0, c1, hB3⟩ := FtPost.two hft; clear hft))
              go_quiet (fail)
              go_wp2_with fail
              go_ret3
              exact ⟨rfl, below_drewN (below_up (below_up hB1 hB2) hB3) _⟩
theorem readStamp_is (s : List UInt8) (hs : s.length ≤ 1000000000000) (w : World) :
    Calls Tryd.prog 23 #[.string (Tx.mk s)] w fun e w' => e = .returned (Rs.outV (Rs.read s)) ∧ Below w.heap.size w w' := by
  by_cases h : s.length < 19
  · exact readStamp_short s h w
  · cases hp : Rs.plus s with
    | none => exact readStamp_rest s hs (by omega) hp w
    | some xs =>
      obtain ⟨a, b, rfl, _⟩ := Rs.two_of (by decide) hp
      exact readStamp_plus s hs (by omega) a b hp w
end Go.Proofs.YthldlffkgafgaaaDoor
