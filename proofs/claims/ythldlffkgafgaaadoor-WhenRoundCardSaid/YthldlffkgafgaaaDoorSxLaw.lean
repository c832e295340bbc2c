/- The law WhenSpans, walked. -/
import Derived.Test.YthldlffkgafgaaaDoorSxText3
namespace Go.Proofs.YthldlffkgafgaaaDoor
open Go.RowKit Go.Sort Go.Shelf
set_option linter.unusedVariables false
namespace Cal
theorem year_ex (n : Int) (h0 : 0 ≤ n) : ∀ k : Nat, n < bef (1900 + k) → ∃ y : Int, 1900 ≤ y ∧ y < 1900 + k ∧ bef y ≤ n ∧ n < bef (y + 1) := by
  intro k
  induction k with
  | zero => intro h; rw [show (1900 : Int) + (0 : Nat) = 1900 by omega, bef_1900] at h; omega
  | succ k ih =>
    intro h
    by_cases c : n < bef (1900 + k)
    · obtain ⟨y, h1, h2, h3, h4⟩ := ih c
      exact ⟨y, h1, by omega, h3, h4⟩
    · exact ⟨1900 + k, by omega, by omega, by omega, by rw [show (1900 : Int) + k + 1 = 1900 + ((k + 1 : Nat) : Int) by omega]; exact h⟩
theorem month_ex (y r : Int) (h0 : 0 ≤ r) : ∀ k : Nat, r < cum y (1 + k) → ∃ m : Int, 1 ≤ m ∧ m < 1 + k ∧ cum y m ≤ r ∧ r < cum y (m + 1) := by
  intro k
  induction k with
  | zero => intro h; rw [show (1 : Int) + (0 : Nat) = 1 by omega, cum_1] at h; omega
  | succ k ih =>
    intro h
    by_cases c : r < cum y (1 + k)
    · obtain ⟨m, h1, h2, h3, h4⟩ := ih c
      exact ⟨m, h1, by omega, h3, h4⟩
    · exact ⟨1 + k, by omega, by omega, by omega, by rw [show (1 : Int) + k + 1 = 1 + ((k + 1 : Nat) : Int) by omega]; exact h⟩
theorem date_ex (n : Int) (h0 : 0 ≤ n) (h1 : n ≤ 73048) : ∃ y m d : Int, vld y m d = true ∧ num y m d = n := by
  obtain ⟨y, hy1, hy2, hy3, hy4⟩ := year_ex n h0 200 (by rw [show (1900 : Int) + (200 : Nat) = 2100 by omega, bef_2100]; omega)
  have hs := bef_succ y
  obtain ⟨m, hm1, hm2, hm3, hm4⟩ := month_ex y (n - bef y) (by omega) 12 (by rw [show (1 : Int) + (12 : Nat) = 13 by omega, cum_13]; omega)
  have hc := cum_succ y m hm1 (by omega)
  exact ⟨y, m, n - bef y - cum y m + 1, (vld_iff _ _ _).2 ⟨hy1, by omega, hm1, by omega, by omega, by omega⟩, by unfold num; omega⟩
end Cal
/-- SpanText and SpanFor tell alike; and what they tell is read back. -/
theorem spans_both (F T : Int) : ∃ (s : List UInt8) (e : Int), (∀ w, Tx.Tab w → Mx w → Calls Tryd.prog 29 #[.agg #[.int .i64 F, .int .i64 T]] w fun r w' => r = .returned (.tuple #[.string (Tx.mk s), .int .i64 e]) ∧ Below w.heap.size w w') ∧
    (∀ w, Mx w → Calls Tryd.prog 30 #[.agg #[.int .i64 F, .int .i64 T]] w fun r w' => r = .returned (.tuple #[.string (Tx.mk s), .int .i64 e]) ∧ Below w.heap.size w w') ∧ (e = 0 → s.length ≤ 22 ∧ Sp.span s = (F, T, 0)) := by
  by_cases hm : Ev.mom F = true ∧ Ev.mom T = true
  · obtain ⟨hF, hT⟩ := hm
    have hf := (Ev.mom_iff _).1 hF
    have ht := (Ev.mom_iff _).1 hT
    by_cases ho : T < F
    · exact ⟨[], 5, fun w _ _ => spanText_order F T hF hT ho w, fun w _ => spanFor_order F T hF hT ho w, fun h => absurd h (by decide)⟩
    · have hle : F ≤ T := by omega
      obtain ⟨ya, ma, da, hva, hna⟩ := Cal.date_ex (F / 86400) (by omega) (by omega)
      obtain ⟨yb, mb, db, hvb, hnb⟩ := Cal.date_ex (T / 86400) (by omega) (by omega)
      have hva' : Sp.vld (ya, ma, da) = true := hva
      have hvb' : Sp.vld (yb, mb, db) = true := hvb
      obtain ⟨ca1, ca2, pma, pda, hA⟩ := sf_of ya ma da hva'
      obtain ⟨cb1, cb2, pmb, pdb, hB⟩ := sf_of yb mb db hvb'
      obtain ⟨al1, al2, al3⟩ := Sx.lens hva'
      obtain ⟨bl1, bl2, bl3⟩ := Sx.lens hvb'
      have hfor := fun w hmx => spanFor_ok F T ya ma da yb mb db _ _ _ _ _ _ ca1 ca2 cb1 cb2 pma pda pmb pdb (Sx.candR (Sx.u1 (ya, ma, da)) (Sx.u2 (ya, ma, da)) (Sx.u3 (ya, ma, da)) (Sx.u1 (yb, mb, db)) (Sx.u2 (yb, mb, db)) (Sx.u3 (yb, mb, db))) hF hT hle hna hnb hA hB rfl
        (fun k j hk hj => Sx.candR_two _ _ _ _ _ _ k j hk hj) rfl (Sx.candR_len (by omega) (by omega) (by omega) (by omega) (by omega) (by omega)) w hmx
      rw [Sx.text_ref hva'] at hfor
      by_cases hal : F % 86400 = 0 ∧ (T + 1) % 86400 = 0
      · have hok := Sx.text_ok (F := F) (T := T) hva' hvb' (show Sp.num (ya, ma, da) * 86400 = F by show Cal.num ya ma da * 86400 = F; rw [hna]; omega) (show Sp.num (yb, mb, db) * 86400 + 86399 = T by show Cal.num yb mb db * 86400 + 86399 = T; rw [hnb]; omega) hle
        refine ⟨Sx.text F T (ya, ma, da) (yb, mb, db), 0, fun w ht hmx => spanText_ok F T _ _ hva' hvb' hF hT hle hal.1 hal.2 hna hnb w ht hmx, fun w hmx => ?_, fun _ => ⟨?_, hok.1⟩⟩
        · have := hfor w hmx
          rwa [Sx.errOf_no hok.2] at this
        · have h1 := Sx.best_some (ok := Sx.ok F T) (Sx.cand_ne (v1 := Sx.u1 (yb, mb, db)) (v2 := Sx.u2 (yb, mb, db)) (v3 := Sx.u3 (yb, mb, db)) (Sx.u_ne hva').1 (Sx.u_ne hva').2.1 (Sx.u_ne hva').2.2) (s := Sx.u3 (ya, ma, da) ++ Sx.dots ++ Sx.u3 (yb, mb, db)) (by simp [Sx.candP]) ((Sx.ok_iff _ _ _).2 (by
            rw [Sx.span_days hva' hvb' (by show Cal.num ya ma da ≤ Cal.num yb mb db; omega)]
            show (Cal.num ya ma da * 86400, Cal.num yb mb db * 86400 + 86399, (0 : Int)) = _
            rw [hna, hnb, show F / 86400 * 86400 = F by omega, show T / 86400 * 86400 + 86399 = T by omega]))
          exact Sx.candP_len (by omega) (by omega) (by omega) (by omega) (by omega) (by omega) _ h1.1
      · have hno := Sx.text_no (a := (ya, ma, da)) (b := (yb, mb, db)) hal
        refine ⟨[], 1, fun w _ _ => spanText_form F T hF hT hle hal w, fun w hmx => ?_, fun h => absurd h (by decide)⟩
        have := hfor w hmx
        rw [hno] at this
        exact this
  · exact ⟨[], 2, fun w _ _ => spanText_mom F T hm w, fun w _ => spanFor_mom F T hm w, fun h => absurd h (by decide)⟩
set_option maxRecDepth 100000 in
set_option maxHeartbeats 2000000 in
theorem whenSpans_walk (F T : Int) (w : World) (ht : Tx.Tab w) (hmx : Mx w) : Calls Tryd.prog 8 #[.agg #[.int .i64 F, .int .i64 T]] w fun e w' => e = .returned (.bool true) ∧ Below w.heap.size w w' := by
  obtain ⟨s, e, h1, h2, _⟩ := spans_both F T
  have H1 := Lib.hid h1
  have H2 := Lib.hid h2
  obtain ⟨W1, hW1, hX, hz, hB1⟩ := box w #[.int .i64 F, .int .i64 T] 45
  have HW1 := Lib.hid hW1
  have HT1 := Lib.hid (Tx.tab_below ht hB1)
  have hM1 := hmx.below hB1
  have HM1 := Lib.hid hM1
  obtain ⟨c0, c1⟩ := hX.two
  clear hW1 h1 h2 ht hmx hM1
  go_enter Tryd.func8, Tryd.ntmps8
  go_wp2_with fail
  rw [HW1.out]
  go_wp2_with fail
  go_at_call 29
  refine (H1.out _ HT1.out HM1.out).mono ?_
  rintro r w2 ⟨rfl, hB2⟩
  obtain ⟨d0, d1⟩ := (hX.keep hB2).two
  have HM2 := Lib.hid (HM1.out.below hB2)
  go_wp2_with fail
  go_at_call 30
  refine (H2.out _ HM2.out).mono ?_
  rintro r w3 ⟨rfl, hB3⟩
  go_wp2_with fail
  go_ret
  exact ⟨rfl, below_up (below_up hB1 hB2) hB3⟩
end Go.Proofs.YthldlffkgafgaaaDoor
