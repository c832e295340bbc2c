/- The contracts of the reference's BurstsError and BurstsOf. -/
import Derived.Test.YtbbedepojogfmaaBstBurOk
namespace Go.Proofs.Ytbbedepojogfmaa
open Go.RowKit Go.Sort Go.Shelf
set_option linter.unusedVariables false
set_option maxRecDepth 100000 in
set_option maxHeartbeats 4000000 in
theorem burErr_is (a : Option Addr) (xs : List Int) (ca : Nat) (gap : Int) (w : World) (hr : RowL w a xs) (hl : xs.length ≤ 9223372036854775807) : Calls Try.prog 47 #[.slice a xs.length ca, .int .i64 gap] w fun e w' => e = .returned (.int .i64 (Bst.err xs gap)) ∧ w = w' := by
  by_cases c : 1000 < xs.length
  · rw [Bst.err_large c]
    obtain ⟨n, hn⟩ : ∃ n, xs.length = n := ⟨_, rfl⟩
    rw [hn] at c hl ⊢
    clear hn hr
    go_enter Try.func47, Try.ntmps47
    go_wp2_with fail
    go_ret
    exact ⟨rfl, rfl⟩
  · have c' : xs.length ≤ 1000 := by omega
    obtain ⟨q, hq⟩ : ∃ q, Bst.err xs gap = q := ⟨_, rfl⟩
    rw [hq]
    have HQ := Lib.hid hq
    have HR := Lib.hid hr
    have HC := Lib.hid c'
    clear hq hr
    obtain ⟨n, hn⟩ : ∃ n, xs.length = n := ⟨_, rfl⟩
    rw [hn] at c hl c' ⊢
    have HN := Lib.hid hn
    clear hn
    go_enter Try.func47, Try.ntmps47
    go_wp2_with fail
    go_loopg [12] n (fun gk i wr => ∃ (j : Nat), j ≤ n ∧ gk = n - j ∧ i = .int .i64 j ∧ (∀ k, k < j → Ev.mom (xs[k]?.getD 0) = true) ∧ w = wr)
    case atStart => exact ⟨0, by omega, rfl, rfl, fun k hk => by omega, rfl⟩
    case round =>
      obtain ⟨j, hj, rfl, rfl, hall, rfl⟩ := hrel
      have HALL := Lib.hid hall; clear hall
      by_cases hlt : j < n
      · obtain ⟨b, off, rfl, hb, hcell⟩ := HR.out (by rw [HN.out]; omega)
        have hcx : World.cell? _ ⟨b, off + j, none⟩ = some (.int .i64 (xs[j]?.getD 0)) := hcell j (by rw [HN.out]; exact hlt)
        clear hcell
        cases hx : Ev.mom (xs[j]?.getD 0) with
        | true =>
          have HX := Lib.hid hx
          clear hx
          have HMM := Lib.hid (fun W => moment_is _ true HX.out W)
          have HNX : Hid (∀ k, k < j + 1 → Ev.mom (xs[k]?.getD 0) = true) := Lib.hid fun k hk => by
            by_cases e : k = j
            · exact e ▸ HX.out
            · exact HALL.out k (by omega)
          generalize xs[j]?.getD 0 = x at hcx HMM
          go_wp2_with (go_at_call 51; refine (HMM.out _).mono ?_; rintro e w' ⟨rfl, rfl⟩)
          go_roundg (n - (j + 1))
          case rel => exact ⟨j + 1, by omega, rfl, by go_num, HNX.out, rfl⟩
          case measure => omega
        | false =>
          have HX := Lib.hid hx
          clear hx
          have HMM := Lib.hid (fun W => moment_is _ false HX.out W)
          have HE := Lib.hid (Bst.err_range (gap := gap) HC.out (.inr (Ev.anyB_yes (p := fun x => !Ev.mom x) (z := fun i => xs[i]?.getD 0) j (by rw [HN.out]; exact hlt) (by rw [HX.out]; rfl))))
          generalize xs[j]?.getD 0 = x at hcx HMM
          go_wp2_with (go_at_call 51; refine (HMM.out _).mono ?_; rintro e w' ⟨rfl, rfl⟩)
          go_ret
          exact ⟨ret_int (by rw [← HQ.out, HE.out]), rfl⟩
      · obtain rfl : j = n := by omega
        cases hg : Ev.mom gap with
        | true =>
          have HMM := Lib.hid (fun W => moment_is gap true hg W)
          have HE := Lib.hid (Bst.err_ok HC.out hg (Ev.anyB_no fun i hi => by rw [HALL.out i (by rw [← HN.out]; exact hi)]; rfl))
          clear hg
          go_wp2_with (go_at_call 51; refine (HMM.out _).mono ?_; rintro e w' ⟨rfl, rfl⟩)
          go_ret
          exact ⟨ret_int (by rw [← HQ.out, HE.out]), rfl⟩
        | false =>
          have HMM := Lib.hid (fun W => moment_is gap false hg W)
          have HE := Lib.hid (Bst.err_range (xs := xs) (gap := gap) HC.out (.inl hg))
          clear hg
          go_wp2_with (go_at_call 51; refine (HMM.out _).mono ?_; rintro e w' ⟨rfl, rfl⟩)
          go_ret
          exact ⟨ret_int (by rw [← HQ.out, HE.out]), rfl⟩
def BurOfPost (w : World) (ps : Bst.Ps) (e : Ending) (w' : World) : Prop := ∃ a ca, e = .returned (.slice a ps.length ca) ∧ RowP w' a ps ∧ Below w.heap.size w w'
set_option maxRecDepth 100000 in
set_option maxHeartbeats 4000000 in
theorem burOf_is (a : Option Addr) (xs : List Int) (ca : Nat) (gap : Int) (w : World) (hr : RowL w a xs) (c' : xs.length ≤ 1000) (hg : Ev.mom gap = true) (hv : Ev.anyB (fun x => !Ev.mom x) (fun i => xs[i]?.getD 0) xs.length = false) : Calls Try.prog 49 #[.slice a xs.length ca, .int .i64 gap] w (BurOfPost w (Bst.all xs gap)) := by
  obtain ⟨qs, hqs⟩ : ∃ qs, Bst.all xs gap = qs := ⟨_, rfl⟩
  rw [hqs]
  have HQS := Lib.hid hqs; clear hqs
  have HALLM := Lib.hid (Bst.all_mom hv)
  have HSO := Lib.hid (rising_any a xs ca w hr (by omega))
  obtain ⟨gp1, gp2⟩ := (Ev.mom_iff gap).1 hg
  obtain ⟨i0, hi, hz0, hz1', hz2⟩ := info_parts infoStretch
  have HI0 := Lib.hid hi; have HI1 := Lib.hid hz0; have HI2 := Lib.hid hz1'; have HI3 := Lib.hid hz2
  clear hr hi hz0 hz1' hz2 hg hv
  obtain ⟨n, hn⟩ : ∃ n, xs.length = n := ⟨_, rfl⟩
  rw [hn] at c' HSO ⊢
  have HN := Lib.hid hn
  clear hn
  go_enter Try.func49, Try.ntmps49
  go_wp2_with (go_at_call 58; refine HSO.out.mono ?_; rintro e w2 ⟨a2, ys, c2, rfl, hp, hs, hrow2, hB2⟩)
  have hB : Below w.heap.size w w2 := hB2
  have hyl : ys.length = n := by rw [hp.length_eq, HN.out]
  have HYS := Lib.hid (Bst.srt_eq hp hs)
  have HYM := Lib.hid (fun x hx => HALLM.out x (hp.mem_iff.1 hx))
  have HYL := Lib.hid hyl
  have HROW := Lib.hid hrow2
  rw [hyl]
  clear hB2 hp hs hrow2 hyl
  go_loopg [5, 12] n (fun gk v i wr => ∃ (j : Nat), j ≤ n ∧ gk = n - j ∧ i = .int .i64 j ∧ wr.ownsRow w2.heap.size 81 2 v (Bst.upto gap ys j).length (Bst.flat (Bst.upto gap ys j)) ∧ (Bst.upto gap ys j = [] → v = .slice none 0 0) ∧ Bst.Ok (Bst.upto gap ys j) ∧ Below w2.heap.size w2 wr)
  case atStart => exact ⟨0, by omega, rfl, rfl, by rw [Bst.upto_0]; exact World.ownsRow_nil _ _ _ _, fun _ => rfl, by rw [Bst.upto_0]; exact Bst.Ok.nil, Below.refl _ _⟩
  case round =>
    obtain ⟨j, hj, rfl, rfl, hown, hnil, hok, hBr⟩ := hrel
    have hlen := Bst.upto_len gap ys j
    by_cases hlt : j < n
    · obtain ⟨b, off, rfl, hb, hcell⟩ := HROW.out.keep hBr (by rw [HYL.out]; omega)
      have hcx : wr.cell? ⟨b, off + j, none⟩ = some (.int .i64 (ys[j]?.getD 0)) := hcell j (by rw [HYL.out]; exact hlt)
      have hxj : ys[j]? = some (ys[j]?.getD 0) := by rw [List.getElem?_eq_getElem (by rw [HYL.out]; exact hlt)]; rfl
      have hxm := HYM.out _ (List.mem_of_getElem? hxj)
      have HXJ := Lib.hid (Bst.upto_succ (gap := gap) hxj)
      clear hcell hxj
      generalize ys[j]?.getD 0 = x at hcx HXJ hxm
      obtain ⟨x1, x2⟩ := hxm
      obtain ⟨ps, hps⟩ : ∃ ps, Bst.upto gap ys j = ps := ⟨_, rfl⟩
      rw [hps] at hown hnil hok HXJ hlen
      clear hps
      rcases List.eq_nil_or_concat ps with rfl | ⟨is, ⟨p, q⟩, rfl⟩
      · obtain rfl := hnil rfl
        have HF := Lib.hid (HXJ.out.trans (Bst.step_nil gap x))
        have hown0 : wr.ownsRow w2.heap.size 81 2 (.slice none 0 0) 0 [] := hown
        clear hown hnil hlen
        go_wp2_with (at_builtin; refine wpList_append_own2 _ rfl _ _ 74 rfl w2.heap.size 81 i0 (.agg #[.int .i64 0, .int .i64 0]) 2 16 Try.underlying74 HI0.out HI1.out HI2.out HI3.out rfl (by decide) _ _ _ rfl (hown0.alloc _) ⟨wr.heap.size, 0, none⟩ 1 1 [.int .i64 x, .int .i64 x] rfl (by decide) rfl (cell_two_new _ _ _ _) (by simp [Value.oneCell']) (by unfold maxLen; omega) (by omega) (by have := hBr.size; simp; omega) ?_; intro g cap w5 hown5 hgrow5 hnew5)
        have hBa := (below_allocs hBr (.cells #[.int .i64 x, .int .i64 x] 81)).grown hgrow5 (by simp; have := hBr.size; omega) (fun k e => by cases e)
        go_wp2_with fail
        go_roundg (n - (j + 1))
        case rel => exact ⟨j + 1, by omega, rfl, by go_num, by rw [HF.out]; exact hown5, by rw [HF.out]; exact fun h => by simp at h, by rw [HF.out]; exact Bst.Ok.snoc (ps := []) Bst.Ok.nil x1 x2, hBa⟩
        case measure => omega
      · rw [List.concat_eq_append] at *
        obtain ⟨q1, q2⟩ := hok.last
        obtain ⟨m, hm⟩ : ∃ m, is.length = m := ⟨_, rfl⟩
        have hm1 : (is ++ [(p, q)]).length = m + 1 := by simp [hm]
        have hfl := Bst.flat_last is p q
        rw [hm1] at hown hlen
        rw [hm] at hfl
        have HOK := Lib.hid hok
        rcases hown.2 with ⟨_, h0⟩ | ⟨g, cap, cur, rfl, _⟩
        · omega
        have cq : wr.cell? ⟨g, m * 2 + 1, none⟩ = some (.int .i64 q) := by rw [hown.cellAt (m * 2 + 1) (by omega)]; exact hfl
        have fq := hown.frozenAt (m * 2 + 1)
        have hgb := hown.lt g rfl
        clear hnil hok hfl
        by_cases hn : x - q ≤ gap
        · have HF := Lib.hid (HXJ.out.trans (Bst.step_near (is := is) (p := p) hn))
          have HST := Lib.hid (hown.stored (m * 2 + 1) (.int .i64 x)).1
          go_wp2_with fail
          go_roundg (n - (j + 1))
          case rel => exact ⟨j + 1, by omega, rfl, by go_num, by rw [HF.out]; (rw [show (is ++ [(p, x)]).length = m + 1 by simp [hm], ← Bst.flat_set is p q x, hm]; exact HST.out), by rw [HF.out]; exact fun h => by simp at h, by rw [HF.out]; exact Bst.Ok.snoc HOK.out.init x1 x2, hBr.setCell (p := ⟨g, m * 2 + 1, none⟩) hgb.1 _⟩
          case measure => omega
        · have HF := Lib.hid (HXJ.out.trans (Bst.step_far (is := is) (p := p) hn))
          go_wp2_with (at_builtin; refine wpList_append_own2 _ rfl _ _ 74 rfl w2.heap.size 81 i0 (.agg #[.int .i64 0, .int .i64 0]) 2 16 Try.underlying74 HI0.out HI1.out HI2.out HI3.out rfl (by decide) _ _ _ rfl (hown.alloc _) ⟨wr.heap.size, 0, none⟩ 1 1 [.int .i64 x, .int .i64 x] rfl (by decide) rfl (cell_two_new _ _ _ _) (by simp [Value.oneCell']) (by unfold maxLen; omega) (by omega) (by have := hBr.size; simp; omega) ?_; intro g5 cap5 w5 hown5 hgrow5 hnew5)
          have hBa := (below_allocs hBr (.cells #[.int .i64 x, .int .i64 x] 81)).grown hgrow5 (by simp; have := hBr.size; omega) (fun k e => by have := (hown.lt k e).1; omega)
          go_wp2_with fail
          go_roundg (n - (j + 1))
          case rel => exact ⟨j + 1, by omega, rfl, by go_num, by rw [HF.out]; (rw [Bst.flat_snoc, List.length_append, hm1]; exact hown5), by rw [HF.out]; exact fun h => by simp at h, by rw [HF.out]; exact Bst.Ok.snoc HOK.out x1 x2, hBa⟩
          case measure => omega
    · obtain rfl : j = n := by omega
      have hfl : Bst.upto gap ys j = qs := by rw [← HQS.out]; unfold Bst.all; rw [← HYS.out, HN.out]
      rw [hfl] at hown hnil hok hlen
      clear hfl
      have HX := Lib.hid hown
      clear hnil hok
      rcases hown.2 with ⟨rfl, h0⟩ | ⟨g, cap, cur, rfl, _, _, hcap, hcap2, _, _⟩
      · have h1 : qs = [] := List.eq_nil_of_length_eq_zero h0
        subst h1
        clear hown h0
        go_wp2_with fail
        go_ret
        exact ⟨none, 0, rfl, RowP.nil _ _, below_up hB hBr⟩
      · have HPO : Hid (∀ w', Below w.heap.size w w' → RowP w' (some ⟨g, 0, none⟩) qs → BurOfPost w qs (.returned (.slice (some ⟨g, 0, none⟩) qs.length cap)) w') := Lib.hid fun w' hb hr => ⟨_, cap, rfl, hr, hb⟩
        obtain ⟨m, hm⟩ : ∃ m, qs.length = m := ⟨_, rfl⟩
        rw [hm] at HPO ⊢
        clear hown hm hcap2 hcap
        go_wp2_with fail
        go_ret
        exact HPO.out _ (below_up hB hBr) (RowP.of_own HX.out)
end Go.Proofs.Ytbbedepojogfmaa
