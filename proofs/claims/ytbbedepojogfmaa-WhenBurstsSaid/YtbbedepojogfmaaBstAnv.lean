/- The contract of Anniversaries. -/
import Derived.Maps.AppendAt
import Derived.Test.YtbbedepojogfmaaBstRes
import Derived.Test.YtbbedepojogfmaaBstAnn
import Derived.Test.YtbbedepojogfmaaIdxFunc
namespace Go.Proofs.Ytbbedepojogfmaa
open Go.RowKit Go.Sort Go.Shelf
set_option linter.unusedVariables false
theorem anv1_is (x : Int) (b : Bool) (h : An.pOut x = b) (w : World) : Calls Try.prog 86 #[.int .i64 x] w fun e w' => e = .returned (.bool b) ∧ w = w' := by
  unfold An.pOut at h
  cases b
  · have h' := of_decide_eq_false h
    clear h
    go_enter Try.func86, Try.ntmps86
    go_wp2_with (go_at_call 56; refine (outside_no _ _ _ _ (by omega) (by omega)).mono ?_; rintro e w' ⟨rfl, rfl⟩)
    go_ret
    exact ⟨rfl, rfl⟩
  · have h' := of_decide_eq_true h
    clear h
    go_enter Try.func86, Try.ntmps86
    go_wp2_with (go_at_call 56; refine (outside_yes _ _ _ _ h').mono ?_; rintro e w' ⟨rfl, rfl⟩)
    go_ret
    exact ⟨rfl, rfl⟩
theorem anv1_eg : ∀ args w, (callFunc 86 args).run Try.prog w = .ok (.enter 86 args) w := enters_of Try.func86 (by kernel_rfl) rfl
theorem anvWrong (a : Option Addr) (n ca : Nat) (z : Nat → Int) (w : World) (hr : Row w a n (fun i => .int .i64 (z i))) (hn : n ≤ 9223372036854775807) (b : Bool) (h : Ev.anyB An.pOut z n = b) :
    Calls Try.prog 82 #[.slice a n ca, .func (.func 86) #[] #[]] w fun e w' => e = .returned (.bool b) ∧ w = w' := by
  rw [← h]
  exact containsFunc_any _ _ An.pOut anv1_eg a n ca z w hn hr fun i _ => anv1_is _ _ rfl _
set_option maxRecDepth 100000 in
set_option maxHeartbeats 4000000 in
theorem anv_is (a : Option Addr) (xs : List Int) (ca : Nat) (day s : Int) (w : World) (hr : RowL w a xs) (hl : xs.length ≤ 9223372036854775807) : Calls Try.prog 45 #[.slice a xs.length ca, .int .i64 day, .int .i64 s] w (AnPost w xs day s) := by
  by_cases c : 1000 < xs.length
  · have HP := Lib.hid (AnPost.bad (w := w) (w' := w) (An.err_large (day := day) (s := s) c) (by omega) (Below.refl _ _))
    obtain ⟨n, hn⟩ : ∃ n, xs.length = n := ⟨_, rfl⟩
    rw [hn] at c hl ⊢
    clear hn hr
    go_enter Try.func45, Try.ntmps45
    go_wp2_with fail
    go_ret2
    exact HP.out
  · have c' : xs.length ≤ 1000 := by omega
    cases hv : Ev.anyB An.pOut (fun i => xs[i]?.getD 0) xs.length with
    | true =>
      have HP := Lib.hid (AnPost.bad (w := w) (w' := w) (An.err_range (day := day) (s := s) c' (.inl hv)) (by omega) (Below.refl _ _))
      have HCF := Lib.hid (anvWrong a xs.length ca _ w hr hl true hv)
      clear hv hr
      obtain ⟨n, hn⟩ : ∃ n, xs.length = n := ⟨_, rfl⟩
      rw [hn] at c hl c' HCF ⊢
      clear hn
      go_enter Try.func45, Try.ntmps45
      go_wp2_with (go_at_call 82; refine HCF.out.mono ?_; rintro e w' ⟨rfl, rfl⟩)
      go_ret2
      exact HP.out
    | false =>
      have HCF := Lib.hid (anvWrong a xs.length ca _ w hr hl false hv)
      by_cases cd : day < 0 ∨ 73048 < day
      · have HP := Lib.hid (AnPost.bad (w := w) (w' := w) (An.err_range (day := day) (s := s) c' (by omega)) (by omega) (Below.refl _ _))
        have HWR := Lib.hid (anv1_is day true (An.pOut_t cd) w)
        clear hv hr cd
        obtain ⟨n, hn⟩ : ∃ n, xs.length = n := ⟨_, rfl⟩
        rw [hn] at c hl c' HCF ⊢
        clear hn
        go_enter Try.func45, Try.ntmps45
        go_wp2_with (first
          | (go_at_call 82; (with_reducible refine HCF.out.mono ?_); rintro e w' ⟨rfl, rfl⟩)
          | (go_at_call 86; (with_reducible refine HWR.out.mono ?_); rintro e w' ⟨rfl, rfl⟩)
          | (go_at_call 56; fail; rintro e w' ⟨rfl, rfl⟩))
        go_ret2
        exact HP.out
      · have HWR := Lib.hid (anv1_is day false (An.pOut_f (by omega) (by omega)) w)
        by_cases cs : s < 0 ∨ 30 < s
        · have HP := Lib.hid (AnPost.bad (w := w) (w' := w) (An.err_range (day := day) (s := s) c' (by omega)) (by omega) (Below.refl _ _))
          have CS := Lib.hid cs
          clear hv hr cd cs
          obtain ⟨n, hn⟩ : ∃ n, xs.length = n := ⟨_, rfl⟩
          rw [hn] at c hl c' HCF ⊢
          clear hn
          go_enter Try.func45, Try.ntmps45
          go_wp2_with (first
            | (go_at_call 82; (with_reducible refine HCF.out.mono ?_); rintro e w' ⟨rfl, rfl⟩)
            | (go_at_call 86; (with_reducible refine HWR.out.mono ?_); rintro e w' ⟨rfl, rfl⟩)
            | (go_at_call 56; (refine (outside_yes _ _ _ _ CS.out).mono ?_); rintro e w' ⟨rfl, rfl⟩))
          go_ret2
          exact HP.out
        · have HE := Lib.hid (An.err_ok (day := day) (s := s) c' hv (by omega) (by omega) (by omega) (by omega))
          have HV := Lib.hid (fun i hi => Ev.anyB_none hv i hi)
          have HR := Lib.hid hr
          obtain ⟨i0, hi, hz0, hz1', hz2⟩ := info_parts infoInt
          have HI0 := Lib.hid hi; have HI1 := Lib.hid hz0; have HI2 := Lib.hid hz1'; have HI3 := Lib.hid hz2
          clear hr hv hi hz0 hz1' hz2
          obtain ⟨n, hn⟩ : ∃ n, xs.length = n := ⟨_, rfl⟩
          rw [hn] at c hl c' HCF HV ⊢
          have HN := Lib.hid hn
          clear hn
          have d1 : 0 ≤ day := by omega
          have d2 : day ≤ 73048 := by omega
          have s1 : 0 ≤ s := by omega
          have s2 : s ≤ 30 := by omega
          clear cd cs
          go_enter Try.func45, Try.ntmps45
          go_wp2_with (first
            | (go_at_call 82; (with_reducible refine HCF.out.mono ?_); rintro e w' ⟨rfl, rfl⟩)
            | (go_at_call 86; (with_reducible refine HWR.out.mono ?_); rintro e w' ⟨rfl, rfl⟩)
            | (go_at_call 56; (refine (outside_no _ _ _ _ s1 s2).mono ?_); rintro e w' ⟨rfl, rfl⟩))
          go_loopg [9, 31] n (fun gk v i wr => ∃ (j : Nat), j ≤ n ∧ gk = n - j ∧ i = .int .i64 j ∧ wr.ownsRow w.heap.size 3 1 v (An.flt xs day s j).length ((An.flt xs day s j).map (Value.int .i64)) ∧ (An.flt xs day s j = [] → v = .slice none 0 0) ∧ Below w.heap.size w wr)
          case atStart => exact ⟨0, by omega, rfl, rfl, by rw [An.flt_0]; exact World.ownsRow_nil _ _ _ _, fun _ => rfl, Below.refl _ _⟩
          case round =>
            obtain ⟨j, hj, rfl, rfl, hown, hnil, hB⟩ := hrel
            have hlen := An.flt_len xs day s j
            by_cases hlt : j < n
            · obtain ⟨b, off, rfl, hb, hcell⟩ := HR.out.keep hB (by rw [HN.out]; omega)
              have hcx : wr.cell? ⟨b, off + j, none⟩ = some (.int .i64 (xs[j]?.getD 0)) := hcell j (by rw [HN.out]; exact hlt)
              have hxj : xs[j]? = some (xs[j]?.getD 0) := by rw [List.getElem?_eq_getElem (by rw [HN.out]; exact hlt)]; rfl
              have hpo := HV.out j hlt
              have HXJ := Lib.hid hxj
              clear hcell hxj
              generalize xs[j]?.getD 0 = x at hcx hpo HXJ
              have hpo' := of_decide_eq_false hpo
              have x1 : 0 ≤ x := by omega
              have x2 : x ≤ 73048 := by omega
              have HDO := Lib.hid (dateOf_yes x wr x1 x2)
              clear hpo hpo'
              cases hy : An.yes x day s with
              | true =>
                have HY := Lib.hid hy
                have HF := Lib.hid (An.flt_t HXJ.out hy)
                have HNIL := Lib.hid hnil
                clear hy hnil
                generalize An.flt xs day s j = fs at *
                go_wp2_with (first
                  | (go_at_call 87; refine HDO.out.mono ?_; rintro e w2 ⟨y, m, d, hv, hn, rfl, hB2⟩; have HVD := Lib.hid hv; have HNm := Lib.hid hn; clear hv hn; have bn := Blk.new w2 #[.int .i64 y, .int .i64 m, .int .i64 d] 125; obtain ⟨r0, r1, r2⟩ := bn.three; have hB2' := below_allocs (below_up hB hB2) (.cells #[.int .i64 y, .int .i64 m, .int .i64 d] 125); have hown2 := (own_below hown hB2).alloc (.cells #[.int .i64 y, .int .i64 m, .int .i64 d] 125))
                  | (go_at_call 88; refine (isAnn_is y m d day s _ HVD.out d1 d2 s1 s2).mono ?_; rintro e w3 ⟨rfl, hB3⟩; rw [HNm.out, HY.out]; have hown3 := own_below hown2 hB3; have hBs := below_up hB2' hB3)
                  | (at_builtin; refine wpList_append_own2 _ rfl _ _ 29 rfl w.heap.size 3 i0 (.int .i64 0) 1 8 Try.underlying29 HI0.out HI1.out HI2.out HI3.out rfl (by decide) _ _ _ rfl (hown3.alloc _) ⟨w3.heap.size, 0, none⟩ 1 1 [.int .i64 x] rfl (by decide) rfl (cell_one_new _ _ _) (by simp [Value.oneCell']) (by unfold maxLen; omega) (by omega) (by have := hBs.size; simp; omega) ?_; intro g cap w5 hown5 hgrow5 hnew5))
                have hBa := (below_allocs hBs (.cells #[.int .i64 x] 3)).grown hgrow5 (by simp; have := hBs.size; omega) (fun k e => by have := (hown3.lt k e).1; omega)
                go_wp2_with fail
                go_roundg (n - (j + 1))
                case rel => exact ⟨j + 1, by omega, rfl, by go_num, by rw [HF.out, List.length_append, List.map_append]; exact hown5, fun h => by rw [HF.out] at h; simp at h, hBa⟩
                case measure => omega
              | false =>
                have HY := Lib.hid hy
                have HF := Lib.hid (An.flt_f HXJ.out hy)
                have HNIL := Lib.hid hnil
                clear hy hnil
                generalize An.flt xs day s j = fs at *
                go_wp2_with (first
                  | (go_at_call 87; refine HDO.out.mono ?_; rintro e w2 ⟨y, m, d, hv, hn, rfl, hB2⟩; have HVD := Lib.hid hv; have HNm := Lib.hid hn; clear hv hn; have bn := Blk.new w2 #[.int .i64 y, .int .i64 m, .int .i64 d] 125; obtain ⟨r0, r1, r2⟩ := bn.three; have hB2' := below_allocs (below_up hB hB2) (.cells #[.int .i64 y, .int .i64 m, .int .i64 d] 125); have hown2 := (own_below hown hB2).alloc (.cells #[.int .i64 y, .int .i64 m, .int .i64 d] 125))
                  | (go_at_call 88; refine (isAnn_is y m d day s _ HVD.out d1 d2 s1 s2).mono ?_; rintro e w3 ⟨rfl, hB3⟩; rw [HNm.out, HY.out]; have hown3 := own_below hown2 hB3; have hBs := below_up hB2' hB3))
                go_roundg (n - (j + 1))
                case rel => exact ⟨j + 1, by omega, rfl, by go_num, by rw [HF.out]; exact hown3, fun h => by rw [HF.out] at h; exact HNIL.out h, hBs⟩
                case measure => omega
            · obtain rfl : j = n := by omega
              have hfl : An.flt xs day s xs.length = An.flt xs day s j := by rw [HN.out]
              have HFL := Lib.hid hfl; clear hfl
              generalize An.flt xs day s j = fs at *
              have HNIL := Lib.hid hnil
              have HX := Lib.hid hown
              clear hnil
              rcases hown.2 with ⟨rfl, h0⟩ | ⟨g, cap, cur, rfl, _, _, hcap, hcap2, _, _⟩
              · have h1 : fs = [] := List.eq_nil_of_length_eq_zero h0
                subst h1
                clear hown h0
                go_wp2_with (go_at_call 57; refine (clip_ints none 0 0 _ (by omega) (by omega)).mono ?_; rintro e w' ⟨rfl, rfl⟩)
                go_ret2
                exact AnPost.nothing HE.out HFL.out hB
              · obtain ⟨m, hm⟩ : ∃ m, fs.length = m := ⟨_, rfl⟩
                have HM := Lib.hid hm
                rw [hm] at hcap
                rw [hm]
                have hcap3 : cap ≤ 9223372036854775807 := hcap2
                clear hown hm hcap2
                go_wp2_with (go_at_call 57; refine (clip_ints _ m cap _ hcap hcap3).mono ?_; rintro e w' ⟨rfl, rfl⟩)
                go_ret2
                exact AnPost.good HE.out HFL.out HM.out (RowL.of_own HX.out) hB
end Go.Proofs.Ytbbedepojogfmaa
