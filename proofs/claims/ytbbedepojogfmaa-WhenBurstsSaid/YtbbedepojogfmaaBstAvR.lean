/- The contract of the reference's AgainOf. -/
import Derived.Maps.AppendAt
import Derived.Test.YtbbedepojogfmaaBstRes
import Derived.Test.YtbbedepojogfmaaBstAnnR
import Derived.Test.YtbbedepojogfmaaBstClone
namespace Go.Proofs.Ytbbedepojogfmaa
open Go.RowKit Go.Sort Go.Shelf
set_option linter.unusedVariables false
theorem snoc_at {xs : List Int} {d : Int} {n : Nat} (hn : xs.length = n) : (xs ++ [d])[n]? = some d := by rw [← hn]; simp
theorem snoc_lt {xs : List Int} {d : Int} {j : Nat} (hj : j < xs.length) : (xs ++ [d])[j]? = some (xs[j]?.getD 0) := by
  rw [List.getElem?_append_left hj, List.getElem?_eq_getElem hj]; rfl
set_option maxRecDepth 100000 in
set_option maxHeartbeats 4000000 in
theorem avR_is (a : Option Addr) (xs : List Int) (ca : Nat) (day s : Int) (w : World) (hr : RowL w a xs) (hl : xs.length ≤ 9223372036854775807) : Calls Try.prog 46 #[.slice a xs.length ca, .int .i64 day, .int .i64 s] w (AnPost w xs day s) := by
  by_cases c : 1000 < xs.length
  · have HP := Lib.hid (AnPost.bad (w := w) (w' := w) (An.err_large (day := day) (s := s) c) (by omega) (Below.refl _ _))
    obtain ⟨n, hn⟩ : ∃ n, xs.length = n := ⟨_, rfl⟩
    rw [hn] at c hl ⊢
    clear hn hr
    go_enter Try.func46, Try.ntmps46
    go_wp2_with fail
    go_ret2
    exact HP.out
  · have c' : xs.length ≤ 1000 := by omega
    have HCL := Lib.hid (cloned_any a xs ca w hr (by omega))
    have HR := Lib.hid hr
    obtain ⟨i0, hi, hz0, hz1', hz2⟩ := info_parts infoInt
    have HI0 := Lib.hid hi; have HI1 := Lib.hid hz0; have HI2 := Lib.hid hz1'; have HI3 := Lib.hid hz2
    clear hr hi hz0 hz1' hz2
    obtain ⟨n, hn⟩ : ∃ n, xs.length = n := ⟨_, rfl⟩
    rw [hn] at c hl c' HCL ⊢
    have HN := Lib.hid hn
    clear hn
    go_enter Try.func46, Try.ntmps46
    go_wp2_with (first
      | (go_at_call 89; refine HCL.out.mono ?_; rintro e w1 ⟨v, rfl, hown, hB1⟩)
      | (at_builtin; refine wpList_append_own2 _ rfl _ _ 29 rfl w.heap.size 3 i0 (.int .i64 0) 1 8 Try.underlying29 HI0.out HI1.out HI2.out HI3.out rfl (by decide) _ _ _ rfl (hown.alloc _) ⟨w1.heap.size, 0, none⟩ 1 1 [.int .i64 day] rfl (by decide) rfl (cell_one_new _ _ _) (by simp [Value.oneCell']) (by unfold maxLen; omega) (by omega) (by have := hB1.size; simp; omega) ?_; intro g cap w2 hown2 hgrow2 hnew2; have hB2 := (below_allocs hB1 (.cells #[.int .i64 day] 3)).grown hgrow2 (by simp; have := hB1.size; omega) (fun k e => by have := (hown.lt k e).1; omega)))
    rw [show (xs.map (Value.int .i64)) ++ [Value.int .i64 day] = (xs ++ [day]).map (Value.int .i64) by simp] at hown2
    have hB2' : Below w.heap.size w w2 := hB2
    clear hB2 hown hgrow2 hnew2 hB1
    go_loopg [22] (n + 1) (fun gk i wr => ∃ (j : Nat), j ≤ n + 1 ∧ gk = n + 1 - j ∧ i = .int .i64 j ∧ (∀ k x, k < j → (xs ++ [day])[k]? = some x → 0 ≤ x ∧ x ≤ 73048) ∧ wr.ownsRow w.heap.size 3 1 (.slice (some ⟨g, 0, none⟩) (n + 1) cap) (n + 1) ((xs ++ [day]).map (Value.int .i64)) ∧ Below w.heap.size w wr)
    case atStart => exact ⟨0, by omega, rfl, rfl, fun k x hk => by omega, hown2, hB2'⟩
    case round =>
      clear hown2 hB2'
      obtain ⟨j, hj, rfl, rfl, hall, hown, hB⟩ := hrel
      have HALL := Lib.hid hall; clear hall
      by_cases hlt : j < n + 1
      · obtain ⟨x, hx⟩ : ∃ x, (xs ++ [day])[j]? = some x := ⟨_, List.getElem?_eq_getElem (by simp [HN.out]; omega)⟩
        have cx := row_own_cell hown j x hx
        have HX := Lib.hid hx; clear hx
        by_cases ho : x < 0 ∨ 73048 < x
        · have HP : Hid (∀ w', Below w.heap.size w w' → AnPost w xs day s (.returned (.tuple #[.slice none 0 0, .int .i64 2])) w') := by
            refine Lib.hid fun w' hb => AnPost.bad (An.err_range (by rw [HN.out]; exact c') ?_) (by omega) hb
            by_cases hjn : j < n
            · refine .inl (Ev.anyB_yes j (by rw [HN.out]; exact hjn) (An.pOut_t ?_))
              have h1 := HX.out
              rw [snoc_lt (by rw [HN.out]; exact hjn)] at h1
              cases h1; exact ho
            · obtain rfl : j = n := by omega
              have h1 := HX.out
              rw [snoc_at HN.out] at h1
              cases h1; omega
          by_cases ho1 : x < 0
          · clear ho
            go_wp2_with fail
            go_ret2
            exact HP.out _ hB
          · have ho2 : 73048 < x := by omega
            clear ho
            go_wp2_with fail
            go_ret2
            exact HP.out _ hB
        · have hx1 : 0 ≤ x := by omega
          have hx2 : x ≤ 73048 := by omega
          clear ho
          go_wp2_with fail
          go_roundg (n + 1 - (j + 1))
          case rel => exact ⟨j + 1, by omega, rfl, by go_num, fun k z hk hz => by (by_cases e : k = j); (subst e; rw [HX.out] at hz; cases hz; exact ⟨hx1, hx2⟩); exact HALL.out k z (by omega) hz, hown, hB⟩
          case measure => omega
      · obtain rfl : j = n + 1 := by omega
        have HV : Hid (∀ i, i < n → 0 ≤ xs[i]?.getD 0 ∧ xs[i]?.getD 0 ≤ 73048) := Lib.hid fun i hi => HALL.out i _ (by omega) (snoc_lt (by rw [HN.out]; exact hi))
        obtain ⟨d1, d2⟩ := HALL.out n day (by omega) (snoc_at HN.out)
        clear hown HALL
        by_cases cs : s < 0 ∨ 30 < s
        · have HP := Lib.hid (AnPost.bad (w := w) (w' := wr) (An.err_range (day := day) (s := s) (by rw [HN.out]; exact c') (by omega)) (by omega) hB)
          by_cases cs1 : s < 0
          · clear cs
            go_wp2_with fail
            go_ret2
            exact HP.out
          · have cs2 : 30 < s := by omega
            clear cs
            go_wp2_with fail
            go_ret2
            exact HP.out
        · have s1 : 0 ≤ s := by omega
          have s2 : s ≤ 30 := by omega
          clear cs
          have HE := Lib.hid (An.err_ok (xs := xs) (day := day) (s := s) (by rw [HN.out]; exact c') (Ev.anyB_no fun i hi => An.pOut_f (HV.out i (by rw [← HN.out]; exact hi)).1 (HV.out i (by rw [← HN.out]; exact hi)).2) d1 d2 s1 s2)
          go_wp2_with fail
          go_loopg [10, 41] n (fun gk v i wz => ∃ (j : Nat), j ≤ n ∧ gk = n - j ∧ i = .int .i64 j ∧ wz.ownsRow w.heap.size 3 1 v (An.flt xs day s j).length ((An.flt xs day s j).map (Value.int .i64)) ∧ (An.flt xs day s j = [] → v = .slice none 0 0) ∧ Below w.heap.size w wz)
          case atStart => exact ⟨0, by omega, rfl, rfl, by rw [An.flt_0]; exact World.ownsRow_nil _ _ _ _, fun _ => rfl, hB⟩
          case round =>
            clear hB
            obtain ⟨j, hj, rfl, rfl, hown, hnil, hB⟩ := hrel
            have hlen := An.flt_len xs day s j
            by_cases hlt : j < n
            · obtain ⟨b, off, rfl, hb, hcell⟩ := HR.out.keep hB (by rw [HN.out]; omega)
              obtain ⟨x1, x2⟩ := HV.out j hlt
              have hxj : xs[j]? = some (xs[j]?.getD 0) := by rw [List.getElem?_eq_getElem (by rw [HN.out]; exact hlt)]; rfl
              have hcx : World.cell? _ ⟨b, off + j, none⟩ = some (.int .i64 (xs[j]?.getD 0)) := hcell j (by rw [HN.out]; exact hlt)
              have HXJ := Lib.hid hxj
              clear hcell hxj
              generalize xs[j]?.getD 0 = x at hcx HXJ x1 x2
              obtain ⟨yb, hyb⟩ : ∃ yb, An.yes x day s = yb := ⟨_, rfl⟩
              have HRE := Lib.hid (fun W => returns_is x day s W x1 x2 d1 d2 s1 s2)
              rw [hyb] at HRE
              cases hy : yb with
              | true =>
                subst hy
                have HF := Lib.hid (An.flt_t HXJ.out hyb)
                have HNIL := Lib.hid hnil
                clear hyb hnil
                generalize An.flt xs day s j = fs at *
                go_wp2_with (first
                  | (go_at_call 90; refine (HRE.out _).mono ?_; rintro e w3 ⟨rfl, hB3⟩; have hown3 := own_below hown hB3; have hBs := below_up hB hB3)
                  | (at_builtin; refine wpList_append_own2 _ rfl _ _ 29 rfl w.heap.size 3 i0 (.int .i64 0) 1 8 Try.underlying29 HI0.out HI1.out HI2.out HI3.out rfl (by decide) _ _ _ rfl (hown3.alloc _) ⟨w3.heap.size, 0, none⟩ 1 1 [.int .i64 x] rfl (by decide) rfl (cell_one_new _ _ _) (by simp [Value.oneCell']) (by unfold maxLen; omega) (by omega) (by have := hBs.size; simp; omega) ?_; intro g cap w5 hown5 hgrow5 hnew5))
                have hBa := (below_allocs hBs (.cells #[.int .i64 x] 3)).grown hgrow5 (by simp; have := hBs.size; omega) (fun k e => by have := (hown3.lt k e).1; omega)
                go_wp2_with fail
                go_roundg (n - (j + 1))
                case rel => exact ⟨j + 1, by omega, rfl, by go_num, by rw [HF.out, List.length_append, List.map_append]; exact hown5, fun h => by rw [HF.out] at h; simp at h, hBa⟩
                case measure => omega
              | false =>
                subst hy
                have HF := Lib.hid (An.flt_f HXJ.out hyb)
                have HNIL := Lib.hid hnil
                clear hyb hnil
                generalize An.flt xs day s j = fs at *
                go_wp2_with (go_at_call 90; refine (HRE.out _).mono ?_; rintro e w3 ⟨rfl, hB3⟩; have hown3 := own_below hown hB3; have hBs := below_up hB hB3)
                go_roundg (n - (j + 1))
                case rel => exact ⟨j + 1, by omega, rfl, by go_num, by rw [HF.out]; exact hown3, fun h => by rw [HF.out] at h; exact HNIL.out h, hBs⟩
                case measure => omega
            · obtain rfl : j = n := by omega
              have hfl : An.flt xs day s xs.length = An.flt xs day s j := by rw [HN.out]
              have HFL := Lib.hid hfl; clear hfl
              generalize An.flt xs day s j = fs at *
              have HX := Lib.hid hown
              clear hnil
              rcases hown.2 with ⟨rfl, h0⟩ | ⟨g, cap, cur, rfl, _, _, hcap, hcap2, _, _⟩
              · have h1 : fs = [] := List.eq_nil_of_length_eq_zero h0
                subst h1
                clear hown h0
                go_wp2_with fail
                go_ret2
                exact AnPost.nothing HE.out HFL.out hB
              · obtain ⟨m, hm⟩ : ∃ m, fs.length = m := ⟨_, rfl⟩
                have HM := Lib.hid hm
                rw [hm]
                clear hown hm hcap2 hcap
                go_wp2_with fail
                go_ret2
                exact AnPost.good HE.out HFL.out HM.out (RowL.of_own HX.out) hB
end Go.Proofs.Ytbbedepojogfmaa
