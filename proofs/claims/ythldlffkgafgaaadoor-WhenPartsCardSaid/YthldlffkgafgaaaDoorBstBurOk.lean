/- The contract of Bursts on moments. -/
import Derived.Test.YthldlffkgafgaaaDoorBstBur
namespace Go.Proofs.YthldlffkgafgaaaDoor
open Go.RowKit Go.Sort Go.Shelf
set_option linter.unusedVariables false
theorem Bst.flat_last (is : Bst.Ps) (p q : Int) : (Bst.flat (is ++ [(p, q)]))[is.length * 2 + 1]? = some (.int .i64 q) := by
  rw [Bst.flat_snoc, List.getElem?_append_right (by rw [Bst.flat_len]; omega), Bst.flat_len, show is.length * 2 + 1 - is.length * 2 = 1 by omega]; rfl
theorem values_is (a : Option Addr) (n ca : Nat) (w : World) : Calls Tryd.prog 55 #[.slice a n ca] w fun e w' => e = .returned (.func (.func 80) #[] #[.pointer (some ⟨w.heap.size, 0, none⟩)]) ∧ w' = w.alloc (.cells #[.slice a n ca] 36) := callsIn_wide.1 (values_in 1 a n ca w)
theorem sorted_is (a : Option Addr) (ca : Nat) (xs : List Int) (n : Nat) (hn : xs.length = n) (hn2 : n ≤ 1000000) (w : World) (hr : RowL w a xs) :
    Calls Tryd.prog 54 #[.func (.func 80) #[] #[.pointer (some ⟨w.heap.size, 0, none⟩)]] (w.alloc (.cells #[.slice a n ca] 36)) (RisePost (w.alloc (.cells #[.slice a n ca] 36)) xs) := by
  subst hn
  exact callsIn_wide.1 (sorted_in w.heap.size a ca xs hn2 w hr _ (below_allocs (Below.refl _ _) _) (by simp) (Boxed.new w 36 (.slice a xs.length ca)).cell)
set_option maxRecDepth 100000 in
set_option maxHeartbeats 4000000 in
theorem bur_ok (a : Option Addr) (xs : List Int) (ca : Nat) (gap : Int) (w : World) (hr : RowL w a xs) (c' : xs.length ≤ 1000) (hg : Ev.mom gap = true) (hv : Ev.anyB (fun x => !Ev.mom x) (fun i => xs[i]?.getD 0) xs.length = false) : Calls Tryd.prog 20 #[.slice a xs.length ca, .int .i64 gap] w (BurPost w xs gap) := by
  have HE := Lib.hid (Bst.err_ok c' hg hv)
  have HM := Lib.hid (isMoment_is gap true hg w)
  have HCF := Lib.hid (burWrong a xs.length ca _ w hr (by omega) false hv)
  have HALLM := Lib.hid (Bst.all_mom hv)
  have HSO := Lib.hid (sorted_is a ca xs _ rfl (by omega) w hr)
  obtain ⟨gp1, gp2⟩ := (Ev.mom_iff gap).1 hg
  obtain ⟨i0, hi, hz0, hz1', hz2⟩ := info_parts infoStretch
  have HI0 := Lib.hid hi; have HI1 := Lib.hid hz0; have HI2 := Lib.hid hz1'; have HI3 := Lib.hid hz2
  clear hr hi hz0 hz1' hz2 hg hv
  obtain ⟨n, hn⟩ : ∃ n, xs.length = n := ⟨_, rfl⟩
  rw [hn] at c' HCF HSO ⊢
  have HN := Lib.hid hn
  clear hn
  go_enter Tryd.func20, Tryd.ntmps20
  go_wp2_with (first
    | (go_at_call 33; (with_reducible refine HM.out.mono ?_); rintro e w' ⟨rfl, rfl⟩)
    | (go_at_call 52; (with_reducible refine HCF.out.mono ?_); rintro e w' ⟨rfl, rfl⟩)
    | (go_at_call 55; refine (values_is _ _ _ _).mono ?_; rintro e w' ⟨rfl, rfl⟩)
    | (go_at_call 54; refine HSO.out.mono ?_; rintro e w2 ⟨a2, ys, c2, rfl, hp, hs, hrow2, hB2⟩))
  have hB : Below w.heap.size w w2 := (below_allocs (Below.refl w.heap.size w) _).trans (hB2.mono (by simp))
  have hyl : ys.length = n := by rw [hp.length_eq, HN.out]
  have HYS := Lib.hid (Bst.srt_eq hp hs)
  have HYM := Lib.hid (fun x hx => HALLM.out x (hp.mem_iff.1 hx))
  have HYL := Lib.hid hyl
  have HROW := Lib.hid hrow2
  rw [hyl]
  clear hB2 hp hs hrow2 hyl
  go_loopg [6, 24] n (fun gk v i wr => ∃ (j : Nat), j ≤ n ∧ gk = n - j ∧ i = .int .i64 j ∧ wr.ownsRow w2.heap.size 45 2 v (Bst.upto gap ys j).length (Bst.flat (Bst.upto gap ys j)) ∧ (Bst.upto gap ys j = [] → v = .slice none 0 0) ∧ Bst.Ok (Bst.upto gap ys j) ∧ Below w2.heap.size w2 wr)
  case atStart => exact ⟨0, by omega, rfl, rfl, by rw [Bst.upto_0]; exact World.ownsRow_nil _ _ _ _, fun _ => rfl, by rw [Bst.upto_0]; exact Bst.Ok.nil, Below.refl _ _⟩
  case round =>
    obtain ⟨j, hj, rfl, rfl, hown, hnil, hok, hBr⟩ := hrel
    have hlen := Bst.upto_len gap ys j
    by_cases hlt : j < n
    · obtain ⟨b, off, rfl, hb, hcell⟩ := HROW.out.keep hBr (by rw [HYL.out]; omega)
      have hcx : wr.cell? ⟨b, off + j, none⟩ = some (.int .i64 (ys[j]?.getD 0)) := hcell j (by rw [HYL.out]; exact hlt)
      have hxj : ys[j]? = some (ys[j]?.getD 0) := by rw [List.getElem?_eq_getElem (by rw [HYL.out]; exact hlt)]; rfl
      have hxm := HYM.out _ (List.mem_of_getElem? hxj)
      have HXJ := Lib.hid (Bst.upto_succ (gap := gap) hxj)
      clear hcell hxj
      generalize ys[j]?.getD 0 = x at hcx HXJ hxm
      obtain ⟨x1, x2⟩ := hxm
      obtain ⟨ps, hps⟩ : ∃ ps, Bst.upto gap ys j = ps := ⟨_, rfl⟩
      rw [hps] at hown hnil hok HXJ hlen
      clear hps
      rcases List.eq_nil_or_concat ps with rfl | ⟨is, ⟨p, q⟩, rfl⟩
      · obtain rfl := hnil rfl
        have HF := Lib.hid (HXJ.out.trans (Bst.step_nil gap x))
        have hown0 : wr.ownsRow w2.heap.size 45 2 (.slice none 0 0) 0 [] := hown
        clear hown hnil hlen
        go_wp2_with (at_builtin; refine wpList_append_own2 _ rfl _ _ 41 rfl w2.heap.size 45 i0 (.agg #[.int .i64 0, .int .i64 0]) 2 16 Tryd.underlying41 HI0.out HI1.out HI2.out HI3.out rfl (by decide) _ _ _ rfl (hown0.alloc _) ⟨wr.heap.size, 0, none⟩ 1 1 [.int .i64 x, .int .i64 x] rfl (by decide) rfl (cell_two_new _ _ _ _) (by simp [Value.oneCell']) (by unfold maxLen; omega) (by omega) (by have := hBr.size; simp; omega) ?_; intro g cap w5 hown5 hgrow5 hnew5)
        have hBa := (below_allocs hBr (.cells #[.int .i64 x, .int .i64 x] 45)).grown hgrow5 (by simp; have := hBr.size; omega) (fun k e => by cases e)
        go_wp2_with fail
        go_roundg (n - (j + 1))
        case rel => exact ⟨j + 1, by omega, rfl, by go_num, by rw [HF.out]; exact hown5, by rw [HF.out]; exact fun h => by simp at h, by rw [HF.out]; exact Bst.Ok.snoc (ps := []) Bst.Ok.nil x1 x2, hBa⟩
        case measure => omega
      · rw [List.concat_eq_append] at *
        obtain ⟨q1, q2⟩ := hok.last
        obtain ⟨m, hm⟩ : ∃ m, is.length = m := ⟨_, rfl⟩
        have hm1 : (is ++ [(p, q)]).length = m + 1 := by simp [hm]
        have hfl := Bst.flat_last is p q
        rw [hm1] at hown hlen
        rw [hm] at hfl
        have HOK := Lib.hid hok
        rcases hown.2 with ⟨_, h0⟩ | ⟨g, cap, cur, rfl, _⟩
        · omega
        have cq : wr.cell? ⟨g, m * 2 + 1, none⟩ = some (.int .i64 q) := by rw [hown.cellAt (m * 2 + 1) (by omega)]; exact hfl
        have fq := hown.frozenAt (m * 2 + 1)
        have hgb := hown.lt g rfl
        clear hnil hok hfl
        by_cases hn : x - q ≤ gap
        · have HF := Lib.hid (HXJ.out.trans (Bst.step_near (is := is) (p := p) hn))
          have HST := Lib.hid (hown.stored (m * 2 + 1) (.int .i64 x)).1
          go_wp2_with fail
          go_roundg (n - (j + 1))
          case rel => exact ⟨j + 1, by omega, rfl, by go_num, by rw [HF.out]; (rw [show (is ++ [(p, x)]).length = m + 1 by simp [hm], ← Bst.flat_set is p q x, hm]; exact HST.out), by rw [HF.out]; exact fun h => by simp at h, by rw [HF.out]; exact Bst.Ok.snoc HOK.out.init x1 x2, hBr.setCell (p := ⟨g, m * 2 + 1, none⟩) hgb.1 _⟩
          case measure => omega
        · have HF := Lib.hid (HXJ.out.trans (Bst.step_far (is := is) (p := p) hn))
          go_wp2_with (at_builtin; refine wpList_append_own2 _ rfl _ _ 41 rfl w2.heap.size 45 i0 (.agg #[.int .i64 0, .int .i64 0]) 2 16 Tryd.underlying41 HI0.out HI1.out HI2.out HI3.out rfl (by decide) _ _ _ rfl (hown.alloc _) ⟨wr.heap.size, 0, none⟩ 1 1 [.int .i64 x, .int .i64 x] rfl (by decide) rfl (cell_two_new _ _ _ _) (by simp [Value.oneCell']) (by unfold maxLen; omega) (by omega) (by have := hBr.size; simp; omega) ?_; intro g5 cap5 w5 hown5 hgrow5 hnew5)
          have hBa := (below_allocs hBr (.cells #[.int .i64 x, .int .i64 x] 45)).grown hgrow5 (by simp; have := hBr.size; omega) (fun k e => by have := (hown.lt k e).1; omega)
          go_wp2_with fail
          go_roundg (n - (j + 1))
          case rel => exact ⟨j + 1, by omega, rfl, by go_num, by rw [HF.out]; (rw [Bst.flat_snoc, List.length_append, hm1]; exact hown5), by rw [HF.out]; exact fun h => by simp at h, by rw [HF.out]; exact Bst.Ok.snoc HOK.out x1 x2, hBa⟩
          case measure => omega
    · obtain rfl : j = n := by omega
      have hfl : Bst.all xs gap = Bst.upto gap ys j := by unfold Bst.all; rw [← HYS.out, HN.out]
      have HFL := Lib.hid hfl; clear hfl
      generalize Bst.upto gap ys j = ps at *
      have HX := Lib.hid hown
      clear hnil hok
      rcases hown.2 with ⟨rfl, h0⟩ | ⟨g, cap, cur, rfl, _, _, hcap, hcap2, _, _⟩
      · have h1 : ps = [] := List.eq_nil_of_length_eq_zero h0
        subst h1
        clear hown h0
        go_wp2_with (go_at_call 56; refine (clip_stretches none 0 0 _ (by omega) (by omega)).mono ?_; rintro e w' ⟨rfl, rfl⟩)
        go_ret2
        exact BurPost.good HE.out HFL.out rfl (RowP.nil _ _) (below_up hB hBr)
      · obtain ⟨m, hm⟩ : ∃ m, ps.length = m := ⟨_, rfl⟩
        have HM2 := Lib.hid hm
        rw [hm] at hcap
        rw [hm]
        have hcap3 : cap ≤ 9223372036854775807 := hcap2
        clear hown hm hcap2
        go_wp2_with (go_at_call 56; refine (clip_stretches _ m cap _ hcap hcap3).mono ?_; rintro e w' ⟨rfl, rfl⟩)
        go_ret2
        exact BurPost.good HE.out HFL.out HM2.out (RowP.of_own HX.out) (below_up hB hBr)
end Go.Proofs.YthldlffkgafgaaaDoor
