/- fits: the numbers at the places where a form has digits. -/
import Derived.Maps.AppendAt
import Derived.WalkMore
import Derived.Test.YthldlffkgafgaaaDoorFtMath
import Derived.Test.YthldlffkgafgaaaDoorDigits
import Derived.Test.YthldlffkgafgaaaDoorInts
namespace Go.Proofs.YthldlffkgafgaaaDoor
open Go.RowKit Go.Sort Go.Shelf
set_option linter.unusedVariables false
/-- What fits returns. -/
def FtPost (w : World) (r : Option (List Int)) (e : Ending) (w' : World) : Prop :=
  (r = none ∧ e = .returned (.tuple #[.slice none 0 0, .bool false]) ∧ Below w.heap.size w w') ∨
  (∃ xs a ca, r = some xs ∧ e = .returned (.tuple #[.slice a xs.length ca, .bool true]) ∧ RowL w' a xs ∧ Below w.heap.size w w' ∧ ∀ x, a = some x → w.heap.size ≤ x.block)
theorem FtPost.no {w w' : World} {r : Option (List Int)} (h : r = none) (hB : Below w.heap.size w w') : FtPost w r (.returned (.tuple #[.slice none 0 0, .bool false])) w' := .inl ⟨h, rfl, hB⟩
theorem own_keep {W W' : World} {B : Nat} {e : TypeId} {size : Nat} {v : Value} {n : Nat} {xs : List Value} (h : W.ownsRow B e size v n xs) (hb : Below W.heap.size W W') : W'.ownsRow B e size v n xs := by
  refine ⟨h.1, ?_⟩
  rcases h.2 with hn | ⟨g, cap, cur, rfl, hB, hgg, rest⟩
  · exact .inl hn
  · exact .inr ⟨g, cap, cur, rfl, hB, (hb.block g (Array.getElem?_eq_some_iff.1 hgg).1).trans hgg, rest⟩
set_option maxRecDepth 100000 in
set_option maxHeartbeats 8000000 in
theorem fits_is (s form : List UInt8) (hs : s.length ≤ 1000000000000) (hf : Ft.Few form) (w : World) :
    Calls Tryd.prog 59 #[.string (Tx.mk s), .string (Tx.mk form)] w (FtPost w (Ft.res s form)) := by
  have hsz := Tx.mk_size s
  have hfz := Tx.mk_size form
  have hfl : form.length ≤ 19 := by rcases hf with h | ⟨h, _⟩ <;> omega
  obtain ⟨R, hR⟩ : ∃ R, Ft.res s form = R := ⟨_, rfl⟩
  rw [hR]
  by_cases h0 : s.length = form.length
  · have HL := Lib.hid h0
    have hgo : Ft.go s form (form.length + 1) 0 0 [] = R := by rw [← hR]; unfold Ft.res; rw [if_pos h0]
    have HGO := Lib.hid hgo
    have HF := Lib.hid hf
    obtain ⟨i0, hi, hz0, hz1', hz2⟩ := info_parts infoInt
    have HI0 := Lib.hid hi; have HI1 := Lib.hid hz0; have HI2 := Lib.hid hz1'; have HI3 := Lib.hid hz2
    obtain ⟨n, hn⟩ : ∃ n, form.length = n := ⟨_, rfl⟩
    have HN := Lib.hid hn
    have hsn : s.length = n := by omega
    have HSN := Lib.hid hsn
    rw [hn] at hfz hfl
    rw [hsn] at hsz
    clear hi hz0 hz1' hz2 hR hgo hf h0 hn hsn hs
    go_enter Tryd.func59, Tryd.ntmps59
    go_wp2_with fail
    go_step3
    go_wp2_with fail
    go_step3
    go_wp2_with fail
    go_loopg [4, 6, 7] (n + 1) (fun gk v f i wr => ∃ (fr j : Nat) (acc : List Int), fr ≤ j ∧ j ≤ n + 1 ∧ gk = n + 1 - j ∧ f = .int .i64 fr ∧ i = .int .i64 j ∧ Ft.go s form (n + 1 - j) j fr acc = R ∧ (∀ k, fr ≤ k → k < j → form[k]? = some 48) ∧ acc.length ≤ j ∧ wr.ownsRow w.heap.size 3 1 v acc.length (acc.map (Value.int .i64)) ∧ Below w.heap.size w wr)
    case atStart => exact ⟨0, 0, [], by omega, by omega, by omega, rfl, rfl, by rw [← HGO.out, HN.out]; rfl, fun k _ h => by omega, by simp, World.ownsRow_nil _ _ _ _, Below.refl _ _⟩
    case round =>
      obtain ⟨fr, j, acc, hfr, hj, rfl, rfl, rfl, hgo, hall, hal, hown, hB⟩ := hrel
      by_cases hjn : j ≤ n
      · have hk : n + 1 - j = (n - j) + 1 := by omega
        rw [hk] at hgo
        by_cases hlt : j < n
        · obtain ⟨c, hc⟩ : ∃ c, form[j]? = some c := ⟨_, List.getElem?_eq_getElem (by rw [HN.out]; exact hlt)⟩
          obtain ⟨d, hd⟩ : ∃ d, s[j]? = some d := ⟨_, List.getElem?_eq_getElem (by rw [HSN.out]; exact hlt)⟩
          have hic := strIdx form j c hc
          have hid := strIdx s j d hd
          have hjf : (j : Int) < (n : Int) := by omega
          by_cases h48 : c = 48
          · subst h48
            rw [Ft.go_zero hc] at hgo
            have HG := Lib.hid hgo
            have HALL : Hid (∀ k, fr ≤ k → k < j + 1 → form[k]? = some 48) := by
              intro k h1 h2
              by_cases e : k = j
              · rw [e]; exact hc
              · exact hall k h1 (by omega)
            have HC := Lib.hid hc
            clear hgo hall hc hd hid
            go_wp2_with fail
            go_roundg (n - j)
            case rel => exact ⟨fr, j + 1, acc, by omega, by omega, by omega, rfl, by go_num, by rw [show n + 1 - (j + 1) = n - j by omega]; exact HG.out, HALL.out, by omega, hown, hB⟩
            case measure => omega
          · have hn48 : form[j]? ≠ some 48 := by rw [hc]; intro e; injection e with e; exact h48 e
            have c1 : ¬ (c.toNat : Int) = 48 := by
              intro e; apply h48; apply UInt8.toNat_inj.1; have : c.toNat = 48 := by omega
              rw [this]; rfl
            have c2 : ((c.toNat : Int) == 48) = false := by simpa using c1
            by_cases hg : fr < j
            · -- a group of digits ends at j; FTSEP: what follows it
              have hw18 : j - fr ≤ 18 := Ft.few HF.out (by rw [HN.out]; omega) (by omega) hall
              have hwl := Ft.win_len s fr j (by rw [HSN.out]; omega)
              have hwn := Ft.win_ne hg (by rw [HSN.out]; omega : j ≤ s.length)
              have hext := ext_mk s fr j
              have HD := Lib.hid (digits_is (Ft.win s fr j) (by omega) wr)
              have hfrj : (fr : Int) < (j : Int) := by omega
              have hg1 : decide ((fr : Int) < (j : Int)) = true := decide_eq_true hfrj
              cases hd1 : Dg.allD (Ft.win s fr j)
              · rw [if_neg (by rw [hd1]; simp), if_neg (by rw [hd1]; simp)] at HD
                have HR : Hid (R = none) := by show _ = _; rw [← hgo]; exact Ft.go_bad hn48 hg hd1
                generalize Ft.win s fr j = ws at *
                clear hgo hall hc hn48 hd1
                go_wp2_with (go_at_call 81; (first | rw [hext] | skip); refine HD.out.mono ?_; rintro e w5 ⟨rfl, hB5⟩)
                rw [Exit.noGoto_ret]
                go_ret2
                exact FtPost.no HR.out (below_up hB hB5)
              · rw [if_pos ⟨hwn, hd1⟩, if_pos ⟨hwn, hd1⟩] at HD
                -- j < n: the separator; w6: the world; acc ++ [(Dg.val (Ft.win s fr j) : Int)]: the numbers; (by rw [List.length_append, List.map_append]; exact hown6): their row; ((below_allocs hBs (.cells #[.int .i64 (Dg.val (Ft.win s fr j) : Int)] 3)).grown hgrow6 (by simp; have := hBs.size; omega) (fun k e => by have := (hown5.lt k e).1; omega)): the Below fact; go_num hn48 hg hd1 go_numSep hn48 hg hd1: how the plain function goes on; (first | (go_at_call 81; (first | rw [hext] | skip); refine HD.out.mono ?_; rintro e w5 ⟨rfl, hB5⟩; have hown5 := own_keep hown hB5; have hBs := below_up hB hB5) | (at_builtin; refine wpList_append_own2 _ rfl _ _ 36 rfl w.heap.size 3 i0 (.int .i64 0) 1 8 Tryd.underlying36 HI0.out HI1.out HI2.out HI3.out rfl (by decide) _ _ _ rfl (hown5.alloc _) ⟨w5.heap.size, 0, none⟩ 1 1 [.int .i64 (Dg.val (Ft.win s fr j) : Int)] rfl (by decide) rfl (cell_one_new _ _ _) (by simp [Value.oneCell']) (by unfold maxLen; omega) (by omega) (by have := hBs.size; simp; omega) ?_; intro g cap w6 hown6 hgrow6 hnew6)): the arms
                have jd : decide ((j : Int) < (n : Int)) = true := decide_eq_true hjf
                have jt : ((j : Int) < (n : Int)) = True := eq_true hjf
                have jd2 : decide (j < n) = true := decide_eq_true hlt
                have jt2 : (j < n) = True := eq_true hlt
                by_cases hsep : d = c
                · have heq : s[j]? = form[j]? := by rw [hc, hd, hsep]
                  have HG : Hid (Ft.go s form (n - j) (j + 1) (j + 1) (acc ++ [(Dg.val (Ft.win s fr j) : Int)]) = R) := by
                    show _ = _
                    rw [← hgo]; exact (Ft.go_num hn48 hg hd1 (fun h => h.2 heq)).symm
                  subst hsep
                  have hq1 : ((d.toNat : Int) != (d.toNat : Int)) = false := by simp
                  clear hgo hall hc hd hn48 heq
                  go_wp2_with (first | (go_at_call 81; (first | rw [hext] | skip); refine HD.out.mono ?_; rintro e w5 ⟨rfl, hB5⟩; have hown5 := own_keep hown hB5; have hBs := below_up hB hB5) | (at_builtin; refine wpList_append_own2 _ rfl _ _ 36 rfl w.heap.size 3 i0 (.int .i64 0) 1 8 Tryd.underlying36 HI0.out HI1.out HI2.out HI3.out rfl (by decide) _ _ _ rfl (hown5.alloc _) ⟨w5.heap.size, 0, none⟩ 1 1 [.int .i64 (Dg.val (Ft.win s fr j) : Int)] rfl (by decide) rfl (cell_one_new _ _ _) (by simp [Value.oneCell']) (by unfold maxLen; omega) (by omega) (by have := hBs.size; simp; omega) ?_; intro g cap w6 hown6 hgrow6 hnew6))
                  go_quiet (fail)
                  go_wp2_with fail
                  go_roundg (n - j)
                  case rel => exact ⟨j + 1, j + 1, acc ++ [(Dg.val (Ft.win s fr j) : Int)], by omega, by omega, by omega, by go_num, by go_num, by rw [show n + 1 - (j + 1) = n - j by omega]; exact HG.out, fun k h1 h2 => by omega, by first | omega | (simp; omega), own_keep (by rw [List.length_append, List.map_append]; exact hown6) (below_drewN (Below.refl _ _) _), below_drewN ((below_allocs hBs (.cells #[.int .i64 (Dg.val (Ft.win s fr j) : Int)] 3)).grown hgrow6 (by simp; have := hBs.size; omega) (fun k e => by have := (hown5.lt k e).1; omega)) _⟩
                  case measure => omega
                · have heq : s[j]? ≠ form[j]? := by rw [hc, hd]; intro e; injection e with e; exact hsep e
                  have HR : Hid (R = none) := by
                    show _ = _
                    rw [← hgo]; exact Ft.go_numSep hn48 hg hd1 (by rw [HN.out]; exact hlt) heq
                  have hne : ¬ (d.toNat : Int) = (c.toNat : Int) := by intro e; apply hsep; apply UInt8.toNat_inj.1; omega
                  have hq1 : ((d.toNat : Int) != (c.toNat : Int)) = true := by simpa using hne
                  have hq2 : ((d.toNat : Int) == (c.toNat : Int)) = false := by simpa using hne
                  clear hgo hall hc hd hn48 heq
                  go_wp2_with (first | (go_at_call 81; (first | rw [hext] | skip); refine HD.out.mono ?_; rintro e w5 ⟨rfl, hB5⟩; have hown5 := own_keep hown hB5; have hBs := below_up hB hB5) | (at_builtin; refine wpList_append_own2 _ rfl _ _ 36 rfl w.heap.size 3 i0 (.int .i64 0) 1 8 Tryd.underlying36 HI0.out HI1.out HI2.out HI3.out rfl (by decide) _ _ _ rfl (hown5.alloc _) ⟨w5.heap.size, 0, none⟩ 1 1 [.int .i64 (Dg.val (Ft.win s fr j) : Int)] rfl (by decide) rfl (cell_one_new _ _ _) (by simp [Value.oneCell']) (by unfold maxLen; omega) (by omega) (by have := hBs.size; simp; omega) ?_; intro g cap w6 hown6 hgrow6 hnew6))
                  go_quiet (fail)
                  go_wp2_with fail
                  rw [Exit.noGoto_ret]
                  go_ret2
                  exact FtPost.no HR.out (below_drewN ((below_allocs hBs (.cells #[.int .i64 (Dg.val (Ft.win s fr j) : Int)] 3)).grown hgrow6 (by simp; have := hBs.size; omega) (fun k e => by have := (hown5.lt k e).1; omega)) _)
            · obtain rfl : j = fr := by omega
              -- j < n: the separator; wr: the world; acc: the numbers; hown: their row; hB: the Below fact; go_sep hn48 hg go_sepBad hn48 hg: how the plain function goes on; fail: the arms
              have jd : decide ((j : Int) < (n : Int)) = true := decide_eq_true hjf
              have jt : ((j : Int) < (n : Int)) = True := eq_true hjf
              have jd2 : decide (j < n) = true := decide_eq_true hlt
              have jt2 : (j < n) = True := eq_true hlt
              by_cases hsep : d = c
              · have heq : s[j]? = form[j]? := by rw [hc, hd, hsep]
                have HG : Hid (Ft.go s form (n - j) (j + 1) (j + 1) (acc) = R) := by
                  show _ = _
                  rw [← hgo]; exact (Ft.go_sep hn48 hg (fun h => h.2 heq)).symm
                subst hsep
                have hq1 : ((d.toNat : Int) != (d.toNat : Int)) = false := by simp
                clear hgo hall hc hd hn48 heq
                go_wp2_with fail
                go_quiet (fail)
                go_wp2_with fail
                go_roundg (n - j)
                case rel => exact ⟨j + 1, j + 1, acc, by omega, by omega, by omega, by go_num, by go_num, by rw [show n + 1 - (j + 1) = n - j by omega]; exact HG.out, fun k h1 h2 => by omega, by first | omega | (simp; omega), own_keep hown (below_drewN (Below.refl _ _) _), below_drewN hB _⟩
                case measure => omega
              · have heq : s[j]? ≠ form[j]? := by rw [hc, hd]; intro e; injection e with e; exact hsep e
                have HR : Hid (R = none) := by
                  show _ = _
                  rw [← hgo]; exact Ft.go_sepBad hn48 hg (by rw [HN.out]; exact hlt) heq
                have hne : ¬ (d.toNat : Int) = (c.toNat : Int) := by intro e; apply hsep; apply UInt8.toNat_inj.1; omega
                have hq1 : ((d.toNat : Int) != (c.toNat : Int)) = true := by simpa using hne
                have hq2 : ((d.toNat : Int) == (c.toNat : Int)) = false := by simpa using hne
                clear hgo hall hc hd hn48 heq
                go_wp2_with fail
                go_quiet (fail)
                go_wp2_with fail
                rw [Exit.noGoto_ret]
                go_ret2
                exact FtPost.no HR.out (below_drewN hB _)
        · obtain rfl : j = n := by omega
          have hc : form[j]? = none := List.getElem?_eq_none (by rw [HN.out]; exact Nat.le_refl _)
          have hn48 : form[j]? ≠ some 48 := by rw [hc]; simp
          have hjf : ¬ (j : Int) < (j : Int) := by omega
          by_cases hg : fr < j
          · -- a group of digits ends at j; FTEND: what follows it
            have hw18 : j - fr ≤ 18 := Ft.few HF.out (by rw [HN.out]; omega) (by omega) hall
            have hwl := Ft.win_len s fr j (by rw [HSN.out]; omega)
            have hwn := Ft.win_ne hg (by rw [HSN.out]; omega : j ≤ s.length)
            have hext := ext_mk s fr j
            have HD := Lib.hid (digits_is (Ft.win s fr j) (by omega) wr)
            have hfrj : (fr : Int) < (j : Int) := by omega
            have hg1 : decide ((fr : Int) < (j : Int)) = true := decide_eq_true hfrj
            cases hd1 : Dg.allD (Ft.win s fr j)
            · rw [if_neg (by rw [hd1]; simp), if_neg (by rw [hd1]; simp)] at HD
              have HR : Hid (R = none) := by show _ = _; rw [← hgo]; exact Ft.go_bad hn48 hg hd1
              generalize Ft.win s fr j = ws at *
              clear hgo hall hc hn48 hd1
              go_wp2_with (go_at_call 81; (first | rw [hext] | skip); refine HD.out.mono ?_; rintro e w5 ⟨rfl, hB5⟩)
              rw [Exit.noGoto_ret]
              go_ret2
              exact FtPost.no HR.out (below_up hB hB5)
            · rw [if_pos ⟨hwn, hd1⟩, if_pos ⟨hwn, hd1⟩] at HD
              -- j is the form's end
              have HG : Hid (Ft.go s form (j - j) (j + 1) (j + 1) (acc ++ [(Dg.val (Ft.win s fr j) : Int)]) = R) := by
                show _ = _
                rw [← hgo]; exact (Ft.go_num hn48 hg hd1 (fun h => by have := h.1; rw [HN.out] at this; omega)).symm
              have jd : decide ((j : Int) < (j : Int)) = false := decide_eq_false hjf
              have jt : ((j : Int) < (j : Int)) = False := eq_false hjf
              clear hgo hall hc hn48
              go_wp2_with (first | (go_at_call 81; (first | rw [hext] | skip); refine HD.out.mono ?_; rintro e w5 ⟨rfl, hB5⟩; have hown5 := own_keep hown hB5; have hBs := below_up hB hB5) | (at_builtin; refine wpList_append_own2 _ rfl _ _ 36 rfl w.heap.size 3 i0 (.int .i64 0) 1 8 Tryd.underlying36 HI0.out HI1.out HI2.out HI3.out rfl (by decide) _ _ _ rfl (hown5.alloc _) ⟨w5.heap.size, 0, none⟩ 1 1 [.int .i64 (Dg.val (Ft.win s fr j) : Int)] rfl (by decide) rfl (cell_one_new _ _ _) (by simp [Value.oneCell']) (by unfold maxLen; omega) (by omega) (by have := hBs.size; simp; omega) ?_; intro g cap w6 hown6 hgrow6 hnew6))
              go_quiet (fail)
              go_wp2_with fail
              go_roundg 0
              case rel => exact ⟨j + 1, j + 1, acc ++ [(Dg.val (Ft.win s fr j) : Int)], by omega, by omega, by omega, by go_num, by go_num, by rw [show j + 1 - (j + 1) = j - j by omega]; exact HG.out, fun k h1 h2 => by omega, by first | omega | (simp; omega), own_keep (by rw [List.length_append, List.map_append]; exact hown6) (below_drewN (Below.refl _ _) _), below_drewN ((below_allocs hBs (.cells #[.int .i64 (Dg.val (Ft.win s fr j) : Int)] 3)).grown hgrow6 (by simp; have := hBs.size; omega) (fun k e => by have := (hown5.lt k e).1; omega)) _⟩
              case measure => omega
          · obtain rfl : j = fr := by omega
            -- j is the form's end
            have HG : Hid (Ft.go s form (j - j) (j + 1) (j + 1) (acc) = R) := by
              show _ = _
              rw [← hgo]; exact (Ft.go_sep hn48 hg (fun h => by have := h.1; rw [HN.out] at this; omega)).symm
            have jd : decide ((j : Int) < (j : Int)) = false := decide_eq_false hjf
            have jt : ((j : Int) < (j : Int)) = False := eq_false hjf
            clear hgo hall hc hn48
            go_wp2_with fail
            go_quiet (fail)
            go_wp2_with fail
            go_roundg 0
            case rel => exact ⟨j + 1, j + 1, acc, by omega, by omega, by omega, by go_num, by go_num, by rw [show j + 1 - (j + 1) = j - j by omega]; exact HG.out, fun k h1 h2 => by omega, by first | omega | (simp; omega), own_keep hown (below_drewN (Below.refl _ _) _), below_drewN hB _⟩
            case measure => omega
      · have hj1 : j = n + 1 := by omega
        rw [show n + 1 - j = 0 by omega, Ft.go] at hgo
        have HR : Hid (R = some acc) := by show _ = _; rw [← hgo]
        have hjf : ¬ (j : Int) ≤ (n : Int) := by omega
        clear hgo hall
        go_wp2_with fail
        rcases hown.2 with ⟨rfl, h0⟩ | ⟨g, cap, cur, rfl, hBg, _⟩
        · have h1 : acc = [] := List.eq_nil_of_length_eq_zero h0
          subst h1
          go_ret2
          exact .inr ⟨[], none, 0, HR.out, rfl, RowL.nil _ _, hB, fun x h => by cases h⟩
        · have HOW := Lib.hid (RowL.of_own hown)
          go_ret2
          exact .inr ⟨acc, _, _, HR.out, rfl, HOW.out, hB, fun x h => by injection h with h; subst h; exact hBg⟩
  · have h1 : ¬ (s.length : Int) = (form.length : Int) := by omega
    have h2 : ((s.length : Int) == (form.length : Int)) = false := by simp; omega
    have h3 : ((s.length : Int) != (form.length : Int)) = true := by simp; omega
    have HR : Hid (R = none) := by show _ = _; rw [← hR]; unfold Ft.res; rw [if_neg h0]
    clear hR h0
    go_enter Tryd.func59, Tryd.ntmps59
    go_wp2_with fail
    go_step3
    go_wp2_with fail
    rw [Exit.noGoto_ret]
    go_ret2
    exact FtPost.no HR.out (Below.refl _ _)
end Go.Proofs.YthldlffkgafgaaaDoor
