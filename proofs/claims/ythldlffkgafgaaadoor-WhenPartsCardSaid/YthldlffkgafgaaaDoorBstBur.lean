/- The contract of Bursts. -/
import Derived.Maps.AppendAt
import Derived.Test.YthldlffkgafgaaaDoorBstFold
import Derived.Test.YthldlffkgafgaaaDoorBstSort
import Derived.Test.YthldlffkgafgaaaDoorIdxFunc
namespace Go.Proofs.YthldlffkgafgaaaDoor
open Go.RowKit Go.Sort Go.Shelf
set_option linter.unusedVariables false
namespace Bst
def err (xs : List Int) (gap : Int) : Int := if 1000 < xs.length then 4 else if Ev.mom gap = false ∨ Ev.anyB (fun x => !Ev.mom x) (fun i => xs[i]?.getD 0) xs.length = true then 2 else 0
theorem err_large {xs : List Int} {gap : Int} (h : 1000 < xs.length) : err xs gap = 4 := if_pos h
theorem err_range {xs : List Int} {gap : Int} (h : xs.length ≤ 1000) (g : Ev.mom gap = false ∨ Ev.anyB (fun x => !Ev.mom x) (fun i => xs[i]?.getD 0) xs.length = true) : err xs gap = 2 := by
  unfold err; rw [if_neg (by omega), if_pos g]
theorem err_ok {xs : List Int} {gap : Int} (h : xs.length ≤ 1000) (g1 : Ev.mom gap = true) (g2 : Ev.anyB (fun x => !Ev.mom x) (fun i => xs[i]?.getD 0) xs.length = false) : err xs gap = 0 := by
  unfold err; rw [if_neg (by omega), if_neg (by rw [g1, g2]; simp)]
theorem all_mom {xs : List Int} (h : Ev.anyB (fun x => !Ev.mom x) (fun i => xs[i]?.getD 0) xs.length = false) : ∀ x ∈ xs, 0 ≤ x ∧ x ≤ 6311433599 := by
  intro x hx
  obtain ⟨i, hi, rfl⟩ := List.getElem_of_mem hx
  have := Ev.anyB_none h i hi
  rw [List.getElem?_eq_getElem hi] at this
  exact (Ev.mom_iff _).1 (by simpa using this)
def srt (xs : List Int) : List Int := xs.mergeSort fun x y => decide (x ≤ y)
theorem srt_perm (xs : List Int) : (srt xs).Perm xs := List.mergeSort_perm _ _
theorem srt_up (xs : List Int) : (srt xs).Pairwise (· ≤ ·) :=
  (List.pairwise_mergeSort (le := fun x y => decide (x ≤ y)) (fun a b c h1 h2 => by simp at *; omega) (fun a b => by simp; omega) xs).imp fun h => by simpa using h
theorem srt_eq {xs ys : List Int} (h : ys.Perm xs) (s : ys.Pairwise (· ≤ ·)) : ys = srt xs := sorted_eq h s (srt_perm xs) (srt_up xs)
def all (xs : List Int) (gap : Int) : Ps := upto gap (srt xs) xs.length
def res (xs : List Int) (gap : Int) : Ps := if err xs gap = 0 then all xs gap else []
end Bst
def BurPost (w : World) (xs : List Int) (gap : Int) (e : Ending) (w' : World) : Prop := ∃ a ca, e = .returned (.tuple #[.slice a (Bst.res xs gap).length ca, .int .i64 (Bst.err xs gap)]) ∧ RowP w' a (Bst.res xs gap) ∧ Below w.heap.size w w'
theorem BurPost.bad {w w' : World} {xs : List Int} {gap k : Int} (h : Bst.err xs gap = k) (hk : k ≠ 0) (hB : Below w.heap.size w w') : BurPost w xs gap (.returned (.tuple #[.slice none 0 0, .int .i64 k])) w' := by
  have hr : Bst.res xs gap = [] := by unfold Bst.res; rw [if_neg (by rw [h]; exact hk)]
  exact ⟨none, 0, by rw [hr, h]; rfl, by rw [hr]; exact RowP.nil _ _, hB⟩
theorem BurPost.good {w w' : World} {xs : List Int} {ps : Bst.Ps} {gap : Int} {n ca : Nat} {a : Option Addr} (h : Bst.err xs gap = 0) (hz : Bst.all xs gap = ps) (hn : ps.length = n) (hr : RowP w' a ps) (hB : Below w.heap.size w w') : BurPost w xs gap (.returned (.tuple #[.slice a n ca, .int .i64 0])) w' := by
  have hr' : Bst.res xs gap = ps := by unfold Bst.res; rw [if_pos h, hz]
  exact ⟨a, ca, by rw [hr', h, hn], by rw [hr']; exact hr, hB⟩
theorem bur1_is (x : Int) (b : Bool) (h : Ev.mom x = b) (w : World) : Calls Tryd.prog 53 #[.int .i64 x] w fun e w' => e = .returned (.bool (!b)) ∧ w = w' := by
  have HM := Lib.hid (isMoment_is x b h w)
  clear h
  cases b
  · go_enter Tryd.func53, Tryd.ntmps53
    go_wp2_with (go_at_call 33; refine HM.out.mono ?_; rintro e w' ⟨rfl, rfl⟩)
    go_ret
    exact ⟨rfl, rfl⟩
  · go_enter Tryd.func53, Tryd.ntmps53
    go_wp2_with (go_at_call 33; refine HM.out.mono ?_; rintro e w' ⟨rfl, rfl⟩)
    go_ret
    exact ⟨rfl, rfl⟩
theorem bur1_eg : ∀ args w, (callFunc 53 args).run Tryd.prog w = .ok (.enter 53 args) w := enters_of Tryd.func53 (by kernel_rfl) rfl
theorem burWrong (a : Option Addr) (n ca : Nat) (z : Nat → Int) (w : World) (hr : Row w a n (fun i => .int .i64 (z i))) (hn : n ≤ 9223372036854775807) (b : Bool) (h : Ev.anyB (fun x => !Ev.mom x) z n = b) :
    Calls Tryd.prog 52 #[.slice a n ca, .func (.func 53) #[] #[]] w fun e w' => e = .returned (.bool b) ∧ w = w' := by
  rw [← h]
  exact containsFunc_any _ _ (fun x => !Ev.mom x) bur1_eg a n ca z w hn hr fun i _ => bur1_is _ _ rfl _
theorem clip_stretches (a : Option Addr) (n ca : Nat) (w : World) (h : n ≤ ca) (hc : ca ≤ 9223372036854775807) : Calls Tryd.prog 56 #[.slice a n ca] w fun e w' => e = .returned (.slice a n n) ∧ w = w' := by
  go_enter Tryd.func56, Tryd.ntmps56
  go_wp2_with fail
  go_ret
  exact ⟨rfl, rfl⟩
set_option maxRecDepth 100000 in
set_option maxHeartbeats 4000000 in
theorem bur_bad (a : Option Addr) (xs : List Int) (ca : Nat) (gap : Int) (w : World) (hr : RowL w a xs) (hl : xs.length ≤ 9223372036854775807) (he : Bst.err xs gap ≠ 0) : Calls Tryd.prog 20 #[.slice a xs.length ca, .int .i64 gap] w (BurPost w xs gap) := by
  by_cases c : 1000 < xs.length
  · have HP := Lib.hid (BurPost.bad (w := w) (w' := w) (Bst.err_large (gap := gap) c) (by omega) (Below.refl _ _))
    obtain ⟨n, hn⟩ : ∃ n, xs.length = n := ⟨_, rfl⟩
    rw [hn] at c hl ⊢
    clear hn hr he
    go_enter Tryd.func20, Tryd.ntmps20
    go_wp2_with fail
    go_ret2
    exact HP.out
  · have c' : xs.length ≤ 1000 := by omega
    cases hg : Ev.mom gap with
    | false =>
      have HP := Lib.hid (BurPost.bad (w := w) (w' := w) (Bst.err_range c' (.inl hg)) (by omega) (Below.refl _ _))
      have HM := Lib.hid (isMoment_is gap false hg w)
      obtain ⟨n, hn⟩ : ∃ n, xs.length = n := ⟨_, rfl⟩
      rw [hn] at c hl c' ⊢
      clear hn hr he hg
      go_enter Tryd.func20, Tryd.ntmps20
      go_wp2_with (go_at_call 33; refine HM.out.mono ?_; rintro e w' ⟨rfl, rfl⟩)
      go_ret2
      exact HP.out
    | true =>
      cases hv : Ev.anyB (fun x => !Ev.mom x) (fun i => xs[i]?.getD 0) xs.length with
      | false => exact absurd (Bst.err_ok c' hg hv) he
      | true =>
        have HP := Lib.hid (BurPost.bad (w := w) (w' := w) (Bst.err_range (gap := gap) c' (.inr hv)) (by omega) (Below.refl _ _))
        have HM := Lib.hid (isMoment_is gap true hg w)
        have HCF := Lib.hid (burWrong a xs.length ca _ w hr hl true hv)
        obtain ⟨n, hn⟩ : ∃ n, xs.length = n := ⟨_, rfl⟩
        rw [hn] at c hl c' HCF ⊢
        clear hn hr he hg hv
        go_enter Tryd.func20, Tryd.ntmps20
        go_wp2_with (first
          | (go_at_call 33; (with_reducible refine HM.out.mono ?_); rintro e w' ⟨rfl, rfl⟩)
          | (go_at_call 52; (with_reducible refine HCF.out.mono ?_); rintro e w' ⟨rfl, rfl⟩))
        go_ret2
        exact HP.out
end Go.Proofs.YthldlffkgafgaaaDoor
