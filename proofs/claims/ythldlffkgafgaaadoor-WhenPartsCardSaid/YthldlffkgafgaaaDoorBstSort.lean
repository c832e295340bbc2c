/- slices.Sorted(slices.Values(l)): a new slice of the numbers of l, in order. -/
import Derived.RangeFuncNested
import Derived.RangeFuncWrites
import Derived.RangeFuncBound
import Derived.RangeFuncCalls
import Derived.RangeFuncLeaves
import Derived.RangeFuncBox
import Derived.Shelf.Abstract
import Derived.Shelf.Slices.In.SortNone
import Derived.WalkKit
import Derived.OwnWalkIn
import Derived.TacticsInMore
import Derived.LoopNIn
import Derived.LoopIn
import Derived.Maps.AppendAt
import Derived.Test.YthldlffkgafgaaaDoorInts
import Derived.Test.YthldlffkgafgaaaDoorGrpMem
import Derived.Test.YthldlffkgafgaaaDoorRise
namespace Go.Proofs.YthldlffkgafgaaaDoor
open Go.RowKit Go.Sort Go.Shelf
set_option linter.unusedVariables false
attribute [local go_sem] Oper.semAt_some
theorem take_snoc (xs : List Int) (j : Nat) (h : j < xs.length) : xs.take j ++ [xs[j]?.getD 0] = xs.take (j + 1) := by
  rw [List.take_add_one, List.getElem?_eq_getElem h]; rfl
theorem values_in (m : Nat) (a : Option Addr) (n ca : Nat) (w : World) :
    CallsIn Fence.wide m Tryd.prog 55 #[.slice a n ca] w fun e w' => e = .returned (.func (.func 80) #[] #[.pointer (some ⟨w.heap.size, 0, none⟩)]) ∧ w' = w.alloc (.cells #[.slice a n ca] 36) := by
  refine callsIn_of_wp Tryd.func55 rfl trivial ?_ rfl
  simp only [Tryd.ntmps55, List.size_toArray, List.length_cons, List.length_nil, Nat.reduceAdd, Nat.reduceSub, Array.replicate_succ, Array.replicate_zero, List.push_toArray, List.append_toArray, List.nil_append, List.cons_append]
  gi_wp2
  go_ret
  exact ⟨rfl, rfl⟩
set_option maxRecDepth 100000 in
set_option maxHeartbeats 2000000 in
theorem values1_in (m : Nat) (hm : 1 ≤ m) (l Bs n₀ : Nat) (a : Option Addr) (n ca : Nat) (xs : List Int) (hn : xs.length = n) (hn2 : n ≤ 1000000) (W0 : World) (hr : RowL W0 a xs) (h00 : W0.heap.size = n₀)
    (J Jx : List Int → World → Prop)
    (hY : ∀ pre x W, J pre W → pre.length < n → YieldAt Fence.wide (m - 1) Tryd.prog l #[.int .i64 x] W fun e W' =>
      (e = .returned (.bool true) ∧ J (pre ++ [x]) W' ∧ Below n₀ W W') ∨ (e = .returned (.bool false) ∧ Jx (pre ++ [x]) W'))
    (W : World) (hb : Below n₀ W0 W) (hBs : W.cell? ⟨Bs, 0, none⟩ = some (.slice a n ca)) (h0 : J [] W) :
    CallsIn Fence.wide m Tryd.prog 80 (#[.func (.yield l) #[] #[]] ++ #[.pointer (some ⟨Bs, 0, none⟩)]) W fun e W' => (∃ v, e = .returned v) ∧
      ((∃ ys, ys = xs ∧ J ys W') ∨ (∃ pre, pre <+: xs ∧ Jx pre W')) := by
  have HN := Lib.hid hn; have HR := Lib.hid hr; have HY := Lib.hid hY
  clear hn hr hY
  subst h00
  refine callsIn_of_wp Tryd.func80 rfl trivial ?_ rfl
  simp only [Tryd.ntmps80, List.size_toArray, List.length_cons, List.length_nil, Nat.reduceAdd, Nat.reduceSub, Array.replicate_succ, Array.replicate_zero, List.push_toArray, List.append_toArray, List.nil_append, List.cons_append]
  gi_wp2
  clear hBs
  gi_loopw [7] (fun i wr => ∃ k : Nat, k ≤ n ∧ i = .int .i64 k ∧ J (xs.take k) wr ∧ Below W0.heap.size W0 wr) (fun i _ => n - (intOf i).toNat)
  case atStart => exact ⟨0, Nat.zero_le _, rfl, h0, hb⟩
  case round =>
    obtain ⟨k, hk, rfl, hJs, hnx⟩ := hrel
    clear hb h0
    by_cases hlt : k < n
    · obtain ⟨b, off, rfl, hb, hcell⟩ := HR.out.keep hnx (by rw [HN.out]; omega)
      have hcx : wr.cell? ⟨b, off + k, none⟩ = some (.int .i64 (xs[k]?.getD 0)) := hcell k (by rw [HN.out]; exact hlt)
      clear hcell
      obtain ⟨fn, tmps, assign, body, hy, hRd⟩ := HY.out _ (xs[k]?.getD 0) wr hJs (by rw [List.length_take, HN.out]; omega)
      have hS := take_snoc xs k (by rw [HN.out]; exact hlt)
      rw [hS] at hRd
      have HS := Lib.hid hS; clear hS
      generalize xs[k]?.getD 0 = x at hcx hy hRd HS
      gi_wp2
      refine hRd.mono ?_
      rintro e W3 (⟨rfl, hJ3, hk3⟩ | ⟨rfl, hJx3⟩)
      · gi_wp2
        go_roundw
        case rel => exact ⟨k + 1, by omega, by go_num, hJ3, hnx.trans hk3⟩
        case measure => simp [intOf]; omega
      · gi_wp2
        refine bodyPost_ret (results_none rfl _ _ _) rfl ?_
        exact ⟨⟨_, rfl⟩, .inr ⟨_, List.take_prefix _ _, hJx3⟩⟩
    · obtain rfl : k = n := by omega
      gi_wp2
      go_end0
      exact ⟨⟨_, rfl⟩, .inl ⟨_, by rw [← HN.out, List.take_length], hJs⟩⟩
theorem values_stops (m : Nat) (hm : 1 ≤ m) (Bs : Nat) (a : Option Addr) (ca : Nat) (xs : List Int) (hn2 : xs.length ≤ 1000000) (W0 : World) (hr : RowL W0 a xs) (w : World) (hb : Below W0.heap.size W0 w) (hBs : Bs < w.heap.size) (hc : w.cell? ⟨Bs, 0, none⟩ = some (.slice a xs.length ca)) :
    SeqStopsK Fence.wide m Tryd.prog 80 #[.pointer (some ⟨Bs, 0, none⟩)] (fun x : Int => #[Value.int .i64 x]) (Below W0.heap.size) (fun ys => ys = xs) (fun pre => pre <+: xs) xs.length w := fun l J Jx W hW _ _ hY h0 =>
  values1_in m hm l Bs _ a _ ca xs rfl hn2 W0 hr rfl J Jx hY W (hb.trans (hW.mono hb.size)) ((hW.cell (p := ⟨Bs, 0, none⟩) hBs).trans hc) h0
set_option maxRecDepth 100000 in
set_option maxHeartbeats 2000000 in
theorem appendSeq_in (Bs : Nat) (a : Option Addr) (ca : Nat) (xs : List Int) (hn2 : xs.length ≤ 1000000) (W0 : World) (hr : RowL W0 a xs) (w : World) (hb : Below W0.heap.size W0 w) (hBs : Bs < w.heap.size) (hc : w.cell? ⟨Bs, 0, none⟩ = some (.slice a xs.length ca)) :
    CallsIn Fence.wide 3 Tryd.prog 93 #[.slice none 0 0, .func (.func 80) #[] #[.pointer (some ⟨Bs, 0, none⟩)]] w fun e W' => ∃ v, e = .returned v ∧ W'.ownsRow w.heap.size 3 1 v xs.length (xs.map (Value.int .i64)) ∧ (xs = [] → v = .slice none 0 0) ∧ Below w.heap.size w W' := by
  obtain ⟨i0, hi, hz0, hz1, hz2⟩ := info_parts infoInt
  have HI0 := Lib.hid hi; have HI1 := Lib.hid hz0; have HI2 := Lib.hid hz1; have HI3 := Lib.hid hz2
  clear hi hz0 hz1 hz2
  have hseq := values_stops (3 - 1) (by omega) Bs a ca xs hn2 W0 hr w hb hBs hc
  have hW0 := hb.size
  clear hr hb hc
  refine callsIn_of_wp_marks Tryd.func93 rfl trivial ?_ rfl
  simp only [Tryd.ntmps93, List.size_toArray, List.length_cons, List.length_nil, Nat.reduceAdd, Nat.reduceSub, Array.replicate_succ, Array.replicate_zero, List.push_toArray, List.append_toArray, List.nil_append, List.cons_append]
  gi_wp2
  have bO := Boxed.new w 36 (.slice none 0 0)
  have hB0 : Below w.heap.size w (w.alloc (.cells #[.slice none 0 0] 36)) := (Below.refl _ w).alloc (Nat.le_refl _) _
  refine wpIn_rangeFunc_ownG rfl (by omega) (gf := 80) (lb := #[.pointer (some ⟨Bs, 0, none⟩)]) rfl trivial (enters_of Tryd.func80 (by kernel_rfl) rfl)
    hseq belowK_t (belowK_b (by simp; omega)) hB0 (fun _ => rfl)
    (fun pre W => (∃ v, Boxed W w.heap.size 36 v ∧ W.ownsRow w.heap.size 3 1 v pre.length (pre.map (Value.int .i64)) ∧ (pre = [] → v = .slice none 0 0)) ∧ Below w.heap.size w W)
    (fun _ _ _ => False)
    (OwnFrom.and (Own.from (holdsRow_own w.heap.size w.heap.size 36 3 1 (fun (pre : List Int) => pre.length) (fun (pre : List Int) => pre.map (Value.int .i64)) (fun (pre : List Int) v => pre = [] → v = .slice none 0 0)) _) (ownFrom_below (Nat.le_refl _) (by simp)))
    (fun _ _ _ _ _ hs _ _ => hs)
    ⟨⟨_, bO, World.ownsRow_nil _ _ _ _, fun _ => rfl⟩, hB0⟩
    (fun x => { tmps := #[.slice none 0 0, .func (.func 80) #[] #[.pointer (some ⟨Bs, 0, none⟩)], .pointer (some ⟨w.heap.size, 0, none⟩), undef, .slice none 0 0, .int .i64 x, .func (.func 80) #[] #[.pointer (some ⟨Bs, 0, none⟩)], .int .i64 x, undef, undef, undef, undef, undef], defers := [] }) ?assign ?body ?done ?stop
  case assign =>
    intro l x W K hK
    gi_wp2
    exact hK
  case body =>
    rintro l pre x W ⟨⟨v, hv, hrow, hnil⟩, hB⟩ hlt
    have hcv := hv.cell
    have HNIL := Lib.hid hnil; clear hnil
    gi_wp2_with (gi_at_builtin; refine wpListIn_append_own _ rfl _ _ 36 rfl w.heap.size 3 i0 (.int .i64 0) 1 8 Tryd.underlying36 HI0.out HI1.out HI2.out HI3.out rfl (by decide) _ _ _ rfl (hrow.alloc _) ⟨W.heap.size, 0, none⟩ 1 1 [.int .i64 x] rfl rfl (cell_one_new _ _ _) (by simp [Value.oneCell']) (by unfold maxLen; omega) (by omega) (by have := hB.size; simp; omega) ?_; intro v' w1 hown' hgrow _; obtain ⟨g', cap', rfl⟩ := ownsRow_succ hown'; obtain ⟨hv1, hv2, hr2, hk2, hb2⟩ := hv.appended (by decide) hrow hB.size (Nat.le_refl _) hown' hgrow; have hc1 := hv1.cell; have hf1 := hv1.frozen)
    exact ⟨hk2.from _, hb2.mono hW0, ⟨_, hv2, by simpa using hr2, fun h => by simp at h⟩, hB.trans hb2⟩
  case done =>
    rintro D ys W hD rfl ⟨⟨v, hv, hrow, hnil⟩, hB⟩ hK
    have hcv := hv.cell
    gi_wp2
    refine ⟨by simp, .inl ⟨_, _, rfl, run_takeDeferred hK, ?_⟩⟩
    exact ⟨_, results_tmp rfl _ _ _, v, rfl, ownsRow_putObj hrow _ hK rfl, hnil, hB.trans (belowK_b (w := w) (Nat.le_refl _) W D _ _ (by simp at hD; omega) hK rfl rfl)⟩
  case stop =>
    rintro D c pre W _ _ h _
    exact h.elim
theorem collect_in (Bs : Nat) (a : Option Addr) (ca : Nat) (xs : List Int) (hn2 : xs.length ≤ 1000000) (W0 : World) (hr : RowL W0 a xs) (w : World) (hb : Below W0.heap.size W0 w) (hBs : Bs < w.heap.size) (hc : w.cell? ⟨Bs, 0, none⟩ = some (.slice a xs.length ca)) :
    CallsIn Fence.wide 4 Tryd.prog 78 #[.func (.func 80) #[] #[.pointer (some ⟨Bs, 0, none⟩)]] w fun e W' => ∃ v, e = .returned v ∧ W'.ownsRow w.heap.size 3 1 v xs.length (xs.map (Value.int .i64)) ∧ (xs = [] → v = .slice none 0 0) ∧ Below w.heap.size w W' := by
  have HC := Lib.hid (appendSeq_in Bs a ca xs hn2 W0 hr w hb hBs hc)
  clear hr hb hBs hc
  refine callsIn_of_wp Tryd.func78 rfl trivial ?_ rfl
  simp only [Tryd.ntmps78, List.size_toArray, List.length_cons, List.length_nil, Nat.reduceAdd, Nat.reduceSub, Array.replicate_succ, Array.replicate_zero, List.push_toArray, List.append_toArray, List.nil_append, List.cons_append]
  gi_wp2_with (refine ⟨trivial, ?_⟩; gi_at_call 93; refine HC.out.mono ?_; rintro e w1 ⟨v, rfl, hrow, hnil, hB⟩)
  go_ret
  exact ⟨v, rfl, hrow, hnil, hB⟩
theorem sort_nil (w : World) : Calls Tryd.prog 79 #[.slice none 0 0] w fun e w' => e = .returned (.tuple #[]) ∧ w' = w := Go.Proofs.Any.slices_Sort_int_none sortLays none 0 w
/-- **slices.Sorted(slices.Values(l)).** -/
theorem sorted_in (Bs : Nat) (a : Option Addr) (ca : Nat) (xs : List Int) (hn2 : xs.length ≤ 1000000) (W0 : World) (hr : RowL W0 a xs) (w : World) (hb : Below W0.heap.size W0 w) (hBs : Bs < w.heap.size) (hc : w.cell? ⟨Bs, 0, none⟩ = some (.slice a xs.length ca)) :
    CallsIn Fence.wide 5 Tryd.prog 54 #[.func (.func 80) #[] #[.pointer (some ⟨Bs, 0, none⟩)]] w (RisePost w xs) := by
  have HC := Lib.hid (collect_in Bs a ca xs hn2 W0 hr w hb hBs hc)
  clear hr hb hBs hc
  refine callsIn_of_wp Tryd.func54 rfl trivial ?_ rfl
  simp only [Tryd.ntmps54, List.size_toArray, List.length_cons, List.length_nil, Nat.reduceAdd, Nat.reduceSub, Array.replicate_succ, Array.replicate_zero, List.push_toArray, List.append_toArray, List.nil_append, List.cons_append]
  gi_wp2_with (refine ⟨trivial, ?_⟩; gi_at_call 78; refine HC.out.mono ?_; rintro e w1 ⟨v, rfl, hrow, hnil, hB⟩)
  by_cases h0 : xs = []
  · obtain rfl := hnil h0
    subst h0
    gi_wp2_with (refine ⟨trivial, ?_⟩; gi_at_call 79; refine (callsIn_wide.2 (sort_nil _)).mono ?_; rintro e w2 ⟨rfl, rfl⟩)
    go_ret
    exact ⟨none, [], 0, rfl, List.Perm.refl _, by simp, RowL.nil _ _, hB⟩
  · have hl : 0 < xs.length := List.length_pos_iff.2 h0
    rcases hrow.2 with ⟨_, h1⟩ | ⟨g, cap, cur, rfl, _⟩
    · omega
    have HS := Lib.hid (sort_own g cap xs w.heap.size w1 hrow hl hn2)
    have hg := hrow.lt g rfl
    clear hrow hnil h0
    gi_wp2_with (refine ⟨trivial, ?_⟩; gi_at_call 79; refine (callsIn_wide.2 HS.out).mono ?_; rintro e w2 ⟨ys, rfl, hys, hperm, hup, hown, hgrow⟩)
    go_ret
    refine ⟨some ⟨g, 0, none⟩, ys, cap, by rw [hys]; rfl, hperm, hup, RowL.of_own (by rw [← hys] at hown; exact hown), hB.grown hgrow hB.size (fun k e => by cases e; exact hg.1)⟩
end Go.Proofs.YthldlffkgafgaaaDoor
