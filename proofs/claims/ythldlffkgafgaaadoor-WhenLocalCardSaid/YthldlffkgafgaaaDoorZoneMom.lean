/- Moments: the program's loop over the stretches gathers the moments. -/
import Derived.Maps.AppendAt
import Derived.Test.YthldlffkgafgaaaDoorZoneProg
import Derived.Test.YthldlffkgafgaaaDoorZoneRef2
namespace Go.Proofs.YthldlffkgafgaaaDoor
open Go.RowKit Go.Sort Go.Shelf
set_option linter.unusedVariables false
attribute [local go_sem] Oper.semAt_some
/-- A list of numbers and no error. -/
def ListPost2 (w : World) (xs : List Int) (e : Ending) (w' : World) : Prop := ∃ a ca, e = .returned (.tuple #[.slice a xs.length ca, .int .i64 0]) ∧ RowL w' a xs ∧ Below w.heap.size w w'
theorem kpZ_trans3 {B : Nat} {X Y : World} {row : Option Nat} (hb : Below B X Y) (hg : X.grownBy Y row) (hne : ∀ b c, Blk X b c 107 → some b ≠ row) : KpZ B X Y := ⟨hb, fun b c h => h.grown hg (hne b c h)⟩
theorem blk_not_row {W : World} {b : Nat} {c : Array Value} {t e : TypeId} (h : Blk W b c t) (hte : t ≠ e) {base size k : Nat} {v : Value} {xs : List Value} (hr : W.ownsRow base e size v k xs) : some b ≠ v.ownBlock := by
  rcases hr.2 with ⟨rfl, _⟩ | ⟨g, cap, cur, rfl, _, hgb, _⟩
  · simp [Value.ownBlock]
  · intro e'
    obtain rfl : b = g := by simpa [Value.ownBlock] using e'
    unfold Blk at h; rw [h] at hgb; simp at hgb; exact hte hgb.2
set_option maxRecDepth 100000 in
set_option maxHeartbeats 4000000 in
theorem moments_in (f : Int) (a : Option Addr) (n ca : Nat) (F O : Nat → Int) (w : World) (hr : Row2 w a n (fun i => .int .i64 (F i)) (fun i => .int .i64 (O i))) (hR : Zn.Right f F O n) (t : Int) (ht : 0 ≤ t ∧ t ≤ 6311433599) (h0 : Zn.errAt f F O n t = 0) :
    CallsIn Fence.wide 3 Tryd.prog 18 #[.agg #[.int .i64 f, .slice a n ca], .int .i64 t] w (ListPost2 w (Zn.got t (Zn.all f F O n))) := by
  have hn := hR.few
  have HC := Lib.hid (fun V (hV : Below w.heap.size w V) => checkAt_is f a n ca F O V (hr.keep hV) t (by omega))
  rw [h0] at HC
  have HR := Lib.hid hr
  have HRR := Lib.hid hR
  have HAL := Lib.hid (Zn.all_len f F O n)
  obtain ⟨i0, hi, hz0, hz1', hz2⟩ := info_parts infoInt
  have HI0 := Lib.hid hi; have HI1 := Lib.hid hz0; have HI2 := Lib.hid hz1'; have HI3 := Lib.hid hz2
  clear hr hR h0 hi hz0 hz1' hz2
  have hB0 := below_allocs (below_allocs (Below.refl w.heap.size w) (.cells #[.int .i64 f, .slice a n ca] 34)) (.cells #[.int .i64 t] 3)
  have b0 : Blk ((w.alloc (.cells #[.int .i64 f, .slice a n ca] 34)).alloc (.cells #[.int .i64 t] 3)) w.heap.size #[.int .i64 f, .slice a n ca] 34 := (Blk.new w _ _).alloc _
  have b1 : Blk ((w.alloc (.cells #[.int .i64 f, .slice a n ca] 34)).alloc (.cells #[.int .i64 t] 3)) (w.heap.size + 1) #[.int .i64 t] 3 := by have := Blk.new (w.alloc (.cells #[.int .i64 f, .slice a n ca] 34)) #[.int .i64 t] 3; simpa using this
  refine callsIn_of_wp_marks Tryd.func18 rfl trivial ?_ rfl
  simp only [Tryd.ntmps18, List.size_toArray, List.length_cons, List.length_nil, Nat.reduceAdd, Nat.reduceSub, Array.replicate_succ, Array.replicate_zero, List.push_toArray, List.append_toArray, List.nil_append, List.cons_append]
  gi_wp2_with (first
    | (refine ⟨trivial, ?_⟩; gi_at_call 47; refine (callsIn_wide.2 (HC.out _ hB0)).mono ?_; rintro e w1 ⟨rfl, hB1⟩; have b0 := b0.keep hB1; have b1 := b1.keep hB1; have hBw := below_up hB0 hB1; have k0 := (b0.alloc (.cells #[.slice none 0 0] 36)).two)
    | (refine ⟨trivial, ?_⟩; gi_at_call 49; refine (stretches_in 2 f a n ca _).mono ?_; rintro e w' ⟨rfl, rfl⟩))
  obtain ⟨W0, hW0⟩ : ∃ W0, (w1.alloc (.cells #[.slice none 0 0] 36)).alloc (.cells #[.int .i64 f, .slice a n ca] 34) = W0 := ⟨_, rfl⟩
  rw [hW0]
  have hs1 : w.heap.size + 2 ≤ w1.heap.size := by have := hB1.size; simpa using this
  have bL : Boxed W0 w1.heap.size 36 (.slice none 0 0) := by rw [← hW0]; exact (Boxed.new w1 _ _).alloc _
  have bZ : Blk W0 (w1.heap.size + 1) #[.int .i64 f, .slice a n ca] 34 := by rw [← hW0]; have := Blk.new (w1.alloc (.cells #[.slice none 0 0] 36)) #[.int .i64 f, .slice a n ca] 34; simpa using this
  have bT : Blk W0 (w.heap.size + 1) #[.int .i64 t] 3 := by rw [← hW0]; exact (b1.alloc _).alloc _
  have hBW : Below w.heap.size w W0 := by rw [← hW0]; exact below_allocs (below_allocs hBw _) _
  have hsz : W0.heap.size = w1.heap.size + 2 := by rw [← hW0]; simp
  clear hW0 b0 b1 k0 hB0 hB1 hBw
  refine wpIn_rangeFunc_ownH rfl (by omega) (gf := 76) (lb := #[.pointer (some ⟨w1.heap.size + 1, 0, none⟩)]) rfl trivial (enters_of Tryd.func76 (by kernel_rfl) rfl)
    (stretches_stops (3 - 1) (by omega) (w1.heap.size + 1) f a n ca F O w HR.out HRR.out W0 hBW bZ) kpZ_t (kpZ_b (by omega)) (Below.refl _ _) (fun _ => rfl)
    (fun pre W => ((∃ v, Boxed W w1.heap.size 36 v ∧ W.ownsRow w1.heap.size 3 1 v (Zn.got t (pre.map (·.1))).length ((Zn.got t (pre.map (·.1))).map (Value.int .i64)) ∧ (Zn.got t (pre.map (·.1)) = [] → v = .slice none 0 0)) ∧ Blk W (w.heap.size + 1) #[.int .i64 t] 3) ∧ Below w.heap.size w W)
    (fun _ _ _ => False)
    (OwnFrom.and (OwnFrom.and (Own.from (holdsRow_own w1.heap.size w1.heap.size 36 3 1 (fun (pre : List Zn.P3) => (Zn.got t (pre.map (·.1))).length) (fun (pre : List Zn.P3) => (Zn.got t (pre.map (·.1))).map (Value.int .i64)) (fun (pre : List Zn.P3) v => Zn.got t (pre.map (·.1)) = [] → v = .slice none 0 0)) _) (Own.from (blk_own _ _ _) _)) (ownFrom_below (Nat.le_refl _) (by omega)))
    (fun _ _ _ _ _ hs _ _ => hs)
    ⟨⟨⟨_, bL, World.ownsRow_nil _ _ _ _, fun _ => rfl⟩, bT⟩, hBW⟩
    (fun x a' W => ∃ Bx, w.heap.size + 1 < Bx ∧ Blk W Bx #[.int .i64 x.1.1, .int .i64 x.1.2.1] 45 ∧ a' = { tmps := #[.agg #[.int .i64 f, .slice a n ca], .int .i64 t, .pointer (some ⟨w.heap.size, 0, none⟩), .pointer (some ⟨w.heap.size + 1, 0, none⟩), .slice none 0 0, .int .i64 0, .int .i64 0, .pointer (some ⟨w1.heap.size, 0, none⟩), .pointer (some ⟨Bx, 0, none⟩), .int .i64 x.1.2.2, undef, .agg #[.int .i64 f, .slice a n ca], .int .i64 t, .int .i64 0, .int .i64 0, .bool false, undef, .agg #[.int .i64 f, .slice a n ca], .func (.func 76) #[] #[.pointer (some ⟨w1.heap.size + 1, 0, none⟩)], .agg #[.int .i64 x.1.1, .int .i64 x.1.2.1], .int .i64 x.1.2.2, undef, undef, undef, undef, undef, undef, undef, undef, undef, undef, undef, undef, undef, undef, undef, undef, undef], defers := [] })
    (fun x a' _ X Y row hs hg hr => by obtain ⟨Bx, h1, h2, h3⟩ := hs; exact ⟨Bx, h1, blk_own Bx 45 (fun (_ : Unit) => #[.int .i64 x.1.1, .int .i64 x.1.2.1]) () X Y row h2 hg (fun r e => (hr r e).2), h3⟩)
    ?assign ?body ?done ?stop
  case assign =>
    rintro l pre x W K ⟨⟨⟨v, hv, hrow, hnil⟩, c1⟩, hB1⟩ hK
    have hs1 := hB1.size
    gi_wp2
    exact hK _ _ ((KeepsOthers.alloc _ _).from _) (kpZ_alloc hs1 _) ⟨⟨⟨v, hv.alloc _, hrow.alloc _, hnil⟩, c1.alloc _⟩, hB1.alloc hs1 _⟩ ⟨W.heap.size, c1.lt, Blk.new W _ _, rfl⟩
  case body =>
    rintro l pre x a' W hl ⟨r, hr⟩ ⟨⟨⟨v, hv, hrow, hnil⟩, c1⟩, hB1⟩ ⟨Bx, hBx, bX, rfl⟩ hlt
    have HNIL := Lib.hid hnil; clear hnil
    have k1 := c1.one
    have kv := hv.cell
    have kx := bX.two
    have hfit := x.2
    have hf2 := hfit.2.2
    have hlen := Zn.got_len t (pre.map (·.1))
    rw [List.length_map] at hlen
    have hsnoc := snoc_val pre x
    have HSN := Lib.hid hsnoc; clear hsnoc
    by_cases hh : x.1.1 ≤ t - 60 * x.1.2.2 ∧ t - 60 * x.1.2.2 ≤ x.1.2.1
    · have HG := Lib.hid (Zn.got_yes (l := t) (xs := pre.map (·.1)) (x := x.1) (by unfold Zn.hit; exact decide_eq_true hh))
      have h1 := hh.1
      have h2 := hh.2
      clear hh
      gi_wp2_with (first
        | (refine ⟨trivial, ?_⟩; gi_at_call 34; refine (CallsIn.inRound l (callsIn_wide.2 (outside_no _ _ _ _ h1 h2))).mono ?_; rintro e w' ⟨rfl, rfl⟩)
        | (gi_at_builtin; refine wpListIn_append_own _ rfl _ _ 36 rfl w1.heap.size 3 i0 (.int .i64 0) 1 8 Tryd.underlying36 HI0.out HI1.out HI2.out HI3.out rfl (by decide) _ _ _ rfl (hrow.alloc _) ⟨W.heap.size, 0, none⟩ 1 1 [.int .i64 (t - 60 * x.1.2.2)] rfl rfl (cell_one_new _ _ _) (by simp [Value.oneCell']) (by unfold maxLen; omega) (by omega) (by have := hv.lt; simp; omega) ?_; intro v' w5 hown' hgrow _; obtain ⟨g', cap', rfl⟩ := ownsRow_succ hown'; obtain ⟨hv1, hv2, hr2, hk2, hb2⟩ := hv.appended (by decide) hrow (Nat.le_of_lt hv.lt) (Nat.le_refl _) hown' hgrow; have hc1 := hv1.cell; have hf1 := hv1.frozen))
      have hb3 := hb2.mono (show w.heap.size ≤ w1.heap.size by omega)
      have hKp : KpZ w.heap.size W _ := ⟨hb3, fun b c hb => ((hb.alloc _).grown hgrow (blk_not_row hb (by decide) hrow)).setOther (a := ⟨w1.heap.size, 0, none⟩) (fun e => by
        have e : b = w1.heap.size := e
        subst e
        have h3 := (hb.alloc (.cells #[.int .i64 (t - 60 * x.1.2.2)] 3)).grown hgrow (blk_not_row hb (by decide) hrow)
        unfold Blk at h3; unfold Boxed at hv1; rw [h3] at hv1; simp at hv1) _⟩
      have hT : Blk (w5.setCell ⟨w1.heap.size, 0, none⟩ (.slice (some ⟨g', 0, none⟩) ((Zn.got t (pre.map (·.1))).length + 1) cap')) (w.heap.size + 1) #[.int .i64 t] 3 :=
        ((c1.alloc _).grown hgrow (fun e => by have := (hrow.lt _ e.symm).1; omega)).setOther (a := ⟨w1.heap.size, 0, none⟩) (by simp; omega) _
      refine ⟨hk2.from _, hKp, ⟨⟨⟨_, hv2, ?_, fun h => ?_⟩, hT⟩, hB1.trans hb3⟩⟩
      · rw [HSN.out, HG.out, List.length_append, List.map_append]; exact hr2
      · rw [HSN.out, HG.out] at h; simp at h
    · have hh2 : t - 60 * x.1.2.2 < x.1.1 ∨ x.1.2.1 < t - 60 * x.1.2.2 := by omega
      have HG := Lib.hid (Zn.got_no (l := t) (xs := pre.map (·.1)) (x := x.1) (by unfold Zn.hit; exact decide_eq_false hh))
      clear hh
      have HH2 := Lib.hid hh2; clear hh2
      gi_wp2_with (refine ⟨trivial, ?_⟩; gi_at_call 34; refine (CallsIn.inRound l (callsIn_wide.2 (outside_yes _ _ _ _ HH2.out))).mono ?_; rintro e w' ⟨rfl, rfl⟩)
      refine ⟨KeepsFrom.refl _ _, kpZ_refl _ _, ⟨⟨⟨v, hv, ?_, fun h => ?_⟩, c1⟩, hB1⟩⟩
      · rw [HSN.out, HG.out]; exact hrow
      · rw [HSN.out, HG.out] at h; exact HNIL.out h
  case done =>
    rintro D ys W hD hS ⟨⟨⟨v, hv, hrow, hnil⟩, c1⟩, hB⟩ hK
    rw [hS] at hrow hnil
    have hgl := Nat.le_trans (Zn.got_len t (Zn.all f F O n)) HAL.out
    generalize Zn.got t (Zn.all f F O n) = gs at *
    have kv := hv.cell
    have HROW := Lib.hid hrow
    have HB := Lib.hid (putObj_below hB (by have := hBW.size; omega) hK (.deferred none))
    rcases hrow.2 with ⟨rfl, h0⟩ | ⟨g, cap, cur, rfl, _, _, hcap, hcap2, _, _⟩
    · have h1 : gs = [] := List.eq_nil_of_length_eq_zero h0
      subst h1
      clear hrow hnil h0
      gi_wp2_with (refine ⟨trivial, ?_⟩; gi_at_call 50; refine (callsIn_wide.2 (clip_ints none 0 0 _ (by omega) (by omega))).mono ?_; rintro e w' ⟨rfl, rfl⟩)
      refine ⟨by simp, .inl ⟨_, _, rfl, run_takeDeferred hK, ?_⟩⟩
      exact ⟨.tuple #[.slice none 0 0, .int .i64 0], by simp [results, Tryd.f18, go_sem], none, 0, rfl, RowL.nil _ _, HB.out⟩
    · have HRO := Lib.hid (RowL.of_own (ownsRow_putObj hrow (.deferred none) hK rfl))
      obtain ⟨m, hm⟩ : ∃ m, gs.length = m := ⟨_, rfl⟩
      have HM := Lib.hid hm
      rw [hm] at kv hcap
      have hcap3 : cap ≤ 9223372036854775807 := hcap2
      clear hrow hnil hm
      gi_wp2_with (refine ⟨trivial, ?_⟩; gi_at_call 50; refine (callsIn_wide.2 (clip_ints _ m cap _ hcap hcap3)).mono ?_; rintro e w' ⟨rfl, rfl⟩)
      refine ⟨by simp, .inl ⟨_, _, rfl, run_takeDeferred hK, ?_⟩⟩
      exact ⟨.tuple #[.slice (some ⟨g, 0, none⟩) m m, .int .i64 0], by simp [results, Tryd.f18, go_sem], some ⟨g, 0, none⟩, m, by rw [HM.out], HRO.out, HB.out⟩
  case stop =>
    rintro D c pre W hD hSp h hK
    exact h.elim
end Go.Proofs.YthldlffkgafgaaaDoor
