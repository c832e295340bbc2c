/- The offset of a zone at a moment: the program's loop over the stretches, and the reference's. -/
import Derived.Test.YthldlffkgafgaaaDoorZoneIt
namespace Go.Proofs.YthldlffkgafgaaaDoor
open Go.RowKit Go.Sort Go.Shelf
set_option linter.unusedVariables false
attribute [local go_sem] Oper.semAt_some
theorem blk_own {β : Type} (B : Nat) (t : TypeId) (f : β → Array Value) : Own (fun s W => Blk W B (f s) t) := fun s X Y row hs hg hrow =>
  hs.grown hg (fun e => by
    obtain ⟨o, ho, hc⟩ := hrow B e.symm
    have hs : X.heap[B]? = _ := hs
    rw [hs] at ho; cases ho; cases hc)
/-- Each of these stretches ends before t. -/
def Zn.Before (t : Int) (pre : List Zn.P3) : Prop := ∀ y ∈ pre, y.1.2.1 < t
theorem Zn.Before.snoc {t : Int} {pre : List Zn.P3} {x : Zn.P3} (h : Zn.Before t pre) (hx : x.1.2.1 < t) : Zn.Before t (pre ++ [x]) := fun y hy => (List.mem_append.1 hy).elim (h y) (fun e => by obtain rfl := List.mem_singleton.1 e; omega)
theorem stretches_in (m : Nat) (f : Int) (a : Option Addr) (n ca : Nat) (w : World) :
    CallsIn Fence.wide m Tryd.prog 49 #[.agg #[.int .i64 f, .slice a n ca]] w fun e w' => e = .returned (.func (.func 76) #[] #[.pointer (some ⟨w.heap.size, 0, none⟩)]) ∧ w' = w.alloc (.cells #[.int .i64 f, .slice a n ca] 34) := by
  refine callsIn_of_wp Tryd.func49 rfl trivial ?_ rfl
  simp only [Tryd.ntmps49, List.size_toArray, List.length_cons, List.length_nil, Nat.reduceAdd, Nat.reduceSub, Array.replicate_succ, Array.replicate_zero, List.push_toArray, List.append_toArray, List.nil_append, List.cons_append]
  gi_wp2
  go_ret
  exact ⟨rfl, rfl⟩
theorem stretches_stops (m : Nat) (hm : 1 ≤ m) (Bn : Nat) (f : Int) (a : Option Addr) (n ca : Nat) (F O : Nat → Int) (w : World) (hr : Row2 w a n (fun i => .int .i64 (F i)) (fun i => .int .i64 (O i))) (hR : Zn.Right f F O n) (w1 : World) (hb0 : Below w.heap.size w w1) (hBx : Blk w1 Bn #[.int .i64 f, .slice a n ca] 34) :
    SeqStopsK Fence.wide m Tryd.prog 76 #[.pointer (some ⟨Bn, 0, none⟩)] Zn.encs (KpZ w.heap.size) (fun xs => xs.map (·.1) = Zn.all f F O n) (fun pre => pre.map (·.1) <+: Zn.all f F O n) (n + 1) w1 := fun l J Jx W hW hJ _ hY h0 =>
  stretches1_in m hm l Bn f a n ca F O hR w J Jx W (hb0.trans (hW.mono hb0.size)) hr (hBx.keep hW) hJ hY h0
theorem putObj_below {B : Nat} {w0 W : World} (h : Below B w0 W) {D : Nat} {o : Obj} (hB : B ≤ D) (hK : W.heap[D]? = some o) (o' : Obj) : Below B w0 (W.putObj D o') :=
  h.grown (grownBy_putObj' W D o') (by have := (Array.getElem?_eq_some_iff.1 hK).1; omega) (fun k e => by cases e; exact hB)
set_option maxRecDepth 100000 in
set_option maxHeartbeats 4000000 in
theorem offset_in (f : Int) (a : Option Addr) (n ca : Nat) (F O : Nat → Int) (w : World) (hr : Row2 w a n (fun i => .int .i64 (F i)) (fun i => .int .i64 (O i))) (hR : Zn.Right f F O n) (t : Int) (ht : 0 ≤ t ∧ t ≤ 6311433599) :
    CallsIn Fence.wide 3 Tryd.prog 48 #[.agg #[.int .i64 f, .slice a n ca], .int .i64 t] w fun e w' => e = .returned (.int .i64 (Zn.at_ f F O t n)) ∧ Below w.heap.size w w' := by
  have HR := Lib.hid hr
  have HRR := Lib.hid hR
  have hn := hR.few
  clear hr hR
  refine callsIn_of_wp_marks Tryd.func48 rfl trivial ?_ rfl
  simp only [Tryd.ntmps48, List.size_toArray, List.length_cons, List.length_nil, Nat.reduceAdd, Nat.reduceSub, Array.replicate_succ, Array.replicate_zero, List.push_toArray, List.append_toArray, List.nil_append, List.cons_append]
  gi_wp2_with (refine ⟨trivial, ?_⟩; gi_at_call 49; refine (stretches_in 2 f a n ca _).mono ?_; rintro e w' ⟨rfl, rfl⟩)
  obtain ⟨W0, hW0⟩ : ∃ W0, (((w.alloc (.cells #[.int .i64 f, .slice a n ca] 34)).alloc (.cells #[.int .i64 t] 3)).alloc (.cells #[.int .i64 0] 3)).alloc (.cells #[.int .i64 f, .slice a n ca] 34) = W0 := ⟨_, rfl⟩
  have b1 : Blk W0 (w.heap.size + 1) #[.int .i64 t] 3 := by rw [← hW0]; have := ((Blk.new (w.alloc (.cells #[.int .i64 f, .slice a n ca] 34)) #[.int .i64 t] 3).alloc (.cells #[.int .i64 0] 3)).alloc (.cells #[.int .i64 f, .slice a n ca] 34); simpa using this
  have b2 : Blk W0 (w.heap.size + 1 + 1) #[.int .i64 0] 3 := by rw [← hW0]; have := (Blk.new ((w.alloc (.cells #[.int .i64 f, .slice a n ca] 34)).alloc (.cells #[.int .i64 t] 3)) #[.int .i64 0] 3).alloc (.cells #[.int .i64 f, .slice a n ca] 34); simpa using this
  have b3 : Blk W0 (w.heap.size + 1 + 1 + 1) #[.int .i64 f, .slice a n ca] 34 := by rw [← hW0]; have := Blk.new (((w.alloc (.cells #[.int .i64 f, .slice a n ca] 34)).alloc (.cells #[.int .i64 t] 3)).alloc (.cells #[.int .i64 0] 3)) #[.int .i64 f, .slice a n ca] 34; simpa using this
  have hB0 : Below w.heap.size w W0 := by rw [← hW0]; exact below_allocs (below_allocs (below_allocs (below_allocs (Below.refl _ _) _) _) _) _
  have hsz : W0.heap.size = w.heap.size + 4 := by rw [← hW0]; simp
  rw [hW0]
  clear hW0
  refine wpIn_rangeFunc_ownH rfl (by omega) (gf := 76) (lb := #[.pointer (some ⟨w.heap.size + 1 + 1 + 1, 0, none⟩)]) rfl trivial (enters_of Tryd.func76 (by kernel_rfl) rfl)
    (stretches_stops (3 - 1) (by omega) (w.heap.size + 1 + 1 + 1) f a n ca F O w HR.out HRR.out W0 hB0 b3) kpZ_t (kpZ_b (by omega)) (Below.refl _ _) (fun _ => rfl)
    (fun pre W => (Zn.Before t pre ∧ (Blk W (w.heap.size + 1) #[.int .i64 t] 3 ∧ Blk W (w.heap.size + 1 + 1) #[.int .i64 0] 3)) ∧ Below w.heap.size w W)
    (fun c pre W => ((c = .ret ∧ ∃ p x, pre = p ++ [x] ∧ Zn.Before t p ∧ t ≤ x.1.2.1 ∧ Blk W (w.heap.size + 1 + 1) #[.int .i64 x.1.2.2] 3)) ∧ Below w.heap.size w W)
    (OwnFrom.and (OwnFrom.and (ownFrom_pure _ _) (OwnFrom.and (Own.from (blk_own _ _ _) _) (Own.from (blk_own _ _ _) _))) (ownFrom_below (Nat.le_refl _) (by omega)))
    (fun c => OwnFrom.and (Own.from (fun s X Y row hs hg hr => by obtain ⟨h1, p, x, h2, h3, h4, h5⟩ := hs; exact ⟨h1, p, x, h2, h3, h4, blk_own (w.heap.size + 1 + 1) 3 (fun (_ : Unit) => #[.int .i64 x.1.2.2]) () X Y row h5 hg hr⟩) _) (ownFrom_below (Nat.le_refl _) (by omega)))
    ⟨⟨fun y hy => (by cases hy), b1, b2⟩, hB0⟩
    (fun x a' W => ∃ Bx, w.heap.size + 1 + 1 < Bx ∧ Blk W Bx #[.int .i64 x.1.1, .int .i64 x.1.2.1] 45 ∧ a' = { tmps := #[.agg #[.int .i64 f, .slice a n ca], .int .i64 t, .pointer (some ⟨w.heap.size, 0, none⟩), .pointer (some ⟨w.heap.size + 1, 0, none⟩), .pointer (some ⟨w.heap.size + 1 + 1, 0, none⟩), .pointer (some ⟨Bx, 0, none⟩), .int .i64 x.1.2.2, .agg #[.int .i64 f, .slice a n ca], .func (.func 76) #[] #[.pointer (some ⟨w.heap.size + 1 + 1 + 1, 0, none⟩)], .agg #[.int .i64 x.1.1, .int .i64 x.1.2.1], .int .i64 x.1.2.2, undef, undef, undef, undef, undef], defers := [] })
    (fun x a' _ X Y row hs hg hr => by obtain ⟨Bx, h1, h2, h3⟩ := hs; exact ⟨Bx, h1, blk_own Bx 45 (fun (_ : Unit) => #[.int .i64 x.1.1, .int .i64 x.1.2.1]) () X Y row h2 hg (fun r e => (hr r e).2), h3⟩)
    ?assign ?body ?done ?stop
  case assign =>
    rintro l pre x W K ⟨⟨hall, c1, c2⟩, hB1⟩ hK
    have hs1 := hB1.size
    gi_wp2
    exact hK _ _ ((KeepsOthers.alloc _ _).from _) (kpZ_alloc hs1 _) ⟨⟨hall, c1.alloc _, c2.alloc _⟩, hB1.alloc hs1 _⟩ ⟨W.heap.size, c2.lt, Blk.new W _ _, rfl⟩
  case body =>
    rintro l pre x a' W hl ⟨r, hr⟩ ⟨⟨hall, c1, c2⟩, hB1⟩ ⟨Bx, hBx, bX, rfl⟩ hlt
    have k1 := c1.one
    have k2 := c2.one
    have kf := c2.frozen 0
    have kx := bX.two
    by_cases hc : t ≤ x.1.2.1
    · gi_wp2
      exact ⟨(KeepsOthers.setCell _ _ _).from _, ⟨rfl, pre, x, rfl, hall, hc, by have := c2.set 0 (.int .i64 x.1.2.2); simpa using this⟩, hB1.setCell (p := ⟨w.heap.size + 1 + 1, 0, none⟩) (by simp; omega) _⟩
    · gi_wp2
      exact ⟨KeepsFrom.refl _ _, kpZ_refl _ _, ⟨hall.snoc hc, c1, c2⟩, hB1⟩
  case done =>
    rintro D ys W hD hS ⟨⟨hall, _⟩, _⟩ hK
    exfalso
    have : (Zn.frm F n, (6311433599 : Int), Zn.ofs f O n) ∈ ys.map (·.1) := by rw [hS]; simp [Zn.all]
    obtain ⟨y, hy, e⟩ := List.mem_map.1 this
    have h1 := hall y hy
    rw [e] at h1
    have h1 : (6311433599 : Int) < t := h1
    omega
  case stop =>
    rintro D c pre W hD hSp ⟨⟨rfl, p, x, rfl, hall, hx, hb2⟩, hB⟩ hK
    have e : Zn.at_ f F O t n = x.1.2.2 := Zn.first_at HRR.out t ht.1 (p.map (·.1)) x.1 (by have := hSp; rwa [snoc_val] at this) (fun y hy => by obtain ⟨z, hz, rfl⟩ := List.mem_map.1 hy; exact hall z hz) hx
    gi_wp2
    refine ⟨by simp, .inl ⟨_, _, rfl, run_takeDeferred hK, ?_⟩⟩
    have hc5 := cell_kept hb2.one (grownBy_putObj' _ D (.deferred none)) (fun r e => by cases e; exact ⟨_, hK, rfl⟩)
    refine ⟨.int .i64 x.1.2.2, ?_, by rw [e], putObj_below hB (by omega) hK _⟩
    simp [results, Tryd.f48, go_sem, hc5]
end Go.Proofs.YthldlffkgafgaaaDoor
