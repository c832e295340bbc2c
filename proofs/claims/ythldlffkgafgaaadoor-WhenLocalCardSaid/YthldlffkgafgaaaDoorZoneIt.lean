/- The stretches of a zone: what the iterator yields. -/
import Derived.RangeFuncNested
import Derived.RangeFuncBound
import Derived.RangeFuncCalls
import Derived.RangeFuncLeaves
import Derived.RangeFuncBox
import Derived.Shelf.Abstract
import Derived.WalkKit
import Derived.OwnWalkIn
import Derived.TacticsInMore
import Derived.LoopNIn
import Derived.LoopIn
import Derived.Sort.QuietIn
import Derived.Test.YthldlffkgafgaaaDoorZone
namespace Go.Proofs.YthldlffkgafgaaaDoor
open Go.RowKit Go.Sort Go.Shelf
set_option linter.unusedVariables false
/-- A stretch within the moments, with an offset that is one. -/
def Zn.Fit (x : Int × Int × Int) : Prop := (0 ≤ x.1 ∧ x.1 ≤ 6311433599) ∧ (x.1 ≤ x.2.1 ∧ x.2.1 ≤ 6311433599) ∧ (-840 ≤ x.2.2 ∧ x.2.2 ≤ 840)
abbrev Zn.P3 := { x : Int × Int × Int // Zn.Fit x }
abbrev Zn.encs (x : Zn.P3) : Array Value := #[.agg #[.int .i64 x.1.1, .int .i64 x.1.2.1], .int .i64 x.1.2.2]
/-- What a round of a loop over the stretches keeps: old memory, and the iterator's own blocks. -/
def KpZ (B : Nat) (W W' : World) : Prop := Below B W W' ∧ ∀ b c, Blk W b c 107 → Blk W' b c 107
theorem kpZ_t {B : Nat} {X Y Z : World} (h : KpZ B X Y) (k : KpZ B Y Z) : KpZ B X Z := ⟨h.1.trans k.1, fun b c hb => k.2 b c (h.2 b c hb)⟩
theorem kpZ_b {B : Nat} {w : World} (hn : B ≤ w.heap.size) (W : World) (l : Nat) (o o' : Obj) (hl : w.heap.size ≤ l) (h : W.heap[l]? = some o) (h1 : o.isCells = false) (h2 : o.isWalk = false) : KpZ B W (W.putObj l o') := by
  refine ⟨belowK_b hn W l o o' hl h h1 h2, fun b c hb => ?_⟩
  refine hb.grown (grownBy_putObj' W l o') (fun e => ?_)
  obtain rfl : b = l := by cases e; rfl
  unfold Blk at hb; rw [hb] at h; cases h; cases h1
theorem kpZ_refl (B : Nat) (W : World) : KpZ B W W := ⟨Below.refl _ _, fun _ _ h => h⟩
theorem kpZ_alloc {B : Nat} {W : World} (h : B ≤ W.heap.size) (o : Obj) : KpZ B W (W.alloc o) := ⟨(Below.refl _ _).alloc h o, fun _ _ hb => hb.alloc o⟩
theorem kpZ_set {B : Nat} {W : World} {b : Nat} {t : TypeId} {c : Array Value} (hb : Blk W b c t) (ht : t ≠ 107) (hB : B ≤ b) (v : Value) : KpZ B W (W.setCell ⟨b, 0, none⟩ v) := by
  refine ⟨(Below.refl _ _).setCell (p := ⟨b, 0, none⟩) hB v, fun b' c' hb' => hb'.setOther (a := ⟨b, 0, none⟩) (fun e => ?_) v⟩
  have e : b' = b := e
  subst e
  unfold Blk at hb hb'; rw [hb] at hb'; simp at hb'; exact ht hb'.2
theorem snoc_val (pre : List Zn.P3) (x : Zn.P3) : (pre ++ [x]).map (·.1) = pre.map (·.1) ++ [x.1] := by simp
set_option maxRecDepth 100000 in
set_option maxHeartbeats 4000000 in
theorem stretches1_in (m : Nat) (hm : 1 ≤ m) (l Bn : Nat) (f : Int) (a : Option Addr) (n ca : Nat) (F O : Nat → Int) (hR : Zn.Right f F O n) (w0 : World)
    (J Jx : List Zn.P3 → World → Prop) (W : World) (hb0 : Below w0.heap.size w0 W) (hr : Row2 w0 a n (fun i => .int .i64 (F i)) (fun i => .int .i64 (O i))) (hBx : Blk W Bn #[.int .i64 f, .slice a n ca] 34)
    (hJ : AbidesFrom W.heap.size J)
    (hY : ∀ pre x W1, J pre W1 → pre.length < n + 1 → YieldAt Fence.wide (m - 1) Tryd.prog l (Zn.encs x) W1 fun e W' =>
      (e = .returned (.bool true) ∧ J (pre ++ [x]) W' ∧ KpZ w0.heap.size W1 W') ∨ (e = .returned (.bool false) ∧ Jx (pre ++ [x]) W'))
    (h0 : J [] W) :
    CallsIn Fence.wide m Tryd.prog 76 (#[.func (.yield l) #[] #[]] ++ #[.pointer (some ⟨Bn, 0, none⟩)]) W fun e W' => (∃ v, e = .returned v) ∧
      ((∃ xs : List Zn.P3, xs.map (·.1) = Zn.all f F O n ∧ J xs W') ∨ (∃ pre : List Zn.P3, pre.map (·.1) <+: Zn.all f F O n ∧ Jx pre W')) := by
  have HJ := Lib.hid hJ
  have HY := Lib.hid hY
  have HR := Lib.hid hr
  have hn := hR.few
  have hf := hR.first
  have hP2 := hBx.two
  have HB0 := Lib.hid hb0
  clear hJ hY hr hb0
  refine callsIn_of_wp Tryd.func76 rfl trivial ?_ rfl
  simp only [Tryd.ntmps76, List.size_toArray, List.length_cons, List.length_nil, Nat.reduceAdd, Nat.reduceSub, Array.replicate_succ, Array.replicate_zero, List.push_toArray, List.append_toArray, List.nil_append, List.cons_append]
  gi_wp2
  refine wpIn_region_quiet_lit (F := Fence.wide) rfl (by kernel_rfl) (by kernel_rfl) ?_
  repeat (gi_big_quiet_step (fail))
  refine wpQuietIn_nil ?_
  intro _ hw'
  obtain ⟨nq, hw''⟩ := hw'
  subst hw''
  gi_wp2
  clear hP2
  gi_loopw [3, 4, 12] (fun fr of i wr => ∃ (j : Nat) (pre : List Zn.P3), j ≤ n ∧ fr = .int .i64 (Zn.frm F j) ∧ of = .int .i64 (Zn.ofs f O j) ∧ i = .int .i64 j ∧ pre.map (·.1) = Zn.pcs f F O j ∧ J pre wr ∧ Below w0.heap.size W wr) (fun _ _ i _ => n - (intOf i).toNat)
  case atStart => exact ⟨0, [], by omega, rfl, rfl, rfl, rfl, HJ.out _ _ _ none h0 ⟨rfl, rfl, rfl, Nat.le_refl _, fun _ _ _ => rfl⟩ (fun r e => by cases e), below_drewN (Below.refl _ _) _⟩
  case round =>
    obtain ⟨j, pre, hj, rfl, rfl, rfl, hpre, hJs, hnx⟩ := hrel
    have hlen : pre.length < n + 1 := by have := congrArg List.length hpre; rw [List.length_map] at this; have := Zn.pcs_len f F O j; omega
    have HPRE := Lib.hid hpre
    clear hpre
    have hfb := hR.frm_bd j hj
    have hob := hR.ofs_bd j hj
    have hBw : w0.heap.size ≤ wr.heap.size := Nat.le_trans HB0.out.size hnx.size
    by_cases hlt : j < n
    · obtain ⟨b, off, rfl, hb, hcell⟩ := HR.out (by omega)
      obtain ⟨c0, c1⟩ := hcell j hlt
      have hbelow := HB0.out.trans hnx
      have c0 := (hbelow.cell (p := ⟨b, off + j * 2, none⟩) hb).trans c0
      have c1 := (hbelow.cell (p := ⟨b, off + j * 2 + 1, none⟩) hb).trans c1
      clear hcell hbelow
      have hm := hR.mom j hlt
      have hJa := fun o => HJ.out _ _ _ none hJs (World.grownBy_alloc wr o none) (fun r e => by cases e)
      have hK0 := Blk.new wr #[.int .i64 (F j), .int .i64 (O j)] 107
      have hnxa := fun o => hnx.alloc hBw o
      by_cases hup : Zn.frm F j < F j
      · have hFit : Zn.Fit (Zn.frm F j, F j - 1, Zn.ofs f O j) := ⟨hfb, by simp only []; omega, hob⟩
        obtain ⟨fn, tmps, assign, body, hy, hRd⟩ := HY.out pre ⟨(Zn.frm F j, F j - 1, Zn.ofs f O j), hFit⟩ _ (hJa (.cells #[.int .i64 (F j), .int .i64 (O j)] 107)) hlen
        dsimp only [Zn.encs] at hy
        have HN : Hid ((pre ++ [(⟨(Zn.frm F j, F j - 1, Zn.ofs f O j), hFit⟩ : Zn.P3)]).map (·.1) = Zn.pcs f F O (j + 1)) := by show List.map _ _ = _; rw [snoc_val, HPRE.out, Zn.pcs_yes hup]
        generalize (⟨(Zn.frm F j, F j - 1, Zn.ofs f O j), hFit⟩ : Zn.P3) = x at hRd HN
        gi_wp2
        refine hRd.mono ?_
        rintro e W3 (⟨rfl, hJ3, hk3⟩ | ⟨rfl, hJx3⟩)
        · have hK3 := hk3.2 _ _ hK0
          have k3 := hK3.two
          have hn3 := (hnxa (.cells #[.int .i64 (F j), .int .i64 (O j)] 107)).trans (hk3.1.mono (Nat.le_refl _))
          clear hk3 hK3
          gi_wp2
          refine wpIn_region_quiet_lit (F := Fence.wide) rfl (by kernel_rfl) (by kernel_rfl) ?_
          repeat (gi_big_quiet_step (fail))
          refine wpQuietIn_nil ?_
          intro _ hw'
          obtain ⟨nq, hw''⟩ := hw'
          subst hw''
          gi_wp2
          go_roundw
          case rel => exact ⟨j + 1, _, by omega, by rw [Zn.frm_succ], by rw [Zn.ofs_succ], by go_num, HN.out, HJ.out _ _ _ none hJ3 ⟨rfl, rfl, rfl, Nat.le_refl _, fun _ _ _ => rfl⟩ (fun r e => by cases e), below_drewN hn3 _⟩
          case measure => simp [intOf]; omega
        · gi_wp2
          refine bodyPost_ret (results_none rfl _ _ _) rfl ?_
          exact ⟨⟨_, rfl⟩, .inr ⟨_, by rw [HN.out]; exact Zn.pcs_all f F O n (j + 1) (by omega), hJx3⟩⟩
      · have hup' : (Zn.frm F j < F j) = False := by simpa using hup
        have hupd : decide (Zn.frm F j < F j) = false := by simpa using hup
        have HN : Hid (pre.map (·.1) = Zn.pcs f F O (j + 1)) := by show List.map _ _ = _; rw [HPRE.out, Zn.pcs_no hup]
        clear hup
        have hk3 := (Blk.new wr #[.int .i64 (F j), .int .i64 (O j)] 107).two
        have hJa2 := hJa (.cells #[.int .i64 (F j), .int .i64 (O j)] 107)
        have hn2 := hnxa (.cells #[.int .i64 (F j), .int .i64 (O j)] 107)
        clear hJa hnxa
        gi_wp2
        refine ⟨fun _ h => (by cases h), ?_⟩
        gi_wp2
        refine wpIn_region_quiet_lit (F := Fence.wide) rfl (by kernel_rfl) (by kernel_rfl) ?_
        repeat (gi_big_quiet_step (fail))
        refine wpQuietIn_nil ?_
        intro _ hw'
        obtain ⟨nq, hw''⟩ := hw'
        subst hw''
        gi_wp2
        go_roundw
        case rel => exact ⟨j + 1, _, by omega, by rw [Zn.frm_succ], by rw [Zn.ofs_succ], by go_num, HN.out, HJ.out _ _ _ none hJa2 ⟨rfl, rfl, rfl, Nat.le_refl _, fun _ _ _ => rfl⟩ (fun r e => by cases e), below_drewN hn2 _⟩
        case measure => simp [intOf]; omega
    · obtain rfl : j = n := by omega
      have hFit : Zn.Fit (Zn.frm F j, 6311433599, Zn.ofs f O j) := ⟨hfb, ⟨hfb.2, Int.le_refl _⟩, hob⟩
      obtain ⟨fn, tmps, assign, body, hy, hRd⟩ := HY.out pre ⟨(Zn.frm F j, 6311433599, Zn.ofs f O j), hFit⟩ _ hJs hlen
      dsimp only [Zn.encs] at hy
      have HN : Hid ((pre ++ [(⟨(Zn.frm F j, 6311433599, Zn.ofs f O j), hFit⟩ : Zn.P3)]).map (·.1) = Zn.all f F O j) := by show List.map _ _ = _; rw [snoc_val, HPRE.out]; rfl
      generalize (⟨(Zn.frm F j, 6311433599, Zn.ofs f O j), hFit⟩ : Zn.P3) = x at hRd HN
      gi_wp2
      refine hRd.mono ?_
      rintro e W3 (⟨rfl, hJ3, hk3⟩ | ⟨rfl, hJx3⟩)
      · gi_wp2
        go_end0
        exact ⟨⟨_, rfl⟩, .inl ⟨_, HN.out, hJ3⟩⟩
      · gi_wp2
        go_end0
        exact ⟨⟨_, rfl⟩, .inr ⟨_, by rw [HN.out]; exact List.prefix_refl _, hJx3⟩⟩
end Go.Proofs.YthldlffkgafgaaaDoor
