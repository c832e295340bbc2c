/- What it means that a library is right. -/
import Derived.Test.YtipmegkmkbbklaaFdLib
import Derived.Test.YtipmegkmkbbklaaPhRow
import Derived.Test.YtipmegkmkbbklaaInts
import Derived.Test.YtipmegkmkbbklaaFdIds
import Derived.Deep.Cut
namespace Go.Proofs.Ytipmegkmkbbklaa
open Go.RowKit Go.Sort Go.Shelf
set_option linter.unusedVariables false
namespace Fd
theorem scan_all {bad : Nat → Int} {n : Nat} : ∀ i, scan bad i n = 0 → ∀ k, i ≤ k → k < i + n → bad k = 0 := by
  induction n with
  | zero => intro i _ k h1 h2; omega
  | succ n ih =>
    intro i h k h1 h2
    by_cases hb : bad i = 0
    · rw [scan_ok hb] at h
      by_cases e : k = i
      · subst e; exact hb
      · exact ih (i + 1) h k (by omega) (by omega)
    · rw [scan_bad hb] at h; exact absurd h hb
theorem lerr_few {x : Nat → Ph} {n : Nat} (h : lerr x n = 0) : n ≤ 1000 := by
  unfold lerr at h; split at h
  · cases h
  · omega
theorem lerr_scan {x : Nat → Ph} {n : Nat} (h : lerr x n = 0) : scan (lbad x) 0 n = 0 := by
  unfold lerr at h; split at h
  · cases h
  · exact h
theorem lerr_each {x : Nat → Ph} {n : Nat} (h : lerr x n = 0) (i : Nat) (hi : i < n) : (x i).err = 0 := by
  have := scan_all 0 (lerr_scan h) i (by omega) (by omega)
  by_cases g : (x i).err = 0
  · exact g
  · rw [lbad_err rfl g] at this; exact absurd this g
theorem lerr_rise {x : Nat → Ph} {n : Nat} (h : lerr x n = 0) (i : Nat) (hi : i + 1 < n) : (x i).id < (x (i + 1)).id := by
  have := scan_all 0 (lerr_scan h) (i + 1) (by omega) (by omega)
  have he := lerr_each h (i + 1) hi
  by_cases g : (x (i + 1)).id ≤ (x (i + 1 - 1)).id
  · rw [lbad_ord he (by omega) g] at this; cases this
  · simpa using g
end Fd
end Go.Proofs.Ytipmegkmkbbklaa
namespace Go.Proofs.Ytipmegkmkbbklaa
open Go.RowKit Go.Sort Go.Shelf
set_option linter.unusedVariables false
namespace Fd
/-- The Ids of the first n photos. -/
def idsL (x : Nat → Ph) (n : Nat) : List Int := (List.range n).map fun i => (x i).id
theorem idsL_succ (x : Nat → Ph) (n : Nat) : idsL x (n + 1) = idsL x n ++ [(x n).id] := by simp [idsL, List.range_succ]
theorem idsL_len (x : Nat → Ph) (n : Nat) : (idsL x n).length = n := by simp [idsL]
end Fd
def IntsPost (w : World) (xs : List Int) (e : Ending) (w' : World) : Prop :=
  ∃ a ca, e = .returned (.slice a xs.length ca) ∧ RowL w' a xs ∧ Below w.heap.size w w'
set_option maxRecDepth 100000 in
set_option maxHeartbeats 2000000 in
theorem idsF_is (a : Option Addr) (n ca : Nat) (x : Nat → Ph) (w : World) (hx : Phs w a n x) (hn : n ≤ 100000) :
    Calls Try.prog 58 #[.slice a n ca] w (IntsPost w (Fd.idsL x n)) := by
  -- f.ids: the function; go_wp2_with (go_at_call 87; (with_reducible refine (clip_ints _ _ _ _ (by omega) (by omega)).mono ?_); rintro e w9 ⟨rfl, rfl⟩): the end
  obtain ⟨i0, hi0, hy0, hy1, hy2⟩ := info_parts infoInt
  have HI0 := Lib.hid hi0; have HI1 := Lib.hid hy0; have HI2 := Lib.hid hy1; have HI3 := Lib.hid hy2
  have HX := Lib.hid hx
  clear hx hi0 hy0 hy1 hy2
  go_enter Try.func58, Try.ntmps58
  go_wp2_with fail
  go_loopg [3, 8] n (fun gk v i wr => ∃ j : Nat, j ≤ n ∧ gk = n - j ∧ i = .int .i64 j ∧ wr.ownsRow w.heap.size 3 1 v j ((Fd.idsL x j).map (Value.int .i64)) ∧ Below w.heap.size w wr)
  case atStart => exact ⟨0, by omega, rfl, rfl, World.ownsRow_nil _ _ _ _, Below.refl _ _⟩
  case round =>
    obtain ⟨j, hj, rfl, rfl, hown, hB⟩ := hrel
    have hsz := hB.size
    by_cases hlt : j < n
    · have HXr := HX.out.keep hB
      obtain ⟨b, off, rfl, hb, hcell⟩ := HXr.row (by omega)
      obtain ⟨q0, q1, q2, q3, q4, q5, q6, q7, q8, q9, q10, q11, q12⟩ := hcell j hlt
      have HY := Lib.hid (Fd.idsL_succ x j)
      clear hcell HXr
      generalize x j = y at *
      generalize hL : Fd.idsL x j = L at *
      obtain ⟨W4, hW4, hP, hz4, hB4⟩ := box wr #[.int .i64 y.id, .string y.file, .int .i64 y.mom, .int .i64 y.zone, .slice y.wa y.wn y.wc, .int .i64 y.W, .int .i64 y.H, .int .i64 y.turn, .int .i64 y.stars, .slice y.ta y.tn y.tc, .string y.cap, .slice y.pa y.pn y.pc, .bool y.hid] 26
      have HW4 := Lib.hid hW4
      have hB04 := below_up hB hB4
      have hsz4 := hB04.size
      have HOWN4 := Lib.hid (own_keepH hown hB4)
      clear hW4 hown hL hz4
      obtain ⟨m0, m1, m2, m3, m4, m5, m6, m7, m8, m9, m10, m11, m12⟩ := hP.photo
      go_upto_region 5 with fail
      rw [HW4.out]
      clear q0 q1 q2 q3 q4 q5 q6 q7 q8 q9 q10 q11 q12
      go_wp2_with (at_builtin; refine wpList_append_own2 _ rfl _ _ 24 rfl w.heap.size 3 i0 (.int .i64 0) 1 8 Try.underlying24 HI0.out HI1.out HI2.out HI3.out rfl (by decide) _ _ _ rfl (HOWN4.out.alloc _) ⟨W4.heap.size, 0, none⟩ 1 1 [.int .i64 y.id] rfl (by decide) rfl (cell_one_new _ _ _) (by simp [Value.oneCell']) (by unfold maxLen; omega) (by omega) (by simp; omega) ?_; intro g8 cap8 w8 hown8 hgrow8 hnew8)
      have HOWN8 := Lib.hid hown8
      have HB8 := Lib.hid ((below_allocs hB04 (.cells #[.int .i64 y.id] 3)).grown hgrow8 (by simp; omega) (fun k e => (HOWN4.out.lt k e).1))
      clear hown8 hgrow8 hnew8
      go_roundg (n - (j + 1))
      case rel => exact ⟨j + 1, by omega, rfl, by go_num, by rw [HY.out, List.map_append]; exact HOWN8.out, HB8.out⟩
      case measure => omega
    · obtain rfl : j = n := by omega
      have hll := Fd.idsL_len x j
      generalize Fd.idsL x j = L at *
      rcases hown.2 with ⟨rfl, h0⟩ | ⟨g, cap, cur, rfl, hg, hcell, hk, hm, _⟩
      · subst h0
        obtain rfl := List.eq_nil_of_length_eq_zero hll
        clear hown hll
        go_wp2_with (go_at_call 87; (with_reducible refine (clip_ints _ _ _ _ (by omega) (by omega)).mono ?_); rintro e w9 ⟨rfl, rfl⟩)
        go_ret
        exact ⟨none, 0, rfl, RowL.nil _ _, hB⟩
      · have hm2 : cap ≤ 9223372036854775807 := hm
        have HR := Lib.hid (RowL.of_own hown)
        have HLL := Lib.hid hll
        clear hown hcell hm hll
        go_wp2_with (go_at_call 87; (with_reducible refine (clip_ints _ _ _ _ (by omega) (by omega)).mono ?_); rintro e w9 ⟨rfl, rfl⟩)
        go_ret
        exact ⟨_, _, by rw [HLL.out]; rfl, HR.out, hB⟩
set_option maxRecDepth 100000 in
set_option maxHeartbeats 2000000 in
theorem idsR_is (a : Option Addr) (n ca : Nat) (x : Nat → Ph) (w : World) (hx : Phs w a n x) (hn : n ≤ 100000) :
    Calls Try.prog 24 #[.slice a n ca] w (IntsPost w (Fd.idsL x n)) := by
  -- R.Ids: the function; go_wp2_with fail: the end
  obtain ⟨i0, hi0, hy0, hy1, hy2⟩ := info_parts infoInt
  have HI0 := Lib.hid hi0; have HI1 := Lib.hid hy0; have HI2 := Lib.hid hy1; have HI3 := Lib.hid hy2
  have HX := Lib.hid hx
  clear hx hi0 hy0 hy1 hy2
  go_enter Try.func24, Try.ntmps24
  go_wp2_with fail
  go_loopg [3, 8] n (fun gk v i wr => ∃ j : Nat, j ≤ n ∧ gk = n - j ∧ i = .int .i64 j ∧ wr.ownsRow w.heap.size 3 1 v j ((Fd.idsL x j).map (Value.int .i64)) ∧ Below w.heap.size w wr)
  case atStart => exact ⟨0, by omega, rfl, rfl, World.ownsRow_nil _ _ _ _, Below.refl _ _⟩
  case round =>
    obtain ⟨j, hj, rfl, rfl, hown, hB⟩ := hrel
    have hsz := hB.size
    by_cases hlt : j < n
    · have HXr := HX.out.keep hB
      obtain ⟨b, off, rfl, hb, hcell⟩ := HXr.row (by omega)
      obtain ⟨q0, q1, q2, q3, q4, q5, q6, q7, q8, q9, q10, q11, q12⟩ := hcell j hlt
      have HY := Lib.hid (Fd.idsL_succ x j)
      clear hcell HXr
      generalize x j = y at *
      generalize hL : Fd.idsL x j = L at *
      obtain ⟨W4, hW4, hP, hz4, hB4⟩ := box wr #[.int .i64 y.id, .string y.file, .int .i64 y.mom, .int .i64 y.zone, .slice y.wa y.wn y.wc, .int .i64 y.W, .int .i64 y.H, .int .i64 y.turn, .int .i64 y.stars, .slice y.ta y.tn y.tc, .string y.cap, .slice y.pa y.pn y.pc, .bool y.hid] 26
      have HW4 := Lib.hid hW4
      have hB04 := below_up hB hB4
      have hsz4 := hB04.size
      have HOWN4 := Lib.hid (own_keepH hown hB4)
      clear hW4 hown hL hz4
      obtain ⟨m0, m1, m2, m3, m4, m5, m6, m7, m8, m9, m10, m11, m12⟩ := hP.photo
      go_upto_region 5 with fail
      rw [HW4.out]
      clear q0 q1 q2 q3 q4 q5 q6 q7 q8 q9 q10 q11 q12
      go_wp2_with (at_builtin; refine wpList_append_own2 _ rfl _ _ 24 rfl w.heap.size 3 i0 (.int .i64 0) 1 8 Try.underlying24 HI0.out HI1.out HI2.out HI3.out rfl (by decide) _ _ _ rfl (HOWN4.out.alloc _) ⟨W4.heap.size, 0, none⟩ 1 1 [.int .i64 y.id] rfl (by decide) rfl (cell_one_new _ _ _) (by simp [Value.oneCell']) (by unfold maxLen; omega) (by omega) (by simp; omega) ?_; intro g8 cap8 w8 hown8 hgrow8 hnew8)
      have HOWN8 := Lib.hid hown8
      have HB8 := Lib.hid ((below_allocs hB04 (.cells #[.int .i64 y.id] 3)).grown hgrow8 (by simp; omega) (fun k e => (HOWN4.out.lt k e).1))
      clear hown8 hgrow8 hnew8
      go_roundg (n - (j + 1))
      case rel => exact ⟨j + 1, by omega, rfl, by go_num, by rw [HY.out, List.map_append]; exact HOWN8.out, HB8.out⟩
      case measure => omega
    · obtain rfl : j = n := by omega
      have hll := Fd.idsL_len x j
      generalize Fd.idsL x j = L at *
      rcases hown.2 with ⟨rfl, h0⟩ | ⟨g, cap, cur, rfl, hg, hcell, hk, hm, _⟩
      · subst h0
        obtain rfl := List.eq_nil_of_length_eq_zero hll
        clear hown hll
        go_wp2_with fail
        go_ret
        exact ⟨none, 0, rfl, RowL.nil _ _, hB⟩
      · have hm2 : cap ≤ 9223372036854775807 := hm
        have HR := Lib.hid (RowL.of_own hown)
        have HLL := Lib.hid hll
        clear hown hcell hm hll
        go_wp2_with fail
        go_ret
        exact ⟨_, _, by rw [HLL.out]; rfl, HR.out, hB⟩
end Go.Proofs.Ytipmegkmkbbklaa
