/- The reference's MomentsOf: the moments with given local seconds, in order. -/
import Derived.Maps.AppendAt
import Derived.Test.YtbbedepojogfmaaZoneRef
namespace Go.Proofs.Ytbbedepojogfmaa
open Go.RowKit Go.Sort Go.Shelf
set_option linter.unusedVariables false
/-- A list of numbers in memory of the call's own or nil. -/
def ListPost (w : World) (xs : List Int) (e : Ending) (w' : World) : Prop := ∃ a ca, e = .returned (.slice a xs.length ca) ∧ RowL w' a xs ∧ Below w.heap.size w w'
theorem own_below {w w' : World} {base : Nat} {e : TypeId} {size : Nat} {v : Value} {n : Nat} {xs : List Value} (h : w.ownsRow base e size v n xs) (hb : Below w.heap.size w w') : w'.ownsRow base e size v n xs :=
  h.kept (row := none) ⟨hb.os, hb.tape, hb.output, hb.size, fun k hk _ => hb.block k hk⟩ (by cases v.ownBlock <;> simp)
theorem own_apart {w : World} {base : Nat} {e : TypeId} {size : Nat} {v : Value} {n : Nat} {xs : List Value} (h : w.ownsRow (base + 1) e size v n xs) (b : Nat) (hb : b ≤ base) : some b ≠ v.ownBlock := by
  intro he
  have := (h.lt b he.symm).1
  omega
set_option maxRecDepth 100000 in
set_option maxHeartbeats 4000000 in
theorem momentsOf_is (f : Int) (a : Option Addr) (n ca : Nat) (F O : Nat → Int) (w : World) (hr : Row2 w a n (fun i => .int .i64 (F i)) (fun i => .int .i64 (O i))) (hR : Zn.Right f F O n) (l : Int) (hl : 0 ≤ l ∧ l ≤ 6311433599) :
    Calls Try.prog 18 #[.agg #[.int .i64 f, .slice a n ca], .int .i64 l] w (ListPost w (Zn.got l (Zn.all f F O n))) := by
  obtain ⟨W1, hW1, hP, hz1, hB⟩ := box w #[.int .i64 f, .slice a n ca] 24
  have HW1 := Lib.hid hW1
  have hn := hR.few
  have HO := Lib.hid (fun t V (hV : Below w.heap.size w V) => offsetAt_is f a n ca F O V (hr.keep hV) t (by omega))
  have HRR := Lib.hid hR
  obtain ⟨i0, hi, hz0, hz1', hz2⟩ := info_parts infoInt
  have HI0 := Lib.hid hi; have HI1 := Lib.hid hz0; have HI2 := Lib.hid hz1'; have HI3 := Lib.hid hz2
  clear hW1 hz1 hr hi hz0 hz1' hz2 hR
  go_enter Try.func18, Try.ntmps18
  go_wp2_with fail
  rw [HW1.out]
  go_loopg [5, 6] 1681 (fun gk v o wr => ∃ (j : Nat), j ≤ 1681 ∧ gk = 1681 - j ∧ o = .int .i64 ((j : Int) - 840) ∧ wr.ownsRow (w.heap.size + 1) 3 1 v (Zn.refs f F O n l j).length ((Zn.refs f F O n l j).map (Value.int .i64)) ∧ (Zn.refs f F O n l j = [] → v = .slice none 0 0) ∧ Blk wr w.heap.size #[.int .i64 f, .slice a n ca] 24 ∧ Below w.heap.size w wr)
  case atStart => exact ⟨0, by omega, rfl, rfl, World.ownsRow_nil _ _ _ _, fun _ => rfl, hP, hB⟩
  case round =>
    clear hP hB
    obtain ⟨j, hj, rfl, rfl, hown, hnil, hP, hB⟩ := hrel
    have hPn := hP.two
    have hlen := Zn.refs_len f F O n l j
    by_cases hlt : j < 1681
    · obtain ⟨o, ho⟩ : ∃ o : Int, (j : Int) - 840 = o := ⟨_, rfl⟩
      have hob : -840 ≤ o ∧ o ≤ 840 := by omega
      have HOO := Lib.hid ho
      rw [ho]
      clear ho
      have HO2 := Lib.hid (HO.out (l - 60 * o))
      by_cases m1 : Ev.mom (l - 60 * o) = true
      · have HM := Lib.hid m1
        by_cases hk : Zn.at_ f F O (l - 60 * o) n = o
        · have HS := Lib.hid (Zn.refs_yes (f := f) (F := F) (O := O) (n := n) (l := l) (k := j) (by rw [HOO.out]; unfold Zn.seen; rw [m1, hk]; simp))
          rw [HOO.out] at HS
          rw [hk] at HO2
          clear m1 hk
          have hl1 : (Zn.refs f F O n l j).length + 1 ≤ 1682 := by omega
          generalize Zn.refs f F O n l j = rs at *
          go_wp2_with (first
            | (go_at_call 51; (with_reducible refine (moment_is _ true HM.out _).mono ?_); rintro e w3 ⟨rfl, rfl⟩)
            | (go_at_call 16; refine (HO2.out _ hB).mono ?_; rintro e w4 ⟨rfl, hB4⟩; have hown4 := own_below hown hB4; have hOwn4 := own_apart hown4; have hP4 := hP.keep hB4; have hBs := below_up hB hB4)
            | (at_builtin; refine wpList_append_own2 _ rfl _ _ 29 rfl (w.heap.size + 1) 3 i0 (.int .i64 0) 1 8 Try.underlying29 HI0.out HI1.out HI2.out HI3.out rfl (by decide) _ _ _ rfl (hown4.alloc _) ⟨w4.heap.size, 0, none⟩ 1 1 [.int .i64 (l - 60 * o)] rfl (by decide) rfl (cell_one_new _ _ _) (by simp [Value.oneCell']) (by unfold maxLen; omega) (by omega) (by have := hP4.lt; simp; omega) ?_; intro g cap w5 hown5 hgrow5 hnew5))
          have hPa := (hP4.alloc (.cells #[.int .i64 (l - 60 * o)] 3)).grown hgrow5 (hOwn4 w.heap.size (Nat.le_refl _))
          have hBa := (below_allocs hBs (.cells #[.int .i64 (l - 60 * o)] 3)).grown hgrow5 (by simp; have := hBs.size; omega) (fun k e => by have := (hown4.lt k e).1; omega)
          go_wp2_with fail
          -- (by rw [List.length_append, List.map_append]; exact hown5) hPa hBa: the row, the box, Below
          go_roundg (1681 - (j + 1))
          case rel => exact ⟨j + 1, by omega, rfl, by rw [show (((j + 1 : Nat) : Int) - 840) = (j : Int) - 840 + 1 by omega, HOO.out], by rw [HS.out]; exact (by rw [List.length_append, List.map_append]; exact hown5), by rw [HS.out]; exact (fun h => by simp at h), hPa, hBa⟩
          case measure => omega
        · have hk2 : (Zn.at_ f F O (l - 60 * o) n == o) = false := by simpa using hk
          have HS := Lib.hid (Zn.refs_no (f := f) (F := F) (O := O) (n := n) (l := l) (k := j) (by rw [HOO.out]; unfold Zn.seen; rw [m1]; simpa using hk))
          clear m1 hk
          generalize Zn.at_ f F O (l - 60 * o) n = z at *
          go_wp2_with (first
            | (go_at_call 51; (with_reducible refine (moment_is _ true HM.out _).mono ?_); rintro e w3 ⟨rfl, rfl⟩)
            | (go_at_call 16; refine (HO2.out _ hB).mono ?_; rintro e w4 ⟨rfl, hB4⟩; have hown4 := own_below hown hB4; have hP4 := hP.keep hB4; have hBs := below_up hB hB4))
          -- hown4 hP4 hBs: the row, the box, Below
          go_roundg (1681 - (j + 1))
          case rel => exact ⟨j + 1, by omega, rfl, by rw [show (((j + 1 : Nat) : Int) - 840) = (j : Int) - 840 + 1 by omega, HOO.out], by rw [HS.out]; exact hown4, by rw [HS.out]; exact hnil, hP4, hBs⟩
          case measure => omega
      · have m1' : Ev.mom (l - 60 * o) = false := by simpa using m1
        have HM := Lib.hid m1'
        have HS := Lib.hid (Zn.refs_no (f := f) (F := F) (O := O) (n := n) (l := l) (k := j) (by rw [HOO.out]; unfold Zn.seen; rw [m1']; rfl))
        clear m1 m1'
        go_wp2_with (go_at_call 51; (with_reducible refine (moment_is _ false HM.out _).mono ?_); rintro e w3 ⟨rfl, rfl⟩)
        -- hown hP hB: the row, the box, Below
        go_roundg (1681 - (j + 1))
        case rel => exact ⟨j + 1, by omega, rfl, by rw [show (((j + 1 : Nat) : Int) - 840) = (j : Int) - 840 + 1 by omega, HOO.out], by rw [HS.out]; exact hown, by rw [HS.out]; exact hnil, hP, hB⟩
        case measure => omega
    · obtain rfl : j = 1681 := by omega
      have HEQ := Lib.hid (Zn.rising_eq HRR.out l)
      have HX := Lib.hid hown; have HNIL := Lib.hid hnil
      clear hown hnil
      generalize Zn.got l (Zn.all f F O n) = gs at *
      generalize Zn.refs f F O n l 1681 = rs at *
      by_cases hr0 : rs = []
      · obtain rfl := HNIL.out hr0
        have HR0 := Lib.hid hr0; clear hr0
        go_wp2_with (go_at_call 58; refine (rising_nil _).mono ?_; rintro e w5 ⟨a5, ys, ca5, rfl, hp, hs, hrow, hB5⟩)
        have hy := HEQ.out ys (by rw [HR0.out]; exact hp) hs
        go_ret
        exact ⟨a5, ca5, by rw [← hy]; rfl, by rw [← hy]; exact hrow, below_up hB hB5⟩
      · have hr1 : 1 ≤ rs.length := by cases rs with | nil => exact absurd rfl hr0 | cons x xs => simp
        obtain ⟨g, cap, cur, rfl, _⟩ := HX.out.2.resolve_left (fun h => by omega)
        have HRI := Lib.hid (rising_some (some ⟨g, 0, none⟩) rs cap wr (RowL.of_own HX.out) hr1 (by omega))
        clear hr0
        obtain ⟨m, hm⟩ : ∃ m, rs.length = m := ⟨_, rfl⟩
        rw [hm] at HRI
        rw [hm]
        clear hm
        go_wp2_with (go_at_call 58; refine HRI.out.mono ?_; rintro e w5 ⟨a5, ys, ca5, rfl, hp, hs, hrow, hB5⟩)
        have hy := HEQ.out ys hp hs
        go_ret
        exact ⟨a5, ca5, by rw [← hy]; rfl, by rw [← hy]; exact hrow, below_up hB hB5⟩
end Go.Proofs.Ytbbedepojogfmaa
