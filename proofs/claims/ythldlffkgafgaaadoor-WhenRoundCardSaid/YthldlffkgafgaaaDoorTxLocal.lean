/- dateText and localText: the program's texts of dates and of local seconds. -/
import Derived.Test.YthldlffkgafgaaaDoorTxPad
import Derived.Test.YthldlffkgafgaaaDoorEvents0
import Derived.Lib.QuietBelow
namespace Go.Proofs.YthldlffkgafgaaaDoor
open Go.RowKit Go.Sort Go.Shelf
set_option linter.unusedVariables false
namespace Tx
def D (y m d : Int) (sep : ByteArray) : ByteArray := Y4 y ++ sep ++ P2 m ++ sep ++ P2 d
def LT (y m d s : Int) (sep mid : ByteArray) : ByteArray := D y m d sep ++ mid ++ P2 (s / 3600) ++ ⟨#[58]⟩ ++ P2 (s / 60 % 60) ++ ⟨#[58]⟩ ++ P2 (s % 60)
theorem D_size {y m d : Int} {sep : ByteArray} (hy : 1900 ≤ y ∧ y ≤ 2099) (hm : 1 ≤ m ∧ m ≤ 12) (hd : 1 ≤ d ∧ d ≤ 31) (hs : sep.size = 1) : (D y m d sep).size = 10 := by
  unfold D
  simp only [ByteArray.size_append]
  rw [Y4_size (by omega) (by omega), P2_size (by omega) (by omega), P2_size (by omega) (by omega), hs]
end Tx
set_option maxRecDepth 100000 in
set_option maxHeartbeats 1000000 in
theorem dateText_is (y m d : Int) (sep : ByteArray) (hy : 1900 ≤ y ∧ y ≤ 2099) (hm : 1 ≤ m ∧ m ≤ 12) (hd : 1 ≤ d ∧ d ≤ 31) (hs : sep.size = 1) (w : World) (ht : Tx.Tab w) :
    Calls Tryd.prog 69 #[.agg #[.int .i64 y, .int .i64 m, .int .i64 d], .string sep] w fun e w' => e = .returned (.string (Tx.D y m d sep)) ∧ Below w.heap.size w w' := by
  obtain ⟨W1, hW1, hP, hz1, hB⟩ := box w #[.int .i64 y, .int .i64 m, .int .i64 d] 56
  have HW1 := Lib.hid hW1
  obtain ⟨c0, c1, c2⟩ := hP.three
  have ht1 := Tx.tab_below ht hB
  have HY : Hid (∀ d os, Calls Tryd.prog 36 #[.int .i64 y, .int .i64 4] (grow (redrawn W1 d) os) fun e w'' => e = .returned (.string (Tx.Y4 y)) ∧ ∃ p : Regrown, w'' = grow (redrawn W1 p.d) p.os) :=
    fun d os => Calls.regrown_of (padded4_is y (by omega) (by omega) _ (Tx.tab_below ht1 (below_regrown W1 d os)))
  have two : ∀ x : Int, 0 ≤ x → x < 100 → Hid (∀ d os, Calls Tryd.prog 36 #[.int .i64 x, .int .i64 2] (grow (redrawn W1 d) os) fun e w'' => e = .returned (.string (Tx.P2 x)) ∧ ∃ p : Regrown, w'' = grow (redrawn W1 p.d) p.os) :=
    fun x h0 h1 d os => Calls.regrown_of ((padded2_is x h0 h1 _).mono fun e w' ⟨he, hw⟩ => ⟨he, by rw [hw]; exact Below.refl _ _⟩)
  have HM := two m (by omega) (by omega)
  have HD := two d (by omega) (by omega)
  have ys := Tx.Y4_size (n := y) (by omega) (by omega)
  have ms := Tx.P2_size (n := m) (by omega) (by omega)
  have ds := Tx.P2_size (n := d) (by omega) (by omega)
  unfold Tx.D
  generalize Tx.Y4 y = A at *
  generalize Tx.P2 m = B at *
  generalize Tx.P2 d = E at *
  clear hW1 two ht ht1 hP hy hm hd
  go_enter Tryd.func69, Tryd.ntmps69
  go_wp2_with fail
  rw [HW1.out]
  have k0 := cell_regrown c0
  have k1 := cell_regrown c1
  have k2 := cell_regrown c2
  refine wp_region_quiet_below (by kernel_rfl) (by kernel_rfl) ?_
  repeat (go_big_quiet_step ((go_at_call 36; first | with_reducible exact HY.out _ _ | with_reducible exact HM.out _ _ | with_reducible exact HD.out _ _)))
  refine wpQuiet_nil ?_
  intro _ hw'
  obtain ⟨⟨dq, osq⟩, hw''⟩ := hw'
  subst hw''
  have hBw2 := below_regrown W1 dq osq
  generalize grow (redrawn W1 dq) osq = w2 at *
  clear dq osq
  go_wp2_with fail
  go_ret
  exact ⟨rfl, below_up hB hBw2⟩
set_option maxRecDepth 100000 in
set_option maxHeartbeats 2000000 in
theorem localText_is (l : Int) (sep mid : ByteArray) (hl : 0 ≤ l ∧ l ≤ 6311433599) (hs : sep.size = 1) (hm : mid.size = 1) (w : World) (ht : Tx.Tab w) :
    Calls Tryd.prog 35 #[.int .i64 l, .string sep, .string mid] w fun e w' => ∃ y m d : Int, Cal.vld y m d = true ∧ Cal.num y m d = l / 86400 ∧ e = .returned (.string (Tx.LT y m d (l % 86400) sep mid)) ∧ Below w.heap.size w w' := by
  have HDO := Lib.hid (dateOf_yes (l / 86400) w (by omega) (by omega))
  have HT := Lib.hid ht
  have two : ∀ x : Int, 0 ≤ x → x < 100 → Hid (∀ W, Calls Tryd.prog 36 #[.int .i64 x, .int .i64 2] W fun e w' => e = .returned (.string (Tx.P2 x)) ∧ w' = W) := fun x h0 h1 W => padded2_is x h0 h1 W
  have HH := two (l % 86400 / 3600) (by omega) (by omega)
  have HM := two (l % 86400 / 60 % 60) (by omega) (by omega)
  have HS := two (l % 86400 % 60) (by omega) (by omega)
  have hhs := Tx.P2_size (n := l % 86400 / 3600) (by omega) (by omega)
  have hms := Tx.P2_size (n := l % 86400 / 60 % 60) (by omega) (by omega)
  have hss := Tx.P2_size (n := l % 86400 % 60) (by omega) (by omega)
  unfold Tx.LT
  generalize Tx.P2 (l % 86400 / 3600) = A at *
  generalize Tx.P2 (l % 86400 / 60 % 60) = B at *
  generalize Tx.P2 (l % 86400 % 60) = E at *
  rw [show l % 86400 % 60 = l % 60 by omega] at HS
  clear two ht
  go_enter Tryd.func35, Tryd.ntmps35
  go_wp2_with (go_at_call 31; refine HDO.out.mono ?_; rintro e w1 ⟨y, m, d, hv, hn, rfl, hB⟩)
  obtain ⟨y1, y2, m1, m2, d1, d2⟩ := (Cal.vld_iff _ _ _).1 hv
  have d3 := Cal.len_bd y m
  have HDT := Lib.hid (fun W hb => dateText_is y m d sep ⟨y1, y2⟩ ⟨m1, m2⟩ ⟨d1, by omega⟩ hs W (Tx.tab_below (Tx.tab_below HT.out hB) hb))
  have hds := Tx.D_size (y := y) (m := m) (d := d) ⟨y1, y2⟩ ⟨m1, m2⟩ ⟨d1, by omega⟩ hs
  have HV := Lib.hid hv
  have HN := Lib.hid hn
  generalize hDD : Tx.D y m d sep = F at *
  clear d3 hv hn y1 y2 m1 m2 d1 d2
  go_at_call 69
  refine (HDT.out _ ((Below.refl _ _).alloc (Nat.le_refl _) _)).mono ?_
  rintro e w2 ⟨rfl, hB2⟩
  go_wp2_with (go_at_call 36; (first | (with_reducible refine (HH.out _).mono ?_) | (with_reducible refine (HM.out _).mono ?_) | (with_reducible refine (HS.out _).mono ?_)); rintro e w' ⟨rfl, rfl⟩)
  go_ret
  exact ⟨y, m, d, HV.out, HN.out, by rw [hDD]; rfl, below_up (hB.alloc hB.size _) hB2⟩
end Go.Proofs.YthldlffkgafgaaaDoor
