/- Parts of the proof, no condition: FdLib, IdxFunc, FdIds, IdsOf, CntLays, CntIs. -/
import Derived.Test.YtimjmjmpaicdbaaGreatDoorPk9
import Derived.Test.YtimjmjmpaicdbaaGreatDoorPk1
import Derived.Shelf.Abstract
import Derived.Test.YtimjmjmpaicdbaaGreatDoorPk2
import Derived.Lib.Walk
import Derived.Lib.SlicesSearch
import Derived.Test.YtimjmjmpaicdbaaGreatDoorPk6
import Derived.Deep.Cut
import Derived.Shelf.Strings.Shaped
import Derived.Test.YtimjmjmpaicdbaaGreatDoorProg
set_option maxRecDepth 100000
set_option maxHeartbeats 8000000
set_option linter.unusedVariables false
namespace Go.Proofs.YtimjmjmpaicdbaaGreatDoor
open Go.RowKit Go.Sort Go.Shelf
def PhAt (w : World) (b o : Nat) (p : Ph) : Prop :=
 w.cell? ⟨b, o, none⟩ = some (.int .i64 p.id) ∧ w.cell? ⟨b, o + 1, none⟩ = some (.string p.file) ∧ w.cell? ⟨b, o + 2, none⟩ = some (.int .i64 p.mom) ∧ w.cell? ⟨b, o + 3, none⟩ = some (.int .i64 p.zone) ∧ w.cell? ⟨b, o + 4, none⟩ = some (.slice p.wa p.wn p.wc) ∧ w.cell? ⟨b, o + 5, none⟩ = some (.int .i64 p.W) ∧ w.cell? ⟨b, o + 6, none⟩ = some (.int .i64 p.H) ∧ w.cell? ⟨b, o + 7, none⟩ = some (.int .i64 p.turn) ∧ w.cell? ⟨b, o + 8, none⟩ = some (.int .i64 p.stars) ∧ w.cell? ⟨b, o + 9, none⟩ = some (.slice p.ta p.tn p.tc) ∧ w.cell? ⟨b, o + 10, none⟩ = some (.string p.cap) ∧ w.cell? ⟨b, o + 11, none⟩ = some (.slice p.pa p.pn p.pc) ∧ w.cell? ⟨b, o + 12, none⟩ = some (.bool p.hid)
theorem PhAt.keep {w w' : World} {b o : Nat} {p : Ph} (h : PhAt w b o p) (hb : Below w.heap.size w w') (hl : b < w.heap.size) : PhAt w' b o p := by
 obtain ⟨h0, h1, h2, h3, h4, h5, h6, h7, h8, h9, h10, h11, h12⟩ := h
 exact ⟨(hb.cell hl).trans h0, (hb.cell hl).trans h1, (hb.cell hl).trans h2, (hb.cell hl).trans h3, (hb.cell hl).trans h4, (hb.cell hl).trans h5, (hb.cell hl).trans h6, (hb.cell hl).trans h7, (hb.cell hl).trans h8, (hb.cell hl).trans h9, (hb.cell hl).trans h10, (hb.cell hl).trans h11, (hb.cell hl).trans h12⟩
structure Phs (w : World) (a : Option Addr) (n : Nat) (x : Nat → Ph) : Prop where
 row : 0 < n → ∃ b off, a = some ⟨b, off, none⟩ ∧ b < w.heap.size ∧ ∀ i, i < n → PhAt w b (off + i * 13) (x i)
 each : ∀ i, i < n → (x i).In w
theorem Phs.keep {w w' : World} {a : Option Addr} {n : Nat} {x : Nat → Ph} (h : Phs w a n x) (hb : Below w.heap.size w w') : Phs w' a n x := by
 refine ⟨fun hn => ?_, fun i hi => (h.each i hi).keep hb⟩
 obtain ⟨b, off, rfl, hl, hc⟩ := h.row hn
 exact ⟨b, off, rfl, Nat.lt_of_lt_of_le hl hb.size, fun i hi => (hc i hi).keep hb hl⟩
namespace Fd
def lbad (x : Nat → Ph) (i : Nat) : Int := if (x i).err = 0 then (if i = 0 then 0 else if (x i).id ≤ (x (i - 1)).id then 5 else 0) else (x i).err
theorem lbad_err {x : Nat → Ph} {i : Nat} {e : Int} (h : (x i).err = e) (h0 : e ≠ 0) : lbad x i = e := by unfold lbad; rw [h, if_neg h0]
theorem lbad_first {x : Nat → Ph} {i : Nat} (h : (x i).err = 0) (h0 : i = 0) : lbad x i = 0 := by unfold lbad; rw [if_pos h, if_pos h0]
theorem lbad_ord {x : Nat → Ph} {i : Nat} (h : (x i).err = 0) (h0 : i ≠ 0) (g : (x i).id ≤ (x (i - 1)).id) : lbad x i = 5 := by unfold lbad; rw [if_pos h, if_neg h0, if_pos g]
theorem lbad_ok {x : Nat → Ph} {i : Nat} (h : (x i).err = 0) (h0 : i ≠ 0) (g : ¬ (x i).id ≤ (x (i - 1)).id) : lbad x i = 0 := by unfold lbad; rw [if_pos h, if_neg h0, if_neg g]
def lerr (x : Nat → Ph) (n : Nat) : Int := if 1000 < n then 4 else scan (lbad x) 0 n
end Fd
theorem check_is (a : Option Addr) (n ca : Nat) (x : Nat → Ph) (w : World) (hx : Phs w a n x) (hF : ∀ i, i < n → (x i).Fits) (hn : n ≤ 9223372036854775807) :
  Calls Tryz.prog 37 #[.slice a n ca] w fun e w' => e = .returned (.int .i64 (Fd.lerr x n)) ∧ Below w.heap.size w w' := by
 obtain ⟨q, hq⟩ : ∃ q, Fd.lerr x n = q := ⟨_, rfl⟩
 rw [hq]
 unfold Fd.lerr at hq
 by_cases hl : 1000 < n
 ·rw [if_pos hl] at hq
  have hl' : (1000 : Int) < (n : Int) := by omega
  subst hq
  go_enter Tryz.func37, Tryz.ntmps37
  go_wp2_with fail
  go_ret
  exact ⟨rfl, Below.refl _ _⟩
 ·rw [if_neg hl] at hq
  have hl' : ¬ (1000 : Int) < (n : Int) := by omega
  have HX := Lib.hid hx; have HF := Lib.hid hF; have HQ := Lib.hid hq
  clear hx hF hq
  go_enter Tryz.func37, Tryz.ntmps37
  go_wp2_with fail
  go_loopg [11] n (fun gk i wr => ∃ j : Nat, j ≤ n ∧ gk = n - j ∧ i = .int .i64 j ∧ Fd.scan (Fd.lbad x) j (n - j) = q ∧ Below w.heap.size w wr)
  case atStart => exact ⟨0, by omega, rfl, rfl, HQ.out, Below.refl _ _⟩
  case round =>
   obtain ⟨j, hj, rfl, rfl, hsc, hB⟩ := hrel
   have HSC := Lib.hid hsc; clear hsc
   by_cases hlt : j < n
   ·have hXs := HX.out.keep hB
    obtain ⟨b, off, rfl, hb, hcell⟩ := hXs.row (by omega)
    have HEACH := Lib.hid hXs.each; clear hXs
    have HCELL := Lib.hid hcell; clear hcell
    obtain ⟨c0, c1, c2, c3, c4, c5, c6, c7, c8, c9, c10, c11, c12⟩ := HCELL.out j hlt
    obtain ⟨p, hp⟩ : ∃ p, x j = p := ⟨_, rfl⟩
    have HP := Lib.hid hp
    rw [hp] at c0 c1 c2 c3 c4 c5 c6 c7 c8 c9 c10 c11 c12
    have hBa := below_allocs hB (.cells #[.int .i64 p.id, .string p.file, .int .i64 p.mom, .int .i64 p.zone, .slice p.wa p.wn p.wc, .int .i64 p.W, .int .i64 p.H, .int .i64 p.turn, .int .i64 p.stars, .slice p.ta p.tn p.tc, .string p.cap, .slice p.pa p.pn p.pc, .bool p.hid] 85)
    have hXB := Blk.new wr #[.int .i64 p.id, .string p.file, .int .i64 p.mom, .int .i64 p.zone, .slice p.wa p.wn p.wc, .int .i64 p.W, .int .i64 p.H, .int .i64 p.turn, .int .i64 p.stars, .slice p.ta p.tn p.tc, .string p.cap, .slice p.pa p.pn p.pc, .bool p.hid] 85
    have HCH := Lib.hid (checkPhoto_is p (wr.alloc (.cells #[.int .i64 p.id, .string p.file, .int .i64 p.mom, .int .i64 p.zone, .slice p.wa p.wn p.wc, .int .i64 p.W, .int .i64 p.H, .int .i64 p.turn, .int .i64 p.stars, .slice p.ta p.tn p.tc, .string p.cap, .slice p.pa p.pn p.pc, .bool p.hid] 85)) (by rw [← hp]; exact (HEACH.out j hlt).keep (below_allocs (Below.refl _ _) _)) (by rw [← hp]; exact HF.out j hlt))
    clear hp
    obtain ⟨q0, q1, q2, q3, q4, q5, q6, q7, q8, q9, q10, q11, q12⟩ := hXB.photo
    by_cases he : p.err = 0
    ·rw [he] at HCH
     by_cases hj0 : j = 0
     ·have hj0' : decide ((0 : Int) < (j : Int)) = false := by simpa using hj0
      have hj0'' : ((0 : Int) < (j : Int)) = False := by simpa using hj0
      have hj0n : (0 < j) = False := by simpa using hj0
      have HBAD := Lib.hid (Fd.scan_next HSC.out hlt (Fd.lbad_first (by rw [HP.out]; exact he) hj0))
      clear hj0 he
      go_wp2_with (go_at_call 77; refine HCH.out.mono ?_; rintro e w5 ⟨rfl, hB5⟩; have hXB5 := hXB.keep hB5; clear q0 q1 q2 q3 q4 q5 q6 q7 q8 q9 q10 q11 q12; obtain ⟨t0, -, -, -, -, -, -, -, -, -, -, -, -⟩ := hXB5.photo)
      go_quiet (fail)
      go_wp2_with fail
      go_roundg (n - (j + 1))
      case rel => exact ⟨j + 1, by omega, rfl, by go_num, HBAD.out, below_drewN (below_up hBa hB5) _⟩
      case measure => omega
     ·have hj1 : 1 ≤ j := by omega
      have hj0' : decide ((0 : Int) < (j : Int)) = true := by simp; omega
      have hj0n : 0 < j := by omega
      have hi0 : (0 : Int) ≤ (j : Int) - 1 := by omega
      have hi1 : (j : Int) - 1 < (n : Int) := by omega
      have d0 := (HCELL.out (j - 1) (by omega)).1
      obtain ⟨m, hm⟩ : ∃ m, (x (j - 1)).id = m := ⟨_, rfl⟩
      have HM := Lib.hid hm
      rw [hm] at d0
      clear hm
      have HD0 := Lib.hid d0; clear d0
      by_cases ho : p.id ≤ m
      ·have HBAD := Lib.hid (Fd.scan_here HSC.out hlt (Fd.lbad_ord (by rw [HP.out]; exact he) hj0 (by rw [HP.out, HM.out]; exact ho)) (by omega))
       clear hj0 he
       go_wp2_with (go_at_call 77; refine HCH.out.mono ?_; rintro e w5 ⟨rfl, hB5⟩; have hXB5 := hXB.keep hB5; clear q0 q1 q2 q3 q4 q5 q6 q7 q8 q9 q10 q11 q12 c0 c1 c2 c3 c4 c5 c6 c7 c8 c9 c10 c11 c12; obtain ⟨t0, -, -, -, -, -, -, -, -, -, -, -, -⟩ := hXB5.photo; have hdd := (hB5.cell (p := ⟨b, off + (j - 1) * 13, none⟩) (by simp; omega)).trans ((World.cell?_alloc_lt wr _ ⟨b, off + (j - 1) * 13, none⟩ hb).trans HD0.out))
       go_quiet (fail)
       go_wp2_with fail
       go_ret
       exact ⟨ret_int HBAD.out, below_drewN (below_up hBa hB5) _⟩
      ·have HBAD := Lib.hid (Fd.scan_next HSC.out hlt (Fd.lbad_ok (by rw [HP.out]; exact he) hj0 (by rw [HP.out, HM.out]; exact ho)))
       clear hj0 he
       go_wp2_with (go_at_call 77; refine HCH.out.mono ?_; rintro e w5 ⟨rfl, hB5⟩; have hXB5 := hXB.keep hB5; clear q0 q1 q2 q3 q4 q5 q6 q7 q8 q9 q10 q11 q12 c0 c1 c2 c3 c4 c5 c6 c7 c8 c9 c10 c11 c12; obtain ⟨t0, -, -, -, -, -, -, -, -, -, -, -, -⟩ := hXB5.photo; have hdd := (hB5.cell (p := ⟨b, off + (j - 1) * 13, none⟩) (by simp; omega)).trans ((World.cell?_alloc_lt wr _ ⟨b, off + (j - 1) * 13, none⟩ hb).trans HD0.out))
       go_quiet (fail)
       go_wp2_with fail
       go_roundg (n - (j + 1))
       case rel => exact ⟨j + 1, by omega, rfl, by go_num, HBAD.out, below_drewN (below_up hBa hB5) _⟩
       case measure => omega
    ·obtain ⟨e, hee⟩ : ∃ e, p.err = e := ⟨_, rfl⟩
     rw [hee] at he HCH
     have HBAD := Lib.hid (Fd.scan_here HSC.out hlt (Fd.lbad_err (e := e) (by rw [HP.out]; exact hee) he) he)
     have he' : (e == 0) = false := by simpa using he
     have he2 : (e != 0) = true := by simpa using he
     clear hee he
     go_wp2_with (go_at_call 77; refine HCH.out.mono ?_; rintro e5 w5 ⟨rfl, hB5⟩)
     go_ret
     exact ⟨ret_int HBAD.out, below_up hBa hB5⟩
   ·obtain rfl : j = n := by omega
    go_wp2_with fail
    go_ret
    exact ⟨ret_int (Fd.scan_end HSC.out).symm, hB⟩
theorem libraryError_is (a : Option Addr) (n ca : Nat) (x : Nat → Ph) (w : World) (hx : Phs w a n x) (hF : ∀ i, i < n → (x i).Fits) (hn : n ≤ 9223372036854775807) :
  Calls Tryz.prog 16 #[.slice a n ca] w fun e w' => e = .returned (.int .i64 (Fd.lerr x n)) ∧ Below w.heap.size w w' := by
 obtain ⟨q, hq⟩ : ∃ q, Fd.lerr x n = q := ⟨_, rfl⟩
 rw [hq]
 unfold Fd.lerr at hq
 by_cases hl : 1000 < n
 ·rw [if_pos hl] at hq
  have hl' : (1000 : Int) < (n : Int) := by omega
  subst hq
  go_enter Tryz.func16, Tryz.ntmps16
  go_wp2_with fail
  go_ret
  exact ⟨rfl, Below.refl _ _⟩
 ·rw [if_neg hl] at hq
  have hl' : ¬ (1000 : Int) < (n : Int) := by omega
  have HX := Lib.hid hx; have HF := Lib.hid hF; have HQ := Lib.hid hq
  clear hx hF hq
  go_enter Tryz.func16, Tryz.ntmps16
  go_wp2_with fail
  go_loopg [11] n (fun gk i wr => ∃ j : Nat, j ≤ n ∧ gk = n - j ∧ i = .int .i64 j ∧ Fd.scan (Fd.lbad x) j (n - j) = q ∧ Below w.heap.size w wr)
  case atStart => exact ⟨0, by omega, rfl, rfl, HQ.out, Below.refl _ _⟩
  case round =>
   obtain ⟨j, hj, rfl, rfl, hsc, hB⟩ := hrel
   have HSC := Lib.hid hsc; clear hsc
   by_cases hlt : j < n
   ·have hXs := HX.out.keep hB
    obtain ⟨b, off, rfl, hb, hcell⟩ := hXs.row (by omega)
    have HEACH := Lib.hid hXs.each; clear hXs
    have HCELL := Lib.hid hcell; clear hcell
    obtain ⟨c0, c1, c2, c3, c4, c5, c6, c7, c8, c9, c10, c11, c12⟩ := HCELL.out j hlt
    obtain ⟨p, hp⟩ : ∃ p, x j = p := ⟨_, rfl⟩
    have HP := Lib.hid hp
    rw [hp] at c0 c1 c2 c3 c4 c5 c6 c7 c8 c9 c10 c11 c12
    have hBa := below_allocs hB (.cells #[.int .i64 p.id, .string p.file, .int .i64 p.mom, .int .i64 p.zone, .slice p.wa p.wn p.wc, .int .i64 p.W, .int .i64 p.H, .int .i64 p.turn, .int .i64 p.stars, .slice p.ta p.tn p.tc, .string p.cap, .slice p.pa p.pn p.pc, .bool p.hid] 85)
    have hXB := Blk.new wr #[.int .i64 p.id, .string p.file, .int .i64 p.mom, .int .i64 p.zone, .slice p.wa p.wn p.wc, .int .i64 p.W, .int .i64 p.H, .int .i64 p.turn, .int .i64 p.stars, .slice p.ta p.tn p.tc, .string p.cap, .slice p.pa p.pn p.pc, .bool p.hid] 85
    have HCH := Lib.hid (photoError_is p (wr.alloc (.cells #[.int .i64 p.id, .string p.file, .int .i64 p.mom, .int .i64 p.zone, .slice p.wa p.wn p.wc, .int .i64 p.W, .int .i64 p.H, .int .i64 p.turn, .int .i64 p.stars, .slice p.ta p.tn p.tc, .string p.cap, .slice p.pa p.pn p.pc, .bool p.hid] 85)) (by rw [← hp]; exact (HEACH.out j hlt).keep (below_allocs (Below.refl _ _) _)) (by rw [← hp]; exact HF.out j hlt))
    clear hp
    obtain ⟨q0, q1, q2, q3, q4, q5, q6, q7, q8, q9, q10, q11, q12⟩ := hXB.photo
    by_cases he : p.err = 0
    ·rw [he] at HCH
     by_cases hj0 : j = 0
     ·have hj0' : decide ((0 : Int) < (j : Int)) = false := by simpa using hj0
      have hj0'' : ((0 : Int) < (j : Int)) = False := by simpa using hj0
      have hj0n : (0 < j) = False := by simpa using hj0
      have HBAD := Lib.hid (Fd.scan_next HSC.out hlt (Fd.lbad_first (by rw [HP.out]; exact he) hj0))
      clear hj0 he
      go_wp2_with (go_at_call 48; refine HCH.out.mono ?_; rintro e w5 ⟨rfl, hB5⟩; have hXB5 := hXB.keep hB5; clear q0 q1 q2 q3 q4 q5 q6 q7 q8 q9 q10 q11 q12; obtain ⟨t0, -, -, -, -, -, -, -, -, -, -, -, -⟩ := hXB5.photo)
      go_quiet (fail)
      go_wp2_with fail
      go_roundg (n - (j + 1))
      case rel => exact ⟨j + 1, by omega, rfl, by go_num, HBAD.out, below_drewN (below_up hBa hB5) _⟩
      case measure => omega
     ·have hj1 : 1 ≤ j := by omega
      have hj0' : decide ((0 : Int) < (j : Int)) = true := by simp; omega
      have hj0n : 0 < j := by omega
      have hi0 : (0 : Int) ≤ (j : Int) - 1 := by omega
      have hi1 : (j : Int) - 1 < (n : Int) := by omega
      have d0 := (HCELL.out (j - 1) (by omega)).1
      obtain ⟨m, hm⟩ : ∃ m, (x (j - 1)).id = m := ⟨_, rfl⟩
      have HM := Lib.hid hm
      rw [hm] at d0
      clear hm
      have HD0 := Lib.hid d0; clear d0
      by_cases ho : p.id ≤ m
      ·have HBAD := Lib.hid (Fd.scan_here HSC.out hlt (Fd.lbad_ord (by rw [HP.out]; exact he) hj0 (by rw [HP.out, HM.out]; exact ho)) (by omega))
       clear hj0 he
       go_wp2_with (go_at_call 48; refine HCH.out.mono ?_; rintro e w5 ⟨rfl, hB5⟩; have hXB5 := hXB.keep hB5; clear q0 q1 q2 q3 q4 q5 q6 q7 q8 q9 q10 q11 q12 c0 c1 c2 c3 c4 c5 c6 c7 c8 c9 c10 c11 c12; obtain ⟨t0, -, -, -, -, -, -, -, -, -, -, -, -⟩ := hXB5.photo; have hdd := (hB5.cell (p := ⟨b, off + (j - 1) * 13, none⟩) (by simp; omega)).trans ((World.cell?_alloc_lt wr _ ⟨b, off + (j - 1) * 13, none⟩ hb).trans HD0.out))
       go_quiet (fail)
       go_wp2_with fail
       go_ret
       exact ⟨ret_int HBAD.out, below_drewN (below_up hBa hB5) _⟩
      ·have HBAD := Lib.hid (Fd.scan_next HSC.out hlt (Fd.lbad_ok (by rw [HP.out]; exact he) hj0 (by rw [HP.out, HM.out]; exact ho)))
       clear hj0 he
       go_wp2_with (go_at_call 48; refine HCH.out.mono ?_; rintro e w5 ⟨rfl, hB5⟩; have hXB5 := hXB.keep hB5; clear q0 q1 q2 q3 q4 q5 q6 q7 q8 q9 q10 q11 q12 c0 c1 c2 c3 c4 c5 c6 c7 c8 c9 c10 c11 c12; obtain ⟨t0, -, -, -, -, -, -, -, -, -, -, -, -⟩ := hXB5.photo; have hdd := (hB5.cell (p := ⟨b, off + (j - 1) * 13, none⟩) (by simp; omega)).trans ((World.cell?_alloc_lt wr _ ⟨b, off + (j - 1) * 13, none⟩ hb).trans HD0.out))
       go_quiet (fail)
       go_wp2_with fail
       go_roundg (n - (j + 1))
       case rel => exact ⟨j + 1, by omega, rfl, by go_num, HBAD.out, below_drewN (below_up hBa hB5) _⟩
       case measure => omega
    ·obtain ⟨e, hee⟩ : ∃ e, p.err = e := ⟨_, rfl⟩
     rw [hee] at he HCH
     have HBAD := Lib.hid (Fd.scan_here HSC.out hlt (Fd.lbad_err (e := e) (by rw [HP.out]; exact hee) he) he)
     have he' : (e == 0) = false := by simpa using he
     have he2 : (e != 0) = true := by simpa using he
     clear hee he
     go_wp2_with (go_at_call 48; refine HCH.out.mono ?_; rintro e5 w5 ⟨rfl, hB5⟩)
     go_ret
     exact ⟨ret_int HBAD.out, below_up hBa hB5⟩
   ·obtain rfl : j = n := by omega
    go_wp2_with fail
    go_ret
    exact ⟨ret_int (Fd.scan_end HSC.out).symm, hB⟩
namespace Fd
theorem scan_zero {bad : Nat → Int} {n : Nat} (h : scan bad 0 n = 0) : ∀ i, i < n → bad i = 0 := by
 have : ∀ k j, scan bad j k = 0 → ∀ i, j ≤ i → i < j + k → bad i = 0 := by
  intro k
  induction k with
  | zero => intro j _ i h1 h2; omega
  | succ k ih =>
    intro j h i h1 h2
    by_cases hb : bad j = 0
    ·rw [scan_ok hb] at h
     by_cases e : i = j
     ·subst e; exact hb
     ·exact ih (j + 1) h i (by omega) (by omega)
    ·rw [scan_bad hb] at h; exact absurd h hb
 exact fun i hi => this n 0 h i (by omega) (by omega)
end Fd
theorem own_keepH {w w' : World} {B : Nat} {e : TypeId} {k : Nat} {v : Value} {n : Nat} {xs : List Value} (h : w.ownsRow B e k v n xs) (hb : Below w.heap.size w w') : w'.ownsRow B e k v n xs :=
 h.kept (row := none) ⟨hb.os, hb.tape, hb.output, hb.size, fun k hk _ => hb.block k hk⟩ (by cases hv : v.ownBlock; exact .inl rfl; exact .inr (by simp))
theorem own_rowH {w : World} {B : Nat} {e : TypeId} {v : Value} {n : Nat} {xs : List Value} (h : w.ownsRow B e 1 v n xs) : ∃ a ca, v = .slice a n ca ∧ ∀ V : World, (∀ b, B ≤ b → b < w.heap.size → V.heap[b]? = w.heap[b]?) → Row V a n (fun i => xs[i]?.getD .nilIface) := by
 have hlen := h.1
 have h0 := h
 rcases h.2 with ⟨rfl, rfl⟩ | ⟨g, cap, cur, rfl, hg, hc, _⟩
 ·exact ⟨_, _, rfl, fun V _ hn => absurd hn (by omega)⟩
 ·refine ⟨_, _, rfl, fun V hV hn => ⟨g, 0, rfl, ?_, fun i hi => ?_⟩⟩
  ·have hlt : g < w.heap.size := (h0.lt g rfl).2
   have := hV g hg hlt
   rw [hc] at this
   rcases Nat.lt_or_ge g V.heap.size with h' | h'
   ·exact h'
   ·rw [Array.getElem?_eq_none h'] at this; cases this
  ·have hlt : g < w.heap.size := (h0.lt g rfl).2
   have hcell : V.cell? ⟨g, 0 + i, none⟩ = w.cell? ⟨g, 0 + i, none⟩ := by unfold World.cell?; rw [hV g hg hlt]
   rw [hcell, Nat.zero_add, h0.cellAt i (by omega)]
   show _ = some (xs[i]?.getD .nilIface)
   rw [List.getElem?_eq_getElem (by omega)]; rfl
def Ph.zero : Ph := ⟨0, 0, 0, 0, 0, 0, 0, ⟨#[]⟩, ⟨#[]⟩, none, 0, 0, fun _ => 0, fun _ => 0, none, 0, 0, fun _ => ⟨#[]⟩, none, 0, 0, fun _ => 0, false⟩
theorem Ph.zero_in (w : World) : Ph.zero.In w := ⟨fun h => absurd h (by show ¬ 0 < 0; omega), fun h => absurd h (by show ¬ 0 < 0; omega), fun h => absurd h (by show ¬ 0 < 0; omega)⟩
namespace Fd
def phCells (p : Ph) : List Value := [.int .i64 p.id, .string p.file, .int .i64 p.mom, .int .i64 p.zone, .slice p.wa p.wn p.wc, .int .i64 p.W, .int .i64 p.H, .int .i64 p.turn, .int .i64 p.stars, .slice p.ta p.tn p.tc, .string p.cap, .slice p.pa p.pn p.pc, .bool p.hid]
def phFlat (l : List Ph) : List Value := l.flatMap phCells
theorem phFlat_snoc (l : List Ph) (p : Ph) : phFlat (l ++ [p]) = phFlat l ++ phCells p := by simp [phFlat]
theorem phFlat_cons (p : Ph) (l : List Ph) : phFlat (p :: l) = phCells p ++ phFlat l := by simp [phFlat]
theorem phFlat_len (l : List Ph) : (phFlat l).length = l.length * 13 := by
 induction l with
 | nil => rfl
 | cons p l ih =>
   have h13 : (phCells p).length = 13 := rfl
   rw [phFlat_cons, List.length_append, List.length_cons, ih, h13]; omega
theorem phFlat_get (l : List Ph) : ∀ i, i < l.length → ∀ j, j < 13 → (phFlat l)[i * 13 + j]? = (phCells (l[i]?.getD Ph.zero))[j]? := by
 induction l with
 | nil => intro i h; simp at h
 | cons p l ih =>
   intro i h j hj
   have h13 : (phCells p).length = 13 := rfl
   cases i with
   | zero => rw [phFlat_cons, Nat.zero_mul, Nat.zero_add, List.getElem?_append_left (by omega)]; rfl
   | succ k =>
     rw [phFlat_cons, List.getElem?_append_right (by omega), h13, show (k + 1) * 13 + j - 13 = k * 13 + j by omega, ih k (by simpa using h) j hj]; simp
end Fd
theorem PhAt.of_cells {w : World} {b o : Nat} {p : Ph} (h : ∀ j, j < 13 → w.cell? ⟨b, o + j, none⟩ = (Fd.phCells p)[j]?) : PhAt w b o p :=
 ⟨h 0 (by omega), h 1 (by omega), h 2 (by omega), h 3 (by omega), h 4 (by omega), h 5 (by omega), h 6 (by omega), h 7 (by omega), h 8 (by omega), h 9 (by omega), h 10 (by omega), h 11 (by omega), h 12 (by omega)⟩
theorem Ph.in_getD {w : World} {L : List Ph} (hI : ∀ p, p ∈ L → p.In w) (i : Nat) : (L[i]?.getD Ph.zero).In w := by
 rcases Nat.lt_or_ge i L.length with h | h
 ·rw [List.getElem?_eq_getElem h]; exact hI _ (List.getElem_mem h)
 ·rw [List.getElem?_eq_none h]; exact Ph.zero_in w
theorem Phs.of_own {w : World} {base n : Nat} {e : TypeId} {v : Value} {L : List Ph} (h : w.ownsRow base e 13 v n (Fd.phFlat L)) (hI : ∀ p, p ∈ L → p.In w) :
  ∃ a ca, v = .slice a n ca ∧ n ≤ ca ∧ ca ≤ 9223372036854775807 ∧ Phs w a n (fun i => L[i]?.getD Ph.zero) := by
 have hlen := h.1
 rw [Fd.phFlat_len] at hlen
 have h0 := h
 rcases h.2 with ⟨rfl, rfl⟩ | ⟨g, cap, cur, rfl, hg, hc, hk, hm, _⟩
 ·exact ⟨none, 0, rfl, by omega, by omega, ⟨fun hn => by omega, fun i hi => by omega⟩⟩
 ·have hm2 : cap ≤ 9223372036854775807 := hm
  refine ⟨_, _, rfl, hk, hm2, ⟨fun hn => ⟨g, 0, rfl, (h0.lt g rfl).2, fun i hi => PhAt.of_cells fun j hj => ?_⟩, fun i hi => Ph.in_getD hI i⟩⟩
  rw [Nat.zero_add, h0.cellAt (i * 13 + j) (by omega), Fd.phFlat_get L i (by omega) j hj]
theorem infoPhoto : (Tryz.prog.info? 85).map (fun i => (i.zero, i.size, i.bytes)) = some (some (.agg #[.int .i64 0, .string ByteArray.empty, .int .i64 0, .int .i64 0, .slice none 0 0, .int .i64 0, .int .i64 0, .int .i64 0, .int .i64 0, .slice none 0 0, .string ByteArray.empty, .slice none 0 0, .bool false]), 13, 168) := by kernel_rfl
theorem cell_ph_new (w : World) (p : Ph) (t : TypeId) : ∀ j u, (Fd.phCells p)[j]? = some u → (w.alloc (.cells #[.int .i64 p.id, .string p.file, .int .i64 p.mom, .int .i64 p.zone, .slice p.wa p.wn p.wc, .int .i64 p.W, .int .i64 p.H, .int .i64 p.turn, .int .i64 p.stars, .slice p.ta p.tn p.tc, .string p.cap, .slice p.pa p.pn p.pc, .bool p.hid] t)).cell? ((⟨w.heap.size, 0, none⟩ : Addr).add j) = some u := by
 intro j u hj
 rw [show (⟨w.heap.size, 0, none⟩ : Addr).add j = ⟨w.heap.size, j, none⟩ from by unfold Addr.add; split <;> simp_all, (Blk.new w #[.int .i64 p.id, .string p.file, .int .i64 p.mom, .int .i64 p.zone, .slice p.wa p.wn p.wc, .int .i64 p.W, .int .i64 p.H, .int .i64 p.turn, .int .i64 p.stars, .slice p.ta p.tn p.tc, .string p.cap, .slice p.pa p.pn p.pc, .bool p.hid] t).cell]
 simpa [Fd.phCells] using hj
theorem phCells_one (p : Ph) : ∀ u ∈ Fd.phCells p, u.oneCell' = true := by
 intro u hu
 simp only [Fd.phCells, List.mem_cons, List.not_mem_nil, or_false] at hu
 rcases hu with rfl | rfl | rfl | rfl | rfl | rfl | rfl | rfl | rfl | rfl | rfl | rfl | rfl <;> rfl
namespace Fd
theorem scan_all {bad : Nat → Int} {n : Nat} : ∀ i, scan bad i n = 0 → ∀ k, i ≤ k → k < i + n → bad k = 0 := by
 induction n with
 | zero => intro i _ k h1 h2; omega
 | succ n ih =>
   intro i h k h1 h2
   by_cases hb : bad i = 0
   ·rw [scan_ok hb] at h
    by_cases e : k = i
    ·subst e; exact hb
    ·exact ih (i + 1) h k (by omega) (by omega)
   ·rw [scan_bad hb] at h; exact absurd h hb
theorem lerr_few {x : Nat → Ph} {n : Nat} (h : lerr x n = 0) : n ≤ 1000 := by
 unfold lerr at h; split at h
 ·cases h
 ·omega
theorem lerr_scan {x : Nat → Ph} {n : Nat} (h : lerr x n = 0) : scan (lbad x) 0 n = 0 := by
 unfold lerr at h; split at h
 ·cases h
 ·exact h
theorem lerr_each {x : Nat → Ph} {n : Nat} (h : lerr x n = 0) (i : Nat) (hi : i < n) : (x i).err = 0 := by
 have := scan_all 0 (lerr_scan h) i (by omega) (by omega)
 by_cases g : (x i).err = 0
 ·exact g
 ·rw [lbad_err rfl g] at this; exact absurd this g
theorem lerr_rise {x : Nat → Ph} {n : Nat} (h : lerr x n = 0) (i : Nat) (hi : i + 1 < n) : (x i).id < (x (i + 1)).id := by
 have := scan_all 0 (lerr_scan h) (i + 1) (by omega) (by omega)
 have he := lerr_each h (i + 1) hi
 by_cases g : (x (i + 1)).id ≤ (x (i + 1 - 1)).id
 ·rw [lbad_ord he (by omega) g] at this; cases this
 ·simpa using g
end Fd
namespace Fd
def idsL (x : Nat → Ph) (n : Nat) : List Int := (List.range n).map fun i => (x i).id
theorem idsL_succ (x : Nat → Ph) (n : Nat) : idsL x (n + 1) = idsL x n ++ [(x n).id] := by simp [idsL, List.range_succ]
theorem idsL_len (x : Nat → Ph) (n : Nat) : (idsL x n).length = n := by simp [idsL]
end Fd
end Go.Proofs.YtimjmjmpaicdbaaGreatDoor
namespace Go.Proofs.YtimjmjmpaicdbaaGreatDoor
open Go.Shelf
def Lay.contM_ren : Go.Shelf.Ren := ⟨fun | 144 => 124 | 143 => 171 | 219 => 205 | 217 => 180 | 225 => 229 | 224 => 230 | 267 => 231 | 266 => 217 | 314 => 250 | n => n, fun | 9 => 9 | 4 => 4 | 3 => 3 | 5 => 5 | 46 => 227 | 146 => 282 | 51 => 179 | n => n, fun | 1 => 0 | n => n⟩
theorem Lay.contM : Go.Proofs.LaysM.n144 Tryz.prog Lay.contM_ren := {
 mixed := by kernel_rfl
 f143 := Tryz.func171.trans (congrArg some (by kernel_rfl))
 f144 := Tryz.func124.trans (congrArg some (by kernel_rfl))
 f217 := Tryz.func180.trans (congrArg some (by kernel_rfl))
 f219 := Tryz.func205.trans (congrArg some (by kernel_rfl))
 f224 := Tryz.func230.trans (congrArg some (by kernel_rfl))
 f225 := Tryz.func229.trans (congrArg some (by kernel_rfl))
 f266 := Tryz.func217.trans (congrArg some (by kernel_rfl))
 f267 := Tryz.func231.trans (congrArg some (by kernel_rfl))
 f314 := Tryz.func250.trans (congrArg some (by kernel_rfl))
 t3 := Tryz.underlying3
 a3 := Tryz.isAgg3
 z3 := Tryz.sizeOf3
 v3 := Tryz.zeroValue3
 t4 := Tryz.underlying4
 a4 := Tryz.isAgg4
 z4 := Tryz.sizeOf4
 v4 := Tryz.zeroValue4
 t5 := Tryz.underlying5
 a5 := Tryz.isAgg5
 z5 := Tryz.sizeOf5
 v5 := Tryz.zeroValue5
 t9 := Tryz.underlying9
 a9 := Tryz.isAgg9
 z9 := Tryz.sizeOf9
 v9 := Tryz.zeroValue9
 t46 := Tryz.underlying227
 a46 := Tryz.isAgg227
 z46 := Tryz.sizeOf227
 v46 := Tryz.zeroValue227
 t51 := Tryz.underlying179
 a51 := Tryz.isAgg179
 z51 := Tryz.sizeOf179
 v51 := Tryz.zeroValue179
 t146 := Tryz.underlying282
 a146 := Tryz.isAgg282
 z146 := Tryz.sizeOf282
 v146 := Tryz.zeroValue282
 g1 := by kernel_rfl
 i3 := by kernel_rfl
 i4 := by kernel_rfl
 i5 := by kernel_rfl
 i9 := by kernel_rfl
 i46 := by kernel_rfl
 i51 := by kernel_rfl
 i146 := by kernel_rfl
 m1 := by kernel_rfl
 s1_3 := fun w h => Go.Proofs.cell_of_shapedOpen_int (zero := #[.int .i64 0]) (t := 3) h (of_decide_eq_true (by kernel_rfl)) (by kernel_rfl) rfl (by kernel_rfl) (by kernel_rfl) Tryz.underlying3 }
end Go.Proofs.YtimjmjmpaicdbaaGreatDoor
namespace Go.Proofs.YtimjmjmpaicdbaaGreatDoor
open Go.RowKit Go.Sort Go.Shelf
def MxL (w : World) : Prop := ∃ m, w.cell? ⟨0, 0, none⟩ = some (.int .i64 m)
theorem MxL.below {w w' : World} (h : MxL w) (hb : Below w.heap.size w w') : MxL w' := by
 obtain ⟨m, hm⟩ := h
 exact ⟨m, (hb.cell (World.block_lt_of_cell? w _ hm)).trans hm⟩
theorem mxL_of_shaped {w : World} (h : w.ShapedOpen Tryz.prog) : MxL w := Lay.contM.s1_3 w h
theorem strContains_is (s sub : ByteArray) (hs : s.size < 4294967281) (w : World) (hm : MxL w) :
  Calls Tryz.prog 124 #[.string s, .string sub] w fun e w' => e = .returned (.bool (Lib.contains s.data.toList sub.data.toList)) ∧ Below w.heap.size w w' := by
 obtain ⟨m, hm⟩ := hm
 refine (Any.strings_Contains { Lay.contM with } s sub m w hs hm).mono ?_
 rintro e w' ⟨rfl, rfl⟩
 exact ⟨rfl, Below.refl _ _⟩
end Go.Proofs.YtimjmjmpaicdbaaGreatDoor
