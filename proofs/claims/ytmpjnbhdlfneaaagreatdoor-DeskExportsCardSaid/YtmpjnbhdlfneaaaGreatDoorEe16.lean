/- Parts of the proof, no condition: FdLib. -/
import Derived.Test.YtmpjnbhdlfneaaaGreatDoorEe15
set_option maxRecDepth 100000
set_option maxHeartbeats 8000000
set_option linter.unusedVariables false
namespace Go.Proofs.YtmpjnbhdlfneaaaGreatDoor
open Go.RowKit Go.Sort Go.Shelf
def PhAt (w : World) (b o : Nat) (p : Ph) : Prop :=
 w.cell? ⟨b, o, none⟩ = some (.int .i64 p.id) ∧ w.cell? ⟨b, o + 1, none⟩ = some (.string p.file) ∧ w.cell? ⟨b, o + 2, none⟩ = some (.int .i64 p.mom) ∧ w.cell? ⟨b, o + 3, none⟩ = some (.int .i64 p.zone) ∧ w.cell? ⟨b, o + 4, none⟩ = some (.slice p.wa p.wn p.wc) ∧ w.cell? ⟨b, o + 5, none⟩ = some (.int .i64 p.W) ∧ w.cell? ⟨b, o + 6, none⟩ = some (.int .i64 p.H) ∧ w.cell? ⟨b, o + 7, none⟩ = some (.int .i64 p.turn) ∧ w.cell? ⟨b, o + 8, none⟩ = some (.int .i64 p.stars) ∧ w.cell? ⟨b, o + 9, none⟩ = some (.slice p.ta p.tn p.tc) ∧ w.cell? ⟨b, o + 10, none⟩ = some (.string p.cap) ∧ w.cell? ⟨b, o + 11, none⟩ = some (.slice p.pa p.pn p.pc) ∧ w.cell? ⟨b, o + 12, none⟩ = some (.bool p.hid)
theorem PhAt.keep {w w' : World} {b o : Nat} {p : Ph} (h : PhAt w b o p) (hb : Below w.heap.size w w') (hl : b < w.heap.size) : PhAt w' b o p := by
 obtain ⟨h0, h1, h2, h3, h4, h5, h6, h7, h8, h9, h10, h11, h12⟩ := h
 exact ⟨(hb.cell hl).trans h0, (hb.cell hl).trans h1, (hb.cell hl).trans h2, (hb.cell hl).trans h3, (hb.cell hl).trans h4, (hb.cell hl).trans h5, (hb.cell hl).trans h6, (hb.cell hl).trans h7, (hb.cell hl).trans h8, (hb.cell hl).trans h9, (hb.cell hl).trans h10, (hb.cell hl).trans h11, (hb.cell hl).trans h12⟩
structure Phs (w : World) (a : Option Addr) (n : Nat) (x : Nat → Ph) : Prop where
 row : 0 < n → ∃ b off, a = some ⟨b, off, none⟩ ∧ b < w.heap.size ∧ ∀ i, i < n → PhAt w b (off + i * 13) (x i)
 each : ∀ i, i < n → (x i).In w
theorem Phs.keep {w w' : World} {a : Option Addr} {n : Nat} {x : Nat → Ph} (h : Phs w a n x) (hb : Below w.heap.size w w') : Phs w' a n x := by
 refine ⟨fun hn => ?_, fun i hi => (h.each i hi).keep hb⟩
 obtain ⟨b, off, rfl, hl, hc⟩ := h.row hn
 exact ⟨b, off, rfl, Nat.lt_of_lt_of_le hl hb.size, fun i hi => (hc i hi).keep hb hl⟩
namespace Fd
def lbad (x : Nat → Ph) (i : Nat) : Int := if (x i).err = 0 then (if i = 0 then 0 else if (x i).id ≤ (x (i - 1)).id then 5 else 0) else (x i).err
theorem lbad_err {x : Nat → Ph} {i : Nat} {e : Int} (h : (x i).err = e) (h0 : e ≠ 0) : lbad x i = e := by unfold lbad; rw [h, if_neg h0]
theorem lbad_first {x : Nat → Ph} {i : Nat} (h : (x i).err = 0) (h0 : i = 0) : lbad x i = 0 := by unfold lbad; rw [if_pos h, if_pos h0]
theorem lbad_ord {x : Nat → Ph} {i : Nat} (h : (x i).err = 0) (h0 : i ≠ 0) (g : (x i).id ≤ (x (i - 1)).id) : lbad x i = 5 := by unfold lbad; rw [if_pos h, if_neg h0, if_pos g]
theorem lbad_ok {x : Nat → Ph} {i : Nat} (h : (x i).err = 0) (h0 : i ≠ 0) (g : ¬ (x i).id ≤ (x (i - 1)).id) : lbad x i = 0 := by unfold lbad; rw [if_pos h, if_neg h0, if_neg g]
def lerr (x : Nat → Ph) (n : Nat) : Int := if 1000 < n then 4 else scan (lbad x) 0 n
end Fd
theorem check_is (a : Option Addr) (n ca : Nat) (x : Nat → Ph) (w : World) (hx : Phs w a n x) (hF : ∀ i, i < n → (x i).Fits) (hn : n ≤ 9223372036854775807) :
  Calls Tryz.prog 11 #[.slice a n ca] w fun e w' => e = .returned (.int .i64 (Fd.lerr x n)) ∧ Below w.heap.size w w' := by
 obtain ⟨q, hq⟩ : ∃ q, Fd.lerr x n = q := ⟨_, rfl⟩
 rw [hq]
 unfold Fd.lerr at hq
 by_cases hl : 1000 < n
 ·rw [if_pos hl] at hq
  have hl' : (1000 : Int) < (n : Int) := by omega
  subst hq
  go_enter Tryz.func11, Tryz.ntmps11
  go_wp2_with fail
  go_ret
  exact ⟨rfl, Below.refl _ _⟩
 ·rw [if_neg hl] at hq
  have hl' : ¬ (1000 : Int) < (n : Int) := by omega
  have HX := Lib.hid hx; have HF := Lib.hid hF; have HQ := Lib.hid hq
  clear hx hF hq
  go_enter Tryz.func11, Tryz.ntmps11
  go_wp2_with fail
  go_loopg [11] n (fun gk i wr => ∃ j : Nat, j ≤ n ∧ gk = n - j ∧ i = .int .i64 j ∧ Fd.scan (Fd.lbad x) j (n - j) = q ∧ Below w.heap.size w wr)
  case atStart => exact ⟨0, by omega, rfl, rfl, HQ.out, Below.refl _ _⟩
  case round =>
   obtain ⟨j, hj, rfl, rfl, hsc, hB⟩ := hrel
   have HSC := Lib.hid hsc; clear hsc
   by_cases hlt : j < n
   ·have hXs := HX.out.keep hB
    obtain ⟨b, off, rfl, hb, hcell⟩ := hXs.row (by omega)
    have HEACH := Lib.hid hXs.each; clear hXs
    have HCELL := Lib.hid hcell; clear hcell
    obtain ⟨c0, c1, c2, c3, c4, c5, c6, c7, c8, c9, c10, c11, c12⟩ := HCELL.out j hlt
    obtain ⟨p, hp⟩ : ∃ p, x j = p := ⟨_, rfl⟩
    have HP := Lib.hid hp
    rw [hp] at c0 c1 c2 c3 c4 c5 c6 c7 c8 c9 c10 c11 c12
    have hBa := below_allocs hB (.cells #[.int .i64 p.id, .string p.file, .int .i64 p.mom, .int .i64 p.zone, .slice p.wa p.wn p.wc, .int .i64 p.W, .int .i64 p.H, .int .i64 p.turn, .int .i64 p.stars, .slice p.ta p.tn p.tc, .string p.cap, .slice p.pa p.pn p.pc, .bool p.hid] 41)
    have hXB := Blk.new wr #[.int .i64 p.id, .string p.file, .int .i64 p.mom, .int .i64 p.zone, .slice p.wa p.wn p.wc, .int .i64 p.W, .int .i64 p.H, .int .i64 p.turn, .int .i64 p.stars, .slice p.ta p.tn p.tc, .string p.cap, .slice p.pa p.pn p.pc, .bool p.hid] 41
    have HCH := Lib.hid (checkPhoto_is p (wr.alloc (.cells #[.int .i64 p.id, .string p.file, .int .i64 p.mom, .int .i64 p.zone, .slice p.wa p.wn p.wc, .int .i64 p.W, .int .i64 p.H, .int .i64 p.turn, .int .i64 p.stars, .slice p.ta p.tn p.tc, .string p.cap, .slice p.pa p.pn p.pc, .bool p.hid] 41)) (by rw [← hp]; exact (HEACH.out j hlt).keep (below_allocs (Below.refl _ _) _)) (by rw [← hp]; exact HF.out j hlt))
    clear hp
    obtain ⟨q0, q1, q2, q3, q4, q5, q6, q7, q8, q9, q10, q11, q12⟩ := hXB.photo
    by_cases he : p.err = 0
    ·rw [he] at HCH
     by_cases hj0 : j = 0
     ·have hj0' : decide ((0 : Int) < (j : Int)) = false := by simpa using hj0
      have hj0'' : ((0 : Int) < (j : Int)) = False := by simpa using hj0
      have hj0n : (0 < j) = False := by simpa using hj0
      have HBAD := Lib.hid (Fd.scan_next HSC.out hlt (Fd.lbad_first (by rw [HP.out]; exact he) hj0))
      clear hj0 he
      go_wp2_with (go_at_call 25; refine HCH.out.mono ?_; rintro e w5 ⟨rfl, hB5⟩; have hXB5 := hXB.keep hB5; clear q0 q1 q2 q3 q4 q5 q6 q7 q8 q9 q10 q11 q12; obtain ⟨t0, -, -, -, -, -, -, -, -, -, -, -, -⟩ := hXB5.photo)
      go_quiet (fail)
      go_wp2_with fail
      go_roundg (n - (j + 1))
      case rel => exact ⟨j + 1, by omega, rfl, by go_num, HBAD.out, below_drewN (below_up hBa hB5) _⟩
      case measure => omega
     ·have hj1 : 1 ≤ j := by omega
      have hj0' : decide ((0 : Int) < (j : Int)) = true := by simp; omega
      have hj0n : 0 < j := by omega
      have hi0 : (0 : Int) ≤ (j : Int) - 1 := by omega
      have hi1 : (j : Int) - 1 < (n : Int) := by omega
      have d0 := (HCELL.out (j - 1) (by omega)).1
      obtain ⟨m, hm⟩ : ∃ m, (x (j - 1)).id = m := ⟨_, rfl⟩
      have HM := Lib.hid hm
      rw [hm] at d0
      clear hm
      have HD0 := Lib.hid d0; clear d0
      by_cases ho : p.id ≤ m
      ·have HBAD := Lib.hid (Fd.scan_here HSC.out hlt (Fd.lbad_ord (by rw [HP.out]; exact he) hj0 (by rw [HP.out, HM.out]; exact ho)) (by omega))
       clear hj0 he
       go_wp2_with (go_at_call 25; refine HCH.out.mono ?_; rintro e w5 ⟨rfl, hB5⟩; have hXB5 := hXB.keep hB5; clear q0 q1 q2 q3 q4 q5 q6 q7 q8 q9 q10 q11 q12 c0 c1 c2 c3 c4 c5 c6 c7 c8 c9 c10 c11 c12; obtain ⟨t0, -, -, -, -, -, -, -, -, -, -, -, -⟩ := hXB5.photo; have hdd := (hB5.cell (p := ⟨b, off + (j - 1) * 13, none⟩) (by simp; omega)).trans ((World.cell?_alloc_lt wr _ ⟨b, off + (j - 1) * 13, none⟩ hb).trans HD0.out))
       go_quiet (fail)
       go_wp2_with fail
       go_ret
       exact ⟨ret_int HBAD.out, below_drewN (below_up hBa hB5) _⟩
      ·have HBAD := Lib.hid (Fd.scan_next HSC.out hlt (Fd.lbad_ok (by rw [HP.out]; exact he) hj0 (by rw [HP.out, HM.out]; exact ho)))
       clear hj0 he
       go_wp2_with (go_at_call 25; refine HCH.out.mono ?_; rintro e w5 ⟨rfl, hB5⟩; have hXB5 := hXB.keep hB5; clear q0 q1 q2 q3 q4 q5 q6 q7 q8 q9 q10 q11 q12 c0 c1 c2 c3 c4 c5 c6 c7 c8 c9 c10 c11 c12; obtain ⟨t0, -, -, -, -, -, -, -, -, -, -, -, -⟩ := hXB5.photo; have hdd := (hB5.cell (p := ⟨b, off + (j - 1) * 13, none⟩) (by simp; omega)).trans ((World.cell?_alloc_lt wr _ ⟨b, off + (j - 1) * 13, none⟩ hb).trans HD0.out))
       go_quiet (fail)
       go_wp2_with fail
       go_roundg (n - (j + 1))
       case rel => exact ⟨j + 1, by omega, rfl, by go_num, HBAD.out, below_drewN (below_up hBa hB5) _⟩
       case measure => omega
    ·obtain ⟨e, hee⟩ : ∃ e, p.err = e := ⟨_, rfl⟩
     rw [hee] at he HCH
     have HBAD := Lib.hid (Fd.scan_here HSC.out hlt (Fd.lbad_err (e := e) (by rw [HP.out]; exact hee) he) he)
     have he' : (e == 0) = false := by simpa using he
     have he2 : (e != 0) = true := by simpa using he
     clear hee he
     go_wp2_with (go_at_call 25; refine HCH.out.mono ?_; rintro e5 w5 ⟨rfl, hB5⟩)
     go_ret
     exact ⟨ret_int HBAD.out, below_up hBa hB5⟩
   ·obtain rfl : j = n := by omega
    go_wp2_with fail
    go_ret
    exact ⟨ret_int (Fd.scan_end HSC.out).symm, hB⟩
theorem libraryError_is (a : Option Addr) (n ca : Nat) (x : Nat → Ph) (w : World) (hx : Phs w a n x) (hF : ∀ i, i < n → (x i).Fits) (hn : n ≤ 9223372036854775807) :
  Calls Tryz.prog 6 #[.slice a n ca] w fun e w' => e = .returned (.int .i64 (Fd.lerr x n)) ∧ Below w.heap.size w w' := by
 obtain ⟨q, hq⟩ : ∃ q, Fd.lerr x n = q := ⟨_, rfl⟩
 rw [hq]
 unfold Fd.lerr at hq
 by_cases hl : 1000 < n
 ·rw [if_pos hl] at hq
  have hl' : (1000 : Int) < (n : Int) := by omega
  subst hq
  go_enter Tryz.func6, Tryz.ntmps6
  go_wp2_with fail
  go_ret
  exact ⟨rfl, Below.refl _ _⟩
 ·rw [if_neg hl] at hq
  have hl' : ¬ (1000 : Int) < (n : Int) := by omega
  have HX := Lib.hid hx; have HF := Lib.hid hF; have HQ := Lib.hid hq
  clear hx hF hq
  go_enter Tryz.func6, Tryz.ntmps6
  go_wp2_with fail
  go_loopg [11] n (fun gk i wr => ∃ j : Nat, j ≤ n ∧ gk = n - j ∧ i = .int .i64 j ∧ Fd.scan (Fd.lbad x) j (n - j) = q ∧ Below w.heap.size w wr)
  case atStart => exact ⟨0, by omega, rfl, rfl, HQ.out, Below.refl _ _⟩
  case round =>
   obtain ⟨j, hj, rfl, rfl, hsc, hB⟩ := hrel
   have HSC := Lib.hid hsc; clear hsc
   by_cases hlt : j < n
   ·have hXs := HX.out.keep hB
    obtain ⟨b, off, rfl, hb, hcell⟩ := hXs.row (by omega)
    have HEACH := Lib.hid hXs.each; clear hXs
    have HCELL := Lib.hid hcell; clear hcell
    obtain ⟨c0, c1, c2, c3, c4, c5, c6, c7, c8, c9, c10, c11, c12⟩ := HCELL.out j hlt
    obtain ⟨p, hp⟩ : ∃ p, x j = p := ⟨_, rfl⟩
    have HP := Lib.hid hp
    rw [hp] at c0 c1 c2 c3 c4 c5 c6 c7 c8 c9 c10 c11 c12
    have hBa := below_allocs hB (.cells #[.int .i64 p.id, .string p.file, .int .i64 p.mom, .int .i64 p.zone, .slice p.wa p.wn p.wc, .int .i64 p.W, .int .i64 p.H, .int .i64 p.turn, .int .i64 p.stars, .slice p.ta p.tn p.tc, .string p.cap, .slice p.pa p.pn p.pc, .bool p.hid] 41)
    have hXB := Blk.new wr #[.int .i64 p.id, .string p.file, .int .i64 p.mom, .int .i64 p.zone, .slice p.wa p.wn p.wc, .int .i64 p.W, .int .i64 p.H, .int .i64 p.turn, .int .i64 p.stars, .slice p.ta p.tn p.tc, .string p.cap, .slice p.pa p.pn p.pc, .bool p.hid] 41
    have HCH := Lib.hid (photoError_is p (wr.alloc (.cells #[.int .i64 p.id, .string p.file, .int .i64 p.mom, .int .i64 p.zone, .slice p.wa p.wn p.wc, .int .i64 p.W, .int .i64 p.H, .int .i64 p.turn, .int .i64 p.stars, .slice p.ta p.tn p.tc, .string p.cap, .slice p.pa p.pn p.pc, .bool p.hid] 41)) (by rw [← hp]; exact (HEACH.out j hlt).keep (below_allocs (Below.refl _ _) _)) (by rw [← hp]; exact HF.out j hlt))
    clear hp
    obtain ⟨q0, q1, q2, q3, q4, q5, q6, q7, q8, q9, q10, q11, q12⟩ := hXB.photo
    by_cases he : p.err = 0
    ·rw [he] at HCH
     by_cases hj0 : j = 0
     ·have hj0' : decide ((0 : Int) < (j : Int)) = false := by simpa using hj0
      have hj0'' : ((0 : Int) < (j : Int)) = False := by simpa using hj0
      have hj0n : (0 < j) = False := by simpa using hj0
      have HBAD := Lib.hid (Fd.scan_next HSC.out hlt (Fd.lbad_first (by rw [HP.out]; exact he) hj0))
      clear hj0 he
      go_wp2_with (go_at_call 16; refine HCH.out.mono ?_; rintro e w5 ⟨rfl, hB5⟩; have hXB5 := hXB.keep hB5; clear q0 q1 q2 q3 q4 q5 q6 q7 q8 q9 q10 q11 q12; obtain ⟨t0, -, -, -, -, -, -, -, -, -, -, -, -⟩ := hXB5.photo)
      go_quiet (fail)
      go_wp2_with fail
      go_roundg (n - (j + 1))
      case rel => exact ⟨j + 1, by omega, rfl, by go_num, HBAD.out, below_drewN (below_up hBa hB5) _⟩
      case measure => omega
     ·have hj1 : 1 ≤ j := by omega
      have hj0' : decide ((0 : Int) < (j : Int)) = true := by simp; omega
      have hj0n : 0 < j := by omega
      have hi0 : (0 : Int) ≤ (j : Int) - 1 := by omega
      have hi1 : (j : Int) - 1 < (n : Int) := by omega
      have d0 := (HCELL.out (j - 1) (by omega)).1
      obtain ⟨m, hm⟩ : ∃ m, (x (j - 1)).id = m := ⟨_, rfl⟩
      have HM := Lib.hid hm
      rw [hm] at d0
      clear hm
      have HD0 := Lib.hid d0; clear d0
      by_cases ho : p.id ≤ m
      ·have HBAD := Lib.hid (Fd.scan_here HSC.out hlt (Fd.lbad_ord (by rw [HP.out]; exact he) hj0 (by rw [HP.out, HM.out]; exact ho)) (by omega))
       clear hj0 he
       go_wp2_with (go_at_call 16; refine HCH.out.mono ?_; rintro e w5 ⟨rfl, hB5⟩; have hXB5 := hXB.keep hB5; clear q0 q1 q2 q3 q4 q5 q6 q7 q8 q9 q10 q11 q12 c0 c1 c2 c3 c4 c5 c6 c7 c8 c9 c10 c11 c12; obtain ⟨t0, -, -, -, -, -, -, -, -, -, -, -, -⟩ := hXB5.photo; have hdd := (hB5.cell (p := ⟨b, off + (j - 1) * 13, none⟩) (by simp; omega)).trans ((World.cell?_alloc_lt wr _ ⟨b, off + (j - 1) * 13, none⟩ hb).trans HD0.out))
       go_quiet (fail)
       go_wp2_with fail
       go_ret
       exact ⟨ret_int HBAD.out, below_drewN (below_up hBa hB5) _⟩
      ·have HBAD := Lib.hid (Fd.scan_next HSC.out hlt (Fd.lbad_ok (by rw [HP.out]; exact he) hj0 (by rw [HP.out, HM.out]; exact ho)))
       clear hj0 he
       go_wp2_with (go_at_call 16; refine HCH.out.mono ?_; rintro e w5 ⟨rfl, hB5⟩; have hXB5 := hXB.keep hB5; clear q0 q1 q2 q3 q4 q5 q6 q7 q8 q9 q10 q11 q12 c0 c1 c2 c3 c4 c5 c6 c7 c8 c9 c10 c11 c12; obtain ⟨t0, -, -, -, -, -, -, -, -, -, -, -, -⟩ := hXB5.photo; have hdd := (hB5.cell (p := ⟨b, off + (j - 1) * 13, none⟩) (by simp; omega)).trans ((World.cell?_alloc_lt wr _ ⟨b, off + (j - 1) * 13, none⟩ hb).trans HD0.out))
       go_quiet (fail)
       go_wp2_with fail
       go_roundg (n - (j + 1))
       case rel => exact ⟨j + 1, by omega, rfl, by go_num, HBAD.out, below_drewN (below_up hBa hB5) _⟩
       case measure => omega
    ·obtain ⟨e, hee⟩ : ∃ e, p.err = e := ⟨_, rfl⟩
     rw [hee] at he HCH
     have HBAD := Lib.hid (Fd.scan_here HSC.out hlt (Fd.lbad_err (e := e) (by rw [HP.out]; exact hee) he) he)
     have he' : (e == 0) = false := by simpa using he
     have he2 : (e != 0) = true := by simpa using he
     clear hee he
     go_wp2_with (go_at_call 16; refine HCH.out.mono ?_; rintro e5 w5 ⟨rfl, hB5⟩)
     go_ret
     exact ⟨ret_int HBAD.out, below_up hBa hB5⟩
   ·obtain rfl : j = n := by omega
    go_wp2_with fail
    go_ret
    exact ⟨ret_int (Fd.scan_end HSC.out).symm, hB⟩
end Go.Proofs.YtmpjnbhdlfneaaaGreatDoor
