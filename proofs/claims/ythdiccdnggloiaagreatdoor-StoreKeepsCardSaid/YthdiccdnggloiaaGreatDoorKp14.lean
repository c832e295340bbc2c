/- Parts of the proof, no condition: StSm, StBin, StFet, StFetR, StIpR. -/
import Derived.Test.YthdiccdnggloiaaGreatDoorKp10
import Derived.Test.YthdiccdnggloiaaGreatDoorKp11
import Derived.Test.YthdiccdnggloiaaGreatDoorKp9
import Derived.Test.YthdiccdnggloiaaGreatDoorKp6
import Derived.Test.YthdiccdnggloiaaGreatDoorKp8
import Derived.Test.YthdiccdnggloiaaGreatDoorKp13
set_option maxRecDepth 100000
set_option maxHeartbeats 16000000
set_option linter.unusedSimpArgs false
set_option linter.unusedVariables false
namespace Go.Proofs.YthdiccdnggloiaaGreatDoor
open Go.RowKit Go.Sort Go.Shelf Go.Maps
theorem St.bool_of (p : Prop) : ∃ q : Bool, (q = true ↔ p) := by
 by_cases h : p
 ·exact ⟨true, by simp [h]⟩
 ·exact ⟨false, by simp [h]⟩
theorem St.toList_iff {a b : ByteArray} : a.toList = b.toList ↔ a = b := by
 have h := St.eq_iff (a := a) (b := b)
 rw [← h]
 unfold St.eq
 simp

theorem neqT (z x : Tir) (w : World) (q : Bool) (hq : q = true ↔ z = x) : Sem.run Tryz.prog (binOp .neq 46 (.agg #[.string z.name, .int .i64 z.room, .int .i64 z.cost, .bool z.away]) (.agg #[.string x.name, .int .i64 x.room, .int .i64 x.cost, .bool x.away])) w = .ok (.bool (!q)) w := by
 have u3 := Tryz.underlying3
 have a3 := Tryz.isAgg3
 have z3 := Tryz.sizeOf3
 have u9 := Tryz.underlying9
 have a9 := Tryz.isAgg9
 have z9 := Tryz.sizeOf9
 have u4 := Tryz.underlying4
 have a4 := Tryz.isAgg4
 have z4 := Tryz.sizeOf4
 have hS : Tryz.prog.underlying 46 = some (.struct (Tryz.prog.fieldsOf 46)) := by kernel_rfl
 have hp : Tryz.prog.stoodInHeld 46 = false := by kernel_rfl
 obtain ⟨zn, zr, zc, za⟩ := z
 obtain ⟨xn, xr, xc, xa⟩ := x
 obtain rfl : q = ((zn.toList == xn.toList) && ((zr == xr) && ((zc == xc) && (za == xa)))) := by
  rw [Bool.eq_iff_iff, hq]
  simp only [Bool.and_eq_true, beq_iff_eq, Tir.mk.injEq]
  first
   | rw [St.toList_iff, St.toList_iff]
   | rw [St.toList_iff]
   | skip
 rw [run_neq_struct, show (10000 : Nat) = 9999 + 1 from rfl, run_equalIn_agg w 9999 46 _ _ hS hp]
 simp only [Program.fieldsOf, Tryz.underlying46]
 cases h1 : (zn.toList == xn.toList) <;> cases h2 : (zr == xr) <;> cases h3 : (zc == xc) <;> cases za <;> cases xa
 all_goals
  go_simp
  try simp

theorem neqF (z x : Fil) (w : World) (q : Bool) (hq : q = true ↔ z = x) : Sem.run Tryz.prog (binOp .neq 30 (.agg #[.string z.dig, .int .i64 z.size, .int .i64 z.kind, .string z.frm]) (.agg #[.string x.dig, .int .i64 x.size, .int .i64 x.kind, .string x.frm])) w = .ok (.bool (!q)) w := by
 have u3 := Tryz.underlying3
 have a3 := Tryz.isAgg3
 have z3 := Tryz.sizeOf3
 have u9 := Tryz.underlying9
 have a9 := Tryz.isAgg9
 have z9 := Tryz.sizeOf9
 have u4 := Tryz.underlying4
 have a4 := Tryz.isAgg4
 have z4 := Tryz.sizeOf4
 have hS : Tryz.prog.underlying 30 = some (.struct (Tryz.prog.fieldsOf 30)) := by kernel_rfl
 have hp : Tryz.prog.stoodInHeld 30 = false := by kernel_rfl
 obtain ⟨zn, zr, zc, za⟩ := z
 obtain ⟨xn, xr, xc, xa⟩ := x
 obtain rfl : q = ((zn.toList == xn.toList) && ((zr == xr) && ((zc == xc) && (za.toList == xa.toList)))) := by
  rw [Bool.eq_iff_iff, hq]
  simp only [Bool.and_eq_true, beq_iff_eq, Fil.mk.injEq]
  first
   | rw [St.toList_iff, St.toList_iff]
   | rw [St.toList_iff]
   | skip
 rw [run_neq_struct, show (10000 : Nat) = 9999 + 1 from rfl, run_equalIn_agg w 9999 30 _ _ hS hp]
 simp only [Program.fieldsOf, Tryz.underlying30]
 cases h1 : (zn.toList == xn.toList) <;> cases h2 : (zr == xr) <;> cases h3 : (zc == xc) <;> cases h4 : (za.toList == xa.toList)
 all_goals
  go_simp
  try simp

theorem neqC (z x : Cop) (w : World) (q : Bool) (hq : q = true ↔ z = x) : Sem.run Tryz.prog (binOp .neq 74 (.agg #[.string z.dig, .string z.tier, .bool z.good, .int .i64 z.asked]) (.agg #[.string x.dig, .string x.tier, .bool x.good, .int .i64 x.asked])) w = .ok (.bool (!q)) w := by
 have u3 := Tryz.underlying3
 have a3 := Tryz.isAgg3
 have z3 := Tryz.sizeOf3
 have u9 := Tryz.underlying9
 have a9 := Tryz.isAgg9
 have z9 := Tryz.sizeOf9
 have u4 := Tryz.underlying4
 have a4 := Tryz.isAgg4
 have z4 := Tryz.sizeOf4
 have hS : Tryz.prog.underlying 74 = some (.struct (Tryz.prog.fieldsOf 74)) := by kernel_rfl
 have hp : Tryz.prog.stoodInHeld 74 = false := by kernel_rfl
 obtain ⟨zn, zr, zc, za⟩ := z
 obtain ⟨xn, xr, xc, xa⟩ := x
 obtain rfl : q = ((zn.toList == xn.toList) && ((zr.toList == xr.toList) && ((zc == xc) && (za == xa)))) := by
  rw [Bool.eq_iff_iff, hq]
  simp only [Bool.and_eq_true, beq_iff_eq, Cop.mk.injEq]
  first
   | rw [St.toList_iff, St.toList_iff]
   | rw [St.toList_iff]
   | skip
 rw [run_neq_struct, show (10000 : Nat) = 9999 + 1 from rfl, run_equalIn_agg w 9999 74 _ _ hS hp]
 simp only [Program.fieldsOf, Tryz.underlying74]
 cases h1 : (zn.toList == xn.toList) <;> cases h2 : (zr.toList == xr.toList) <;> cases zc <;> cases xc <;> cases h4 : (za == xa)
 all_goals
  go_simp
  try simp

theorem neqG (z x : Gon) (w : World) (q : Bool) (hq : q = true ↔ z = x) : Sem.run Tryz.prog (binOp .neq 112 (.agg #[.string z.dig, .int .i64 z.day]) (.agg #[.string x.dig, .int .i64 x.day])) w = .ok (.bool (!q)) w := by
 have u3 := Tryz.underlying3
 have a3 := Tryz.isAgg3
 have z3 := Tryz.sizeOf3
 have u9 := Tryz.underlying9
 have a9 := Tryz.isAgg9
 have z9 := Tryz.sizeOf9
 have u4 := Tryz.underlying4
 have a4 := Tryz.isAgg4
 have z4 := Tryz.sizeOf4
 have hS : Tryz.prog.underlying 112 = some (.struct (Tryz.prog.fieldsOf 112)) := by kernel_rfl
 have hp : Tryz.prog.stoodInHeld 112 = false := by kernel_rfl
 obtain ⟨zn, zr⟩ := z
 obtain ⟨xn, xr⟩ := x
 obtain rfl : q = ((zn.toList == xn.toList) && (zr == xr)) := by
  rw [Bool.eq_iff_iff, hq]
  simp only [Bool.and_eq_true, beq_iff_eq, Gon.mk.injEq]
  first
   | rw [St.toList_iff, St.toList_iff]
   | rw [St.toList_iff]
   | skip
 rw [run_neq_struct, show (10000 : Nat) = 9999 + 1 from rfl, run_equalIn_agg w 9999 112 _ _ hS hp]
 simp only [Program.fieldsOf, Tryz.underlying112]
 cases h1 : (zn.toList == xn.toList) <;> cases h2 : (zr == xr)
 all_goals
  go_simp
  try simp
theorem St.take_same {α : Type} {A B : List α} {j : Nat} (h : A.take j = B.take j) {x y : α} (hx : A[j]? = some x) (hy : B[j]? = some y) (he : x = y) : A.take (j + 1) = B.take (j + 1) := by
 rw [List.take_add_one, List.take_add_one, h, hx, hy, he]

theorem eqT_any (A B : List Tir) (a b : Option Addr) (ca cb : Nat) (w : World) (hx : RowE St.eT w a A) (hy : RowE St.eT w b B) (hn : A.length ≤ 9223372036854775807) (hm : B.length ≤ 9223372036854775807) (q : Bool) (hq : q = true ↔ A = B) :
  Calls Tryz.prog 113 #[.slice a A.length ca, .slice b B.length cb] w fun e w' => e = .returned (.bool q) ∧ Below w.heap.size w w' := by
 have HX := Lib.hid hx; have HY := Lib.hid hy; have HQ := Lib.hid hq
 obtain ⟨n, hnn⟩ : ∃ n, A.length = n := ⟨_, rfl⟩
 obtain ⟨m, hmm⟩ : ∃ m, B.length = m := ⟨_, rfl⟩
 have HN := Lib.hid hnn; have HM := Lib.hid hmm
 rw [hnn] at hn ⊢
 rw [hmm] at hm ⊢
 clear hx hy hnn hmm hq
 by_cases hl : n = m
 ·subst hl
  have hl' : ((n : Int) == (n : Int)) = true := by simp
  go_enter Tryz.func113, Tryz.ntmps113
  go_wp2_with fail
  go_loopg [13] n (fun gk i wr => ∃ j : Nat, j ≤ n ∧ gk = n - j ∧ i = .int .i64 j ∧ A.take j = B.take j ∧ Below w.heap.size w wr)
  case atStart => exact ⟨0, by omega, rfl, rfl, rfl, Below.refl _ _⟩
  case round =>
   obtain ⟨j, hj, rfl, rfl, htk, hB⟩ := hrel
   have HTK := Lib.hid htk
   clear htk
   by_cases hlt : j < n
   ·obtain ⟨x, hqx⟩ : ∃ x, A[j]? = some x := ⟨_, List.getElem?_eq_getElem (by rw [HN.out]; exact hlt)⟩
    obtain ⟨y, hqy⟩ : ∃ y, B[j]? = some y := ⟨_, List.getElem?_eq_getElem (by rw [HM.out]; exact hlt)⟩
    obtain ⟨b1, o1, ha1, hb1, hc1⟩ := HX.out.keep hB (by rw [HN.out]; omega)
    obtain ⟨b2, o2, ha2, hb2, hc2⟩ := HY.out.keep hB (by rw [HM.out]; omega)
    have c0 : wr.cell? ⟨b1, o1 + j * 4, none⟩ = some (.string x.name) := hc1 j x hqx 0 (.string x.name) rfl
    have c1 : wr.cell? ⟨b1, o1 + j * 4 + 1, none⟩ = some (.int .i64 x.room) := hc1 j x hqx 1 (.int .i64 x.room) rfl
    have c2 : wr.cell? ⟨b1, o1 + j * 4 + 2, none⟩ = some (.int .i64 x.cost) := hc1 j x hqx 2 (.int .i64 x.cost) rfl
    have c3 : wr.cell? ⟨b1, o1 + j * 4 + 3, none⟩ = some (.bool x.away) := hc1 j x hqx 3 (.bool x.away) rfl
    have d0 : wr.cell? ⟨b2, o2 + j * 4, none⟩ = some (.string y.name) := hc2 j y hqy 0 (.string y.name) rfl
    have d1 : wr.cell? ⟨b2, o2 + j * 4 + 1, none⟩ = some (.int .i64 y.room) := hc2 j y hqy 1 (.int .i64 y.room) rfl
    have d2 : wr.cell? ⟨b2, o2 + j * 4 + 2, none⟩ = some (.int .i64 y.cost) := hc2 j y hqy 2 (.int .i64 y.cost) rfl
    have d3 : wr.cell? ⟨b2, o2 + j * 4 + 3, none⟩ = some (.bool y.away) := hc2 j y hqy 3 (.bool y.away) rfl
    have hj0 : (0 : Int) ≤ (j : Int) := by omega
    have hj1 : (j : Int) < (n : Int) := by omega
    obtain ⟨p, hp⟩ := St.bool_of (x = y)
    have hne := fun V => neqT x y V p hp; have hgd := guardTir
    have HNX := Lib.hid (fun e : x = y => St.take_same HTK.out hqx hqy e)
    have HNO : Hid (x ≠ y → A ≠ B) := Lib.hid (fun hne e => hne (by subst e; rw [hqx] at hqy; exact Option.some.inj hqy))
    have HP := Lib.hid hp
    clear hc1 hc2 hqx hqy hp
    rw [ha1, ha2]
    cases p
    ·have hq0 : q = false := by
      cases hqq : q with
      | false => rfl
      | true => exact absurd (HQ.out.1 hqq) (HNO.out (fun e => absurd (HP.out.2 e) (by decide)))
     subst hq0
     go_wp2_with fail
     go_quiet (fail)
     go_wp2_with fail
     go_ret
     exact ⟨rfl, below_drewN hB _⟩
    ·go_wp2_with fail
     go_quiet (fail)
     go_wp2_with fail
     rw [← ha1, ← ha2]
     go_roundg (n - (j + 1))
     case rel => exact ⟨j + 1, by omega, rfl, by go_num, HNX.out (HP.out.1 (by first | rfl | trivial)), below_drewN hB _⟩
     case measure => omega
   ·obtain rfl : j = n := by omega
    have hjn : ¬ ((j : Int) < (j : Int)) := by omega
    have hq1 : q = true := HQ.out.2 (by
     have h := HTK.out
     rw [List.take_of_length_le (by rw [HN.out]; exact Nat.le_refl _), List.take_of_length_le (by rw [HM.out]; exact Nat.le_refl _)] at h
     exact h)
    subst hq1
    go_wp2_with fail
    go_ret
    exact ⟨rfl, hB⟩
 ·have hl' : ((n : Int) == (m : Int)) = false := by simp; omega
  have hq0 : q = false := by
   cases hqq : q with
   | false => rfl
   | true => exact absurd (by rw [← HN.out, ← HM.out, HQ.out.1 hqq]) hl
  subst hq0
  go_enter Tryz.func113, Tryz.ntmps113
  go_wp2_with fail
  go_ret
  exact ⟨rfl, Below.refl _ _⟩

theorem eqF_any (A B : List Fil) (a b : Option Addr) (ca cb : Nat) (w : World) (hx : RowE St.eF w a A) (hy : RowE St.eF w b B) (hn : A.length ≤ 9223372036854775807) (hm : B.length ≤ 9223372036854775807) (q : Bool) (hq : q = true ↔ A = B) :
  Calls Tryz.prog 114 #[.slice a A.length ca, .slice b B.length cb] w fun e w' => e = .returned (.bool q) ∧ Below w.heap.size w w' := by
 have HX := Lib.hid hx; have HY := Lib.hid hy; have HQ := Lib.hid hq
 obtain ⟨n, hnn⟩ : ∃ n, A.length = n := ⟨_, rfl⟩
 obtain ⟨m, hmm⟩ : ∃ m, B.length = m := ⟨_, rfl⟩
 have HN := Lib.hid hnn; have HM := Lib.hid hmm
 rw [hnn] at hn ⊢
 rw [hmm] at hm ⊢
 clear hx hy hnn hmm hq
 by_cases hl : n = m
 ·subst hl
  have hl' : ((n : Int) == (n : Int)) = true := by simp
  go_enter Tryz.func114, Tryz.ntmps114
  go_wp2_with fail
  go_loopg [13] n (fun gk i wr => ∃ j : Nat, j ≤ n ∧ gk = n - j ∧ i = .int .i64 j ∧ A.take j = B.take j ∧ Below w.heap.size w wr)
  case atStart => exact ⟨0, by omega, rfl, rfl, rfl, Below.refl _ _⟩
  case round =>
   obtain ⟨j, hj, rfl, rfl, htk, hB⟩ := hrel
   have HTK := Lib.hid htk
   clear htk
   by_cases hlt : j < n
   ·obtain ⟨x, hqx⟩ : ∃ x, A[j]? = some x := ⟨_, List.getElem?_eq_getElem (by rw [HN.out]; exact hlt)⟩
    obtain ⟨y, hqy⟩ : ∃ y, B[j]? = some y := ⟨_, List.getElem?_eq_getElem (by rw [HM.out]; exact hlt)⟩
    obtain ⟨b1, o1, ha1, hb1, hc1⟩ := HX.out.keep hB (by rw [HN.out]; omega)
    obtain ⟨b2, o2, ha2, hb2, hc2⟩ := HY.out.keep hB (by rw [HM.out]; omega)
    have c0 : wr.cell? ⟨b1, o1 + j * 4, none⟩ = some (.string x.dig) := hc1 j x hqx 0 (.string x.dig) rfl
    have c1 : wr.cell? ⟨b1, o1 + j * 4 + 1, none⟩ = some (.int .i64 x.size) := hc1 j x hqx 1 (.int .i64 x.size) rfl
    have c2 : wr.cell? ⟨b1, o1 + j * 4 + 2, none⟩ = some (.int .i64 x.kind) := hc1 j x hqx 2 (.int .i64 x.kind) rfl
    have c3 : wr.cell? ⟨b1, o1 + j * 4 + 3, none⟩ = some (.string x.frm) := hc1 j x hqx 3 (.string x.frm) rfl
    have d0 : wr.cell? ⟨b2, o2 + j * 4, none⟩ = some (.string y.dig) := hc2 j y hqy 0 (.string y.dig) rfl
    have d1 : wr.cell? ⟨b2, o2 + j * 4 + 1, none⟩ = some (.int .i64 y.size) := hc2 j y hqy 1 (.int .i64 y.size) rfl
    have d2 : wr.cell? ⟨b2, o2 + j * 4 + 2, none⟩ = some (.int .i64 y.kind) := hc2 j y hqy 2 (.int .i64 y.kind) rfl
    have d3 : wr.cell? ⟨b2, o2 + j * 4 + 3, none⟩ = some (.string y.frm) := hc2 j y hqy 3 (.string y.frm) rfl
    have hj0 : (0 : Int) ≤ (j : Int) := by omega
    have hj1 : (j : Int) < (n : Int) := by omega
    obtain ⟨p, hp⟩ := St.bool_of (x = y)
    have hne := fun V => neqF x y V p hp; have hgd := guardFil
    have HNX := Lib.hid (fun e : x = y => St.take_same HTK.out hqx hqy e)
    have HNO : Hid (x ≠ y → A ≠ B) := Lib.hid (fun hne e => hne (by subst e; rw [hqx] at hqy; exact Option.some.inj hqy))
    have HP := Lib.hid hp
    clear hc1 hc2 hqx hqy hp
    rw [ha1, ha2]
    cases p
    ·have hq0 : q = false := by
      cases hqq : q with
      | false => rfl
      | true => exact absurd (HQ.out.1 hqq) (HNO.out (fun e => absurd (HP.out.2 e) (by decide)))
     subst hq0
     go_wp2_with fail
     go_quiet (fail)
     go_wp2_with fail
     go_ret
     exact ⟨rfl, below_drewN hB _⟩
    ·go_wp2_with fail
     go_quiet (fail)
     go_wp2_with fail
     rw [← ha1, ← ha2]
     go_roundg (n - (j + 1))
     case rel => exact ⟨j + 1, by omega, rfl, by go_num, HNX.out (HP.out.1 (by first | rfl | trivial)), below_drewN hB _⟩
     case measure => omega
   ·obtain rfl : j = n := by omega
    have hjn : ¬ ((j : Int) < (j : Int)) := by omega
    have hq1 : q = true := HQ.out.2 (by
     have h := HTK.out
     rw [List.take_of_length_le (by rw [HN.out]; exact Nat.le_refl _), List.take_of_length_le (by rw [HM.out]; exact Nat.le_refl _)] at h
     exact h)
    subst hq1
    go_wp2_with fail
    go_ret
    exact ⟨rfl, hB⟩
 ·have hl' : ((n : Int) == (m : Int)) = false := by simp; omega
  have hq0 : q = false := by
   cases hqq : q with
   | false => rfl
   | true => exact absurd (by rw [← HN.out, ← HM.out, HQ.out.1 hqq]) hl
  subst hq0
  go_enter Tryz.func114, Tryz.ntmps114
  go_wp2_with fail
  go_ret
  exact ⟨rfl, Below.refl _ _⟩

theorem eqC_any (A B : List Cop) (a b : Option Addr) (ca cb : Nat) (w : World) (hx : RowE St.eC w a A) (hy : RowE St.eC w b B) (hn : A.length ≤ 9223372036854775807) (hm : B.length ≤ 9223372036854775807) (q : Bool) (hq : q = true ↔ A = B) :
  Calls Tryz.prog 42 #[.slice a A.length ca, .slice b B.length cb] w fun e w' => e = .returned (.bool q) ∧ Below w.heap.size w w' := by
 have HX := Lib.hid hx; have HY := Lib.hid hy; have HQ := Lib.hid hq
 obtain ⟨n, hnn⟩ : ∃ n, A.length = n := ⟨_, rfl⟩
 obtain ⟨m, hmm⟩ : ∃ m, B.length = m := ⟨_, rfl⟩
 have HN := Lib.hid hnn; have HM := Lib.hid hmm
 rw [hnn] at hn ⊢
 rw [hmm] at hm ⊢
 clear hx hy hnn hmm hq
 by_cases hl : n = m
 ·subst hl
  have hl' : ((n : Int) == (n : Int)) = true := by simp
  go_enter Tryz.func42, Tryz.ntmps42
  go_wp2_with fail
  go_loopg [13] n (fun gk i wr => ∃ j : Nat, j ≤ n ∧ gk = n - j ∧ i = .int .i64 j ∧ A.take j = B.take j ∧ Below w.heap.size w wr)
  case atStart => exact ⟨0, by omega, rfl, rfl, rfl, Below.refl _ _⟩
  case round =>
   obtain ⟨j, hj, rfl, rfl, htk, hB⟩ := hrel
   have HTK := Lib.hid htk
   clear htk
   by_cases hlt : j < n
   ·obtain ⟨x, hqx⟩ : ∃ x, A[j]? = some x := ⟨_, List.getElem?_eq_getElem (by rw [HN.out]; exact hlt)⟩
    obtain ⟨y, hqy⟩ : ∃ y, B[j]? = some y := ⟨_, List.getElem?_eq_getElem (by rw [HM.out]; exact hlt)⟩
    obtain ⟨b1, o1, ha1, hb1, hc1⟩ := HX.out.keep hB (by rw [HN.out]; omega)
    obtain ⟨b2, o2, ha2, hb2, hc2⟩ := HY.out.keep hB (by rw [HM.out]; omega)
    have c0 : wr.cell? ⟨b1, o1 + j * 4, none⟩ = some (.string x.dig) := hc1 j x hqx 0 (.string x.dig) rfl
    have c1 : wr.cell? ⟨b1, o1 + j * 4 + 1, none⟩ = some (.string x.tier) := hc1 j x hqx 1 (.string x.tier) rfl
    have c2 : wr.cell? ⟨b1, o1 + j * 4 + 2, none⟩ = some (.bool x.good) := hc1 j x hqx 2 (.bool x.good) rfl
    have c3 : wr.cell? ⟨b1, o1 + j * 4 + 3, none⟩ = some (.int .i64 x.asked) := hc1 j x hqx 3 (.int .i64 x.asked) rfl
    have d0 : wr.cell? ⟨b2, o2 + j * 4, none⟩ = some (.string y.dig) := hc2 j y hqy 0 (.string y.dig) rfl
    have d1 : wr.cell? ⟨b2, o2 + j * 4 + 1, none⟩ = some (.string y.tier) := hc2 j y hqy 1 (.string y.tier) rfl
    have d2 : wr.cell? ⟨b2, o2 + j * 4 + 2, none⟩ = some (.bool y.good) := hc2 j y hqy 2 (.bool y.good) rfl
    have d3 : wr.cell? ⟨b2, o2 + j * 4 + 3, none⟩ = some (.int .i64 y.asked) := hc2 j y hqy 3 (.int .i64 y.asked) rfl
    have hj0 : (0 : Int) ≤ (j : Int) := by omega
    have hj1 : (j : Int) < (n : Int) := by omega
    obtain ⟨p, hp⟩ := St.bool_of (x = y)
    have hne := fun V => neqC x y V p hp; have hgd := guardCop
    have HNX := Lib.hid (fun e : x = y => St.take_same HTK.out hqx hqy e)
    have HNO : Hid (x ≠ y → A ≠ B) := Lib.hid (fun hne e => hne (by subst e; rw [hqx] at hqy; exact Option.some.inj hqy))
    have HP := Lib.hid hp
    clear hc1 hc2 hqx hqy hp
    rw [ha1, ha2]
    cases p
    ·have hq0 : q = false := by
      cases hqq : q with
      | false => rfl
      | true => exact absurd (HQ.out.1 hqq) (HNO.out (fun e => absurd (HP.out.2 e) (by decide)))
     subst hq0
     go_wp2_with fail
     go_quiet (fail)
     go_wp2_with fail
     go_ret
     exact ⟨rfl, below_drewN hB _⟩
    ·go_wp2_with fail
     go_quiet (fail)
     go_wp2_with fail
     rw [← ha1, ← ha2]
     go_roundg (n - (j + 1))
     case rel => exact ⟨j + 1, by omega, rfl, by go_num, HNX.out (HP.out.1 (by first | rfl | trivial)), below_drewN hB _⟩
     case measure => omega
   ·obtain rfl : j = n := by omega
    have hjn : ¬ ((j : Int) < (j : Int)) := by omega
    have hq1 : q = true := HQ.out.2 (by
     have h := HTK.out
     rw [List.take_of_length_le (by rw [HN.out]; exact Nat.le_refl _), List.take_of_length_le (by rw [HM.out]; exact Nat.le_refl _)] at h
     exact h)
    subst hq1
    go_wp2_with fail
    go_ret
    exact ⟨rfl, hB⟩
 ·have hl' : ((n : Int) == (m : Int)) = false := by simp; omega
  have hq0 : q = false := by
   cases hqq : q with
   | false => rfl
   | true => exact absurd (by rw [← HN.out, ← HM.out, HQ.out.1 hqq]) hl
  subst hq0
  go_enter Tryz.func42, Tryz.ntmps42
  go_wp2_with fail
  go_ret
  exact ⟨rfl, Below.refl _ _⟩

theorem eqG_any (A B : List Gon) (a b : Option Addr) (ca cb : Nat) (w : World) (hx : RowE St.eG w a A) (hy : RowE St.eG w b B) (hn : A.length ≤ 9223372036854775807) (hm : B.length ≤ 9223372036854775807) (q : Bool) (hq : q = true ↔ A = B) :
  Calls Tryz.prog 115 #[.slice a A.length ca, .slice b B.length cb] w fun e w' => e = .returned (.bool q) ∧ Below w.heap.size w w' := by
 have HX := Lib.hid hx; have HY := Lib.hid hy; have HQ := Lib.hid hq
 obtain ⟨n, hnn⟩ : ∃ n, A.length = n := ⟨_, rfl⟩
 obtain ⟨m, hmm⟩ : ∃ m, B.length = m := ⟨_, rfl⟩
 have HN := Lib.hid hnn; have HM := Lib.hid hmm
 rw [hnn] at hn ⊢
 rw [hmm] at hm ⊢
 clear hx hy hnn hmm hq
 by_cases hl : n = m
 ·subst hl
  have hl' : ((n : Int) == (n : Int)) = true := by simp
  go_enter Tryz.func115, Tryz.ntmps115
  go_wp2_with fail
  go_loopg [13] n (fun gk i wr => ∃ j : Nat, j ≤ n ∧ gk = n - j ∧ i = .int .i64 j ∧ A.take j = B.take j ∧ Below w.heap.size w wr)
  case atStart => exact ⟨0, by omega, rfl, rfl, rfl, Below.refl _ _⟩
  case round =>
   obtain ⟨j, hj, rfl, rfl, htk, hB⟩ := hrel
   have HTK := Lib.hid htk
   clear htk
   by_cases hlt : j < n
   ·obtain ⟨x, hqx⟩ : ∃ x, A[j]? = some x := ⟨_, List.getElem?_eq_getElem (by rw [HN.out]; exact hlt)⟩
    obtain ⟨y, hqy⟩ : ∃ y, B[j]? = some y := ⟨_, List.getElem?_eq_getElem (by rw [HM.out]; exact hlt)⟩
    obtain ⟨b1, o1, ha1, hb1, hc1⟩ := HX.out.keep hB (by rw [HN.out]; omega)
    obtain ⟨b2, o2, ha2, hb2, hc2⟩ := HY.out.keep hB (by rw [HM.out]; omega)
    have c0 : wr.cell? ⟨b1, o1 + j * 2, none⟩ = some (.string x.dig) := hc1 j x hqx 0 (.string x.dig) rfl
    have c1 : wr.cell? ⟨b1, o1 + j * 2 + 1, none⟩ = some (.int .i64 x.day) := hc1 j x hqx 1 (.int .i64 x.day) rfl
    have d0 : wr.cell? ⟨b2, o2 + j * 2, none⟩ = some (.string y.dig) := hc2 j y hqy 0 (.string y.dig) rfl
    have d1 : wr.cell? ⟨b2, o2 + j * 2 + 1, none⟩ = some (.int .i64 y.day) := hc2 j y hqy 1 (.int .i64 y.day) rfl
    have hj0 : (0 : Int) ≤ (j : Int) := by omega
    have hj1 : (j : Int) < (n : Int) := by omega
    obtain ⟨p, hp⟩ := St.bool_of (x = y)
    have hne := fun V => neqG x y V p hp; have hgd := guardGon
    have HNX := Lib.hid (fun e : x = y => St.take_same HTK.out hqx hqy e)
    have HNO : Hid (x ≠ y → A ≠ B) := Lib.hid (fun hne e => hne (by subst e; rw [hqx] at hqy; exact Option.some.inj hqy))
    have HP := Lib.hid hp
    clear hc1 hc2 hqx hqy hp
    rw [ha1, ha2]
    cases p
    ·have hq0 : q = false := by
      cases hqq : q with
      | false => rfl
      | true => exact absurd (HQ.out.1 hqq) (HNO.out (fun e => absurd (HP.out.2 e) (by decide)))
     subst hq0
     go_wp2_with fail
     go_quiet (fail)
     go_wp2_with fail
     go_ret
     exact ⟨rfl, below_drewN hB _⟩
    ·go_wp2_with fail
     go_quiet (fail)
     go_wp2_with fail
     rw [← ha1, ← ha2]
     go_roundg (n - (j + 1))
     case rel => exact ⟨j + 1, by omega, rfl, by go_num, HNX.out (HP.out.1 (by first | rfl | trivial)), below_drewN hB _⟩
     case measure => omega
   ·obtain rfl : j = n := by omega
    have hjn : ¬ ((j : Int) < (j : Int)) := by omega
    have hq1 : q = true := HQ.out.2 (by
     have h := HTK.out
     rw [List.take_of_length_le (by rw [HN.out]; exact Nat.le_refl _), List.take_of_length_le (by rw [HM.out]; exact Nat.le_refl _)] at h
     exact h)
    subst hq1
    go_wp2_with fail
    go_ret
    exact ⟨rfl, hB⟩
 ·have hl' : ((n : Int) == (m : Int)) = false := by simp; omega
  have hq0 : q = false := by
   cases hqq : q with
   | false => rfl
   | true => exact absurd (by rw [← HN.out, ← HM.out, HQ.out.1 hqq]) hl
  subst hq0
  go_enter Tryz.func115, Tryz.ntmps115
  go_wp2_with fail
  go_ret
  exact ⟨rfl, Below.refl _ _⟩

theorem eqS_any (A B : List ByteArray) (a b : Option Addr) (ca cb : Nat) (w : World) (hx : RowE St.eS w a A) (hy : RowE St.eS w b B) (hn : A.length ≤ 9223372036854775807) (hm : B.length ≤ 9223372036854775807) (q : Bool) (hq : q = true ↔ A = B) :
  Calls Tryz.prog 37 #[.slice a A.length ca, .slice b B.length cb] w fun e w' => e = .returned (.bool q) ∧ Below w.heap.size w w' := by
 have HX := Lib.hid hx; have HY := Lib.hid hy; have HQ := Lib.hid hq
 obtain ⟨n, hnn⟩ : ∃ n, A.length = n := ⟨_, rfl⟩
 obtain ⟨m, hmm⟩ : ∃ m, B.length = m := ⟨_, rfl⟩
 have HN := Lib.hid hnn; have HM := Lib.hid hmm
 rw [hnn] at hn ⊢
 rw [hmm] at hm ⊢
 clear hx hy hnn hmm hq
 by_cases hl : n = m
 ·subst hl
  have hl' : ((n : Int) == (n : Int)) = true := by simp
  go_enter Tryz.func37, Tryz.ntmps37
  go_wp2_with fail
  go_loopg [13] n (fun gk i wr => ∃ j : Nat, j ≤ n ∧ gk = n - j ∧ i = .int .i64 j ∧ A.take j = B.take j ∧ Below w.heap.size w wr)
  case atStart => exact ⟨0, by omega, rfl, rfl, rfl, Below.refl _ _⟩
  case round =>
   obtain ⟨j, hj, rfl, rfl, htk, hB⟩ := hrel
   have HTK := Lib.hid htk
   clear htk
   by_cases hlt : j < n
   ·obtain ⟨x, hqx⟩ : ∃ x, A[j]? = some x := ⟨_, List.getElem?_eq_getElem (by rw [HN.out]; exact hlt)⟩
    obtain ⟨y, hqy⟩ : ∃ y, B[j]? = some y := ⟨_, List.getElem?_eq_getElem (by rw [HM.out]; exact hlt)⟩
    obtain ⟨b1, o1, ha1, hb1, hc1⟩ := HX.out.keep hB (by rw [HN.out]; omega)
    obtain ⟨b2, o2, ha2, hb2, hc2⟩ := HY.out.keep hB (by rw [HM.out]; omega)
    have c0 : wr.cell? ⟨b1, o1 + j, none⟩ = some (.string x) := by have := hc1 j x hqx 0 (.string x) rfl; rw [show o1 + j * St.eS.k + 0 = o1 + j by simp [St.eS]] at this; exact this
    have d0 : wr.cell? ⟨b2, o2 + j, none⟩ = some (.string y) := by have := hc2 j y hqy 0 (.string y) rfl; rw [show o2 + j * St.eS.k + 0 = o2 + j by simp [St.eS]] at this; exact this
    have hj0 : (0 : Int) ≤ (j : Int) := by omega
    have hj1 : (j : Int) < (n : Int) := by omega
    obtain ⟨p, hp⟩ := St.bool_of (x = y)
    have hne : (x.toList == y.toList) = p := (by rw [Bool.eq_iff_iff, hp]; simp [St.toList_iff]); have hnn : (x.toList != y.toList) = !p := (by rw [← hne]; rfl)
    have HNX := Lib.hid (fun e : x = y => St.take_same HTK.out hqx hqy e)
    have HNO : Hid (x ≠ y → A ≠ B) := Lib.hid (fun hne e => hne (by subst e; rw [hqx] at hqy; exact Option.some.inj hqy))
    have HP := Lib.hid hp
    clear hc1 hc2 hqx hqy hp
    rw [ha1, ha2]
    cases p
    ·have hq0 : q = false := by
      cases hqq : q with
      | false => rfl
      | true => exact absurd (HQ.out.1 hqq) (HNO.out (fun e => absurd (HP.out.2 e) (by decide)))
     subst hq0
     go_wp2_with fail
     go_quiet (fail)
     go_wp2_with fail
     go_ret
     exact ⟨rfl, below_drewN hB _⟩
    ·go_wp2_with fail
     go_quiet (fail)
     go_wp2_with fail
     rw [← ha1, ← ha2]
     go_roundg (n - (j + 1))
     case rel => exact ⟨j + 1, by omega, rfl, by go_num, HNX.out (HP.out.1 (by first | rfl | trivial)), below_drewN hB _⟩
     case measure => omega
   ·obtain rfl : j = n := by omega
    have hjn : ¬ ((j : Int) < (j : Int)) := by omega
    have hq1 : q = true := HQ.out.2 (by
     have h := HTK.out
     rw [List.take_of_length_le (by rw [HN.out]; exact Nat.le_refl _), List.take_of_length_le (by rw [HM.out]; exact Nat.le_refl _)] at h
     exact h)
    subst hq1
    go_wp2_with fail
    go_ret
    exact ⟨rfl, hB⟩
 ·have hl' : ((n : Int) == (m : Int)) = false := by simp; omega
  have hq0 : q = false := by
   cases hqq : q with
   | false => rfl
   | true => exact absurd (by rw [← HN.out, ← HM.out, HQ.out.1 hqq]) hl
  subst hq0
  go_enter Tryz.func37, Tryz.ntmps37
  go_wp2_with fail
  go_ret
  exact ⟨rfl, Below.refl _ _⟩
theorem Sto.eq_iff {s t : Sto} : s = t ↔ s.least = t.least ∧ s.wait = t.wait ∧ s.tiers = t.tiers ∧ s.files = t.files ∧ s.copies = t.copies ∧ s.held = t.held ∧ s.bin = t.bin := by
 cases s; cases t; simp
theorem fillNew (w : World) (c cs : Array Value) (t : TypeId) : ∃ X, (w.alloc (.cells c t)).setRow w.heap.size cs = X ∧ Blk X w.heap.size cs t ∧ X.heap.size = w.heap.size + 1 ∧ Below w.heap.size w X :=
 ⟨_, rfl, Blk.setRowAt (Blk.new _ _ _) _, by simp, below_setRow ((Below.refl _ _).alloc (Nat.le_refl _) _) (Nat.le_refl _) _⟩
theorem FMap.okD {w : World} {b : Nat} {L : List Fil} (h : FMap w b L) (hu : St.Up (·.dig) L) {d : ByteArray} (hd : d.size ≤ 9223372036854775807) :
  ∃ y : Fil, (Instr.lookup 133 (.map (some b)) (.string d) true).run Tryz.prog w = .ok (.tuple #[.agg #[.string y.dig, .int .i64 y.size, .int .i64 y.kind, .string y.frm], .bool (St.fileOf L d).isSome]) w ∧ y = St.filD L d := by
 refine ⟨(St.lastOf L d).getD St.zeroF, ?_, ?_⟩
 ·rw [h.look_ok hd, St.lastOf_up hu]; rfl
 ·rw [St.lastOf_up hu]; rfl
theorem filOf_is (s : Sto) (a : StA) (d : ByteArray) (w : World) (hI : StIn w s a) (y : Fil) (hy : y = St.filD s.files d) (b : Bool) (hb : b = (St.fileOf s.files d).isSome) :
  Calls Tryz.prog 76 #[.agg #[.int .i64 s.least, .int .i64 s.wait, .slice a.ta s.tiers.length a.tc, .slice a.fa s.files.length a.fc, .slice a.ca s.copies.length a.cc, .slice a.ha s.held.length a.hc, .slice a.ba s.bin.length a.bc], .string d] w fun e w' => e = .returned (.tuple #[.agg #[.string y.dig, .int .i64 y.size, .int .i64 y.kind, .string y.frm], .bool b]) ∧ Below w.heap.size w w' := by
 subst hy hb
 exact fileOf_is s a d w hI
theorem infoFilS : (Tryz.prog.info? 30).map (·.size) = some 4 := by kernel_rfl
theorem importedR_fault (s : Sto) (a : StA) (f : Fil) (hfz : f.dig.size ≤ 9223372036854775807) (tier : ByteArray) (now : Int) (w : World) (hI : StIn w s a) (hq0 : St.faultE f ≠ 0) : Calls Tryz.prog 16 #[.agg #[.int .i64 s.least, .int .i64 s.wait, .slice a.ta s.tiers.length a.tc, .slice a.fa s.files.length a.fc, .slice a.ca s.copies.length a.cc, .slice a.ha s.held.length a.hc, .slice a.ba s.bin.length a.bc], .agg #[.string f.dig, .int .i64 f.size, .int .i64 f.kind, .string f.frm], .string tier, .int .i64 now] w (StoErr w (St.faultE f)) := by
 obtain ⟨W0, hW0, hP, hz0, hB0⟩ := box w #[.int .i64 s.least, .int .i64 s.wait, .slice a.ta s.tiers.length a.tc, .slice a.fa s.files.length a.fc, .slice a.ca s.copies.length a.cc, .slice a.ha s.held.length a.hc, .slice a.ba s.bin.length a.bc] 28
 obtain ⟨W1, hW1, hD, hz1, hB1⟩ := box W0 #[.string f.dig, .int .i64 f.size, .int .i64 f.kind, .string f.frm] 30
 obtain ⟨W2, hW2, hQ, hz2, hB2⟩ := box W1 #[.int .i64 0, .int .i64 0, .slice none 0 0, .slice none 0 0, .slice none 0 0, .slice none 0 0, .slice none 0 0] 28
 rw [hz0] at hD hz1
 rw [hz1] at hQ hz2
 have hP := (hP.keep hB1).keep hB2
 have hD := hD.keep hB2
 have hBB := below_up hB0 (below_up hB1 hB2)
 have HW0 := Lib.hid hW0; have HW1 := Lib.hid hW1; have HW2 := Lib.hid hW2; have HP := Lib.hid hP; have HD := Lib.hid hD; have HQ := Lib.hid hQ; have HBB := Lib.hid hBB; have HZ2 : Hid (W2.heap.size = w.heap.size + 3) := Lib.hid (by omega)
 have HI2 := Lib.hid (hI.keep hBB)
 obtain ⟨q0, q1, q2, q3, q4, q5, q6⟩ := hP.seven
 obtain ⟨d0, d1, d2, d3⟩ := hD.four
 have HSZ := Lib.hid hI.sz
 have HFF := Lib.hid (fun V => fileFault_is f hfz V)
 clear hI hW0 hW1 hW2 hP hD hQ hz0 hz1 hz2 hB0 hB1 hB2 hBB
 have hv : Below W2.heap.size W2 W2 := Below.refl _ _
 have hq1 : (St.faultE f != 0) = true := by simpa using hq0
 generalize St.faultE f = q at *
 go_enter Tryz.func16, Tryz.ntmps16
 go_upto_region 1 with fail
 rw [HW0.out, HW1.out, HW2.out]
 go_upto_region 3 with (go_at_call 74; (with_reducible refine (HFF.out _).mono ?_); rintro e w6 ⟨rfl, hq⟩; have hv := below_up hv hq; obtain ⟨q0, q1, q2, q3, q4, q5, q6⟩ := (HP.out.keep hv).seven; obtain ⟨d0, d1, d2, d3⟩ := (HD.out.keep hv).four)
 have hQ3 := HQ.out.keep hv
 have hB03 := below_up HBB.out hv
 have hs2 := HZ2.out
 clear q0 q1 q2 q3 q4 q5 q6 d0 d1 d2 d3 hv
 go_wp2_with (refine wpList_store_row rfl 28 _ _ rfl (w.heap.size + 2) #[.int .i64 0, .int .i64 0, .slice none 0 0, .slice none 0 0, .slice none 0 0, .slice none 0 0, .slice none 0 0] rfl rfl 28 _ hQ3 infoSto rfl (by simp [Value.oneCell']) ?_)
 obtain ⟨g0, g1, g2, g3, g4, g5, g6⟩ := (Blk.setRowAt (hQ3) #[.int .i64 0, .int .i64 0, .slice none 0 0, .slice none 0 0, .slice none 0 0, .slice none 0 0, .slice none 0 0]).seven
 refine bodyPost_ret (v := .tuple #[.agg #[.int .i64 0, .int .i64 0, .slice none 0 0, .slice none 0 0, .slice none 0 0, .slice none 0 0, .slice none 0 0], .int .i64 (q)]) (by simp [results, Tryz.results16, go_sem, g0, g1, g2, g3, g4, g5, g6]) rfl ⟨rfl, below_setRow hB03 (by omega) _⟩
theorem importedR_orig (s : Sto) (a : StA) (f : Fil) (hfz : f.dig.size ≤ 9223372036854775807) (tier : ByteArray) (now : Int) (w : World) (hI : StIn w s a) (hq0 : St.faultE f = 0) (h1 : f.kind ≠ 1) (h2 : St.kindOf s.files f.frm ≠ 1) : Calls Tryz.prog 16 #[.agg #[.int .i64 s.least, .int .i64 s.wait, .slice a.ta s.tiers.length a.tc, .slice a.fa s.files.length a.fc, .slice a.ca s.copies.length a.cc, .slice a.ha s.held.length a.hc, .slice a.ba s.bin.length a.bc], .agg #[.string f.dig, .int .i64 f.size, .int .i64 f.kind, .string f.frm], .string tier, .int .i64 now] w (StoErr w 7) := by
 obtain ⟨W0, hW0, hP, hz0, hB0⟩ := box w #[.int .i64 s.least, .int .i64 s.wait, .slice a.ta s.tiers.length a.tc, .slice a.fa s.files.length a.fc, .slice a.ca s.copies.length a.cc, .slice a.ha s.held.length a.hc, .slice a.ba s.bin.length a.bc] 28
 obtain ⟨W1, hW1, hD, hz1, hB1⟩ := box W0 #[.string f.dig, .int .i64 f.size, .int .i64 f.kind, .string f.frm] 30
 obtain ⟨W2, hW2, hQ, hz2, hB2⟩ := box W1 #[.int .i64 0, .int .i64 0, .slice none 0 0, .slice none 0 0, .slice none 0 0, .slice none 0 0, .slice none 0 0] 28
 rw [hz0] at hD hz1
 rw [hz1] at hQ hz2
 have hP := (hP.keep hB1).keep hB2
 have hD := hD.keep hB2
 have hBB := below_up hB0 (below_up hB1 hB2)
 have HW0 := Lib.hid hW0; have HW1 := Lib.hid hW1; have HW2 := Lib.hid hW2; have HP := Lib.hid hP; have HD := Lib.hid hD; have HQ := Lib.hid hQ; have HBB := Lib.hid hBB; have HZ2 : Hid (W2.heap.size = w.heap.size + 3) := Lib.hid (by omega)
 have HI2 := Lib.hid (hI.keep hBB)
 obtain ⟨q0, q1, q2, q3, q4, q5, q6⟩ := hP.seven
 obtain ⟨d0, d1, d2, d3⟩ := hD.four
 have HSZ := Lib.hid hI.sz
 have HFF := Lib.hid (fun V => fileFault_is f hfz V)
 clear hI hW0 hW1 hW2 hP hD hQ hz0 hz1 hz2 hB0 hB1 hB2 hBB
 have hv : Below W2.heap.size W2 W2 := Below.refl _ _
 rw [hq0] at HFF
 obtain ⟨y, hy⟩ : ∃ y, y = St.filD s.files f.dig := ⟨_, rfl⟩
 obtain ⟨yb, hyb⟩ : ∃ yb, yb = (St.fileOf s.files f.dig).isSome := ⟨_, rfl⟩
 have HFO := Lib.hid (fun V (hv : Below W2.heap.size W2 V) => filOf_is s a f.dig V (HI2.out.keep hv) y hy yb hyb)
 have HOR := Lib.hid (fun V (hv : Below W2.heap.size W2 V) => original_is s a f.frm V (HI2.out.keep hv))
 rw [decide_eq_false h2] at HOR
 have h1a : (f.kind != 1) = true := by simpa using h1
 clear hq0 h2 hy hyb
 go_enter Tryz.func16, Tryz.ntmps16
 go_upto_region 1 with fail
 rw [HW0.out, HW1.out, HW2.out]
 go_upto_region 5 with (first
  | (go_at_call 74; (with_reducible refine (HFF.out _).mono ?_); rintro e w6 ⟨rfl, hq⟩; have hv := below_up hv hq; obtain ⟨q0, q1, q2, q3, q4, q5, q6⟩ := (HP.out.keep hv).seven; obtain ⟨d0, d1, d2, d3⟩ := (HD.out.keep hv).four)
  | (go_at_call 76; (with_reducible refine (HFO.out _ hv).mono ?_); rintro e w7 ⟨rfl, hq⟩; have hv := below_up hv hq; obtain ⟨q0, q1, q2, q3, q4, q5, q6⟩ := (HP.out.keep hv).seven; obtain ⟨d0, d1, d2, d3⟩ := (HD.out.keep hv).four)
  | (refine wpList_store_row rfl 30 _ _ rfl w7.heap.size #[.string y.dig, .int .i64 y.size, .int .i64 y.kind, .string y.frm] rfl rfl 30 #[.string ⟨#[]⟩, .int .i64 0, .int .i64 0, .string ⟨#[]⟩] (heap_alloc_new w7 _) infoFilS rfl (by simp [Value.oneCell']) ?_))
 obtain ⟨X, hX, hXB, hXz, hXW⟩ := fillNew w7 #[.string ⟨#[]⟩, .int .i64 0, .int .i64 0, .string ⟨#[]⟩] #[.string y.dig, .int .i64 y.size, .int .i64 y.kind, .string y.frm] 30
 rw [hX]
 have hv := below_up hv hXW
 clear q0 q1 q2 q3 q4 q5 q6 d0 d1 d2 d3 hX hXz hXW
 obtain ⟨q0, q1, q2, q3, q4, q5, q6⟩ := (HP.out.keep hv).seven
 obtain ⟨d0, d1, d2, d3⟩ := (HD.out.keep hv).four
 clear hXB
 go_upto_region 6 with (go_at_call 75; (with_reducible refine (HOR.out _ hv).mono ?_); rintro e w8 ⟨rfl, hq⟩; have hv := below_up hv hq; obtain ⟨q0, q1, q2, q3, q4, q5, q6⟩ := (HP.out.keep hv).seven; obtain ⟨d0, d1, d2, d3⟩ := (HD.out.keep hv).four)
 have hQ3 := HQ.out.keep hv
 have hB03 := below_up HBB.out hv
 have hs2 := HZ2.out
 clear q0 q1 q2 q3 q4 q5 q6 d0 d1 d2 d3 hv
 go_wp2_with (refine wpList_store_row rfl 28 _ _ rfl (w.heap.size + 2) #[.int .i64 0, .int .i64 0, .slice none 0 0, .slice none 0 0, .slice none 0 0, .slice none 0 0, .slice none 0 0] rfl rfl 28 _ hQ3 infoSto rfl (by simp [Value.oneCell']) ?_)
 obtain ⟨g0, g1, g2, g3, g4, g5, g6⟩ := (Blk.setRowAt (hQ3) #[.int .i64 0, .int .i64 0, .slice none 0 0, .slice none 0 0, .slice none 0 0, .slice none 0 0, .slice none 0 0]).seven
 refine bodyPost_ret (v := .tuple #[.agg #[.int .i64 0, .int .i64 0, .slice none 0 0, .slice none 0 0, .slice none 0 0, .slice none 0 0, .slice none 0 0], .int .i64 (7)]) (by simp [results, Tryz.results16, go_sem, g0, g1, g2, g3, g4, g5, g6]) rfl ⟨rfl, below_setRow hB03 (by omega) _⟩
theorem importedR_form (s : Sto) (a : StA) (f : Fil) (hfz : f.dig.size ≤ 9223372036854775807) (tier : ByteArray) (now : Int) (w : World) (hI : StIn w s a) (hq0 : St.faultE f = 0) (hko : f.kind = 1 ∨ St.kindOf s.files f.frm = 1) (hyo : (St.fileOf s.files f.dig).isSome = true ∧ St.filD s.files f.dig ≠ f) : Calls Tryz.prog 16 #[.agg #[.int .i64 s.least, .int .i64 s.wait, .slice a.ta s.tiers.length a.tc, .slice a.fa s.files.length a.fc, .slice a.ca s.copies.length a.cc, .slice a.ha s.held.length a.hc, .slice a.ba s.bin.length a.bc], .agg #[.string f.dig, .int .i64 f.size, .int .i64 f.kind, .string f.frm], .string tier, .int .i64 now] w (StoErr w 1) := by
 obtain ⟨W0, hW0, hP, hz0, hB0⟩ := box w #[.int .i64 s.least, .int .i64 s.wait, .slice a.ta s.tiers.length a.tc, .slice a.fa s.files.length a.fc, .slice a.ca s.copies.length a.cc, .slice a.ha s.held.length a.hc, .slice a.ba s.bin.length a.bc] 28
 obtain ⟨W1, hW1, hD, hz1, hB1⟩ := box W0 #[.string f.dig, .int .i64 f.size, .int .i64 f.kind, .string f.frm] 30
 obtain ⟨W2, hW2, hQ, hz2, hB2⟩ := box W1 #[.int .i64 0, .int .i64 0, .slice none 0 0, .slice none 0 0, .slice none 0 0, .slice none 0 0, .slice none 0 0] 28
 rw [hz0] at hD hz1
 rw [hz1] at hQ hz2
 have hP := (hP.keep hB1).keep hB2
 have hD := hD.keep hB2
 have hBB := below_up hB0 (below_up hB1 hB2)
 have HW0 := Lib.hid hW0; have HW1 := Lib.hid hW1; have HW2 := Lib.hid hW2; have HP := Lib.hid hP; have HD := Lib.hid hD; have HQ := Lib.hid hQ; have HBB := Lib.hid hBB; have HZ2 : Hid (W2.heap.size = w.heap.size + 3) := Lib.hid (by omega)
 have HI2 := Lib.hid (hI.keep hBB)
 obtain ⟨q0, q1, q2, q3, q4, q5, q6⟩ := hP.seven
 obtain ⟨d0, d1, d2, d3⟩ := hD.four
 have HSZ := Lib.hid hI.sz
 have HFF := Lib.hid (fun V => fileFault_is f hfz V)
 clear hI hW0 hW1 hW2 hP hD hQ hz0 hz1 hz2 hB0 hB1 hB2 hBB
 have hv : Below W2.heap.size W2 W2 := Below.refl _ _
 rw [hq0] at HFF
 obtain ⟨y, hy⟩ : ∃ y, y = St.filD s.files f.dig := ⟨_, rfl⟩
 obtain ⟨yb, hyb⟩ : ∃ yb, yb = (St.fileOf s.files f.dig).isSome := ⟨_, rfl⟩
 have HFO := Lib.hid (fun V (hv : Below W2.heap.size W2 V) => filOf_is s a f.dig V (HI2.out.keep hv) y hy yb hyb)
 have HOR := Lib.hid (fun V (hv : Below W2.heap.size W2 V) => original_is s a f.frm V (HI2.out.keep hv))
 have HTA := Lib.hid (fun V (hv : Below W2.heap.size W2 V) => tierOf_is s a tier V (HI2.out.keep hv))
 have HMO := Lib.hid (fun V => momentS_is now V)
 obtain ⟨yq, hyq⟩ := St.bool_of (y = f)
 have hne := fun W => neqF y f W yq hyq
 have hgd := guardFil
 have hkr : (((f.kind != 1)) && !(decide (St.kindOf s.files f.frm = 1))) = false := by
  rcases hko with h | h
  ·rw [h]; rfl
  ·rw [decide_eq_true h]; simp
 rw [← hy] at hyo
 rw [← hyb] at hyo
 generalize decide (St.kindOf s.files f.frm = 1) = br at *
 obtain ⟨bk, hbk⟩ : ∃ bk, (f.kind != 1) = bk := ⟨_, rfl⟩
 rw [hbk] at hkr
 clear hq0 hko hy hyb
 obtain ⟨rfl, hyo⟩ := hyo
 have hyq2 : yq = false := by cases yq with | false => rfl | true => exact absurd (hyq.1 rfl) hyo
 subst hyq2
 have hbb : bk = false ∨ (bk = true ∧ br = true) := by cases bk <;> cases br <;> first | exact .inl rfl | exact .inr ⟨rfl, rfl⟩ | cases hkr
 clear hkr
 rcases hbb with rfl | ⟨rfl, rfl⟩
 all_goals
  go_enter Tryz.func16, Tryz.ntmps16
  go_upto_region 1 with fail
  rw [HW0.out, HW1.out, HW2.out]
  go_upto_region 5 with (first
   | (go_at_call 74; (with_reducible refine (HFF.out _).mono ?_); rintro e w6 ⟨rfl, hq⟩; have hv := below_up hv hq; obtain ⟨q0, q1, q2, q3, q4, q5, q6⟩ := (HP.out.keep hv).seven; obtain ⟨d0, d1, d2, d3⟩ := (HD.out.keep hv).four)
   | (go_at_call 76; (with_reducible refine (HFO.out _ hv).mono ?_); rintro e w7 ⟨rfl, hq⟩; have hv := below_up hv hq; obtain ⟨q0, q1, q2, q3, q4, q5, q6⟩ := (HP.out.keep hv).seven; obtain ⟨d0, d1, d2, d3⟩ := (HD.out.keep hv).four)
   | (refine wpList_store_row rfl 30 _ _ rfl w7.heap.size #[.string y.dig, .int .i64 y.size, .int .i64 y.kind, .string y.frm] rfl rfl 30 #[.string ⟨#[]⟩, .int .i64 0, .int .i64 0, .string ⟨#[]⟩] (heap_alloc_new w7 _) infoFilS rfl (by simp [Value.oneCell']) ?_))
  obtain ⟨X, hX, hXB, hXz, hXW⟩ := fillNew w7 #[.string ⟨#[]⟩, .int .i64 0, .int .i64 0, .string ⟨#[]⟩] #[.string y.dig, .int .i64 y.size, .int .i64 y.kind, .string y.frm] 30
  rw [hX]
  have hv := below_up hv hXW
  clear q0 q1 q2 q3 q4 q5 q6 d0 d1 d2 d3 hX hXz hXW
  obtain ⟨q0, q1, q2, q3, q4, q5, q6⟩ := (HP.out.keep hv).seven
  obtain ⟨d0, d1, d2, d3⟩ := (HD.out.keep hv).four
  have HXB := Lib.hid hXB
  obtain ⟨x0, x1, x2, x3⟩ := hXB.four
  clear hXB
  go_upto_region 8 with (first | (go_at_call 75; (with_reducible refine (HOR.out _ hv).mono ?_); rintro e w8 ⟨rfl, hq⟩; have hv := below_up hv hq; obtain ⟨q0, q1, q2, q3, q4, q5, q6⟩ := (HP.out.keep hv).seven; obtain ⟨d0, d1, d2, d3⟩ := (HD.out.keep hv).four; obtain ⟨x0, x1, x2, x3⟩ := (HXB.out.keep hq).four) | (go_at_call 72; (with_reducible refine (HTA.out _ hv).mono ?_); rintro e w9 ⟨rfl, hq⟩; have hv := below_up hv hq; obtain ⟨q0, q1, q2, q3, q4, q5, q6⟩ := (HP.out.keep hv).seven; obtain ⟨d0, d1, d2, d3⟩ := (HD.out.keep hv).four) | (go_at_call 78; (with_reducible refine (HMO.out _).mono ?_); rintro e w10 ⟨rfl, rfl⟩))
  have hQ3 := HQ.out.keep hv
  have hB03 := below_up HBB.out hv
  have hs2 := HZ2.out
  clear q0 q1 q2 q3 q4 q5 q6 d0 d1 d2 d3 hv
  go_wp2_with (refine wpList_store_row rfl 28 _ _ rfl (w.heap.size + 2) #[.int .i64 0, .int .i64 0, .slice none 0 0, .slice none 0 0, .slice none 0 0, .slice none 0 0, .slice none 0 0] rfl rfl 28 _ hQ3 infoSto rfl (by simp [Value.oneCell']) ?_)
  obtain ⟨g0, g1, g2, g3, g4, g5, g6⟩ := (Blk.setRowAt (hQ3) #[.int .i64 0, .int .i64 0, .slice none 0 0, .slice none 0 0, .slice none 0 0, .slice none 0 0, .slice none 0 0]).seven
  refine bodyPost_ret (v := .tuple #[.agg #[.int .i64 0, .int .i64 0, .slice none 0 0, .slice none 0 0, .slice none 0 0, .slice none 0 0, .slice none 0 0], .int .i64 (1)]) (by simp [results, Tryz.results16, go_sem, g0, g1, g2, g3, g4, g5, g6]) rfl ⟨rfl, below_setRow hB03 (by omega) _⟩
theorem importedR_tier (s : Sto) (a : StA) (f : Fil) (hfz : f.dig.size ≤ 9223372036854775807) (tier : ByteArray) (now : Int) (w : World) (hI : StIn w s a) (hq0 : St.faultE f = 0) (hko : f.kind = 1 ∨ St.kindOf s.files f.frm = 1) (hyo : (St.fileOf s.files f.dig).isSome = false ∨ St.filD s.files f.dig = f) (ht : St.tierAt s.tiers tier < 0) : Calls Tryz.prog 16 #[.agg #[.int .i64 s.least, .int .i64 s.wait, .slice a.ta s.tiers.length a.tc, .slice a.fa s.files.length a.fc, .slice a.ca s.copies.length a.cc, .slice a.ha s.held.length a.hc, .slice a.ba s.bin.length a.bc], .agg #[.string f.dig, .int .i64 f.size, .int .i64 f.kind, .string f.frm], .string tier, .int .i64 now] w (StoErr w 7) := by
 obtain ⟨W0, hW0, hP, hz0, hB0⟩ := box w #[.int .i64 s.least, .int .i64 s.wait, .slice a.ta s.tiers.length a.tc, .slice a.fa s.files.length a.fc, .slice a.ca s.copies.length a.cc, .slice a.ha s.held.length a.hc, .slice a.ba s.bin.length a.bc] 28
 obtain ⟨W1, hW1, hD, hz1, hB1⟩ := box W0 #[.string f.dig, .int .i64 f.size, .int .i64 f.kind, .string f.frm] 30
 obtain ⟨W2, hW2, hQ, hz2, hB2⟩ := box W1 #[.int .i64 0, .int .i64 0, .slice none 0 0, .slice none 0 0, .slice none 0 0, .slice none 0 0, .slice none 0 0] 28
 rw [hz0] at hD hz1
 rw [hz1] at hQ hz2
 have hP := (hP.keep hB1).keep hB2
 have hD := hD.keep hB2
 have hBB := below_up hB0 (below_up hB1 hB2)
 have HW0 := Lib.hid hW0; have HW1 := Lib.hid hW1; have HW2 := Lib.hid hW2; have HP := Lib.hid hP; have HD := Lib.hid hD; have HQ := Lib.hid hQ; have HBB := Lib.hid hBB; have HZ2 : Hid (W2.heap.size = w.heap.size + 3) := Lib.hid (by omega)
 have HI2 := Lib.hid (hI.keep hBB)
 obtain ⟨q0, q1, q2, q3, q4, q5, q6⟩ := hP.seven
 obtain ⟨d0, d1, d2, d3⟩ := hD.four
 have HSZ := Lib.hid hI.sz
 have HFF := Lib.hid (fun V => fileFault_is f hfz V)
 clear hI hW0 hW1 hW2 hP hD hQ hz0 hz1 hz2 hB0 hB1 hB2 hBB
 have hv : Below W2.heap.size W2 W2 := Below.refl _ _
 rw [hq0] at HFF
 obtain ⟨y, hy⟩ : ∃ y, y = St.filD s.files f.dig := ⟨_, rfl⟩
 obtain ⟨yb, hyb⟩ : ∃ yb, yb = (St.fileOf s.files f.dig).isSome := ⟨_, rfl⟩
 have HFO := Lib.hid (fun V (hv : Below W2.heap.size W2 V) => filOf_is s a f.dig V (HI2.out.keep hv) y hy yb hyb)
 have HOR := Lib.hid (fun V (hv : Below W2.heap.size W2 V) => original_is s a f.frm V (HI2.out.keep hv))
 have HTA := Lib.hid (fun V (hv : Below W2.heap.size W2 V) => tierOf_is s a tier V (HI2.out.keep hv))
 have HMO := Lib.hid (fun V => momentS_is now V)
 obtain ⟨yq, hyq⟩ := St.bool_of (y = f)
 have hne := fun W => neqF y f W yq hyq
 have hgd := guardFil
 have hkr : (((f.kind != 1)) && !(decide (St.kindOf s.files f.frm = 1))) = false := by
  rcases hko with h | h
  ·rw [h]; rfl
  ·rw [decide_eq_true h]; simp
 rw [← hy] at hyo
 rw [← hyb] at hyo
 generalize decide (St.kindOf s.files f.frm = 1) = br at *
 obtain ⟨bk, hbk⟩ : ∃ bk, (f.kind != 1) = bk := ⟨_, rfl⟩
 rw [hbk] at hkr
 clear hq0 hko hy hyb
 generalize St.tierAt s.tiers tier = tn at *
 have ht1 : decide (tn < 0) = true := decide_eq_true ht
 have hyy : yb = false ∨ (yb = true ∧ yq = true) := by
  rcases hyo with h | h
  ·exact .inl h
  ·cases yb with
   | false => exact .inl rfl
   | true => exact .inr ⟨rfl, hyq.2 h⟩
 clear hyq hyo
 rcases hyy with rfl | ⟨rfl, rfl⟩
 all_goals
  have hbb : bk = false ∨ (bk = true ∧ br = true) := by cases bk <;> cases br <;> first | exact .inl rfl | exact .inr ⟨rfl, rfl⟩ | cases hkr
  clear hkr
  rcases hbb with rfl | ⟨rfl, rfl⟩
  all_goals
   go_enter Tryz.func16, Tryz.ntmps16
   go_upto_region 1 with fail
   rw [HW0.out, HW1.out, HW2.out]
   go_upto_region 5 with (first
    | (go_at_call 74; (with_reducible refine (HFF.out _).mono ?_); rintro e w6 ⟨rfl, hq⟩; have hv := below_up hv hq; obtain ⟨q0, q1, q2, q3, q4, q5, q6⟩ := (HP.out.keep hv).seven; obtain ⟨d0, d1, d2, d3⟩ := (HD.out.keep hv).four)
    | (go_at_call 76; (with_reducible refine (HFO.out _ hv).mono ?_); rintro e w7 ⟨rfl, hq⟩; have hv := below_up hv hq; obtain ⟨q0, q1, q2, q3, q4, q5, q6⟩ := (HP.out.keep hv).seven; obtain ⟨d0, d1, d2, d3⟩ := (HD.out.keep hv).four)
    | (refine wpList_store_row rfl 30 _ _ rfl w7.heap.size #[.string y.dig, .int .i64 y.size, .int .i64 y.kind, .string y.frm] rfl rfl 30 #[.string ⟨#[]⟩, .int .i64 0, .int .i64 0, .string ⟨#[]⟩] (heap_alloc_new w7 _) infoFilS rfl (by simp [Value.oneCell']) ?_))
   obtain ⟨X, hX, hXB, hXz, hXW⟩ := fillNew w7 #[.string ⟨#[]⟩, .int .i64 0, .int .i64 0, .string ⟨#[]⟩] #[.string y.dig, .int .i64 y.size, .int .i64 y.kind, .string y.frm] 30
   rw [hX]
   have hv := below_up hv hXW
   clear q0 q1 q2 q3 q4 q5 q6 d0 d1 d2 d3 hX hXz hXW
   obtain ⟨q0, q1, q2, q3, q4, q5, q6⟩ := (HP.out.keep hv).seven
   obtain ⟨d0, d1, d2, d3⟩ := (HD.out.keep hv).four
   have HXB := Lib.hid hXB
   obtain ⟨x0, x1, x2, x3⟩ := hXB.four
   clear hXB
   go_upto_region 10 with (first | (go_at_call 75; (with_reducible refine (HOR.out _ hv).mono ?_); rintro e w8 ⟨rfl, hq⟩; have hv := below_up hv hq; obtain ⟨q0, q1, q2, q3, q4, q5, q6⟩ := (HP.out.keep hv).seven; obtain ⟨d0, d1, d2, d3⟩ := (HD.out.keep hv).four; obtain ⟨x0, x1, x2, x3⟩ := (HXB.out.keep hq).four) | (go_at_call 72; (with_reducible refine (HTA.out _ hv).mono ?_); rintro e w9 ⟨rfl, hq⟩; have hv := below_up hv hq; obtain ⟨q0, q1, q2, q3, q4, q5, q6⟩ := (HP.out.keep hv).seven; obtain ⟨d0, d1, d2, d3⟩ := (HD.out.keep hv).four) | (go_at_call 78; (with_reducible refine (HMO.out _).mono ?_); rintro e w10 ⟨rfl, rfl⟩))
   have hQ3 := HQ.out.keep hv
   have hB03 := below_up HBB.out hv
   have hs2 := HZ2.out
   clear q0 q1 q2 q3 q4 q5 q6 d0 d1 d2 d3 hv
   go_wp2_with (refine wpList_store_row rfl 28 _ _ rfl (w.heap.size + 2) #[.int .i64 0, .int .i64 0, .slice none 0 0, .slice none 0 0, .slice none 0 0, .slice none 0 0, .slice none 0 0] rfl rfl 28 _ hQ3 infoSto rfl (by simp [Value.oneCell']) ?_)
   obtain ⟨g0, g1, g2, g3, g4, g5, g6⟩ := (Blk.setRowAt (hQ3) #[.int .i64 0, .int .i64 0, .slice none 0 0, .slice none 0 0, .slice none 0 0, .slice none 0 0, .slice none 0 0]).seven
   refine bodyPost_ret (v := .tuple #[.agg #[.int .i64 0, .int .i64 0, .slice none 0 0, .slice none 0 0, .slice none 0 0, .slice none 0 0, .slice none 0 0], .int .i64 (7)]) (by simp [results, Tryz.results16, go_sem, g0, g1, g2, g3, g4, g5, g6]) rfl ⟨rfl, below_setRow hB03 (by omega) _⟩
theorem importedR_range (s : Sto) (a : StA) (f : Fil) (hfz : f.dig.size ≤ 9223372036854775807) (tier : ByteArray) (now : Int) (w : World) (hI : StIn w s a) (hq0 : St.faultE f = 0) (hko : f.kind = 1 ∨ St.kindOf s.files f.frm = 1) (hyo : (St.fileOf s.files f.dig).isSome = false ∨ St.filD s.files f.dig = f) (ht : 0 ≤ St.tierAt s.tiers tier) (hm : St.isMom now = false) : Calls Tryz.prog 16 #[.agg #[.int .i64 s.least, .int .i64 s.wait, .slice a.ta s.tiers.length a.tc, .slice a.fa s.files.length a.fc, .slice a.ca s.copies.length a.cc, .slice a.ha s.held.length a.hc, .slice a.ba s.bin.length a.bc], .agg #[.string f.dig, .int .i64 f.size, .int .i64 f.kind, .string f.frm], .string tier, .int .i64 now] w (StoErr w 2) := by
 obtain ⟨W0, hW0, hP, hz0, hB0⟩ := box w #[.int .i64 s.least, .int .i64 s.wait, .slice a.ta s.tiers.length a.tc, .slice a.fa s.files.length a.fc, .slice a.ca s.copies.length a.cc, .slice a.ha s.held.length a.hc, .slice a.ba s.bin.length a.bc] 28
 obtain ⟨W1, hW1, hD, hz1, hB1⟩ := box W0 #[.string f.dig, .int .i64 f.size, .int .i64 f.kind, .string f.frm] 30
 obtain ⟨W2, hW2, hQ, hz2, hB2⟩ := box W1 #[.int .i64 0, .int .i64 0, .slice none 0 0, .slice none 0 0, .slice none 0 0, .slice none 0 0, .slice none 0 0] 28
 rw [hz0] at hD hz1
 rw [hz1] at hQ hz2
 have hP := (hP.keep hB1).keep hB2
 have hD := hD.keep hB2
 have hBB := below_up hB0 (below_up hB1 hB2)
 have HW0 := Lib.hid hW0; have HW1 := Lib.hid hW1; have HW2 := Lib.hid hW2; have HP := Lib.hid hP; have HD := Lib.hid hD; have HQ := Lib.hid hQ; have HBB := Lib.hid hBB; have HZ2 : Hid (W2.heap.size = w.heap.size + 3) := Lib.hid (by omega)
 have HI2 := Lib.hid (hI.keep hBB)
 obtain ⟨q0, q1, q2, q3, q4, q5, q6⟩ := hP.seven
 obtain ⟨d0, d1, d2, d3⟩ := hD.four
 have HSZ := Lib.hid hI.sz
 have HFF := Lib.hid (fun V => fileFault_is f hfz V)
 clear hI hW0 hW1 hW2 hP hD hQ hz0 hz1 hz2 hB0 hB1 hB2 hBB
 have hv : Below W2.heap.size W2 W2 := Below.refl _ _
 rw [hq0] at HFF
 obtain ⟨y, hy⟩ : ∃ y, y = St.filD s.files f.dig := ⟨_, rfl⟩
 obtain ⟨yb, hyb⟩ : ∃ yb, yb = (St.fileOf s.files f.dig).isSome := ⟨_, rfl⟩
 have HFO := Lib.hid (fun V (hv : Below W2.heap.size W2 V) => filOf_is s a f.dig V (HI2.out.keep hv) y hy yb hyb)
 have HOR := Lib.hid (fun V (hv : Below W2.heap.size W2 V) => original_is s a f.frm V (HI2.out.keep hv))
 have HTA := Lib.hid (fun V (hv : Below W2.heap.size W2 V) => tierOf_is s a tier V (HI2.out.keep hv))
 have HMO := Lib.hid (fun V => momentS_is now V)
 obtain ⟨yq, hyq⟩ := St.bool_of (y = f)
 have hne := fun W => neqF y f W yq hyq
 have hgd := guardFil
 have hkr : (((f.kind != 1)) && !(decide (St.kindOf s.files f.frm = 1))) = false := by
  rcases hko with h | h
  ·rw [h]; rfl
  ·rw [decide_eq_true h]; simp
 rw [← hy] at hyo
 rw [← hyb] at hyo
 generalize decide (St.kindOf s.files f.frm = 1) = br at *
 obtain ⟨bk, hbk⟩ : ∃ bk, (f.kind != 1) = bk := ⟨_, rfl⟩
 rw [hbk] at hkr
 clear hq0 hko hy hyb
 rw [hm] at HMO
 generalize St.tierAt s.tiers tier = tn at *
 have ht0 : ¬ (tn < 0) := by omega
 have ht1 : decide (tn < 0) = false := decide_eq_false ht0
 have hyy : yb = false ∨ (yb = true ∧ yq = true) := by
  rcases hyo with h | h
  ·exact .inl h
  ·cases yb with
   | false => exact .inl rfl
   | true => exact .inr ⟨rfl, hyq.2 h⟩
 clear hyq hyo
 rcases hyy with rfl | ⟨rfl, rfl⟩
 all_goals
  have hbb : bk = false ∨ (bk = true ∧ br = true) := by cases bk <;> cases br <;> first | exact .inl rfl | exact .inr ⟨rfl, rfl⟩ | cases hkr
  clear hkr
  rcases hbb with rfl | ⟨rfl, rfl⟩
  all_goals
   go_enter Tryz.func16, Tryz.ntmps16
   go_upto_region 1 with fail
   rw [HW0.out, HW1.out, HW2.out]
   go_upto_region 5 with (first
    | (go_at_call 74; (with_reducible refine (HFF.out _).mono ?_); rintro e w6 ⟨rfl, hq⟩; have hv := below_up hv hq; obtain ⟨q0, q1, q2, q3, q4, q5, q6⟩ := (HP.out.keep hv).seven; obtain ⟨d0, d1, d2, d3⟩ := (HD.out.keep hv).four)
    | (go_at_call 76; (with_reducible refine (HFO.out _ hv).mono ?_); rintro e w7 ⟨rfl, hq⟩; have hv := below_up hv hq; obtain ⟨q0, q1, q2, q3, q4, q5, q6⟩ := (HP.out.keep hv).seven; obtain ⟨d0, d1, d2, d3⟩ := (HD.out.keep hv).four)
    | (refine wpList_store_row rfl 30 _ _ rfl w7.heap.size #[.string y.dig, .int .i64 y.size, .int .i64 y.kind, .string y.frm] rfl rfl 30 #[.string ⟨#[]⟩, .int .i64 0, .int .i64 0, .string ⟨#[]⟩] (heap_alloc_new w7 _) infoFilS rfl (by simp [Value.oneCell']) ?_))
   obtain ⟨X, hX, hXB, hXz, hXW⟩ := fillNew w7 #[.string ⟨#[]⟩, .int .i64 0, .int .i64 0, .string ⟨#[]⟩] #[.string y.dig, .int .i64 y.size, .int .i64 y.kind, .string y.frm] 30
   rw [hX]
   have hv := below_up hv hXW
   clear q0 q1 q2 q3 q4 q5 q6 d0 d1 d2 d3 hX hXz hXW
   obtain ⟨q0, q1, q2, q3, q4, q5, q6⟩ := (HP.out.keep hv).seven
   obtain ⟨d0, d1, d2, d3⟩ := (HD.out.keep hv).four
   have HXB := Lib.hid hXB
   obtain ⟨x0, x1, x2, x3⟩ := hXB.four
   clear hXB
   go_upto_region 12 with (first | (go_at_call 75; (with_reducible refine (HOR.out _ hv).mono ?_); rintro e w8 ⟨rfl, hq⟩; have hv := below_up hv hq; obtain ⟨q0, q1, q2, q3, q4, q5, q6⟩ := (HP.out.keep hv).seven; obtain ⟨d0, d1, d2, d3⟩ := (HD.out.keep hv).four; obtain ⟨x0, x1, x2, x3⟩ := (HXB.out.keep hq).four) | (go_at_call 72; (with_reducible refine (HTA.out _ hv).mono ?_); rintro e w9 ⟨rfl, hq⟩; have hv := below_up hv hq; obtain ⟨q0, q1, q2, q3, q4, q5, q6⟩ := (HP.out.keep hv).seven; obtain ⟨d0, d1, d2, d3⟩ := (HD.out.keep hv).four) | (go_at_call 78; (with_reducible refine (HMO.out _).mono ?_); rintro e w10 ⟨rfl, rfl⟩))
   have hQ3 := HQ.out.keep hv
   have hB03 := below_up HBB.out hv
   have hs2 := HZ2.out
   clear q0 q1 q2 q3 q4 q5 q6 d0 d1 d2 d3 hv
   go_wp2_with (refine wpList_store_row rfl 28 _ _ rfl (w.heap.size + 2) #[.int .i64 0, .int .i64 0, .slice none 0 0, .slice none 0 0, .slice none 0 0, .slice none 0 0, .slice none 0 0] rfl rfl 28 _ hQ3 infoSto rfl (by simp [Value.oneCell']) ?_)
   obtain ⟨g0, g1, g2, g3, g4, g5, g6⟩ := (Blk.setRowAt (hQ3) #[.int .i64 0, .int .i64 0, .slice none 0 0, .slice none 0 0, .slice none 0 0, .slice none 0 0, .slice none 0 0]).seven
   refine bodyPost_ret (v := .tuple #[.agg #[.int .i64 0, .int .i64 0, .slice none 0 0, .slice none 0 0, .slice none 0 0, .slice none 0 0, .slice none 0 0], .int .i64 (2)]) (by simp [results, Tryz.results16, go_sem, g0, g1, g2, g3, g4, g5, g6]) rfl ⟨rfl, below_setRow hB03 (by omega) _⟩
end Go.Proofs.YthdiccdnggloiaaGreatDoor
