/- Parts of the proof, no condition: StSm, StBin, StFet, StRef6, StTlY, StIpU, StMvs, StMvk. -/
import Derived.Test.YthdiccdnggloiaaGreatDoorSf8
import Derived.Test.YthdiccdnggloiaaGreatDoorSf10
import Derived.Test.YthdiccdnggloiaaGreatDoorSf6
import Derived.Test.YthdiccdnggloiaaGreatDoorSf7
import Derived.Test.YthdiccdnggloiaaGreatDoorSf5
import Derived.Test.YthdiccdnggloiaaGreatDoorSf9
import Derived.Test.YthdiccdnggloiaaGreatDoorSf3
set_option maxRecDepth 100000
set_option maxHeartbeats 4000000
set_option linter.unusedSimpArgs false
set_option linter.unusedVariables false
namespace Go.Proofs.YthdiccdnggloiaaGreatDoor
open Go.RowKit Go.Sort Go.Shelf Go.Maps
theorem St.bool_of (p : Prop) : ∃ q : Bool, (q = true ↔ p) := by
 by_cases h : p
 ·exact ⟨true, by simp [h]⟩
 ·exact ⟨false, by simp [h]⟩
theorem St.toList_iff {a b : ByteArray} : a.toList = b.toList ↔ a = b := by
 have h := St.eq_iff (a := a) (b := b)
 rw [← h]
 unfold St.eq
 simp

theorem neqT (z x : Tir) (w : World) (q : Bool) (hq : q = true ↔ z = x) : Sem.run Tryz.prog (binOp .neq 46 (.agg #[.string z.name, .int .i64 z.room, .int .i64 z.cost, .bool z.away]) (.agg #[.string x.name, .int .i64 x.room, .int .i64 x.cost, .bool x.away])) w = .ok (.bool (!q)) w := by
 have u3 := Tryz.underlying3
 have a3 := Tryz.isAgg3
 have z3 := Tryz.sizeOf3
 have u9 := Tryz.underlying9
 have a9 := Tryz.isAgg9
 have z9 := Tryz.sizeOf9
 have u4 := Tryz.underlying4
 have a4 := Tryz.isAgg4
 have z4 := Tryz.sizeOf4
 have hS : Tryz.prog.underlying 46 = some (.struct (Tryz.prog.fieldsOf 46)) := by kernel_rfl
 have hp : Tryz.prog.stoodInHeld 46 = false := by kernel_rfl
 obtain ⟨zn, zr, zc, za⟩ := z
 obtain ⟨xn, xr, xc, xa⟩ := x
 obtain rfl : q = ((zn.toList == xn.toList) && ((zr == xr) && ((zc == xc) && (za == xa)))) := by
  rw [Bool.eq_iff_iff, hq]
  simp only [Bool.and_eq_true, beq_iff_eq, Tir.mk.injEq]
  first
   | rw [St.toList_iff, St.toList_iff]
   | rw [St.toList_iff]
   | skip
 rw [run_neq_struct, show (10000 : Nat) = 9999 + 1 from rfl, run_equalIn_agg w 9999 46 _ _ hS hp]
 simp only [Program.fieldsOf, Tryz.underlying46]
 cases h1 : (zn.toList == xn.toList) <;> cases h2 : (zr == xr) <;> cases h3 : (zc == xc) <;> cases za <;> cases xa
 all_goals
  go_simp
  try simp

theorem neqF (z x : Fil) (w : World) (q : Bool) (hq : q = true ↔ z = x) : Sem.run Tryz.prog (binOp .neq 30 (.agg #[.string z.dig, .int .i64 z.size, .int .i64 z.kind, .string z.frm]) (.agg #[.string x.dig, .int .i64 x.size, .int .i64 x.kind, .string x.frm])) w = .ok (.bool (!q)) w := by
 have u3 := Tryz.underlying3
 have a3 := Tryz.isAgg3
 have z3 := Tryz.sizeOf3
 have u9 := Tryz.underlying9
 have a9 := Tryz.isAgg9
 have z9 := Tryz.sizeOf9
 have u4 := Tryz.underlying4
 have a4 := Tryz.isAgg4
 have z4 := Tryz.sizeOf4
 have hS : Tryz.prog.underlying 30 = some (.struct (Tryz.prog.fieldsOf 30)) := by kernel_rfl
 have hp : Tryz.prog.stoodInHeld 30 = false := by kernel_rfl
 obtain ⟨zn, zr, zc, za⟩ := z
 obtain ⟨xn, xr, xc, xa⟩ := x
 obtain rfl : q = ((zn.toList == xn.toList) && ((zr == xr) && ((zc == xc) && (za.toList == xa.toList)))) := by
  rw [Bool.eq_iff_iff, hq]
  simp only [Bool.and_eq_true, beq_iff_eq, Fil.mk.injEq]
  first
   | rw [St.toList_iff, St.toList_iff]
   | rw [St.toList_iff]
   | skip
 rw [run_neq_struct, show (10000 : Nat) = 9999 + 1 from rfl, run_equalIn_agg w 9999 30 _ _ hS hp]
 simp only [Program.fieldsOf, Tryz.underlying30]
 cases h1 : (zn.toList == xn.toList) <;> cases h2 : (zr == xr) <;> cases h3 : (zc == xc) <;> cases h4 : (za.toList == xa.toList)
 all_goals
  go_simp
  try simp

theorem neqC (z x : Cop) (w : World) (q : Bool) (hq : q = true ↔ z = x) : Sem.run Tryz.prog (binOp .neq 74 (.agg #[.string z.dig, .string z.tier, .bool z.good, .int .i64 z.asked]) (.agg #[.string x.dig, .string x.tier, .bool x.good, .int .i64 x.asked])) w = .ok (.bool (!q)) w := by
 have u3 := Tryz.underlying3
 have a3 := Tryz.isAgg3
 have z3 := Tryz.sizeOf3
 have u9 := Tryz.underlying9
 have a9 := Tryz.isAgg9
 have z9 := Tryz.sizeOf9
 have u4 := Tryz.underlying4
 have a4 := Tryz.isAgg4
 have z4 := Tryz.sizeOf4
 have hS : Tryz.prog.underlying 74 = some (.struct (Tryz.prog.fieldsOf 74)) := by kernel_rfl
 have hp : Tryz.prog.stoodInHeld 74 = false := by kernel_rfl
 obtain ⟨zn, zr, zc, za⟩ := z
 obtain ⟨xn, xr, xc, xa⟩ := x
 obtain rfl : q = ((zn.toList == xn.toList) && ((zr.toList == xr.toList) && ((zc == xc) && (za == xa)))) := by
  rw [Bool.eq_iff_iff, hq]
  simp only [Bool.and_eq_true, beq_iff_eq, Cop.mk.injEq]
  first
   | rw [St.toList_iff, St.toList_iff]
   | rw [St.toList_iff]
   | skip
 rw [run_neq_struct, show (10000 : Nat) = 9999 + 1 from rfl, run_equalIn_agg w 9999 74 _ _ hS hp]
 simp only [Program.fieldsOf, Tryz.underlying74]
 cases h1 : (zn.toList == xn.toList) <;> cases h2 : (zr.toList == xr.toList) <;> cases zc <;> cases xc <;> cases h4 : (za == xa)
 all_goals
  go_simp
  try simp

theorem neqG (z x : Gon) (w : World) (q : Bool) (hq : q = true ↔ z = x) : Sem.run Tryz.prog (binOp .neq 112 (.agg #[.string z.dig, .int .i64 z.day]) (.agg #[.string x.dig, .int .i64 x.day])) w = .ok (.bool (!q)) w := by
 have u3 := Tryz.underlying3
 have a3 := Tryz.isAgg3
 have z3 := Tryz.sizeOf3
 have u9 := Tryz.underlying9
 have a9 := Tryz.isAgg9
 have z9 := Tryz.sizeOf9
 have u4 := Tryz.underlying4
 have a4 := Tryz.isAgg4
 have z4 := Tryz.sizeOf4
 have hS : Tryz.prog.underlying 112 = some (.struct (Tryz.prog.fieldsOf 112)) := by kernel_rfl
 have hp : Tryz.prog.stoodInHeld 112 = false := by kernel_rfl
 obtain ⟨zn, zr⟩ := z
 obtain ⟨xn, xr⟩ := x
 obtain rfl : q = ((zn.toList == xn.toList) && (zr == xr)) := by
  rw [Bool.eq_iff_iff, hq]
  simp only [Bool.and_eq_true, beq_iff_eq, Gon.mk.injEq]
  first
   | rw [St.toList_iff, St.toList_iff]
   | rw [St.toList_iff]
   | skip
 rw [run_neq_struct, show (10000 : Nat) = 9999 + 1 from rfl, run_equalIn_agg w 9999 112 _ _ hS hp]
 simp only [Program.fieldsOf, Tryz.underlying112]
 cases h1 : (zn.toList == xn.toList) <;> cases h2 : (zr == xr)
 all_goals
  go_simp
  try simp
theorem St.take_same {α : Type} {A B : List α} {j : Nat} (h : A.take j = B.take j) {x y : α} (hx : A[j]? = some x) (hy : B[j]? = some y) (he : x = y) : A.take (j + 1) = B.take (j + 1) := by
 rw [List.take_add_one, List.take_add_one, h, hx, hy, he]

theorem eqT_any (A B : List Tir) (a b : Option Addr) (ca cb : Nat) (w : World) (hx : RowE St.eT w a A) (hy : RowE St.eT w b B) (hn : A.length ≤ 9223372036854775807) (hm : B.length ≤ 9223372036854775807) (q : Bool) (hq : q = true ↔ A = B) :
  Calls Tryz.prog 113 #[.slice a A.length ca, .slice b B.length cb] w fun e w' => e = .returned (.bool q) ∧ Below w.heap.size w w' := by
 have HX := Lib.hid hx; have HY := Lib.hid hy; have HQ := Lib.hid hq
 obtain ⟨n, hnn⟩ : ∃ n, A.length = n := ⟨_, rfl⟩
 obtain ⟨m, hmm⟩ : ∃ m, B.length = m := ⟨_, rfl⟩
 have HN := Lib.hid hnn; have HM := Lib.hid hmm
 rw [hnn] at hn ⊢
 rw [hmm] at hm ⊢
 clear hx hy hnn hmm hq
 by_cases hl : n = m
 ·subst hl
  have hl' : ((n : Int) == (n : Int)) = true := by simp
  go_enter Tryz.func113, Tryz.ntmps113
  go_wp2_with fail
  go_loopg [13] n (fun gk i wr => ∃ j : Nat, j ≤ n ∧ gk = n - j ∧ i = .int .i64 j ∧ A.take j = B.take j ∧ Below w.heap.size w wr)
  case atStart => exact ⟨0, by omega, rfl, rfl, rfl, Below.refl _ _⟩
  case round =>
   obtain ⟨j, hj, rfl, rfl, htk, hB⟩ := hrel
   have HTK := Lib.hid htk
   clear htk
   by_cases hlt : j < n
   ·obtain ⟨x, hqx⟩ : ∃ x, A[j]? = some x := ⟨_, List.getElem?_eq_getElem (by rw [HN.out]; exact hlt)⟩
    obtain ⟨y, hqy⟩ : ∃ y, B[j]? = some y := ⟨_, List.getElem?_eq_getElem (by rw [HM.out]; exact hlt)⟩
    obtain ⟨b1, o1, ha1, hb1, hc1⟩ := HX.out.keep hB (by rw [HN.out]; omega)
    obtain ⟨b2, o2, ha2, hb2, hc2⟩ := HY.out.keep hB (by rw [HM.out]; omega)
    have c0 : wr.cell? ⟨b1, o1 + j * 4, none⟩ = some (.string x.name) := hc1 j x hqx 0 (.string x.name) rfl
    have c1 : wr.cell? ⟨b1, o1 + j * 4 + 1, none⟩ = some (.int .i64 x.room) := hc1 j x hqx 1 (.int .i64 x.room) rfl
    have c2 : wr.cell? ⟨b1, o1 + j * 4 + 2, none⟩ = some (.int .i64 x.cost) := hc1 j x hqx 2 (.int .i64 x.cost) rfl
    have c3 : wr.cell? ⟨b1, o1 + j * 4 + 3, none⟩ = some (.bool x.away) := hc1 j x hqx 3 (.bool x.away) rfl
    have d0 : wr.cell? ⟨b2, o2 + j * 4, none⟩ = some (.string y.name) := hc2 j y hqy 0 (.string y.name) rfl
    have d1 : wr.cell? ⟨b2, o2 + j * 4 + 1, none⟩ = some (.int .i64 y.room) := hc2 j y hqy 1 (.int .i64 y.room) rfl
    have d2 : wr.cell? ⟨b2, o2 + j * 4 + 2, none⟩ = some (.int .i64 y.cost) := hc2 j y hqy 2 (.int .i64 y.cost) rfl
    have d3 : wr.cell? ⟨b2, o2 + j * 4 + 3, none⟩ = some (.bool y.away) := hc2 j y hqy 3 (.bool y.away) rfl
    have hj0 : (0 : Int) ≤ (j : Int) := by omega
    have hj1 : (j : Int) < (n : Int) := by omega
    obtain ⟨p, hp⟩ := St.bool_of (x = y)
    have hne := fun V => neqT x y V p hp; have hgd := guardTir
    have HNX := Lib.hid (fun e : x = y => St.take_same HTK.out hqx hqy e)
    have HNO : Hid (x ≠ y → A ≠ B) := Lib.hid (fun hne e => hne (by subst e; rw [hqx] at hqy; exact Option.some.inj hqy))
    have HP := Lib.hid hp
    clear hc1 hc2 hqx hqy hp
    rw [ha1, ha2]
    cases p
    ·have hq0 : q = false := by
      cases hqq : q with
      | false => rfl
      | true => exact absurd (HQ.out.1 hqq) (HNO.out (fun e => absurd (HP.out.2 e) (by decide)))
     subst hq0
     go_wp2_with fail
     go_quiet (fail)
     go_wp2_with fail
     go_ret
     exact ⟨rfl, below_drewN hB _⟩
    ·go_wp2_with fail
     go_quiet (fail)
     go_wp2_with fail
     rw [← ha1, ← ha2]
     go_roundg (n - (j + 1))
     case rel => exact ⟨j + 1, by omega, rfl, by go_num, HNX.out (HP.out.1 (by first | rfl | trivial)), below_drewN hB _⟩
     case measure => omega
   ·obtain rfl : j = n := by omega
    have hjn : ¬ ((j : Int) < (j : Int)) := by omega
    have hq1 : q = true := HQ.out.2 (by
     have h := HTK.out
     rw [List.take_of_length_le (by rw [HN.out]; exact Nat.le_refl _), List.take_of_length_le (by rw [HM.out]; exact Nat.le_refl _)] at h
     exact h)
    subst hq1
    go_wp2_with fail
    go_ret
    exact ⟨rfl, hB⟩
 ·have hl' : ((n : Int) == (m : Int)) = false := by simp; omega
  have hq0 : q = false := by
   cases hqq : q with
   | false => rfl
   | true => exact absurd (by rw [← HN.out, ← HM.out, HQ.out.1 hqq]) hl
  subst hq0
  go_enter Tryz.func113, Tryz.ntmps113
  go_wp2_with fail
  go_ret
  exact ⟨rfl, Below.refl _ _⟩

theorem eqF_any (A B : List Fil) (a b : Option Addr) (ca cb : Nat) (w : World) (hx : RowE St.eF w a A) (hy : RowE St.eF w b B) (hn : A.length ≤ 9223372036854775807) (hm : B.length ≤ 9223372036854775807) (q : Bool) (hq : q = true ↔ A = B) :
  Calls Tryz.prog 114 #[.slice a A.length ca, .slice b B.length cb] w fun e w' => e = .returned (.bool q) ∧ Below w.heap.size w w' := by
 have HX := Lib.hid hx; have HY := Lib.hid hy; have HQ := Lib.hid hq
 obtain ⟨n, hnn⟩ : ∃ n, A.length = n := ⟨_, rfl⟩
 obtain ⟨m, hmm⟩ : ∃ m, B.length = m := ⟨_, rfl⟩
 have HN := Lib.hid hnn; have HM := Lib.hid hmm
 rw [hnn] at hn ⊢
 rw [hmm] at hm ⊢
 clear hx hy hnn hmm hq
 by_cases hl : n = m
 ·subst hl
  have hl' : ((n : Int) == (n : Int)) = true := by simp
  go_enter Tryz.func114, Tryz.ntmps114
  go_wp2_with fail
  go_loopg [13] n (fun gk i wr => ∃ j : Nat, j ≤ n ∧ gk = n - j ∧ i = .int .i64 j ∧ A.take j = B.take j ∧ Below w.heap.size w wr)
  case atStart => exact ⟨0, by omega, rfl, rfl, rfl, Below.refl _ _⟩
  case round =>
   obtain ⟨j, hj, rfl, rfl, htk, hB⟩ := hrel
   have HTK := Lib.hid htk
   clear htk
   by_cases hlt : j < n
   ·obtain ⟨x, hqx⟩ : ∃ x, A[j]? = some x := ⟨_, List.getElem?_eq_getElem (by rw [HN.out]; exact hlt)⟩
    obtain ⟨y, hqy⟩ : ∃ y, B[j]? = some y := ⟨_, List.getElem?_eq_getElem (by rw [HM.out]; exact hlt)⟩
    obtain ⟨b1, o1, ha1, hb1, hc1⟩ := HX.out.keep hB (by rw [HN.out]; omega)
    obtain ⟨b2, o2, ha2, hb2, hc2⟩ := HY.out.keep hB (by rw [HM.out]; omega)
    have c0 : wr.cell? ⟨b1, o1 + j * 4, none⟩ = some (.string x.dig) := hc1 j x hqx 0 (.string x.dig) rfl
    have c1 : wr.cell? ⟨b1, o1 + j * 4 + 1, none⟩ = some (.int .i64 x.size) := hc1 j x hqx 1 (.int .i64 x.size) rfl
    have c2 : wr.cell? ⟨b1, o1 + j * 4 + 2, none⟩ = some (.int .i64 x.kind) := hc1 j x hqx 2 (.int .i64 x.kind) rfl
    have c3 : wr.cell? ⟨b1, o1 + j * 4 + 3, none⟩ = some (.string x.frm) := hc1 j x hqx 3 (.string x.frm) rfl
    have d0 : wr.cell? ⟨b2, o2 + j * 4, none⟩ = some (.string y.dig) := hc2 j y hqy 0 (.string y.dig) rfl
    have d1 : wr.cell? ⟨b2, o2 + j * 4 + 1, none⟩ = some (.int .i64 y.size) := hc2 j y hqy 1 (.int .i64 y.size) rfl
    have d2 : wr.cell? ⟨b2, o2 + j * 4 + 2, none⟩ = some (.int .i64 y.kind) := hc2 j y hqy 2 (.int .i64 y.kind) rfl
    have d3 : wr.cell? ⟨b2, o2 + j * 4 + 3, none⟩ = some (.string y.frm) := hc2 j y hqy 3 (.string y.frm) rfl
    have hj0 : (0 : Int) ≤ (j : Int) := by omega
    have hj1 : (j : Int) < (n : Int) := by omega
    obtain ⟨p, hp⟩ := St.bool_of (x = y)
    have hne := fun V => neqF x y V p hp; have hgd := guardFil
    have HNX := Lib.hid (fun e : x = y => St.take_same HTK.out hqx hqy e)
    have HNO : Hid (x ≠ y → A ≠ B) := Lib.hid (fun hne e => hne (by subst e; rw [hqx] at hqy; exact Option.some.inj hqy))
    have HP := Lib.hid hp
    clear hc1 hc2 hqx hqy hp
    rw [ha1, ha2]
    cases p
    ·have hq0 : q = false := by
      cases hqq : q with
      | false => rfl
      | true => exact absurd (HQ.out.1 hqq) (HNO.out (fun e => absurd (HP.out.2 e) (by decide)))
     subst hq0
     go_wp2_with fail
     go_quiet (fail)
     go_wp2_with fail
     go_ret
     exact ⟨rfl, below_drewN hB _⟩
    ·go_wp2_with fail
     go_quiet (fail)
     go_wp2_with fail
     rw [← ha1, ← ha2]
     go_roundg (n - (j + 1))
     case rel => exact ⟨j + 1, by omega, rfl, by go_num, HNX.out (HP.out.1 (by first | rfl | trivial)), below_drewN hB _⟩
     case measure => omega
   ·obtain rfl : j = n := by omega
    have hjn : ¬ ((j : Int) < (j : Int)) := by omega
    have hq1 : q = true := HQ.out.2 (by
     have h := HTK.out
     rw [List.take_of_length_le (by rw [HN.out]; exact Nat.le_refl _), List.take_of_length_le (by rw [HM.out]; exact Nat.le_refl _)] at h
     exact h)
    subst hq1
    go_wp2_with fail
    go_ret
    exact ⟨rfl, hB⟩
 ·have hl' : ((n : Int) == (m : Int)) = false := by simp; omega
  have hq0 : q = false := by
   cases hqq : q with
   | false => rfl
   | true => exact absurd (by rw [← HN.out, ← HM.out, HQ.out.1 hqq]) hl
  subst hq0
  go_enter Tryz.func114, Tryz.ntmps114
  go_wp2_with fail
  go_ret
  exact ⟨rfl, Below.refl _ _⟩

theorem eqC_any (A B : List Cop) (a b : Option Addr) (ca cb : Nat) (w : World) (hx : RowE St.eC w a A) (hy : RowE St.eC w b B) (hn : A.length ≤ 9223372036854775807) (hm : B.length ≤ 9223372036854775807) (q : Bool) (hq : q = true ↔ A = B) :
  Calls Tryz.prog 42 #[.slice a A.length ca, .slice b B.length cb] w fun e w' => e = .returned (.bool q) ∧ Below w.heap.size w w' := by
 have HX := Lib.hid hx; have HY := Lib.hid hy; have HQ := Lib.hid hq
 obtain ⟨n, hnn⟩ : ∃ n, A.length = n := ⟨_, rfl⟩
 obtain ⟨m, hmm⟩ : ∃ m, B.length = m := ⟨_, rfl⟩
 have HN := Lib.hid hnn; have HM := Lib.hid hmm
 rw [hnn] at hn ⊢
 rw [hmm] at hm ⊢
 clear hx hy hnn hmm hq
 by_cases hl : n = m
 ·subst hl
  have hl' : ((n : Int) == (n : Int)) = true := by simp
  go_enter Tryz.func42, Tryz.ntmps42
  go_wp2_with fail
  go_loopg [13] n (fun gk i wr => ∃ j : Nat, j ≤ n ∧ gk = n - j ∧ i = .int .i64 j ∧ A.take j = B.take j ∧ Below w.heap.size w wr)
  case atStart => exact ⟨0, by omega, rfl, rfl, rfl, Below.refl _ _⟩
  case round =>
   obtain ⟨j, hj, rfl, rfl, htk, hB⟩ := hrel
   have HTK := Lib.hid htk
   clear htk
   by_cases hlt : j < n
   ·obtain ⟨x, hqx⟩ : ∃ x, A[j]? = some x := ⟨_, List.getElem?_eq_getElem (by rw [HN.out]; exact hlt)⟩
    obtain ⟨y, hqy⟩ : ∃ y, B[j]? = some y := ⟨_, List.getElem?_eq_getElem (by rw [HM.out]; exact hlt)⟩
    obtain ⟨b1, o1, ha1, hb1, hc1⟩ := HX.out.keep hB (by rw [HN.out]; omega)
    obtain ⟨b2, o2, ha2, hb2, hc2⟩ := HY.out.keep hB (by rw [HM.out]; omega)
    have c0 : wr.cell? ⟨b1, o1 + j * 4, none⟩ = some (.string x.dig) := hc1 j x hqx 0 (.string x.dig) rfl
    have c1 : wr.cell? ⟨b1, o1 + j * 4 + 1, none⟩ = some (.string x.tier) := hc1 j x hqx 1 (.string x.tier) rfl
    have c2 : wr.cell? ⟨b1, o1 + j * 4 + 2, none⟩ = some (.bool x.good) := hc1 j x hqx 2 (.bool x.good) rfl
    have c3 : wr.cell? ⟨b1, o1 + j * 4 + 3, none⟩ = some (.int .i64 x.asked) := hc1 j x hqx 3 (.int .i64 x.asked) rfl
    have d0 : wr.cell? ⟨b2, o2 + j * 4, none⟩ = some (.string y.dig) := hc2 j y hqy 0 (.string y.dig) rfl
    have d1 : wr.cell? ⟨b2, o2 + j * 4 + 1, none⟩ = some (.string y.tier) := hc2 j y hqy 1 (.string y.tier) rfl
    have d2 : wr.cell? ⟨b2, o2 + j * 4 + 2, none⟩ = some (.bool y.good) := hc2 j y hqy 2 (.bool y.good) rfl
    have d3 : wr.cell? ⟨b2, o2 + j * 4 + 3, none⟩ = some (.int .i64 y.asked) := hc2 j y hqy 3 (.int .i64 y.asked) rfl
    have hj0 : (0 : Int) ≤ (j : Int) := by omega
    have hj1 : (j : Int) < (n : Int) := by omega
    obtain ⟨p, hp⟩ := St.bool_of (x = y)
    have hne := fun V => neqC x y V p hp; have hgd := guardCop
    have HNX := Lib.hid (fun e : x = y => St.take_same HTK.out hqx hqy e)
    have HNO : Hid (x ≠ y → A ≠ B) := Lib.hid (fun hne e => hne (by subst e; rw [hqx] at hqy; exact Option.some.inj hqy))
    have HP := Lib.hid hp
    clear hc1 hc2 hqx hqy hp
    rw [ha1, ha2]
    cases p
    ·have hq0 : q = false := by
      cases hqq : q with
      | false => rfl
      | true => exact absurd (HQ.out.1 hqq) (HNO.out (fun e => absurd (HP.out.2 e) (by decide)))
     subst hq0
     go_wp2_with fail
     go_quiet (fail)
     go_wp2_with fail
     go_ret
     exact ⟨rfl, below_drewN hB _⟩
    ·go_wp2_with fail
     go_quiet (fail)
     go_wp2_with fail
     rw [← ha1, ← ha2]
     go_roundg (n - (j + 1))
     case rel => exact ⟨j + 1, by omega, rfl, by go_num, HNX.out (HP.out.1 (by first | rfl | trivial)), below_drewN hB _⟩
     case measure => omega
   ·obtain rfl : j = n := by omega
    have hjn : ¬ ((j : Int) < (j : Int)) := by omega
    have hq1 : q = true := HQ.out.2 (by
     have h := HTK.out
     rw [List.take_of_length_le (by rw [HN.out]; exact Nat.le_refl _), List.take_of_length_le (by rw [HM.out]; exact Nat.le_refl _)] at h
     exact h)
    subst hq1
    go_wp2_with fail
    go_ret
    exact ⟨rfl, hB⟩
 ·have hl' : ((n : Int) == (m : Int)) = false := by simp; omega
  have hq0 : q = false := by
   cases hqq : q with
   | false => rfl
   | true => exact absurd (by rw [← HN.out, ← HM.out, HQ.out.1 hqq]) hl
  subst hq0
  go_enter Tryz.func42, Tryz.ntmps42
  go_wp2_with fail
  go_ret
  exact ⟨rfl, Below.refl _ _⟩

theorem eqG_any (A B : List Gon) (a b : Option Addr) (ca cb : Nat) (w : World) (hx : RowE St.eG w a A) (hy : RowE St.eG w b B) (hn : A.length ≤ 9223372036854775807) (hm : B.length ≤ 9223372036854775807) (q : Bool) (hq : q = true ↔ A = B) :
  Calls Tryz.prog 115 #[.slice a A.length ca, .slice b B.length cb] w fun e w' => e = .returned (.bool q) ∧ Below w.heap.size w w' := by
 have HX := Lib.hid hx; have HY := Lib.hid hy; have HQ := Lib.hid hq
 obtain ⟨n, hnn⟩ : ∃ n, A.length = n := ⟨_, rfl⟩
 obtain ⟨m, hmm⟩ : ∃ m, B.length = m := ⟨_, rfl⟩
 have HN := Lib.hid hnn; have HM := Lib.hid hmm
 rw [hnn] at hn ⊢
 rw [hmm] at hm ⊢
 clear hx hy hnn hmm hq
 by_cases hl : n = m
 ·subst hl
  have hl' : ((n : Int) == (n : Int)) = true := by simp
  go_enter Tryz.func115, Tryz.ntmps115
  go_wp2_with fail
  go_loopg [13] n (fun gk i wr => ∃ j : Nat, j ≤ n ∧ gk = n - j ∧ i = .int .i64 j ∧ A.take j = B.take j ∧ Below w.heap.size w wr)
  case atStart => exact ⟨0, by omega, rfl, rfl, rfl, Below.refl _ _⟩
  case round =>
   obtain ⟨j, hj, rfl, rfl, htk, hB⟩ := hrel
   have HTK := Lib.hid htk
   clear htk
   by_cases hlt : j < n
   ·obtain ⟨x, hqx⟩ : ∃ x, A[j]? = some x := ⟨_, List.getElem?_eq_getElem (by rw [HN.out]; exact hlt)⟩
    obtain ⟨y, hqy⟩ : ∃ y, B[j]? = some y := ⟨_, List.getElem?_eq_getElem (by rw [HM.out]; exact hlt)⟩
    obtain ⟨b1, o1, ha1, hb1, hc1⟩ := HX.out.keep hB (by rw [HN.out]; omega)
    obtain ⟨b2, o2, ha2, hb2, hc2⟩ := HY.out.keep hB (by rw [HM.out]; omega)
    have c0 : wr.cell? ⟨b1, o1 + j * 2, none⟩ = some (.string x.dig) := hc1 j x hqx 0 (.string x.dig) rfl
    have c1 : wr.cell? ⟨b1, o1 + j * 2 + 1, none⟩ = some (.int .i64 x.day) := hc1 j x hqx 1 (.int .i64 x.day) rfl
    have d0 : wr.cell? ⟨b2, o2 + j * 2, none⟩ = some (.string y.dig) := hc2 j y hqy 0 (.string y.dig) rfl
    have d1 : wr.cell? ⟨b2, o2 + j * 2 + 1, none⟩ = some (.int .i64 y.day) := hc2 j y hqy 1 (.int .i64 y.day) rfl
    have hj0 : (0 : Int) ≤ (j : Int) := by omega
    have hj1 : (j : Int) < (n : Int) := by omega
    obtain ⟨p, hp⟩ := St.bool_of (x = y)
    have hne := fun V => neqG x y V p hp; have hgd := guardGon
    have HNX := Lib.hid (fun e : x = y => St.take_same HTK.out hqx hqy e)
    have HNO : Hid (x ≠ y → A ≠ B) := Lib.hid (fun hne e => hne (by subst e; rw [hqx] at hqy; exact Option.some.inj hqy))
    have HP := Lib.hid hp
    clear hc1 hc2 hqx hqy hp
    rw [ha1, ha2]
    cases p
    ·have hq0 : q = false := by
      cases hqq : q with
      | false => rfl
      | true => exact absurd (HQ.out.1 hqq) (HNO.out (fun e => absurd (HP.out.2 e) (by decide)))
     subst hq0
     go_wp2_with fail
     go_quiet (fail)
     go_wp2_with fail
     go_ret
     exact ⟨rfl, below_drewN hB _⟩
    ·go_wp2_with fail
     go_quiet (fail)
     go_wp2_with fail
     rw [← ha1, ← ha2]
     go_roundg (n - (j + 1))
     case rel => exact ⟨j + 1, by omega, rfl, by go_num, HNX.out (HP.out.1 (by first | rfl | trivial)), below_drewN hB _⟩
     case measure => omega
   ·obtain rfl : j = n := by omega
    have hjn : ¬ ((j : Int) < (j : Int)) := by omega
    have hq1 : q = true := HQ.out.2 (by
     have h := HTK.out
     rw [List.take_of_length_le (by rw [HN.out]; exact Nat.le_refl _), List.take_of_length_le (by rw [HM.out]; exact Nat.le_refl _)] at h
     exact h)
    subst hq1
    go_wp2_with fail
    go_ret
    exact ⟨rfl, hB⟩
 ·have hl' : ((n : Int) == (m : Int)) = false := by simp; omega
  have hq0 : q = false := by
   cases hqq : q with
   | false => rfl
   | true => exact absurd (by rw [← HN.out, ← HM.out, HQ.out.1 hqq]) hl
  subst hq0
  go_enter Tryz.func115, Tryz.ntmps115
  go_wp2_with fail
  go_ret
  exact ⟨rfl, Below.refl _ _⟩

theorem eqS_any (A B : List ByteArray) (a b : Option Addr) (ca cb : Nat) (w : World) (hx : RowE St.eS w a A) (hy : RowE St.eS w b B) (hn : A.length ≤ 9223372036854775807) (hm : B.length ≤ 9223372036854775807) (q : Bool) (hq : q = true ↔ A = B) :
  Calls Tryz.prog 37 #[.slice a A.length ca, .slice b B.length cb] w fun e w' => e = .returned (.bool q) ∧ Below w.heap.size w w' := by
 have HX := Lib.hid hx; have HY := Lib.hid hy; have HQ := Lib.hid hq
 obtain ⟨n, hnn⟩ : ∃ n, A.length = n := ⟨_, rfl⟩
 obtain ⟨m, hmm⟩ : ∃ m, B.length = m := ⟨_, rfl⟩
 have HN := Lib.hid hnn; have HM := Lib.hid hmm
 rw [hnn] at hn ⊢
 rw [hmm] at hm ⊢
 clear hx hy hnn hmm hq
 by_cases hl : n = m
 ·subst hl
  have hl' : ((n : Int) == (n : Int)) = true := by simp
  go_enter Tryz.func37, Tryz.ntmps37
  go_wp2_with fail
  go_loopg [13] n (fun gk i wr => ∃ j : Nat, j ≤ n ∧ gk = n - j ∧ i = .int .i64 j ∧ A.take j = B.take j ∧ Below w.heap.size w wr)
  case atStart => exact ⟨0, by omega, rfl, rfl, rfl, Below.refl _ _⟩
  case round =>
   obtain ⟨j, hj, rfl, rfl, htk, hB⟩ := hrel
   have HTK := Lib.hid htk
   clear htk
   by_cases hlt : j < n
   ·obtain ⟨x, hqx⟩ : ∃ x, A[j]? = some x := ⟨_, List.getElem?_eq_getElem (by rw [HN.out]; exact hlt)⟩
    obtain ⟨y, hqy⟩ : ∃ y, B[j]? = some y := ⟨_, List.getElem?_eq_getElem (by rw [HM.out]; exact hlt)⟩
    obtain ⟨b1, o1, ha1, hb1, hc1⟩ := HX.out.keep hB (by rw [HN.out]; omega)
    obtain ⟨b2, o2, ha2, hb2, hc2⟩ := HY.out.keep hB (by rw [HM.out]; omega)
    have c0 : wr.cell? ⟨b1, o1 + j, none⟩ = some (.string x) := by have := hc1 j x hqx 0 (.string x) rfl; rw [show o1 + j * St.eS.k + 0 = o1 + j by simp [St.eS]] at this; exact this
    have d0 : wr.cell? ⟨b2, o2 + j, none⟩ = some (.string y) := by have := hc2 j y hqy 0 (.string y) rfl; rw [show o2 + j * St.eS.k + 0 = o2 + j by simp [St.eS]] at this; exact this
    have hj0 : (0 : Int) ≤ (j : Int) := by omega
    have hj1 : (j : Int) < (n : Int) := by omega
    obtain ⟨p, hp⟩ := St.bool_of (x = y)
    have hne : (x.toList == y.toList) = p := (by rw [Bool.eq_iff_iff, hp]; simp [St.toList_iff]); have hnn : (x.toList != y.toList) = !p := (by rw [← hne]; rfl)
    have HNX := Lib.hid (fun e : x = y => St.take_same HTK.out hqx hqy e)
    have HNO : Hid (x ≠ y → A ≠ B) := Lib.hid (fun hne e => hne (by subst e; rw [hqx] at hqy; exact Option.some.inj hqy))
    have HP := Lib.hid hp
    clear hc1 hc2 hqx hqy hp
    rw [ha1, ha2]
    cases p
    ·have hq0 : q = false := by
      cases hqq : q with
      | false => rfl
      | true => exact absurd (HQ.out.1 hqq) (HNO.out (fun e => absurd (HP.out.2 e) (by decide)))
     subst hq0
     go_wp2_with fail
     go_quiet (fail)
     go_wp2_with fail
     go_ret
     exact ⟨rfl, below_drewN hB _⟩
    ·go_wp2_with fail
     go_quiet (fail)
     go_wp2_with fail
     rw [← ha1, ← ha2]
     go_roundg (n - (j + 1))
     case rel => exact ⟨j + 1, by omega, rfl, by go_num, HNX.out (HP.out.1 (by first | rfl | trivial)), below_drewN hB _⟩
     case measure => omega
   ·obtain rfl : j = n := by omega
    have hjn : ¬ ((j : Int) < (j : Int)) := by omega
    have hq1 : q = true := HQ.out.2 (by
     have h := HTK.out
     rw [List.take_of_length_le (by rw [HN.out]; exact Nat.le_refl _), List.take_of_length_le (by rw [HM.out]; exact Nat.le_refl _)] at h
     exact h)
    subst hq1
    go_wp2_with fail
    go_ret
    exact ⟨rfl, hB⟩
 ·have hl' : ((n : Int) == (m : Int)) = false := by simp; omega
  have hq0 : q = false := by
   cases hqq : q with
   | false => rfl
   | true => exact absurd (by rw [← HN.out, ← HM.out, HQ.out.1 hqq]) hl
  subst hq0
  go_enter Tryz.func37, Tryz.ntmps37
  go_wp2_with fail
  go_ret
  exact ⟨rfl, Below.refl _ _⟩
theorem Sto.eq_iff {s t : Sto} : s = t ↔ s.least = t.least ∧ s.wait = t.wait ∧ s.tiers = t.tiers ∧ s.files = t.files ∧ s.copies = t.copies ∧ s.held = t.held ∧ s.bin = t.bin := by
 cases s; cases t; simp
theorem dig_nothing : Hx.dig [] = ⟨#[99, 98, 102, 50, 57, 99, 101, 52, 56, 52, 50, 50, 50, 51, 50, 53]⟩ := by decide +kernel
theorem awake_is (w : World) (hDB : Hx.DB w) : Calls Tryz.prog 48 #[] w fun e w' => e = .returned (.bool true) ∧ Below w.heap.size w w' := by
 have HDG := Lib.hid (digest_is ⟨#[]⟩ (by decide) w hDB)
 rw [show Hx.dig (⟨#[]⟩ : ByteArray).data.toList = ⟨#[99, 98, 102, 50, 57, 99, 101, 52, 56, 52, 50, 50, 50, 51, 50, 53]⟩ from dig_nothing] at HDG
 clear hDB
 go_enter Tryz.func48, Tryz.ntmps48
 go_wp2_with (go_at_call 30; (with_reducible refine HDG.out.mono ?_); rintro e w3 ⟨rfl, hB3⟩)
 go_ret
 exact ⟨rfl, hB3⟩
theorem fillNew (w : World) (c cs : Array Value) (t : TypeId) : ∃ X, (w.alloc (.cells c t)).setRow w.heap.size cs = X ∧ Blk X w.heap.size cs t ∧ X.heap.size = w.heap.size + 1 ∧ Below w.heap.size w X :=
 ⟨_, rfl, Blk.setRowAt (Blk.new _ _ _) _, by simp, below_setRow ((Below.refl _ _).alloc (Nat.le_refl _) _) (Nat.le_refl _) _⟩
theorem fldName (n : ByteArray) (r c : Int) (y : Bool) (w : World) : (Instr.field 46 (.agg #[.string n, .int .i64 r, .int .i64 c, .bool y]) 0).run Tryz.prog w = .ok (.string n) w := by kernel_rfl
namespace St
theorem tier_self {L : List Tir} (h : scan tierE [] L = 0) {j : Nat} {t : Tir} (ht : L[j]? = some t) : tierAt L t.name = (j : Int) := by
 have h1 := scan_iff.1 h j t ht
 have h2 : ¬ tierAt L t.name < (j : Int) := fun g => by
  have h3 := (tier_first ht).1 g
  unfold tierE at h1
  rw [if_pos h3] at h1
  split at h1 <;> cases h1
 have h4 : 0 ≤ idx (fun x : Tir => eq x.name t.name) L 0 := by have : 0 ≤ tierAt L t.name := by omega
                                                               exact this
 obtain ⟨k, x, e1, e2, e3, e4⟩ := idx_some rfl h4
 rcases Nat.lt_or_ge j k with g | g
 ·have := e4 j t g ht
  rw [eq_refl] at this; cases this
 ·have e5 : tierAt L t.name = ((0 + k : Nat) : Int) := e1
  omega
end St


theorem neLck (d : ByteArray) (k l : Int) (w : World) : Sem.run Tryz.prog (binOp .neq 70 (.agg #[.string d, .int .i64 k, .int .i64 l]) (.agg #[.string d, .int .i64 k, .int .i64 l])) w = .ok (.bool false) w := by
 have u3 := Tryz.underlying3
 have a3 := Tryz.isAgg3
 have z3 := Tryz.sizeOf3
 have u9 := Tryz.underlying9
 have a9 := Tryz.isAgg9
 have z9 := Tryz.sizeOf9
 have u4 := Tryz.underlying4
 have a4 := Tryz.isAgg4
 have z4 := Tryz.sizeOf4
 have hS : Tryz.prog.underlying 70 = some (.struct (Tryz.prog.fieldsOf 70)) := by kernel_rfl
 have hp : Tryz.prog.stoodInHeld 70 = false := by kernel_rfl
 rw [run_neq_struct, show (10000 : Nat) = 9999 + 1 from rfl, run_equalIn_agg w 9999 70 _ _ hS hp]
 simp only [Program.fieldsOf, Tryz.underlying70]
 go_simp
 try simp
theorem St.tier_get {L : List Tir} {n : ByteArray} (h : 0 ≤ St.tierAt L n) : ∃ (k : Nat) (t : Tir), L[k]? = some t ∧ St.tierAt L n = (k : Int) ∧ t.name = n := by
 obtain ⟨j, x, h1, h2, h3, _⟩ := St.idx_some (p := fun t : Tir => St.eq t.name n) (L := L) (i := 0) rfl (show 0 ≤ St.idx (fun t : Tir => St.eq t.name n) L 0 from h)
 exact ⟨j, x, h2, by unfold St.tierAt; rw [h1]; simp, St.eq_iff.1 h3⟩
namespace St
theorem room_get {L : List Tir} {k : Nat} {x : Tir} {n : ByteArray} (h : L[k]? = some x) (hk : tierAt L n = (k : Int)) : roomOf L n = x.room := by
 unfold roomOf
 have hf := find_idx (p := fun t : Tir => eq t.name n) (L := L) (i := 0)
 cases hq : L.find? (fun t => eq t.name n) with
 | none =>
   have h1 : tierAt L n = -1 := hf.2 hq
   omega
 | some y =>
   obtain ⟨j, h1, h2⟩ := hf.1 y hq
   have h3 : tierAt L n = ((0 + j : Nat) : Int) := h1
   have h4 : j = k := by omega
   rw [h4, h] at h2
   rw [Option.some.inj h2]
end St
end Go.Proofs.YthdiccdnggloiaaGreatDoor
namespace Go.Proofs.YthdiccdnggloiaaGreatDoor
open Go.RowKit
namespace St
def mvE (s : Sto) (m : Mov) : Int :=
 if m.kind ≠ 1 ∧ m.kind ≠ 2 then 10 else
 if hasCopy s m.dig m.frm = false then 7 else
 if m.kind = 2 then
  (if eq m.dst ⟨#[]⟩ = false then 1 else
   if neededD s m.dig = true ∧ goodAt s m.dig m.frm = true ∧ (goodL s m.dig).length = 1 then 14 else 0)
 else if hasTier s.tiers m.dst = false then 7 else
 if hasCopy s m.dig m.dst = true then 6 else
 if goodAt s m.dig m.frm = false then 11 else
 if freeIn s m.dst < sizeOf s.files m.dig then 12 else 0
def mvS (s : Sto) (m : Mov) : Sto :=
 if m.kind = 2 then { s with copies := wo ckey (key m.dig m.frm) s.copies }
 else { s with copies := wth ckey ⟨m.dig, m.dst, true, askedOf s m.dig m.frm 0⟩ s.copies }
def doL (s : Sto) : List Mov → Nat → Sto × Nat × Int
 | [], _ => (s, 0, 0)
 | m :: l, i => if mvE s m = 0 then doL (mvS s m) l (i + 1) else (⟨0, 0, [], [], [], [], []⟩, i, mvE s m)
theorem copy_file {s : Sto} (r : Right s) {d t : ByteArray} (h : hasCopy s d t = true) : (fileOf s.files d).isSome = true := by
 unfold hasCopy at h
 obtain ⟨c, hcm, hcd⟩ := List.any_eq_true.1 h
 have h5 := (r.cop c hcm).1
 rw [Bool.and_eq_true] at hcd
 rwa [eq_iff.1 hcd.1] at h5
theorem good_iff {s : Sto} (r : Right s) {d t : ByteArray} : goodAt s d t = true ↔ ∃ c ∈ s.copies, c.dig = d ∧ c.tier = t ∧ c.good = true := by
 rw [goodAt_eq]
 constructor
 ·intro h
  cases hf : s.copies.find? (isCop d t) with
  | none => rw [hf] at h; cases h
  | some c =>
    rw [hf] at h
    have h1 := List.find?_some hf
    unfold isCop at h1
    rw [Bool.and_eq_true] at h1
    exact ⟨c, List.mem_of_find?_eq_some hf, eq_iff.1 h1.1, eq_iff.1 h1.2, h⟩
 ·rintro ⟨c, hc, rfl, rfl, hg⟩
  cases hf : s.copies.find? (isCop c.dig c.tier) with
  | none =>
    rw [List.find?_eq_none] at hf
    exact absurd (by unfold isCop; rw [eq_refl, eq_refl]; rfl) (hf c hc)
  | some c' =>
    have h1 := List.find?_some hf
    unfold isCop at h1
    rw [Bool.and_eq_true] at h1
    rw [cop_one r (List.mem_of_find?_eq_some hf) hc h1.1 h1.2]
    exact hg
theorem has_iff {s : Sto} {d t : ByteArray} : hasCopy s d t = true ↔ ∃ c ∈ s.copies, c.dig = d ∧ c.tier = t := by
 unfold hasCopy
 rw [List.any_eq_true]
 constructor
 ·rintro ⟨c, hc, h⟩
  rw [Bool.and_eq_true] at h
  exact ⟨c, hc, eq_iff.1 h.1, eq_iff.1 h.2⟩
 ·rintro ⟨c, hc, rfl, rfl⟩
  exact ⟨c, hc, by rw [eq_refl, eq_refl]; rfl⟩
theorem has16 {s : Sto} (r : Right s) {d t : ByteArray} (h : hasCopy s d t = true) : d.size = 16 := by
 obtain ⟨c, hc, rfl, rfl⟩ := has_iff.1 h
 exact cop_dig r hc
theorem ckey_iff {c : Cop} {d t : ByteArray} (h : c.dig.size = d.size) : ckey c = key d t ↔ c.dig = d ∧ c.tier = t := by
 have := eq_key (d := c.dig) (t := c.tier) (d' := d) (t' := t) h
 rw [Bool.eq_iff_iff, Bool.and_eq_true, eq_iff, eq_iff, eq_iff] at this
 exact this
theorem used_app {F : List Fil} {n : ByteArray} : ∀ (A B : List Cop), used F n (A ++ B) = used F n A + used F n B
 | [], B => by simp [used]
 | c :: A, B => by
   rw [List.cons_append, used, used, used_app A B]
   omega
theorem used_sub {F : List Fil} (hz : Szs F) {n : ByteArray} {A B : List Cop} (h : A.Sublist B) : used F n A ≤ used F n B := by
 induction h with
 | slnil => exact Int.le_refl _
 | cons c _ ih =>
   rw [used]
   have := size_bd hz c.dig
   split <;> omega
 | cons_cons c _ ih =>
   rw [used, used]
   omega
theorem names_nodup {s : Sto} (r : Right s) : (s.tiers.map (·.name)).Nodup := by
 rw [List.Nodup, List.pairwise_iff_getElem]
 intro i j hi hj hij e
 rw [List.length_map] at hi hj
 rw [List.getElem_map, List.getElem_map] at e
 have h1 := tier_self r.tiers (List.getElem?_eq_getElem hi)
 have h2 := tier_self r.tiers (List.getElem?_eq_getElem hj)
 rw [e, h2] at h1
 omega
theorem roomOf_of {s : Sto} (r : Right s) {t : Tir} (h : t ∈ s.tiers) : roomOf s.tiers t.name = t.room := by
 obtain ⟨i, hi⟩ := List.getElem?_of_mem h
 exact room_get hi (tier_self r.tiers hi)
theorem few_copies {F : List Fil} {T : List Tir} {L : List Cop} (h : Up ckey L) (h16 : ∀ c ∈ L, c.dig.size = 16) (hk : ∀ c ∈ L, (fileOf F c.dig).isSome = true ∧ hasTier T c.tier = true) : L.length ≤ F.length * T.length := by
 have h1 := few_of_sub (m := F.flatMap fun f => T.map fun t => key f.dig t.name) (up_nodup h) fun y hy => by
  obtain ⟨c, hc, rfl⟩ := List.mem_map.1 hy
  obtain ⟨g1, g2⟩ := hk c hc
  obtain ⟨f, hf⟩ := Option.isSome_iff_exists.1 g1
  obtain ⟨g3, g4⟩ := find_mem hf
  obtain ⟨t, ht, hn⟩ := hasTier_mem g2
  refine List.mem_flatMap.2 ⟨f, g3, List.mem_map.2 ⟨t, ht, ?_⟩⟩
  unfold ckey
  rw [eq_iff.1 g4, hn]
 rw [List.length_map] at h1
 refine Nat.le_trans h1 (Nat.le_of_eq ?_)
 clear h1 hk h h16
 induction F with
 | nil => simp
 | cons f F ih => rw [List.flatMap_cons, List.length_append, ih, List.length_map, List.length_cons, Nat.add_mul]; omega
theorem right_drop {s : Sto} (r : Right s) (k : ByteArray) : Right { s with copies := wo ckey k s.copies } := by
 obtain ⟨z1, z2, z3, z4, z5, z6⟩ := sizes_iff.1 r.sizes
 have hs : (wo ckey k s.copies).Sublist s.copies := by rw [wo_filter (cop_up r)]; exact List.filter_sublist
 refine ⟨sizes_iff.2 ⟨z1, z2, z3, by have := hs.length_le; show (wo ckey k s.copies).length ≤ 4000; omega, z5, z6⟩, r.tiers, r.dig, r.fup, r.frm, fun c hc => r.cop c (hs.subset hc), r.cup.sublist hs, fun t ht => ?_, r.held, r.hup, r.bin, r.bup⟩
 have h1 := r.room t ht
 have h2 := used_sub (szs_of (F := s.files) (fun f hf => (r.dig f hf).2)) (n := t.name) hs
 show 0 ≤ t.room - used s.files t.name (wo ckey k s.copies)
 omega
theorem right_copy {s : Sto} (r : Right s) {d t : ByteArray} {a : Int} (hd : (fileOf s.files d).isSome = true) (ht : hasTier s.tiers t = true) (ha : isMom a = true) (hn : hasCopy s d t = false) (hf : sizeOf s.files d ≤ freeIn s t) : Right { s with copies := wth ckey ⟨d, t, true, a⟩ s.copies } := by
 obtain ⟨z1, z2, z3, z4, z5, z6⟩ := sizes_iff.1 r.sizes
 obtain ⟨f, hff⟩ := Option.isSome_iff_exists.1 hd
 have h16 : d.size = 16 := file16 r hff
 have hup := up_wth (cop_up r) (⟨d, t, true, a⟩ : Cop)
 have hm := mem_wth (cop_up r) (⟨d, t, true, a⟩ : Cop)
 have h16a : ∀ c ∈ wth ckey ⟨d, t, true, a⟩ s.copies, c.dig.size = 16 := fun c hc => by
  rcases (hm c).1 hc with rfl | ⟨h, _⟩
  ·exact h16
  ·exact cop_dig r h
 have hcop : ∀ c ∈ wth ckey ⟨d, t, true, a⟩ s.copies, (fileOf s.files c.dig).isSome = true ∧ hasTier s.tiers c.tier = true ∧ isMom c.asked = true := fun c hc => by
  rcases (hm c).1 hc with rfl | ⟨h, _⟩
  ·exact ⟨hd, ht, ha⟩
  ·exact r.cop c h
 have hhk : hasK ckey s.copies (ckey ⟨d, t, true, a⟩) = false := by
  rw [show ckey (⟨d, t, true, a⟩ : Cop) = key d t from rfl, ← hasCopy_key r h16]; exact hn
 have hlen : (wth ckey ⟨d, t, true, a⟩ s.copies).length ≤ 4000 := by
  have h1 := few_copies hup h16a (fun c hc => ⟨(hcop c hc).1, (hcop c hc).2.1⟩)
  have h2 : s.files.length * s.tiers.length ≤ 500 * 8 := Nat.mul_le_mul z3 z2
  omega
 refine ⟨sizes_iff.2 ⟨z1, z2, z3, hlen, z5, z6⟩, r.tiers, r.dig, r.fup, r.frm, hcop, ?_, fun x hx => ?_, r.held, r.hup, r.bin, r.bup⟩
 ·refine List.Pairwise.imp_of_mem (fun {x y} hx hy h => ?_) hup
  rw [ahead_key ((h16a x hx).trans (h16a y hy).symm)]
  exact h
 ·show 0 ≤ x.room - used s.files x.name (wth ckey ⟨d, t, true, a⟩ s.copies)
  rw [wth_new hhk, used_app, used]
  have h1 := r.room x hx
  have h2 : used s.files x.name s.copies = used s.files x.name (s.copies.take (pos ckey (ckey ⟨d, t, true, a⟩) s.copies)) + used s.files x.name (s.copies.drop (pos ckey (ckey ⟨d, t, true, a⟩) s.copies)) := by
   rw [← used_app, List.take_append_drop]
  by_cases e : eq t x.name = true
  ·rw [if_pos e]
   have e2 := eq_iff.1 e
   unfold freeIn at hf
   rw [e2, roomOf_of r hx] at hf
   show 0 ≤ x.room - (_ + (sizeOf s.files d + _))
   omega
  ·rw [if_neg e]
   omega
theorem mv_ways {s : Sto} (r : Right s) {m : Mov} (h : mvE s m = 0) :
  hasCopy s m.dig m.frm = true ∧ m.dig.size = 16 ∧ ((m.kind = 2 ∧ mvS s m = { s with copies := wo ckey (key m.dig m.frm) s.copies } ∧ ¬ (neededD s m.dig = true ∧ goodAt s m.dig m.frm = true ∧ (goodL s m.dig).length = 1)) ∨
   (m.kind = 1 ∧ mvS s m = { s with copies := wth ckey ⟨m.dig, m.dst, true, askedOf s m.dig m.frm 0⟩ s.copies } ∧ hasTier s.tiers m.dst = true ∧ hasCopy s m.dig m.dst = false ∧ goodAt s m.dig m.frm = true ∧ sizeOf s.files m.dig ≤ freeIn s m.dst)) := by
 unfold mvE at h
 by_cases h0 : m.kind ≠ 1 ∧ m.kind ≠ 2
 ·rw [if_pos h0] at h; cases h
 ·rw [if_neg h0] at h
  cases h1 : hasCopy s m.dig m.frm with
  | false => rw [h1, if_pos rfl] at h; cases h
  | true =>
    rw [h1, if_neg (by decide)] at h
    refine ⟨rfl, has16 r h1, ?_⟩
    by_cases h2 : m.kind = 2
    ·rw [if_pos h2] at h
     refine .inl ⟨h2, by unfold mvS; rw [if_pos h2], ?_⟩
     cases h3 : eq m.dst ⟨#[]⟩ with
     | false => rw [h3, if_pos rfl] at h; cases h
     | true =>
       rw [h3, if_neg (by decide)] at h
       intro h4
       rw [if_pos h4] at h; cases h
    ·rw [if_neg h2] at h
     refine .inr ⟨by omega, by unfold mvS; rw [if_neg h2], ?_⟩
     cases h3 : hasTier s.tiers m.dst with
     | false => rw [h3, if_pos rfl] at h; cases h
     | true =>
       rw [h3, if_neg (by decide)] at h
       cases h4 : hasCopy s m.dig m.dst with
       | true => rw [h4, if_pos rfl] at h; cases h
       | false =>
         rw [h4, if_neg (by decide)] at h
         cases h5 : goodAt s m.dig m.frm with
         | false => rw [h5, if_pos rfl] at h; cases h
         | true =>
           rw [h5, if_neg (by decide)] at h
           refine ⟨rfl, rfl, rfl, ?_⟩
           by_cases h6 : freeIn s m.dst < sizeOf s.files m.dig
           ·rw [if_pos h6] at h; cases h
           ·omega
theorem asked_mom {s : Sto} (r : Right s) {d t : ByteArray} (h : hasCopy s d t = true) : isMom (askedOf s d t 0) = true := by
 unfold askedOf
 cases hf : s.copies.find? (fun c => eq c.dig d && eq c.tier t) with
 | none =>
   rw [List.find?_eq_none] at hf
   obtain ⟨c, hc, rfl, rfl⟩ := has_iff.1 h
   exact absurd (by rw [eq_refl, eq_refl]; rfl) (hf c hc)
 | some c => exact (r.cop c (List.mem_of_find?_eq_some hf)).2.2
theorem right_mv {s : Sto} (r : Right s) {m : Mov} (h : mvE s m = 0) : Right (mvS s m) := by
 obtain ⟨h1, h16, h | ⟨_, h2, h3, h4, h5, h6⟩⟩ := mv_ways r h
 ·rw [h.2.1]; exact right_drop r _
 ·rw [h2]
  exact right_copy r (copy_file r h1) h3 (asked_mom r h1) h4 h6
theorem copy_tier {s : Sto} (r : Right s) {d t : ByteArray} (h : hasCopy s d t = true) : ∃ x ∈ s.tiers, x.name = t := by
 obtain ⟨c, hc, _, rfl⟩ := has_iff.1 h
 exact hasTier_mem (r.cop c hc).2.1
theorem good_has {s : Sto} (r : Right s) {d t : ByteArray} (h : goodAt s d t = true) : hasCopy s d t = true := by
 obtain ⟨c, hc, h1, h2, _⟩ := (good_iff r).1 h
 exact has_iff.2 ⟨c, hc, h1, h2⟩
theorem good_pos_len {s : Sto} (r : Right s) {d t : ByteArray} (h : goodAt s d t = true) : 0 < (goodL s d).length := by
 obtain ⟨x, hx, rfl⟩ := copy_tier r (good_has r h)
 exact List.length_pos_of_mem (List.mem_filter.2 ⟨hx, h⟩)
theorem less_one {L : List Tir} (h : (L.map (·.name)).Nodup) (n : ByteArray) : L.length ≤ (L.filter fun t => !eq t.name n).length + 1 := by
 induction L with
 | nil => simp
 | cons t L ih =>
   rw [List.map_cons, List.nodup_cons] at h
   cases e : eq t.name n with
   | true =>
     have hall : L.filter (fun t => !eq t.name n) = L := by
      rw [List.filter_eq_self]
      intro u hu
      cases e2 : eq u.name n with
      | false => rfl
      | true =>
        exfalso
        refine h.1 (List.mem_map.2 ⟨u, hu, ?_⟩)
        rw [eq_iff.1 e2, eq_iff.1 e]
     rw [List.filter_cons_of_neg (by simp [e]), hall, List.length_cons]
     omega
   | false =>
     rw [List.filter_cons_of_pos (by simp [e]), List.length_cons, List.length_cons]
     have := ih h.2
     omega
theorem needed_dig {s : Sto} (r : Right s) {d : ByteArray} (h : d ∈ neededL s) : neededD s d = true := by
 obtain ⟨f, hf, rfl⟩ := List.mem_map.1 h
 obtain ⟨h1, h2⟩ := List.mem_filter.1 hf
 rw [neededD_of r h1]; exact h2
theorem lost_mv {s : Sto} (r : Right s) {m : Mov} (h : mvE s m = 0) : lostL (mvS s m) = lostL s := by
 have rr := right_mv r h
 obtain ⟨h1, h16, hw⟩ := mv_ways r h
 have key : ∀ d ∈ neededL s, ((goodL (mvS s m) d).length == 0) = ((goodL s d).length == 0) := by
  intro d hd
  rcases hw with ⟨_, h2, h3⟩ | ⟨_, h2, h3, h4, h5, h6⟩
  ·have hcp : (mvS s m).copies = wo ckey (key m.dig m.frm) s.copies := by rw [h2]
   have htr : (mvS s m).tiers = s.tiers := by rw [h2]
   have hga : ∀ t, goodAt (mvS s m) d t = (goodAt s d t && !(eq d m.dig && eq t m.frm)) := by
    intro t
    rw [Bool.eq_iff_iff, good_iff rr, Bool.and_eq_true, good_iff r, hcp]
    constructor
    ·rintro ⟨c, hc, rfl, rfl, hg⟩
     obtain ⟨g1, g2⟩ := (mem_wo (cop_up r) _ c).1 hc
     refine ⟨⟨c, g1, rfl, rfl, hg⟩, ?_⟩
     cases e1 : eq c.dig m.dig <;> cases e2 : eq c.tier m.frm <;> first | rfl | (exfalso; exact g2 ((ckey_iff ((cop_dig r g1).trans h16.symm)).2 ⟨eq_iff.1 e1, eq_iff.1 e2⟩))
    ·rintro ⟨⟨c, hc, rfl, rfl, hg⟩, hne⟩
     refine ⟨c, (mem_wo (cop_up r) _ c).2 ⟨hc, fun e => ?_⟩, rfl, rfl, hg⟩
     obtain ⟨e1, e2⟩ := (ckey_iff ((cop_dig r hc).trans h16.symm)).1 e
     rw [e1, e2, eq_refl, eq_refl] at hne
     cases hne
   by_cases hdm : d = m.dig
   ·subst hdm
    cases hg : goodAt s m.dig m.frm with
    | false =>
      have e : goodL (mvS s m) m.dig = goodL s m.dig := by
       unfold goodL
       rw [htr]
       refine List.filter_congr fun t _ => ?_
       rw [hga t.name]
       cases e2 : eq t.name m.frm with
       | false => simp
       | true => rw [eq_iff.1 e2, hg]; rfl
      rw [e]
    | true =>
      have hl := good_pos_len r hg
      have hne : (goodL s m.dig).length ≠ 1 := fun e => h3 ⟨needed_dig r hd, hg, e⟩
      have e : goodL (mvS s m) m.dig = (goodL s m.dig).filter fun t => !eq t.name m.frm := by
       unfold goodL
       rw [htr, List.filter_filter]
       refine List.filter_congr fun t _ => ?_
       rw [hga t.name, eq_refl, Bool.true_and, Bool.and_comm]
      have h7 := less_one (L := goodL s m.dig) ((names_nodup r).sublist (List.filter_sublist.map _)) m.frm
      rw [e]
      have h8 : ((goodL s m.dig).filter fun t => !eq t.name m.frm).length ≠ 0 := by omega
      have h9 : (goodL s m.dig).length ≠ 0 := by omega
      rw [beq_eq_false_iff_ne.2 h8, beq_eq_false_iff_ne.2 h9]
   ·have e : goodL (mvS s m) d = goodL s d := by
     unfold goodL
     rw [htr]
     refine List.filter_congr fun t _ => ?_
     rw [hga t.name]
     cases e2 : eq d m.dig with
     | false => simp
     | true => exact absurd (eq_iff.1 e2) hdm
    rw [e]
  ·have hcp : (mvS s m).copies = wth ckey ⟨m.dig, m.dst, true, askedOf s m.dig m.frm 0⟩ s.copies := by rw [h2]
   have htr : (mvS s m).tiers = s.tiers := by rw [h2]
   have hmono : ∀ t, goodAt s d t = true → goodAt (mvS s m) d t = true := by
    intro t ht
    obtain ⟨c, hc, rfl, rfl, hg⟩ := (good_iff r).1 ht
    rw [good_iff rr, hcp]
    refine ⟨c, (mem_wth (cop_up r) _ c).2 (.inr ⟨hc, fun e => ?_⟩), rfl, rfl, hg⟩
    obtain ⟨e1, e2⟩ := (ckey_iff (d := m.dig) (t := m.dst) ((cop_dig r hc).trans h16.symm)).1 e
    have : hasCopy s m.dig m.dst = true := has_iff.2 ⟨c, hc, e1, e2⟩
    rw [h4] at this; cases this
   by_cases hdm : d = m.dig
   ·subst hdm
    have g1 := good_pos_len r h5
    have g2 := good_pos_len rr (hmono _ h5)
    rw [beq_eq_false_iff_ne.2 (by omega : (goodL s m.dig).length ≠ 0), beq_eq_false_iff_ne.2 (by omega : (goodL (mvS s m) m.dig).length ≠ 0)]
   ·have e : goodL (mvS s m) d = goodL s d := by
     unfold goodL
     rw [htr]
     refine List.filter_congr fun t _ => ?_
     rw [Bool.eq_iff_iff]
     refine ⟨fun hh => ?_, hmono _⟩
     obtain ⟨c, hc, g1, g2, hg⟩ := (good_iff rr).1 hh
     rw [hcp] at hc
     rcases (mem_wth (cop_up r) _ c).1 hc with rfl | ⟨hc, _⟩
     ·exact absurd g1.symm hdm
     ·exact (good_iff r).2 ⟨c, hc, g1, g2, hg⟩
    rw [e]
 have hn : neededL (mvS s m) = neededL s := by
  rcases hw with ⟨_, h2, _⟩ | ⟨_, h2, _⟩ <;> rw [h2] <;> rfl
 unfold lostL
 rw [hn]
 exact List.filter_congr key
theorem do_ok {l : List Mov} : ∀ {s : Sto} (r : Right s) {i : Nat}, (doL s l i).2.2 = 0 → Right (doL s l i).1 ∧ lostL (doL s l i).1 = lostL s := by
 induction l with
 | nil => intro s r i h; exact ⟨r, rfl⟩
 | cons m l ih =>
   intro s r i h
   rw [doL] at h ⊢
   by_cases h0 : mvE s m = 0
   ·rw [if_pos h0] at h ⊢
    obtain ⟨h1, h2⟩ := ih (right_mv r h0) h
    exact ⟨h1, h2.trans (lost_mv r h0)⟩
   ·rw [if_neg h0] at h
    exact absurd h h0
end St
namespace St
theorem zero_split : ∀ {A X B Y : List UInt8}, (0 : UInt8) ∉ X → (0 : UInt8) ∉ Y → A ++ 0 :: B = X ++ 0 :: Y → A = X ∧ B = Y
 | [], [], B, Y, _, _, h => ⟨rfl, List.tail_eq_of_cons_eq h⟩
 | [], x :: X, B, Y, hX, _, h => by
   have := List.head_eq_of_cons_eq h
   exact absurd (by rw [this]; simp) hX
 | a :: A, [], B, Y, _, hY, h => by
   have := List.tail_eq_of_cons_eq h
   exact absurd (by rw [← this]; simp) hY
 | a :: A, x :: X, B, Y, hX, hY, h => by
   have h1 := List.head_eq_of_cons_eq h
   obtain ⟨h2, h3⟩ := zero_split (fun g => hX (List.mem_cons_of_mem _ g)) hY (List.tail_eq_of_cons_eq h)
   exact ⟨by rw [h1, h2], h3⟩
theorem mem_at {d : ByteArray} {u : UInt8} (h : u ∈ d.toList) : ∃ i, ∃ hi : i < d.size, d[i] = u := by
 rw [ByteArray.toList_eq] at h
 obtain ⟨i, hi, e⟩ := List.getElem_of_mem h
 exact ⟨i, by simpa using hi, by rw [← e]; simp; rfl⟩
theorem dig_no0 {d : ByteArray} (h : Fd.fileB d = true) : (0 : UInt8) ∉ d.toList := by
 intro h0
 obtain ⟨i, hi, e⟩ := mem_at h0
 unfold Fd.fileB at h
 have := (of_decide_eq_true h).2 i hi
 rw [e] at this
 revert this; decide
theorem name_no0 {d : ByteArray} (h : Fd.nameB d = true) : (0 : UInt8) ∉ d.toList := by
 intro h0
 obtain ⟨i, hi, e⟩ := mem_at h0
 unfold Fd.nameB at h
 have := (of_decide_eq_true h).2 i hi
 rw [e] at this
 have h2 := (Fd.tailN_iff _).1 (Fd.nmN_tail _ _ this)
 revert h2; decide
theorem cop_no0 {s : Sto} (r : Right s) {c : Cop} (hc : c ∈ s.copies) : (0 : UInt8) ∉ c.dig.toList ∧ (0 : UInt8) ∉ c.tier.toList := by
 obtain ⟨h1, h2, _⟩ := r.cop c hc
 obtain ⟨f, hf⟩ := Option.isSome_iff_exists.1 h1
 obtain ⟨h3, h4⟩ := find_mem hf
 obtain ⟨t, ht, hn⟩ := hasTier_mem h2
 refine ⟨?_, ?_⟩
 ·rw [← eq_iff.1 h4]; exact dig_no0 (r.dig f h3).1
 ·rw [← hn]; exact name_no0 (tier_ok r.tiers ht).1
theorem ckey_any {s : Sto} (r : Right s) {c : Cop} (hc : c ∈ s.copies) {d t : ByteArray} : ckey c = key d t ↔ c.dig = d ∧ c.tier = t := by
 constructor
 ·intro h
  have h1 := congrArg ByteArray.toList h
  unfold ckey at h1
  rw [key_list, key_list] at h1
  obtain ⟨z1, z2⟩ := cop_no0 r hc
  obtain ⟨e1, e2⟩ := zero_split z1 z2 h1.symm
  rw [ByteArray.toList_eq, ByteArray.toList_eq] at e1 e2
  exact ⟨(ByteArray.ext (Array.toList_inj.1 e1)).symm, (ByteArray.ext (Array.toList_inj.1 e2)).symm⟩
 ·rintro ⟨rfl, rfl⟩; rfl
theorem hasCopy_any {s : Sto} (r : Right s) (d t : ByteArray) : hasCopy s d t = hasK ckey s.copies (key d t) := by
 rw [Bool.eq_iff_iff, has_iff, hasK_iff]
 constructor
 ·rintro ⟨c, hc, h1, h2⟩; exact ⟨c, hc, (ckey_any r hc).2 ⟨h1, h2⟩⟩
 ·rintro ⟨c, hc, h⟩
  obtain ⟨h1, h2⟩ := (ckey_any r hc).1 h
  exact ⟨c, hc, h1, h2⟩
theorem copy_pos {s : Sto} (r : Right s) {d t : ByteArray} (h : hasCopy s d t = true) : ∃ c, s.copies[pos ckey (key d t) s.copies]? = some c ∧ c.dig = d ∧ c.tier = t ∧ goodAt s d t = c.good ∧ askedOf s d t 0 = c.asked := by
 have h16 := has16 r h
 rw [hasCopy_any r] at h
 obtain ⟨c, hc, h1⟩ := hasK_at (cop_up r) h
 obtain ⟨h2, h3⟩ := (ckey_any r (List.mem_of_getElem? hc)).1 h1
 have hp := (copyAt_pos (t := t) r h16).1 h
 have hg := (good_idx s d t).2 _ hp
 obtain ⟨c', hc', _, hg'⟩ := hg
 rw [hc] at hc'
 obtain rfl := Option.some.inj hc'
 have hfi := find_idx (p := isCop d t) (L := s.copies) (i := 0)
 refine ⟨c, hc, h2, h3, hg', ?_⟩
 unfold askedOf
 have hq0 : s.copies.find? (fun c => eq c.dig d && eq c.tier t) = s.copies.find? (isCop d t) := rfl
 rw [hq0]
 cases hq : s.copies.find? (isCop d t) with
 | none =>
   have h3 : copyAt s d t = -1 := hfi.2 hq
   omega
 | some c2 =>
   obtain ⟨j, g1, g2⟩ := hfi.1 c2 hq
   have g3 : copyAt s d t = ((0 + j : Nat) : Int) := g1
   have g4 : j = pos ckey (key d t) s.copies := by omega
   rw [g4, hc] at g2
   obtain rfl := Option.some.inj g2
   rfl
end St
end Go.Proofs.YthdiccdnggloiaaGreatDoor
