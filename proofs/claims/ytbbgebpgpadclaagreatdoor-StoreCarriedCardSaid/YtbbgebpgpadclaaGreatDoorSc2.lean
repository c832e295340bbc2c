/- Parts of the proof, no condition: StSm, StRpB. -/
import Derived.Test.YtbbgebpgpadclaaGreatDoorSr20
import Derived.Test.YtbbgebpgpadclaaGreatDoorSc1
import Derived.Lib.ItoaLen
set_option maxRecDepth 100000
set_option maxHeartbeats 8000000
set_option linter.unusedSimpArgs false
set_option linter.unusedVariables false
namespace Go.Proofs.YtbbgebpgpadclaaGreatDoor
open Go.RowKit Go.Sort Go.Shelf Go.Maps
theorem St.bool_of (p : Prop) : ∃ q : Bool, (q = true ↔ p) := by
 by_cases h : p
 ·exact ⟨true, by simp [h]⟩
 ·exact ⟨false, by simp [h]⟩
theorem St.toList_iff {a b : ByteArray} : a.toList = b.toList ↔ a = b := by
 have h := St.eq_iff (a := a) (b := b)
 rw [← h]
 unfold St.eq
 simp

theorem neqT (z x : Tir) (w : World) (q : Bool) (hq : q = true ↔ z = x) : Sem.run Tryz.prog (binOp .neq 65 (.agg #[.string z.name, .int .i64 z.room, .int .i64 z.cost, .bool z.away]) (.agg #[.string x.name, .int .i64 x.room, .int .i64 x.cost, .bool x.away])) w = .ok (.bool (!q)) w := by
 have u3 := Tryz.underlying3
 have a3 := Tryz.isAgg3
 have z3 := Tryz.sizeOf3
 have u9 := Tryz.underlying9
 have a9 := Tryz.isAgg9
 have z9 := Tryz.sizeOf9
 have u4 := Tryz.underlying4
 have a4 := Tryz.isAgg4
 have z4 := Tryz.sizeOf4
 have hS : Tryz.prog.underlying 65 = some (.struct (Tryz.prog.fieldsOf 65)) := by kernel_rfl
 have hp : Tryz.prog.stoodInHeld 65 = false := by kernel_rfl
 obtain ⟨zn, zr, zc, za⟩ := z
 obtain ⟨xn, xr, xc, xa⟩ := x
 obtain rfl : q = ((zn.toList == xn.toList) && ((zr == xr) && ((zc == xc) && (za == xa)))) := by
  rw [Bool.eq_iff_iff, hq]
  simp only [Bool.and_eq_true, beq_iff_eq, Tir.mk.injEq]
  first
   | rw [St.toList_iff, St.toList_iff]
   | rw [St.toList_iff]
   | skip
 rw [run_neq_struct, show (10000 : Nat) = 9999 + 1 from rfl, run_equalIn_agg w 9999 65 _ _ hS hp]
 simp only [Program.fieldsOf, Tryz.underlying65]
 cases h1 : (zn.toList == xn.toList) <;> cases h2 : (zr == xr) <;> cases h3 : (zc == xc) <;> cases za <;> cases xa
 all_goals
  go_simp
  try simp

theorem neqF (z x : Fil) (w : World) (q : Bool) (hq : q = true ↔ z = x) : Sem.run Tryz.prog (binOp .neq 68 (.agg #[.string z.dig, .int .i64 z.size, .int .i64 z.kind, .string z.frm]) (.agg #[.string x.dig, .int .i64 x.size, .int .i64 x.kind, .string x.frm])) w = .ok (.bool (!q)) w := by
 have u3 := Tryz.underlying3
 have a3 := Tryz.isAgg3
 have z3 := Tryz.sizeOf3
 have u9 := Tryz.underlying9
 have a9 := Tryz.isAgg9
 have z9 := Tryz.sizeOf9
 have u4 := Tryz.underlying4
 have a4 := Tryz.isAgg4
 have z4 := Tryz.sizeOf4
 have hS : Tryz.prog.underlying 68 = some (.struct (Tryz.prog.fieldsOf 68)) := by kernel_rfl
 have hp : Tryz.prog.stoodInHeld 68 = false := by kernel_rfl
 obtain ⟨zn, zr, zc, za⟩ := z
 obtain ⟨xn, xr, xc, xa⟩ := x
 obtain rfl : q = ((zn.toList == xn.toList) && ((zr == xr) && ((zc == xc) && (za.toList == xa.toList)))) := by
  rw [Bool.eq_iff_iff, hq]
  simp only [Bool.and_eq_true, beq_iff_eq, Fil.mk.injEq]
  first
   | rw [St.toList_iff, St.toList_iff]
   | rw [St.toList_iff]
   | skip
 rw [run_neq_struct, show (10000 : Nat) = 9999 + 1 from rfl, run_equalIn_agg w 9999 68 _ _ hS hp]
 simp only [Program.fieldsOf, Tryz.underlying68]
 cases h1 : (zn.toList == xn.toList) <;> cases h2 : (zr == xr) <;> cases h3 : (zc == xc) <;> cases h4 : (za.toList == xa.toList)
 all_goals
  go_simp
  try simp

theorem neqC (z x : Cop) (w : World) (q : Bool) (hq : q = true ↔ z = x) : Sem.run Tryz.prog (binOp .neq 70 (.agg #[.string z.dig, .string z.tier, .bool z.good, .int .i64 z.asked]) (.agg #[.string x.dig, .string x.tier, .bool x.good, .int .i64 x.asked])) w = .ok (.bool (!q)) w := by
 have u3 := Tryz.underlying3
 have a3 := Tryz.isAgg3
 have z3 := Tryz.sizeOf3
 have u9 := Tryz.underlying9
 have a9 := Tryz.isAgg9
 have z9 := Tryz.sizeOf9
 have u4 := Tryz.underlying4
 have a4 := Tryz.isAgg4
 have z4 := Tryz.sizeOf4
 have hS : Tryz.prog.underlying 70 = some (.struct (Tryz.prog.fieldsOf 70)) := by kernel_rfl
 have hp : Tryz.prog.stoodInHeld 70 = false := by kernel_rfl
 obtain ⟨zn, zr, zc, za⟩ := z
 obtain ⟨xn, xr, xc, xa⟩ := x
 obtain rfl : q = ((zn.toList == xn.toList) && ((zr.toList == xr.toList) && ((zc == xc) && (za == xa)))) := by
  rw [Bool.eq_iff_iff, hq]
  simp only [Bool.and_eq_true, beq_iff_eq, Cop.mk.injEq]
  first
   | rw [St.toList_iff, St.toList_iff]
   | rw [St.toList_iff]
   | skip
 rw [run_neq_struct, show (10000 : Nat) = 9999 + 1 from rfl, run_equalIn_agg w 9999 70 _ _ hS hp]
 simp only [Program.fieldsOf, Tryz.underlying70]
 cases h1 : (zn.toList == xn.toList) <;> cases h2 : (zr.toList == xr.toList) <;> cases zc <;> cases xc <;> cases h4 : (za == xa)
 all_goals
  go_simp
  try simp

theorem neqG (z x : Gon) (w : World) (q : Bool) (hq : q = true ↔ z = x) : Sem.run Tryz.prog (binOp .neq 72 (.agg #[.string z.dig, .int .i64 z.day]) (.agg #[.string x.dig, .int .i64 x.day])) w = .ok (.bool (!q)) w := by
 have u3 := Tryz.underlying3
 have a3 := Tryz.isAgg3
 have z3 := Tryz.sizeOf3
 have u9 := Tryz.underlying9
 have a9 := Tryz.isAgg9
 have z9 := Tryz.sizeOf9
 have u4 := Tryz.underlying4
 have a4 := Tryz.isAgg4
 have z4 := Tryz.sizeOf4
 have hS : Tryz.prog.underlying 72 = some (.struct (Tryz.prog.fieldsOf 72)) := by kernel_rfl
 have hp : Tryz.prog.stoodInHeld 72 = false := by kernel_rfl
 obtain ⟨zn, zr⟩ := z
 obtain ⟨xn, xr⟩ := x
 obtain rfl : q = ((zn.toList == xn.toList) && (zr == xr)) := by
  rw [Bool.eq_iff_iff, hq]
  simp only [Bool.and_eq_true, beq_iff_eq, Gon.mk.injEq]
  first
   | rw [St.toList_iff, St.toList_iff]
   | rw [St.toList_iff]
   | skip
 rw [run_neq_struct, show (10000 : Nat) = 9999 + 1 from rfl, run_equalIn_agg w 9999 72 _ _ hS hp]
 simp only [Program.fieldsOf, Tryz.underlying72]
 cases h1 : (zn.toList == xn.toList) <;> cases h2 : (zr == xr)
 all_goals
  go_simp
  try simp
theorem St.take_same {α : Type} {A B : List α} {j : Nat} (h : A.take j = B.take j) {x y : α} (hx : A[j]? = some x) (hy : B[j]? = some y) (he : x = y) : A.take (j + 1) = B.take (j + 1) := by
 rw [List.take_add_one, List.take_add_one, h, hx, hy, he]

theorem eqT_any (A B : List Tir) (a b : Option Addr) (ca cb : Nat) (w : World) (hx : RowE St.eT w a A) (hy : RowE St.eT w b B) (hn : A.length ≤ 9223372036854775807) (hm : B.length ≤ 9223372036854775807) (q : Bool) (hq : q = true ↔ A = B) :
  Calls Tryz.prog 30 #[.slice a A.length ca, .slice b B.length cb] w fun e w' => e = .returned (.bool q) ∧ Below w.heap.size w w' := by
 have HX := Lib.hid hx; have HY := Lib.hid hy; have HQ := Lib.hid hq
 obtain ⟨n, hnn⟩ : ∃ n, A.length = n := ⟨_, rfl⟩
 obtain ⟨m, hmm⟩ : ∃ m, B.length = m := ⟨_, rfl⟩
 have HN := Lib.hid hnn; have HM := Lib.hid hmm
 rw [hnn] at hn ⊢
 rw [hmm] at hm ⊢
 clear hx hy hnn hmm hq
 by_cases hl : n = m
 ·subst hl
  have hl' : ((n : Int) == (n : Int)) = true := by simp
  go_enter Tryz.func30, Tryz.ntmps30
  go_wp2_with fail
  go_loopg [13] n (fun gk i wr => ∃ j : Nat, j ≤ n ∧ gk = n - j ∧ i = .int .i64 j ∧ A.take j = B.take j ∧ Below w.heap.size w wr)
  case atStart => exact ⟨0, by omega, rfl, rfl, rfl, Below.refl _ _⟩
  case round =>
   obtain ⟨j, hj, rfl, rfl, htk, hB⟩ := hrel
   have HTK := Lib.hid htk
   clear htk
   by_cases hlt : j < n
   ·obtain ⟨x, hqx⟩ : ∃ x, A[j]? = some x := ⟨_, List.getElem?_eq_getElem (by rw [HN.out]; exact hlt)⟩
    obtain ⟨y, hqy⟩ : ∃ y, B[j]? = some y := ⟨_, List.getElem?_eq_getElem (by rw [HM.out]; exact hlt)⟩
    obtain ⟨b1, o1, ha1, hb1, hc1⟩ := HX.out.keep hB (by rw [HN.out]; omega)
    obtain ⟨b2, o2, ha2, hb2, hc2⟩ := HY.out.keep hB (by rw [HM.out]; omega)
    have c0 : wr.cell? ⟨b1, o1 + j * 4, none⟩ = some (.string x.name) := hc1 j x hqx 0 (.string x.name) rfl
    have c1 : wr.cell? ⟨b1, o1 + j * 4 + 1, none⟩ = some (.int .i64 x.room) := hc1 j x hqx 1 (.int .i64 x.room) rfl
    have c2 : wr.cell? ⟨b1, o1 + j * 4 + 2, none⟩ = some (.int .i64 x.cost) := hc1 j x hqx 2 (.int .i64 x.cost) rfl
    have c3 : wr.cell? ⟨b1, o1 + j * 4 + 3, none⟩ = some (.bool x.away) := hc1 j x hqx 3 (.bool x.away) rfl
    have d0 : wr.cell? ⟨b2, o2 + j * 4, none⟩ = some (.string y.name) := hc2 j y hqy 0 (.string y.name) rfl
    have d1 : wr.cell? ⟨b2, o2 + j * 4 + 1, none⟩ = some (.int .i64 y.room) := hc2 j y hqy 1 (.int .i64 y.room) rfl
    have d2 : wr.cell? ⟨b2, o2 + j * 4 + 2, none⟩ = some (.int .i64 y.cost) := hc2 j y hqy 2 (.int .i64 y.cost) rfl
    have d3 : wr.cell? ⟨b2, o2 + j * 4 + 3, none⟩ = some (.bool y.away) := hc2 j y hqy 3 (.bool y.away) rfl
    have hj0 : (0 : Int) ≤ (j : Int) := by omega
    have hj1 : (j : Int) < (n : Int) := by omega
    obtain ⟨p, hp⟩ := St.bool_of (x = y)
    have hne := fun V => neqT x y V p hp; have hgd := guardTir
    have HNX := Lib.hid (fun e : x = y => St.take_same HTK.out hqx hqy e)
    have HNO : Hid (x ≠ y → A ≠ B) := Lib.hid (fun hne e => hne (by subst e; rw [hqx] at hqy; exact Option.some.inj hqy))
    have HP := Lib.hid hp
    clear hc1 hc2 hqx hqy hp
    rw [ha1, ha2]
    cases p
    ·have hq0 : q = false := by
      cases hqq : q with
      | false => rfl
      | true => exact absurd (HQ.out.1 hqq) (HNO.out (fun e => absurd (HP.out.2 e) (by decide)))
     subst hq0
     go_wp2_with fail
     go_quiet (fail)
     go_wp2_with fail
     go_ret
     exact ⟨rfl, below_drewN hB _⟩
    ·go_wp2_with fail
     go_quiet (fail)
     go_wp2_with fail
     rw [← ha1, ← ha2]
     go_roundg (n - (j + 1))
     case rel => exact ⟨j + 1, by omega, rfl, by go_num, HNX.out (HP.out.1 (by first | rfl | trivial)), below_drewN hB _⟩
     case measure => omega
   ·obtain rfl : j = n := by omega
    have hjn : ¬ ((j : Int) < (j : Int)) := by omega
    have hq1 : q = true := HQ.out.2 (by
     have h := HTK.out
     rw [List.take_of_length_le (by rw [HN.out]; exact Nat.le_refl _), List.take_of_length_le (by rw [HM.out]; exact Nat.le_refl _)] at h
     exact h)
    subst hq1
    go_wp2_with fail
    go_ret
    exact ⟨rfl, hB⟩
 ·have hl' : ((n : Int) == (m : Int)) = false := by simp; omega
  have hq0 : q = false := by
   cases hqq : q with
   | false => rfl
   | true => exact absurd (by rw [← HN.out, ← HM.out, HQ.out.1 hqq]) hl
  subst hq0
  go_enter Tryz.func30, Tryz.ntmps30
  go_wp2_with fail
  go_ret
  exact ⟨rfl, Below.refl _ _⟩

theorem eqF_any (A B : List Fil) (a b : Option Addr) (ca cb : Nat) (w : World) (hx : RowE St.eF w a A) (hy : RowE St.eF w b B) (hn : A.length ≤ 9223372036854775807) (hm : B.length ≤ 9223372036854775807) (q : Bool) (hq : q = true ↔ A = B) :
  Calls Tryz.prog 31 #[.slice a A.length ca, .slice b B.length cb] w fun e w' => e = .returned (.bool q) ∧ Below w.heap.size w w' := by
 have HX := Lib.hid hx; have HY := Lib.hid hy; have HQ := Lib.hid hq
 obtain ⟨n, hnn⟩ : ∃ n, A.length = n := ⟨_, rfl⟩
 obtain ⟨m, hmm⟩ : ∃ m, B.length = m := ⟨_, rfl⟩
 have HN := Lib.hid hnn; have HM := Lib.hid hmm
 rw [hnn] at hn ⊢
 rw [hmm] at hm ⊢
 clear hx hy hnn hmm hq
 by_cases hl : n = m
 ·subst hl
  have hl' : ((n : Int) == (n : Int)) = true := by simp
  go_enter Tryz.func31, Tryz.ntmps31
  go_wp2_with fail
  go_loopg [13] n (fun gk i wr => ∃ j : Nat, j ≤ n ∧ gk = n - j ∧ i = .int .i64 j ∧ A.take j = B.take j ∧ Below w.heap.size w wr)
  case atStart => exact ⟨0, by omega, rfl, rfl, rfl, Below.refl _ _⟩
  case round =>
   obtain ⟨j, hj, rfl, rfl, htk, hB⟩ := hrel
   have HTK := Lib.hid htk
   clear htk
   by_cases hlt : j < n
   ·obtain ⟨x, hqx⟩ : ∃ x, A[j]? = some x := ⟨_, List.getElem?_eq_getElem (by rw [HN.out]; exact hlt)⟩
    obtain ⟨y, hqy⟩ : ∃ y, B[j]? = some y := ⟨_, List.getElem?_eq_getElem (by rw [HM.out]; exact hlt)⟩
    obtain ⟨b1, o1, ha1, hb1, hc1⟩ := HX.out.keep hB (by rw [HN.out]; omega)
    obtain ⟨b2, o2, ha2, hb2, hc2⟩ := HY.out.keep hB (by rw [HM.out]; omega)
    have c0 : wr.cell? ⟨b1, o1 + j * 4, none⟩ = some (.string x.dig) := hc1 j x hqx 0 (.string x.dig) rfl
    have c1 : wr.cell? ⟨b1, o1 + j * 4 + 1, none⟩ = some (.int .i64 x.size) := hc1 j x hqx 1 (.int .i64 x.size) rfl
    have c2 : wr.cell? ⟨b1, o1 + j * 4 + 2, none⟩ = some (.int .i64 x.kind) := hc1 j x hqx 2 (.int .i64 x.kind) rfl
    have c3 : wr.cell? ⟨b1, o1 + j * 4 + 3, none⟩ = some (.string x.frm) := hc1 j x hqx 3 (.string x.frm) rfl
    have d0 : wr.cell? ⟨b2, o2 + j * 4, none⟩ = some (.string y.dig) := hc2 j y hqy 0 (.string y.dig) rfl
    have d1 : wr.cell? ⟨b2, o2 + j * 4 + 1, none⟩ = some (.int .i64 y.size) := hc2 j y hqy 1 (.int .i64 y.size) rfl
    have d2 : wr.cell? ⟨b2, o2 + j * 4 + 2, none⟩ = some (.int .i64 y.kind) := hc2 j y hqy 2 (.int .i64 y.kind) rfl
    have d3 : wr.cell? ⟨b2, o2 + j * 4 + 3, none⟩ = some (.string y.frm) := hc2 j y hqy 3 (.string y.frm) rfl
    have hj0 : (0 : Int) ≤ (j : Int) := by omega
    have hj1 : (j : Int) < (n : Int) := by omega
    obtain ⟨p, hp⟩ := St.bool_of (x = y)
    have hne := fun V => neqF x y V p hp; have hgd := guardFil
    have HNX := Lib.hid (fun e : x = y => St.take_same HTK.out hqx hqy e)
    have HNO : Hid (x ≠ y → A ≠ B) := Lib.hid (fun hne e => hne (by subst e; rw [hqx] at hqy; exact Option.some.inj hqy))
    have HP := Lib.hid hp
    clear hc1 hc2 hqx hqy hp
    rw [ha1, ha2]
    cases p
    ·have hq0 : q = false := by
      cases hqq : q with
      | false => rfl
      | true => exact absurd (HQ.out.1 hqq) (HNO.out (fun e => absurd (HP.out.2 e) (by decide)))
     subst hq0
     go_wp2_with fail
     go_quiet (fail)
     go_wp2_with fail
     go_ret
     exact ⟨rfl, below_drewN hB _⟩
    ·go_wp2_with fail
     go_quiet (fail)
     go_wp2_with fail
     rw [← ha1, ← ha2]
     go_roundg (n - (j + 1))
     case rel => exact ⟨j + 1, by omega, rfl, by go_num, HNX.out (HP.out.1 (by first | rfl | trivial)), below_drewN hB _⟩
     case measure => omega
   ·obtain rfl : j = n := by omega
    have hjn : ¬ ((j : Int) < (j : Int)) := by omega
    have hq1 : q = true := HQ.out.2 (by
     have h := HTK.out
     rw [List.take_of_length_le (by rw [HN.out]; exact Nat.le_refl _), List.take_of_length_le (by rw [HM.out]; exact Nat.le_refl _)] at h
     exact h)
    subst hq1
    go_wp2_with fail
    go_ret
    exact ⟨rfl, hB⟩
 ·have hl' : ((n : Int) == (m : Int)) = false := by simp; omega
  have hq0 : q = false := by
   cases hqq : q with
   | false => rfl
   | true => exact absurd (by rw [← HN.out, ← HM.out, HQ.out.1 hqq]) hl
  subst hq0
  go_enter Tryz.func31, Tryz.ntmps31
  go_wp2_with fail
  go_ret
  exact ⟨rfl, Below.refl _ _⟩

theorem eqC_any (A B : List Cop) (a b : Option Addr) (ca cb : Nat) (w : World) (hx : RowE St.eC w a A) (hy : RowE St.eC w b B) (hn : A.length ≤ 9223372036854775807) (hm : B.length ≤ 9223372036854775807) (q : Bool) (hq : q = true ↔ A = B) :
  Calls Tryz.prog 32 #[.slice a A.length ca, .slice b B.length cb] w fun e w' => e = .returned (.bool q) ∧ Below w.heap.size w w' := by
 have HX := Lib.hid hx; have HY := Lib.hid hy; have HQ := Lib.hid hq
 obtain ⟨n, hnn⟩ : ∃ n, A.length = n := ⟨_, rfl⟩
 obtain ⟨m, hmm⟩ : ∃ m, B.length = m := ⟨_, rfl⟩
 have HN := Lib.hid hnn; have HM := Lib.hid hmm
 rw [hnn] at hn ⊢
 rw [hmm] at hm ⊢
 clear hx hy hnn hmm hq
 by_cases hl : n = m
 ·subst hl
  have hl' : ((n : Int) == (n : Int)) = true := by simp
  go_enter Tryz.func32, Tryz.ntmps32
  go_wp2_with fail
  go_loopg [13] n (fun gk i wr => ∃ j : Nat, j ≤ n ∧ gk = n - j ∧ i = .int .i64 j ∧ A.take j = B.take j ∧ Below w.heap.size w wr)
  case atStart => exact ⟨0, by omega, rfl, rfl, rfl, Below.refl _ _⟩
  case round =>
   obtain ⟨j, hj, rfl, rfl, htk, hB⟩ := hrel
   have HTK := Lib.hid htk
   clear htk
   by_cases hlt : j < n
   ·obtain ⟨x, hqx⟩ : ∃ x, A[j]? = some x := ⟨_, List.getElem?_eq_getElem (by rw [HN.out]; exact hlt)⟩
    obtain ⟨y, hqy⟩ : ∃ y, B[j]? = some y := ⟨_, List.getElem?_eq_getElem (by rw [HM.out]; exact hlt)⟩
    obtain ⟨b1, o1, ha1, hb1, hc1⟩ := HX.out.keep hB (by rw [HN.out]; omega)
    obtain ⟨b2, o2, ha2, hb2, hc2⟩ := HY.out.keep hB (by rw [HM.out]; omega)
    have c0 : wr.cell? ⟨b1, o1 + j * 4, none⟩ = some (.string x.dig) := hc1 j x hqx 0 (.string x.dig) rfl
    have c1 : wr.cell? ⟨b1, o1 + j * 4 + 1, none⟩ = some (.string x.tier) := hc1 j x hqx 1 (.string x.tier) rfl
    have c2 : wr.cell? ⟨b1, o1 + j * 4 + 2, none⟩ = some (.bool x.good) := hc1 j x hqx 2 (.bool x.good) rfl
    have c3 : wr.cell? ⟨b1, o1 + j * 4 + 3, none⟩ = some (.int .i64 x.asked) := hc1 j x hqx 3 (.int .i64 x.asked) rfl
    have d0 : wr.cell? ⟨b2, o2 + j * 4, none⟩ = some (.string y.dig) := hc2 j y hqy 0 (.string y.dig) rfl
    have d1 : wr.cell? ⟨b2, o2 + j * 4 + 1, none⟩ = some (.string y.tier) := hc2 j y hqy 1 (.string y.tier) rfl
    have d2 : wr.cell? ⟨b2, o2 + j * 4 + 2, none⟩ = some (.bool y.good) := hc2 j y hqy 2 (.bool y.good) rfl
    have d3 : wr.cell? ⟨b2, o2 + j * 4 + 3, none⟩ = some (.int .i64 y.asked) := hc2 j y hqy 3 (.int .i64 y.asked) rfl
    have hj0 : (0 : Int) ≤ (j : Int) := by omega
    have hj1 : (j : Int) < (n : Int) := by omega
    obtain ⟨p, hp⟩ := St.bool_of (x = y)
    have hne := fun V => neqC x y V p hp; have hgd := guardCop
    have HNX := Lib.hid (fun e : x = y => St.take_same HTK.out hqx hqy e)
    have HNO : Hid (x ≠ y → A ≠ B) := Lib.hid (fun hne e => hne (by subst e; rw [hqx] at hqy; exact Option.some.inj hqy))
    have HP := Lib.hid hp
    clear hc1 hc2 hqx hqy hp
    rw [ha1, ha2]
    cases p
    ·have hq0 : q = false := by
      cases hqq : q with
      | false => rfl
      | true => exact absurd (HQ.out.1 hqq) (HNO.out (fun e => absurd (HP.out.2 e) (by decide)))
     subst hq0
     go_wp2_with fail
     go_quiet (fail)
     go_wp2_with fail
     go_ret
     exact ⟨rfl, below_drewN hB _⟩
    ·go_wp2_with fail
     go_quiet (fail)
     go_wp2_with fail
     rw [← ha1, ← ha2]
     go_roundg (n - (j + 1))
     case rel => exact ⟨j + 1, by omega, rfl, by go_num, HNX.out (HP.out.1 (by first | rfl | trivial)), below_drewN hB _⟩
     case measure => omega
   ·obtain rfl : j = n := by omega
    have hjn : ¬ ((j : Int) < (j : Int)) := by omega
    have hq1 : q = true := HQ.out.2 (by
     have h := HTK.out
     rw [List.take_of_length_le (by rw [HN.out]; exact Nat.le_refl _), List.take_of_length_le (by rw [HM.out]; exact Nat.le_refl _)] at h
     exact h)
    subst hq1
    go_wp2_with fail
    go_ret
    exact ⟨rfl, hB⟩
 ·have hl' : ((n : Int) == (m : Int)) = false := by simp; omega
  have hq0 : q = false := by
   cases hqq : q with
   | false => rfl
   | true => exact absurd (by rw [← HN.out, ← HM.out, HQ.out.1 hqq]) hl
  subst hq0
  go_enter Tryz.func32, Tryz.ntmps32
  go_wp2_with fail
  go_ret
  exact ⟨rfl, Below.refl _ _⟩

theorem eqG_any (A B : List Gon) (a b : Option Addr) (ca cb : Nat) (w : World) (hx : RowE St.eG w a A) (hy : RowE St.eG w b B) (hn : A.length ≤ 9223372036854775807) (hm : B.length ≤ 9223372036854775807) (q : Bool) (hq : q = true ↔ A = B) :
  Calls Tryz.prog 34 #[.slice a A.length ca, .slice b B.length cb] w fun e w' => e = .returned (.bool q) ∧ Below w.heap.size w w' := by
 have HX := Lib.hid hx; have HY := Lib.hid hy; have HQ := Lib.hid hq
 obtain ⟨n, hnn⟩ : ∃ n, A.length = n := ⟨_, rfl⟩
 obtain ⟨m, hmm⟩ : ∃ m, B.length = m := ⟨_, rfl⟩
 have HN := Lib.hid hnn; have HM := Lib.hid hmm
 rw [hnn] at hn ⊢
 rw [hmm] at hm ⊢
 clear hx hy hnn hmm hq
 by_cases hl : n = m
 ·subst hl
  have hl' : ((n : Int) == (n : Int)) = true := by simp
  go_enter Tryz.func34, Tryz.ntmps34
  go_wp2_with fail
  go_loopg [13] n (fun gk i wr => ∃ j : Nat, j ≤ n ∧ gk = n - j ∧ i = .int .i64 j ∧ A.take j = B.take j ∧ Below w.heap.size w wr)
  case atStart => exact ⟨0, by omega, rfl, rfl, rfl, Below.refl _ _⟩
  case round =>
   obtain ⟨j, hj, rfl, rfl, htk, hB⟩ := hrel
   have HTK := Lib.hid htk
   clear htk
   by_cases hlt : j < n
   ·obtain ⟨x, hqx⟩ : ∃ x, A[j]? = some x := ⟨_, List.getElem?_eq_getElem (by rw [HN.out]; exact hlt)⟩
    obtain ⟨y, hqy⟩ : ∃ y, B[j]? = some y := ⟨_, List.getElem?_eq_getElem (by rw [HM.out]; exact hlt)⟩
    obtain ⟨b1, o1, ha1, hb1, hc1⟩ := HX.out.keep hB (by rw [HN.out]; omega)
    obtain ⟨b2, o2, ha2, hb2, hc2⟩ := HY.out.keep hB (by rw [HM.out]; omega)
    have c0 : wr.cell? ⟨b1, o1 + j * 2, none⟩ = some (.string x.dig) := hc1 j x hqx 0 (.string x.dig) rfl
    have c1 : wr.cell? ⟨b1, o1 + j * 2 + 1, none⟩ = some (.int .i64 x.day) := hc1 j x hqx 1 (.int .i64 x.day) rfl
    have d0 : wr.cell? ⟨b2, o2 + j * 2, none⟩ = some (.string y.dig) := hc2 j y hqy 0 (.string y.dig) rfl
    have d1 : wr.cell? ⟨b2, o2 + j * 2 + 1, none⟩ = some (.int .i64 y.day) := hc2 j y hqy 1 (.int .i64 y.day) rfl
    have hj0 : (0 : Int) ≤ (j : Int) := by omega
    have hj1 : (j : Int) < (n : Int) := by omega
    obtain ⟨p, hp⟩ := St.bool_of (x = y)
    have hne := fun V => neqG x y V p hp; have hgd := guardGon
    have HNX := Lib.hid (fun e : x = y => St.take_same HTK.out hqx hqy e)
    have HNO : Hid (x ≠ y → A ≠ B) := Lib.hid (fun hne e => hne (by subst e; rw [hqx] at hqy; exact Option.some.inj hqy))
    have HP := Lib.hid hp
    clear hc1 hc2 hqx hqy hp
    rw [ha1, ha2]
    cases p
    ·have hq0 : q = false := by
      cases hqq : q with
      | false => rfl
      | true => exact absurd (HQ.out.1 hqq) (HNO.out (fun e => absurd (HP.out.2 e) (by decide)))
     subst hq0
     go_wp2_with fail
     go_quiet (fail)
     go_wp2_with fail
     go_ret
     exact ⟨rfl, below_drewN hB _⟩
    ·go_wp2_with fail
     go_quiet (fail)
     go_wp2_with fail
     rw [← ha1, ← ha2]
     go_roundg (n - (j + 1))
     case rel => exact ⟨j + 1, by omega, rfl, by go_num, HNX.out (HP.out.1 (by first | rfl | trivial)), below_drewN hB _⟩
     case measure => omega
   ·obtain rfl : j = n := by omega
    have hjn : ¬ ((j : Int) < (j : Int)) := by omega
    have hq1 : q = true := HQ.out.2 (by
     have h := HTK.out
     rw [List.take_of_length_le (by rw [HN.out]; exact Nat.le_refl _), List.take_of_length_le (by rw [HM.out]; exact Nat.le_refl _)] at h
     exact h)
    subst hq1
    go_wp2_with fail
    go_ret
    exact ⟨rfl, hB⟩
 ·have hl' : ((n : Int) == (m : Int)) = false := by simp; omega
  have hq0 : q = false := by
   cases hqq : q with
   | false => rfl
   | true => exact absurd (by rw [← HN.out, ← HM.out, HQ.out.1 hqq]) hl
  subst hq0
  go_enter Tryz.func34, Tryz.ntmps34
  go_wp2_with fail
  go_ret
  exact ⟨rfl, Below.refl _ _⟩

theorem eqS_any (A B : List ByteArray) (a b : Option Addr) (ca cb : Nat) (w : World) (hx : RowE St.eS w a A) (hy : RowE St.eS w b B) (hn : A.length ≤ 9223372036854775807) (hm : B.length ≤ 9223372036854775807) (q : Bool) (hq : q = true ↔ A = B) :
  Calls Tryz.prog 33 #[.slice a A.length ca, .slice b B.length cb] w fun e w' => e = .returned (.bool q) ∧ Below w.heap.size w w' := by
 have HX := Lib.hid hx; have HY := Lib.hid hy; have HQ := Lib.hid hq
 obtain ⟨n, hnn⟩ : ∃ n, A.length = n := ⟨_, rfl⟩
 obtain ⟨m, hmm⟩ : ∃ m, B.length = m := ⟨_, rfl⟩
 have HN := Lib.hid hnn; have HM := Lib.hid hmm
 rw [hnn] at hn ⊢
 rw [hmm] at hm ⊢
 clear hx hy hnn hmm hq
 by_cases hl : n = m
 ·subst hl
  have hl' : ((n : Int) == (n : Int)) = true := by simp
  go_enter Tryz.func33, Tryz.ntmps33
  go_wp2_with fail
  go_loopg [13] n (fun gk i wr => ∃ j : Nat, j ≤ n ∧ gk = n - j ∧ i = .int .i64 j ∧ A.take j = B.take j ∧ Below w.heap.size w wr)
  case atStart => exact ⟨0, by omega, rfl, rfl, rfl, Below.refl _ _⟩
  case round =>
   obtain ⟨j, hj, rfl, rfl, htk, hB⟩ := hrel
   have HTK := Lib.hid htk
   clear htk
   by_cases hlt : j < n
   ·obtain ⟨x, hqx⟩ : ∃ x, A[j]? = some x := ⟨_, List.getElem?_eq_getElem (by rw [HN.out]; exact hlt)⟩
    obtain ⟨y, hqy⟩ : ∃ y, B[j]? = some y := ⟨_, List.getElem?_eq_getElem (by rw [HM.out]; exact hlt)⟩
    obtain ⟨b1, o1, ha1, hb1, hc1⟩ := HX.out.keep hB (by rw [HN.out]; omega)
    obtain ⟨b2, o2, ha2, hb2, hc2⟩ := HY.out.keep hB (by rw [HM.out]; omega)
    have c0 : wr.cell? ⟨b1, o1 + j, none⟩ = some (.string x) := by have := hc1 j x hqx 0 (.string x) rfl; rw [show o1 + j * St.eS.k + 0 = o1 + j by simp [St.eS]] at this; exact this
    have d0 : wr.cell? ⟨b2, o2 + j, none⟩ = some (.string y) := by have := hc2 j y hqy 0 (.string y) rfl; rw [show o2 + j * St.eS.k + 0 = o2 + j by simp [St.eS]] at this; exact this
    have hj0 : (0 : Int) ≤ (j : Int) := by omega
    have hj1 : (j : Int) < (n : Int) := by omega
    obtain ⟨p, hp⟩ := St.bool_of (x = y)
    have hne : (x.toList == y.toList) = p := (by rw [Bool.eq_iff_iff, hp]; simp [St.toList_iff]); have hnn : (x.toList != y.toList) = !p := (by rw [← hne]; rfl)
    have HNX := Lib.hid (fun e : x = y => St.take_same HTK.out hqx hqy e)
    have HNO : Hid (x ≠ y → A ≠ B) := Lib.hid (fun hne e => hne (by subst e; rw [hqx] at hqy; exact Option.some.inj hqy))
    have HP := Lib.hid hp
    clear hc1 hc2 hqx hqy hp
    rw [ha1, ha2]
    cases p
    ·have hq0 : q = false := by
      cases hqq : q with
      | false => rfl
      | true => exact absurd (HQ.out.1 hqq) (HNO.out (fun e => absurd (HP.out.2 e) (by decide)))
     subst hq0
     go_wp2_with fail
     go_quiet (fail)
     go_wp2_with fail
     go_ret
     exact ⟨rfl, below_drewN hB _⟩
    ·go_wp2_with fail
     go_quiet (fail)
     go_wp2_with fail
     rw [← ha1, ← ha2]
     go_roundg (n - (j + 1))
     case rel => exact ⟨j + 1, by omega, rfl, by go_num, HNX.out (HP.out.1 (by first | rfl | trivial)), below_drewN hB _⟩
     case measure => omega
   ·obtain rfl : j = n := by omega
    have hjn : ¬ ((j : Int) < (j : Int)) := by omega
    have hq1 : q = true := HQ.out.2 (by
     have h := HTK.out
     rw [List.take_of_length_le (by rw [HN.out]; exact Nat.le_refl _), List.take_of_length_le (by rw [HM.out]; exact Nat.le_refl _)] at h
     exact h)
    subst hq1
    go_wp2_with fail
    go_ret
    exact ⟨rfl, hB⟩
 ·have hl' : ((n : Int) == (m : Int)) = false := by simp; omega
  have hq0 : q = false := by
   cases hqq : q with
   | false => rfl
   | true => exact absurd (by rw [← HN.out, ← HM.out, HQ.out.1 hqq]) hl
  subst hq0
  go_enter Tryz.func33, Tryz.ntmps33
  go_wp2_with fail
  go_ret
  exact ⟨rfl, Below.refl _ _⟩
theorem Sto.eq_iff {s t : Sto} : s = t ↔ s.least = t.least ∧ s.wait = t.wait ∧ s.tiers = t.tiers ∧ s.files = t.files ∧ s.copies = t.copies ∧ s.held = t.held ∧ s.bin = t.bin := by
 cases s; cases t; simp
theorem sameP_any (s t : Sto) (a b : StA) (w : World) (hA : StIn w s a) (hB : StIn w t b) (q : Bool) (hq : q = true ↔ s = t) : Calls Tryz.prog 10 #[.agg #[.int .i64 s.least, .int .i64 s.wait, .slice a.ta s.tiers.length a.tc, .slice a.fa s.files.length a.fc, .slice a.ca s.copies.length a.cc, .slice a.ha s.held.length a.hc, .slice a.ba s.bin.length a.bc], .agg #[.int .i64 t.least, .int .i64 t.wait, .slice b.ta t.tiers.length b.tc, .slice b.fa t.files.length b.fc, .slice b.ca t.copies.length b.cc, .slice b.ha t.held.length b.hc, .slice b.ba t.bin.length b.bc]] w fun e w' => e = .returned (.bool q) ∧ Below w.heap.size w w' := by
 obtain ⟨W1, hW1, hP, hz1, hB1⟩ := box w #[.int .i64 s.least, .int .i64 s.wait, .slice a.ta s.tiers.length a.tc, .slice a.fa s.files.length a.fc, .slice a.ca s.copies.length a.cc, .slice a.ha s.held.length a.hc, .slice a.ba s.bin.length a.bc] 28
 obtain ⟨W2, hW2, hQ, hz2, hB2⟩ := box W1 #[.int .i64 t.least, .int .i64 t.wait, .slice b.ta t.tiers.length b.tc, .slice b.fa t.files.length b.fc, .slice b.ca t.copies.length b.cc, .slice b.ha t.held.length b.hc, .slice b.ba t.bin.length b.bc] 28
 have HW1 := Lib.hid hW1; have HW2 := Lib.hid hW2
 have hP := hP.keep hB2
 rw [hz1] at hQ
 have hBB := below_up hB1 hB2
 have HBB := Lib.hid hBB
 have HCL : Hid (∀ V, Below W2.heap.size W2 V → (V.cell? ⟨w.heap.size, 0, none⟩ = some (.int .i64 s.least) ∧ V.cell? ⟨w.heap.size, 1, none⟩ = some (.int .i64 s.wait) ∧ V.cell? ⟨w.heap.size, 2, none⟩ = some (.slice a.ta s.tiers.length a.tc) ∧ V.cell? ⟨w.heap.size, 3, none⟩ = some (.slice a.fa s.files.length a.fc) ∧ V.cell? ⟨w.heap.size, 4, none⟩ = some (.slice a.ca s.copies.length a.cc) ∧ V.cell? ⟨w.heap.size, 5, none⟩ = some (.slice a.ha s.held.length a.hc) ∧ V.cell? ⟨w.heap.size, 6, none⟩ = some (.slice a.ba s.bin.length a.bc)) ∧ V.cell? ⟨w.heap.size + 1, 0, none⟩ = some (.int .i64 t.least) ∧ V.cell? ⟨w.heap.size + 1, 1, none⟩ = some (.int .i64 t.wait) ∧ V.cell? ⟨w.heap.size + 1, 2, none⟩ = some (.slice b.ta t.tiers.length b.tc) ∧ V.cell? ⟨w.heap.size + 1, 3, none⟩ = some (.slice b.fa t.files.length b.fc) ∧ V.cell? ⟨w.heap.size + 1, 4, none⟩ = some (.slice b.ca t.copies.length b.cc) ∧ V.cell? ⟨w.heap.size + 1, 5, none⟩ = some (.slice b.ha t.held.length b.hc) ∧ V.cell? ⟨w.heap.size + 1, 6, none⟩ = some (.slice b.ba t.bin.length b.bc)) := Lib.hid fun V hv => ⟨(hP.keep hv).seven, (hQ.keep hv).seven⟩
 have IA := Lib.hid (fun V (hv : Below W2.heap.size W2 V) => hA.keep (below_up hBB hv))
 have IB := Lib.hid (fun V (hv : Below W2.heap.size W2 V) => hB.keep (below_up hBB hv))
 have t1 := hA.tl; have t2 := hA.fl; have t3 := hA.cl; have t4 := hA.hl; have t5 := hA.bl
 have v1 := hB.tl; have v2 := hB.fl; have v3 := hB.cl; have v4 := hB.hl; have v5 := hB.bl
 obtain ⟨k1, h1⟩ := St.bool_of (s.tiers = t.tiers)
 obtain ⟨k2, h2⟩ := St.bool_of (s.files = t.files)
 obtain ⟨k3, h3⟩ := St.bool_of (s.copies = t.copies)
 obtain ⟨k4, h4⟩ := St.bool_of (s.held = t.held)
 obtain ⟨k5, h5⟩ := St.bool_of (s.bin = t.bin)
 obtain ⟨l1, g1⟩ : ∃ l1, (s.least == t.least) = l1 := ⟨_, rfl⟩
 obtain ⟨l2, g2⟩ : ∃ l2, (s.wait == t.wait) = l2 := ⟨_, rfl⟩
 have HQ : Hid (q = (l1 && (l2 && (k1 && (k2 && (k3 && (k4 && k5))))))) := Lib.hid (by
  rw [Bool.eq_iff_iff, hq, Sto.eq_iff, ← g1, ← g2]
  simp only [Bool.and_eq_true, beq_iff_eq, h1, h2, h3, h4, h5])
 have HE1 := Lib.hid (fun V hv => eqT_any s.tiers t.tiers a.ta b.ta a.tc b.tc V (IA.out V hv).ti (IB.out V hv).ti (by omega) (by omega) k1 h1)
 have HE2 := Lib.hid (fun V hv => eqF_any s.files t.files a.fa b.fa a.fc b.fc V (IA.out V hv).fi (IB.out V hv).fi (by omega) (by omega) k2 h2)
 have HE3 := Lib.hid (fun V hv => eqC_any s.copies t.copies a.ca b.ca a.cc b.cc V (IA.out V hv).co (IB.out V hv).co (by omega) (by omega) k3 h3)
 have HE4 := Lib.hid (fun V hv => eqS_any s.held t.held a.ha b.ha a.hc b.hc V (IA.out V hv).he (IB.out V hv).he (by omega) (by omega) k4 h4)
 have HE5 := Lib.hid (fun V hv => eqG_any s.bin t.bin a.ba b.ba a.bc b.bc V (IA.out V hv).bi (IB.out V hv).bi (by omega) (by omega) k5 h5)
 clear hA hB hW1 hW2 hP hQ hz1 hz2 hB1 hB2 hBB t1 t2 t3 t4 t5 v1 v2 v3 v4 v5 h1 h2 h3 h4 h5 hq
 have hv : Below W2.heap.size W2 W2 := Below.refl _ _
 obtain ⟨⟨p0, p1, p2, p3, p4, p5, p6⟩, q0, q1, q2, q3, q4, q5, q6⟩ := HCL.out _ hv
 go_enter Tryz.func10, Tryz.ntmps10
 go_upto_region 1 with fail
 rw [HW1.out, HW2.out]
 cases l1
 ·go_wp2_with (first | (go_at_call 30; (with_reducible refine (HE1.out _ hv).mono ?_); rintro e wq ⟨rfl, hq⟩; have hv := below_up hv hq; obtain ⟨⟨p0, p1, p2, p3, p4, p5, p6⟩, q0, q1, q2, q3, q4, q5, q6⟩ := HCL.out _ hv) | (go_at_call 31; (with_reducible refine (HE2.out _ hv).mono ?_); rintro e wq ⟨rfl, hq⟩; have hv := below_up hv hq; obtain ⟨⟨p0, p1, p2, p3, p4, p5, p6⟩, q0, q1, q2, q3, q4, q5, q6⟩ := HCL.out _ hv) | (go_at_call 32; (with_reducible refine (HE3.out _ hv).mono ?_); rintro e wq ⟨rfl, hq⟩; have hv := below_up hv hq; obtain ⟨⟨p0, p1, p2, p3, p4, p5, p6⟩, q0, q1, q2, q3, q4, q5, q6⟩ := HCL.out _ hv) | (go_at_call 33; (with_reducible refine (HE4.out _ hv).mono ?_); rintro e wq ⟨rfl, hq⟩; have hv := below_up hv hq; obtain ⟨⟨p0, p1, p2, p3, p4, p5, p6⟩, q0, q1, q2, q3, q4, q5, q6⟩ := HCL.out _ hv) | (go_at_call 34; (with_reducible refine (HE5.out _ hv).mono ?_); rintro e wq ⟨rfl, hq⟩; have hv := below_up hv hq))
  go_ret
  exact ⟨ret_bool (by rw [HQ.out]; simp), below_up HBB.out hv⟩
 ·cases l2
  ·go_wp2_with (first | (go_at_call 30; (with_reducible refine (HE1.out _ hv).mono ?_); rintro e wq ⟨rfl, hq⟩; have hv := below_up hv hq; obtain ⟨⟨p0, p1, p2, p3, p4, p5, p6⟩, q0, q1, q2, q3, q4, q5, q6⟩ := HCL.out _ hv) | (go_at_call 31; (with_reducible refine (HE2.out _ hv).mono ?_); rintro e wq ⟨rfl, hq⟩; have hv := below_up hv hq; obtain ⟨⟨p0, p1, p2, p3, p4, p5, p6⟩, q0, q1, q2, q3, q4, q5, q6⟩ := HCL.out _ hv) | (go_at_call 32; (with_reducible refine (HE3.out _ hv).mono ?_); rintro e wq ⟨rfl, hq⟩; have hv := below_up hv hq; obtain ⟨⟨p0, p1, p2, p3, p4, p5, p6⟩, q0, q1, q2, q3, q4, q5, q6⟩ := HCL.out _ hv) | (go_at_call 33; (with_reducible refine (HE4.out _ hv).mono ?_); rintro e wq ⟨rfl, hq⟩; have hv := below_up hv hq; obtain ⟨⟨p0, p1, p2, p3, p4, p5, p6⟩, q0, q1, q2, q3, q4, q5, q6⟩ := HCL.out _ hv) | (go_at_call 34; (with_reducible refine (HE5.out _ hv).mono ?_); rintro e wq ⟨rfl, hq⟩; have hv := below_up hv hq))
   go_ret
   exact ⟨ret_bool (by rw [HQ.out]; simp), below_up HBB.out hv⟩
  ·cases k1
   ·go_wp2_with (first | (go_at_call 30; (with_reducible refine (HE1.out _ hv).mono ?_); rintro e wq ⟨rfl, hq⟩; have hv := below_up hv hq; obtain ⟨⟨p0, p1, p2, p3, p4, p5, p6⟩, q0, q1, q2, q3, q4, q5, q6⟩ := HCL.out _ hv) | (go_at_call 31; (with_reducible refine (HE2.out _ hv).mono ?_); rintro e wq ⟨rfl, hq⟩; have hv := below_up hv hq; obtain ⟨⟨p0, p1, p2, p3, p4, p5, p6⟩, q0, q1, q2, q3, q4, q5, q6⟩ := HCL.out _ hv) | (go_at_call 32; (with_reducible refine (HE3.out _ hv).mono ?_); rintro e wq ⟨rfl, hq⟩; have hv := below_up hv hq; obtain ⟨⟨p0, p1, p2, p3, p4, p5, p6⟩, q0, q1, q2, q3, q4, q5, q6⟩ := HCL.out _ hv) | (go_at_call 33; (with_reducible refine (HE4.out _ hv).mono ?_); rintro e wq ⟨rfl, hq⟩; have hv := below_up hv hq; obtain ⟨⟨p0, p1, p2, p3, p4, p5, p6⟩, q0, q1, q2, q3, q4, q5, q6⟩ := HCL.out _ hv) | (go_at_call 34; (with_reducible refine (HE5.out _ hv).mono ?_); rintro e wq ⟨rfl, hq⟩; have hv := below_up hv hq))
    go_ret
    exact ⟨ret_bool (by rw [HQ.out]; simp), below_up HBB.out hv⟩
   ·cases k2
    ·go_wp2_with (first | (go_at_call 30; (with_reducible refine (HE1.out _ hv).mono ?_); rintro e wq ⟨rfl, hq⟩; have hv := below_up hv hq; obtain ⟨⟨p0, p1, p2, p3, p4, p5, p6⟩, q0, q1, q2, q3, q4, q5, q6⟩ := HCL.out _ hv) | (go_at_call 31; (with_reducible refine (HE2.out _ hv).mono ?_); rintro e wq ⟨rfl, hq⟩; have hv := below_up hv hq; obtain ⟨⟨p0, p1, p2, p3, p4, p5, p6⟩, q0, q1, q2, q3, q4, q5, q6⟩ := HCL.out _ hv) | (go_at_call 32; (with_reducible refine (HE3.out _ hv).mono ?_); rintro e wq ⟨rfl, hq⟩; have hv := below_up hv hq; obtain ⟨⟨p0, p1, p2, p3, p4, p5, p6⟩, q0, q1, q2, q3, q4, q5, q6⟩ := HCL.out _ hv) | (go_at_call 33; (with_reducible refine (HE4.out _ hv).mono ?_); rintro e wq ⟨rfl, hq⟩; have hv := below_up hv hq; obtain ⟨⟨p0, p1, p2, p3, p4, p5, p6⟩, q0, q1, q2, q3, q4, q5, q6⟩ := HCL.out _ hv) | (go_at_call 34; (with_reducible refine (HE5.out _ hv).mono ?_); rintro e wq ⟨rfl, hq⟩; have hv := below_up hv hq))
     go_ret
     exact ⟨ret_bool (by rw [HQ.out]; simp), below_up HBB.out hv⟩
    ·cases k3
     ·go_wp2_with (first | (go_at_call 30; (with_reducible refine (HE1.out _ hv).mono ?_); rintro e wq ⟨rfl, hq⟩; have hv := below_up hv hq; obtain ⟨⟨p0, p1, p2, p3, p4, p5, p6⟩, q0, q1, q2, q3, q4, q5, q6⟩ := HCL.out _ hv) | (go_at_call 31; (with_reducible refine (HE2.out _ hv).mono ?_); rintro e wq ⟨rfl, hq⟩; have hv := below_up hv hq; obtain ⟨⟨p0, p1, p2, p3, p4, p5, p6⟩, q0, q1, q2, q3, q4, q5, q6⟩ := HCL.out _ hv) | (go_at_call 32; (with_reducible refine (HE3.out _ hv).mono ?_); rintro e wq ⟨rfl, hq⟩; have hv := below_up hv hq; obtain ⟨⟨p0, p1, p2, p3, p4, p5, p6⟩, q0, q1, q2, q3, q4, q5, q6⟩ := HCL.out _ hv) | (go_at_call 33; (with_reducible refine (HE4.out _ hv).mono ?_); rintro e wq ⟨rfl, hq⟩; have hv := below_up hv hq; obtain ⟨⟨p0, p1, p2, p3, p4, p5, p6⟩, q0, q1, q2, q3, q4, q5, q6⟩ := HCL.out _ hv) | (go_at_call 34; (with_reducible refine (HE5.out _ hv).mono ?_); rintro e wq ⟨rfl, hq⟩; have hv := below_up hv hq))
      go_ret
      exact ⟨ret_bool (by rw [HQ.out]; simp), below_up HBB.out hv⟩
     ·cases k4
      ·go_wp2_with (first | (go_at_call 30; (with_reducible refine (HE1.out _ hv).mono ?_); rintro e wq ⟨rfl, hq⟩; have hv := below_up hv hq; obtain ⟨⟨p0, p1, p2, p3, p4, p5, p6⟩, q0, q1, q2, q3, q4, q5, q6⟩ := HCL.out _ hv) | (go_at_call 31; (with_reducible refine (HE2.out _ hv).mono ?_); rintro e wq ⟨rfl, hq⟩; have hv := below_up hv hq; obtain ⟨⟨p0, p1, p2, p3, p4, p5, p6⟩, q0, q1, q2, q3, q4, q5, q6⟩ := HCL.out _ hv) | (go_at_call 32; (with_reducible refine (HE3.out _ hv).mono ?_); rintro e wq ⟨rfl, hq⟩; have hv := below_up hv hq; obtain ⟨⟨p0, p1, p2, p3, p4, p5, p6⟩, q0, q1, q2, q3, q4, q5, q6⟩ := HCL.out _ hv) | (go_at_call 33; (with_reducible refine (HE4.out _ hv).mono ?_); rintro e wq ⟨rfl, hq⟩; have hv := below_up hv hq; obtain ⟨⟨p0, p1, p2, p3, p4, p5, p6⟩, q0, q1, q2, q3, q4, q5, q6⟩ := HCL.out _ hv) | (go_at_call 34; (with_reducible refine (HE5.out _ hv).mono ?_); rintro e wq ⟨rfl, hq⟩; have hv := below_up hv hq))
       go_ret
       exact ⟨ret_bool (by rw [HQ.out]; simp), below_up HBB.out hv⟩
      ·go_wp2_with (first | (go_at_call 30; (with_reducible refine (HE1.out _ hv).mono ?_); rintro e wq ⟨rfl, hq⟩; have hv := below_up hv hq; obtain ⟨⟨p0, p1, p2, p3, p4, p5, p6⟩, q0, q1, q2, q3, q4, q5, q6⟩ := HCL.out _ hv) | (go_at_call 31; (with_reducible refine (HE2.out _ hv).mono ?_); rintro e wq ⟨rfl, hq⟩; have hv := below_up hv hq; obtain ⟨⟨p0, p1, p2, p3, p4, p5, p6⟩, q0, q1, q2, q3, q4, q5, q6⟩ := HCL.out _ hv) | (go_at_call 32; (with_reducible refine (HE3.out _ hv).mono ?_); rintro e wq ⟨rfl, hq⟩; have hv := below_up hv hq; obtain ⟨⟨p0, p1, p2, p3, p4, p5, p6⟩, q0, q1, q2, q3, q4, q5, q6⟩ := HCL.out _ hv) | (go_at_call 33; (with_reducible refine (HE4.out _ hv).mono ?_); rintro e wq ⟨rfl, hq⟩; have hv := below_up hv hq; obtain ⟨⟨p0, p1, p2, p3, p4, p5, p6⟩, q0, q1, q2, q3, q4, q5, q6⟩ := HCL.out _ hv) | (go_at_call 34; (with_reducible refine (HE5.out _ hv).mono ?_); rintro e wq ⟨rfl, hq⟩; have hv := below_up hv hq))
       go_ret
       exact ⟨ret_bool (by rw [HQ.out]; simp), below_up HBB.out hv⟩
end Go.Proofs.YtbbgebpgpadclaaGreatDoor
namespace Go.Proofs.YtbbgebpgpadclaaGreatDoor
open Go.RowKit
namespace St
open Go.Lib
theorem rb_valF (l : List UInt8) (c : UInt8) : ∀ n, Dg.valF n (l ++ [c]) = 10 * Dg.valF n l + (c.toNat - 48) := by
 induction l with
 | nil => intro n; rfl
 | cons b l ih => intro n; exact ih _
theorem rb_dig {n : Nat} (h : n < 10) : (UInt8.ofNat (48 + n)).toNat = 48 + n := by simp; omega
theorem rb_dd : ∀ k n, n ≤ k → Dg.allD (decDigits n) = true ∧ Dg.val (decDigits n) = n ∧ (1 ≤ n → (decDigits n)[0]? ≠ some 48) ∧ decDigits n ≠ [] := by
 intro k
 induction k with
 | zero =>
   intro n hn
   obtain rfl : n = 0 := by omega
   rw [decDigits, dif_pos (by omega)]
   exact ⟨by decide, by decide, fun h => by omega, by simp⟩
 | succ k ih =>
   intro n hn
   by_cases h : n < 10
   ·rw [decDigits, dif_pos h]
    have e := rb_dig h
    refine ⟨?_, ?_, ?_, by simp⟩
    ·show ([UInt8.ofNat (48 + n)].all Dg.isD) = true
     simp only [List.all_cons, List.all_nil, Bool.and_true, Dg.isD]
     rw [e]; exact decide_eq_true (by omega)
    ·show Dg.valF 0 [UInt8.ofNat (48 + n)] = n
     show 10 * 0 + ((UInt8.ofNat (48 + n)).toNat - 48) = n
     rw [e]; omega
    ·intro h1 hc
     rw [List.getElem?_cons_zero] at hc
     injection hc with hc
     have := congrArg UInt8.toNat hc
     rw [e] at this
     have h48 : (48 : UInt8).toNat = 48 := rfl
     omega
   ·rw [decDigits, dif_neg h]
    obtain ⟨h1, h2, h3, h4⟩ := ih (n / 10) (by omega)
    have e := rb_dig (show n % 10 < 10 by omega)
    refine ⟨?_, ?_, ?_, by simp⟩
    ·show ((decDigits (n / 10) ++ [UInt8.ofNat (48 + n % 10)]).all Dg.isD) = true
     rw [List.all_append, show (decDigits (n / 10)).all Dg.isD = true from h1]
     simp only [List.all_cons, List.all_nil, Bool.and_true, Bool.true_and, Dg.isD]
     rw [e]; exact decide_eq_true (by omega)
    ·show Dg.valF 0 (decDigits (n / 10) ++ [UInt8.ofNat (48 + n % 10)]) = n
     rw [rb_valF, show Dg.valF 0 (decDigits (n / 10)) = n / 10 from h2, e]; omega
    ·intro _
     have := h3 (by omega)
     rw [List.getElem?_append_left (List.length_pos_iff.2 h4)]
     exact this
theorem rb_len : ∀ (k n : Nat), n < 10 ^ (k + 1) → (decDigits n).length ≤ k + 1
 | 0, n, h => by rw [decDigits, dif_pos (by omega)]; simp
 | k + 1, n, h => by
   by_cases h0 : n < 10
   ·rw [decDigits, dif_pos h0]; simp
   ·rw [decDigits, dif_neg h0, List.length_append]
    have := rb_len k (n / 10) (by rw [Nat.pow_succ] at h; omega)
    simp only [List.length_cons, List.length_nil]
    omega
def Wd (x : List UInt8) : Prop := x ≠ [] ∧ (32 : UInt8) ∉ x ∧ (10 : UInt8) ∉ x
theorem rb_num {n : Int} (h0 : 0 ≤ n) (h : n < 10000000000000) : num13 (itoa n) = some n.toNat ∧ Wd (itoa n) := by
 have hi : itoa n = decDigits n.toNat := by unfold itoa; rw [if_neg (by omega)]
 rw [hi]
 obtain ⟨h1, h2, h3, h4⟩ := rb_dd n.toNat n.toNat (Nat.le_refl _)
 have hl := rb_len 12 n.toNat (by omega)
 have hz : ¬ (1 < (decDigits n.toNat).length ∧ (decDigits n.toNat)[0]? = some 48) := by
  intro hh
  by_cases c1 : n.toNat < 10
  ·rw [decDigits, dif_pos c1] at hh; simp at hh
  ·exact h3 (by omega) hh.2
 have hno : ∀ c : UInt8, c.toNat < 48 → c ∉ decDigits n.toNat := fun c hc hm => by
  have := (List.all_eq_true.1 (show (decDigits n.toNat).all Dg.isD = true from h1)) c hm
  unfold Dg.isD at this
  have := of_decide_eq_true this
  omega
 refine ⟨?_, h4, hno 32 (by decide), hno 10 (by decide)⟩
 unfold num13
 rw [if_pos ⟨⟨List.length_pos_iff.2 h4, hl⟩, h1, hz⟩, h2]
theorem spl_ln : ∀ W : List (List UInt8), W ≠ [] → (∀ x ∈ W, (32 : UInt8) ∉ x) → Pr.spl 32 (ln W) = W
 | [], h, _ => absurd rfl h
 | [x], _, h => by
   unfold ln
   rw [join_one, Pr.spl_none (h x (by simp))]
 | x :: y :: r, _, h => by
   have ih := spl_ln (y :: r) (by simp) (fun z hz => h z (List.mem_cons_of_mem _ hz))
   unfold ln at ih ⊢
   rw [join_cons] at ih
   rw [join_cons, show joinTail [32] (y :: r) = 32 :: (y ++ joinTail [32] r) by simp [joinTail], Pr.spl_append _ (h x (by simp)), ih]
theorem ln_no10 : ∀ W : List (List UInt8), (∀ x ∈ W, (10 : UInt8) ∉ x) → (10 : UInt8) ∉ ln W
 | [], _ => by unfold ln; rw [join_nil]; simp
 | x :: r, h => by
   unfold ln
   rw [join_cons, List.mem_append]
   rintro (h1 | h1)
   ·exact h x (by simp) h1
   ·unfold joinTail at h1
    rw [List.mem_flatten] at h1
    obtain ⟨l, hl, h2⟩ := h1
    obtain ⟨y, hy, rfl⟩ := List.mem_map.1 hl
    rcases List.mem_append.1 h2 with h3 | h3
    ·simp at h3
    ·exact h y (List.mem_cons_of_mem _ hy) h3
theorem rdX_line {last : Nat} {s : Sto} {W : List (List UInt8)} {L : List (List UInt8)} {e : Ent} (h0 : W ≠ []) (hw : ∀ x ∈ W, Wd x) (he : ent W = some e) (hs : ¬ (e.sec < last ∨ ¬ (e.sec = 1 ↔ last = 0))) : rdX last s (linesT (ln W :: L)) = rdX e.sec (e.put s) (linesT L) := by
 have hc : Pr.cut1 10 (linesT (ln W :: L)) = some (ln W, linesT L) := by
  have : linesT (ln W :: L) = ln W ++ 10 :: linesT L := by simp [linesT]
  rw [this]
  exact Pr.cut1_append _ (ln_no10 W fun x hx => (hw x hx).2.2)
 rw [rdX_next hc, spl_ln W h0 (fun x hx => (hw x hx).2.1), he]
 simp only
 rw [if_neg hs]
theorem rdX_rows {α : Type} (w : α → List (List UInt8)) (E : α → Ent) (k : Nat) (hk : 2 ≤ k) (F : List α → Sto) (hF : ∀ A x, (E x).put (F A) = F (A ++ [x])) (L : List (List UInt8)) :
  ∀ (M A : List α) (last : Nat), (∀ x ∈ M, w x ≠ [] ∧ (∀ y ∈ w x, Wd y) ∧ ent (w x) = some (E x) ∧ (E x).sec = k) → 1 ≤ last → last ≤ k → ∃ last', 1 ≤ last' ∧ last' ≤ k ∧ rdX last (F A) (linesT (M.map (fun x => ln (w x)) ++ L)) = rdX last' (F (A ++ M)) (linesT L)
 | [], A, last, _, h1, h2 => ⟨last, h1, h2, by simp⟩
 | x :: M, A, last, h, h1, h2 => by
   obtain ⟨g0, g1, g2, g3⟩ := h x (by simp)
   have hl := rdX_line (last := last) (s := F A) (L := M.map (fun x => ln (w x)) ++ L) g0 g1 g2 (by rw [g3]; omega)
   obtain ⟨last', e1, e2, e3⟩ := rdX_rows w E k hk F hF L M (A ++ [x]) k (fun y hy => h y (List.mem_cons_of_mem _ hy)) (by omega) (Nat.le_refl _)
   refine ⟨last', e1, e2, ?_⟩
   rw [List.map_cons, List.cons_append, hl, g3, hF, e3, List.append_assoc]
   rfl
theorem mk_of (d : ByteArray) : Tx.mk d.data.toList = d := rfl
theorem wd_mem {d : ByteArray} (h0 : 1 ≤ d.size) (h : ∀ i, (hi : i < d.size) → 33 ≤ d[i].toNat) : Wd d.data.toList := by
 have hno : ∀ c : UInt8, c.toNat < 33 → c ∉ d.data.toList := fun c hc hm => by
  obtain ⟨i, hi, e⟩ := List.getElem_of_mem hm
  have hi2 : i < d.size := by simpa using hi
  have := h i hi2
  have e2 : d[i] = c := by rw [← e]; rfl
  rw [e2] at this; omega
 refine ⟨fun e => ?_, hno 32 (by decide), hno 10 (by decide)⟩
 have : d.data.toList.length = d.size := rfl
 rw [e] at this; simp at this; omega
theorem wd_dig {d : ByteArray} (h : Fd.fileB d = true) : Wd d.data.toList := by
 unfold Fd.fileB at h
 obtain ⟨h1, h2⟩ := of_decide_eq_true h
 exact wd_mem (by omega) fun i hi => by have := (Fd.hexN_iff _).1 (h2 i hi); omega
theorem wd_name {d : ByteArray} (h : Fd.nameB d = true) : Wd d.data.toList := by
 unfold Fd.nameB at h
 obtain ⟨h1, h2⟩ := of_decide_eq_true h
 exact wd_mem h1.1 fun i hi => by have := (Fd.tailN_iff _).1 (Fd.nmN_tail _ _ (h2 i hi)); omega
theorem nat_int {n : Int} (h : 0 ≤ n) : ((n.toNat : Nat) : Int) = n := by omega
instance (x : List UInt8) : Decidable (Wd x) := by unfold Wd; infer_instance
theorem ent_w0 {s : Sto} (h1 : inB s.least 1 8 = true) (h2 : inB s.wait 0 1000 = true) : w0 s ≠ [] ∧ (∀ y ∈ w0 s, Wd y) ∧ ent (w0 s) = some (.sto s.least.toNat s.wait.toNat) := by
 have a1 := inB_iff.1 h1
 have a2 := inB_iff.1 h2
 obtain ⟨n1, v1⟩ := rb_num (n := s.least) (by omega) (by omega)
 obtain ⟨n2, v2⟩ := rb_num (n := s.wait) (by omega) (by omega)
 refine ⟨by simp [w0], fun y hy => ?_, ?_⟩
 ·simp only [w0, List.mem_cons, List.not_mem_nil, or_false] at hy
  rcases hy with rfl | rfl | rfl
  ·decide
  ·exact v1
  ·exact v2
 ·show ((num13 (itoa s.least)).bind fun x => (num13 (itoa s.wait)).map fun y => Ent.sto x y) = _
  rw [n1, n2]; rfl
theorem ent_wT {s : Sto} (r : Right s) : ∀ t ∈ s.tiers, wT t ≠ [] ∧ (∀ y ∈ wT t, Wd y) ∧ ent (wT t) = some (.tir t) ∧ (Ent.tir t).sec = 2 := by
 intro t ht
 obtain ⟨g1, g2, g3⟩ := tier_good r ht
 obtain ⟨n1, v1⟩ := rb_num (n := t.room) (by omega) (by omega)
 obtain ⟨n2, v2⟩ := rb_num (n := t.cost) (by omega) (by omega)
 have hn := wd_name g1
 refine ⟨by simp [wT], fun y hy => ?_, ?_, rfl⟩
 ·simp only [wT, List.mem_cons, List.not_mem_nil, or_false] at hy
  rcases hy with rfl | rfl | rfl | rfl | rfl
  ·decide
  ·exact hn
  ·exact v1
  ·exact v2
  ·unfold tow; split <;> decide
 ·show (if t.name.data.toList = [] then none else (num13 (itoa t.room)).bind fun x => (num13 (itoa t.cost)).bind fun y => (two (tow t.away wAway wHere) wAway wHere).map fun z => Ent.tir ⟨Tx.mk t.name.data.toList, x, y, z⟩) = _
  rw [if_neg hn.1, n1, n2, mk_of]
  have h2 : two (tow t.away wAway wHere) wAway wHere = some t.away := by cases t.away <;> decide
  rw [h2]
  simp only [Option.bind_some, Option.map_some]
  rw [nat_int g2.1, nat_int g3.1]
theorem ent_wF {s : Sto} (r : Right s) (hz : ∀ f ∈ s.files, f.kind = 1 → f.frm = ⟨#[]⟩) : ∀ f ∈ s.files, wF f ≠ [] ∧ (∀ y ∈ wF f, Wd y) ∧ ent (wF f) = some (.fil f) ∧ (Ent.fil f).sec = 3 := by
 intro f hf
 obtain ⟨g1, g2, g3, g4⟩ := file_good r hf
 have hd := wd_dig (r.dig f hf).1
 obtain ⟨n1, v1⟩ := rb_num (n := f.size) (by omega) (by omega)
 by_cases hk : f.kind = 1
 ·have hw : wF f = [kF, f.dig.data.toList, itoa f.size, wOrig] := by unfold wF kindT; rw [if_pos hk, if_pos hk]; rfl
  rw [hw]
  refine ⟨by simp, fun y hy => ?_, ?_, rfl⟩
  ·simp only [List.mem_cons, List.not_mem_nil, or_false] at hy
   rcases hy with rfl | rfl | rfl | rfl
   ·decide
   ·exact hd
   ·exact v1
   ·decide
  ·show (if f.dig.data.toList = [] then none else (num13 (itoa f.size)).bind fun x => if kindW wOrig = 1 then some (Ent.fil ⟨Tx.mk f.dig.data.toList, x, 1, ⟨#[]⟩⟩) else none) = _
   rw [if_neg hd.1, n1, mk_of]
   simp only [Option.bind_some]
   rw [if_pos (by decide), nat_int g2.1]
   congr 2
   rw [← hk, ← hz f hf hk]
 ·obtain ⟨g, _, hgm, hgd, _⟩ := kind_mem (r.frm f hf hk)
  have hfr : Wd f.frm.data.toList := by rw [← hgd]; exact wd_dig (r.dig g hgm).1
  have hkk : kindW (kindT f.kind) = f.kind ∧ Wd (kindT f.kind) := by
   have : f.kind = 2 ∨ f.kind = 3 := by omega
   rcases this with e | e <;> rw [e] <;> decide
  have hw : wF f = [kF, f.dig.data.toList, itoa f.size, kindT f.kind, f.frm.data.toList] := by unfold wF; rw [if_neg hk]; rfl
  rw [hw]
  refine ⟨by simp, fun y hy => ?_, ?_, rfl⟩
  ·simp only [List.mem_cons, List.not_mem_nil, or_false] at hy
   rcases hy with rfl | rfl | rfl | rfl | rfl
   ·decide
   ·exact hd
   ·exact v1
   ·exact hkk.2
   ·exact hfr
  ·show (if f.dig.data.toList = [] ∨ f.frm.data.toList = [] then none else (num13 (itoa f.size)).bind fun x => if kindW (kindT f.kind) = 2 ∨ kindW (kindT f.kind) = 3 then some (Ent.fil ⟨Tx.mk f.dig.data.toList, x, kindW (kindT f.kind), Tx.mk f.frm.data.toList⟩) else none) = _
   rw [if_neg (by rintro (h | h); exact hd.1 h; exact hfr.1 h), n1, mk_of, mk_of, hkk.1]
   simp only [Option.bind_some]
   rw [if_pos (by omega), nat_int g2.1]
theorem ent_wC {s : Sto} (r : Right s) : ∀ c ∈ s.copies, wC c ≠ [] ∧ (∀ y ∈ wC c, Wd y) ∧ ent (wC c) = some (.cop c) ∧ (Ent.cop c).sec = 4 := by
 intro c hc
 obtain ⟨h1, h2, h3⟩ := r.cop c hc
 obtain ⟨f, hf⟩ := Option.isSome_iff_exists.1 h1
 obtain ⟨h4, h5⟩ := find_mem hf
 obtain ⟨t, ht, hn⟩ := hasTier_mem h2
 have hd : Wd c.dig.data.toList := by rw [← eq_iff.1 h5]; exact wd_dig (r.dig f h4).1
 have htn : Wd c.tier.data.toList := by rw [← hn]; exact wd_name (tier_good r ht).1
 obtain ⟨_, _, g3⟩ := cop_good r hc
 obtain ⟨n1, v1⟩ := rb_num (n := c.asked) (by omega) (by omega)
 refine ⟨by simp [wC], fun y hy => ?_, ?_, rfl⟩
 ·simp only [wC, List.mem_cons, List.not_mem_nil, or_false] at hy
  rcases hy with rfl | rfl | rfl | rfl | rfl
  ·decide
  ·exact hd
  ·exact htn
  ·unfold tow; split <;> decide
  ·exact v1
 ·show (if c.dig.data.toList = [] ∨ c.tier.data.toList = [] then none else (two (tow c.good wGood wBad) wGood wBad).bind fun z => (num13 (itoa c.asked)).map fun (y : Nat) => Ent.cop ⟨Tx.mk c.dig.data.toList, Tx.mk c.tier.data.toList, z, (y : Int)⟩) = _
  rw [if_neg (by rintro (h | h); exact hd.1 h; exact htn.1 h), n1, mk_of, mk_of]
  have h2 : two (tow c.good wGood wBad) wGood wBad = some c.good := by cases c.good <;> decide
  rw [h2]
  simp only [Option.bind_some, Option.map_some]
  rw [nat_int g3.1]
theorem wd_kind {s : Sto} (r : Right s) {d : ByteArray} (h : kindOf s.files d = 1) : Wd d.data.toList := by
 obtain ⟨g, _, hg, hd, _⟩ := kind_mem h
 rw [← hd]
 exact wd_dig (r.dig g hg).1
theorem ent_wH {s : Sto} (r : Right s) : ∀ d ∈ s.held, wH d ≠ [] ∧ (∀ y ∈ wH d, Wd y) ∧ ent (wH d) = some (.hld d) ∧ (Ent.hld d).sec = 5 := by
 intro d hdm
 have hd := wd_kind r (r.held d hdm)
 refine ⟨by simp [wH], fun y hy => ?_, ?_, rfl⟩
 ·simp only [wH, List.mem_cons, List.not_mem_nil, or_false] at hy
  rcases hy with rfl | rfl
  ·decide
  ·exact hd
 ·show (if d.data.toList = [] then none else some (Ent.hld (Tx.mk d.data.toList))) = _
  rw [if_neg hd.1, mk_of]
theorem ent_wB {s : Sto} (r : Right s) : ∀ g ∈ s.bin, wB g ≠ [] ∧ (∀ y ∈ wB g, Wd y) ∧ ent (wB g) = some (.bin g) ∧ (Ent.bin g).sec = 6 := by
 intro g hgm
 obtain ⟨h1, h2⟩ := r.bin g hgm
 have hd := wd_kind r h1
 have hb := inB_iff.1 (binR_iff.1 h2).1
 obtain ⟨n1, v1⟩ := rb_num (n := g.day) (by omega) (by omega)
 refine ⟨by simp [wB], fun y hy => ?_, ?_, rfl⟩
 ·simp only [wB, List.mem_cons, List.not_mem_nil, or_false] at hy
  rcases hy with rfl | rfl | rfl
  ·decide
  ·exact hd
  ·exact v1
 ·show (if g.dig.data.toList = [] then none else (num13 (itoa g.day)).map fun (y : Nat) => Ent.bin ⟨Tx.mk g.dig.data.toList, (y : Int)⟩) = _
  rw [if_neg hd.1, n1, mk_of]
  simp only [Option.map_some]
  rw [nat_int hb.1]
theorem orig_frm {s : Sto} (r : Right s) : ∀ f ∈ s.files, f.kind = 1 → f.frm = ⟨#[]⟩ := by
 intro f hf hk
 have h := (r.dig f hf).2
 unfold fileR at h
 split at h
 ·split at h
  ·split at h
   ·cases h
   ·rename_i h3
    have h4 : f.frm.toList.isEmpty = true := by
     cases e : f.frm.toList.isEmpty with
     | true => rfl
     | false => exact absurd ⟨hk, e⟩ h3
    refine eq_iff.1 ?_
    unfold eq
    rw [List.isEmpty_iff.1 h4, ByteArray.toList_eq]
    rfl
  ·cases h
 ·cases h
theorem read_text {s : Sto} (r : Right s) : rdX 0 ⟨0, 0, [], [], [], [], []⟩ (text s) = some s := by
 have hz := orig_frm r
 obtain ⟨⟨z0, z1⟩, _⟩ := sizes_iff.1 r.sizes
 obtain ⟨a0, a1, a2⟩ := ent_w0 z0 z1
 have b0 := inB_iff.1 z0
 have b1 := inB_iff.1 z1
 unfold text all
 simp only [List.append_assoc, List.singleton_append, List.cons_append, List.nil_append]
 rw [rdX_line a0 a1 a2 (by show ¬ (1 < 0 ∨ ¬ ((1 : Nat) = 1 ↔ 0 = 0)); decide)]
 have e0 : (Ent.sto s.least.toNat s.wait.toNat).put ⟨0, 0, [], [], [], [], []⟩ = ⟨s.least, s.wait, [], [], [], [], []⟩ := by
  show (⟨(s.least.toNat : Int), (s.wait.toNat : Int), [], [], [], [], []⟩ : Sto) = _
  rw [nat_int (by omega), nat_int (by omega)]
 rw [e0]
 obtain ⟨l1, c1, d1, e1⟩ := rdX_rows wT .tir 2 (by omega) (fun A => ⟨s.least, s.wait, A, [], [], [], []⟩) (fun A x => rfl) (s.files.map (fun f => ln (wF f)) ++ (s.copies.map (fun c => ln (wC c)) ++ (s.held.map (fun d => ln (wH d)) ++ s.bin.map (fun g => ln (wB g))))) s.tiers [] 1 (ent_wT r) (by omega) (by omega)
 rw [show (Ent.sto s.least.toNat s.wait.toNat).sec = 1 from rfl]
 rw [e1]
 obtain ⟨l2, c2, d2, e2⟩ := rdX_rows wF .fil 3 (by omega) (fun A => ⟨s.least, s.wait, [] ++ s.tiers, A, [], [], []⟩) (fun A x => rfl) (s.copies.map (fun c => ln (wC c)) ++ (s.held.map (fun d => ln (wH d)) ++ s.bin.map (fun g => ln (wB g)))) s.files [] l1 (ent_wF r hz) c1 (by omega)
 rw [e2]
 obtain ⟨l3, c3, d3, e3⟩ := rdX_rows wC .cop 4 (by omega) (fun A => ⟨s.least, s.wait, [] ++ s.tiers, [] ++ s.files, A, [], []⟩) (fun A x => rfl) (s.held.map (fun d => ln (wH d)) ++ s.bin.map (fun g => ln (wB g))) s.copies [] l2 (ent_wC r) c2 (by omega)
 rw [e3]
 obtain ⟨l4, c4, d4, e4⟩ := rdX_rows wH .hld 5 (by omega) (fun A => ⟨s.least, s.wait, [] ++ s.tiers, [] ++ s.files, [] ++ s.copies, A, []⟩) (fun A x => rfl) (s.bin.map (fun g => ln (wB g))) s.held [] l3 (ent_wH r) c3 (by omega)
 rw [e4]
 obtain ⟨l5, c5, d5, e5⟩ := rdX_rows wB .bin 6 (by omega) (fun A => ⟨s.least, s.wait, [] ++ s.tiers, [] ++ s.files, [] ++ s.copies, [] ++ s.held, A⟩) (fun A x => rfl) [] s.bin [] l4 (ent_wB r) c4 (by omega)
 rw [List.append_nil] at e5
 rw [e5]
 show rdX l5 _ [] = _
 rw [rdX_nil, if_neg (by omega)]
 rfl
end St
end Go.Proofs.YtbbgebpgpadclaaGreatDoor
