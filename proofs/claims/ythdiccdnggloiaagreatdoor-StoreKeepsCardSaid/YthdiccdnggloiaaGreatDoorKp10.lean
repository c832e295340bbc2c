/- Parts of the proof, no condition: StEq, StRel. -/
import Derived.Test.YthdiccdnggloiaaGreatDoorKp6
import Derived.Deep.QuietTactic
import Derived.BigQuiet
import Derived.Test.YthdiccdnggloiaaGreatDoorKp7
import Derived.Test.YthdiccdnggloiaaGreatDoorKp8
import Derived.Test.YthdiccdnggloiaaGreatDoorKp4
import Derived.Test.YthdiccdnggloiaaGreatDoorKp9
import Derived.Maps.RangeWalk
set_option maxRecDepth 100000
set_option maxHeartbeats 16000000
set_option linter.unusedSimpArgs false
set_option linter.unusedVariables false
namespace Go.Proofs.YthdiccdnggloiaaGreatDoor
open Go.RowKit Go.Sort Go.Shelf Go.Maps

theorem neTir (n : ByteArray) (r c : Int) (y : Bool) (w : World) : Sem.run Tryz.prog (binOp .neq 46 (.agg #[.string n, .int .i64 r, .int .i64 c, .bool y]) (.agg #[.string n, .int .i64 r, .int .i64 c, .bool y])) w = .ok (.bool false) w := by
 have u3 := Tryz.underlying3
 have a3 := Tryz.isAgg3
 have z3 := Tryz.sizeOf3
 have u9 := Tryz.underlying9
 have a9 := Tryz.isAgg9
 have z9 := Tryz.sizeOf9
 have u4 := Tryz.underlying4
 have a4 := Tryz.isAgg4
 have z4 := Tryz.sizeOf4
 have hS : Tryz.prog.underlying 46 = some (.struct (Tryz.prog.fieldsOf 46)) := by kernel_rfl
 have hp : Tryz.prog.stoodInHeld 46 = false := by kernel_rfl
 rw [run_neq_struct, show (10000 : Nat) = 9999 + 1 from rfl, run_equalIn_agg w 9999 46 _ _ hS hp]
 simp only [Program.fieldsOf, Tryz.underlying46]
 go_simp
 try simp

theorem neFil (n : ByteArray) (r c : Int) (y : ByteArray) (w : World) : Sem.run Tryz.prog (binOp .neq 30 (.agg #[.string n, .int .i64 r, .int .i64 c, .string y]) (.agg #[.string n, .int .i64 r, .int .i64 c, .string y])) w = .ok (.bool false) w := by
 have u3 := Tryz.underlying3
 have a3 := Tryz.isAgg3
 have z3 := Tryz.sizeOf3
 have u9 := Tryz.underlying9
 have a9 := Tryz.isAgg9
 have z9 := Tryz.sizeOf9
 have u4 := Tryz.underlying4
 have a4 := Tryz.isAgg4
 have z4 := Tryz.sizeOf4
 have hS : Tryz.prog.underlying 30 = some (.struct (Tryz.prog.fieldsOf 30)) := by kernel_rfl
 have hp : Tryz.prog.stoodInHeld 30 = false := by kernel_rfl
 rw [run_neq_struct, show (10000 : Nat) = 9999 + 1 from rfl, run_equalIn_agg w 9999 30 _ _ hS hp]
 simp only [Program.fieldsOf, Tryz.underlying30]
 go_simp
 try simp

theorem neCop (n r : ByteArray) (c : Bool) (y : Int) (w : World) : Sem.run Tryz.prog (binOp .neq 74 (.agg #[.string n, .string r, .bool c, .int .i64 y]) (.agg #[.string n, .string r, .bool c, .int .i64 y])) w = .ok (.bool false) w := by
 have u3 := Tryz.underlying3
 have a3 := Tryz.isAgg3
 have z3 := Tryz.sizeOf3
 have u9 := Tryz.underlying9
 have a9 := Tryz.isAgg9
 have z9 := Tryz.sizeOf9
 have u4 := Tryz.underlying4
 have a4 := Tryz.isAgg4
 have z4 := Tryz.sizeOf4
 have hS : Tryz.prog.underlying 74 = some (.struct (Tryz.prog.fieldsOf 74)) := by kernel_rfl
 have hp : Tryz.prog.stoodInHeld 74 = false := by kernel_rfl
 rw [run_neq_struct, show (10000 : Nat) = 9999 + 1 from rfl, run_equalIn_agg w 9999 74 _ _ hS hp]
 simp only [Program.fieldsOf, Tryz.underlying74]
 go_simp
 try simp

theorem neGon (n : ByteArray) (c : Int) (w : World) : Sem.run Tryz.prog (binOp .neq 112 (.agg #[.string n, .int .i64 c]) (.agg #[.string n, .int .i64 c])) w = .ok (.bool false) w := by
 have u3 := Tryz.underlying3
 have a3 := Tryz.isAgg3
 have z3 := Tryz.sizeOf3
 have u9 := Tryz.underlying9
 have a9 := Tryz.isAgg9
 have z9 := Tryz.sizeOf9
 have u4 := Tryz.underlying4
 have a4 := Tryz.isAgg4
 have z4 := Tryz.sizeOf4
 have hS : Tryz.prog.underlying 112 = some (.struct (Tryz.prog.fieldsOf 112)) := by kernel_rfl
 have hp : Tryz.prog.stoodInHeld 112 = false := by kernel_rfl
 rw [run_neq_struct, show (10000 : Nat) = 9999 + 1 from rfl, run_equalIn_agg w 9999 112 _ _ hS hp]
 simp only [Program.fieldsOf, Tryz.underlying112]
 go_simp
 try simp
theorem guardTir : Tryz.prog.eqGuardType Tryz.prog.depth 46 = false := by kernel_rfl
theorem guardFil : Tryz.prog.eqGuardType Tryz.prog.depth 30 = false := by kernel_rfl
theorem guardCop : Tryz.prog.eqGuardType Tryz.prog.depth 74 = false := by kernel_rfl
theorem guardGon : Tryz.prog.eqGuardType Tryz.prog.depth 112 = false := by kernel_rfl
theorem eqT_same (O : List Tir) (a b : Option Addr) (ca cb : Nat) (w : World) (hx : RowE St.eT w a O) (hy : RowE St.eT w b O) (hn : O.length ≤ 9223372036854775807) :
  Calls Tryz.prog 113 #[.slice a O.length ca, .slice b O.length cb] w fun e w' => e = .returned (.bool true) ∧ Below w.heap.size w w' := by
 have HX := Lib.hid hx; have HY := Lib.hid hy
 obtain ⟨n, hnn⟩ : ∃ n, O.length = n := ⟨_, rfl⟩
 have HN := Lib.hid hnn
 rw [hnn] at hn ⊢
 have hl' : ((n : Int) == (n : Int)) = true := by simp
 clear hx hy hnn
 go_enter Tryz.func113, Tryz.ntmps113
 go_wp2_with fail
 go_loopg [13] n (fun gk i wr => ∃ j : Nat, j ≤ n ∧ gk = n - j ∧ i = .int .i64 j ∧ Below w.heap.size w wr)
 case atStart => exact ⟨0, by omega, rfl, rfl, Below.refl _ _⟩
 case round =>
  obtain ⟨j, hj, rfl, rfl, hB⟩ := hrel
  by_cases hlt : j < n
  ·obtain ⟨x, hq⟩ : ∃ x, O[j]? = some x := ⟨_, List.getElem?_eq_getElem (by rw [HN.out]; exact hlt)⟩
   obtain ⟨b1, o1, ha1, hb1, hc1⟩ := HX.out.keep hB (by rw [HN.out]; omega)
   obtain ⟨b2, o2, ha2, hb2, hc2⟩ := HY.out.keep hB (by rw [HN.out]; omega)
   have c0 : wr.cell? ⟨b1, o1 + j * 4, none⟩ = some (.string x.name) := hc1 j x hq 0 (.string x.name) rfl
   have c1 : wr.cell? ⟨b1, o1 + j * 4 + 1, none⟩ = some (.int .i64 x.room) := hc1 j x hq 1 (.int .i64 x.room) rfl
   have c2 : wr.cell? ⟨b1, o1 + j * 4 + 2, none⟩ = some (.int .i64 x.cost) := hc1 j x hq 2 (.int .i64 x.cost) rfl
   have c3 : wr.cell? ⟨b1, o1 + j * 4 + 3, none⟩ = some (.bool x.away) := hc1 j x hq 3 (.bool x.away) rfl
   have d0 : wr.cell? ⟨b2, o2 + j * 4, none⟩ = some (.string x.name) := hc2 j x hq 0 (.string x.name) rfl
   have d1 : wr.cell? ⟨b2, o2 + j * 4 + 1, none⟩ = some (.int .i64 x.room) := hc2 j x hq 1 (.int .i64 x.room) rfl
   have d2 : wr.cell? ⟨b2, o2 + j * 4 + 2, none⟩ = some (.int .i64 x.cost) := hc2 j x hq 2 (.int .i64 x.cost) rfl
   have d3 : wr.cell? ⟨b2, o2 + j * 4 + 3, none⟩ = some (.bool x.away) := hc2 j x hq 3 (.bool x.away) rfl
   have hj0 : (0 : Int) ≤ (j : Int) := by omega
   have hj1 : (j : Int) < (n : Int) := by omega
   have hne := neTir x.name x.room x.cost x.away
   have hgd := guardTir
   clear hc1 hc2 hq
   rw [ha1, ha2]
   go_wp2_with fail
   go_quiet (fail)
   go_wp2_with fail
   rw [← ha1, ← ha2]
   go_roundg (n - (j + 1))
   case rel => exact ⟨j + 1, by omega, rfl, by go_num, below_drewN hB _⟩
   case measure => omega
  ·obtain rfl : j = n := by omega
   have hjn : ¬ ((j : Int) < (j : Int)) := by omega
   go_wp2_with fail
   go_ret
   exact ⟨rfl, hB⟩
theorem eqF_same (O : List Fil) (a b : Option Addr) (ca cb : Nat) (w : World) (hx : RowE St.eF w a O) (hy : RowE St.eF w b O) (hn : O.length ≤ 9223372036854775807) :
  Calls Tryz.prog 114 #[.slice a O.length ca, .slice b O.length cb] w fun e w' => e = .returned (.bool true) ∧ Below w.heap.size w w' := by
 have HX := Lib.hid hx; have HY := Lib.hid hy
 obtain ⟨n, hnn⟩ : ∃ n, O.length = n := ⟨_, rfl⟩
 have HN := Lib.hid hnn
 rw [hnn] at hn ⊢
 have hl' : ((n : Int) == (n : Int)) = true := by simp
 clear hx hy hnn
 go_enter Tryz.func114, Tryz.ntmps114
 go_wp2_with fail
 go_loopg [13] n (fun gk i wr => ∃ j : Nat, j ≤ n ∧ gk = n - j ∧ i = .int .i64 j ∧ Below w.heap.size w wr)
 case atStart => exact ⟨0, by omega, rfl, rfl, Below.refl _ _⟩
 case round =>
  obtain ⟨j, hj, rfl, rfl, hB⟩ := hrel
  by_cases hlt : j < n
  ·obtain ⟨x, hq⟩ : ∃ x, O[j]? = some x := ⟨_, List.getElem?_eq_getElem (by rw [HN.out]; exact hlt)⟩
   obtain ⟨b1, o1, ha1, hb1, hc1⟩ := HX.out.keep hB (by rw [HN.out]; omega)
   obtain ⟨b2, o2, ha2, hb2, hc2⟩ := HY.out.keep hB (by rw [HN.out]; omega)
   have c0 : wr.cell? ⟨b1, o1 + j * 4, none⟩ = some (.string x.dig) := hc1 j x hq 0 (.string x.dig) rfl
   have c1 : wr.cell? ⟨b1, o1 + j * 4 + 1, none⟩ = some (.int .i64 x.size) := hc1 j x hq 1 (.int .i64 x.size) rfl
   have c2 : wr.cell? ⟨b1, o1 + j * 4 + 2, none⟩ = some (.int .i64 x.kind) := hc1 j x hq 2 (.int .i64 x.kind) rfl
   have c3 : wr.cell? ⟨b1, o1 + j * 4 + 3, none⟩ = some (.string x.frm) := hc1 j x hq 3 (.string x.frm) rfl
   have d0 : wr.cell? ⟨b2, o2 + j * 4, none⟩ = some (.string x.dig) := hc2 j x hq 0 (.string x.dig) rfl
   have d1 : wr.cell? ⟨b2, o2 + j * 4 + 1, none⟩ = some (.int .i64 x.size) := hc2 j x hq 1 (.int .i64 x.size) rfl
   have d2 : wr.cell? ⟨b2, o2 + j * 4 + 2, none⟩ = some (.int .i64 x.kind) := hc2 j x hq 2 (.int .i64 x.kind) rfl
   have d3 : wr.cell? ⟨b2, o2 + j * 4 + 3, none⟩ = some (.string x.frm) := hc2 j x hq 3 (.string x.frm) rfl
   have hj0 : (0 : Int) ≤ (j : Int) := by omega
   have hj1 : (j : Int) < (n : Int) := by omega
   have hne := neFil x.dig x.size x.kind x.frm
   have hgd := guardFil
   clear hc1 hc2 hq
   rw [ha1, ha2]
   go_wp2_with fail
   go_quiet (fail)
   go_wp2_with fail
   rw [← ha1, ← ha2]
   go_roundg (n - (j + 1))
   case rel => exact ⟨j + 1, by omega, rfl, by go_num, below_drewN hB _⟩
   case measure => omega
  ·obtain rfl : j = n := by omega
   have hjn : ¬ ((j : Int) < (j : Int)) := by omega
   go_wp2_with fail
   go_ret
   exact ⟨rfl, hB⟩
theorem eqC_same (O : List Cop) (a b : Option Addr) (ca cb : Nat) (w : World) (hx : RowE St.eC w a O) (hy : RowE St.eC w b O) (hn : O.length ≤ 9223372036854775807) :
  Calls Tryz.prog 42 #[.slice a O.length ca, .slice b O.length cb] w fun e w' => e = .returned (.bool true) ∧ Below w.heap.size w w' := by
 have HX := Lib.hid hx; have HY := Lib.hid hy
 obtain ⟨n, hnn⟩ : ∃ n, O.length = n := ⟨_, rfl⟩
 have HN := Lib.hid hnn
 rw [hnn] at hn ⊢
 have hl' : ((n : Int) == (n : Int)) = true := by simp
 clear hx hy hnn
 go_enter Tryz.func42, Tryz.ntmps42
 go_wp2_with fail
 go_loopg [13] n (fun gk i wr => ∃ j : Nat, j ≤ n ∧ gk = n - j ∧ i = .int .i64 j ∧ Below w.heap.size w wr)
 case atStart => exact ⟨0, by omega, rfl, rfl, Below.refl _ _⟩
 case round =>
  obtain ⟨j, hj, rfl, rfl, hB⟩ := hrel
  by_cases hlt : j < n
  ·obtain ⟨x, hq⟩ : ∃ x, O[j]? = some x := ⟨_, List.getElem?_eq_getElem (by rw [HN.out]; exact hlt)⟩
   obtain ⟨b1, o1, ha1, hb1, hc1⟩ := HX.out.keep hB (by rw [HN.out]; omega)
   obtain ⟨b2, o2, ha2, hb2, hc2⟩ := HY.out.keep hB (by rw [HN.out]; omega)
   have c0 : wr.cell? ⟨b1, o1 + j * 4, none⟩ = some (.string x.dig) := hc1 j x hq 0 (.string x.dig) rfl
   have c1 : wr.cell? ⟨b1, o1 + j * 4 + 1, none⟩ = some (.string x.tier) := hc1 j x hq 1 (.string x.tier) rfl
   have c2 : wr.cell? ⟨b1, o1 + j * 4 + 2, none⟩ = some (.bool x.good) := hc1 j x hq 2 (.bool x.good) rfl
   have c3 : wr.cell? ⟨b1, o1 + j * 4 + 3, none⟩ = some (.int .i64 x.asked) := hc1 j x hq 3 (.int .i64 x.asked) rfl
   have d0 : wr.cell? ⟨b2, o2 + j * 4, none⟩ = some (.string x.dig) := hc2 j x hq 0 (.string x.dig) rfl
   have d1 : wr.cell? ⟨b2, o2 + j * 4 + 1, none⟩ = some (.string x.tier) := hc2 j x hq 1 (.string x.tier) rfl
   have d2 : wr.cell? ⟨b2, o2 + j * 4 + 2, none⟩ = some (.bool x.good) := hc2 j x hq 2 (.bool x.good) rfl
   have d3 : wr.cell? ⟨b2, o2 + j * 4 + 3, none⟩ = some (.int .i64 x.asked) := hc2 j x hq 3 (.int .i64 x.asked) rfl
   have hj0 : (0 : Int) ≤ (j : Int) := by omega
   have hj1 : (j : Int) < (n : Int) := by omega
   have hne := neCop x.dig x.tier x.good x.asked
   have hgd := guardCop
   clear hc1 hc2 hq
   rw [ha1, ha2]
   go_wp2_with fail
   go_quiet (fail)
   go_wp2_with fail
   rw [← ha1, ← ha2]
   go_roundg (n - (j + 1))
   case rel => exact ⟨j + 1, by omega, rfl, by go_num, below_drewN hB _⟩
   case measure => omega
  ·obtain rfl : j = n := by omega
   have hjn : ¬ ((j : Int) < (j : Int)) := by omega
   go_wp2_with fail
   go_ret
   exact ⟨rfl, hB⟩
theorem eqG_same (O : List Gon) (a b : Option Addr) (ca cb : Nat) (w : World) (hx : RowE St.eG w a O) (hy : RowE St.eG w b O) (hn : O.length ≤ 9223372036854775807) :
  Calls Tryz.prog 115 #[.slice a O.length ca, .slice b O.length cb] w fun e w' => e = .returned (.bool true) ∧ Below w.heap.size w w' := by
 have HX := Lib.hid hx; have HY := Lib.hid hy
 obtain ⟨n, hnn⟩ : ∃ n, O.length = n := ⟨_, rfl⟩
 have HN := Lib.hid hnn
 rw [hnn] at hn ⊢
 have hl' : ((n : Int) == (n : Int)) = true := by simp
 clear hx hy hnn
 go_enter Tryz.func115, Tryz.ntmps115
 go_wp2_with fail
 go_loopg [13] n (fun gk i wr => ∃ j : Nat, j ≤ n ∧ gk = n - j ∧ i = .int .i64 j ∧ Below w.heap.size w wr)
 case atStart => exact ⟨0, by omega, rfl, rfl, Below.refl _ _⟩
 case round =>
  obtain ⟨j, hj, rfl, rfl, hB⟩ := hrel
  by_cases hlt : j < n
  ·obtain ⟨x, hq⟩ : ∃ x, O[j]? = some x := ⟨_, List.getElem?_eq_getElem (by rw [HN.out]; exact hlt)⟩
   obtain ⟨b1, o1, ha1, hb1, hc1⟩ := HX.out.keep hB (by rw [HN.out]; omega)
   obtain ⟨b2, o2, ha2, hb2, hc2⟩ := HY.out.keep hB (by rw [HN.out]; omega)
   have c0 : wr.cell? ⟨b1, o1 + j * 2, none⟩ = some (.string x.dig) := hc1 j x hq 0 (.string x.dig) rfl
   have c1 : wr.cell? ⟨b1, o1 + j * 2 + 1, none⟩ = some (.int .i64 x.day) := hc1 j x hq 1 (.int .i64 x.day) rfl
   have d0 : wr.cell? ⟨b2, o2 + j * 2, none⟩ = some (.string x.dig) := hc2 j x hq 0 (.string x.dig) rfl
   have d1 : wr.cell? ⟨b2, o2 + j * 2 + 1, none⟩ = some (.int .i64 x.day) := hc2 j x hq 1 (.int .i64 x.day) rfl
   have hj0 : (0 : Int) ≤ (j : Int) := by omega
   have hj1 : (j : Int) < (n : Int) := by omega
   have hne := neGon x.dig x.day
   have hgd := guardGon
   clear hc1 hc2 hq
   rw [ha1, ha2]
   go_wp2_with fail
   go_quiet (fail)
   go_wp2_with fail
   rw [← ha1, ← ha2]
   go_roundg (n - (j + 1))
   case rel => exact ⟨j + 1, by omega, rfl, by go_num, below_drewN hB _⟩
   case measure => omega
  ·obtain rfl : j = n := by omega
   have hjn : ¬ ((j : Int) < (j : Int)) := by omega
   go_wp2_with fail
   go_ret
   exact ⟨rfl, hB⟩
theorem eqS_same (O : List ByteArray) (a b : Option Addr) (ca cb : Nat) (w : World) (hx : RowE St.eS w a O) (hy : RowE St.eS w b O) (hn : O.length ≤ 9223372036854775807) :
  Calls Tryz.prog 37 #[.slice a O.length ca, .slice b O.length cb] w fun e w' => e = .returned (.bool true) ∧ Below w.heap.size w w' := by
 have HX := Lib.hid hx; have HY := Lib.hid hy
 obtain ⟨n, hnn⟩ : ∃ n, O.length = n := ⟨_, rfl⟩
 have HN := Lib.hid hnn
 rw [hnn] at hn ⊢
 have hl' : ((n : Int) == (n : Int)) = true := by simp
 clear hx hy hnn
 go_enter Tryz.func37, Tryz.ntmps37
 go_wp2_with fail
 go_loopg [13] n (fun gk i wr => ∃ j : Nat, j ≤ n ∧ gk = n - j ∧ i = .int .i64 j ∧ Below w.heap.size w wr)
 case atStart => exact ⟨0, by omega, rfl, rfl, Below.refl _ _⟩
 case round =>
  obtain ⟨j, hj, rfl, rfl, hB⟩ := hrel
  by_cases hlt : j < n
  ·obtain ⟨x, hq⟩ : ∃ x, O[j]? = some x := ⟨_, List.getElem?_eq_getElem (by rw [HN.out]; exact hlt)⟩
   obtain ⟨b1, o1, ha1, hb1, hc1⟩ := HX.out.keep hB (by rw [HN.out]; omega)
   obtain ⟨b2, o2, ha2, hb2, hc2⟩ := HY.out.keep hB (by rw [HN.out]; omega)
   have c0 : wr.cell? ⟨b1, o1 + j, none⟩ = some (.string x) := by have := hc1 j x hq 0 (.string x) rfl; rw [show o1 + j * St.eS.k + 0 = o1 + j by simp [St.eS]] at this; exact this
   have d0 : wr.cell? ⟨b2, o2 + j, none⟩ = some (.string x) := by have := hc2 j x hq 0 (.string x) rfl; rw [show o2 + j * St.eS.k + 0 = o2 + j by simp [St.eS]] at this; exact this
   have hj0 : (0 : Int) ≤ (j : Int) := by omega
   have hj1 : (j : Int) < (n : Int) := by omega
   clear hc1 hc2 hq
   rw [ha1, ha2]
   go_wp2_with fail
   go_quiet (fail)
   go_wp2_with fail
   rw [← ha1, ← ha2]
   go_roundg (n - (j + 1))
   case rel => exact ⟨j + 1, by omega, rfl, by go_num, below_drewN hB _⟩
   case measure => omega
  ·obtain rfl : j = n := by omega
   have hjn : ¬ ((j : Int) < (j : Int)) := by omega
   go_wp2_with fail
   go_ret
   exact ⟨rfl, hB⟩
theorem sameStore_is (s : Sto) (a b : StA) (w : World) (hA : StIn w s a) (hB : StIn w s b) : Calls Tryz.prog 34 #[.agg #[.int .i64 s.least, .int .i64 s.wait, .slice a.ta s.tiers.length a.tc, .slice a.fa s.files.length a.fc, .slice a.ca s.copies.length a.cc, .slice a.ha s.held.length a.hc, .slice a.ba s.bin.length a.bc], .agg #[.int .i64 s.least, .int .i64 s.wait, .slice b.ta s.tiers.length b.tc, .slice b.fa s.files.length b.fc, .slice b.ca s.copies.length b.cc, .slice b.ha s.held.length b.hc, .slice b.ba s.bin.length b.bc]] w fun e w' => e = .returned (.bool true) ∧ Below w.heap.size w w' := by
 obtain ⟨W1, hW1, hP, hz1, hB1⟩ := box w #[.int .i64 s.least, .int .i64 s.wait, .slice a.ta s.tiers.length a.tc, .slice a.fa s.files.length a.fc, .slice a.ca s.copies.length a.cc, .slice a.ha s.held.length a.hc, .slice a.ba s.bin.length a.bc] 28
 obtain ⟨W2, hW2, hQ, hz2, hB2⟩ := box W1 #[.int .i64 s.least, .int .i64 s.wait, .slice b.ta s.tiers.length b.tc, .slice b.fa s.files.length b.fc, .slice b.ca s.copies.length b.cc, .slice b.ha s.held.length b.hc, .slice b.ba s.bin.length b.bc] 28
 have HW1 := Lib.hid hW1; have HW2 := Lib.hid hW2
 have hP := hP.keep hB2
 rw [hz1] at hQ
 have hBB := below_up hB1 hB2
 have HBB := Lib.hid hBB
 have HCL : Hid (∀ V, Below W2.heap.size W2 V → (V.cell? ⟨w.heap.size, 0, none⟩ = some (.int .i64 s.least) ∧ V.cell? ⟨w.heap.size, 1, none⟩ = some (.int .i64 s.wait) ∧ V.cell? ⟨w.heap.size, 2, none⟩ = some (.slice a.ta s.tiers.length a.tc) ∧ V.cell? ⟨w.heap.size, 3, none⟩ = some (.slice a.fa s.files.length a.fc) ∧ V.cell? ⟨w.heap.size, 4, none⟩ = some (.slice a.ca s.copies.length a.cc) ∧ V.cell? ⟨w.heap.size, 5, none⟩ = some (.slice a.ha s.held.length a.hc) ∧ V.cell? ⟨w.heap.size, 6, none⟩ = some (.slice a.ba s.bin.length a.bc)) ∧ V.cell? ⟨w.heap.size + 1, 0, none⟩ = some (.int .i64 s.least) ∧ V.cell? ⟨w.heap.size + 1, 1, none⟩ = some (.int .i64 s.wait) ∧ V.cell? ⟨w.heap.size + 1, 2, none⟩ = some (.slice b.ta s.tiers.length b.tc) ∧ V.cell? ⟨w.heap.size + 1, 3, none⟩ = some (.slice b.fa s.files.length b.fc) ∧ V.cell? ⟨w.heap.size + 1, 4, none⟩ = some (.slice b.ca s.copies.length b.cc) ∧ V.cell? ⟨w.heap.size + 1, 5, none⟩ = some (.slice b.ha s.held.length b.hc) ∧ V.cell? ⟨w.heap.size + 1, 6, none⟩ = some (.slice b.ba s.bin.length b.bc)) := Lib.hid fun V hv => ⟨(hP.keep hv).seven, (hQ.keep hv).seven⟩
 have IA := Lib.hid (fun V (hv : Below W2.heap.size W2 V) => hA.keep (below_up hBB hv))
 have IB := Lib.hid (fun V (hv : Below W2.heap.size W2 V) => hB.keep (below_up hBB hv))
 have t1 := hA.tl; have t2 := hA.fl; have t3 := hA.cl; have t4 := hA.hl; have t5 := hA.bl
 have HE1 := Lib.hid (fun V hv => eqT_same s.tiers a.ta b.ta a.tc b.tc V (IA.out V hv).ti (IB.out V hv).ti (by omega))
 have HE2 := Lib.hid (fun V hv => eqF_same s.files a.fa b.fa a.fc b.fc V (IA.out V hv).fi (IB.out V hv).fi (by omega))
 have HE3 := Lib.hid (fun V hv => eqC_same s.copies a.ca b.ca a.cc b.cc V (IA.out V hv).co (IB.out V hv).co (by omega))
 have HE4 := Lib.hid (fun V hv => eqS_same s.held a.ha b.ha a.hc b.hc V (IA.out V hv).he (IB.out V hv).he (by omega))
 have HE5 := Lib.hid (fun V hv => eqG_same s.bin a.ba b.ba a.bc b.bc V (IA.out V hv).bi (IB.out V hv).bi (by omega))
 clear hA hB hW1 hW2 hP hQ hz1 hz2 hB1 hB2 hBB t1 t2 t3 t4 t5
 have hv : Below W2.heap.size W2 W2 := Below.refl _ _
 obtain ⟨⟨p0, p1, p2, p3, p4, p5, p6⟩, q0, q1, q2, q3, q4, q5, q6⟩ := HCL.out _ hv
 have e1 : (s.least == s.least) = true := by simp
 have e2 : (s.wait == s.wait) = true := by simp
 go_enter Tryz.func34, Tryz.ntmps34
 go_wp2_with fail
 rw [HW1.out, HW2.out]
 go_wp2_with (first
  | (go_at_call 113; (with_reducible refine (HE1.out _ hv).mono ?_); rintro e wq ⟨rfl, hq⟩; have hv := below_up hv hq; obtain ⟨⟨p0, p1, p2, p3, p4, p5, p6⟩, q0, q1, q2, q3, q4, q5, q6⟩ := HCL.out _ hv)
  | (go_at_call 114; (with_reducible refine (HE2.out _ hv).mono ?_); rintro e wq ⟨rfl, hq⟩; have hv := below_up hv hq; obtain ⟨⟨p0, p1, p2, p3, p4, p5, p6⟩, q0, q1, q2, q3, q4, q5, q6⟩ := HCL.out _ hv)
  | (go_at_call 42; (with_reducible refine (HE3.out _ hv).mono ?_); rintro e wq ⟨rfl, hq⟩; have hv := below_up hv hq; obtain ⟨⟨p0, p1, p2, p3, p4, p5, p6⟩, q0, q1, q2, q3, q4, q5, q6⟩ := HCL.out _ hv)
  | (go_at_call 37; (with_reducible refine (HE4.out _ hv).mono ?_); rintro e wq ⟨rfl, hq⟩; have hv := below_up hv hq; obtain ⟨⟨p0, p1, p2, p3, p4, p5, p6⟩, q0, q1, q2, q3, q4, q5, q6⟩ := HCL.out _ hv)
  | (go_at_call 115; (with_reducible refine (HE5.out _ hv).mono ?_); rintro e wq ⟨rfl, hq⟩; have hv := below_up hv hq))
 go_ret
 exact ⟨rfl, below_up HBB.out hv⟩
def Sto.zero : Sto := ⟨0, 0, [], [], [], [], []⟩
def StA.zero : StA := ⟨none, 0, none, 0, none, 0, none, 0, none, 0⟩
theorem StIn.zero (w : World) : StIn w Sto.zero StA.zero :=
 ⟨RowE.nil _ _ _, RowE.nil _ _ _, RowE.nil _ _ _, RowE.nil _ _ _, RowE.nil _ _ _, ⟨Nat.le_refl _, by decide⟩, ⟨Nat.le_refl _, by decide⟩, ⟨Nat.le_refl _, by decide⟩, ⟨Nat.le_refl _, by decide⟩, ⟨Nat.le_refl _, by decide⟩, fun _ h => (by cases h), fun _ h => (by cases h), fun _ h => (by cases h), fun _ h => (by cases h), fun _ h => (by cases h)⟩
theorem became_ok (s : Sto) (a b : StA) (w : World) (hA : StIn w s a) (hB : StIn w s b) : Calls Tryz.prog 15 #[.agg #[.int .i64 s.least, .int .i64 s.wait, .slice a.ta s.tiers.length a.tc, .slice a.fa s.files.length a.fc, .slice a.ca s.copies.length a.cc, .slice a.ha s.held.length a.hc, .slice a.ba s.bin.length a.bc], .int .i64 0, .agg #[.int .i64 s.least, .int .i64 s.wait, .slice b.ta s.tiers.length b.tc, .slice b.fa s.files.length b.fc, .slice b.ca s.copies.length b.cc, .slice b.ha s.held.length b.hc, .slice b.ba s.bin.length b.bc], .int .i64 0] w fun e w' => e = .returned (.bool true) ∧ Below w.heap.size w w' := by
 obtain ⟨W1, hW1, hP, hz1, hB1⟩ := box w #[.int .i64 s.least, .int .i64 s.wait, .slice a.ta s.tiers.length a.tc, .slice a.fa s.files.length a.fc, .slice a.ca s.copies.length a.cc, .slice a.ha s.held.length a.hc, .slice a.ba s.bin.length a.bc] 28
 obtain ⟨W2, hW2, hQ, hz2, hB2⟩ := box W1 #[.int .i64 s.least, .int .i64 s.wait, .slice b.ta s.tiers.length b.tc, .slice b.fa s.files.length b.fc, .slice b.ca s.copies.length b.cc, .slice b.ha s.held.length b.hc, .slice b.ba s.bin.length b.bc] 28
 have HW1 := Lib.hid hW1; have HW2 := Lib.hid hW2
 have hP := hP.keep hB2
 rw [hz1] at hQ
 have hBB := below_up hB1 hB2
 have HBB := Lib.hid hBB
 have HSS := Lib.hid (sameStore_is s a b W2 (hA.keep hBB) (hB.keep hBB))
 obtain ⟨p0, p1, p2, p3, p4, p5, p6⟩ := hP.seven
 obtain ⟨q0, q1, q2, q3, q4, q5, q6⟩ := hQ.seven
 clear hA hB hW1 hW2 hP hQ hz1 hz2 hB1 hB2 hBB
 go_enter Tryz.func15, Tryz.ntmps15
 go_wp2_with fail
 rw [HW1.out, HW2.out]
 go_wp2_with (go_at_call 34; (with_reducible refine HSS.out.mono ?_); rintro e wq ⟨rfl, hq⟩)
 go_ret
 exact ⟨rfl, below_up HBB.out hq⟩
theorem became_err (t : Sto) (b : StA) (q : Int) (hq : q ≠ 0) (w : World) : Calls Tryz.prog 15 #[.agg #[.int .i64 0, .int .i64 0, .slice none 0 0, .slice none 0 0, .slice none 0 0, .slice none 0 0, .slice none 0 0], .int .i64 q, .agg #[.int .i64 t.least, .int .i64 t.wait, .slice b.ta t.tiers.length b.tc, .slice b.fa t.files.length b.fc, .slice b.ca t.copies.length b.cc, .slice b.ha t.held.length b.hc, .slice b.ba t.bin.length b.bc], .int .i64 q] w fun e w' => e = .returned (.bool true) ∧ Below w.heap.size w w' := by
 obtain ⟨W1, hW1, hP, hz1, hB1⟩ := box w #[.int .i64 0, .int .i64 0, .slice none 0 0, .slice none 0 0, .slice none 0 0, .slice none 0 0, .slice none 0 0] 28
 obtain ⟨W2, hW2, hQ, hz2, hB2⟩ := box W1 #[.int .i64 0, .int .i64 0, .slice none 0 0, .slice none 0 0, .slice none 0 0, .slice none 0 0, .slice none 0 0] 28
 have HW1 := Lib.hid hW1; have HW2 := Lib.hid hW2
 have hBB := below_up hB1 hB2
 have hq1 : (q != 0) = true := by simpa using hq
 have hq2 : (q == q) = true := by simp
 obtain ⟨p0, p1, p2, p3, p4, p5, p6⟩ := hP.seven
 have HBB := Lib.hid hBB
 have HSS := Lib.hid (sameStore_is Sto.zero StA.zero StA.zero W2 (StIn.zero _) (StIn.zero _))
 clear hW1 hW2 hP hQ hz2 hB1 hB2 hBB hq
 go_enter Tryz.func15, Tryz.ntmps15
 go_upto_region 1 with fail
 rw [HW1.out]
 go_wp2_with fail
 rw [HW2.out]
 go_at_call 34
 refine HSS.out.mono ?_
 rintro e wq ⟨rfl, hq⟩
 go_wp2_with fail
 go_ret
 exact ⟨rfl, below_up HBB.out hq⟩
def StoOk (w : World) (t : Sto) (e : Ending) (w' : World) : Prop := ∃ a' : StA, e = .returned (.tuple #[.agg #[.int .i64 t.least, .int .i64 t.wait, .slice a'.ta t.tiers.length a'.tc, .slice a'.fa t.files.length a'.fc, .slice a'.ca t.copies.length a'.cc, .slice a'.ha t.held.length a'.hc, .slice a'.ba t.bin.length a'.bc], .int .i64 0]) ∧ StIn w' t a' ∧ Below w.heap.size w w'
def StoErr (w : World) (q : Int) (e : Ending) (w' : World) : Prop := e = .returned (.tuple #[.agg #[.int .i64 0, .int .i64 0, .slice none 0 0, .slice none 0 0, .slice none 0 0, .slice none 0 0, .slice none 0 0], .int .i64 q]) ∧ Below w.heap.size w w'
theorem StIn.two {w : World} {s : Sto} {a : StA} (h : StIn w s a) {H : List ByteArray} {B : List Gon} {ga gb : Option Addr} {gc gd : Nat} (h1 : RowE St.eS w ga H) (h2 : H.length ≤ gc ∧ gc ≤ 9223372036854775807) (h3 : RowE St.eG w gb B) (h4 : B.length ≤ gd ∧ gd ≤ 9223372036854775807) (h5 : ∀ d ∈ H, d.size ≤ 9223372036854775807) (h6 : ∀ g ∈ B, g.dig.size ≤ 9223372036854775807) :
  StIn w { s with held := H, bin := B } ⟨a.ta, a.tc, a.fa, a.fc, a.ca, a.cc, ga, gc, gb, gd⟩ :=
 ⟨h.ti, h.fi, h.co, h1, h3, h.tl, h.fl, h.cl, h2, h4, h.tz, h.fz, h.cz, h5, h6⟩
theorem releaseS_err (s : Sto) (a : StA) (d : ByteArray) (day : Int) (w : World) (hI : StIn w s a) (he : St.err s ≠ 0) : Calls Tryz.prog 12 #[.agg #[.int .i64 s.least, .int .i64 s.wait, .slice a.ta s.tiers.length a.tc, .slice a.fa s.files.length a.fc, .slice a.ca s.copies.length a.cc, .slice a.ha s.held.length a.hc, .slice a.ba s.bin.length a.bc], .string d, .int .i64 day] w (StoErr w (St.err s)) := by
 obtain ⟨W1, hW1, hP, hz1, hB1⟩ := box w #[.int .i64 s.least, .int .i64 s.wait, .slice a.ta s.tiers.length a.tc, .slice a.fa s.files.length a.fc, .slice a.ca s.copies.length a.cc, .slice a.ha s.held.length a.hc, .slice a.ba s.bin.length a.bc] 28
 obtain ⟨W2, hW2, hQ, hz2, hB2⟩ := box W1 #[.int .i64 0, .int .i64 0, .slice none 0 0, .slice none 0 0, .slice none 0 0, .slice none 0 0, .slice none 0 0] 28
 rw [hz1] at hQ hz2
 have hP := hP.keep hB2
 have hBB := below_up hB1 hB2
 have HW1 := Lib.hid hW1; have HW2 := Lib.hid hW2; have HP := Lib.hid hP; have HQ := Lib.hid hQ; have HBB := Lib.hid hBB; have HZ2 := Lib.hid hz2
 have HI2 := Lib.hid (hI.keep hBB)
 obtain ⟨q0, q1, q2, q3, q4, q5, q6⟩ := hP.seven
 have HCK := Lib.hid (check_is s a W2 HI2.out)
 have HSZ := Lib.hid hI.sz
 clear hI hW1 hW2 hP hQ hz1 hz2 hB1 hB2 hBB
 have hq1 : (St.err s != 0) = true := by simpa using he
 generalize St.err s = q at *
 clear he
 go_enter Tryz.func12, Tryz.ntmps12
 go_upto_region 1 with fail
 rw [HW1.out, HW2.out]
 go_upto_region 3 with (go_at_call 32; (with_reducible refine HCK.out.mono ?_); rintro e w3 ⟨rfl, hB3⟩)
 have hQ3 := HQ.out.keep hB3
 have hB03 := below_up HBB.out hB3
 have hs2 := HZ2.out
 clear q0 q1 q2 q3 q4 q5 q6
 go_wp2_with (refine wpList_store_row rfl 28 _ _ rfl (w.heap.size + 1) #[.int .i64 0, .int .i64 0, .slice none 0 0, .slice none 0 0, .slice none 0 0, .slice none 0 0, .slice none 0 0] rfl rfl 28 _ hQ3 infoSto rfl (by simp [Value.oneCell']) ?_)
 obtain ⟨g0, g1, g2, g3, g4, g5, g6⟩ := (Blk.setRowAt (hQ3) #[.int .i64 0, .int .i64 0, .slice none 0 0, .slice none 0 0, .slice none 0 0, .slice none 0 0, .slice none 0 0]).seven
 refine bodyPost_ret (v := .tuple #[.agg #[.int .i64 0, .int .i64 0, .slice none 0 0, .slice none 0 0, .slice none 0 0, .slice none 0 0, .slice none 0 0], .int .i64 (q)]) (by simp [results, Tryz.results12, go_sem, g0, g1, g2, g3, g4, g5, g6]) rfl ⟨rfl, below_setRow (hB03) (by omega) _⟩
theorem St.dsz {s : Sto} (r : St.Right s) {d : ByteArray} (h : St.kindOf s.files d = 1) : d.size = 16 := by
 obtain ⟨f, hf, _, hd, _⟩ := St.kind_mem h
 exact St.file16 r hf
theorem releaseS_none (s : Sto) (a : StA) (d : ByteArray) (day : Int) (w : World) (hI : StIn w s a) (r : St.Right s) (hd : St.hasK id s.held d = false) : Calls Tryz.prog 12 #[.agg #[.int .i64 s.least, .int .i64 s.wait, .slice a.ta s.tiers.length a.tc, .slice a.fa s.files.length a.fc, .slice a.ca s.copies.length a.cc, .slice a.ha s.held.length a.hc, .slice a.ba s.bin.length a.bc], .string d, .int .i64 day] w (StoErr w 7) := by
 obtain ⟨W1, hW1, hP, hz1, hB1⟩ := box w #[.int .i64 s.least, .int .i64 s.wait, .slice a.ta s.tiers.length a.tc, .slice a.fa s.files.length a.fc, .slice a.ca s.copies.length a.cc, .slice a.ha s.held.length a.hc, .slice a.ba s.bin.length a.bc] 28
 obtain ⟨W2, hW2, hQ, hz2, hB2⟩ := box W1 #[.int .i64 0, .int .i64 0, .slice none 0 0, .slice none 0 0, .slice none 0 0, .slice none 0 0, .slice none 0 0] 28
 rw [hz1] at hQ hz2
 have hP := hP.keep hB2
 have hBB := below_up hB1 hB2
 have HW1 := Lib.hid hW1; have HW2 := Lib.hid hW2; have HP := Lib.hid hP; have HQ := Lib.hid hQ; have HBB := Lib.hid hBB; have HZ2 := Lib.hid hz2
 have HI2 := Lib.hid (hI.keep hBB)
 obtain ⟨q0, q1, q2, q3, q4, q5, q6⟩ := hP.seven
 have HCK := Lib.hid (check_is s a W2 HI2.out)
 have HSZ := Lib.hid hI.sz
 clear hI hW1 hW2 hP hQ hz1 hz2 hB1 hB2 hBB
 rw [St.err_iff.2 r] at HCK
 obtain ⟨_, y1, y2, y3, y4, y5⟩ := St.sizes_iff.1 r.sizes
 have HHD := Lib.hid (fun V => held_is s a V)
 have HHS := Lib.hid (fun V (hv : Below W2.heap.size W2 V) => hasS_is s.held r.hup (by omega) d a.ha a.hc V (HI2.out.keep hv).hl (HI2.out.keep hv).he)
 rw [show St.hasS s.held d = false from hd] at HHS
 clear r hd y1 y2 y3 y4 y5
 go_enter Tryz.func12, Tryz.ntmps12
 go_upto_region 1 with fail
 rw [HW1.out, HW2.out]
 go_upto_region 5 with (first
  | (go_at_call 32; (with_reducible refine HCK.out.mono ?_); rintro e w3 ⟨rfl, hv⟩; obtain ⟨q0, q1, q2, q3, q4, q5, q6⟩ := (HP.out.keep hv).seven)
  | (go_at_call 58; (with_reducible refine (HHD.out _).mono ?_); rintro e w4 ⟨rfl, hq⟩; have hv := below_up hv hq)
  | (go_at_call 63; (with_reducible refine (HHS.out _ hv).mono ?_); rintro e w5 ⟨rfl, hq⟩; have hv := below_up hv hq))
 have hQ3 := HQ.out.keep hv
 have hB03 := below_up HBB.out hv
 have hs2 := HZ2.out
 clear q0 q1 q2 q3 q4 q5 q6
 go_wp2_with (refine wpList_store_row rfl 28 _ _ rfl (w.heap.size + 1) #[.int .i64 0, .int .i64 0, .slice none 0 0, .slice none 0 0, .slice none 0 0, .slice none 0 0, .slice none 0 0] rfl rfl 28 _ hQ3 infoSto rfl (by simp [Value.oneCell']) ?_)
 obtain ⟨g0, g1, g2, g3, g4, g5, g6⟩ := (Blk.setRowAt (hQ3) #[.int .i64 0, .int .i64 0, .slice none 0 0, .slice none 0 0, .slice none 0 0, .slice none 0 0, .slice none 0 0]).seven
 refine bodyPost_ret (v := .tuple #[.agg #[.int .i64 0, .int .i64 0, .slice none 0 0, .slice none 0 0, .slice none 0 0, .slice none 0 0, .slice none 0 0], .int .i64 (7)]) (by simp [results, Tryz.results12, go_sem, g0, g1, g2, g3, g4, g5, g6]) rfl ⟨rfl, below_setRow (hB03) (by omega) _⟩
theorem releaseS_range (s : Sto) (a : StA) (d : ByteArray) (day : Int) (w : World) (hI : StIn w s a) (r : St.Right s) (hd : St.hasK id s.held d = true) (hday : St.inB day 0 73048 = false) : Calls Tryz.prog 12 #[.agg #[.int .i64 s.least, .int .i64 s.wait, .slice a.ta s.tiers.length a.tc, .slice a.fa s.files.length a.fc, .slice a.ca s.copies.length a.cc, .slice a.ha s.held.length a.hc, .slice a.ba s.bin.length a.bc], .string d, .int .i64 day] w (StoErr w 2) := by
 obtain ⟨W1, hW1, hP, hz1, hB1⟩ := box w #[.int .i64 s.least, .int .i64 s.wait, .slice a.ta s.tiers.length a.tc, .slice a.fa s.files.length a.fc, .slice a.ca s.copies.length a.cc, .slice a.ha s.held.length a.hc, .slice a.ba s.bin.length a.bc] 28
 obtain ⟨W2, hW2, hQ, hz2, hB2⟩ := box W1 #[.int .i64 0, .int .i64 0, .slice none 0 0, .slice none 0 0, .slice none 0 0, .slice none 0 0, .slice none 0 0] 28
 rw [hz1] at hQ hz2
 have hP := hP.keep hB2
 have hBB := below_up hB1 hB2
 have HW1 := Lib.hid hW1; have HW2 := Lib.hid hW2; have HP := Lib.hid hP; have HQ := Lib.hid hQ; have HBB := Lib.hid hBB; have HZ2 := Lib.hid hz2
 have HI2 := Lib.hid (hI.keep hBB)
 obtain ⟨q0, q1, q2, q3, q4, q5, q6⟩ := hP.seven
 have HCK := Lib.hid (check_is s a W2 HI2.out)
 have HSZ := Lib.hid hI.sz
 clear hI hW1 hW2 hP hQ hz1 hz2 hB1 hB2 hBB
 rw [St.err_iff.2 r] at HCK
 obtain ⟨_, y1, y2, y3, y4, y5⟩ := St.sizes_iff.1 r.sizes
 have HHD := Lib.hid (fun V => held_is s a V)
 have HHS := Lib.hid (fun V (hv : Below W2.heap.size W2 V) => hasS_is s.held r.hup (by omega) d a.ha a.hc V (HI2.out.keep hv).hl (HI2.out.keep hv).he)
 rw [show St.hasS s.held d = true from hd] at HHS
 have HDY := Lib.hid (fun V => isDayS_is day V)
 rw [hday] at HDY
 clear r hd hday y1 y2 y3 y4 y5
 go_enter Tryz.func12, Tryz.ntmps12
 go_upto_region 1 with fail
 rw [HW1.out, HW2.out]
 go_upto_region 7 with (first
  | (go_at_call 32; (with_reducible refine HCK.out.mono ?_); rintro e w3 ⟨rfl, hv⟩; obtain ⟨q0, q1, q2, q3, q4, q5, q6⟩ := (HP.out.keep hv).seven)
  | (go_at_call 58; (with_reducible refine (HHD.out _).mono ?_); rintro e w4 ⟨rfl, hq⟩; have hv := below_up hv hq)
  | (go_at_call 63; (with_reducible refine (HHS.out _ hv).mono ?_); rintro e w5 ⟨rfl, hq⟩; have hv := below_up hv hq)
  | (go_at_call 64; (with_reducible refine (HDY.out _).mono ?_); rintro e w6 ⟨rfl, rfl⟩))
 have hQ3 := HQ.out.keep hv
 have hB03 := below_up HBB.out hv
 have hs2 := HZ2.out
 clear q0 q1 q2 q3 q4 q5 q6
 go_wp2_with (refine wpList_store_row rfl 28 _ _ rfl (w.heap.size + 1) #[.int .i64 0, .int .i64 0, .slice none 0 0, .slice none 0 0, .slice none 0 0, .slice none 0 0, .slice none 0 0] rfl rfl 28 _ hQ3 infoSto rfl (by simp [Value.oneCell']) ?_)
 obtain ⟨g0, g1, g2, g3, g4, g5, g6⟩ := (Blk.setRowAt (hQ3) #[.int .i64 0, .int .i64 0, .slice none 0 0, .slice none 0 0, .slice none 0 0, .slice none 0 0, .slice none 0 0]).seven
 refine bodyPost_ret (v := .tuple #[.agg #[.int .i64 0, .int .i64 0, .slice none 0 0, .slice none 0 0, .slice none 0 0, .slice none 0 0, .slice none 0 0], .int .i64 (2)]) (by simp [results, Tryz.results12, go_sem, g0, g1, g2, g3, g4, g5, g6]) rfl ⟨rfl, below_setRow (hB03) (by omega) _⟩
theorem StOwn.cellB {w : World} {B b : Nat} {s : Sto} {a : StA} (h : StOwn w B s a) (hb : b < B) (i : Nat) (u : Value) : StOwn (w.setCell ⟨b, i, none⟩ u) B s a :=
 ⟨h.ti.next (Below.refl _ _) hb, h.fi.next (Below.refl _ _) hb, h.co.next (Below.refl _ _) hb, h.he.next (Below.refl _ _) hb, h.bi.next (Below.refl _ _) hb⟩
theorem releaseS_ok (s : Sto) (a : StA) (d : ByteArray) (day : Int) (w : World) (hI : StIn w s a) (r : St.Right s) (hd : St.hasK id s.held d = true) (hday : St.inB day 0 73048 = true) : Calls Tryz.prog 12 #[.agg #[.int .i64 s.least, .int .i64 s.wait, .slice a.ta s.tiers.length a.tc, .slice a.fa s.files.length a.fc, .slice a.ca s.copies.length a.cc, .slice a.ha s.held.length a.hc, .slice a.ba s.bin.length a.bc], .string d, .int .i64 day] w (StoOk w (St.release s d day)) := by
 obtain ⟨W1, hW1, hP, hz1, hB1⟩ := box w #[.int .i64 s.least, .int .i64 s.wait, .slice a.ta s.tiers.length a.tc, .slice a.fa s.files.length a.fc, .slice a.ca s.copies.length a.cc, .slice a.ha s.held.length a.hc, .slice a.ba s.bin.length a.bc] 28
 obtain ⟨W2, hW2, hQ, hz2, hB2⟩ := box W1 #[.int .i64 0, .int .i64 0, .slice none 0 0, .slice none 0 0, .slice none 0 0, .slice none 0 0, .slice none 0 0] 28
 rw [hz1] at hQ hz2
 have hP := hP.keep hB2
 have hBB := below_up hB1 hB2
 have HW1 := Lib.hid hW1; have HW2 := Lib.hid hW2; have HP := Lib.hid hP; have HQ := Lib.hid hQ; have HBB := Lib.hid hBB; have HZ2 := Lib.hid hz2
 have HI2 := Lib.hid (hI.keep hBB)
 obtain ⟨q0, q1, q2, q3, q4, q5, q6⟩ := hP.seven
 have HCK := Lib.hid (check_is s a W2 HI2.out)
 have HSZ := Lib.hid hI.sz
 clear hI hW1 hW2 hP hQ hz1 hz2 hB1 hB2 hBB
 rw [St.err_iff.2 r] at HCK
 obtain ⟨_, y1, y2, y3, y4, y5⟩ := St.sizes_iff.1 r.sizes
 have HHD0 := Lib.hid (fun V => held_is s a V)
 have HHS := Lib.hid (fun V (hv : Below W2.heap.size W2 V) => hasS_is s.held r.hup (by omega) d a.ha a.hc V (HI2.out.keep hv).hl (HI2.out.keep hv).he)
 rw [show St.hasS s.held d = true from hd] at HHS
 have HDY := Lib.hid (fun V => isDayS_is day V)
 rw [hday] at HDY
 have HCP := Lib.hid (fun V (hv : Below W2.heap.size W2 V) => copyStore_is s a V (HI2.out.keep hv) ⟨y1, y2, y3, y4, y5⟩)
 unfold CpyPost at HCP
 have HWO := Lib.hid (fun (b : StA) V (hI : StIn V s b) => woS_is s.held r.hup (by omega) d b.ha b.hc V hI.hl hI.he)
 have HWT := Lib.hid (fun (b : StA) V (hI : StIn V s b) => withG_is s.bin r.bup (by omega) ⟨d, day⟩ b.ba b.bc V hI.bl hI.bi)
 unfold ClnPost at HWO HWT
 have rr := St.right_release r hd hday
 have HS5 : Hid (∀ x ∈ St.wo id d s.held, x.size ≤ 9223372036854775807) := Lib.hid fun x hx => by have := St.dsz rr (rr.held x hx); omega
 have HS6 : Hid (∀ g ∈ St.wth St.gdig ⟨d, day⟩ s.bin, g.dig.size ≤ 9223372036854775807) := Lib.hid fun g hg => by have := St.dsz rr (rr.bin g hg).1; omega
 have HRE : Hid (St.release s d day = { s with held := St.wo id d s.held, bin := St.wth St.gdig ⟨d, day⟩ s.bin }) := Lib.hid rfl
 generalize St.wo id d s.held = HH at *
 generalize St.wth St.gdig ⟨d, day⟩ s.bin = BB at *
 clear r rr hd hday y1 y2 y3 y4 y5
 go_enter Tryz.func12, Tryz.ntmps12
 go_upto_region 1 with fail
 rw [HW1.out, HW2.out]
 go_upto_region 9 with (first
  | (go_at_call 32; (with_reducible refine HCK.out.mono ?_); rintro e w3 ⟨rfl, hv⟩; obtain ⟨q0, q1, q2, q3, q4, q5, q6⟩ := (HP.out.keep hv).seven)
  | (go_at_call 58; (with_reducible refine (HHD0.out _).mono ?_); rintro e w4 ⟨rfl, hq⟩; have hv := below_up hv hq)
  | (go_at_call 63; (with_reducible refine (HHS.out _ hv).mono ?_); rintro e w7 ⟨rfl, hq⟩; have hv := below_up hv hq; obtain ⟨q0, q1, q2, q3, q4, q5, q6⟩ := (HP.out.keep hv).seven)
  | (go_at_call 64; (with_reducible refine (HDY.out _).mono ?_); rintro e w6 ⟨rfl, rfl⟩)
  | (go_at_call 51; (with_reducible refine (HCP.out _ hv).mono ?_); rintro e w8 ⟨b, rfl, hOwn, hB8⟩)
  | (refine wpList_store_row rfl 28 _ _ rfl w.heap.size #[.int .i64 s.least, .int .i64 s.wait, .slice b.ta s.tiers.length b.tc, .slice b.fa s.files.length b.fc, .slice b.ca s.copies.length b.cc, .slice b.ha s.held.length b.hc, .slice b.ba s.bin.length b.bc] rfl rfl 28 _ (HP.out.keep (below_up hv hB8)) infoSto rfl (by simp [Value.oneCell']) ?_))
 have hlt4 : w.heap.size + 1 < w7.heap.size := by have := HZ2.out; have := hv.size; omega
 have hv8 := below_up hv hB8
 have hPv := Blk.setRowAt (HP.out.keep hv8) #[.int .i64 s.least, .int .i64 s.wait, .slice b.ta s.tiers.length b.tc, .slice b.fa s.files.length b.fc, .slice b.ca s.copies.length b.cc, .slice b.ha s.held.length b.hc, .slice b.ba s.bin.length b.bc]
 have hQv := (HQ.out.keep hv8).setRowOther (b' := w.heap.size) (by omega) #[.int .i64 s.least, .int .i64 s.wait, .slice b.ta s.tiers.length b.tc, .slice b.fa s.files.length b.fc, .slice b.ca s.copies.length b.cc, .slice b.ha s.held.length b.hc, .slice b.ba s.bin.length b.bc]
 have hBv := below_setRow (below_up HBB.out hv8) (Nat.le_refl w.heap.size) #[.int .i64 s.least, .int .i64 s.wait, .slice b.ta s.tiers.length b.tc, .slice b.fa s.files.length b.fc, .slice b.ca s.copies.length b.cc, .slice b.ha s.held.length b.hc, .slice b.ba s.bin.length b.bc]
 have hOv := hOwn.setRow (b := w.heap.size) (by omega) #[.int .i64 s.least, .int .i64 s.wait, .slice b.ta s.tiers.length b.tc, .slice b.fa s.files.length b.fc, .slice b.ca s.copies.length b.cc, .slice b.ha s.held.length b.hc, .slice b.ba s.bin.length b.bc]
 have hVz : w.heap.size + 2 ≤ (w8.setRow w.heap.size #[.int .i64 s.least, .int .i64 s.wait, .slice b.ta s.tiers.length b.tc, .slice b.fa s.files.length b.fc, .slice b.ca s.copies.length b.cc, .slice b.ha s.held.length b.hc, .slice b.ba s.bin.length b.bc]).heap.size := by have := hB8.size; simp; omega
 obtain ⟨V, hV⟩ : ∃ V, w8.setRow w.heap.size #[.int .i64 s.least, .int .i64 s.wait, .slice b.ta s.tiers.length b.tc, .slice b.fa s.files.length b.fc, .slice b.ca s.copies.length b.cc, .slice b.ha s.held.length b.hc, .slice b.ba s.bin.length b.bc] = V := ⟨_, rfl⟩
 rw [hV] at hPv hQv hBv hOv hVz ⊢
 clear hV q0 q1 q2 q3 q4 q5 q6 hOwn
 have HHD := Lib.hid (fun V => held_is s b V)
 have HBN := Lib.hid (fun V => binRow_is s b V)
 have hPd := hPv.drew; have hQd := hQv.drew; have hBd := hBv.drew
 have hOd := hOv.keep (Below.refl _ _).drew
 have hsz : w.heap.size + 2 ≤ V.drew.heap.size := hVz
 clear hPv hQv hBv hOv hVz hv8 hB8 hv
 have hHeld := hPd.seven
 refine wp_region_until (fun W => W.cell? ⟨w.heap.size, 0, none⟩ = some (.int .i64 s.least) ∧ W.cell? ⟨w.heap.size, 1, none⟩ = some (.int .i64 s.wait) ∧ W.cell? ⟨w.heap.size, 2, none⟩ = some (.slice b.ta s.tiers.length b.tc) ∧ W.cell? ⟨w.heap.size, 3, none⟩ = some (.slice b.fa s.files.length b.fc) ∧ W.cell? ⟨w.heap.size, 4, none⟩ = some (.slice b.ca s.copies.length b.cc) ∧ W.cell? ⟨w.heap.size, 5, none⟩ = some (.slice b.ha s.held.length b.hc) ∧ W.cell? ⟨w.heap.size, 6, none⟩ = some (.slice b.ba s.bin.length b.bc)) 11 (by kernel_rfl) ?_
 refine anyM_take (i := 0) (v := ?_) rfl rfl (by kernel_rfl) (by decide) (by kernel_rfl) (by kernel_rfl) (by kernel_rfl) (fun _ _ _ h => h) (Or.inl ⟨by rfl, ?_⟩) (by rfl) (by assumption) ?_
 rotate_left
 ·(intro w hSw; (try dsimp only at hSw); (try obtain ⟨hs1, hs2, hs3, hs4, hs5, hs6, hs7⟩ := hSw); go_simp; try (with_reducible rfl))
 try go_frame
 refine anyM_take0 (i := 2) (v := ?_) rfl (by decide) (by kernel_rfl) (by kernel_rfl) (by kernel_rfl) (fun _ _ _ h => h) (Or.inl ⟨by rfl, ?_⟩) (fun _ => by assumption) ?_
 rotate_left
 ·(intro w hSw; go_simp; try (with_reducible rfl))
 try go_frame
 refine anyM_take (i := 4) (v := ?_) rfl rfl (by kernel_rfl) (by decide) (by kernel_rfl) (by kernel_rfl) (by kernel_rfl) (fun _ _ _ h => h) (Or.inl ⟨by rfl, ?_⟩) (by rfl) (by assumption) ?_
 rotate_left
 ·(intro w hSw; (try dsimp only at hSw); (try obtain ⟨hs1, hs2, hs3, hs4, hs5, hs6, hs7⟩ := hSw); go_simp; try (with_reducible rfl))
 try go_frame
 refine anyM_take0 (i := 6) (v := ?_) rfl (by decide) (by kernel_rfl) (by kernel_rfl) (by kernel_rfl) (fun _ _ _ h => h) (Or.inl ⟨by rfl, ?_⟩) (fun _ => by assumption) ?_
 rotate_left
 ·(intro w hSw; go_simp; try (with_reducible rfl))
 try go_frame
 refine anyM_take0 (i := 7) (v := ?_) rfl (by decide) (by kernel_rfl) (by kernel_rfl) (by kernel_rfl) (fun _ _ _ h => h) (Or.inl ⟨by rfl, ?_⟩) (fun _ => by assumption) ?_
 rotate_left
 ·(intro w hSw; go_simp; try (with_reducible rfl))
 try go_frame
 refine anyM_take0 (i := 8) (v := ?_) rfl (by decide) (by kernel_rfl) (by kernel_rfl) (by kernel_rfl) (fun _ _ _ h => h) (Or.inl ⟨by rfl, ?_⟩) (fun _ => by assumption) ?_
 rotate_left
 ·(intro w hSw; go_simp; try (with_reducible rfl))
 try go_frame
 refine anyM_ready (rs := [1]) (by kernel_rfl) (by simp) ?_
 refine ReadyM.cons rfl (fun K hK => ?_) ReadyM.nil
 go_simp
 refine (HHD.out _).mono ?_
 rintro e x1 ⟨rfl, hq1⟩
 have hPd := hPd.keep hq1; have hQd := hQd.keep hq1; have hOd := hOd.keep hq1
 have hBd := below_up hBd hq1
 have hsz := Nat.le_trans hsz hq1.size
 have hHeld := hPd.seven
 refine hK.out _ _ (fun _ => hHeld) ?_
 clear hK K
 try go_frame
 refine anyM_ready (rs := [3]) (by kernel_rfl) (by simp) ?_
 refine ReadyM.cons rfl (fun K hK => ?_) ReadyM.nil
 go_simp
 refine (HWO.out b _ (hOd.in_ HSZ.out)).mono ?_
 rintro e x2 ⟨g2, c2, rfl, o2, hq2⟩; have o2 := o2.down hsz
 have hPd := hPd.keep hq2; have hQd := hQd.keep hq2; have hOd := hOd.keep hq2
 have hBd := below_up hBd hq2
 have hsz := Nat.le_trans hsz hq2.size
 have hHeld := hPd.seven
 refine hK.out _ _ (fun _ => hHeld) ?_
 clear hK K
 try go_frame
 refine anyM_take0 (i := 10) (v := ?_) rfl (by decide) (by kernel_rfl) (by kernel_rfl) (by kernel_rfl) (fun _ _ _ h => h) (Or.inl ⟨by rfl, ?_⟩) (fun _ => by assumption) ?_
 rotate_left
 ·(intro w hSw; go_simp; try (with_reducible rfl))
 try go_frame
 refine anyM_ready (rs := [5]) (by kernel_rfl) (by simp) ?_
 refine ReadyM.cons rfl (fun K hK => ?_) ReadyM.nil
 go_simp
 refine (HBN.out _).mono ?_
 rintro e x3 ⟨rfl, hq3⟩
 have hPd := hPd.keep hq3; have hQd := hQd.keep hq3; have hOd := hOd.keep hq3
 have hBd := below_up hBd hq3
 have hsz := Nat.le_trans hsz hq3.size
 have hHeld := hPd.seven
 refine hK.out _ _ (fun _ => hHeld) ?_
 clear hK K
 try go_frame
 refine anyM_ready (rs := [9]) (by kernel_rfl) (by simp) ?_
 refine ReadyM.cons rfl (fun K hK => ?_) ReadyM.nil
 go_simp
 refine (HWT.out b _ (hOd.in_ HSZ.out)).mono ?_
 rintro e x4 ⟨g4, c4, rfl, o4, hq4⟩; have o4 := o4.down hsz
 have hPd := hPd.keep hq4; have hQd := hQd.keep hq4; have hOd := hOd.keep hq4
 have hBd := below_up hBd hq4
 have hsz := Nat.le_trans hsz hq4.size
 have hHeld := hPd.seven
 refine hK.out _ _ (fun _ => hHeld) ?_
 clear hK K
 try go_frame
 have o2 := o2.keep hq3
 have o2 := o2.keep hq4
 clear hHeld
 obtain ⟨y0, y1, y2, y3, y4, y5, y6⟩ := hPd.seven
 have yf := hPd.free
 refine anyM_ready (rs := [11]) (by kernel_rfl) (by simp) ?_
 refine ReadyM.cons rfl (fun K hK => ?_) ReadyM.nil
 go_simp
 refine hK.out _ _ (fun h => absurd h (by simp)) ?_
 clear hK K y0 y1 y2 y3 y4 y5 y6 yf
 try go_frame
 have hPs := hPd.set 5 (.slice g2 HH.length c2)
 have hQs := hQd.setOther (a := ⟨w.heap.size, 5, none⟩) (by simp) (.slice g2 HH.length c2)
 have hBs := hBd.setCell (p := ⟨w.heap.size, 5, none⟩) (by simp) (.slice g2 HH.length c2)
 have hOd := hOd.cellB (b := w.heap.size) (by omega) 5 (.slice g2 HH.length c2)
 have o2 := o2.next (i := 5) (b := w.heap.size) (u := .slice g2 HH.length c2) (Below.refl _ _) (by omega)
 have o4 := o4.next (i := 5) (b := w.heap.size) (u := .slice g2 HH.length c2) (Below.refl _ _) (by omega)
 have hsz := show w.heap.size + 2 ≤ (x4.setCell ⟨w.heap.size, 5, none⟩ (.slice g2 HH.length c2)).heap.size by simp; omega
 generalize x4.setCell ⟨w.heap.size, 5, none⟩ (.slice g2 HH.length c2) = y5 at *
 clear hPd hQd hBd
 have hPd : Blk y5 w.heap.size #[.int .i64 s.least, .int .i64 s.wait, .slice b.ta s.tiers.length b.tc, .slice b.fa s.files.length b.fc, .slice b.ca s.copies.length b.cc, (.slice g2 HH.length c2), (.slice b.ba s.bin.length b.bc)] 28 := hPs
 have hQd := hQs; have hBd := hBs
 clear hPs hQs hBs
 refine anyM_ready (rs := [12]) (by kernel_rfl) (by simp) ?_
 refine ReadyM.cons rfl (fun K hK => ?_) ReadyM.nil
 go_simp
 refine hK.out _ _ (fun h => absurd h (by simp)) ?_
 clear hK K
 try go_frame
 obtain ⟨y0, y1, y2, y3, y4, y5, y6⟩ := hPd.seven
 have yf := hPd.free
 refine anyM_ready (rs := [13]) (by kernel_rfl) (by simp) ?_
 refine ReadyM.cons rfl (fun K hK => ?_) ReadyM.nil
 go_simp
 refine hK.out _ _ (fun h => absurd h (by simp)) ?_
 clear hK K y0 y1 y2 y3 y4 y5 y6 yf
 try go_frame
 have hPs := hPd.set 6 (.slice g4 BB.length c4)
 have hQs := hQd.setOther (a := ⟨w.heap.size, 6, none⟩) (by simp) (.slice g4 BB.length c4)
 have hBs := hBd.setCell (p := ⟨w.heap.size, 6, none⟩) (by simp) (.slice g4 BB.length c4)
 have hOd := hOd.cellB (b := w.heap.size) (by omega) 6 (.slice g4 BB.length c4)
 have o2 := o2.next (i := 6) (b := w.heap.size) (u := .slice g4 BB.length c4) (Below.refl _ _) (by omega)
 have o4 := o4.next (i := 6) (b := w.heap.size) (u := .slice g4 BB.length c4) (Below.refl _ _) (by omega)
 have hsz := show w.heap.size + 2 ≤ (y5.setCell ⟨w.heap.size, 6, none⟩ (.slice g4 BB.length c4)).heap.size by simp; omega
 generalize y5.setCell ⟨w.heap.size, 6, none⟩ (.slice g4 BB.length c4) = y6 at *
 clear hPd hQd hBd
 have hPd : Blk y6 w.heap.size #[.int .i64 s.least, .int .i64 s.wait, .slice b.ta s.tiers.length b.tc, .slice b.fa s.files.length b.fc, .slice b.ca s.copies.length b.cc, (.slice g2 HH.length c2), (.slice g4 BB.length c4)] 28 := hPs
 have hQd := hQs; have hBd := hBs
 clear hPs hQs hBs
 refine anyM_done (by kernel_rfl) ?_ _
 have hI := (hOd.in_ HSZ.out).two (RowE.ofV (E := St.eS) (ca := c2) o2) o2.caps (RowE.ofV (E := St.eG) (ca := c4) o4) o4.caps HS5.out HS6.out
 have hO3 := hOd.setRow (b := w.heap.size + 1) (by omega) #[.int .i64 s.least, .int .i64 s.wait, .slice b.ta s.tiers.length b.tc, .slice b.fa s.files.length b.fc, .slice b.ca s.copies.length b.cc, (.slice g2 HH.length c2), (.slice g4 BB.length c4)]
 have o2' := o2.setRow (b := w.heap.size + 1) (by omega) #[.int .i64 s.least, .int .i64 s.wait, .slice b.ta s.tiers.length b.tc, .slice b.fa s.files.length b.fc, .slice b.ca s.copies.length b.cc, (.slice g2 HH.length c2), (.slice g4 BB.length c4)]
 have o4' := o4.setRow (b := w.heap.size + 1) (by omega) #[.int .i64 s.least, .int .i64 s.wait, .slice b.ta s.tiers.length b.tc, .slice b.fa s.files.length b.fc, .slice b.ca s.copies.length b.cc, (.slice g2 HH.length c2), (.slice g4 BB.length c4)]
 have hI := (hO3.in_ HSZ.out).two (RowE.ofV (E := St.eS) (ca := c2) o2') o2'.caps (RowE.ofV (E := St.eG) (ca := c4) o4') o4'.caps HS5.out HS6.out
 have HIZ := Lib.hid hI
 obtain ⟨y0, y1, y2, y3, y4, y5, y6⟩ := hPd.seven
 clear o2 o4 o2' o4' hI hO3 hOd hHeld
 go_wp2_with (refine wpList_store_row rfl 28 _ _ rfl (w.heap.size + 1) #[.int .i64 s.least, .int .i64 s.wait, .slice b.ta s.tiers.length b.tc, .slice b.fa s.files.length b.fc, .slice b.ca s.copies.length b.cc, (.slice g2 HH.length c2), (.slice g4 BB.length c4)] rfl rfl 28 _ hQd infoSto rfl (by simp [Value.oneCell']) ?_)
 obtain ⟨g0, g1, g2', g3, g4', g5, g6⟩ := (Blk.setRowAt hQd #[.int .i64 s.least, .int .i64 s.wait, .slice b.ta s.tiers.length b.tc, .slice b.fa s.files.length b.fc, .slice b.ca s.copies.length b.cc, (.slice g2 HH.length c2), (.slice g4 BB.length c4)]).seven
 refine bodyPost_ret (v := .tuple #[.agg #[.int .i64 s.least, .int .i64 s.wait, .slice b.ta s.tiers.length b.tc, .slice b.fa s.files.length b.fc, .slice b.ca s.copies.length b.cc, (.slice g2 HH.length c2), (.slice g4 BB.length c4)], .int .i64 0]) (by simp [results, Tryz.results12, go_sem, g0, g1, g2', g3, g4', g5, g6]) rfl ?_
 rw [HRE.out]
 exact ⟨_, rfl, HIZ.out, below_setRow hBd (by omega) _⟩
end Go.Proofs.YthdiccdnggloiaaGreatDoor
