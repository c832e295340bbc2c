/- The program's table of turns, and the reference's from. -/
import Derived.Test.YtkebkbjkapfgkaaPixImg
import Derived.Test.YtkebkbjkapfgkaaPixTurnMath
import Derived.Laws.EntriesVeiled
import Derived.Deep.WholeRow
namespace Go.Proofs.Ytkebkbjkapfgkaa
open Go.RowKit Go.Sort
set_option linter.unusedVariables false
/-- The function of a turn's entry. -/
def fromF (t : Nat) : Nat := ([0, 103, 104, 105, 106, 107, 108, 109, 110] : List Nat).getD t 0
theorem nat_sub1 {w x : Nat} (h : x < w) : (w : Int) - 1 - x = ((w - 1 - x : Nat) : Int) := by omega
set_option maxHeartbeats 1000000 in
theorem fromF_is (t w h x y : Nat) (W : World) (ht : 1 ≤ t ∧ t ≤ 8) (hw : w ≤ 64) (hh : h ≤ 64) (hx : x < Im.sw t w h) (hy : y < Im.sh t w h) :
    Calls Try.prog (fromF t) #[.int .i64 w, .int .i64 h, .int .i64 x, .int .i64 y] W fun e W' => e = .returned (.tuple #[.int .i64 (Im.tx t w x y : Nat), .int .i64 (Im.ty t h x y : Nat)]) ∧ W = W' := by
  rcases Im.one_to_eight ht with rfl | rfl | rfl | rfl | rfl | rfl | rfl | rfl
  all_goals (simp [Im.sw, Im.sh] at hx hy)
  · show Calls Try.prog 103 _ _ _
    -- p.turnings$1: the function
    go_enter Try.func103, Try.ntmps103
    go_wp2_with fail
    go_ret2
    exact ⟨by first | rfl | (refine ret_int2 ?_ ?_ <;> first | rfl | (simp only [Im.tx]; simp; omega) | (simp only [Im.ty]; simp; omega) | simp [Im.tx] | simp [Im.ty]), rfl⟩
  · show Calls Try.prog 104 _ _ _
    -- p.turnings$2: the function
    go_enter Try.func104, Try.ntmps104
    go_wp2_with fail
    go_ret2
    exact ⟨by first | rfl | (refine ret_int2 ?_ ?_ <;> first | rfl | (simp only [Im.tx]; simp; omega) | (simp only [Im.ty]; simp; omega) | simp [Im.tx] | simp [Im.ty]), rfl⟩
  · show Calls Try.prog 105 _ _ _
    -- p.turnings$3: the function
    go_enter Try.func105, Try.ntmps105
    go_wp2_with fail
    go_ret2
    exact ⟨by first | rfl | (refine ret_int2 ?_ ?_ <;> first | rfl | (simp only [Im.tx]; simp; omega) | (simp only [Im.ty]; simp; omega) | simp [Im.tx] | simp [Im.ty]), rfl⟩
  · show Calls Try.prog 106 _ _ _
    -- p.turnings$4: the function
    go_enter Try.func106, Try.ntmps106
    go_wp2_with fail
    go_ret2
    exact ⟨by first | rfl | (refine ret_int2 ?_ ?_ <;> first | rfl | (simp only [Im.tx]; simp; omega) | (simp only [Im.ty]; simp; omega) | simp [Im.tx] | simp [Im.ty]), rfl⟩
  · show Calls Try.prog 107 _ _ _
    -- p.turnings$5: the function
    go_enter Try.func107, Try.ntmps107
    go_wp2_with fail
    go_ret2
    exact ⟨by first | rfl | (refine ret_int2 ?_ ?_ <;> first | rfl | (simp only [Im.tx]; simp; omega) | (simp only [Im.ty]; simp; omega) | simp [Im.tx] | simp [Im.ty]), rfl⟩
  · show Calls Try.prog 108 _ _ _
    -- p.turnings$6: the function
    go_enter Try.func108, Try.ntmps108
    go_wp2_with fail
    go_ret2
    exact ⟨by first | rfl | (refine ret_int2 ?_ ?_ <;> first | rfl | (simp only [Im.tx]; simp; omega) | (simp only [Im.ty]; simp; omega) | simp [Im.tx] | simp [Im.ty]), rfl⟩
  · show Calls Try.prog 109 _ _ _
    -- p.turnings$7: the function
    go_enter Try.func109, Try.ntmps109
    go_wp2_with fail
    go_ret2
    exact ⟨by first | rfl | (refine ret_int2 ?_ ?_ <;> first | rfl | (simp only [Im.tx]; simp; omega) | (simp only [Im.ty]; simp; omega) | simp [Im.tx] | simp [Im.ty]), rfl⟩
  · show Calls Try.prog 110 _ _ _
    -- p.turnings$8: the function
    go_enter Try.func110, Try.ntmps110
    go_wp2_with fail
    go_ret2
    exact ⟨by first | rfl | (refine ret_int2 ?_ ?_ <;> first | rfl | (simp only [Im.tx]; simp; omega) | (simp only [Im.ty]; simp; omega) | simp [Im.tx] | simp [Im.ty]), rfl⟩
set_option maxHeartbeats 1000000 in
theorem rfrom_is (t w h x y : Nat) (W : World) (ht : 1 ≤ t ∧ t ≤ 8) (hw : w ≤ 64) (hh : h ≤ 64) (hx : x < Im.sw t w h) (hy : y < Im.sh t w h) :
    Calls Try.prog 72 #[.int .i64 t, .int .i64 w, .int .i64 h, .int .i64 x, .int .i64 y] W fun e W' => e = .returned (.tuple #[.int .i64 (Im.tx t w x y : Nat), .int .i64 (Im.ty t h x y : Nat)]) ∧ W = W' := by
  rcases Im.one_to_eight ht with rfl | rfl | rfl | rfl | rfl | rfl | rfl | rfl
  all_goals (simp [Im.sw, Im.sh] at hx hy)
  all_goals
    -- R.from: the function
    go_enter Try.func72, Try.ntmps72
    go_wp2_with fail
    go_ret2
    exact ⟨by first | rfl | (refine ret_int2 ?_ ?_ <;> first | rfl | (simp only [Im.tx]; simp; omega) | (simp only [Im.ty]; simp; omega) | simp [Im.tx] | simp [Im.ty]), rfl⟩
/-- The table of turns, as the program has it. -/
def turnTab : Value := .agg #[.nilFunc, .bool false, .func (.func 103) #[] #[], .bool false, .func (.func 104) #[] #[], .bool false, .func (.func 105) #[] #[], .bool false, .func (.func 106) #[] #[], .bool false,
  .func (.func 107) #[] #[], .bool true, .func (.func 108) #[] #[], .bool true, .func (.func 109) #[] #[], .bool true, .func (.func 110) #[] #[], .bool true]
theorem infoTab : (Try.prog.info? 120).map (·.size) = some 18 := by kernel_rfl
/-- The cells of the table. -/
def turnCells : Array Value := #[.nilFunc, .bool false, .func (.func 103) #[] #[], .bool false, .func (.func 104) #[] #[], .bool false, .func (.func 105) #[] #[], .bool false, .func (.func 106) #[] #[], .bool false,
  .func (.func 107) #[] #[], .bool true, .func (.func 108) #[] #[], .bool true, .func (.func 109) #[] #[], .bool true, .func (.func 110) #[] #[], .bool true]
def zeroCells : Array Value := #[.nilFunc, .bool false, .nilFunc, .bool false, .nilFunc, .bool false, .nilFunc, .bool false, .nilFunc, .bool false, .nilFunc, .bool false, .nilFunc, .bool false, .nilFunc, .bool false, .nilFunc, .bool false]
set_option maxHeartbeats 1000000 in
theorem turnings_is (w : World) : Calls Try.prog 88 #[] w fun e w' => e = .returned turnTab ∧ Below w.heap.size w w' := by
  go_enter Try.func88, Try.ntmps88
  go_wp2_with (refine wpList_store_row rfl 120 _ _ rfl w.heap.size turnCells rfl rfl 120 zeroCells (heap_alloc_new w _) infoTab rfl (by decide) ?_)
  exact bodyPost_ret (v := turnTab) (results_cell_row rfl _ _ w.heap.size 120 turnCells (0, 0) _ rfl (heap_alloc_new w _) Try.underlying120 rfl infoTab) rfl ⟨rfl, below_allocs (Below.refl _ _) _⟩
theorem fromF_eg (t : Nat) (ht : 1 ≤ t ∧ t ≤ 8) : ∀ args w, (callFunc (fromF t) args).run Try.prog w = .ok (.enter (fromF t) args) w := by
  rcases Im.one_to_eight ht with rfl | rfl | rfl | rfl | rfl | rfl | rfl | rfl
  · exact enters_of Try.func103 (by kernel_rfl) rfl
  · exact enters_of Try.func104 (by kernel_rfl) rfl
  · exact enters_of Try.func105 (by kernel_rfl) rfl
  · exact enters_of Try.func106 (by kernel_rfl) rfl
  · exact enters_of Try.func107 (by kernel_rfl) rfl
  · exact enters_of Try.func108 (by kernel_rfl) rfl
  · exact enters_of Try.func109 (by kernel_rfl) rfl
  · exact enters_of Try.func110 (by kernel_rfl) rfl
theorem tab_index (t : Nat) (w : World) (ht : 1 ≤ t ∧ t ≤ 8) : (Instr.index 120 turnTab (.int .i64 t)).run Try.prog w = .ok (.agg #[.func (.func (fromF t)) #[] #[], .bool (decide (5 ≤ t))]) w := by
  rcases Im.one_to_eight ht with rfl | rfl | rfl | rfl | rfl | rfl | rfl | rfl <;> kernel_rfl
theorem tab_field0 (g : Nat) (b : Bool) (w : World) : (Instr.field 119 (.agg #[.func (.func g) #[] #[], .bool b]) 0).run Try.prog w = .ok (.func (.func g) #[] #[]) w := by kernel_rfl
theorem tab_field1 (g : Nat) (b : Bool) (w : World) : (Instr.field 119 (.agg #[.func (.func g) #[] #[], .bool b]) 1).run Try.prog w = .ok (.bool b) w := by kernel_rfl
set_option maxRecDepth 100000 in
set_option maxHeartbeats 1000000 in
theorem sides_is (t w h : Nat) (W : World) (ht : 1 ≤ t ∧ t ≤ 8) : Calls Try.prog 87 #[.int .i64 t, .int .i64 w, .int .i64 h] W fun e W' => e = .returned (.tuple #[.int .i64 (Im.sw t w h : Nat), .int .i64 (Im.sh t w h : Nat)]) ∧ Below W.heap.size W W' := by
  have hi := fun V => tab_index t V ht
  have hfd := fun b V => tab_field1 (fromF t) b V
  have htn := turnings_is
  generalize turnTab = tab at *
  have HTN := Lib.hid htn; clear htn
  generalize fromF t = g at *
  by_cases h5 : 5 ≤ t
  · rw [decide_eq_true h5] at hi
    have e : Im.sw t w h = h ∧ Im.sh t w h = w := by simp [Im.sw, Im.sh, h5]
    rw [e.1, e.2]
    clear e
    go_enter Try.func87, Try.ntmps87
    go_wp2_with (go_at_call 88; refine (HTN.out _).mono ?_; rintro e w1 ⟨rfl, hB⟩)
    go_ret2
    exact ⟨rfl, hB⟩
  · rw [decide_eq_false h5] at hi
    have e : Im.sw t w h = w ∧ Im.sh t w h = h := by simp [Im.sw, Im.sh, h5]
    rw [e.1, e.2]
    clear e
    go_enter Try.func87, Try.ntmps87
    go_wp2_with (go_at_call 88; refine (HTN.out _).mono ?_; rintro e w1 ⟨rfl, hB⟩)
    go_ret2
    exact ⟨rfl, hB⟩
end Go.Proofs.Ytkebkbjkapfgkaa
