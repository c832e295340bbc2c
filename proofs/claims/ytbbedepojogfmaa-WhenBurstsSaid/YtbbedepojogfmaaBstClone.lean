/- slices.Clone of whatever slice of numbers; rising of whatever slice. -/
import Derived.Test.YtbbedepojogfmaaRise
namespace Go.Proofs.Ytbbedepojogfmaa
open Go.RowKit Go.Sort Go.Shelf
set_option linter.unusedVariables false
set_option maxRecDepth 100000 in
theorem clone_none (ca : Nat) (w : World) : Calls Try.prog 89 #[.slice none 0 ca] w fun e w' => e = .returned (.slice none 0 0) ∧ w = w' := by
  have hnil := fun (W : World) => Lib.run_eql_slice_nil (P := Try.prog) W 29 3 none 0 ca 0 0 Try.underlying29
  go_enter Try.func89, Try.ntmps89
  go_wp2_with fail
  go_ret
  exact ⟨rfl, rfl⟩
set_option maxRecDepth 100000 in
set_option maxHeartbeats 1000000 in
theorem clone_empty (p : Addr) (ca : Nat) (w : World) : Calls Try.prog 89 #[.slice (some p) 0 ca] w fun e w' => e = .returned (.slice (some ⟨w.heap.size, 0, none⟩) 0 0) ∧ w'.ownsRow w.heap.size 3 1 (.slice (some ⟨w.heap.size, 0, none⟩) 0 0) 0 [] ∧ Below w.heap.size w w' := by
  obtain ⟨i0, hi0, hz0, hz1, hz2⟩ := info_parts infoInt
  have HI0 := Lib.hid hi0; have HI2 := Lib.hid hz1
  clear hi0 hz0 hz1 hz2
  have hnil := fun (W : World) => Lib.run_eql_slice_nil (P := Try.prog) W 29 3 (some p) 0 ca 0 0 Try.underlying29
  have HO := Lib.hid (ownsRow_new w w.heap.size 3 #[] (Nat.le_refl _) (by simp))
  go_enter Try.func89, Try.ntmps89
  go_wp2_with (at_builtin; refine wpList_append_fits _ rfl _ _ 29 rfl w.heap.size 3 i0 1 Try.underlying29 HI0.out HI2.out w.heap.size 0 0 [] rfl HO.out p 0 ca [] rfl rfl (fun j u hj => by simp at hj) (by simp) (by omega) ?_; intro w1 hown hgrow)
  go_ret
  exact ⟨rfl, hown, ((Below.refl _ w).alloc (Nat.le_refl _) _).grown hgrow (by simp) (fun k e => by cases e; exact Nat.le_refl _)⟩
/-- slices.Clone of a slice of numbers: a row of the call's own, or nil. -/
theorem cloned_any (a : Option Addr) (xs : List Int) (ca : Nat) (w : World) (hx : RowL w a xs) (hn2 : xs.length ≤ 1000000) :
    Calls Try.prog 89 #[.slice a xs.length ca] w fun e w' => ∃ v, e = .returned v ∧ w'.ownsRow w.heap.size 3 1 v xs.length (xs.map (Value.int .i64)) ∧ Below w.heap.size w w' := by
  by_cases h : xs = []
  · subst h
    cases a with
    | none => exact (clone_none ca w).mono fun e w' ⟨he, hw⟩ => ⟨_, he, World.ownsRow_nil _ _ _ _, by rw [hw]; exact Below.refl _ _⟩
    | some p => exact (clone_empty p ca w).mono fun e w' ⟨he, ho, hb⟩ => ⟨_, he, ho, hb⟩
  · exact (clone_ints a xs ca w hx (List.length_pos_iff.2 h) hn2).mono fun e w' ⟨g, cap, he, h1, h2, h3, h4⟩ => ⟨_, he, h3, h4⟩
theorem rising_none (ca : Nat) (w : World) : Calls Try.prog 58 #[.slice none 0 ca] w (RisePost w []) := by
  go_enter Try.func58, Try.ntmps58
  go_wp2_with (go_at_call 89; refine (clone_none _ _).mono ?_; rintro e w' ⟨rfl, rfl⟩)
  go_loopg [10] 0 (fun gk i wr => gk = 0 ∧ i = .int .i64 0 ∧ w = wr)
  case atStart => exact ⟨rfl, rfl, rfl⟩
  case round =>
    obtain ⟨rfl, rfl, rfl⟩ := hrel
    go_wp2_with fail
    go_ret
    exact ⟨none, [], 0, rfl, List.Perm.refl _, by simp, RowL.nil _ _, Below.refl _ _⟩
theorem rising_empty (p : Addr) (ca : Nat) (w : World) : Calls Try.prog 58 #[.slice (some p) 0 ca] w (RisePost w []) := by
  go_enter Try.func58, Try.ntmps58
  go_wp2_with (go_at_call 89; refine (clone_empty _ _ _).mono ?_; rintro e w1 ⟨rfl, _, hB⟩)
  go_loopg [10] 0 (fun gk i wr => gk = 0 ∧ i = .int .i64 0 ∧ Below w.heap.size w wr)
  case atStart => exact ⟨rfl, rfl, hB⟩
  case round =>
    clear hB
    obtain ⟨rfl, rfl, hB⟩ := hrel
    go_wp2_with fail
    go_ret
    exact ⟨_, [], 0, rfl, List.Perm.refl _, by simp, RowL.nil _ _, hB⟩
theorem rising_any (a : Option Addr) (xs : List Int) (ca : Nat) (w : World) (hx : RowL w a xs) (hn2 : xs.length ≤ 1000000) : Calls Try.prog 58 #[.slice a xs.length ca] w (RisePost w xs) := by
  by_cases h : xs = []
  · subst h
    cases a with
    | none => exact rising_none ca w
    | some p => exact rising_empty p ca w
  · exact rising_some a xs ca w hx (List.length_pos_iff.2 h) hn2
end Go.Proofs.Ytbbedepojogfmaa
