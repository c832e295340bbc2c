/- The reference's rising: the numbers in order. -/
import Derived.BigRegion
import Derived.Test.YtbbedepojogfmaaInts
import Derived.Test.YtbbedepojogfmaaRiseMath
namespace Go.Proofs.Ytbbedepojogfmaa
open Go.RowKit Go.Sort Go.Shelf
set_option linter.unusedVariables false
/-- A slice of numbers in order, of the members xs, in memory. -/
def RisePost (w : World) (xs : List Int) (e : Ending) (w' : World) : Prop := ∃ a ys ca, e = .returned (.slice a ys.length ca) ∧ ys.Perm xs ∧ ys.Pairwise (· ≤ ·) ∧ RowL w' a ys ∧ Below w.heap.size w w'
theorem rising_nil (w : World) : Calls Try.prog 58 #[.slice none 0 0] w (RisePost w []) := by
  go_enter Try.func58, Try.ntmps58
  go_wp2_with (go_at_call 89; refine (clone_nil _).mono ?_; rintro e w' ⟨rfl, rfl⟩)
  go_loopg [10] 0 (fun gk i wr => gk = 0 ∧ i = .int .i64 0 ∧ w = wr)
  case atStart => exact ⟨rfl, rfl, rfl⟩
  case round =>
    obtain ⟨rfl, rfl, rfl⟩ := hrel
    go_wp2_with fail
    go_ret
    exact ⟨none, [], 0, rfl, List.Perm.refl _, by simp, RowL.nil _ _, Below.refl _ _⟩
set_option maxRecDepth 100000 in
set_option maxHeartbeats 4000000 in
theorem rising_some (a : Option Addr) (xs : List Int) (ca : Nat) (w : World) (hx : RowL w a xs) (hn : 1 ≤ xs.length) (hn2 : xs.length ≤ 1000000) : Calls Try.prog 58 #[.slice a xs.length ca] w (RisePost w xs) := by
  have HCL := Lib.hid (clone_ints a xs ca w hx hn hn2)
  obtain ⟨n, hnn⟩ : ∃ n, xs.length = n := ⟨_, rfl⟩
  rw [hnn] at hn hn2 ⊢ HCL
  have HN := Lib.hid hnn; clear hnn hx
  go_enter Try.func58, Try.ntmps58
  go_wp2_with (go_at_call 89; refine HCL.out.mono ?_; rintro e w1 ⟨g, cap, rfl, hk1, hk2, hown, hB1⟩)
  have hcap : cap ≤ 9223372036854775807 := hk2
  go_loopg [10] n (fun gk i wr => ∃ (j : Nat) (L P R : List Int), j ≤ n ∧ gk = n - j ∧ i = .int .i64 j ∧ Rise.Upto xs L j P R ∧ wr.ownsRow w.heap.size 3 1 (.slice (some ⟨g, 0, none⟩) n cap) n (L.map (Value.int .i64)) ∧ Below w.heap.size w wr)
  case atStart => exact ⟨0, xs, [], xs, by omega, rfl, rfl, Rise.Upto.start xs, hown, hB1⟩
  case round =>
    clear hown hB1
    obtain ⟨j, L, P, R, hj, rfl, rfl, hU, hown, hB⟩ := hrel
    have HU := Lib.hid hU; clear hU
    by_cases hlt : j < n
    · go_wp2_with fail
      go_loopg [5] (j + 1) (fun gk k wr => ∃ (m : Nat) (L A : List Int) (x : Int) (B R : List Int), gk = m + 1 ∧ m ≤ j ∧ k = .int .i64 m ∧ Rise.At xs L m j A x B R ∧ wr.ownsRow w.heap.size 3 1 (.slice (some ⟨g, 0, none⟩) n cap) n (L.map (Value.int .i64)) ∧ Below w.heap.size w wr)
      case atStart =>
        obtain ⟨x, R', _, hA⟩ := HU.out.next (by have := HN.out; omega)
        exact ⟨j, L, P, x, [], R', rfl, Nat.le_refl _, rfl, hA, hown, hB⟩
      case round =>
        clear hown hB HU
        obtain ⟨m, L, A, x, B, R, rfl, hm, rfl, hA, hown, hB⟩ := hrel
        have hl := hA.len
        have hLn : L.length = n := by have := HN.out; omega
        have hbig := hown.lt g rfl
        have HA := Lib.hid hA; have HL := Lib.hid hLn
        have cx := row_own_cell hown m x hA.x
        clear hA hLn
        have hmj : m < n := by omega
        by_cases m0 : m = 0
        · subst m0
          have hd0 : decide ((0 : Int) < ((0 : Nat) : Int)) = false := by simp
          have hUn := Lib.hid (HA.out.stop (fun a _ h => by omega))
          go_wp2_with fail
          go_quiet (fail)
          go_wp2_with fail
          go_roundg (n - (j + 1))
          case rel => exact ⟨j + 1, _, _, _, by omega, rfl, by go_num, hUn.out, hown, below_drewN hB _⟩
          case measure => omega
        · have hm1 : 1 ≤ m := by omega
          have hm0 : 0 < m := by omega
          have hd0 : decide ((0 : Int) < (m : Int)) = true := by simp; omega
          obtain ⟨a, ha⟩ : ∃ a, L[m - 1]? = some a := ⟨_, List.getElem?_eq_getElem (by have := HL.out; omega)⟩
          have ca := row_own_cell hown (m - 1) a ha
          have HAA := Lib.hid ha; clear ha
          have i0 : (0 : Int) ≤ (m : Int) - 1 := by omega
          have i1 : (m : Int) - 1 < (n : Int) := by omega
          have i2 : (m : Int) < (n : Int) := by omega
          have i3 : (0 : Int) ≤ (m : Int) := by omega
          have f0 := hown.frozenAt m
          have f1 := hown.frozenAt (m - 1)
          by_cases hxa : x < a
          · obtain ⟨A', hA'⟩ := HA.out.move hm0 a HAA.out hxa
            have HA' := Lib.hid hA'; clear hA'
            have HS : Hid (∀ d, (((wr.drewN d).setCell ⟨g, m, none⟩ (.int .i64 a)).setCell ⟨g, m - 1, none⟩ (.int .i64 x)).ownsRow w.heap.size 3 1 (.slice (some ⟨g, 0, none⟩) n cap) n (((L.set m a).set (m - 1) x).map (Value.int .i64))) := by
              intro d
              have h0 : (wr.drewN d).ownsRow w.heap.size 3 1 (.slice (some ⟨g, 0, none⟩) n cap) n (L.map (Value.int .i64)) := hown
              have := ((h0.stored m (.int .i64 a)).1.stored (m - 1) (.int .i64 x)).1
              rwa [← List.map_set, ← List.map_set] at this
            go_wp2_with fail
            go_quiet (fail)
            go_wp2_with fail
            go_region
            all_goals
              go_wp2_with fail
              go_roundg (m - 1 + 1)
              case rel => exact ⟨m - 1, _, A', x, _, R, rfl, by omega, by rw [show ((m - 1 : Nat) : Int) = (m : Int) - 1 by omega], HA'.out, HS.out _, ((below_drewN hB _).setCell (p := ⟨g, m, none⟩) hbig.1 _).setCell (p := ⟨g, m - 1, none⟩) hbig.1 _⟩
              case measure => omega
          · have hUn := Lib.hid (HA.out.stop (fun b hb _ => by rw [HAA.out] at hb; cases hb; omega))
            have hxd : decide (x < a) = false := by simpa using hxa
            go_wp2_with fail
            go_quiet (fail)
            go_wp2_with fail
            go_roundg (n - (j + 1))
            case rel => exact ⟨j + 1, _, _, _, by omega, rfl, by go_num, hUn.out, hown, below_drewN hB _⟩
            case measure => omega
    · obtain rfl : j = n := by omega
      go_wp2_with fail
      go_ret
      have hLj : L.length = j := by have := HU.out.perm.length_eq; have := HN.out; omega
      refine ⟨some ⟨g, 0, none⟩, L, cap, ?_, HU.out.perm, HU.out.done (by rw [HN.out]), RowL.of_own hown, hB⟩
      rw [hLj]
      rfl
end Go.Proofs.Ytbbedepojogfmaa
