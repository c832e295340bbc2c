/- isFile, IsName and their like: contracts. -/
import Derived.Lib.Bytealg
import Derived.WalkLawsBesides
import Derived.Test.YtngbaljmlbdfkaaGreatDoorEvents0
import Derived.Test.YtngbaljmlbdfkaaGreatDoorFdMath
namespace Go.Proofs.YtngbaljmlbdfkaaGreatDoor
open Go.RowKit Go.Sort Go.Shelf
set_option linter.unusedVariables false
theorem outsideF_yes (n lo hi : Int) (w : World) (h : n < lo ∨ hi < n) : Calls Tryz.prog 21 #[.int .i64 n, .int .i64 lo, .int .i64 hi] w fun e w' => e = .returned (.bool true) ∧ w = w' := by
  by_cases c : n < lo
  · go_enter Tryz.func21, Tryz.ntmps21
    go_wp2
    go_ret
    exact ⟨rfl, rfl⟩
  · have d : hi < n := by omega
    go_enter Tryz.func21, Tryz.ntmps21
    go_wp2
    go_ret
    exact ⟨rfl, rfl⟩
theorem outsideF_no (n lo hi : Int) (w : World) (h : lo ≤ n ∧ n ≤ hi) : Calls Tryz.prog 21 #[.int .i64 n, .int .i64 lo, .int .i64 hi] w fun e w' => e = .returned (.bool false) ∧ w = w' := by
  obtain ⟨h1, h2⟩ := h
  go_enter Tryz.func21, Tryz.ntmps21
  go_wp2
  go_ret
  exact ⟨ret_bool (by simp <;> omega), rfl⟩
theorem outsideF_is (n lo hi : Int) (b : Bool) (h : decide (lo ≤ n ∧ n ≤ hi) = b) (w : World) : Calls Tryz.prog 21 #[.int .i64 n, .int .i64 lo, .int .i64 hi] w fun e w' => e = .returned (.bool (!b)) ∧ w = w' := by
  cases b
  · exact outsideF_yes _ _ _ _ (by rw [decide_eq_false_iff_not] at h; omega)
  · exact outsideF_no _ _ _ _ (of_decide_eq_true h)
theorem in_is (n lo hi : Int) (b : Bool) (h : decide (lo ≤ n ∧ n ≤ hi) = b) (w : World) : Calls Tryz.prog 33 #[.int .i64 n, .int .i64 lo, .int .i64 hi] w fun e w' => e = .returned (.bool b) ∧ w = w' := by
  cases b
  · rw [decide_eq_false_iff_not] at h
    by_cases c : lo ≤ n
    · have d : hi < n := by omega
      clear h
      go_enter Tryz.func33, Tryz.ntmps33
      go_wp2
      go_ret
      exact ⟨ret_bool (by simp <;> omega), rfl⟩
    · clear h
      go_enter Tryz.func33, Tryz.ntmps33
      go_wp2
      go_ret
      exact ⟨ret_bool (by simp <;> omega), rfl⟩
  · obtain ⟨h1, h2⟩ := of_decide_eq_true h
    clear h
    go_enter Tryz.func33, Tryz.ntmps33
    go_wp2
    go_ret
    exact ⟨ret_bool (by simp <;> omega), rfl⟩
set_option maxRecDepth 100000 in
set_option maxHeartbeats 2000000 in
theorem isFile_is (s : ByteArray) (hs : s.size ≤ 9223372036854775807) (b : Bool) (h : Fd.fileB s = b) (w : World) : Calls Tryz.prog 74 #[.string s] w fun e w' => e = .returned (.bool b) ∧ w = w' := by
  by_cases hz : s.size = 16
  · have hz1 : ((s.size : Int) == 16) = true := by simp; omega
    have hz2 : ((s.size : Int) != 16) = false := by simp; omega
    have HZ := Lib.hid hz; have HB := Lib.hid h; clear hz h
    go_enter Tryz.func74, Tryz.ntmps74
    go_wp2_with fail
    go_loopg [10] s.size (fun gk i wr => ∃ j : Nat, j ≤ s.size ∧ gk = s.size - j ∧ i = .int .i64 j ∧ (∀ i, (h : i < s.size) → i < j → Fd.hexN s[i].toNat = true) ∧ w = wr)
    case atStart => exact ⟨0, by omega, rfl, rfl, fun i _ hi => by omega, rfl⟩
    case round =>
      obtain ⟨j, hj, rfl, rfl, hall, rfl⟩ := hrel
      have HALL := Lib.hid hall; clear hall
      by_cases hlt : j < s.size
      · by_cases hx : Fd.hexN s[j].toNat = true
        · have HN := Lib.hid (Fd.upto_next (P := fun _ c => Fd.hexN c = true) HALL.out hlt hx)
          rcases (Fd.hexN_iff _).1 hx with ⟨h1, h2⟩ | ⟨h1, h2⟩
          · have i1 : (48 : Int) ≤ (s[j].toNat : Int) := by omega
            have i2 : (s[j].toNat : Int) ≤ 57 := by omega
            clear hx h1 h2
            go_wp2_with fail
            go_roundg (s.size - (j + 1))
            case rel => exact ⟨j + 1, by omega, rfl, by go_num, HN.out, rfl⟩
            case measure => omega
          · have i1 : (48 : Int) ≤ (s[j].toNat : Int) := by omega
            have i2 : ¬ (s[j].toNat : Int) ≤ 57 := by omega
            have i3 : (97 : Int) ≤ (s[j].toNat : Int) := by omega
            have i4 : (s[j].toNat : Int) ≤ 102 := by omega
            clear hx h1 h2
            go_wp2_with fail
            go_roundg (s.size - (j + 1))
            case rel => exact ⟨j + 1, by omega, rfl, by go_num, HN.out, rfl⟩
            case measure => omega
        · have hx' : Fd.hexN s[j].toNat = false := by simpa using hx
          have HB2 : Hid (b = false) := by have h1 := HB.out; rw [Fd.fileB_at j hlt hx'] at h1; exact Lib.hid h1.symm
          rw [Fd.hexN_iff] at hx
          clear hx'
          by_cases i1 : (48 : Int) ≤ (s[j].toNat : Int)
          · have i2 : ¬ (s[j].toNat : Int) ≤ 57 := by omega
            by_cases i3 : (97 : Int) ≤ (s[j].toNat : Int)
            · have i4 : ¬ (s[j].toNat : Int) ≤ 102 := by omega
              clear hx
              go_wp2_with fail
              go_ret
              exact ⟨ret_bool HB2.out.symm, rfl⟩
            · clear hx
              go_wp2_with fail
              go_ret
              exact ⟨ret_bool HB2.out.symm, rfl⟩
          · have i3 : ¬ (97 : Int) ≤ (s[j].toNat : Int) := by omega
            clear hx
            go_wp2_with fail
            go_ret
            exact ⟨ret_bool HB2.out.symm, rfl⟩
      · obtain rfl : j = s.size := by omega
        have HB2 : Hid (b = true) := by have h1 := HB.out; rw [Fd.fileB_yes HZ.out (fun i hi => HALL.out i hi hi)] at h1; exact Lib.hid h1.symm
        go_wp2_with fail
        go_ret
        exact ⟨ret_bool HB2.out.symm, rfl⟩
  · have hz1 : ((s.size : Int) == 16) = false := by simp; omega
    have hz2 : ((s.size : Int) != 16) = true := by simp; omega
    rw [Fd.fileB_size hz] at h
    subst h
    clear hz
    go_enter Tryz.func74, Tryz.ntmps74
    go_wp2_with fail
    go_ret
    exact ⟨rfl, rfl⟩
end Go.Proofs.YtngbaljmlbdfkaaGreatDoor
