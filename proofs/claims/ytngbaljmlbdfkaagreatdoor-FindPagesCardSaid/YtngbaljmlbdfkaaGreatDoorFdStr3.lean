/- where.IsName, find.low: contracts. -/
import Derived.Lib.ConvBytes
import Derived.Laws.Closers25
import Derived.Test.YtngbaljmlbdfkaaGreatDoorFdStr2
namespace Go.Proofs.YtngbaljmlbdfkaaGreatDoor
open Go.RowKit Go.Sort Go.Shelf
set_option linter.unusedVariables false
theorem strEmpty_no (s : ByteArray) (h : s.size ≠ 0) : s.toList.isEmpty = false := by
  rw [← decide_eq_emptyBytes]; exact decide_eq_false fun e => h (by rw [e]; rfl)
theorem strEmpty_yes (s : ByteArray) (h : s.size = 0) : s.toList.isEmpty = true := by
  rw [← decide_eq_emptyBytes]
  refine decide_eq_true ?_
  obtain ⟨d⟩ := s
  have : d = #[] := Array.eq_empty_of_size_eq_zero h
  subst this; rfl
set_option maxRecDepth 100000 in
set_option maxHeartbeats 4000000 in
theorem isNameW_is (s : ByteArray) (hs : s.size ≤ 9223372036854775807) (b : Bool) (h : Fd.nameB s = b) (w : World) : Calls Tryz.prog 125 #[.string s] w fun e w' => e = .returned (.bool b) ∧ w = w' := by
  have HB := Lib.hid h; clear h
  by_cases z0 : s.size = 0
  · have HB2 : Hid (b = false) := by have h1 := HB.out; rw [Fd.nameB_size (by omega)] at h1; exact Lib.hid h1.symm
    have e1 := strEmpty_yes s z0
    have e2 : s.toList = [] := by simpa using e1
    have HZ := Lib.hid z0; clear z0
    go_enter Tryz.func125, Tryz.ntmps125
    go_wp2_with fail
    go_ret
    exact ⟨ret_bool (by first | exact HB2.out.symm | (rw [HB2.out]; simp)), rfl⟩
  · have z1 : (0 : Int) < (s.size : Int) := by omega
    have z2 : 0 < s.size := by omega
    have e1 := strEmpty_no s z0
    have e2 : ¬ s.toList = [] := by simpa using e1
    clear z0
    by_cases z3 : (40 : Int) < (s.size : Int)
    · have HB2 : Hid (b = false) := by have h1 := HB.out; rw [Fd.nameB_size (by omega)] at h1; exact Lib.hid h1.symm
      go_enter Tryz.func125, Tryz.ntmps125
      go_wp2_with fail
      go_ret
      exact ⟨ret_bool (by first | exact HB2.out.symm | (rw [HB2.out]; simp)), rfl⟩
    · have hz : 1 ≤ s.size ∧ s.size ≤ 40 := by omega
      have HZ := Lib.hid hz; clear hz
      by_cases hl : Fd.letN (s[0]'z2).toNat = true
      · have hl2 := (Fd.letN_iff _).1 hl
        have HL := Lib.hid hl
        have i1 : ¬ ((s[0]'z2).toNat : Int) < 97 := by omega
        have i2 : ¬ (122 : Int) < ((s[0]'z2).toNat : Int) := by omega
        clear hl hl2
        go_enter Tryz.func125, Tryz.ntmps125
        go_wp2_with fail
        clear i1 i2
        -- 24: the slot; Fd.nmN i s[i].toNat = true: what holds of each
        go_loopg [24] s.size (fun gk i wr => ∃ j : Nat, j ≤ s.size ∧ gk = s.size - j ∧ i = .int .i64 j ∧ (∀ i, (h : i < s.size) → i < j → Fd.nmN i s[i].toNat = true) ∧ w = wr)
        case atStart => exact ⟨0, by omega, rfl, rfl, fun i _ hi => by omega, rfl⟩
        case round =>
          obtain ⟨j, hj, rfl, rfl, hall, rfl⟩ := hrel
          have HALL := Lib.hid hall; clear hall
          by_cases hlt : j < s.size
          · by_cases hx : Fd.tailN s[j].toNat = true
            · have hnm : Fd.nmN j s[j].toNat = true := by
                by_cases e : j = 0
                · subst e; exact HL.out
                · rw [Fd.nmN_pos _ _ e]; exact hx
              have HN := Lib.hid (Fd.upto_next (P := fun i c => Fd.nmN i c = true) HALL.out hlt hnm)
              have ht := (Fd.tailN_iff _).1 hx
              clear hx hnm
              by_cases i1 : (97 : Int) ≤ (s[j].toNat : Int) ∧ (s[j].toNat : Int) ≤ 122
              · obtain ⟨i1, i2⟩ := i1
                clear ht
                go_wp2_with fail
                -- : the measure's text
                go_roundg (s.size - (j + 1))
                case rel => exact ⟨j + 1, by omega, rfl, by go_num, HN.out, rfl⟩
                case measure => omega
              · by_cases i3 : s[j].toNat = 45
                · have i4 : ((s[j].toNat : Int) == 45) = true := by simp; omega
                  have i6 : ¬ (97 : Int) ≤ (s[j].toNat : Int) := by omega
                  have i7 : ¬ (48 : Int) ≤ (s[j].toNat : Int) := by omega
                  clear i1 ht i3
                  go_wp2_with fail
                  -- : the measure's text
                  go_roundg (s.size - (j + 1))
                  case rel => exact ⟨j + 1, by omega, rfl, by go_num, HN.out, rfl⟩
                  case measure => omega
                · have i6 : ¬ (97 : Int) ≤ (s[j].toNat : Int) := by omega
                  have i7 : (48 : Int) ≤ (s[j].toNat : Int) := by omega
                  have i8 : (s[j].toNat : Int) ≤ 57 := by omega
                  clear i1 ht i3
                  go_wp2_with fail
                  -- : the measure's text
                  go_roundg (s.size - (j + 1))
                  case rel => exact ⟨j + 1, by omega, rfl, by go_num, HN.out, rfl⟩
                  case measure => omega
            · have hx' : Fd.nmN j s[j].toNat = false := by
                cases hc : Fd.nmN j s[j].toNat
                · rfl
                · exact absurd (Fd.nmN_tail _ _ hc) hx
              have HB2 : Hid (b = false) := by have h1 := HB.out; rw [Fd.nameB_at j hlt hx'] at h1; exact Lib.hid h1.symm
              have ht : ¬ (97 ≤ s[j].toNat ∧ s[j].toNat ≤ 122 ∨ 48 ≤ s[j].toNat ∧ s[j].toNat ≤ 57 ∨ s[j].toNat = 45) := fun g => hx ((Fd.tailN_iff _).2 g)
              have i4 : ((s[j].toNat : Int) == 45) = false := by simp; omega
              clear hx hx'
              by_cases i1 : (97 : Int) ≤ (s[j].toNat : Int)
              · have i2 : ¬ (s[j].toNat : Int) ≤ 122 := by omega
                have i3 : (48 : Int) ≤ (s[j].toNat : Int) := by omega
                have i5 : ¬ (s[j].toNat : Int) ≤ 57 := by omega
                clear ht
                go_wp2_with fail
                go_ret
                exact ⟨ret_bool HB2.out.symm, rfl⟩
              · by_cases i3 : (48 : Int) ≤ (s[j].toNat : Int)
                · have i5 : ¬ (s[j].toNat : Int) ≤ 57 := by omega
                  clear ht
                  go_wp2_with fail
                  go_ret
                  exact ⟨ret_bool HB2.out.symm, rfl⟩
                · clear ht
                  go_wp2_with fail
                  go_ret
                  exact ⟨ret_bool HB2.out.symm, rfl⟩
          · obtain rfl : j = s.size := by omega
            have HB2 : Hid (b = true) := by have h1 := HB.out; rw [Fd.nameB_yes HZ.out (fun i hi => HALL.out i hi hi)] at h1; exact Lib.hid h1.symm
            go_wp2_with fail
            go_ret
            exact ⟨ret_bool HB2.out.symm, rfl⟩
      · have HB2 : Hid (b = false) := by have h1 := HB.out; rw [Fd.nameB_at 0 z2 (by rw [Fd.nmN_zero]; simpa using hl)] at h1; exact Lib.hid h1.symm
        rw [Fd.letN_iff] at hl
        by_cases i1 : ((s[0]'z2).toNat : Int) < 97
        · clear hl
          go_enter Tryz.func125, Tryz.ntmps125
          go_wp2_with fail
          go_ret
          exact ⟨ret_bool (by first | exact HB2.out.symm | (rw [HB2.out]; simp)), rfl⟩
        · have i2 : (122 : Int) < ((s[0]'z2).toNat : Int) := by omega
          clear hl
          go_enter Tryz.func125, Tryz.ntmps125
          go_wp2_with fail
          go_ret
          exact ⟨ret_bool (by first | exact HB2.out.symm | (rw [HB2.out]; simp)), rfl⟩
/-- The bytes of a string in a new row. -/
theorem bytesWorld_below (w : World) (e : TypeId) (s : ByteArray) : Below w.heap.size w (Lib.bytesWorld w e s) := by
  refine ⟨rfl, rfl, rfl, by rw [Lib.bytesWorld_size]; omega, fun b hb => Lib.bytesWorld_at_old w e s b hb⟩
end Go.Proofs.YtngbaljmlbdfkaaGreatDoor
