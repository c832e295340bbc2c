/- IsDigest, IsName (both), plain: contracts. -/
import Derived.Test.YtngbaljmlbdfkaaGreatDoorFdStr
namespace Go.Proofs.YtngbaljmlbdfkaaGreatDoor
open Go.RowKit Go.Sort Go.Shelf
set_option linter.unusedVariables false
set_option maxRecDepth 100000 in
theorem indexByteS (s : ByteArray) (c : Int) (w : World) : Calls Tryz.prog 111 #[.string s, .int .u8 c] w fun e w' => e = .returned (.int .i64 (Lib.indexByte s.data.toList c.toNat.toUInt8)) ∧ w = w' := by
  go_enter Tryz.func111, Tryz.ntmps111
  go_wp2
  rw [run_callFunc_extern Tryz.func183 (by kernel_rfl) (by kernel_rfl) (by kernel_rfl) (e := Extern.BytealgIndexByte.indexByte) (by kernel_rfl), Lib.run_indexByteString]
  simp only [Result.andThen]
  rw [Oper.upon_value]
  go_wp2
  go_ret
  exact ⟨rfl, rfl⟩
theorem hex_all : ∀ n, n < 256 → decide (Lib.indexByte [48, 49, 50, 51, 52, 53, 54, 55, 56, 57, 97, 98, 99, 100, 101, 102] n.toUInt8 < 0) = !Fd.hexN n := by decide +kernel
theorem hex_yes (c : UInt8) (h : Fd.hexN c.toNat = true) : ¬ Lib.indexByte [48, 49, 50, 51, 52, 53, 54, 55, 56, 57, 97, 98, 99, 100, 101, 102] ((c.toNat : Int)).toNat.toUInt8 < 0 := by
  have := hex_all c.toNat c.toNat_lt
  rw [h] at this
  rw [Int.toNat_natCast]
  exact of_decide_eq_false this
theorem hex_no (c : UInt8) (h : Fd.hexN c.toNat = false) : Lib.indexByte [48, 49, 50, 51, 52, 53, 54, 55, 56, 57, 97, 98, 99, 100, 101, 102] ((c.toNat : Int)).toNat.toUInt8 < 0 := by
  have := hex_all c.toNat c.toNat_lt
  rw [h] at this
  rw [Int.toNat_natCast]
  exact of_decide_eq_true this
theorem hexIdx (c : UInt8) (b : Bool) (h : Fd.hexN c.toNat = b) (W : World) : Calls Tryz.prog 111 #[.string ⟨#[48, 49, 50, 51, 52, 53, 54, 55, 56, 57, 97, 98, 99, 100, 101, 102]⟩, .int .u8 c.toNat] W fun e w' => ∃ r : Int, e = .returned (.int .i64 r) ∧ decide (r < 0) = !b ∧ W = w' := by
  refine (indexByteS _ _ W).mono fun e w' h' => ⟨_, h'.1, ?_, h'.2⟩
  have := hex_all c.toNat c.toNat_lt
  rw [h] at this
  rw [Int.toNat_natCast]
  exact this
set_option maxRecDepth 100000 in
set_option maxHeartbeats 2000000 in
theorem isDigest_is (s : ByteArray) (hs : s.size ≤ 9223372036854775807) (b : Bool) (h : Fd.fileB s = b) (w : World) : Calls Tryz.prog 61 #[.string s] w fun e w' => e = .returned (.bool b) ∧ w = w' := by
  have HB := Lib.hid h; clear h
  go_enter Tryz.func61, Tryz.ntmps61
  go_wp2_with fail
  -- 6: the slot; Fd.hexN s[i].toNat = true: what holds of each
  go_loopg [6] s.size (fun gk i wr => ∃ j : Nat, j ≤ s.size ∧ gk = s.size - j ∧ i = .int .i64 j ∧ (∀ i, (h : i < s.size) → i < j → Fd.hexN s[i].toNat = true) ∧ w = wr)
  case atStart => exact ⟨0, by omega, rfl, rfl, fun i _ hi => by omega, rfl⟩
  case round =>
    obtain ⟨j, hj, rfl, rfl, hall, rfl⟩ := hrel
    have HALL := Lib.hid hall; clear hall
    by_cases hlt : j < s.size
    · by_cases hx : Fd.hexN s[j].toNat = true
      · have HN := Lib.hid (Fd.upto_next (P := fun _ c => Fd.hexN c = true) HALL.out hlt hx)
        have HX := Lib.hid (fun W => hexIdx s[j] true hx W)
        clear hx
        go_wp2_with (go_at_call 111; refine (HX.out _).mono ?_; rintro e w' ⟨r, rfl, hr, rfl⟩; simp only [Bool.not_true] at hr; have hr2 : ¬ r < 0 := of_decide_eq_false hr)
        -- : the measure's text
        go_roundg (s.size - (j + 1))
        case rel => exact ⟨j + 1, by omega, rfl, by go_num, HN.out, rfl⟩
        case measure => omega
      · have hx' : Fd.hexN s[j].toNat = false := by simpa using hx
        have HX := Lib.hid (fun W => hexIdx s[j] false hx' W)
        have HB2 : Hid (b = false) := by have h1 := HB.out; rw [Fd.fileB_at j hlt hx'] at h1; exact Lib.hid h1.symm
        clear hx'
        clear hx
        go_wp2_with (go_at_call 111; refine (HX.out _).mono ?_; rintro e w' ⟨r, rfl, hr, rfl⟩; simp only [Bool.not_false] at hr; have hr2 : r < 0 := of_decide_eq_true hr)
        go_ret
        exact ⟨ret_bool HB2.out.symm, rfl⟩
    · obtain rfl : j = s.size := by omega
      by_cases hz : s.size = 16
      · have hz1 : ((s.size : Int) == 16) = true := by simp; omega
        have HB2 : Hid (b = true) := by have h1 := HB.out; rw [Fd.fileB_yes hz (fun i hi => HALL.out i hi hi)] at h1; exact Lib.hid h1.symm
        have HZ := Lib.hid hz; clear hz
        go_wp2_with fail
        go_ret
        exact ⟨ret_bool HB2.out.symm, rfl⟩
      · have hz1 : ((s.size : Int) == 16) = false := by simp; omega
        have HB2 : Hid (b = false) := by have h1 := HB.out; rw [Fd.fileB_size hz] at h1; exact Lib.hid h1.symm
        clear hz
        go_wp2_with fail
        go_ret
        exact ⟨ret_bool HB2.out.symm, rfl⟩
set_option maxRecDepth 100000 in
set_option maxHeartbeats 2000000 in
theorem plain_is (s : ByteArray) (hs : s.size ≤ 9223372036854775807) (b : Bool) (h : Fd.plainB s = b) (w : World) : Calls Tryz.prog 66 #[.string s] w fun e w' => e = .returned (.bool b) ∧ w = w' := by
  have HB := Lib.hid h; clear h
  go_enter Tryz.func66, Tryz.ntmps66
  go_wp2_with fail
  -- 6: the slot; 32 ≤ s[i].toNat: what holds of each
  go_loopg [6] s.size (fun gk i wr => ∃ j : Nat, j ≤ s.size ∧ gk = s.size - j ∧ i = .int .i64 j ∧ (∀ i, (h : i < s.size) → i < j → 32 ≤ s[i].toNat) ∧ w = wr)
  case atStart => exact ⟨0, by omega, rfl, rfl, fun i _ hi => by omega, rfl⟩
  case round =>
    obtain ⟨j, hj, rfl, rfl, hall, rfl⟩ := hrel
    have HALL := Lib.hid hall; clear hall
    by_cases hlt : j < s.size
    · by_cases hx : 32 ≤ s[j].toNat
      · have HN := Lib.hid (Fd.upto_next (P := fun _ c => 32 ≤ c) HALL.out hlt hx)
        have i1 : ¬ (s[j].toNat : Int) < 32 := by omega
        clear hx
        go_wp2_with fail
        -- : the measure's text
        go_roundg (s.size - (j + 1))
        case rel => exact ⟨j + 1, by omega, rfl, by go_num, HN.out, rfl⟩
        case measure => omega
      · have i1 : (s[j].toNat : Int) < 32 := by omega
        have HB2 : Hid (b = false) := by have h1 := HB.out; rw [Fd.plainB_at j hlt (by omega)] at h1; exact Lib.hid h1.symm
        clear hx
        go_wp2_with fail
        go_ret
        exact ⟨ret_bool HB2.out.symm, rfl⟩
    · obtain rfl : j = s.size := by omega
      have HB2 : Hid (b = true) := by have h1 := HB.out; rw [Fd.plainB_yes (fun i hi => HALL.out i hi hi)] at h1; exact Lib.hid h1.symm
      go_wp2_with fail
      go_ret
      exact ⟨ret_bool HB2.out.symm, rfl⟩
set_option maxRecDepth 100000 in
set_option maxHeartbeats 4000000 in
theorem isNameR_is (s : ByteArray) (hs : s.size ≤ 9223372036854775807) (b : Bool) (h : Fd.nameB s = b) (w : World) : Calls Tryz.prog 65 #[.string s] w fun e w' => e = .returned (.bool b) ∧ w = w' := by
  have HB := Lib.hid h; clear h
  go_enter Tryz.func65, Tryz.ntmps65
  go_wp2_with fail
  -- 6: the slot; Fd.nmN i s[i].toNat = true: what holds of each
  go_loopg [6] s.size (fun gk i wr => ∃ j : Nat, j ≤ s.size ∧ gk = s.size - j ∧ i = .int .i64 j ∧ (∀ i, (h : i < s.size) → i < j → Fd.nmN i s[i].toNat = true) ∧ w = wr)
  case atStart => exact ⟨0, by omega, rfl, rfl, fun i _ hi => by omega, rfl⟩
  case round =>
    obtain ⟨j, hj, rfl, rfl, hall, rfl⟩ := hrel
    have HALL := Lib.hid hall; clear hall
    by_cases hlt : j < s.size
    · by_cases hx : Fd.nmN j s[j].toNat = true
      · have HN := Lib.hid (Fd.upto_next (P := fun i c => Fd.nmN i c = true) HALL.out hlt hx)
        have ht := (Fd.tailN_iff _).1 (Fd.nmN_tail _ _ hx)
        by_cases i1 : (97 : Int) ≤ (s[j].toNat : Int) ∧ (s[j].toNat : Int) ≤ 122
        · obtain ⟨i1, i2⟩ := i1
          clear hx ht
          go_wp2_with fail
          -- : the measure's text
          go_roundg (s.size - (j + 1))
          case rel => exact ⟨j + 1, by omega, rfl, by go_num, HN.out, rfl⟩
          case measure => omega
        · have hj0 : j ≠ 0 := by
            rintro rfl
            rw [Fd.nmN_zero, Fd.letN_iff] at hx; omega
          have hj1 : ((j : Int) == 0) = false := by simpa using hj0
          clear hx
          by_cases i3 : s[j].toNat = 45
          · have i4 : ((s[j].toNat : Int) == 45) = true := by simp; omega
            have i5 : ((s[j].toNat : Int) != 45) = false := by simp; omega
            have i6 : (s[j].toNat : Int) < 97 := by omega
            clear i1 ht i3
            go_wp2_with fail
            -- : the measure's text
            go_roundg (s.size - (j + 1))
            case rel => exact ⟨j + 1, by omega, rfl, by go_num, HN.out, rfl⟩
            case measure => omega
          · have i4 : ((s[j].toNat : Int) == 45) = false := by simp; omega
            have i5 : ((s[j].toNat : Int) != 45) = true := by simp; omega
            have i6 : (s[j].toNat : Int) < 97 := by omega
            have i7 : (48 : Int) ≤ (s[j].toNat : Int) := by omega
            have i8 : (s[j].toNat : Int) ≤ 57 := by omega
            clear i1 ht i3
            go_wp2_with fail
            -- : the measure's text
            go_roundg (s.size - (j + 1))
            case rel => exact ⟨j + 1, by omega, rfl, by go_num, HN.out, rfl⟩
            case measure => omega
      · have hx' : Fd.nmN j s[j].toNat = false := by simpa using hx
        have HB2 : Hid (b = false) := by have h1 := HB.out; rw [Fd.nameB_at j hlt hx'] at h1; exact Lib.hid h1.symm
        by_cases hj0 : j = 0
        · have hj1 : ((j : Int) == 0) = true := by simpa using hj0
          have hl : ¬ (97 ≤ s[j].toNat ∧ s[j].toNat ≤ 122) := by
            have hx2 := hx'
            unfold Fd.nmN at hx2; rw [if_pos hj0] at hx2
            rw [← Fd.letN_iff, hx2]; simp
          have HJ := Lib.hid hj0; clear hj0 hx'
          by_cases i1 : (s[j].toNat : Int) < 97
          · clear hl
            clear hx
            go_wp2_with fail
            go_ret
            exact ⟨ret_bool HB2.out.symm, rfl⟩
          · have i2 : (122 : Int) < (s[j].toNat : Int) := by omega
            clear hl
            clear hx
            go_wp2_with fail
            go_ret
            exact ⟨ret_bool HB2.out.symm, rfl⟩
        · have hj1 : ((j : Int) == 0) = false := by simpa using hj0
          have hl : ¬ (97 ≤ s[j].toNat ∧ s[j].toNat ≤ 122 ∨ 48 ≤ s[j].toNat ∧ s[j].toNat ≤ 57 ∨ s[j].toNat = 45) := by rw [← Fd.tailN_iff]; rw [Fd.nmN_pos _ _ hj0] at hx'; rw [hx']; simp
          have i4 : ((s[j].toNat : Int) == 45) = false := by simp; omega
          have i5 : ((s[j].toNat : Int) != 45) = true := by simp; omega
          clear hx' hj0
          by_cases i1 : (s[j].toNat : Int) < 97
          · by_cases i2 : (s[j].toNat : Int) < 48
            · clear hl
              clear hx
              go_wp2_with fail
              go_ret
              exact ⟨ret_bool HB2.out.symm, rfl⟩
            · have i3 : (57 : Int) < (s[j].toNat : Int) := by omega
              clear hl
              clear hx
              go_wp2_with fail
              go_ret
              exact ⟨ret_bool HB2.out.symm, rfl⟩
          · have i2 : (122 : Int) < (s[j].toNat : Int) := by omega
            have i3 : (57 : Int) < (s[j].toNat : Int) := by omega
            have i6 : (48 : Int) ≤ (s[j].toNat : Int) := by omega
            clear hl
            clear hx
            go_wp2_with fail
            go_ret
            exact ⟨ret_bool HB2.out.symm, rfl⟩
    · obtain rfl : j = s.size := by omega
      by_cases hz : 1 ≤ s.size ∧ s.size ≤ 40
      · have HB2 : Hid (b = true) := by have h1 := HB.out; rw [Fd.nameB_yes hz (fun i hi => HALL.out i hi hi)] at h1; exact Lib.hid h1.symm
        obtain ⟨z1, z2⟩ := hz
        have z3 : (1 : Int) ≤ (s.size : Int) := by omega
        have z4 : (s.size : Int) ≤ 40 := by omega
        go_wp2_with fail
        go_ret
        exact ⟨ret_bool (by first | exact HB2.out.symm | (rw [HB2.out]; simp <;> omega)), rfl⟩
      · have HB2 : Hid (b = false) := by have h1 := HB.out; rw [Fd.nameB_size hz] at h1; exact Lib.hid h1.symm
        by_cases z3 : (1 : Int) ≤ (s.size : Int)
        · have z4 : (40 : Int) < (s.size : Int) := by omega
          clear hz
          go_wp2_with fail
          go_ret
          exact ⟨ret_bool (by first | exact HB2.out.symm | (rw [HB2.out]; simp <;> omega)), rfl⟩
        · clear hz
          go_wp2_with fail
          go_ret
          exact ⟨ret_bool (by first | exact HB2.out.symm | (rw [HB2.out]; simp <;> omega)), rfl⟩
end Go.Proofs.YtngbaljmlbdfkaaGreatDoor
