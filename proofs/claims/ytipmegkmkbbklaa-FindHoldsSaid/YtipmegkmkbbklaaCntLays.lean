/- The shelf's contract of strings.Contains, laid at this program (numbers of the seat: laid by laygen.py). -/
import Derived.Shelf.Strings.Shaped
import Derived.Test.YtipmegkmkbbklaaProg
namespace Go.Proofs.Ytipmegkmkbbklaa
open Go.Shelf
def Lay.contM_ren : Go.Shelf.Ren := ⟨fun | 144 => 68 | 143 => 95 | 219 => 128 | 217 => 127 | 225 => 140 | 224 => 141 | 267 => 142 | 266 => 139 | 314 => 146 | n => n, fun | 9 => 9 | 4 => 4 | 3 => 3 | 5 => 5 | 46 => 135 | 146 => 151 | 51 => 150 | n => n, fun | 1 => 0 | n => n⟩
theorem Lay.contM : Go.Proofs.LaysM.n144 Try.prog Lay.contM_ren := {
  mixed := by kernel_rfl
  f143 := Try.func95.trans (congrArg some (by kernel_rfl))
  f144 := Try.func68.trans (congrArg some (by kernel_rfl))
  f217 := Try.func127.trans (congrArg some (by kernel_rfl))
  f219 := Try.func128.trans (congrArg some (by kernel_rfl))
  f224 := Try.func141.trans (congrArg some (by kernel_rfl))
  f225 := Try.func140.trans (congrArg some (by kernel_rfl))
  f266 := Try.func139.trans (congrArg some (by kernel_rfl))
  f267 := Try.func142.trans (congrArg some (by kernel_rfl))
  f314 := Try.func146.trans (congrArg some (by kernel_rfl))
  t3 := Try.underlying3
  a3 := Try.isAgg3
  z3 := Try.sizeOf3
  v3 := Try.zeroValue3
  t4 := Try.underlying4
  a4 := Try.isAgg4
  z4 := Try.sizeOf4
  v4 := Try.zeroValue4
  t5 := Try.underlying5
  a5 := Try.isAgg5
  z5 := Try.sizeOf5
  v5 := Try.zeroValue5
  t9 := Try.underlying9
  a9 := Try.isAgg9
  z9 := Try.sizeOf9
  v9 := Try.zeroValue9
  t46 := Try.underlying135
  a46 := Try.isAgg135
  z46 := Try.sizeOf135
  v46 := Try.zeroValue135
  t51 := Try.underlying150
  a51 := Try.isAgg150
  z51 := Try.sizeOf150
  v51 := Try.zeroValue150
  t146 := Try.underlying151
  a146 := Try.isAgg151
  z146 := Try.sizeOf151
  v146 := Try.zeroValue151
  g1 := by kernel_rfl
  i3 := by kernel_rfl
  i4 := by kernel_rfl
  i5 := by kernel_rfl
  i9 := by kernel_rfl
  i46 := by kernel_rfl
  i51 := by kernel_rfl
  i146 := by kernel_rfl
  m1 := by kernel_rfl
  s1_3 := fun w h => Go.Proofs.cell_of_shapedOpen_int (zero := #[.int .i64 0]) (t := 3) h (of_decide_eq_true (by kernel_rfl)) (by kernel_rfl) rfl (by kernel_rfl) (by kernel_rfl) Try.underlying3 }
end Go.Proofs.Ytipmegkmkbbklaa
