/- slices.Sort at ints, laid at this program (numbers of the seat: laid by laygen.py). -/
import Derived.Shelf.Sort.Plain
import Derived.Test.YthldlffkgafgaaaDoorProg
namespace Go.Proofs.YthldlffkgafgaaaDoor
open Go.Shelf
def sortLays_ren : Go.Shelf.Ren := ⟨fun | 189 => 79 | 125 => 95 | 257 => 94 | 128 => 114 | 129 => 115 | 294 => 105 | 295 => 106 | 296 => 107 | 297 => 108 | 298 => 109 | 299 => 110 | 216 => 111 | 300 => 112 | 301 => 113 | 328 => 135 | 329 => 136 | 330 => 137 | 331 => 138 | 332 => 139 | 215 => 140 | 343 => 156 | n => n, fun | 28 => 36 | 3 => 3 | 46 => 103 | 0 => 0 | 51 => 131 | 53 => 134 | 4 => 4 | 183 => 140 | 182 => 139 | 131 => 83 | 5 => 5 | 9 => 9 | 218 => 164 | 222 => 168 | 228 => 184 | 229 => 185 | n => n, fun | n => n⟩
theorem sortLays : Go.Proofs.Lays.n189 Tryd.prog sortLays_ren := {
  mixed := by kernel_rfl
  f125 := Tryd.func95.trans (congrArg some (by kernel_rfl))
  f128 := Tryd.func114.trans (congrArg some (by kernel_rfl))
  f129 := Tryd.func115.trans (congrArg some (by kernel_rfl))
  f189 := Tryd.func79.trans (congrArg some (by kernel_rfl))
  f215 := Tryd.func140.trans (congrArg some (by kernel_rfl))
  f216 := Tryd.func111.trans (congrArg some (by kernel_rfl))
  f257 := Tryd.func94.trans (congrArg some (by kernel_rfl))
  f294 := Tryd.func105.trans (congrArg some (by kernel_rfl))
  f295 := Tryd.func106.trans (congrArg some (by kernel_rfl))
  f296 := Tryd.func107.trans (congrArg some (by kernel_rfl))
  f297 := Tryd.func108.trans (congrArg some (by kernel_rfl))
  f298 := Tryd.func109.trans (congrArg some (by kernel_rfl))
  f299 := Tryd.func110.trans (congrArg some (by kernel_rfl))
  f300 := Tryd.func112.trans (congrArg some (by kernel_rfl))
  f301 := Tryd.func113.trans (congrArg some (by kernel_rfl))
  f328 := Tryd.func135.trans (congrArg some (by kernel_rfl))
  f329 := Tryd.func136.trans (congrArg some (by kernel_rfl))
  f330 := Tryd.func137.trans (congrArg some (by kernel_rfl))
  f331 := Tryd.func138.trans (congrArg some (by kernel_rfl))
  f332 := Tryd.func139.trans (congrArg some (by kernel_rfl))
  f343 := Tryd.func156.trans (congrArg some (by kernel_rfl))
  t0 := Tryd.underlying0
  a0 := Tryd.isAgg0
  z0 := Tryd.sizeOf0
  v0 := Tryd.zeroValue0
  t3 := Tryd.underlying3
  a3 := Tryd.isAgg3
  z3 := Tryd.sizeOf3
  v3 := Tryd.zeroValue3
  t4 := Tryd.underlying4
  a4 := Tryd.isAgg4
  z4 := Tryd.sizeOf4
  v4 := Tryd.zeroValue4
  t5 := Tryd.underlying5
  a5 := Tryd.isAgg5
  z5 := Tryd.sizeOf5
  v5 := Tryd.zeroValue5
  t9 := Tryd.underlying9
  a9 := Tryd.isAgg9
  z9 := Tryd.sizeOf9
  v9 := Tryd.zeroValue9
  t28 := Tryd.underlying36
  a28 := Tryd.isAgg36
  z28 := Tryd.sizeOf36
  v28 := Tryd.zeroValue36
  t46 := Tryd.underlying103
  a46 := Tryd.isAgg103
  z46 := Tryd.sizeOf103
  v46 := Tryd.zeroValue103
  t51 := Tryd.underlying131
  a51 := Tryd.isAgg131
  z51 := Tryd.sizeOf131
  v51 := Tryd.zeroValue131
  t53 := Tryd.underlying134
  a53 := Tryd.isAgg134
  z53 := Tryd.sizeOf134
  v53 := Tryd.zeroValue134
  t131 := Tryd.underlying83
  a131 := Tryd.isAgg83
  z131 := Tryd.sizeOf83
  v131 := Tryd.zeroValue83
  t182 := Tryd.underlying139
  a182 := Tryd.isAgg139
  z182 := Tryd.sizeOf139
  v182 := Tryd.zeroValue139
  t183 := Tryd.underlying140
  a183 := Tryd.isAgg140
  z183 := Tryd.sizeOf140
  v183 := Tryd.zeroValue140
  t218 := Tryd.underlying164
  a218 := Tryd.isAgg164
  z218 := Tryd.sizeOf164
  v218 := Tryd.zeroValue164
  t222 := Tryd.underlying168
  a222 := Tryd.isAgg168
  z222 := Tryd.sizeOf168
  v222 := Tryd.zeroValue168
  t228 := Tryd.underlying184
  a228 := Tryd.isAgg184
  z228 := Tryd.sizeOf184
  v228 := Tryd.zeroValue184
  t229 := Tryd.underlying185
  a229 := Tryd.isAgg185
  z229 := Tryd.sizeOf185
  v229 := Tryd.zeroValue185 }
open Go.Sort Go.RowKit in
theorem sortInts (blk off cap : Nat) (zs : List Int) (w : World) (hH : Holds (Value.int .i64) w blk off zs.toArray) (hblk : blk < w.heap.size) (hsz : zs.length < 4611686018427387904) :
    Calls Tryd.prog 79 #[.slice (some ⟨blk, off, none⟩) zs.length cap] w fun e w' =>
      e = .returned (.tuple #[]) ∧ ∃ n os, w' = grow (putRow (Value.int .i64) (Sort.ahead w n) blk off (zs.mergeSort fun x y => decide (x ≤ y)).toArray) os := Go.Proofs.Any.slices_Sort_int sortLays blk off cap zs w hH hblk hsz
end Go.Proofs.YthldlffkgafgaaaDoor
