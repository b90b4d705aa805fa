/-
  Layings of the shelf at this program, in plain words: Try.laySortS.
-/
import Derived.Test.YtljjiicjnoljbaaProg
import Derived.Shelf.Sort.Plain
import Derived.Shelf.Slices.In.SortNone
namespace Go.Proofs
open Go.Shelf
def Try.laySortS_ren : Go.Shelf.Ren := ⟨fun | 190 => 117 | 125 => 122 | 258 => 123 | 128 => 133 | 129 => 134 | 302 => 135 | 303 => 136 | 304 => 137 | 305 => 138 | 306 => 139 | 307 => 140 | 308 => 94 | 309 => 141 | 310 => 142 | 333 => 149 | 329 => 144 | 330 => 145 | 334 => 150 | 335 => 151 | 336 => 116 | 344 => 153 | n => n, fun | 31 => 22 | 9 => 9 | 3 => 3 | 46 => 100 | 0 => 0 | 51 => 144 | 53 => 146 | 4 => 4 | 183 => 171 | 182 => 170 | 131 => 95 | 5 => 5 | 218 => 180 | 222 => 184 | 228 => 188 | 229 => 189 | n => n, fun | n => n⟩
theorem Try.laySortS : Go.Proofs.Lays.n190 Try.prog Try.laySortS_ren := {
  mixed := by kernel_rfl
  f125 := Try.func122.trans (congrArg some (by kernel_rfl))
  f128 := Try.func133.trans (congrArg some (by kernel_rfl))
  f129 := Try.func134.trans (congrArg some (by kernel_rfl))
  f190 := Try.func117.trans (congrArg some (by kernel_rfl))
  f258 := Try.func123.trans (congrArg some (by kernel_rfl))
  f302 := Try.func135.trans (congrArg some (by kernel_rfl))
  f303 := Try.func136.trans (congrArg some (by kernel_rfl))
  f304 := Try.func137.trans (congrArg some (by kernel_rfl))
  f305 := Try.func138.trans (congrArg some (by kernel_rfl))
  f306 := Try.func139.trans (congrArg some (by kernel_rfl))
  f307 := Try.func140.trans (congrArg some (by kernel_rfl))
  f308 := Try.func94.trans (congrArg some (by kernel_rfl))
  f309 := Try.func141.trans (congrArg some (by kernel_rfl))
  f310 := Try.func142.trans (congrArg some (by kernel_rfl))
  f329 := Try.func144.trans (congrArg some (by kernel_rfl))
  f330 := Try.func145.trans (congrArg some (by kernel_rfl))
  f333 := Try.func149.trans (congrArg some (by kernel_rfl))
  f334 := Try.func150.trans (congrArg some (by kernel_rfl))
  f335 := Try.func151.trans (congrArg some (by kernel_rfl))
  f336 := Try.func116.trans (congrArg some (by kernel_rfl))
  f344 := Try.func153.trans (congrArg some (by kernel_rfl))
  t0 := Try.underlying0
  a0 := Try.isAgg0
  z0 := Try.sizeOf0
  v0 := Try.zeroValue0
  t3 := Try.underlying3
  a3 := Try.isAgg3
  z3 := Try.sizeOf3
  v3 := Try.zeroValue3
  t4 := Try.underlying4
  a4 := Try.isAgg4
  z4 := Try.sizeOf4
  v4 := Try.zeroValue4
  t5 := Try.underlying5
  a5 := Try.isAgg5
  z5 := Try.sizeOf5
  v5 := Try.zeroValue5
  t9 := Try.underlying9
  a9 := Try.isAgg9
  z9 := Try.sizeOf9
  v9 := Try.zeroValue9
  t31 := Try.underlying22
  a31 := Try.isAgg22
  z31 := Try.sizeOf22
  v31 := Try.zeroValue22
  t46 := Try.underlying100
  a46 := Try.isAgg100
  z46 := Try.sizeOf100
  v46 := Try.zeroValue100
  t51 := Try.underlying144
  a51 := Try.isAgg144
  z51 := Try.sizeOf144
  v51 := Try.zeroValue144
  t53 := Try.underlying146
  a53 := Try.isAgg146
  z53 := Try.sizeOf146
  v53 := Try.zeroValue146
  t131 := Try.underlying95
  a131 := Try.isAgg95
  z131 := Try.sizeOf95
  v131 := Try.zeroValue95
  t182 := Try.underlying170
  a182 := Try.isAgg170
  z182 := Try.sizeOf170
  v182 := Try.zeroValue170
  t183 := Try.underlying171
  a183 := Try.isAgg171
  z183 := Try.sizeOf171
  v183 := Try.zeroValue171
  t218 := Try.underlying180
  a218 := Try.isAgg180
  z218 := Try.sizeOf180
  v218 := Try.zeroValue180
  t222 := Try.underlying184
  a222 := Try.isAgg184
  z222 := Try.sizeOf184
  v222 := Try.zeroValue184
  t228 := Try.underlying188
  a228 := Try.isAgg188
  z228 := Try.sizeOf188
  v228 := Try.zeroValue188
  t229 := Try.underlying189
  a229 := Try.isAgg189
  z229 := Try.sizeOf189
  v229 := Try.zeroValue189 }
end Go.Proofs
