/-
  Layings of the shelf at this program, in plain words: Tryd.laySortL.
-/
import Derived.Test.YtljjiicjnoljbaaDoorProg
import Derived.Shelf.Sort.Plain
import Derived.Shelf.Slices.In.SortNone2
namespace Go.Proofs
open Go.Shelf
def Tryd.laySortL_ren : Go.Shelf.Ren := ⟨fun | 192 => 86 | 190 => 83 | 125 => 116 | 258 => 115 | 128 => 151 | 129 => 152 | 302 => 142 | 303 => 143 | 304 => 144 | 305 => 145 | 306 => 146 | 307 => 147 | 308 => 148 | 309 => 149 | 310 => 150 | 333 => 174 | 329 => 175 | 330 => 176 | 334 => 177 | 335 => 178 | 336 => 179 | 344 => 194 | n => n, fun | 31 => 33 | 0 => 0 | 9 => 9 | 3 => 3 | 46 => 86 | 51 => 133 | 53 => 135 | 4 => 4 | 183 => 168 | 182 => 167 | 131 => 116 | 5 => 5 | 218 => 192 | 222 => 196 | 228 => 210 | 229 => 211 | n => n, fun | n => n⟩
theorem Tryd.laySortL : Go.Proofs.Lays.n192 Tryd.prog Tryd.laySortL_ren := {
  mixed := by kernel_rfl
  f125 := Tryd.func116.trans (congrArg some (by kernel_rfl))
  f128 := Tryd.func151.trans (congrArg some (by kernel_rfl))
  f129 := Tryd.func152.trans (congrArg some (by kernel_rfl))
  f190 := Tryd.func83.trans (congrArg some (by kernel_rfl))
  f192 := Tryd.func86.trans (congrArg some (by kernel_rfl))
  f258 := Tryd.func115.trans (congrArg some (by kernel_rfl))
  f302 := Tryd.func142.trans (congrArg some (by kernel_rfl))
  f303 := Tryd.func143.trans (congrArg some (by kernel_rfl))
  f304 := Tryd.func144.trans (congrArg some (by kernel_rfl))
  f305 := Tryd.func145.trans (congrArg some (by kernel_rfl))
  f306 := Tryd.func146.trans (congrArg some (by kernel_rfl))
  f307 := Tryd.func147.trans (congrArg some (by kernel_rfl))
  f308 := Tryd.func148.trans (congrArg some (by kernel_rfl))
  f309 := Tryd.func149.trans (congrArg some (by kernel_rfl))
  f310 := Tryd.func150.trans (congrArg some (by kernel_rfl))
  f329 := Tryd.func175.trans (congrArg some (by kernel_rfl))
  f330 := Tryd.func176.trans (congrArg some (by kernel_rfl))
  f333 := Tryd.func174.trans (congrArg some (by kernel_rfl))
  f334 := Tryd.func177.trans (congrArg some (by kernel_rfl))
  f335 := Tryd.func178.trans (congrArg some (by kernel_rfl))
  f336 := Tryd.func179.trans (congrArg some (by kernel_rfl))
  f344 := Tryd.func194.trans (congrArg some (by kernel_rfl))
  t0 := Tryd.underlying0
  a0 := Tryd.isAgg0
  z0 := Tryd.sizeOf0
  v0 := Tryd.zeroValue0
  t3 := Tryd.underlying3
  a3 := Tryd.isAgg3
  z3 := Tryd.sizeOf3
  v3 := Tryd.zeroValue3
  t4 := Tryd.underlying4
  a4 := Tryd.isAgg4
  z4 := Tryd.sizeOf4
  v4 := Tryd.zeroValue4
  t5 := Tryd.underlying5
  a5 := Tryd.isAgg5
  z5 := Tryd.sizeOf5
  v5 := Tryd.zeroValue5
  t9 := Tryd.underlying9
  a9 := Tryd.isAgg9
  z9 := Tryd.sizeOf9
  v9 := Tryd.zeroValue9
  t31 := Tryd.underlying33
  a31 := Tryd.isAgg33
  z31 := Tryd.sizeOf33
  v31 := Tryd.zeroValue33
  t46 := Tryd.underlying86
  a46 := Tryd.isAgg86
  z46 := Tryd.sizeOf86
  v46 := Tryd.zeroValue86
  t51 := Tryd.underlying133
  a51 := Tryd.isAgg133
  z51 := Tryd.sizeOf133
  v51 := Tryd.zeroValue133
  t53 := Tryd.underlying135
  a53 := Tryd.isAgg135
  z53 := Tryd.sizeOf135
  v53 := Tryd.zeroValue135
  t131 := Tryd.underlying116
  a131 := Tryd.isAgg116
  z131 := Tryd.sizeOf116
  v131 := Tryd.zeroValue116
  t182 := Tryd.underlying167
  a182 := Tryd.isAgg167
  z182 := Tryd.sizeOf167
  v182 := Tryd.zeroValue167
  t183 := Tryd.underlying168
  a183 := Tryd.isAgg168
  z183 := Tryd.sizeOf168
  v183 := Tryd.zeroValue168
  t218 := Tryd.underlying192
  a218 := Tryd.isAgg192
  z218 := Tryd.sizeOf192
  v218 := Tryd.zeroValue192
  t222 := Tryd.underlying196
  a222 := Tryd.isAgg196
  z222 := Tryd.sizeOf196
  v222 := Tryd.zeroValue196
  t228 := Tryd.underlying210
  a228 := Tryd.isAgg210
  z228 := Tryd.sizeOf210
  v228 := Tryd.zeroValue210
  t229 := Tryd.underlying211
  a229 := Tryd.isAgg211
  z229 := Tryd.sizeOf211
  v229 := Tryd.zeroValue211 }
end Go.Proofs
