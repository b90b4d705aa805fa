/-
  Layings of the shelf at this program, in plain words: Tryz.laySortS.
-/
import Derived.Test.YtljjiicjnoljbaaGreatDoorProg
import Derived.Shelf.Sort.Plain
import Derived.Shelf.Slices.In.SortNone
namespace Go.Proofs
open Go.Shelf
def Tryz.laySortS_ren : Go.Shelf.Ren := ⟨fun | 190 => 95 | 125 => 171 | 258 => 170 | 128 => 242 | 129 => 243 | 302 => 234 | 303 => 235 | 304 => 236 | 305 => 237 | 306 => 238 | 307 => 239 | 308 => 224 | 309 => 240 | 310 => 241 | 333 => 276 | 329 => 277 | 330 => 278 | 334 => 279 | 335 => 280 | 336 => 270 | 344 => 298 | n => n, fun | 31 => 34 | 9 => 9 | 3 => 3 | 46 => 227 | 0 => 0 | 51 => 285 | 53 => 123 | 4 => 4 | 183 => 279 | 182 => 278 | 131 => 160 | 5 => 5 | 218 => 311 | 222 => 315 | 228 => 333 | 229 => 334 | n => n, fun | n => n⟩
theorem Tryz.laySortS : Go.Proofs.Lays.n190 Tryz.prog Tryz.laySortS_ren := {
  mixed := by kernel_rfl
  f125 := Tryz.func171.trans (congrArg some (by kernel_rfl))
  f128 := Tryz.func242.trans (congrArg some (by kernel_rfl))
  f129 := Tryz.func243.trans (congrArg some (by kernel_rfl))
  f190 := Tryz.func95.trans (congrArg some (by kernel_rfl))
  f258 := Tryz.func170.trans (congrArg some (by kernel_rfl))
  f302 := Tryz.func234.trans (congrArg some (by kernel_rfl))
  f303 := Tryz.func235.trans (congrArg some (by kernel_rfl))
  f304 := Tryz.func236.trans (congrArg some (by kernel_rfl))
  f305 := Tryz.func237.trans (congrArg some (by kernel_rfl))
  f306 := Tryz.func238.trans (congrArg some (by kernel_rfl))
  f307 := Tryz.func239.trans (congrArg some (by kernel_rfl))
  f308 := Tryz.func224.trans (congrArg some (by kernel_rfl))
  f309 := Tryz.func240.trans (congrArg some (by kernel_rfl))
  f310 := Tryz.func241.trans (congrArg some (by kernel_rfl))
  f329 := Tryz.func277.trans (congrArg some (by kernel_rfl))
  f330 := Tryz.func278.trans (congrArg some (by kernel_rfl))
  f333 := Tryz.func276.trans (congrArg some (by kernel_rfl))
  f334 := Tryz.func279.trans (congrArg some (by kernel_rfl))
  f335 := Tryz.func280.trans (congrArg some (by kernel_rfl))
  f336 := Tryz.func270.trans (congrArg some (by kernel_rfl))
  f344 := Tryz.func298.trans (congrArg some (by kernel_rfl))
  t0 := Tryz.underlying0
  a0 := Tryz.isAgg0
  z0 := Tryz.sizeOf0
  v0 := Tryz.zeroValue0
  t3 := Tryz.underlying3
  a3 := Tryz.isAgg3
  z3 := Tryz.sizeOf3
  v3 := Tryz.zeroValue3
  t4 := Tryz.underlying4
  a4 := Tryz.isAgg4
  z4 := Tryz.sizeOf4
  v4 := Tryz.zeroValue4
  t5 := Tryz.underlying5
  a5 := Tryz.isAgg5
  z5 := Tryz.sizeOf5
  v5 := Tryz.zeroValue5
  t9 := Tryz.underlying9
  a9 := Tryz.isAgg9
  z9 := Tryz.sizeOf9
  v9 := Tryz.zeroValue9
  t31 := Tryz.underlying34
  a31 := Tryz.isAgg34
  z31 := Tryz.sizeOf34
  v31 := Tryz.zeroValue34
  t46 := Tryz.underlying227
  a46 := Tryz.isAgg227
  z46 := Tryz.sizeOf227
  v46 := Tryz.zeroValue227
  t51 := Tryz.underlying285
  a51 := Tryz.isAgg285
  z51 := Tryz.sizeOf285
  v51 := Tryz.zeroValue285
  t53 := Tryz.underlying123
  a53 := Tryz.isAgg123
  z53 := Tryz.sizeOf123
  v53 := Tryz.zeroValue123
  t131 := Tryz.underlying160
  a131 := Tryz.isAgg160
  z131 := Tryz.sizeOf160
  v131 := Tryz.zeroValue160
  t182 := Tryz.underlying278
  a182 := Tryz.isAgg278
  z182 := Tryz.sizeOf278
  v182 := Tryz.zeroValue278
  t183 := Tryz.underlying279
  a183 := Tryz.isAgg279
  z183 := Tryz.sizeOf279
  v183 := Tryz.zeroValue279
  t218 := Tryz.underlying311
  a218 := Tryz.isAgg311
  z218 := Tryz.sizeOf311
  v218 := Tryz.zeroValue311
  t222 := Tryz.underlying315
  a222 := Tryz.isAgg315
  z222 := Tryz.sizeOf315
  v222 := Tryz.zeroValue315
  t228 := Tryz.underlying333
  a228 := Tryz.isAgg333
  z228 := Tryz.sizeOf333
  v228 := Tryz.zeroValue333
  t229 := Tryz.underlying334
  a229 := Tryz.isAgg334
  z229 := Tryz.sizeOf334
  v229 := Tryz.zeroValue334 }
end Go.Proofs
