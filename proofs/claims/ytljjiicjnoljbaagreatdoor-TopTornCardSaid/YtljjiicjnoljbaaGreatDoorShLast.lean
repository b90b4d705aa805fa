/-
  Layings of the shelf at this program, in plain words: Tryz.layLast.
-/
import Derived.Test.YtljjiicjnoljbaaGreatDoorProg
import Derived.Shelf.Strings.LastIndexAll
namespace Go.Proofs
open Go.Shelf
def Tryz.layLast_ren : Go.Shelf.Ren := ⟨fun | 148 => 109 | 222 => 178 | 223 => 179 | 269 => 247 | n => n, fun | 9 => 9 | 3 => 3 | 4 => 4 | 5 => 5 | 146 => 288 | 51 => 285 | 46 => 227 | n => n, fun | n => n⟩
theorem Tryz.layLast : Go.Proofs.Lays.n148 Tryz.prog Tryz.layLast_ren := {
  mixed := by kernel_rfl
  f148 := Tryz.func109.trans (congrArg some (by kernel_rfl))
  f222 := Tryz.func178.trans (congrArg some (by kernel_rfl))
  f223 := Tryz.func179.trans (congrArg some (by kernel_rfl))
  f269 := Tryz.func247.trans (congrArg some (by kernel_rfl))
  t3 := Tryz.underlying3
  a3 := Tryz.isAgg3
  z3 := Tryz.sizeOf3
  v3 := Tryz.zeroValue3
  t4 := Tryz.underlying4
  a4 := Tryz.isAgg4
  z4 := Tryz.sizeOf4
  v4 := Tryz.zeroValue4
  t5 := Tryz.underlying5
  a5 := Tryz.isAgg5
  z5 := Tryz.sizeOf5
  v5 := Tryz.zeroValue5
  t9 := Tryz.underlying9
  a9 := Tryz.isAgg9
  z9 := Tryz.sizeOf9
  v9 := Tryz.zeroValue9
  t46 := Tryz.underlying227
  a46 := Tryz.isAgg227
  z46 := Tryz.sizeOf227
  v46 := Tryz.zeroValue227
  t51 := Tryz.underlying285
  a51 := Tryz.isAgg285
  z51 := Tryz.sizeOf285
  v51 := Tryz.zeroValue285
  t146 := Tryz.underlying288
  a146 := Tryz.isAgg288
  z146 := Tryz.sizeOf288
  v146 := Tryz.zeroValue288 }
end Go.Proofs
