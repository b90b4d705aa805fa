/-
  Layings of the shelf at this program, in plain words: Tryz.layCutP.
-/
import Derived.Test.YtljjiicjnoljbaaGreatDoorProg
import Derived.Shelf.Small.Wraps
namespace Go.Proofs
open Go.Shelf
def Tryz.layCutP_ren : Go.Shelf.Ren := ⟨fun | 103 => 185 | 210 => 254 | 206 => 284 | n => n, fun | 9 => 9 | 4 => 4 | 24 => 247 | 3 => 3 | n => n, fun | n => n⟩
theorem Tryz.layCutP : Go.Proofs.Lays.n103 Tryz.prog Tryz.layCutP_ren := {
  mixed := by kernel_rfl
  f103 := Tryz.func185.trans (congrArg some (by kernel_rfl))
  f206 := Tryz.func284.trans (congrArg some (by kernel_rfl))
  f210 := Tryz.func254.trans (congrArg some (by kernel_rfl))
  t3 := Tryz.underlying3
  a3 := Tryz.isAgg3
  z3 := Tryz.sizeOf3
  v3 := Tryz.zeroValue3
  t4 := Tryz.underlying4
  a4 := Tryz.isAgg4
  z4 := Tryz.sizeOf4
  v4 := Tryz.zeroValue4
  t9 := Tryz.underlying9
  a9 := Tryz.isAgg9
  z9 := Tryz.sizeOf9
  v9 := Tryz.zeroValue9
  t24 := Tryz.underlying247
  a24 := Tryz.isAgg247
  z24 := Tryz.sizeOf247
  v24 := Tryz.zeroValue247 }
end Go.Proofs
