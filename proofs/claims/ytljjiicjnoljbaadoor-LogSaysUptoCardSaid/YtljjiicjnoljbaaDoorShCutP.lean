/-
  Layings of the shelf at this program, in plain words: Tryd.layCutP.
-/
import Derived.Test.YtljjiicjnoljbaaDoorProg
import Derived.Shelf.Small.Wraps
namespace Go.Proofs
open Go.Shelf
def Tryd.layCutP_ren : Go.Shelf.Ren := ⟨fun | 103 => 137 | 210 => 166 | 206 => 190 | n => n, fun | 9 => 9 | 4 => 4 | 24 => 160 | 3 => 3 | n => n, fun | n => n⟩
theorem Tryd.layCutP : Go.Proofs.Lays.n103 Tryd.prog Tryd.layCutP_ren := {
  mixed := by kernel_rfl
  f103 := Tryd.func137.trans (congrArg some (by kernel_rfl))
  f206 := Tryd.func190.trans (congrArg some (by kernel_rfl))
  f210 := Tryd.func166.trans (congrArg some (by kernel_rfl))
  t3 := Tryd.underlying3
  a3 := Tryd.isAgg3
  z3 := Tryd.sizeOf3
  v3 := Tryd.zeroValue3
  t4 := Tryd.underlying4
  a4 := Tryd.isAgg4
  z4 := Tryd.sizeOf4
  v4 := Tryd.zeroValue4
  t9 := Tryd.underlying9
  a9 := Tryd.isAgg9
  z9 := Tryd.sizeOf9
  v9 := Tryd.zeroValue9
  t24 := Tryd.underlying160
  a24 := Tryd.isAgg160
  z24 := Tryd.sizeOf160
  v24 := Tryd.zeroValue160 }
end Go.Proofs
