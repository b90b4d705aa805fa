/-
  Layings of the shelf at this program, in plain words: Tryd.layIxB.
-/
import Derived.Test.YtljjiicjnoljbaaDoorProg
import Derived.Shelf.Small.Strs
namespace Go.Proofs
open Go.Shelf
def Tryd.layIxB_ren : Go.Shelf.Ren := ⟨fun | 137 => 101 | 217 => 138 | 266 => 167 | n => n, fun | 9 => 9 | 5 => 5 | 3 => 3 | n => n, fun | n => n⟩
theorem Tryd.layIxB : Go.Proofs.Lays.n137 Tryd.prog Tryd.layIxB_ren := {
  mixed := by kernel_rfl
  f137 := Tryd.func101.trans (congrArg some (by kernel_rfl))
  f217 := Tryd.func138.trans (congrArg some (by kernel_rfl))
  f266 := Tryd.func167.trans (congrArg some (by kernel_rfl))
  t3 := Tryd.underlying3
  a3 := Tryd.isAgg3
  z3 := Tryd.sizeOf3
  v3 := Tryd.zeroValue3
  t5 := Tryd.underlying5
  a5 := Tryd.isAgg5
  z5 := Tryd.sizeOf5
  v5 := Tryd.zeroValue5
  t9 := Tryd.underlying9
  a9 := Tryd.isAgg9
  z9 := Tryd.sizeOf9
  v9 := Tryd.zeroValue9 }
end Go.Proofs
