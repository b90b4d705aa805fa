/-
  Layings of the shelf at this program, in plain words: Tryd.layCmp.
-/
import Derived.Test.YtljjiicjnoljbaaDoorProg
import Derived.Shelf.Small.Strs
namespace Go.Proofs
open Go.Shelf
def Tryd.layCmp_ren : Go.Shelf.Ren := ⟨fun | 106 => 93 | 213 => 127 | 265 => 157 | n => n, fun | 9 => 9 | 3 => 3 | n => n, fun | n => n⟩
theorem Tryd.layCmp : Go.Proofs.Lays.n106 Tryd.prog Tryd.layCmp_ren := {
  mixed := by kernel_rfl
  f106 := Tryd.func93.trans (congrArg some (by kernel_rfl))
  f213 := Tryd.func127.trans (congrArg some (by kernel_rfl))
  f265 := Tryd.func157.trans (congrArg some (by kernel_rfl))
  t3 := Tryd.underlying3
  a3 := Tryd.isAgg3
  z3 := Tryd.sizeOf3
  v3 := Tryd.zeroValue3
  t9 := Tryd.underlying9
  a9 := Tryd.isAgg9
  z9 := Tryd.sizeOf9
  v9 := Tryd.zeroValue9 }
end Go.Proofs
