/-
  strconv.Itoa, as this program bears it; wyref.Dec.
-/
import Derived.Test.YtljjiicjnoljbaaDoorNumT
import Derived.Test.YtljjiicjnoljbaaDoorDat
import Derived.Test.YtljjiicjnoljbaaDoorShItoa
import Derived.Lib.LaidTab
namespace Go.Proofs.WK
open Go.RowKit Go.Sort Rp
/-- The table of powers of ten. -/
def PowTab (w : World) : Prop := Lib.TabIs Tryd.prog w "internal/strconv.uint64pow10" .u64 Lib.pow10Tab
theorem powG : Tryd.prog.globalNamed "internal/strconv.uint64pow10" = some 5 := by kernel_rfl
theorem PowTab.lt {w : World} (h : PowTab w) : 5 < w.heap.size := World.block_lt_of_cell? w _ (Lib.TabIs.cell h powG 0 (by decide))
theorem PowTab.below {w w' : World} (h : PowTab w) (hb : Below w.heap.size w w') : PowTab w' := var?_below hb powG h.lt h
theorem grow_below (w : World) (k : Nat) (os : Array Obj) : Below w.heap.size w (grow (w.drewN k) os) :=
  ⟨rfl, rfl, rfl, by simp, fun j hj => by rw [heap_grow_old _ _ (by simpa using hj)]; rfl⟩
theorem itoaC (n : Int) (h0 : -9223372036854775808 ≤ n) (h1 : n ≤ 9223372036854775807) (w : World) (ht : PowTab w) : Calls Tryd.prog 72 #[.int .i64 n] w fun e w' => e = .returned (.string (decS n)) ∧ Below w.heap.size w w' :=
  (show Calls Tryd.prog 72 #[.int .i64 n] w _ from Any.strconv_Itoa Tryd.layItoa n h0 h1 w ht).mono fun e w' ⟨he, k, os, hw⟩ => ⟨he, hw ▸ grow_below w k os⟩
end Go.Proofs.WK
