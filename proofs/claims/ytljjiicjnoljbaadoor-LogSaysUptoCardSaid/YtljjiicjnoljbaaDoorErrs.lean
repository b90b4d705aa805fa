/-
  What the rows' lists give of the library's own variables.
-/
import Derived.Test.YtljjiicjnoljbaaDoorCardK
import Derived.Test.YtljjiicjnoljbaaDoorAtoi
import Derived.Stop.LaidErr
import Derived.Shelf.Vars
import Derived.Lib.LaidTab
namespace Go.Proofs.WK
open Go.RowKit Go.Shelf
theorem gPow : (Tryd.prog.globals[5]?).map (·.type) = some 208 := by kernel_rfl
theorem pow_of {r : List (String × DataW Unit)} {W : World} (h : laidMet Tryd.prog (("internal/strconv.uint64pow10", YtljjiicjnoljbaaDoor.Rows.laid_internal_strconv_uint64pow10) :: r) W) : PowTab W :=
  Lib.tabIs_of_head (rest := r) powG gPow Tryd.underlying208 Tryd.underlying135 (by kernel_rfl) (by kernel_rfl) h
theorem gSyn : Tryd.prog.globalNamed "strconv.ErrSyntax" = some 3 := by kernel_rfl
theorem gSynT : (Tryd.prog.globals[3]?).map (·.type) = some 125 := by kernel_rfl
theorem gRng : Tryd.prog.globalNamed "strconv.ErrRange" = some 4 := by kernel_rfl
theorem gRngT : (Tryd.prog.globals[4]?).map (·.type) = some 125 := by kernel_rfl
theorem starE : "*" ++ "errors.errorString" = "*errors.errorString" := by decide
theorem rowE (u : TypeId) (h : Tryd.prog.typeName? 3 u = some "*errors.errorString") : u = 219 :=
  typeName_ptr_named (nm := "errors.errorString") (by rw [starE]; kernel_rfl) (by kernel_rfl) (by decide) u (by rw [starE]; exact h)
theorem cellsE : Tryd.prog.cellsOf 221 = 1 := by kernel_rfl
theorem cellsS : Tryd.prog.cellsOf 9 = 1 := by kernel_rfl
theorem syn_of {r : List (String × DataW Unit)} {W : World} (h : laidMet Tryd.prog (("strconv.ErrSyntax", YtljjiicjnoljbaaDoor.Rows.laid_strconv_ErrSyntax) :: r) W) : ∃ t p, W.cell? ⟨3, 0, none⟩ = some (.iface t p) := by
  obtain ⟨a0, s0, hv0, -, -, -⟩ := laid_sentinel h gSyn gSynT Tryd.underlying125 rowE Tryd.underlying219 Tryd.underlying221 rfl rfl Tryd.underlying9 cellsE cellsS
  exact ⟨_, _, by have h0 := World.var?_cell gSyn hv0 0; simpa using h0⟩
theorem rng_of {r : List (String × DataW Unit)} {W : World} (h : laidMet Tryd.prog (("strconv.ErrRange", YtljjiicjnoljbaaDoor.Rows.laid_strconv_ErrRange) :: r) W) : ∃ t p, W.cell? ⟨4, 0, none⟩ = some (.iface t p) := by
  obtain ⟨a0, s0, hv0, -, -, -⟩ := laid_sentinel h gRng gRngT Tryd.underlying125 rowE Tryd.underlying219 Tryd.underlying221 rfl rfl Tryd.underlying9 cellsE cellsS
  exact ⟨_, _, by have h0 := World.var?_cell gRng hv0 0; simpa using h0⟩
theorem max_of {W : World} (h : W.ShapedOpen Tryd.prog) : MaxCell W :=
  cell_of_shapedOpen_int (P := Tryd.prog) (g := 2) (t := 3) (zero := #[.int .i64 0]) h (of_decide_eq_true (by kernel_rfl)) (by kernel_rfl) rfl (by kernel_rfl) (by kernel_rfl) Tryd.underlying3
/-- The two sentinels, for a world that is written out: their texts, and cells that point to them. -/
def synS : ByteArray := ⟨#[105, 110, 118, 97, 108, 105, 100, 32, 115, 121, 110, 116, 97, 120]⟩
def rngS : ByteArray := ⟨#[118, 97, 108, 117, 101, 32, 111, 117, 116, 32, 111, 102, 32, 114, 97, 110, 103, 101]⟩
noncomputable def lowE : Nat := (World.holding Tryd.prog default ⟨#[], #[], []⟩).heap.size
noncomputable def errWorld (os : Os) : World := World.holding Tryd.prog os ⟨#[.cells #[.string synS] 221, .cells #[.string rngS] 221], #[], []⟩
end Go.Proofs.WK
