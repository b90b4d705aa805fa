/-
  What the rows' lists give of the library's own variables.
-/
import Derived.Test.YtljjiicjnoljbaaGreatDoorCardK
import Derived.Test.YtljjiicjnoljbaaGreatDoorAtoi
import Derived.Stop.LaidErr
import Derived.Shelf.Vars
import Derived.Lib.LaidTab
namespace Go.Proofs.WK
open Go.RowKit Go.Shelf
theorem gPow : (Tryz.prog.globals[3]?).map (·.type) = some 324 := by kernel_rfl
theorem pow_of {r : List (String × DataW Unit)} {W : World} (h : laidMet Tryz.prog (("internal/strconv.uint64pow10", YtljjiicjnoljbaaGreatDoor.Rows.laid_internal_strconv_uint64pow10) :: r) W) : PowTab W :=
  Lib.tabIs_of_head (rest := r) powG gPow Tryz.underlying324 Tryz.underlying123 (by kernel_rfl) (by kernel_rfl) h
theorem gSyn : Tryz.prog.globalNamed "strconv.ErrSyntax" = some 1 := by kernel_rfl
theorem gSynT : (Tryz.prog.globals[1]?).map (·.type) = some 140 := by kernel_rfl
theorem gRng : Tryz.prog.globalNamed "strconv.ErrRange" = some 2 := by kernel_rfl
theorem gRngT : (Tryz.prog.globals[2]?).map (·.type) = some 140 := by kernel_rfl
theorem starE : "*" ++ "errors.errorString" = "*errors.errorString" := by decide
theorem rowE (u : TypeId) (h : Tryz.prog.typeName? 3 u = some "*errors.errorString") : u = 337 :=
  typeName_ptr_named (nm := "errors.errorString") (by rw [starE]; kernel_rfl) (by kernel_rfl) (by decide) u (by rw [starE]; exact h)
theorem cellsE : Tryz.prog.cellsOf 339 = 1 := by kernel_rfl
theorem cellsS : Tryz.prog.cellsOf 9 = 1 := by kernel_rfl
theorem syn_of {r : List (String × DataW Unit)} {W : World} (h : laidMet Tryz.prog (("strconv.ErrSyntax", YtljjiicjnoljbaaGreatDoor.Rows.laid_strconv_ErrSyntax) :: r) W) : ∃ t p, W.cell? ⟨1, 0, none⟩ = some (.iface t p) := by
  obtain ⟨a0, s0, hv0, -, -, -⟩ := laid_sentinel h gSyn gSynT Tryz.underlying140 rowE Tryz.underlying337 Tryz.underlying339 rfl rfl Tryz.underlying9 cellsE cellsS
  exact ⟨_, _, by have h0 := World.var?_cell gSyn hv0 0; simpa using h0⟩
theorem rng_of {r : List (String × DataW Unit)} {W : World} (h : laidMet Tryz.prog (("strconv.ErrRange", YtljjiicjnoljbaaGreatDoor.Rows.laid_strconv_ErrRange) :: r) W) : ∃ t p, W.cell? ⟨2, 0, none⟩ = some (.iface t p) := by
  obtain ⟨a0, s0, hv0, -, -, -⟩ := laid_sentinel h gRng gRngT Tryz.underlying140 rowE Tryz.underlying337 Tryz.underlying339 rfl rfl Tryz.underlying9 cellsE cellsS
  exact ⟨_, _, by have h0 := World.var?_cell gRng hv0 0; simpa using h0⟩
theorem max_of {W : World} (h : W.ShapedOpen Tryz.prog) : MaxCell W :=
  cell_of_shapedOpen_int (P := Tryz.prog) (g := 0) (t := 3) (zero := #[.int .i64 0]) h (of_decide_eq_true (by kernel_rfl)) (by kernel_rfl) rfl (by kernel_rfl) (by kernel_rfl) Tryz.underlying3
/-- The two sentinels, for a world that is written out: their texts, and cells that point to them. -/
def synS : ByteArray := ⟨#[105, 110, 118, 97, 108, 105, 100, 32, 115, 121, 110, 116, 97, 120]⟩
def rngS : ByteArray := ⟨#[118, 97, 108, 117, 101, 32, 111, 117, 116, 32, 111, 102, 32, 114, 97, 110, 103, 101]⟩
noncomputable def lowE : Nat := (World.holding Tryz.prog default ⟨#[], #[], []⟩).heap.size
noncomputable def errWorld (os : Os) : World := World.holding Tryz.prog os ⟨#[.cells #[.string synS] 339, .cells #[.string rngS] 339], #[], []⟩
end Go.Proofs.WK
