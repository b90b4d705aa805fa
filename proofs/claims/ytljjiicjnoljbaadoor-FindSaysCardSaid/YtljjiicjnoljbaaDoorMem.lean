/-
  Whether a text is in a list. No program.
-/
import Derived.Test.YtljjiicjnoljbaaDoorOrd
namespace Go.Proofs.WK
@[reducible] def memDec {α : Type} [DecidableEq α] (x : α) (l : List α) : Decidable (x ∈ l) := inferInstance
instance memB (x : ByteArray) (l : List ByteArray) : Decidable (x ∈ l) := memDec x l
end Go.Proofs.WK
