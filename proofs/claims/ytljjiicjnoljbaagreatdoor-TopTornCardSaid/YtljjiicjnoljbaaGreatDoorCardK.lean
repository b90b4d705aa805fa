/-
  What the cards' rows share: the listed variables' data as cells; what comes in is well formed.
-/
import Derived.Test.YtljjiicjnoljbaaGreatDoorRows
import Derived.Test.YtljjiicjnoljbaaGreatDoorOpe0
import Derived.ProofKit
import Derived.OpenShut
import Derived.Deep.DeepHandedRow
namespace Go.Proofs.WK
def litN : DataW Unit → Int
  | .lit (.int _ n) => n
  | _ => 0
def flat1 : DataW Unit → List Int
  | .agg ds => ds.map litN
  | _ => []
def flat2 : DataW Unit → List Int
  | .agg ds => ds.flatMap flat1
  | _ => []
def fillObj (l : List Value) : Obj → Obj
  | .cells _ t frozen => .cells l.toArray t frozen
  | o => o
theorem rec_wf {r : Rec} (h : RecOk r) : ∀ f ∈ r.fields, f.val.size ≤ 9223372036854775807 := fun f hf => (h.2.2.1 f hf).2
theorem sto_wf {l : List Ver} (h : ∀ a ∈ l, RecOk a.r ∧ True) : ∀ v ∈ l, ∀ f ∈ v.r.fields, f.val.size ≤ 9223372036854775807 := fun v hv => rec_wf (h v hv).1
end Go.Proofs.WK
