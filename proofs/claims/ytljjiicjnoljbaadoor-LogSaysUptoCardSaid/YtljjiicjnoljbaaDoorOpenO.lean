/-
  An operation (api.Op) among the arguments: opened once; a list of such.
-/
import Derived.Test.YtljjiicjnoljbaaDoorOpenT
import Derived.Test.YtljjiicjnoljbaaDoorOpv
namespace Go.Proofs.WK
open Go.RowKit Go.WideShapes Go.ChangeShapes Rp
set_option maxRecDepth 100000
def opP : Rp OpV := iso (pair int (pair whoR (pair (slice rulR) (pair recR (pair str fldR))))) (fun x => (x.kind, x.who, x.rules, x.r, x.id, x.f))
def OpOk (x : OpV) : Prop := I64 x.kind ∧ (I64 x.who.role ∧ I64 x.who.why ∧ I64 x.who.time) ∧ (∀ a ∈ x.rules, I64 a.role ∧ I64 a.why ∧ I64 a.frm ∧ I64 a.til ∧ I64 a.cats ∧ True) ∧ RecOk x.r ∧ SOk x.id ∧ SOk x.f.key ∧ SOk x.f.val
theorem opK_of {w : World} {ok : Nat → Prop} {cs : List Value} {x : OpV} (h : opP.K w ok x cs) : opRp.K w ok x cs := by
  obtain ⟨_, _, rfl, rfl, _, _, rfl, hw, _, _, rfl, ⟨v1, rfl, h1⟩, _, _, rfl, hr, _, _, rfl, rfl, hf⟩ := h
  obtain rfl := whoK.1 hw
  obtain ⟨v2, v3, rfl, h2, h3⟩ := recK.1 hr
  obtain rfl := fldK.1 hf
  exact ⟨v1, v2, v3, rfl, h1, h2, h3⟩
theorem oOpP : Opens Tryd.prog 48 opP OpOk := by
  have h := opens_struct Tryd.underlying48 (by kernel_rfl) (opensF_cons oInt rfl (opensF_cons oWho rfl (opensF_cons oRuls rfl (opensF_cons oRec rfl (opensF_cons oStr rfl (opensF_one oFld rfl))))))
  exact opens_iso h (fun x : OpV => (x.kind, x.who, x.rules, x.r, x.id, x.f)) (fun x => ⟨x.1, x.2.1, x.2.2.1, x.2.2.2.1, x.2.2.2.2.1, x.2.2.2.2.2⟩) fun _ => rfl
theorem oOp : Opens Tryd.prog 48 opRp OpOk := ⟨oOpP.1, fun h => by
  obtain ⟨a, h1, h2⟩ := oOpP.2 h
  exact ⟨a, h1, opK_of h2⟩⟩
end Go.Proofs.WK
