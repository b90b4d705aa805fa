/-
  The program's struct types among the arguments: each opened once.
-/
import Derived.Test.YtljjiicjnoljbaaDoorOpen
namespace Go.Proofs.WK
open Go.RowKit Go.WideShapes Go.ChangeShapes Rp
set_option maxRecDepth 100000
theorem I64.b {n : Int} (h : I64 n) : -9223372036854775808 ≤ n ∧ n ≤ 9223372036854775807 := h
theorem oWho : Opens Tryd.prog 43 whoR (fun x => I64 x.role ∧ I64 x.why ∧ I64 x.time) :=
  by have h := opens_struct Tryd.underlying43 (by kernel_rfl) (opensF_cons oInt rfl (opensF_cons oInt rfl (opensF_one oInt rfl))); exact opens_iso h (fun x : Who => (x.role, x.why, x.time)) (fun x => ⟨x.1, x.2.1, x.2.2⟩) fun _ => rfl
theorem oRul : Opens Tryd.prog 99 rulR (fun x => I64 x.role ∧ I64 x.why ∧ I64 x.frm ∧ I64 x.til ∧ I64 x.cats ∧ True) :=
  by have h := opens_struct Tryd.underlying99 (by kernel_rfl) (opensF_cons oInt rfl (opensF_cons oInt rfl (opensF_cons oInt rfl (opensF_cons oInt rfl (opensF_cons oInt rfl (opensF_one oBool rfl)))))); exact opens_iso h (fun x : Rul => (x.role, x.why, x.frm, x.til, x.cats, x.allow)) (fun x => ⟨x.1, x.2.1, x.2.2.1, x.2.2.2.1, x.2.2.2.2.1, x.2.2.2.2.2⟩) fun _ => rfl
theorem oRuls : Opens Tryd.prog 44 (slice rulR) (fun l => ∀ a ∈ l, I64 a.role ∧ I64 a.why ∧ I64 a.frm ∧ I64 a.til ∧ I64 a.cats ∧ True) := opens_slice Tryd.underlying44 (by kernel_rfl) oRul (by decide)
theorem oFld : Opens Tryd.prog 46 fldR (fun x => SOk x.key ∧ SOk x.val) :=
  by have h := opens_struct Tryd.underlying46 (by kernel_rfl) (opensF_cons oStr rfl (opensF_one oStr rfl)); exact opens_iso h (fun x : Fld => (x.key, x.val)) (fun x => ⟨x.1, x.2⟩) fun _ => rfl
theorem oFlds : Opens Tryd.prog 32 (slice fldR) (fun l => ∀ a ∈ l, SOk a.key ∧ SOk a.val) := opens_slice Tryd.underlying32 (by kernel_rfl) oFld (by decide)
def RecOk (x : Rec) : Prop := SOk x.id ∧ I64 x.cats ∧ (∀ f ∈ x.fields, SOk f.key ∧ SOk f.val) ∧ ∀ s ∈ x.refs, SOk s
theorem oRec : Opens Tryd.prog 35 recR RecOk :=
  by have h := opens_struct Tryd.underlying35 (by kernel_rfl) (opensF_cons oStr rfl (opensF_cons oInt rfl (opensF_cons oFlds rfl (opensF_one oStrs rfl)))); exact opens_iso h (fun x : Rec => (x.id, x.cats, x.fields, x.refs)) (fun x => ⟨x.1, x.2.1, x.2.2.1, x.2.2.2⟩) fun _ => rfl
theorem oVer : Opens Tryd.prog 62 verR (fun x => RecOk x.r ∧ True) :=
  by have h := opens_struct Tryd.underlying62 (by kernel_rfl) (opensF_cons oRec rfl (opensF_one oBool rfl)); exact opens_iso h (fun x : Ver => (x.r, x.gone)) (fun x => ⟨x.1, x.2⟩) fun _ => rfl
theorem oVers : Opens Tryd.prog 31 (slice verR) (fun l => ∀ a ∈ l, RecOk a.r ∧ True) := opens_slice Tryd.underlying31 (by kernel_rfl) oVer (by decide)
end Go.Proofs.WK
