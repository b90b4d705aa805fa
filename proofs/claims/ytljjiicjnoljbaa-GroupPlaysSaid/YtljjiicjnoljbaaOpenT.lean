/-
  The program's struct types among the arguments: each opened once.
-/
import Derived.Test.YtljjiicjnoljbaaOpen
namespace Go.Proofs.WK
open Go.RowKit Go.WideShapes Go.ChangeShapes Rp
set_option maxRecDepth 100000
theorem I64.b {n : Int} (h : I64 n) : -9223372036854775808 ≤ n ∧ n ≤ 9223372036854775807 := h
def labR : Rp Lab := iso (pair int int) (fun x => (x.level, x.cats))
theorem labK {w : World} {ok : Nat → Prop} {cs : List Value} {x : Lab} : labR.K w ok x cs ↔ cs = [.int .i64 x.level, .int .i64 x.cats] :=
  ⟨by rintro ⟨_, _, rfl, rfl, rfl⟩; rfl, by rintro rfl; exact ⟨[_], _, rfl, rfl, rfl⟩⟩
theorem oLab : Opens Try.prog 29 labR (fun x => I64 x.level ∧ I64 x.cats) :=
  by have h := opens_struct Try.underlying29 (by kernel_rfl) (opensF_cons oInt rfl (opensF_one oInt rfl)); exact opens_iso h (fun x : Lab => (x.level, x.cats)) (fun x => ⟨x.1, x.2⟩) fun _ => rfl
theorem oWho : Opens Try.prog 42 whoR (fun x => I64 x.role ∧ I64 x.why ∧ I64 x.time) :=
  by have h := opens_struct Try.underlying42 (by kernel_rfl) (opensF_cons oInt rfl (opensF_cons oInt rfl (opensF_one oInt rfl))); exact opens_iso h (fun x : Who => (x.role, x.why, x.time)) (fun x => ⟨x.1, x.2.1, x.2.2⟩) fun _ => rfl
theorem oRul : Opens Try.prog 44 rulR (fun x => I64 x.role ∧ I64 x.why ∧ I64 x.frm ∧ I64 x.til ∧ I64 x.cats ∧ True) :=
  by have h := opens_struct Try.underlying44 (by kernel_rfl) (opensF_cons oInt rfl (opensF_cons oInt rfl (opensF_cons oInt rfl (opensF_cons oInt rfl (opensF_cons oInt rfl (opensF_one oBool rfl)))))); exact opens_iso h (fun x : Rul => (x.role, x.why, x.frm, x.til, x.cats, x.allow)) (fun x => ⟨x.1, x.2.1, x.2.2.1, x.2.2.2.1, x.2.2.2.2.1, x.2.2.2.2.2⟩) fun _ => rfl
theorem oIntss : Opens Try.prog 51 (slice (slice int)) (fun l => ∀ a ∈ l, ∀ n ∈ a, I64 n) := opens_slice Try.underlying51 (by kernel_rfl) oInts (by decide)
theorem oRuls : Opens Try.prog 40 (slice rulR) (fun l => ∀ a ∈ l, I64 a.role ∧ I64 a.why ∧ I64 a.frm ∧ I64 a.til ∧ I64 a.cats ∧ True) := opens_slice Try.underlying40 (by kernel_rfl) oRul (by decide)
theorem oFld : Opens Try.prog 60 fldR (fun x => SOk x.key ∧ SOk x.val) :=
  by have h := opens_struct Try.underlying60 (by kernel_rfl) (opensF_cons oStr rfl (opensF_one oStr rfl)); exact opens_iso h (fun x : Fld => (x.key, x.val)) (fun x => ⟨x.1, x.2⟩) fun _ => rfl
theorem oFlds : Opens Try.prog 56 (slice fldR) (fun l => ∀ a ∈ l, SOk a.key ∧ SOk a.val) := opens_slice Try.underlying56 (by kernel_rfl) oFld (by decide)
def RecOk (x : Rec) : Prop := SOk x.id ∧ I64 x.cats ∧ (∀ f ∈ x.fields, SOk f.key ∧ SOk f.val) ∧ ∀ s ∈ x.refs, SOk s
theorem oRec : Opens Try.prog 58 recR RecOk :=
  by have h := opens_struct Try.underlying58 (by kernel_rfl) (opensF_cons oStr rfl (opensF_cons oInt rfl (opensF_cons oFlds rfl (opensF_one oStrs rfl)))); exact opens_iso h (fun x : Rec => (x.id, x.cats, x.fields, x.refs)) (fun x => ⟨x.1, x.2.1, x.2.2.1, x.2.2.2⟩) fun _ => rfl
theorem oVer : Opens Try.prog 129 verR (fun x => RecOk x.r ∧ True) :=
  by have h := opens_struct Try.underlying129 (by kernel_rfl) (opensF_cons oRec rfl (opensF_one oBool rfl)); exact opens_iso h (fun x : Ver => (x.r, x.gone)) (fun x => ⟨x.1, x.2⟩) fun _ => rfl
theorem oVers : Opens Try.prog 66 (slice verR) (fun l => ∀ a ∈ l, RecOk a.r ∧ True) := opens_slice Try.underlying66 (by kernel_rfl) oVer (by decide)
end Go.Proofs.WK
