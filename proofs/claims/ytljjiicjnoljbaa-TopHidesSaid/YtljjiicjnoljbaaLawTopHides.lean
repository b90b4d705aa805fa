/-
  The statement TopHidesSaid.
-/
import Derived.Test.YtljjiicjnoljbaaRows
import Derived.Test.YtljjiicjnoljbaaTopL
import Derived.Test.YtljjiicjnoljbaaOpenT
namespace Go.Proofs.Ytljjiicjnoljbaa
open Go.ChangeShapes Go.WideShapes Go.ChangeAt Go.RowKit Go.Proofs.WK
open Go.ChangeMaps (open_string)
set_option maxRecDepth 100000 in
theorem topHides_lifted (os : Os) (started : os.Started) (H : Type) (enc : TypeId × Value → H) :
    ReturnsInHanded {} Try.checked os 6 .any (Rows.topHidesSpec.pre6 enc Try.prog Try.f6 Rows.topHidesRow.domain false) (Rows.topHidesSpec.post enc Try.prog Try.f6 false true false false) := by
  refine returnsInHanded_of_change (C := Try.checked) own_ started (by kernel_rfl) Try.func6
    (ChangeSpec.witness6 (enc := enc) (C := Try.checked) false ⟨#[], #[.slice none 0 0, .slice none 0 0, .int .i64 0], []⟩ 8 (by kernel_rfl) (by kernel_rfl) (by kernel_rfl) (by kernel_rfl)) ?_
  intro W base args ds gs before hval0 hW hcnd _
  have hval : ∀ (j : Nat) t v, Try.f6.params[j]? = some t → args[j]? = some v → Value.okWide Try.prog W .any base t v := hval0
  have hW' := hW
  obtain ⟨p, q, hA0, hV, rfl, hfz, hnd⟩ := hW
  have hA : DataW.TrodAll enc Try.prog W 0 (fun _ => true) true Try.f6.params.toList args.toList ds p := hA0
  rw [Try.params6] at hA hval
  have hAll := hA
  obtain ⟨v0, vs0, d0, ds0, p0, q0, hargs, rfl, rfl, h0, r0⟩ := trodAll_cons hA
  obtain ⟨v1, vs1, d1, ds1, p1, q1, rfl, rfl, rfl, h1, r1⟩ := trodAll_cons r0
  obtain ⟨v2, vs2, d2, ds2, p2, q2, rfl, rfl, rfl, h2, r2⟩ := trodAll_cons r1
  obtain ⟨rfl, rfl, rfl⟩ := trodAll_nil r2
  obtain rfl : args = #[v0, v1, v2] := by cases args; simp_all
  obtain ⟨rfl, rfl⟩ := trodVars_none hV
  obtain ⟨lA, lC, l, rfl, lH, lW, lR⟩ := oIntss.arg Try.underlying51 (hval 0 51 _ rfl rfl) h0
  obtain ⟨mA, mC, m, rfl, mH, mW, mR⟩ := oIntss.arg Try.underlying51 (hval 1 51 _ rfl rfl) h1
  obtain ⟨sees, rfl, _, _, seesW⟩ := open_int Try.underlying3 (hval 2 3 _ rfl rfl) h2
  have sees64 : I64 sees := by simpa [I64, Lit.wf, IntKind.min, IntKind.max, IntKind.signed, IntKind.bits] using seesW
  refine (topHidesL lA lC l mA mC m sees _ _ W lR lH mR mH).mono fun e W' ⟨he, bel⟩ => ?_
  subst he
  exact ⟨_, rfl, _, _, _, [], _, [], hW', trodAll_mk1 (shut_bool Try.underlying4 _), trodAll_below laidOut bel (by kernel_rfl) (fun x hx => hW'.lt x (by simpa using hx)) hAll, rfl, bel.frame _, fun h => by cases h⟩
theorem topHides_holds : Rows.TopHidesSaid :=
  OpenClaim.holds_of_wide 6 Try.f6 rfl rfl rfl rfl rfl rfl rfl ⟨rfl, rfl, rfl, rfl, rfl⟩ rfl rfl rfl rfl rfl (by kernel_rfl) Try.func6 (by kernel_rfl)
    (of_decide_eq_true (by kernel_rfl)) (by unfold Func.isWrapper; first | (rw [if_pos (by decide +kernel)]; kernel_rfl) | (rw [if_neg (by decide +kernel)]; exact ⟨rfl, rfl⟩))
    (fun os started H enc _ => topHides_lifted os started H enc)
#print axioms topHides_holds
end Go.Proofs.Ytljjiicjnoljbaa
