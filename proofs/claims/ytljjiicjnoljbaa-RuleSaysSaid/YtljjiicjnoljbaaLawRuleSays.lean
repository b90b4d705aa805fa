/-
  The statement RuleSaysSaid.
-/
import Derived.Test.YtljjiicjnoljbaaRows
import Derived.Test.YtljjiicjnoljbaaRuleL
import Derived.Test.YtljjiicjnoljbaaOpenT
namespace Go.Proofs.Ytljjiicjnoljbaa
open Go.ChangeShapes Go.WideShapes Go.ChangeAt Go.RowKit Go.Proofs.WK
open Go.ChangeMaps (open_string)
set_option maxRecDepth 100000 in
theorem ruleSays_lifted (os : Os) (started : os.Started) (H : Type) (enc : TypeId × Value → H) :
    ReturnsInHanded {} Try.checked os 5 .any (Rows.ruleSaysSpec.pre6 enc Try.prog Try.f5 Rows.ruleSaysRow.domain false) (Rows.ruleSaysSpec.post enc Try.prog Try.f5 false true false false) := by
  refine returnsInHanded_of_change (C := Try.checked) own_ started (by kernel_rfl) Try.func5
    (ChangeSpec.witness6 (enc := enc) (C := Try.checked) false ⟨#[], #[.slice none 0 0, .slice none 0 0, .agg #[.int .i64 0, .int .i64 0, .int .i64 0], .agg #[.int .i64 0, .int .i64 0, .int .i64 0, .int .i64 0, .int .i64 0, .bool false], .int .i64 0], []⟩ 8 (by kernel_rfl) (by kernel_rfl) (by kernel_rfl) (by kernel_rfl)) ?_
  intro W base args ds gs before hval0 hW hcnd _
  have hval : ∀ (j : Nat) t v, Try.f5.params[j]? = some t → args[j]? = some v → Value.okWide Try.prog W .any base t v := hval0
  have hW' := hW
  obtain ⟨p, q, hA0, hV, rfl, hfz, hnd⟩ := hW
  have hA : DataW.TrodAll enc Try.prog W 0 (fun _ => true) true Try.f5.params.toList args.toList ds p := hA0
  rw [Try.params5] at hA hval
  have hAll := hA
  obtain ⟨v0, vs0, d0, ds0, p0, q0, hargs, rfl, rfl, h0, r0⟩ := trodAll_cons hA
  obtain ⟨v1, vs1, d1, ds1, p1, q1, rfl, rfl, rfl, h1, r1⟩ := trodAll_cons r0
  obtain ⟨v2, vs2, d2, ds2, p2, q2, rfl, rfl, rfl, h2, r2⟩ := trodAll_cons r1
  obtain ⟨v3, vs3, d3, ds3, p3, q3, rfl, rfl, rfl, h3, r3⟩ := trodAll_cons r2
  obtain ⟨v4, vs4, d4, ds4, p4, q4, rfl, rfl, rfl, h4, r4⟩ := trodAll_cons r3
  obtain ⟨rfl, rfl, rfl⟩ := trodAll_nil r4
  obtain rfl : args = #[v0, v1, v2, v3, v4] := by cases args; simp_all
  obtain ⟨rfl, rfl⟩ := trodVars_none hV
  obtain ⟨upA, upC, up, rfl, upH, upW, upR⟩ := oInts.arg Try.underlying39 (hval 0 39 _ rfl rfl) h0
  obtain ⟨lA, lC, l, rfl, lH, lW, lR⟩ := oRuls.arg Try.underlying40 (hval 1 40 _ rfl rfl) h1
  obtain ⟨q, qCs, rfl, qW, qK⟩ := oWho.agg Try.underlying42 (hval 2 42 _ rfl rfl) h2
  obtain rfl := Rp.whoK.1 qK
  obtain ⟨r, rCs, rfl, rW, rK⟩ := oRul.agg Try.underlying44 (hval 3 44 _ rfl rfl) h3
  obtain rfl := Rp.rulK.1 rK
  obtain ⟨cats, rfl, _, _, catsW⟩ := open_int Try.underlying3 (hval 4 3 _ rfl rfl) h4
  have cats64 : I64 cats := by simpa [I64, Lit.wf, IntKind.min, IntKind.max, IntKind.signed, IntKind.bits] using catsW
  refine (ruleSaysL upA upC up lA lC l q r cats _ _ W upR upR.1 lR lR.1).mono fun e W' ⟨he, bel⟩ => ?_
  subst he
  exact ⟨_, rfl, _, _, _, [], _, [], hW', trodAll_mk1 (shut_bool Try.underlying4 _), trodAll_below laidOut bel (by kernel_rfl) (fun x hx => hW'.lt x (by simpa using hx)) hAll, rfl, bel.frame _, fun h => by cases h⟩
theorem ruleSays_holds : Rows.RuleSaysSaid :=
  OpenClaim.holds_of_wide 5 Try.f5 rfl rfl rfl rfl rfl rfl rfl ⟨rfl, rfl, rfl, rfl, rfl⟩ rfl rfl rfl rfl rfl (by kernel_rfl) Try.func5 (by kernel_rfl)
    (of_decide_eq_true (by kernel_rfl)) (by unfold Func.isWrapper; first | (rw [if_pos (by decide +kernel)]; kernel_rfl) | (rw [if_neg (by decide +kernel)]; exact ⟨rfl, rfl⟩))
    (fun os started H enc _ => ruleSays_lifted os started H enc)
#print axioms ruleSays_holds
end Go.Proofs.Ytljjiicjnoljbaa
