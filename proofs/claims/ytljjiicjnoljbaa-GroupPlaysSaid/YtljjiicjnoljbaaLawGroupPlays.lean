/-
  The statement GroupPlaysSaid.
-/
import Derived.Test.YtljjiicjnoljbaaRows
import Derived.Test.YtljjiicjnoljbaaGrpLaw
import Derived.Test.YtljjiicjnoljbaaOpenT
namespace Go.Proofs.Ytljjiicjnoljbaa
open Go.ChangeShapes Go.WideShapes Go.ChangeAt Go.RowKit Go.Proofs.WK
open Go.ChangeMaps (open_string)
set_option maxRecDepth 100000 in
theorem groupPlays_lifted (os : Os) (started : os.Started) (H : Type) (enc : TypeId × Value → H) :
    ReturnsInHanded {} Try.checked os 7 .any (Rows.groupPlaysSpec.pre6 enc Try.prog Try.f7 Rows.groupPlaysRow.domain false) (Rows.groupPlaysSpec.post enc Try.prog Try.f7 false true false false) := by
  refine returnsInHanded_of_change (C := Try.checked) own_ started (by kernel_rfl) Try.func7
    (ChangeSpec.witness6 (enc := enc) (C := Try.checked) false ⟨#[], #[.int .i64 0, .slice none 0 0, .slice none 0 0], []⟩ 8 (by kernel_rfl) (by kernel_rfl) (by kernel_rfl) (by kernel_rfl)) ?_
  intro W base args ds gs before hval0 hW hcnd _
  have hval : ∀ (j : Nat) t v, Try.f7.params[j]? = some t → args[j]? = some v → Value.okWide Try.prog W .any base t v := hval0
  have hW' := hW
  obtain ⟨p, q, hA0, hV, rfl, hfz, hnd⟩ := hW
  have hA : DataW.TrodAll enc Try.prog W 0 (fun _ => true) true Try.f7.params.toList args.toList ds p := hA0
  rw [Try.params7] at hA hval
  have hAll := hA
  obtain ⟨v0, vs0, d0, ds0, p0, q0, hargs, rfl, rfl, h0, r0⟩ := trodAll_cons hA
  obtain ⟨v1, vs1, d1, ds1, p1, q1, rfl, rfl, rfl, h1, r1⟩ := trodAll_cons r0
  obtain ⟨v2, vs2, d2, ds2, p2, q2, rfl, rfl, rfl, h2, r2⟩ := trodAll_cons r1
  obtain ⟨rfl, rfl, rfl⟩ := trodAll_nil r2
  obtain rfl : args = #[v0, v1, v2] := by cases args; simp_all
  obtain ⟨rfl, rfl⟩ := trodVars_none hV
  obtain ⟨n, rfl, _, _, nW⟩ := open_int Try.underlying3 (hval 0 3 _ rfl rfl) h0
  have n64 : I64 n := by simpa [I64, Lit.wf, IntKind.min, IntKind.max, IntKind.signed, IntKind.bits] using nW
  obtain ⟨lA, lC, l, rfl, lH, lW, lR⟩ := oIntss.arg Try.underlying51 (hval 1 51 _ rfl rfl) h1
  obtain ⟨tA, tC, t, rfl, tH, tW, tR⟩ := oStrs.arg Try.underlying22 (hval 2 22 _ rfl rfl) h2
  refine (groupPlaysL n lA lC l tA tC t _ _ lR tR tH).mono fun e W' ⟨he, bel⟩ => ?_
  subst he
  exact ⟨_, rfl, _, _, _, [], _, [], hW', trodAll_mk1 (shut_bool Try.underlying4 _), trodAll_below laidOut bel (by kernel_rfl) (fun x hx => hW'.lt x (by simpa using hx)) hAll, rfl, bel.frame _, fun h => by cases h⟩
theorem groupPlays_holds : Rows.GroupPlaysSaid :=
  OpenClaim.holds_of_wide 7 Try.f7 rfl rfl rfl rfl rfl rfl rfl ⟨rfl, rfl, rfl, rfl, rfl⟩ rfl rfl rfl rfl rfl (by kernel_rfl) Try.func7 (by kernel_rfl)
    (of_decide_eq_true (by kernel_rfl)) (by unfold Func.isWrapper; first | (rw [if_pos (by decide +kernel)]; kernel_rfl) | (rw [if_neg (by decide +kernel)]; exact ⟨rfl, rfl⟩))
    (fun os started H enc _ => groupPlays_lifted os started H enc)
#print axioms groupPlays_holds
end Go.Proofs.Ytljjiicjnoljbaa
