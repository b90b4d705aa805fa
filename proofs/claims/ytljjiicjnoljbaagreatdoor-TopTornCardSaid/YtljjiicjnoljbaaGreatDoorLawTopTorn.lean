/-
  The statement TopTornSaid and its card: whatever the input, the law TopTorn returns true, and the input reads as it did; the world's shape gives the one variable that no row lays.
-/
import Derived.Test.YtljjiicjnoljbaaGreatDoorCards
import Derived.Test.YtljjiicjnoljbaaGreatDoorTie
import Derived.Test.YtljjiicjnoljbaaGreatDoorTornL
import Derived.Test.YtljjiicjnoljbaaGreatDoorCardK
import Derived.Test.YtljjiicjnoljbaaGreatDoorOpe0
import Derived.Test.YtljjiicjnoljbaaGreatDoorErrs
import Derived.Deep.DeepWitnessRowRef
namespace Go.Proofs.YtljjiicjnoljbaaGreatDoor.topTorn
open Go.ChangeShapes Go.WideShapes Go.ChangeAt Go.RowKit Go.Proofs.WK
open Go.ChangeMaps (open_string)
set_option maxRecDepth 100000 in
theorem contract (H : Type) (enc : TypeId × Value → H) (W : World) (base : Nat) (args : Array Value) (ds gs : List (DataW H)) (before : List MemPlace)
    (hval : ∀ (j : Nat) t v, Tryz.f3.params[j]? = some t → args[j]? = some v → Value.okWide Tryz.prog W .any base t v)
    (hW : DataW.Whole enc Tryz.prog Tryz.f3.params.toList Rows.topTornSpec.vars false W args.toList ds gs before) (hL : laidMetH Tryz.prog Rows.topTornRow.laid W) (hsh : W.ShapedOpen Tryz.prog) :
    Calls Tryz.prog 3 args W fun e W' => ∃ v, e = .returned v ∧ Rows.topTornSpec.post enc Tryz.prog Tryz.f3 false true false false W args v W' := by
  have hW' := hW
  obtain ⟨p, q, hA0, hV, rfl, hfz, hnd⟩ := hW
  have hA : DataW.TrodAll enc Tryz.prog W 0 (fun _ => true) true Tryz.f3.params.toList args.toList ds p := hA0
  rw [Tryz.params3] at hA hval
  have hAll := hA
  obtain ⟨v0, vs0, d0, ds0, p0, q0, hargs, rfl, rfl, h0, r0⟩ := trodAll_cons hA
  obtain ⟨v1, vs1, d1, ds1, p1, q1, rfl, rfl, rfl, h1, r1⟩ := trodAll_cons r0
  obtain ⟨rfl, rfl, rfl⟩ := trodAll_nil r1
  obtain rfl : args = #[v0, v1] := by cases args; simp_all
  obtain ⟨rfl, rfl⟩ := trodVars_none hV
  obtain ⟨lA, lC, l, rfl, lH, lW, lR⟩ := oIntss.arg Tryz.underlying22 (hval 0 22 _ rfl rfl) h0
  obtain ⟨cut, rfl, _, _, cutW⟩ := open_int Tryz.underlying3 (hval 1 3 _ rfl rfl) h1
  have cut64 : I64 cut := by simpa [I64, Lit.wf, IntKind.min, IntKind.max, IntKind.signed, IntKind.bits] using cutW
  have hpow : PowTab W := pow_of ((show laidMet Tryz.prog (_ :: _) W from hL).tail.tail)
  have herr : ErrCells W := ⟨syn_of ((show laidMet Tryz.prog (_ :: _) W from hL).tail.tail.tail.tail.tail), rng_of ((show laidMet Tryz.prog (_ :: _) W from hL).tail.tail.tail.tail)⟩

  refine (topTornL lA lC l cut _ W lR lH ⟨max_of hsh, hpow, herr⟩).mono fun e W' ⟨he, bel⟩ => ?_
  subst he
  exact ⟨_, rfl, _, _, _, [], _, [], hW', trodAll_mk1 (shut_bool Tryz.underlying4 _), trodAll_below laidOut bel (by kernel_rfl) (fun x hx => hW'.lt x (by simpa using hx)) hAll, rfl, bel.frame _, fun h => by cases h⟩
noncomputable def laidWorld (os : Os) : World :=
  { errWorld os with heap := ((((((((errWorld os).heap).modify 6 (fillObj ((flat1 Rows.laid_math_bits_deBruijn32tab).map (Value.int .u8)))).modify 7 (fillObj ((flat1 Rows.laid_math_bits_deBruijn64tab).map (Value.int .u8)))).modify 3 (fillObj ((flat1 Rows.laid_internal_strconv_uint64pow10).map (Value.int .u64)))).modify 5 (fillObj ((flat2 Rows.laid_unicode_utf8_acceptRanges).map (Value.int .u8)))).modify 4 (fillObj ((flat1 Rows.laid_unicode_utf8_first).map (Value.int .u8)))).modify 1 (fillObj [.iface 337 (.pointer (some ⟨lowE + 0, 0, none⟩))])).modify 2 (fillObj [.iface 337 (.pointer (some ⟨lowE + 1, 0, none⟩))]) }
def wit : Array Value := #[.slice none 0 0, .int .i64 0]
theorem laid_met (os : Os) : laidMet Tryz.prog Rows.topTornRow.laid ((laidWorld os).forCall (fun _ _ => 0) ⟨#[], wit, []⟩).memory :=
  laidMet_of_run' 8 (by kernel_rfl) (by kernel_rfl)
theorem reads (os : Os) {H : Type} (enc : TypeId × Value → H) : ∃ places, DataW.whole enc Tryz.prog ((laidWorld os).forCall (fun _ _ => 0) ⟨#[], wit, []⟩).memory Tryz.f3.params.toList Rows.topTornSpec.vars false wit.toList 8 = some ([.nil, .lit (.int .i64 0)], [], places) :=
  ⟨[], by kernel_rfl⟩
set_option maxRecDepth 100000 in
theorem lifted (os : Os) (started : os.Started) (H : Type) (enc : TypeId × Value → H) (F : Stop.Interp) :
    ReturnsInHanded {} Tryz.checked os 3 .any ((OpenSpec.ofChange Rows.topTornSpec).preRow enc Tryz.prog Tryz.f3 Rows.topTornRow.domain false Rows.topTornRow.laid) (((OpenSpec.ofChange Rows.topTornSpec).at F).post enc Tryz.prog Tryz.f3 false true false false) := by
  obtain ⟨places, hx⟩ := reads os enc
  refine returnsInHanded_of_row (C := Tryz.checked) (s := OpenSpec.ofChange Rows.topTornSpec) own_ started (by kernel_rfl) Tryz.func3
    (witness_row_atRef (enc := enc) (C := Tryz.checked) false (laidWorld os) wit rfl (by kernel_rfl) (by kernel_rfl) (by kernel_rfl)
      (OpenSpec.preRow_of_cond 8 hx (by kernel_rfl) (fun k hk => by cases hk) (by kernel_rfl) (laid_met os))) ?_
  intro W base args ds gs before hval hW _ _ _ hL hsh _
  exact contract H enc W base args ds gs before hval hW hL hsh
theorem said : Rows.TopTornSaid :=
  OpenClaim.holds_of_cond 3 Tryz.f3 rfl rfl rfl rfl rfl rfl rfl ⟨rfl, rfl, rfl, rfl, rfl⟩ rfl rfl rfl rfl rfl (by kernel_rfl) Tryz.func3 (by kernel_rfl)
    (of_decide_eq_true (by kernel_rfl)) (by unfold Func.isWrapper; first | (rw [if_pos (by decide +kernel)]; kernel_rfl) | (rw [if_neg (by decide +kernel)]; exact ⟨rfl, rfl⟩))
    (fun os started H enc _ F => by rw [OpenClaim.pre_eq_preRow]; exact lifted os started H enc F)
theorem plain (f : FuncId) (fn : Func) (hf : Tryz.pinned.checked.prog.funcNamed "withy/wytop.TopTorn" = some f) (hfn : Tryz.pinned.checked.prog.funcs[f]? = some fn) :
    true = Tryz.pinned.checked.prog.looks [] ∧ ∀ (j : Nat) t, fn.params[j]? = some t → Tryz.pinned.checked.prog.wantsStandIn t = false := by
  obtain rfl : f = 3 := Option.some.inj ((show Tryz.prog.funcNamed "withy/wytop.TopTorn" = some 3 by kernel_rfl).symm.trans hf) |>.symm
  obtain rfl : fn = Tryz.f3 := (Option.some.inj (Tryz.func3.symm.trans hfn)).symm
  refine ⟨by kernel_rfl, fun j t ht => ?_⟩
  rw [Tryz.params3] at ht
  have hall : ∀ t ∈ [22, 3], Tryz.prog.wantsStandIn t = false := by
    intro t ht
    simp only [List.mem_cons, List.not_mem_nil, or_false] at ht
    rcases ht with rfl | rfl <;> kernel_rfl
  exact hall t (by have := Array.mem_of_getElem? ht; simpa using this)
theorem card : Rows.TopTornCardSaid :=
  Claim7.holds_tied_plain_at .later [] _ _ _ _ said (fun _ h => by cases h) (by kernel_rfl) (fun _ h => by cases h) topTorn_row_tie rfl ⟨rfl, rfl⟩ (by kernel_rfl) rfl plain (by kernel_rfl)
#print axioms card
end Go.Proofs.YtljjiicjnoljbaaGreatDoor.topTorn
