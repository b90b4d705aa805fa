/-
  The statement RecordTextsSaid and its card: where what it reads is of the bulk that the statement names, the law RecordTexts returns true, and the input reads as it did.
-/
import Derived.Test.YtljjiicjnoljbaaDoorCards
import Derived.Test.YtljjiicjnoljbaaDoorTie
import Derived.Test.YtljjiicjnoljbaaDoorRecordTextsL
import Derived.Test.YtljjiicjnoljbaaDoorCardK
import Derived.Test.YtljjiicjnoljbaaDoorErrs
import Derived.Deep.DeepWitnessRowRef
namespace Go.Proofs.YtljjiicjnoljbaaDoor.recordTexts
open Go.ChangeShapes Go.WideShapes Go.ChangeAt Go.RowKit Go.Proofs.WK
open Go.ChangeMaps (open_string)
set_option maxRecDepth 100000 in
theorem contract (H : Type) (enc : TypeId × Value → H) (W : World) (base : Nat) (args : Array Value) (ds gs : List (DataW H)) (before : List MemPlace)
    (hval : ∀ (j : Nat) t v, Tryd.f9.params[j]? = some t → args[j]? = some v → Value.okWide Tryd.prog W .any base t v)
    (hW : DataW.Whole enc Tryd.prog Tryd.f9.params.toList Rows.recordTextsSpec.vars false W args.toList ds gs before) (hL : laidMetH Tryd.prog Rows.recordTextsUptoRow.laid W) (hk : Rows.uptoSmall H (ds ++ gs) = true) (hsh : W.ShapedOpen Tryd.prog) :
    Calls Tryd.prog 9 args W fun e W' => ∃ v, e = .returned v ∧ Rows.recordTextsSpec.post enc Tryd.prog Tryd.f9 false true false false W args v W' := by
  have hW' := hW
  obtain ⟨p, q, hA0, hV, rfl, hfz, hnd⟩ := hW
  have hA : DataW.TrodAll enc Tryd.prog W 0 (fun _ => true) true Tryd.f9.params.toList args.toList ds p := hA0
  rw [Tryd.params9] at hA hval
  have hAll := hA
  obtain ⟨v0, vs0, d0, ds0, p0, q0, hargs, rfl, rfl, h0, r0⟩ := trodAll_cons hA
  obtain ⟨v1, vs1, d1, ds1, p1, q1, rfl, rfl, rfl, h1, r1⟩ := trodAll_cons r0
  obtain ⟨rfl, rfl, rfl⟩ := trodAll_nil r1
  obtain rfl : args = #[v0, v1] := by cases args; simp_all
  obtain ⟨rfl, rfl⟩ := trodVars_none hV
  obtain ⟨r, rCs, rfl, rW, rK⟩ := oRec.agg Tryd.underlying35 (hval 0 35 _ rfl rfl) h0
  obtain ⟨rv1, rv2, rfl, ⟨rA1, rc1, rfl, rl1, rf1⟩, ⟨rA2, rc2, rfl, rl2, rf2⟩⟩ := Rp.recK.1 rK
  obtain ⟨s, rfl, rfl, rfl, sW⟩ := open_string Tryd.underlying9 (hval 1 9 _ rfl rfl) h1
  have hpow : PowTab W := pow_of ((show laidMet Tryd.prog (_ :: _) W from hL).tail.tail)
  have herr : ErrCells W := ⟨syn_of ((show laidMet Tryd.prog (_ :: _) W from hL).tail.tail.tail.tail.tail), rng_of ((show laidMet Tryd.prog (_ :: _) W from hL).tail.tail.tail.tail)⟩
  have hsz : s.size < 4294967281 := by
    have h := of_decide_eq_true hk
    rw [List.append_nil] at h
    simp only [Rows.uptoBulkAll, Rows.uptoBulk] at h
    have e : s.data.toList.length = s.size := Array.length_toList
    omega
  refine (recordTextsL r rA1 rA2 rc1 rc2 s _ _ W (rec_wf rW) rf1 rf2 rl2 hsz (max_of hsh) hpow herr).mono fun e W' ⟨he, bel⟩ => ?_
  subst he
  exact ⟨_, rfl, _, _, _, [], _, [], hW', trodAll_mk1 (shut_bool Tryd.underlying4 _), trodAll_below laidOut bel (by kernel_rfl) (fun x hx => hW'.lt x (by simpa using hx)) hAll, rfl, bel.frame _, fun h => by cases h⟩
noncomputable def laidWorld (os : Os) : World :=
  { errWorld os with heap := ((((((((errWorld os).heap).modify 0 (fillObj ((flat1 Rows.laid_math_bits_deBruijn32tab).map (Value.int .u8)))).modify 1 (fillObj ((flat1 Rows.laid_math_bits_deBruijn64tab).map (Value.int .u8)))).modify 5 (fillObj ((flat1 Rows.laid_internal_strconv_uint64pow10).map (Value.int .u64)))).modify 7 (fillObj ((flat2 Rows.laid_unicode_utf8_acceptRanges).map (Value.int .u8)))).modify 6 (fillObj ((flat1 Rows.laid_unicode_utf8_first).map (Value.int .u8)))).modify 3 (fillObj [.iface 219 (.pointer (some ⟨lowE + 0, 0, none⟩))])).modify 4 (fillObj [.iface 219 (.pointer (some ⟨lowE + 1, 0, none⟩))]) }
def wit : Array Value := #[.agg #[.string ByteArray.empty, .int .i64 0, .slice none 0 0, .slice none 0 0], .string ByteArray.empty]
theorem laid_met (os : Os) : laidMet Tryd.prog Rows.recordTextsUptoRow.laid ((laidWorld os).forCall (fun _ _ => 0) ⟨#[], wit, []⟩).memory :=
  laidMet_of_run' 8 (by kernel_rfl) (by kernel_rfl)
theorem reads (os : Os) {H : Type} (enc : TypeId × Value → H) : ∃ places, DataW.whole enc Tryd.prog ((laidWorld os).forCall (fun _ _ => 0) ⟨#[], wit, []⟩).memory Tryd.f9.params.toList Rows.recordTextsSpec.vars false wit.toList 8 = some ([.agg [.lit (.string []), .lit (.int .i64 0), .nil, .nil], .lit (.string [])], [], places) :=
  ⟨[], by kernel_rfl⟩
set_option maxRecDepth 100000 in
theorem lifted (os : Os) (started : os.Started) (H : Type) (enc : TypeId × Value → H) (F : Stop.Interp) :
    ReturnsInHanded {} Tryd.checked os 9 .any ((Rows.OpenSpec.upto Rows.recordTextsSpec).preRow enc Tryd.prog Tryd.f9 Rows.recordTextsUptoRow.domain false Rows.recordTextsUptoRow.laid) (((Rows.OpenSpec.upto Rows.recordTextsSpec).at F).post enc Tryd.prog Tryd.f9 false true false false) := by
  obtain ⟨places, hx⟩ := reads os enc
  refine returnsInHanded_of_row (C := Tryd.checked) (s := Rows.OpenSpec.upto Rows.recordTextsSpec) own_ started (by kernel_rfl) Tryd.func9
    (witness_row_atRef (enc := enc) (C := Tryd.checked) false (laidWorld os) wit rfl (by kernel_rfl) (by kernel_rfl) (by kernel_rfl)
      (OpenSpec.preRow_of_cond 8 hx (by kernel_rfl) (fun k hk => by cases hk; kernel_rfl) (by kernel_rfl) (laid_met os))) ?_
  intro W base args ds gs before hval hW _ hcond _ hL hsh _
  exact contract H enc W base args ds gs before hval hW hL (hcond _ rfl) hsh
theorem said : Rows.RecordTextsUptoSaid :=
  OpenClaim.holds_of_cond 9 Tryd.f9 rfl rfl rfl rfl rfl rfl rfl ⟨rfl, rfl, rfl, rfl, rfl⟩ rfl rfl rfl rfl rfl (by kernel_rfl) Tryd.func9 (by kernel_rfl)
    (of_decide_eq_true (by kernel_rfl)) (by unfold Func.isWrapper; first | (rw [if_pos (by decide +kernel)]; kernel_rfl) | (rw [if_neg (by decide +kernel)]; exact ⟨rfl, rfl⟩))
    (fun os started H enc _ F => by rw [OpenClaim.pre_eq_preRow]; exact lifted os started H enc F)
theorem plain (f : FuncId) (fn : Func) (hf : Tryd.pinned.checked.prog.funcNamed "withy/wylaw.RecordTexts" = some f) (hfn : Tryd.pinned.checked.prog.funcs[f]? = some fn) :
    true = Tryd.pinned.checked.prog.looks [] ∧ ∀ (j : Nat) t, fn.params[j]? = some t → Tryd.pinned.checked.prog.wantsStandIn t = false := by
  obtain rfl : f = 9 := Option.some.inj ((show Tryd.prog.funcNamed "withy/wylaw.RecordTexts" = some 9 by kernel_rfl).symm.trans hf) |>.symm
  obtain rfl : fn = Tryd.f9 := (Option.some.inj (Tryd.func9.symm.trans hfn)).symm
  refine ⟨by kernel_rfl, fun j t ht => ?_⟩
  rw [Tryd.params9] at ht
  have hall : ∀ t ∈ [35, 9], Tryd.prog.wantsStandIn t = false := by
    intro t ht
    simp only [List.mem_cons, List.not_mem_nil, or_false] at ht
    rcases ht with rfl | rfl <;> kernel_rfl
  exact hall t (by have := Array.mem_of_getElem? ht; simpa using this)
theorem card : Rows.RecordTextsUptoCardSaid :=
  Claim7.holds_tied_plain_at .later [] _ _ _ _ said (fun _ h => by cases h) (by kernel_rfl) (fun _ h => by cases h) recordTextsUpto_row_tie rfl ⟨rfl, rfl⟩ (by kernel_rfl) rfl plain (by kernel_rfl)
#print axioms card
end Go.Proofs.YtljjiicjnoljbaaDoor.recordTexts
