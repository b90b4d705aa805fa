/-
  The statement LogSaysSaid and its card: where what it reads is of the bulk that the statement names, the law LogSays returns true, and the input reads as it did.
-/
import Derived.Test.YtljjiicjnoljbaaDoorCards
import Derived.Test.YtljjiicjnoljbaaDoorTie
import Derived.Test.YtljjiicjnoljbaaDoorLogSaysL
import Derived.Test.YtljjiicjnoljbaaDoorCardK
import Derived.Test.YtljjiicjnoljbaaDoorOpenO
import Derived.Test.YtljjiicjnoljbaaDoorErrs
namespace Go.Proofs.YtljjiicjnoljbaaDoor.logSays
open Go.ChangeShapes Go.WideShapes Go.ChangeAt Go.RowKit Go.Proofs.WK
open Go.ChangeMaps (open_string)
set_option maxRecDepth 100000 in
theorem contract (H : Type) (enc : TypeId × Value → H) (W : World) (base : Nat) (args : Array Value) (ds gs : List (DataW H)) (before : List MemPlace)
    (hval : ∀ (j : Nat) t v, Tryd.f5.params[j]? = some t → args[j]? = some v → Value.okWide Tryd.prog W .any base t v)
    (hW : DataW.Whole enc Tryd.prog Tryd.f5.params.toList Rows.logSaysSpec.vars false W args.toList ds gs before) (hL : laidMetH Tryd.prog Rows.logSaysUptoRow.laid W) (hk : Rows.uptoSmall H (ds ++ gs) = true) (hsh : W.ShapedOpen Tryd.prog) :
    Calls Tryd.prog 5 args W fun e W' => ∃ v, e = .returned v ∧ Rows.logSaysSpec.post enc Tryd.prog Tryd.f5 false true false false W args v W' := by
  have hW' := hW
  obtain ⟨p, q, hA0, hV, rfl, hfz, hnd⟩ := hW
  have hA : DataW.TrodAll enc Tryd.prog W 0 (fun _ => true) true Tryd.f5.params.toList args.toList ds p := hA0
  rw [Tryd.params5] at hA hval
  have hAll := hA
  obtain ⟨v0, vs0, d0, ds0, p0, q0, hargs, rfl, rfl, h0, r0⟩ := trodAll_cons hA
  obtain ⟨v1, vs1, d1, ds1, p1, q1, rfl, rfl, rfl, h1, r1⟩ := trodAll_cons r0
  obtain ⟨rfl, rfl, rfl⟩ := trodAll_nil r1
  obtain rfl : args = #[v0, v1] := by cases args; simp_all
  obtain ⟨rfl, rfl⟩ := trodVars_none hV
  obtain ⟨o, oCs, rfl, oW, oK⟩ := oOp.agg Tryd.underlying48 (hval 0 48 _ rfl rfl) h0
  obtain ⟨ov1, ov2, ov3, rfl, ⟨oA1, oc1, rfl, ol1, of1⟩, ⟨oA2, oc2, rfl, ol2, of2⟩, ⟨oA3, oc3, rfl, ol3, of3⟩⟩ := oK
  obtain ⟨s, rfl, rfl, rfl, sW⟩ := open_string Tryd.underlying9 (hval 1 9 _ rfl rfl) h1
  have hpow : PowTab W := pow_of ((show laidMet Tryd.prog (_ :: _) W from hL).tail.tail)
  have hsz : s.size < 4294967281 := by
    have h := of_decide_eq_true hk
    rw [List.append_nil] at h
    simp only [Rows.uptoBulkAll, Rows.uptoBulk] at h
    have e : s.data.toList.length = s.size := Array.length_toList
    omega
  refine (logSaysL o oA1 oA2 oA3 oc1 oc2 oc3 s _ _ _ W of1 of2 of3 ol3 (rec_wf oW.2.2.2.1) (nums3 oW.2.1) hpow hsz).mono fun e W' ⟨he, bel⟩ => ?_
  subst he
  exact ⟨_, rfl, _, _, _, [], _, [], hW', trodAll_mk1 (shut_bool Tryd.underlying4 _), trodAll_below laidOut bel (by kernel_rfl) (fun x hx => hW'.lt x (by simpa using hx)) hAll, rfl, bel.frame _, fun h => by cases h⟩
noncomputable def laidWorld (os : Os) : World :=
  { World.holding Tryd.prog os ⟨#[], #[], []⟩ with heap := ((((((World.holding Tryd.prog os ⟨#[], #[], []⟩).heap).modify 0 (fillObj ((flat1 Rows.laid_math_bits_deBruijn32tab).map (Value.int .u8)))).modify 1 (fillObj ((flat1 Rows.laid_math_bits_deBruijn64tab).map (Value.int .u8)))).modify 5 (fillObj ((flat1 Rows.laid_internal_strconv_uint64pow10).map (Value.int .u64)))).modify 7 (fillObj ((flat2 Rows.laid_unicode_utf8_acceptRanges).map (Value.int .u8)))).modify 6 (fillObj ((flat1 Rows.laid_unicode_utf8_first).map (Value.int .u8))) }
def wit : Array Value := #[.agg #[.int .i64 0, .int .i64 0, .int .i64 0, .int .i64 0, .slice none 0 0, .string ByteArray.empty, .int .i64 0, .slice none 0 0, .slice none 0 0, .string ByteArray.empty, .string ByteArray.empty, .string ByteArray.empty], .string ByteArray.empty]
theorem laid_met (os : Os) : laidMet Tryd.prog Rows.logSaysUptoRow.laid ((laidWorld os).forCall (fun _ _ => 0) ⟨#[], wit, []⟩).memory :=
  laidMet_of_run' 8 (by kernel_rfl) (by kernel_rfl)
theorem reads (os : Os) {H : Type} (enc : TypeId × Value → H) : ∃ places, DataW.whole enc Tryd.prog ((laidWorld os).forCall (fun _ _ => 0) ⟨#[], wit, []⟩).memory Tryd.f5.params.toList Rows.logSaysSpec.vars false wit.toList 8 = some ([.agg [.lit (.int .i64 0), .agg [.lit (.int .i64 0), .lit (.int .i64 0), .lit (.int .i64 0)], .nil, .agg [.lit (.string []), .lit (.int .i64 0), .nil, .nil], .lit (.string []), .agg [.lit (.string []), .lit (.string [])]], .lit (.string [])], [], places) :=
  ⟨[], by kernel_rfl⟩
set_option maxRecDepth 100000 in
theorem lifted (os : Os) (started : os.Started) (H : Type) (enc : TypeId × Value → H) (F : Stop.Interp) :
    ReturnsInHanded {} Tryd.checked os 5 .any ((Rows.OpenSpec.upto Rows.logSaysSpec).preRow enc Tryd.prog Tryd.f5 Rows.logSaysUptoRow.domain false Rows.logSaysUptoRow.laid) (((Rows.OpenSpec.upto Rows.logSaysSpec).at F).post enc Tryd.prog Tryd.f5 false true false false) := by
  obtain ⟨places, hx⟩ := reads os enc
  refine returnsInHanded_of_row (C := Tryd.checked) (s := Rows.OpenSpec.upto Rows.logSaysSpec) own_ started (by kernel_rfl) Tryd.func5
    (witness_row_at (enc := enc) (C := Tryd.checked) false (laidWorld os) wit rfl (by kernel_rfl) (by kernel_rfl) (by kernel_rfl)
      (OpenSpec.preRow_of_cond 8 hx (by kernel_rfl) (fun k hk => by cases hk; kernel_rfl) (by kernel_rfl) (laid_met os))) ?_
  intro W base args ds gs before hval hW _ hcond _ hL hsh _
  exact contract H enc W base args ds gs before hval hW hL (hcond _ rfl) hsh
theorem said : Rows.LogSaysUptoSaid :=
  OpenClaim.holds_of_cond 5 Tryd.f5 rfl rfl rfl rfl rfl rfl rfl ⟨rfl, rfl, rfl, rfl, rfl⟩ rfl rfl rfl rfl rfl (by kernel_rfl) Tryd.func5 (by kernel_rfl)
    (of_decide_eq_true (by kernel_rfl)) (by unfold Func.isWrapper; first | (rw [if_pos (by decide +kernel)]; kernel_rfl) | (rw [if_neg (by decide +kernel)]; exact ⟨rfl, rfl⟩))
    (fun os started H enc _ F => by rw [OpenClaim.pre_eq_preRow]; exact lifted os started H enc F)
theorem plain (f : FuncId) (fn : Func) (hf : Tryd.pinned.checked.prog.funcNamed "withy/wylaw.LogSays" = some f) (hfn : Tryd.pinned.checked.prog.funcs[f]? = some fn) :
    true = Tryd.pinned.checked.prog.looks [] ∧ ∀ (j : Nat) t, fn.params[j]? = some t → Tryd.pinned.checked.prog.wantsStandIn t = false := by
  obtain rfl : f = 5 := Option.some.inj ((show Tryd.prog.funcNamed "withy/wylaw.LogSays" = some 5 by kernel_rfl).symm.trans hf) |>.symm
  obtain rfl : fn = Tryd.f5 := (Option.some.inj (Tryd.func5.symm.trans hfn)).symm
  refine ⟨by kernel_rfl, fun j t ht => ?_⟩
  rw [Tryd.params5] at ht
  have hall : ∀ t ∈ [48, 9], Tryd.prog.wantsStandIn t = false := by
    intro t ht
    simp only [List.mem_cons, List.not_mem_nil, or_false] at ht
    rcases ht with rfl | rfl <;> kernel_rfl
  exact hall t (by have := Array.mem_of_getElem? ht; simpa using this)
theorem card : Rows.LogSaysUptoCardSaid :=
  Claim7.holds_tied_plain_at .later [] _ _ _ _ said (fun _ h => by cases h) (by kernel_rfl) (fun _ h => by cases h) logSaysUpto_row_tie rfl ⟨rfl, rfl⟩ (by kernel_rfl) rfl plain (by kernel_rfl)
#print axioms card
end Go.Proofs.YtljjiicjnoljbaaDoor.logSays
