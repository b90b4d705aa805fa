/-
  The statement LogReadsSaid and its card: where what it reads is of the bulk that the statement names, the law LogReads returns true, and the input reads as it did.
-/
import Derived.Test.YtljjiicjnoljbaaGreatDoorCards
import Derived.Test.YtljjiicjnoljbaaGreatDoorTie
import Derived.Test.YtljjiicjnoljbaaGreatDoorLogReadsL
import Derived.Test.YtljjiicjnoljbaaGreatDoorCardK
import Derived.Test.YtljjiicjnoljbaaGreatDoorOpe0
import Derived.Test.YtljjiicjnoljbaaGreatDoorErrs
import Derived.Deep.DeepWitnessRowRef
namespace Go.Proofs.YtljjiicjnoljbaaGreatDoor.logReads
open Go.ChangeShapes Go.WideShapes Go.ChangeAt Go.RowKit Go.Proofs.WK
open Go.ChangeMaps (open_string)
set_option maxRecDepth 100000 in
theorem contract (H : Type) (enc : TypeId × Value → H) (W : World) (base : Nat) (args : Array Value) (ds gs : List (DataW H)) (before : List MemPlace)
    (hval : ∀ (j : Nat) t v, Tryz.f7.params[j]? = some t → args[j]? = some v → Value.okWide Tryz.prog W .any base t v)
    (hW : DataW.Whole enc Tryz.prog Tryz.f7.params.toList Rows.logReadsSpec.vars false W args.toList ds gs before) (hL : laidMetH Tryz.prog Rows.logReadsUptoRow.laid W) (hk : Rows.uptoSmall H (ds ++ gs) = true) (hsh : W.ShapedOpen Tryz.prog) :
    Calls Tryz.prog 7 args W fun e W' => ∃ v, e = .returned v ∧ Rows.logReadsSpec.post enc Tryz.prog Tryz.f7 false true false false W args v W' := by
  have hW' := hW
  obtain ⟨p, q, hA0, hV, rfl, hfz, hnd⟩ := hW
  have hA : DataW.TrodAll enc Tryz.prog W 0 (fun _ => true) true Tryz.f7.params.toList args.toList ds p := hA0
  rw [Tryz.params7] at hA hval
  have hAll := hA
  obtain ⟨v0, vs0, d0, ds0, p0, q0, hargs, rfl, rfl, h0, r0⟩ := trodAll_cons hA
  obtain ⟨rfl, rfl, rfl⟩ := trodAll_nil r0
  obtain rfl : args = #[v0] := by cases args; simp_all
  obtain ⟨rfl, rfl⟩ := trodVars_none hV
  obtain ⟨s, rfl, rfl, rfl, sW⟩ := open_string Tryz.underlying9 (hval 0 9 _ rfl rfl) h0
  have hpow : PowTab W := pow_of ((show laidMet Tryz.prog (_ :: _) W from hL).tail.tail)
  have herr : ErrCells W := ⟨syn_of ((show laidMet Tryz.prog (_ :: _) W from hL).tail.tail.tail.tail.tail), rng_of ((show laidMet Tryz.prog (_ :: _) W from hL).tail.tail.tail.tail)⟩
  have hsz : s.size < 4294967281 := by
    have h := of_decide_eq_true hk
    rw [List.append_nil] at h
    simp only [Rows.uptoBulkAll, Rows.uptoBulk] at h
    have e : s.data.toList.length = s.size := Array.length_toList
    omega
  refine (logReadsL s W hsz ⟨max_of hsh, hpow, herr⟩).mono fun e W' ⟨he, bel⟩ => ?_
  subst he
  exact ⟨_, rfl, _, _, _, [], _, [], hW', trodAll_mk1 (shut_bool Tryz.underlying4 _), trodAll_below laidOut bel (by kernel_rfl) (fun x hx => by simp at hx) hAll, rfl, bel.frame _, fun h => by cases h⟩
noncomputable def laidWorld (os : Os) : World :=
  { errWorld os with heap := ((((((((errWorld os).heap).modify 6 (fillObj ((flat1 Rows.laid_math_bits_deBruijn32tab).map (Value.int .u8)))).modify 7 (fillObj ((flat1 Rows.laid_math_bits_deBruijn64tab).map (Value.int .u8)))).modify 3 (fillObj ((flat1 Rows.laid_internal_strconv_uint64pow10).map (Value.int .u64)))).modify 5 (fillObj ((flat2 Rows.laid_unicode_utf8_acceptRanges).map (Value.int .u8)))).modify 4 (fillObj ((flat1 Rows.laid_unicode_utf8_first).map (Value.int .u8)))).modify 1 (fillObj [.iface 337 (.pointer (some ⟨lowE + 0, 0, none⟩))])).modify 2 (fillObj [.iface 337 (.pointer (some ⟨lowE + 1, 0, none⟩))]) }
def wit : Array Value := #[.string ByteArray.empty]
theorem laid_met (os : Os) : laidMet Tryz.prog Rows.logReadsUptoRow.laid ((laidWorld os).forCall (fun _ _ => 0) ⟨#[], wit, []⟩).memory :=
  laidMet_of_run' 8 (by kernel_rfl) (by kernel_rfl)
theorem reads (os : Os) {H : Type} (enc : TypeId × Value → H) : ∃ places, DataW.whole enc Tryz.prog ((laidWorld os).forCall (fun _ _ => 0) ⟨#[], wit, []⟩).memory Tryz.f7.params.toList Rows.logReadsSpec.vars false wit.toList 8 = some ([.lit (.string [])], [], places) :=
  ⟨[], by kernel_rfl⟩
set_option maxRecDepth 100000 in
theorem lifted (os : Os) (started : os.Started) (H : Type) (enc : TypeId × Value → H) (F : Stop.Interp) :
    ReturnsInHanded {} Tryz.checked os 7 .any ((Rows.OpenSpec.upto Rows.logReadsSpec).preRow enc Tryz.prog Tryz.f7 Rows.logReadsUptoRow.domain false Rows.logReadsUptoRow.laid) (((Rows.OpenSpec.upto Rows.logReadsSpec).at F).post enc Tryz.prog Tryz.f7 false true false false) := by
  obtain ⟨places, hx⟩ := reads os enc
  refine returnsInHanded_of_row (C := Tryz.checked) (s := Rows.OpenSpec.upto Rows.logReadsSpec) own_ started (by kernel_rfl) Tryz.func7
    (witness_row_atRef (enc := enc) (C := Tryz.checked) false (laidWorld os) wit rfl (by kernel_rfl) (by kernel_rfl) (by kernel_rfl)
      (OpenSpec.preRow_of_cond 8 hx (by kernel_rfl) (fun k hk => by cases hk; kernel_rfl) (by kernel_rfl) (laid_met os))) ?_
  intro W base args ds gs before hval hW _ hcond _ hL hsh _
  exact contract H enc W base args ds gs before hval hW hL (hcond _ rfl) hsh
theorem said : Rows.LogReadsUptoSaid :=
  OpenClaim.holds_of_cond 7 Tryz.f7 rfl rfl rfl rfl rfl rfl rfl ⟨rfl, rfl, rfl, rfl, rfl⟩ rfl rfl rfl rfl rfl (by kernel_rfl) Tryz.func7 (by kernel_rfl)
    (of_decide_eq_true (by kernel_rfl)) (by unfold Func.isWrapper; first | (rw [if_pos (by decide +kernel)]; kernel_rfl) | (rw [if_neg (by decide +kernel)]; exact ⟨rfl, rfl⟩))
    (fun os started H enc _ F => by rw [OpenClaim.pre_eq_preRow]; exact lifted os started H enc F)
theorem plain (f : FuncId) (fn : Func) (hf : Tryz.pinned.checked.prog.funcNamed "withy/wylaw.LogReads" = some f) (hfn : Tryz.pinned.checked.prog.funcs[f]? = some fn) :
    true = Tryz.pinned.checked.prog.looks [] ∧ ∀ (j : Nat) t, fn.params[j]? = some t → Tryz.pinned.checked.prog.wantsStandIn t = false := by
  obtain rfl : f = 7 := Option.some.inj ((show Tryz.prog.funcNamed "withy/wylaw.LogReads" = some 7 by kernel_rfl).symm.trans hf) |>.symm
  obtain rfl : fn = Tryz.f7 := (Option.some.inj (Tryz.func7.symm.trans hfn)).symm
  refine ⟨by kernel_rfl, fun j t ht => ?_⟩
  rw [Tryz.params7] at ht
  have hall : ∀ t ∈ [9], Tryz.prog.wantsStandIn t = false := by
    intro t ht
    simp only [List.mem_cons, List.not_mem_nil, or_false] at ht
    rcases ht with rfl <;> kernel_rfl
  exact hall t (by have := Array.mem_of_getElem? ht; simpa using this)
theorem card : Rows.LogReadsUptoCardSaid :=
  Claim7.holds_tied_plain_at .later [] _ _ _ _ said (fun _ h => by cases h) (by kernel_rfl) (fun _ h => by cases h) logReadsUpto_row_tie rfl ⟨rfl, rfl⟩ (by kernel_rfl) rfl plain (by kernel_rfl)
#print axioms card
end Go.Proofs.YtljjiicjnoljbaaGreatDoor.logReads
