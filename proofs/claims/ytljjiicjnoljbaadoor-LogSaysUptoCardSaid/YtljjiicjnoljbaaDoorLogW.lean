/-
  log.Write (P46).
-/
import Derived.Test.YtljjiicjnoljbaaDoorLogN
namespace Go.Proofs.WK
open Go.RowKit Rp
theorem rulesK_len {l : List Rul} (h : ∀ r ∈ l, rulErr r = 0) : ∀ k, k ≤ l.length → (rulesK l k).length ≤ 5 + 114 * k
  | 0, _ => by simp [rulesK]
  | k + 1, hk => by
    have h1 := rulesK_len h k (by omega)
    rw [rulesK_step (by omega), List.length_append]
    have h2 := nums_len _ (rul_nums (h l[k] (List.getElem_mem (by omega))))
    have h3 : (rulN l[k]).length = 5 := rfl
    have h4 : (rulL l[k]).length ≤ 114 := by
      unfold rulL
      rw [List.length_append]
      split
      · simp only [List.length_cons, List.length_nil]; omega
      · simp only [List.length_cons, List.length_nil]; omega
    omega
theorem plain_size {o : OpV} (h : logErr o = 0) (hw : NumsOk (whoN o)) : (plainS o).size ≤ 2285 := by
  have h1 := nums_len _ hw
  have h2 : (whoN o).length = 3 := rfl
  have h3 := recS_size o.r
  have e3 : (recS o.r).data.toList.length = (recS o.r).size := Array.length_toList
  have e4 : o.id.data.toList.length = o.id.size := Array.length_toList
  unfold plainS
  rw [bs_size]
  unfold plainL
  rcases log_ok h with ⟨hk, hr⟩ | ⟨hk, hr⟩ | ⟨hk, hc, hi⟩
  · rw [if_neg (by omega), if_neg (by omega)]
    obtain ⟨hl, hr⟩ := rules_of hr
    have := rulesK_len hr o.rules.length (Nat.le_refl _)
    unfold rulesK at this
    rw [List.take_length] at this
    omega
  · rw [if_pos hk]
    simp only [List.length_append, List.length_cons, List.length_nil]
    omega
  · rw [if_neg (by omega), if_pos hk]
    have h5 := (idOk_size hi).2
    have h6 := nums_len [o.r.cats] (fun n hn => by rw [List.mem_singleton] at hn; subst hn; omega)
    simp only [List.length_append, List.length_cons, List.length_nil] at h6 ⊢
    omega
theorem sumV_small (s : ByteArray) : 0 ≤ sumV s ∧ sumV s ≤ 65520 := by
  have : wsum s.data.toList s.size % 65521 < 65521 := Nat.mod_lt _ (by decide)
  unfold sumV
  omega
def logS (o : OpV) : ByteArray := if logErr o = 0 then lineS o else ⟨#[]⟩
set_option maxRecDepth 100000 in
set_option maxHeartbeats 4000000 in
theorem logWrite (o : OpV) (B1 B2 B3 : Option Addr) (e1 e2 e3 : Nat) (ok1 ok2 ok3 : Nat → Prop) (w : World) (hr : rulR.Row w ok1 B1 o.rules) (hf : fldR.Row w ok2 B2 o.r.fields) (hg : str.Row w ok3 B3 o.r.refs) (hwf : RecWf o.r) (hc3 : o.r.refs.length ≤ e3) (hwho : NumsOk (whoN o)) (ht : PowTab w) :
    Calls Tryd.prog 24 #[opVal o B1 e1 B2 e2 B3 e3] w fun e w' => e = .returned (.tuple #[.string (logS o), .int .i64 (logErr o)]) ∧ Below w.heap.size w w' := by
  have hal : Below w.heap.size w (w.alloc (.cells (opC o B1 e1 B2 e2 B3 e3).toArray 48)) := (Below.refl _ _).alloc (Nat.le_refl _) _
  have HX := Aside.mk (show Bk _ w.heap.size (opC o B1 e1 B2 e2 B3 e3) ∧ rulR.Row _ ok1 B1 o.rules ∧ fldR.Row _ ok2 B2 o.r.fields ∧ str.Row _ ok3 B3 o.r.refs ∧ PowTab _ ∧ Below w.heap.size w _ from ⟨Bk.made w (opC o B1 e1 B2 e2 B3 e3) 48, hr.below hal, hf.below hal, hg.below hal, ht.below hal, hal⟩)
  have HC3 := Aside.mk hc3
  have HWH := Aside.mk hwho
  have HWF := Aside.mk hwf
  have HC := Aside.mk (fun (W : World) (h1 : rulR.Row W ok1 B1 o.rules) (h2 : fldR.Row W ok2 B2 o.r.fields) (h3 : str.Row W ok3 B3 o.r.refs) => logCheck o B1 B2 B3 e1 e2 e3 ok1 ok2 ok3 W h1 h2 h3 hwf)
  have HPL := Aside.mk (fun (W : World) (h1 : rulR.Row W ok1 B1 o.rules) (h2 : fldR.Row W ok2 B2 o.r.fields) (h3 : str.Row W ok3 B3 o.r.refs) (he : logErr o = 0) (ht : PowTab W) => logPlain o B1 B2 B3 e1 e2 e3 ok1 ok2 ok3 W h1 h2 h3 hc3 hwho he ht)
  clear hr hf hg hal hc3 hwho ht hwf
  unfold opVal at *
  have hways : logErr o = 0 ∨ logErr o ≠ 0 := by omega
  go_enter Tryd.func24, Tryd.ntmps24
  go_upto_region 1 with fail
  generalize hw0 : w.alloc (.cells #[.int .i64 o.kind, .int .i64 o.who.role, .int .i64 o.who.why, .int .i64 o.who.time, .slice B1 o.rules.length e1, .string o.r.id, .int .i64 o.r.cats, .slice B2 o.r.fields.length e2, .slice B3 o.r.refs.length e3, .string o.id, .string o.f.key, .string o.f.val] 48) = w0
  have hx0 : Bk w0 w.heap.size (opC o B1 e1 B2 e2 B3 e3) ∧ rulR.Row w0 ok1 B1 o.rules ∧ fldR.Row w0 ok2 B2 o.r.fields ∧ str.Row w0 ok3 B3 o.r.refs ∧ PowTab w0 ∧ Below w.heap.size w w0 := by
    rw [← hw0]
    exact HX.out
  have HX := Aside.mk hx0
  clear hw0 hx0
  have q0 := opC_rec HX.out.1
  go_wp2_with fail
  refine (HC.out _ HX.out.2.1 HX.out.2.2.1 HX.out.2.2.2.1).mono ?_
  rintro e w1 ⟨rfl, hb⟩
  have HX1 := Aside.mk (show Bk w1 w.heap.size (opC o B1 e1 B2 e2 B3 e3) ∧ rulR.Row w1 ok1 B1 o.rules ∧ fldR.Row w1 ok2 B2 o.r.fields ∧ str.Row w1 ok3 B3 o.r.refs ∧ PowTab w1 ∧ Below w.heap.size w w1 from ⟨HX.out.1.below hb, HX.out.2.1.below hb, HX.out.2.2.1.below hb, HX.out.2.2.2.1.below hb, HX.out.2.2.2.2.1.below hb, below_step HX.out.2.2.2.2.2 hb⟩)
  clear hb q0 HX
  have q1 := opC_rec HX1.out.1
  rcases hways with h0 | h0
  · have HE := Aside.mk h0
    have HS := Aside.mk (show logS o = lineS o from if_pos h0)
    have hpz := plain_size h0 HWH.out
    rw [h0]
    clear h0
    go_wp2_with fail
    refine (HPL.out _ HX1.out.2.1 HX1.out.2.2.1 HX1.out.2.2.2.1 HE.out HX1.out.2.2.2.2.1).mono ?_
    rintro e w2 ⟨rfl, hb⟩
    have HB2 := Aside.mk (below_step HX1.out.2.2.2.2.2 hb)
    have HT2 := Aside.mk (HX1.out.2.2.2.2.1.below hb)
    clear hb q1
    have HLN := Aside.mk (show lineS o = plainS o ++ ⟨#[32, 61]⟩ ++ decS (sumV (plainS o)) ++ ⟨#[10]⟩ from rfl)
    generalize plainS o = p at *
    have HSM := Aside.mk (logSum p w2 (by omega))
    obtain ⟨hs0, hs1⟩ := sumV_small p
    have hds := decS_len (n := sumV p) (by omega) (by omega)
    have HIT := Aside.mk (itoaC (sumV p) (by omega) (by omega) w2 HT2.out)
    generalize sumV p = m at *
    generalize decS m = ds at *
    go_wp2_with fail
    refine HSM.out.mono ?_
    rintro e w3 ⟨rfl, rfl⟩
    go_wp2_with fail
    refine HIT.out.mono ?_
    rintro e w3 ⟨rfl, hb⟩
    have HB3 := Aside.mk (below_step HB2.out hb)
    clear hb
    go_wp2_with fail
    go_ret2
    exact ⟨by rw [HS.out, HLN.out, HE.out]; rfl, HB3.out⟩
  · have HS := Aside.mk (show logS o = ⟨#[]⟩ from if_neg h0)
    have g0 : (logErr o != 0) = true := by simp [h0]
    clear h0
    go_wp2_with fail
    go_ret2
    exact ⟨by rw [HS.out]; rfl, HX1.out.2.2.2.2.2⟩
end Go.Proofs.WK
