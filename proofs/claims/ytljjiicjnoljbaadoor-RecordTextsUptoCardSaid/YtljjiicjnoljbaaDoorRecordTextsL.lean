/-
  The law RecordTexts.
-/
import Derived.Test.YtljjiicjnoljbaaDoorRefRdW
import Derived.Test.YtljjiicjnoljbaaDoorRecW
import Derived.Test.YtljjiicjnoljbaaDoorSame
namespace Go.Proofs.WK
open Go.RowKit Rp
def recA : Rec := ⟨⟨#[97]⟩, 0, [], []⟩
theorem recA_ok : recErr recA = 0 := by decide +kernel
theorem recA_text : textV recA = ⟨#[97, 59, 48, 59, 59]⟩ := by decide +kernel
theorem Rp.Sl.rw {α : Type} {d : Rp α} {w : World} {ok : Nat → Prop} {A : Option Addr} {n c : Nat} {xs : List α} (h : d.Sl w ok (.slice A n c) xs) : d.Row w ok A xs := by
  obtain ⟨A', c', e, _, hr⟩ := h
  injection e with e
  subst e
  exact hr
set_option maxRecDepth 100000 in
set_option maxHeartbeats 4000000 in
theorem recordTextsL (r : Rec) (A1 A2 : Option Addr) (c1 c2 : Nat) (s : ByteArray) (ok ok' : Nat → Prop) (w : World) (hwf : RecWf r) (hf : fldR.Row w ok A1 r.fields) (hg : str.Row w ok' A2 r.refs) (hc2 : r.refs.length ≤ c2) (hs : s.size < 4294967281) (hm : MaxCell w) (hp : PowTab w) (he : ErrCells w) :
    Calls Tryd.prog 9 #[.agg #[.string r.id, .int .i64 r.cats, .slice A1 r.fields.length c1, .slice A2 r.refs.length c2], .string s] w fun e w' => e = .returned (.bool true) ∧ Below w.heap.size w w' := by
  have hb1 : Below w.heap.size w (w.alloc (.cells (recC r A1 A2 c1 c2).toArray 35)) := (Below.refl _ _).alloc (Nat.le_refl _) _
  have HF := Aside.mk (show fldR.Row _ ok A1 r.fields ∧ str.Row _ ok' A2 r.refs ∧ Bk _ w.heap.size (recC r A1 A2 c1 c2) from ⟨hf.below hb1, hg.below hb1, Bk.made w (recC r A1 A2 c1 c2) 35⟩)
  have HL := Aside.mk (show MaxCell w ∧ PowTab w ∧ ErrCells w from ⟨hm, hp, he⟩)
  have HB := Aside.mk hb1
  have HZ := Aside.mk hs
  have HWF := Aside.mk hwf
  have HC2 := Aside.mk hc2
  have q0 := HF.out.2.2.four
  clear hf hg hm hp he hb1 hs hwf hc2
  go_enter Tryd.func9, Tryd.ntmps9
  go_wp2_with fail
  refine (recWriteS r A1 A2 c1 c2 ok ok' _ HF.out.1 HF.out.2.1 HC2.out (HL.out.2.1.below HB.out)).mono ?_
  rintro e w1 ⟨rfl, hb⟩
  have HF1 := Aside.mk (show fldR.Row w1 ok A1 r.fields ∧ str.Row w1 ok' A2 r.refs ∧ Bk w1 w.heap.size (recC r A1 A2 c1 c2) from ⟨HF.out.1.below hb, HF.out.2.1.below hb, HF.out.2.2.below hb⟩)
  have HB1 := Aside.mk (below_step HB.out hb)
  clear hb HF HB q0
  go_wp2_with fail
  refine (recRead s _ HZ.out (HL.out.1.below HB1.out) (HL.out.2.1.below HB1.out) (HL.out.2.2.below HB1.out)).mono ?_
  rintro e w2 ⟨v1, v2, rfl, s1, s2, hb⟩
  obtain ⟨B1, d1, rfl, hd1⟩ := s1.frm
  obtain ⟨B2, d2, rfl, hd2⟩ := s2.frm
  have HF2 := Aside.mk (show fldR.Row w2 ok A1 r.fields ∧ str.Row w2 ok' A2 r.refs ∧ Bk w2 w.heap.size (recC r A1 A2 c1 c2) from ⟨HF1.out.1.below hb, HF1.out.2.1.below hb, HF1.out.2.2.below hb⟩)
  have HS2 := Aside.mk (And.intro s1 s2)
  have HB2 := Aside.mk (below_step HB1.out hb)
  clear hb HF1 HB1 s1 s2
  have HW3 := Aside.mk (recWriteS recA none none 0 0 (fun _ => True) (fun _ => True) · Row.nil Row.nil (Nat.le_refl _))
  rw [recA_ok, show recS recA = ⟨#[97, 59, 48, 59, 59]⟩ from (if_pos recA_ok).trans recA_text] at HW3
  have hal := (Below.refl w2.heap.size w2).alloc (Nat.le_refl _) (.cells #[.string (readR s).id, .int .i64 (readR s).cats, .slice B1 (readR s).fields.length d1, .slice B2 (readR s).refs.length d2] 35)
  have HX2 := Aside.mk (Bk.made w2 [.string (readR s).id, .int .i64 (readR s).cats, .slice B1 (readR s).fields.length d1, .slice B2 (readR s).refs.length d2] 35)
  have HAL := Aside.mk hal
  clear hal
  go_wp2_with fail
  refine (HW3.out _ (HL.out.2.1.below (below_step HB2.out HAL.out))).mono ?_
  rintro e w3 ⟨rfl, hb⟩
  have HB3' := Aside.mk (below_step HAL.out hb)
  have HX3 := Aside.mk (HX2.out.below hb)
  clear hb HW3 HX2 HAL
  have HB3 := Aside.mk (below_step HB2.out HB3'.out)
  go_wp2_with fail
  refine (refRead s _ HZ.out (HL.out.1.below HB3.out)).mono ?_
  rintro e w4 ⟨v1, v2, rfl, t1, t2, hb⟩
  obtain ⟨C1, e1, rfl, he1⟩ := t1.frm
  obtain ⟨C2, e2, rfl, he2⟩ := t2.frm
  have hal := (Below.refl w4.heap.size w4).alloc (Nat.le_refl _) (.cells #[.string (readR s).id, .int .i64 (readR s).cats, .slice C1 (readR s).fields.length e1, .slice C2 (readR s).refs.length e2] 35)
  have hb24 := below_step HB3'.out (below_step hb hal)
  have HX4 := Aside.mk (And.intro (HX3.out.below (below_step hb hal)) (Bk.made w4 [.string (readR s).id, .int .i64 (readR s).cats, .slice C1 (readR s).fields.length e1, .slice C2 (readR s).refs.length e2] 35))
  have HS4 := Aside.mk (And.intro (And.intro (HS2.out.1.below hb24) (HS2.out.2.below hb24)) (And.intro (t1.below hal) (t2.below hal)))
  have HF4 := Aside.mk (show fldR.Row _ ok A1 r.fields ∧ str.Row _ ok' A2 r.refs ∧ Bk _ w.heap.size (recC r A1 A2 c1 c2) from ⟨HF2.out.1.below hb24, HF2.out.2.1.below hb24, HF2.out.2.2.below hb24⟩)
  have HB4 := Aside.mk (below_step HB2.out hb24)
  clear hb hal hb24 t1 t2 HS2 HF2 HB2 HB3 HB3' HX3
  have p4 := HX4.out.1.four
  have p5 := HX4.out.2.four
  have q4 := HF4.out.2.2.four
  go_wp2_with fail
  refine (sameRecord (readR s) (readR s) B1 B2 C1 C2 d1 d2 e1 e2 _ _ _ _ _ HS4.out.1.1.rw HS4.out.1.2.rw HS4.out.2.1.rw HS4.out.2.2.rw).mono ?_
  rw [recEq_iff.2 rfl]
  rintro e w5 ⟨rfl, hb⟩
  have HF5 := Aside.mk (show fldR.Row w5 ok A1 r.fields ∧ str.Row w5 ok' A2 r.refs ∧ Bk w5 w.heap.size (recC r A1 A2 c1 c2) from ⟨HF4.out.1.below hb, HF4.out.2.1.below hb, HF4.out.2.2.below hb⟩)
  have HB5 := Aside.mk (below_step HB4.out hb)
  clear hb HF4 HB4 HS4 HX4 p4 p5 q4
  have q5 := HF5.out.2.2.four
  go_wp2_with fail
  refine (refRecord r A1 A2 c1 c2 ok ok' HWF.out _ HF5.out.1 HF5.out.2.1).mono ?_
  rintro e w6 ⟨rfl, hb⟩
  have HF6 := Aside.mk (show fldR.Row w6 ok A1 r.fields ∧ str.Row w6 ok' A2 r.refs ∧ Bk w6 w.heap.size (recC r A1 A2 c1 c2) from ⟨HF5.out.1.below hb, HF5.out.2.1.below hb, HF5.out.2.2.below hb⟩)
  have HB6 := Aside.mk (below_step HB5.out hb)
  clear hb HF5 HB5 q5
  have q6 := HF6.out.2.2.four
  by_cases h0 : recErr r = 0
  · have HT := Aside.mk (refText r A1 A2 c1 c2 ok ok' h0 w6 HF6.out.1 HF6.out.2.1)
    have HE := Aside.mk (show recS r = textV r from if_pos h0)
    rw [h0]
    clear h0
    go_wp2_with fail
    refine HT.out.mono ?_
    rintro e w7 ⟨rfl, hb⟩
    have HB7 := Aside.mk (below_step HB6.out hb)
    have he7 : ((recS r).toList == (textV r).toList) = true := by rw [HE.out]; simp
    clear hb q6
    go_wp2_with fail
    go_ret
    exact ⟨rfl, HB7.out⟩
  · have hE : recS r = ⟨#[]⟩ := if_neg h0
    have g0 : (recErr r != 0) = true := by simp [h0]
    have g1 : (recErr r == 0) = false := by simp [h0]
    rw [hE]
    clear h0 hE
    go_wp2_with fail
    go_ret
    exact ⟨rfl, HB6.out⟩
end Go.Proofs.WK
