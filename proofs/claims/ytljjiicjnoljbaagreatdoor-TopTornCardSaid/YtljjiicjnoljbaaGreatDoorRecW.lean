/-
  record.Write (P19).
-/
import Derived.Test.YtljjiicjnoljbaaGreatDoorJoin
import Derived.Test.YtljjiicjnoljbaaGreatDoorDec0
import Derived.Test.YtljjiicjnoljbaaGreatDoorText
namespace Go.Proofs.WK
open Go.RowKit Rp
/-- A field as a word. -/
def fldS (f : Fld) : ByteArray := bs (fldL f)
theorem join_flds (l : List Fld) : joinV (l.map fldS) ⟨#[44]⟩ = bs (commas (l.map fldL)) := by
  unfold joinV commas fldS
  rw [List.map_map]
  rfl
theorem join_refs (l : List ByteArray) : joinV l ⟨#[44]⟩ = bs (commas (l.map (·.data.toList))) := rfl
theorem text_words (r : Rec) : r.id ++ ⟨#[59]⟩ ++ decS r.cats ++ ⟨#[59]⟩ ++ joinV (r.fields.map fldS) ⟨#[44]⟩ ++ ⟨#[59]⟩ ++ joinV r.refs ⟨#[44]⟩ = textV r := by
  have hd : (decS r.cats).data.toList = Lib.itoa r.cats := bs_data _
  rw [join_flds, join_refs]
  apply toL_inj
  rw [textV, bs_data]
  unfold textL
  simp only [app_data, bs_data, hd]
  simp
theorem fld_word {r : Rec} {k : Nat} (hk : k < r.fields.length) : (r.fields.take (k + 1)).map fldS = (r.fields.take k).map fldS ++ [fldS r.fields[k]] := by
  rw [List.take_succ_eq_append_getElem hk, List.map_append]
  rfl
theorem fldS_eq (f : Fld) : f.key ++ ⟨#[61]⟩ ++ f.val = fldS f := by
  apply toL_inj
  rw [fldS, bs_data]
  simp [fldL]
theorem fldS_size (f : Fld) : (fldS f).size = f.key.size + 1 + f.val.size := by
  rw [← fldS_eq, app_size, app_size]
  rfl
theorem word_sizes {r : Rec} (h : recErr r = 0) : (joinV (r.fields.map fldS) ⟨#[44]⟩).size ≤ 132 ∧ (joinV r.refs ⟨#[44]⟩).size ≤ 36 := by
  obtain ⟨_, _, _, i4, i5, _, _⟩ := rec_ok h
  have e : (⟨#[44]⟩ : ByteArray).size = 1 := rfl
  constructor
  · refine Nat.le_trans (joinV_size _ _ 22 fun x hx => ?_) (by simp; omega)
    obtain ⟨f, hf, rfl⟩ := List.mem_map.1 hx
    obtain ⟨k, hk, rfl⟩ := List.mem_iff_getElem.1 hf
    have := fld_ok h hk
    rw [fldS_size, e]
    omega
  · refine Nat.le_trans (joinV_size _ _ 9 fun x hx => ?_) (by omega)
    obtain ⟨k, hk, rfl⟩ := List.mem_iff_getElem.1 hx
    have := ref_ok h hk
    omega
/-- What stays, while the line is put together. -/
abbrev Kw (w0 w : World) (n : Nat) (r : Rec) (A1 A2 Ao : Option Addr) (c1 c2 : Nat) : Prop :=
  w.cell? ⟨n, 0, none⟩ = some (.string r.id) ∧ w.cell? ⟨n, 1, none⟩ = some (.int .i64 r.cats) ∧ w.cell? ⟨n, 3, none⟩ = some (.slice A2 r.refs.length c2) ∧ Aside (Bk w n (recC r A1 A2 c1 c2) ∧ str.Row w (fun _ => True) A2 r.refs ∧ str.Row w (fun _ => True) Ao (r.fields.map fldS) ∧ PowTab w ∧ Below w0.heap.size w0 w)
theorem Kw.of {w0 w : World} {n : Nat} {r : Rec} {A1 A2 Ao : Option Addr} {c1 c2 : Nat} (h1 : Bk w n (recC r A1 A2 c1 c2)) (h2 : str.Row w (fun _ => True) A2 r.refs) (h3 : str.Row w (fun _ => True) Ao (r.fields.map fldS)) (h4 : PowTab w) (h5 : Below w0.heap.size w0 w) : Kw w0 w n r A1 A2 Ao c1 c2 :=
  ⟨h1.cell 0, h1.cell 1, h1.cell 3, ⟨h1, h2, h3, h4, h5⟩⟩
theorem Kw.step {w0 w w' : World} {n : Nat} {r : Rec} {A1 A2 Ao : Option Addr} {c1 c2 : Nat} (h : Kw w0 w n r A1 A2 Ao c1 c2) (hb : Below w.heap.size w w') : Kw w0 w' n r A1 A2 Ao c1 c2 :=
  Kw.of (h.2.2.2.out.1.below hb) (h.2.2.2.out.2.1.below hb) (h.2.2.2.out.2.2.1.below hb) (h.2.2.2.out.2.2.2.1.below hb) (below_step h.2.2.2.out.2.2.2.2 hb)
theorem Kw.al {w0 w : World} {n : Nat} {r : Rec} {A1 A2 Ao : Option Addr} {c1 c2 : Nat} (h : Kw w0 w n r A1 A2 Ao c1 c2) : str.Row w (fun _ => True) A2 r.refs ∧ str.Row w (fun _ => True) Ao (r.fields.map fldS) ∧ PowTab w ∧ Below w0.heap.size w0 w := h.2.2.2.out.2
set_option maxRecDepth 100000 in
set_option maxHeartbeats 4000000 in
theorem recWrite (r : Rec) (A1 A2 : Option Addr) (c1 c2 : Nat) (ok ok' : Nat → Prop) (w : World) (hf : fldR.Row w ok A1 r.fields) (hg : str.Row w ok' A2 r.refs) (hc2 : r.refs.length ≤ c2) (ht : PowTab w) :
    Calls Tryz.prog 143 #[.agg #[.string r.id, .int .i64 r.cats, .slice A1 r.fields.length c1, .slice A2 r.refs.length c2]] w fun e w' => e = .returned (.tuple #[.string (if recErr r = 0 then textV r else ⟨#[]⟩), .int .i64 (recErr r)]) ∧ Below w.heap.size w w' := by
  have hb1 : Below w.heap.size w (w.alloc (.cells (recC r A1 A2 c1 c2).toArray 36)) := (Below.refl _ _).alloc (Nat.le_refl _) _
  have HF := Aside.mk (hf.below hb1)
  have HG := Aside.mk (hg.below hb1)
  have HQ := Aside.mk (Bk.made w (recC r A1 A2 c1 c2) 36)
  have HT := Aside.mk (ht.below hb1)
  have HB := Aside.mk hb1
  have q0 := HQ.out.four
  clear hf hg hb1 ht
  by_cases h0 : recErr r = 0
  · have HR := Aside.mk h0
    rw [if_pos h0]
    go_enter Tryz.func143, Tryz.ntmps143
    go_wp2_with fail
    refine (recCheck r A1 A2 c1 c2 ok ok' _ HF.out HG.out).mono ?_
    rw [h0]
    rintro e w1 ⟨rfl, hb⟩
    have HI := Aside.mk (show fldR.Row w1 ok A1 r.fields ∧ str.Row w1 ok' A2 r.refs ∧ Bk w1 w.heap.size (recC r A1 A2 c1 c2) ∧ PowTab w1 ∧ Below w.heap.size w w1 from ⟨HF.out.below hb, HG.out.below hb, HQ.out.below hb, HT.out.below hb, below_step HB.out hb⟩)
    clear HF HG HQ HT HB hb h0 q0
    have q0 := HI.out.2.2.1.four
    go_wp2_with fail
    go_loopw [5, 16] (fun o i wr => ∃ k : Nat, k ≤ r.fields.length ∧ i = .int .i64 k ∧ Aside (str.Own 9 wr w1.heap.size (fun _ => False) o ((r.fields.take k).map fldS)) ∧ Aside (Below w1.heap.size w1 wr)) (fun _ i _ => r.fields.length - (intOf i).toNat)
    case atStart => exact ⟨0, Nat.zero_le _, rfl, ⟨Own.nil _ _ _ _ _⟩, ⟨Below.refl _ _⟩⟩
    case round =>
      clear q0
      obtain ⟨k, hk, rfl, HO, HW⟩ := hrel
      have q0 := (HI.out.2.2.1.below HW.out).four
      obtain ⟨Ao, co, rfl, hco⟩ := HO.out.sl.frm
      by_cases hlt : k < r.fields.length
      · obtain ⟨ad, rfl, _, x0, x1⟩ := fld_at (HI.out.1.below HW.out) hlt
        obtain ⟨hkz, hvz⟩ := fld_ok HR.out hlt
        have HX := Aside.mk (fld_word hlt)
        have HS := Aside.mk (fldS_eq r.fields[k])
        have hz1 : (r.fields[k].key ++ (⟨#[61]⟩ : ByteArray)).size ≤ 10 := by
          rw [app_size]
          have e : (⟨#[61]⟩ : ByteArray).size = 1 := rfl
          omega
        obtain ⟨_, _, _, i4, _, _, _⟩ := rec_ok HR.out
        have hal : Below wr.heap.size wr (wr.alloc (.cells #[.string r.fields[k].key, .string r.fields[k].val] 38)) := (Below.refl _ _).alloc (Nat.le_refl _) _
        have q2 := (Bk.made wr [.string r.fields[k].key, .string r.fields[k].val] 38).two
        have HO2 := Aside.mk (HO.out.below hal)
        have HW2 := Aside.mk (HW.out.alloc HW.out.size (.cells #[.string r.fields[k].key, .string r.fields[k].val] 38))
        have HLN : Aside ((((r.fields.take k).map fldS).length + 1) * 16 ≤ 140737488355328) := ⟨by simp; omega⟩
        clear hal
        go_wp2_with (at_builtin
                     refine list_one (w0 := (wr.alloc (.cells #[.string r.fields[k].key, .string r.fields[k].val] 38)).alloc (.cells #[.string (r.fields[k].key ++ ⟨#[61]⟩ ++ r.fields[k].val)] 9)) str w1.heap.size rfl (.tmp 20) (.tmp 27) 34 9 (.string ByteArray.empty) 16 rfl Tryz.underlying34 infoStJ rfl Nat.one_pos (Nat.succ_pos _) (.slice Ao ((r.fields.take k).map fldS).length co) ((r.fields.take k).map fldS) (r.fields[k].key ++ ⟨#[61]⟩ ++ r.fields[k].val) [.string (r.fields[k].key ++ ⟨#[61]⟩ ++ r.fields[k].val)] (fun _ => False) (wr.heap.size + 1) 1 rfl rfl (blk_new2 wr _ _ _) rfl (HO2.out.below ((Below.refl _ _).alloc (Nat.le_refl _) _)) (Below.refl _ _) (Nat.le_trans HW2.out.size (by simp)) HLN.out ?_
                     intro v1 w5 HO1 HB1 hg hat
                     have HO5 := Aside.mk HO1
                     have HB5 := Aside.mk ((HW2.out.alloc HW2.out.size _).grown hg (Nat.le_trans HW2.out.size (by simp)) (fun j hj => (HO2.out.lt j hj).1))
                     clear HO1 HB1 hg hat)
        refine ⟨⟨k + 1, by omega, by go_num, ⟨by rw [HX.out, ← HS.out]; exact HO5.out⟩, HB5⟩, by simp [intOf]; omega⟩
      · obtain rfl : k = r.fields.length := by omega
        rw [List.take_length] at HO hco ⊢
        have HP := Aside.mk (Kw.of (w0 := w1) (A2 := A2) (c2 := c2) (HI.out.2.2.1.below HW.out) ((HI.out.2.1.below HW.out).mono fun _ _ _ => trivial) (HO.out.row.2.2.mono fun _ _ _ => trivial) (HI.out.2.2.2.1.below HW.out) HW.out)
        have HB1 := Aside.mk HI.out.2.2.2.2
        obtain ⟨i1, i2, i3, i4, i5, _, _⟩ := rec_ok HR.out
        have hid := (idOk_size i1).2
        have hds := decS_len (n := r.cats) (by omega) (by omega)
        obtain ⟨hz1, hz2⟩ := word_sizes HR.out
        have HE := Aside.mk (text_words r)
        have HR2 := Aside.mk (show (r.fields.map fldS).length ≤ 6 ∧ r.refs.length ≤ 4 from ⟨by simp; omega, i5⟩)
        have HJ := Aside.mk (show (r.fields.map fldS).length ≤ co ∧ r.refs.length ≤ c2 ∧ (joinV (r.fields.map fldS) ⟨#[44]⟩).size ≤ 140737488355328 ∧ (joinV r.refs ⟨#[44]⟩).size ≤ 140737488355328 ∧ -9223372036854775808 ≤ r.cats ∧ r.cats ≤ 9223372036854775807 from ⟨hco, hc2, by omega, by omega, by omega, by omega⟩)
        have z1 : (9223372036854775807 < r.id.size + 1) = False := eq_false (by omega)
        have z2 : (9223372036854775807 < r.id.size + 1 + (decS r.cats).size) = False := eq_false (by omega)
        have z3 : (9223372036854775807 < r.id.size + 1 + (decS r.cats).size + 1) = False := eq_false (by omega)
        have z4 : (9223372036854775807 < r.id.size + 1 + (decS r.cats).size + 1 + (joinV (r.fields.map fldS) ⟨#[44]⟩).size) = False := eq_false (by omega)
        have z5 : (9223372036854775807 < r.id.size + 1 + (decS r.cats).size + 1 + (joinV (r.fields.map fldS) ⟨#[44]⟩).size + 1) = False := eq_false (by omega)
        have z6 : (9223372036854775807 < r.id.size + 1 + (decS r.cats).size + 1 + (joinV (r.fields.map fldS) ⟨#[44]⟩).size + 1 + (joinV r.refs ⟨#[44]⟩).size) = False := eq_false (by omega)
        have q1 := HP.out
        clear HI HO HW hco i1 i4 i5 hc2
        go_wp2_with fail
        go_region_held3 (fun w' => w'.cell? ⟨w.heap.size, 0, none⟩ = some (.string r.id) ∧ w'.cell? ⟨w.heap.size, 1, none⟩ = some (.int .i64 r.cats) ∧ w'.cell? ⟨w.heap.size, 3, none⟩ = some (.slice A2 r.refs.length c2) ∧ Aside (Bk w' w.heap.size (recC r A1 A2 c1 c2) ∧ str.Row w' (fun _ => True) A2 r.refs ∧ str.Row w' (fun _ => True) Ao (r.fields.map fldS) ∧ PowTab w' ∧ Below w1.heap.size w1 w'))
          (first | exact Kw.step HP.out (below_drewN (Below.refl _ _) 1) | assumption)
          (first
           | (go_at_call 62; with_reducible refine (itoaC r.cats HJ.out.2.2.2.2.1 HJ.out.2.2.2.2.2 _ (Kw.al (w0 := w1) (n := w.heap.size) (r := r) (A1 := A1) (A2 := A2) (Ao := Ao) (c1 := c1) (c2 := c2) (by assumption)).2.2.1).mono ?_; rintro e w' ⟨rfl, hb⟩; have hx := Kw.step (w0 := w1) (n := w.heap.size) (r := r) (A1 := A1) (A2 := A2) (Ao := Ao) (c1 := c1) (c2 := c2) (by assumption) hb; clear hb)
           | (go_at_call 195; with_reducible refine (joinN Ao co r.fields.length (r.fields.map fldS) _ _ _ (Kw.al (w0 := w1) (n := w.heap.size) (r := r) (A1 := A1) (A2 := A2) (Ao := Ao) (c1 := c1) (c2 := c2) (by assumption)).2.1 (List.length_map _) HJ.out.1 (Nat.le_trans HR2.out.1 (by decide)) HJ.out.2.2.1).mono ?_; rintro e w' ⟨rfl, hb⟩; have hx := Kw.step (w0 := w1) (n := w.heap.size) (r := r) (A1 := A1) (A2 := A2) (Ao := Ao) (c1 := c1) (c2 := c2) (by assumption) hb; clear hb)
           | (go_at_call 195; with_reducible refine (joinC A2 c2 r.refs _ _ _ (Kw.al (w0 := w1) (n := w.heap.size) (r := r) (A1 := A1) (A2 := A2) (Ao := Ao) (c1 := c1) (c2 := c2) (by assumption)).1 HJ.out.2.1 (Nat.le_trans HR2.out.2 (by decide)) HJ.out.2.2.2.1).mono ?_; rintro e w' ⟨rfl, hb⟩; have hx := Kw.step (w0 := w1) (n := w.heap.size) (r := r) (A1 := A1) (A2 := A2) (Ao := Ao) (c1 := c1) (c2 := c2) (by assumption) hb; clear hb))
        all_goals
          clear q0 q1
          go_wp2
          go_ret2
          exact ⟨by rw [HR.out, ← HE.out]; rfl, below_step HB1.out hx.al.2.2.2⟩
  · have H0 := Aside.mk h0
    have g : (recErr r != 0) = true := by simp [h0]
    rw [if_neg h0]
    go_enter Tryz.func143, Tryz.ntmps143
    go_wp2_with fail
    refine (recCheck r A1 A2 c1 c2 ok ok' _ HF.out HG.out).mono ?_
    rintro e w1 ⟨rfl, hb⟩
    have HB1 := Aside.mk (below_step HB.out hb)
    clear hb
    go_wp2_with fail
    go_ret2
    exact ⟨rfl, HB1.out⟩
/-- What Write answers. -/
def recS (r : Rec) : ByteArray := if recErr r = 0 then textV r else ⟨#[]⟩
theorem recWriteS (r : Rec) (A1 A2 : Option Addr) (c1 c2 : Nat) (ok ok' : Nat → Prop) (w : World) (hf : fldR.Row w ok A1 r.fields) (hg : str.Row w ok' A2 r.refs) (hc2 : r.refs.length ≤ c2) (ht : PowTab w) :
    Calls Tryz.prog 143 #[.agg #[.string r.id, .int .i64 r.cats, .slice A1 r.fields.length c1, .slice A2 r.refs.length c2]] w fun e w' => e = .returned (.tuple #[.string (recS r), .int .i64 (recErr r)]) ∧ Below w.heap.size w w' := recWrite r A1 A2 c1 c2 ok ok' w hf hg hc2 ht
end Go.Proofs.WK
