/-
  wyref.Line (P46).
-/
import Derived.Test.YtljjiicjnoljbaaDoorLogW
import Derived.Deep.RegionHeld3
import Derived.Test.YtljjiicjnoljbaaDoorAppR
import Derived.Test.YtljjiicjnoljbaaDoorLineR
namespace Go.Proofs.WK
open Go.RowKit Rp
theorem lnS {w1 W : World} {n : Nat} {o : OpV} {B1 B2 B3 : Option Addr} {e1 e2 e3 : Nat} (h : Bk w1 n (opC o B1 e1 B2 e2 B3 e3)) (hb : Below w1.heap.size w1 W) :
    W.cell? ⟨n, 1, none⟩ = some (.int .i64 o.who.role) ∧ W.cell? ⟨n, 2, none⟩ = some (.int .i64 o.who.why) ∧ W.cell? ⟨n, 3, none⟩ = some (.int .i64 o.who.time) ∧ Aside (Below w1.heap.size w1 W) :=
  ⟨(h.below hb).cell 1, (h.below hb).cell 2, (h.below hb).cell 3, ⟨hb⟩⟩
def rulWK (l : List Rul) (k : Nat) : List ByteArray := ⟨#[114, 117, 108, 101, 115]⟩ :: ((l.take k).map rulW).flatten
theorem rulWK_step {l : List Rul} {k : Nat} (hk : k < l.length) : rulWK l (k + 1) = rulWK l k ++ rulW l[k] := by
  unfold rulWK
  rw [List.take_succ_eq_append_getElem hk, List.map_append, List.flatten_append, List.map_cons, List.map_nil, List.flatten_cons, List.flatten_nil, List.append_nil]
  rfl
theorem rulWK_len (l : List Rul) : ∀ {k : Nat}, k ≤ l.length → (rulWK l k).length = 1 + 6 * k
  | 0, _ => rfl
  | k + 1, hk => by
    rw [rulWK_step (by omega), List.length_append, rulWK_len l (by omega : k ≤ l.length)]
    have : (rulW l[k]).length = 6 := rfl
    omega
set_option maxRecDepth 100000 in
set_option maxHeartbeats 4000000 in
theorem refLine (o : OpV) (B1 B2 B3 : Option Addr) (e1 e2 e3 : Nat) (ok1 ok2 ok3 : Nat → Prop) (w : World) (hr : rulR.Row w ok1 B1 o.rules) (hf : fldR.Row w ok2 B2 o.r.fields) (hg : str.Row w ok3 B3 o.r.refs) (hwho : NumsOk (whoN o)) (he : logErr o = 0) :
    Calls Tryd.prog 29 #[opVal o B1 e1 B2 e2 B3 e3] w fun e w' => e = .returned (.string (lineS o)) ∧ Below w.heap.size w w' := by
  have hal : Below w.heap.size w (w.alloc (.cells (opC o B1 e1 B2 e2 B3 e3).toArray 48)) := (Below.refl _ _).alloc (Nat.le_refl _) _
  have HX := Aside.mk (show Bk _ w.heap.size (opC o B1 e1 B2 e2 B3 e3) ∧ rulR.Row _ ok1 B1 o.rules ∧ fldR.Row _ ok2 B2 o.r.fields ∧ str.Row _ ok3 B3 o.r.refs ∧ Below w.heap.size w _ from ⟨Bk.made w (opC o B1 e1 B2 e2 B3 e3) 48, hr.below hal, hf.below hal, hg.below hal, hal⟩)
  have HWH := Aside.mk (show (∀ W, Calls Tryd.prog 77 #[.int .i64 o.who.role] W fun e w' => e = .returned (.string (decS o.who.role)) ∧ W = w') ∧ (∀ W, Calls Tryd.prog 77 #[.int .i64 o.who.why] W fun e w' => e = .returned (.string (decS o.who.why)) ∧ W = w') ∧ (∀ W, Calls Tryd.prog 77 #[.int .i64 o.who.time] W fun e w' => e = .returned (.string (decS o.who.time)) ∧ W = w') from
    ⟨decC _ (hwho _ (by simp [whoN])).1 (hwho _ (by simp [whoN])).2, decC _ (hwho _ (by simp [whoN])).1 (hwho _ (by simp [whoN])).2, decC _ (hwho _ (by simp [whoN])).1 (hwho _ (by simp [whoN])).2⟩)
  have HPS := Aside.mk (plain_size he hwho)
  have HE := Aside.mk he
  clear hr hf hg hal hwho he
  unfold opVal
  go_enter Tryd.func29, Tryd.ntmps29
  go_upto_region 1 with fail
  generalize hw0 : w.alloc (.cells #[.int .i64 o.kind, .int .i64 o.who.role, .int .i64 o.who.why, .int .i64 o.who.time, .slice B1 o.rules.length e1, .string o.r.id, .int .i64 o.r.cats, .slice B2 o.r.fields.length e2, .slice B3 o.r.refs.length e3, .string o.id, .string o.f.key, .string o.f.val] 48) = w0
  have hx0 : Bk w0 w.heap.size (opC o B1 e1 B2 e2 B3 e3) ∧ rulR.Row w0 ok1 B1 o.rules ∧ fldR.Row w0 ok2 B2 o.r.fields ∧ str.Row w0 ok3 B3 o.r.refs ∧ Below w.heap.size w w0 := by
    rw [← hw0]
    exact HX.out
  have HX := Aside.mk hx0
  clear hw0 hx0
  go_cut [3] (fun v wx => v = .slice (some ⟨w0.heap.size, 0, none⟩) 4 4 ∧ wx = (w0.alloc (.cells #[.string ⟨#[112, 117, 116]⟩, .string (decS o.who.role), .string (decS o.who.why), .string (decS o.who.time)] 9)).drew)
  case first =>
    go_region_held3 (fun w' => w'.cell? ⟨w.heap.size, 1, none⟩ = some (.int .i64 o.who.role) ∧ w'.cell? ⟨w.heap.size, 2, none⟩ = some (.int .i64 o.who.why) ∧ w'.cell? ⟨w.heap.size, 3, none⟩ = some (.int .i64 o.who.time) ∧ Aside (Below w0.heap.size w0 w'))
      (first
       | with_reducible exact lnS HX.out.1 (Below.refl w0.heap.size w0).drew
       | assumption
       | with_reducible exact lnS HX.out.1 ((Below.refl w0.heap.size w0).alloc (Nat.le_refl _) _).drew)
      (first
       | (go_at_call 77; with_reducible refine (HWH.out.1 _).mono ?_; rintro e w' ⟨rfl, rfl⟩)
       | (go_at_call 77; with_reducible refine (HWH.out.2.1 _).mono ?_; rintro e w' ⟨rfl, rfl⟩)
       | (go_at_call 77; with_reducible refine (HWH.out.2.2 _).mono ?_; rintro e w' ⟨rfl, rfl⟩))
    all_goals
      go_wp2
      go_meet
      exact ⟨rfl, rfl⟩
  case rest =>
    obtain ⟨rfl, rfl⟩ := hcut
    have hown : str.Own 9 (w0.alloc (.cells #[.string ⟨#[112, 117, 116]⟩, .string (decS o.who.role), .string (decS o.who.why), .string (decS o.who.time)] 9)).drew w0.heap.size (fun _ => False) (.slice (some ⟨w0.heap.size, 0, none⟩) 4 4) [⟨#[112, 117, 116]⟩, decS o.who.role, decS o.who.why, decS o.who.time] :=
      (Own.lit str 9 w0 w0.heap.size (fun _ => False) (Nat.le_refl _) (reps_str w0 _ [⟨#[112, 117, 116]⟩, decS o.who.role, decS o.who.why, decS o.who.time]) (by simp)).below (Below.refl _ _).drew
    have hbq : Bk (w0.alloc (.cells #[.string ⟨#[112, 117, 116]⟩, .string (decS o.who.role), .string (decS o.who.why), .string (decS o.who.time)] 9)).drew w0.heap.size [.string ⟨#[112, 117, 116]⟩, .string (decS o.who.role), .string (decS o.who.why), .string (decS o.who.time)] := (Bk.made w0 _ _).drew
    have hb1 : Below w0.heap.size w0 (w0.alloc (.cells #[.string ⟨#[112, 117, 116]⟩, .string (decS o.who.role), .string (decS o.who.why), .string (decS o.who.time)] 9)).drew := ((Below.refl _ _).alloc (Nat.le_refl _) _).drew
    generalize (w0.alloc (.cells #[.string ⟨#[112, 117, 116]⟩, .string (decS o.who.role), .string (decS o.who.why), .string (decS o.who.time)] 9)).drew = w1 at *
    have HO := Aside.mk hown
    have HBQ := Aside.mk hbq
    have HB1 := Aside.mk hb1
    have HX1 := Aside.mk (show Bk w1 w.heap.size (opC o B1 e1 B2 e2 B3 e3) ∧ rulR.Row w1 ok1 B1 o.rules ∧ fldR.Row w1 ok2 B2 o.r.fields ∧ str.Row w1 ok3 B3 o.r.refs ∧ Below w.heap.size w w1 from ⟨HX.out.1.below hb1, HX.out.2.1.below hb1, HX.out.2.2.1.below hb1, HX.out.2.2.2.1.below hb1, below_step HX.out.2.2.2.2 hb1⟩)
    clear hown hb1 hbq
    have q1 := opC_rec HX1.out.1
    rcases log_ok HE.out with ⟨hk, hrr⟩ | ⟨hk, hrr⟩ | ⟨hk, hc, hi⟩
    · have k1 : (o.kind == 1) = true := by rw [hk]; rfl
      obtain ⟨hrl, hro⟩ := rules_of hrr
      have HRO := Aside.mk hro
      have HWO := Aside.mk (show wordsW o = rulWK o.rules o.rules.length by
        unfold wordsW rulWK
        rw [if_neg (by omega), if_neg (by omega), List.take_length])
      have HBS : Aside (w.heap.size ≤ w0.heap.size) := ⟨HX.out.2.2.2.2.size⟩
      clear hk hrr hro
      go_upto_region 5 with fail
      have ho2 : str.Own 9 (w1.alloc (.cells #[.string ⟨#[114, 117, 108, 101, 115]⟩] 9)) w1.heap.size (fun _ => False) (.slice (some ⟨w1.heap.size, 0, none⟩) 1 1) (rulWK o.rules 0) :=
        Own.lit str 9 w1 w1.heap.size (fun _ => False) (Nat.le_refl _) (reps_str w1 _ [⟨#[114, 117, 108, 101, 115]⟩]) (show 1 ≤ 9223372036854775807 by decide)
      have hb2 : Below w1.heap.size w1 (w1.alloc (.cells #[.string ⟨#[114, 117, 108, 101, 115]⟩] 9)) := (Below.refl _ _).alloc (Nat.le_refl _) _
      have HO2 := Aside.mk ho2
      have HB2 := Aside.mk hb2
      have q2 := opC_rec (HX1.out.1.below hb2)
      clear ho2 hb2 q1
      generalize w1.alloc (.cells #[.string ⟨#[114, 117, 108, 101, 115]⟩] 9) = w2 at *
      go_wp2_with fail
      go_loopw [3, 28] (fun v i wr => ∃ k : Nat, k ≤ o.rules.length ∧ i = .int .i64 k ∧ Aside (str.Own 9 wr w1.heap.size (fun _ => False) v (rulWK o.rules k)) ∧ Aside (Below w1.heap.size w1 wr)) (fun _ i _ => o.rules.length - (intOf i).toNat)
      case atStart => exact ⟨0, Nat.zero_le _, rfl, HO2, HB2⟩
      case round =>
        clear q2
        obtain ⟨k, hk, rfl, HO, HB⟩ := hrel
        obtain ⟨AL, cL, rfl, hcL⟩ := HO.out.sl.frm
        by_cases hlt : k < o.rules.length
        · obtain ⟨ad, hB1, _, x0, x1, x2, x3, x4, x5⟩ := rul_at (HX1.out.2.1.below HB.out) hlt
          have HN := Aside.mk (rul_nums (HRO.out _ (List.getElem_mem hlt)))
          have HK := Aside.mk (rulWK_step hlt)
          have HLW := Aside.mk (rulWK_len o.rules hk)
          generalize o.rules[k] = r at *
          subst hB1
          go_upto_region 8 with fail
          have hb8 : Below wr.heap.size wr (wr.alloc (.cells #[.int .i64 r.role, .int .i64 r.why, .int .i64 r.frm, .int .i64 r.til, .int .i64 r.cats, .bool r.allow] 99)) := (Below.refl _ _).alloc (Nat.le_refl _) _
          have hk8 : Bk (wr.alloc (.cells #[.int .i64 r.role, .int .i64 r.why, .int .i64 r.frm, .int .i64 r.til, .int .i64 r.cats, .bool r.allow] 99)) wr.heap.size (rulC r) := Bk.made wr (rulC r) 99
          have ho8 := HO.out.below hb8
          have hbw8 := below_step HB.out hb8
          generalize wr.alloc (.cells #[.int .i64 r.role, .int .i64 r.why, .int .i64 r.frm, .int .i64 r.til, .int .i64 r.cats, .bool r.allow] 99) = W8 at *
          have HBX : Aside (w1.heap.size ≤ W8.heap.size) := ⟨hbw8.size⟩
          have HLL : Aside ((1 + 6 * k + (rulW r).length) * 16 ≤ 140737488355328) := ⟨by have h6 : (rulW r).length = 6 := rfl; rw [h6]; omega⟩
          have HD := Aside.mk (show (∀ W, Calls Tryd.prog 77 #[.int .i64 r.role] W fun e w' => e = .returned (.string (decS r.role)) ∧ W = w') ∧ (∀ W, Calls Tryd.prog 77 #[.int .i64 r.why] W fun e w' => e = .returned (.string (decS r.why)) ∧ W = w') ∧ (∀ W, Calls Tryd.prog 77 #[.int .i64 r.frm] W fun e w' => e = .returned (.string (decS r.frm)) ∧ W = w') ∧ (∀ W, Calls Tryd.prog 77 #[.int .i64 r.til] W fun e w' => e = .returned (.string (decS r.til)) ∧ W = w') ∧ (∀ W, Calls Tryd.prog 77 #[.int .i64 r.cats] W fun e w' => e = .returned (.string (decS r.cats)) ∧ W = w') from
            ⟨decC _ (HN.out _ (by simp [rulN])).1 (HN.out _ (by simp [rulN])).2, decC _ (HN.out _ (by simp [rulN])).1 (HN.out _ (by simp [rulN])).2, decC _ (HN.out _ (by simp [rulN])).1 (HN.out _ (by simp [rulN])).2, decC _ (HN.out _ (by simp [rulN])).1 (HN.out _ (by simp [rulN])).2, decC _ (HN.out _ (by simp [rulN])).1 (HN.out _ (by simp [rulN])).2⟩)
          clear x0 x1 x2 x3 x4 x5
          generalize hA : Act.mk _ _ = A
          refine region_facts_down (J9 A W8 w1.heap.size W8.heap.size wr.heap.size AL (rulWK o.rules k).length cL (rulWK o.rules k) r) (by kernel_rfl) (by kernel_rfl) ?_ ?_ ?_
          · subst hA
            simp only [J9, putL, Act.put, List.setIfInBounds_toArray, List.set_cons_zero, List.set_cons_succ]
            refine ⟨_, _, _, _, _, _, _, _, _, _, _, _, _, _, _, _, _, _, _, _, _, _, _, _, rfl, .inl ⟨rfl, rfl, rfl, R9.init (fun j hj => ?_) (below_drewN (Below.refl _ _) 1) (Nat.le_refl _) (Nat.le_refl _) hk8.lt (fun j hj => Nat.lt_of_lt_of_le (HO.out.lt j hj).2 hb8.size) hk8 ho8⟩⟩
            rw [Array.getElem?_replicate] at hj
            split at hj <;> simp at hj
          · intro i oo L' a w' ho hsz hLi haft hdn hJ K' hK
            obtain ⟨u32, u33, u34, u35, u36, u37, u38, u39, u40, u41, u42, u43, u44, u45, u46, u47, u48, u49, u50, u51, u52, u53, u54, u3, rfl, hJ⟩ := hJ
            have hi := (Array.getElem?_eq_some_iff.1 ho).1
            rcases hJ with ⟨h24, h25, rfl, hR⟩ | ⟨hall, hfin⟩
            case inr =>
              obtain rfl : i = 25 := by
                have h26 : i < 26 := hi
                rcases Nat.lt_or_ge i 25 with h | h
                · rw [hall i h] at hLi; cases hLi
                · omega
              simp only [List.getElem?_toArray, List.getElem?_cons_succ, List.getElem?_cons_zero, Option.some.injEq] at ho
              subst ho
              rw [if_pos (by rfl)]
              subst hA
              clear hsz hi hLi hdn
              have HK := Aside.mk hK
              have HALL := Aside.mk hall
              have HFIN := Aside.mk hfin
              clear hK haft hall hfin
              simp only [putL, Act.put, List.setIfInBounds_toArray, List.set_cons_zero, List.set_cons_succ]
              go_simp
              refine HK.out _ _ ?_
              simp only [J9, putL, Act.put, List.setIfInBounds_toArray, List.set_cons_zero, List.set_cons_succ]
              exact ⟨u32, u33, u34, u35, u36, u37, u38, u39, u40, u41, u42, u43, u44, u45, u46, u47, u48, u49, u50, u51, u52, u53, u54, _, rfl, .inr ⟨fun j hj => set_mono (HALL.out j hj), HFIN.out.1, HFIN.out.2.1, fun _ => rfl⟩⟩
            subst hA
            rcases i with _ | i
            · simp only [List.getElem?_toArray, List.getElem?_cons_succ, List.getElem?_cons_zero, Option.some.injEq] at ho
              subst ho
              rw [if_pos (by rfl)]
              clear hsz hi hLi hdn
              have HK := Aside.mk hK
              clear hK haft
              simp only [putL, Act.put, List.setIfInBounds_toArray, List.set_cons_zero, List.set_cons_succ]
              go_simp
              skip
              refine HK.out _ _ ?_
              simp only [J9, putL, Act.put, List.setIfInBounds_toArray, List.set_cons_zero, List.set_cons_succ]
              refine ⟨_, u33, u34, u35, u36, u37, u38, u39, u40, u41, u42, u43, u44, u45, u46, u47, u48, u49, u50, u51, u52, u53, u54, _, rfl, .inl ⟨by rw [Array.getElem?_setIfInBounds_ne (by decide)]; exact h24, by rw [Array.getElem?_setIfInBounds_ne (by decide)]; exact h25, rfl, R9.set0 hR ?_⟩⟩
              rfl
            rcases i with _ | i
            · simp only [List.getElem?_toArray, List.getElem?_cons_succ, List.getElem?_cons_zero, Option.some.injEq] at ho
              subst ho
              rw [if_pos (by rfl)]
              clear hsz hi hLi hdn
              have HK := Aside.mk hK
              clear hK haft
              simp only [putL, Act.put, List.setIfInBounds_toArray, List.set_cons_zero, List.set_cons_succ]
              go_simp
              skip
              refine HK.out _ _ ?_
              simp only [J9, putL, Act.put, List.setIfInBounds_toArray, List.set_cons_zero, List.set_cons_succ]
              refine ⟨u32, _, u34, u35, u36, u37, u38, u39, u40, u41, u42, u43, u44, u45, u46, u47, u48, u49, u50, u51, u52, u53, u54, _, rfl, .inl ⟨by rw [Array.getElem?_setIfInBounds_ne (by decide)]; exact h24, by rw [Array.getElem?_setIfInBounds_ne (by decide)]; exact h25, rfl, R9.set1 hR ?_⟩⟩
              rfl
            rcases i with _ | i
            · simp only [List.getElem?_toArray, List.getElem?_cons_succ, List.getElem?_cons_zero, Option.some.injEq] at ho
              subst ho
              rw [if_pos (by rfl)]
              obtain rfl := hR.f1 (haft { on := 1, ground := .data } (by simp) rfl)
              have hc : w'.cell? ⟨wr.heap.size, 0, none⟩ = some (.int .i64 r.role) := hR.bk.cell 0
              clear hsz hi hLi hdn
              have HK := Aside.mk hK
              clear hK haft
              simp only [putL, Act.put, List.setIfInBounds_toArray, List.set_cons_zero, List.set_cons_succ]
              go_simp
              skip
              refine HK.out _ _ ?_
              simp only [J9, putL, Act.put, List.setIfInBounds_toArray, List.set_cons_zero, List.set_cons_succ]
              refine ⟨u32, _, _, u35, u36, u37, u38, u39, u40, u41, u42, u43, u44, u45, u46, u47, u48, u49, u50, u51, u52, u53, u54, _, rfl, .inl ⟨by rw [Array.getElem?_setIfInBounds_ne (by decide)]; exact h24, by rw [Array.getElem?_setIfInBounds_ne (by decide)]; exact h25, rfl, R9.set2 hR ?_⟩⟩
              rfl
            rcases i with _ | i
            · simp only [List.getElem?_toArray, List.getElem?_cons_succ, List.getElem?_cons_zero, Option.some.injEq] at ho
              subst ho
              rw [if_pos (by rfl)]
              obtain rfl := hR.f2 (haft { on := 2, ground := .data } (by simp) rfl)
              clear hsz hi hLi hdn
              have HK := Aside.mk hK
              clear hK haft
              simp only [putL, Act.put, List.setIfInBounds_toArray, List.set_cons_zero, List.set_cons_succ]
              go_simp
              refine (HD.out.1 _).mono ?_
              rintro e w2 ⟨rfl, rfl⟩
              skip
              refine HK.out _ _ ?_
              simp only [J9, putL, Act.put, List.setIfInBounds_toArray, List.set_cons_zero, List.set_cons_succ]
              refine ⟨u32, u33, _, _, u36, u37, u38, u39, u40, u41, u42, u43, u44, u45, u46, u47, u48, u49, u50, u51, u52, u53, u54, _, rfl, .inl ⟨by rw [Array.getElem?_setIfInBounds_ne (by decide)]; exact h24, by rw [Array.getElem?_setIfInBounds_ne (by decide)]; exact h25, rfl, R9.set3 hR ?_⟩⟩
              rfl
            rcases i with _ | i
            · simp only [List.getElem?_toArray, List.getElem?_cons_succ, List.getElem?_cons_zero, Option.some.injEq] at ho
              subst ho
              rw [if_pos (by rfl)]
              clear hsz hi hLi hdn
              have HK := Aside.mk hK
              clear hK haft
              simp only [putL, Act.put, List.setIfInBounds_toArray, List.set_cons_zero, List.set_cons_succ]
              go_simp
              skip
              refine HK.out _ _ ?_
              simp only [J9, putL, Act.put, List.setIfInBounds_toArray, List.set_cons_zero, List.set_cons_succ]
              refine ⟨u32, u33, u34, u35, _, u37, u38, u39, u40, u41, u42, u43, u44, u45, u46, u47, u48, u49, u50, u51, u52, u53, u54, _, rfl, .inl ⟨by rw [Array.getElem?_setIfInBounds_ne (by decide)]; exact h24, by rw [Array.getElem?_setIfInBounds_ne (by decide)]; exact h25, rfl, R9.set4 hR ?_⟩⟩
              rfl
            rcases i with _ | i
            · simp only [List.getElem?_toArray, List.getElem?_cons_succ, List.getElem?_cons_zero, Option.some.injEq] at ho
              subst ho
              rw [if_pos (by rfl)]
              obtain rfl := hR.f4 (haft { on := 4, ground := .data } (by simp) rfl)
              have hc : w'.cell? ⟨wr.heap.size, 1, none⟩ = some (.int .i64 r.why) := hR.bk.cell 1
              clear hsz hi hLi hdn
              have HK := Aside.mk hK
              clear hK haft
              simp only [putL, Act.put, List.setIfInBounds_toArray, List.set_cons_zero, List.set_cons_succ]
              go_simp
              skip
              refine HK.out _ _ ?_
              simp only [J9, putL, Act.put, List.setIfInBounds_toArray, List.set_cons_zero, List.set_cons_succ]
              refine ⟨u32, u33, u34, u35, _, _, u38, u39, u40, u41, u42, u43, u44, u45, u46, u47, u48, u49, u50, u51, u52, u53, u54, _, rfl, .inl ⟨by rw [Array.getElem?_setIfInBounds_ne (by decide)]; exact h24, by rw [Array.getElem?_setIfInBounds_ne (by decide)]; exact h25, rfl, R9.set5 hR ?_⟩⟩
              rfl
            rcases i with _ | i
            · simp only [List.getElem?_toArray, List.getElem?_cons_succ, List.getElem?_cons_zero, Option.some.injEq] at ho
              subst ho
              rw [if_pos (by rfl)]
              obtain rfl := hR.f5 (haft { on := 5, ground := .data } (by simp) rfl)
              clear hsz hi hLi hdn
              have HK := Aside.mk hK
              clear hK haft
              simp only [putL, Act.put, List.setIfInBounds_toArray, List.set_cons_zero, List.set_cons_succ]
              go_simp
              refine (HD.out.2.1 _).mono ?_
              rintro e w2 ⟨rfl, rfl⟩
              skip
              refine HK.out _ _ ?_
              simp only [J9, putL, Act.put, List.setIfInBounds_toArray, List.set_cons_zero, List.set_cons_succ]
              refine ⟨u32, u33, u34, u35, u36, _, _, u39, u40, u41, u42, u43, u44, u45, u46, u47, u48, u49, u50, u51, u52, u53, u54, _, rfl, .inl ⟨by rw [Array.getElem?_setIfInBounds_ne (by decide)]; exact h24, by rw [Array.getElem?_setIfInBounds_ne (by decide)]; exact h25, rfl, R9.set6 hR ?_⟩⟩
              rfl
            rcases i with _ | i
            · simp only [List.getElem?_toArray, List.getElem?_cons_succ, List.getElem?_cons_zero, Option.some.injEq] at ho
              subst ho
              rw [if_pos (by rfl)]
              clear hsz hi hLi hdn
              have HK := Aside.mk hK
              clear hK haft
              simp only [putL, Act.put, List.setIfInBounds_toArray, List.set_cons_zero, List.set_cons_succ]
              go_simp
              skip
              refine HK.out _ _ ?_
              simp only [J9, putL, Act.put, List.setIfInBounds_toArray, List.set_cons_zero, List.set_cons_succ]
              refine ⟨u32, u33, u34, u35, u36, u37, u38, _, u40, u41, u42, u43, u44, u45, u46, u47, u48, u49, u50, u51, u52, u53, u54, _, rfl, .inl ⟨by rw [Array.getElem?_setIfInBounds_ne (by decide)]; exact h24, by rw [Array.getElem?_setIfInBounds_ne (by decide)]; exact h25, rfl, R9.set7 hR ?_⟩⟩
              rfl
            rcases i with _ | i
            · simp only [List.getElem?_toArray, List.getElem?_cons_succ, List.getElem?_cons_zero, Option.some.injEq] at ho
              subst ho
              rw [if_pos (by rfl)]
              obtain rfl := hR.f7 (haft { on := 7, ground := .data } (by simp) rfl)
              have hc : w'.cell? ⟨wr.heap.size, 2, none⟩ = some (.int .i64 r.frm) := hR.bk.cell 2
              clear hsz hi hLi hdn
              have HK := Aside.mk hK
              clear hK haft
              simp only [putL, Act.put, List.setIfInBounds_toArray, List.set_cons_zero, List.set_cons_succ]
              go_simp
              skip
              refine HK.out _ _ ?_
              simp only [J9, putL, Act.put, List.setIfInBounds_toArray, List.set_cons_zero, List.set_cons_succ]
              refine ⟨u32, u33, u34, u35, u36, u37, u38, _, _, u41, u42, u43, u44, u45, u46, u47, u48, u49, u50, u51, u52, u53, u54, _, rfl, .inl ⟨by rw [Array.getElem?_setIfInBounds_ne (by decide)]; exact h24, by rw [Array.getElem?_setIfInBounds_ne (by decide)]; exact h25, rfl, R9.set8 hR ?_⟩⟩
              rfl
            rcases i with _ | i
            · simp only [List.getElem?_toArray, List.getElem?_cons_succ, List.getElem?_cons_zero, Option.some.injEq] at ho
              subst ho
              rw [if_pos (by rfl)]
              obtain rfl := hR.f8 (haft { on := 8, ground := .data } (by simp) rfl)
              clear hsz hi hLi hdn
              have HK := Aside.mk hK
              clear hK haft
              simp only [putL, Act.put, List.setIfInBounds_toArray, List.set_cons_zero, List.set_cons_succ]
              go_simp
              refine (HD.out.2.2.1 _).mono ?_
              rintro e w2 ⟨rfl, rfl⟩
              skip
              refine HK.out _ _ ?_
              simp only [J9, putL, Act.put, List.setIfInBounds_toArray, List.set_cons_zero, List.set_cons_succ]
              refine ⟨u32, u33, u34, u35, u36, u37, u38, u39, _, _, u42, u43, u44, u45, u46, u47, u48, u49, u50, u51, u52, u53, u54, _, rfl, .inl ⟨by rw [Array.getElem?_setIfInBounds_ne (by decide)]; exact h24, by rw [Array.getElem?_setIfInBounds_ne (by decide)]; exact h25, rfl, R9.set9 hR ?_⟩⟩
              rfl
            rcases i with _ | i
            · simp only [List.getElem?_toArray, List.getElem?_cons_succ, List.getElem?_cons_zero, Option.some.injEq] at ho
              subst ho
              rw [if_pos (by rfl)]
              clear hsz hi hLi hdn
              have HK := Aside.mk hK
              clear hK haft
              simp only [putL, Act.put, List.setIfInBounds_toArray, List.set_cons_zero, List.set_cons_succ]
              go_simp
              skip
              refine HK.out _ _ ?_
              simp only [J9, putL, Act.put, List.setIfInBounds_toArray, List.set_cons_zero, List.set_cons_succ]
              refine ⟨u32, u33, u34, u35, u36, u37, u38, u39, u40, u41, _, u43, u44, u45, u46, u47, u48, u49, u50, u51, u52, u53, u54, _, rfl, .inl ⟨by rw [Array.getElem?_setIfInBounds_ne (by decide)]; exact h24, by rw [Array.getElem?_setIfInBounds_ne (by decide)]; exact h25, rfl, R9.set10 hR ?_⟩⟩
              rfl
            rcases i with _ | i
            · simp only [List.getElem?_toArray, List.getElem?_cons_succ, List.getElem?_cons_zero, Option.some.injEq] at ho
              subst ho
              rw [if_pos (by rfl)]
              obtain rfl := hR.f10 (haft { on := 10, ground := .data } (by simp) rfl)
              have hc : w'.cell? ⟨wr.heap.size, 3, none⟩ = some (.int .i64 r.til) := hR.bk.cell 3
              clear hsz hi hLi hdn
              have HK := Aside.mk hK
              clear hK haft
              simp only [putL, Act.put, List.setIfInBounds_toArray, List.set_cons_zero, List.set_cons_succ]
              go_simp
              skip
              refine HK.out _ _ ?_
              simp only [J9, putL, Act.put, List.setIfInBounds_toArray, List.set_cons_zero, List.set_cons_succ]
              refine ⟨u32, u33, u34, u35, u36, u37, u38, u39, u40, u41, _, _, u44, u45, u46, u47, u48, u49, u50, u51, u52, u53, u54, _, rfl, .inl ⟨by rw [Array.getElem?_setIfInBounds_ne (by decide)]; exact h24, by rw [Array.getElem?_setIfInBounds_ne (by decide)]; exact h25, rfl, R9.set11 hR ?_⟩⟩
              rfl
            rcases i with _ | i
            · simp only [List.getElem?_toArray, List.getElem?_cons_succ, List.getElem?_cons_zero, Option.some.injEq] at ho
              subst ho
              rw [if_pos (by rfl)]
              obtain rfl := hR.f11 (haft { on := 11, ground := .data } (by simp) rfl)
              clear hsz hi hLi hdn
              have HK := Aside.mk hK
              clear hK haft
              simp only [putL, Act.put, List.setIfInBounds_toArray, List.set_cons_zero, List.set_cons_succ]
              go_simp
              refine (HD.out.2.2.2.1 _).mono ?_
              rintro e w2 ⟨rfl, rfl⟩
              skip
              refine HK.out _ _ ?_
              simp only [J9, putL, Act.put, List.setIfInBounds_toArray, List.set_cons_zero, List.set_cons_succ]
              refine ⟨u32, u33, u34, u35, u36, u37, u38, u39, u40, u41, u42, _, _, u45, u46, u47, u48, u49, u50, u51, u52, u53, u54, _, rfl, .inl ⟨by rw [Array.getElem?_setIfInBounds_ne (by decide)]; exact h24, by rw [Array.getElem?_setIfInBounds_ne (by decide)]; exact h25, rfl, R9.set12 hR ?_⟩⟩
              rfl
            rcases i with _ | i
            · simp only [List.getElem?_toArray, List.getElem?_cons_succ, List.getElem?_cons_zero, Option.some.injEq] at ho
              subst ho
              rw [if_pos (by rfl)]
              clear hsz hi hLi hdn
              have HK := Aside.mk hK
              clear hK haft
              simp only [putL, Act.put, List.setIfInBounds_toArray, List.set_cons_zero, List.set_cons_succ]
              go_simp
              skip
              refine HK.out _ _ ?_
              simp only [J9, putL, Act.put, List.setIfInBounds_toArray, List.set_cons_zero, List.set_cons_succ]
              refine ⟨u32, u33, u34, u35, u36, u37, u38, u39, u40, u41, u42, u43, u44, _, u46, u47, u48, u49, u50, u51, u52, u53, u54, _, rfl, .inl ⟨by rw [Array.getElem?_setIfInBounds_ne (by decide)]; exact h24, by rw [Array.getElem?_setIfInBounds_ne (by decide)]; exact h25, rfl, R9.set13 hR ?_⟩⟩
              rfl
            rcases i with _ | i
            · simp only [List.getElem?_toArray, List.getElem?_cons_succ, List.getElem?_cons_zero, Option.some.injEq] at ho
              subst ho
              rw [if_pos (by rfl)]
              obtain rfl := hR.f13 (haft { on := 13, ground := .data } (by simp) rfl)
              have hc : w'.cell? ⟨wr.heap.size, 4, none⟩ = some (.int .i64 r.cats) := hR.bk.cell 4
              clear hsz hi hLi hdn
              have HK := Aside.mk hK
              clear hK haft
              simp only [putL, Act.put, List.setIfInBounds_toArray, List.set_cons_zero, List.set_cons_succ]
              go_simp
              skip
              refine HK.out _ _ ?_
              simp only [J9, putL, Act.put, List.setIfInBounds_toArray, List.set_cons_zero, List.set_cons_succ]
              refine ⟨u32, u33, u34, u35, u36, u37, u38, u39, u40, u41, u42, u43, u44, _, _, u47, u48, u49, u50, u51, u52, u53, u54, _, rfl, .inl ⟨by rw [Array.getElem?_setIfInBounds_ne (by decide)]; exact h24, by rw [Array.getElem?_setIfInBounds_ne (by decide)]; exact h25, rfl, R9.set14 hR ?_⟩⟩
              rfl
            rcases i with _ | i
            · simp only [List.getElem?_toArray, List.getElem?_cons_succ, List.getElem?_cons_zero, Option.some.injEq] at ho
              subst ho
              rw [if_pos (by rfl)]
              obtain rfl := hR.f14 (haft { on := 14, ground := .data } (by simp) rfl)
              clear hsz hi hLi hdn
              have HK := Aside.mk hK
              clear hK haft
              simp only [putL, Act.put, List.setIfInBounds_toArray, List.set_cons_zero, List.set_cons_succ]
              go_simp
              refine (HD.out.2.2.2.2 _).mono ?_
              rintro e w2 ⟨rfl, rfl⟩
              skip
              refine HK.out _ _ ?_
              simp only [J9, putL, Act.put, List.setIfInBounds_toArray, List.set_cons_zero, List.set_cons_succ]
              refine ⟨u32, u33, u34, u35, u36, u37, u38, u39, u40, u41, u42, u43, u44, u45, _, _, u48, u49, u50, u51, u52, u53, u54, _, rfl, .inl ⟨by rw [Array.getElem?_setIfInBounds_ne (by decide)]; exact h24, by rw [Array.getElem?_setIfInBounds_ne (by decide)]; exact h25, rfl, R9.set15 hR ?_⟩⟩
              rfl
            rcases i with _ | i
            · simp only [List.getElem?_toArray, List.getElem?_cons_succ, List.getElem?_cons_zero, Option.some.injEq] at ho
              subst ho
              rw [if_pos (by rfl)]
              have hmk := run_makeMap (P := Tryd.prog) 100 w'
              have H17 : L'[16]? ≠ some true := fun e => by rw [hLi] at e; cases e
              clear hsz hi hLi hdn
              have HK := Aside.mk hK
              clear hK haft
              simp only [putL, Act.put, List.setIfInBounds_toArray, List.set_cons_zero, List.set_cons_succ]
              go_simp
              skip
              refine HK.out _ _ ?_
              simp only [J9, putL, Act.put, List.setIfInBounds_toArray, List.set_cons_zero, List.set_cons_succ]
              refine ⟨u32, u33, u34, u35, u36, u37, u38, u39, u40, u41, u42, u43, u44, u45, u46, u47, _, u49, u50, u51, u52, u53, u54, _, rfl, .inl ⟨by rw [Array.getElem?_setIfInBounds_ne (by decide)]; exact h24, by rw [Array.getElem?_setIfInBounds_ne (by decide)]; exact h25, rfl, R9.set16 (hR.below ((Below.refl _ _).alloc (Nat.le_refl _) _)) ?_⟩⟩
              exact ⟨_, rfl, Nat.le_trans hR.ge hR.bel.size, 0, Nat.zero_le _, by rw [mapF_none (fun e => H17 (hR.g17 e)) (fun e => H17 (hR.g18 e))]; exact MapIs.made kB eY w'⟩
            rcases i with _ | i
            · simp only [List.getElem?_toArray, List.getElem?_cons_succ, List.getElem?_cons_zero, Option.some.injEq] at ho
              subst ho
              rw [if_pos (by rfl)]
              have hh := (hR.f16 (haft { on := 16, ground := .data } (by simp) rfl)).choose_spec
              generalize (hR.f16 (haft { on := 16, ground := .data } (by simp) rfl)).choose = mb at hh
              have e48 := hh.1
              have hmb := hh.2.1
              have hm2 := hh.2.2.choose_spec
              generalize hh.2.2.choose = m at hm2
              have hcl := cntL_le L'
              have hu := map_upd (K := kB) (E := eY) Tryd.underlying100 hm2.2 (show m < maxLen by unfold maxLen; omega) true trivial ⟨#[121, 101, 115]⟩ (show (3 : Nat) ≤ maxLen by decide)
              have hu2 := hu.choose_spec
              generalize hu.choose = w2 at hu2
              have hrun := hu2.1
              change (Instr.mapUpdate 100 (.map (some mb)) (.bool true) (.string ⟨#[121, 101, 115]⟩)).run Tryd.prog w' = .ok () w2 at hrun
              subst e48
              have hg := hu2.2.2
              have h16 := haft { on := 16, ground := .data } (by simp) rfl
              have n19 := hdn.no hLi (k := 19) (by kernel_rfl)
              have n23 := hdn.no hLi (k := 23) (by kernel_rfl)
              have HSZ := Aside.mk (And.intro (Nat.lt_of_lt_of_eq hi hsz.symm) hLi)
              clear hsz hi hLi hdn
              have HK := Aside.mk hK
              clear hK haft
              simp only [putL, Act.put, List.setIfInBounds_toArray, List.set_cons_zero, List.set_cons_succ]
              go_simp
              skip
              refine HK.out _ _ ?_
              simp only [J9, putL, Act.put, List.setIfInBounds_toArray, List.set_cons_zero, List.set_cons_succ]
              refine ⟨u32, u33, u34, u35, u36, u37, u38, u39, u40, u41, u42, u43, u44, u45, u46, u47, _, u49, u50, u51, u52, u53, u54, _, rfl, .inl ⟨by rw [Array.getElem?_setIfInBounds_ne (by decide)]; exact h24, by rw [Array.getElem?_setIfInBounds_ne (by decide)]; exact h25, rfl, R9.set17 hR n19 n23 h16 hmb hg ?_⟩⟩
              exact ⟨mb, rfl, hmb, m + 1, by rw [cntL_17 HSZ.out.1 HSZ.out.2]; omega, by rw [mapF_17 HSZ.out.1]; exact hu2.2.1⟩
            rcases i with _ | i
            · simp only [List.getElem?_toArray, List.getElem?_cons_succ, List.getElem?_cons_zero, Option.some.injEq] at ho
              subst ho
              rw [if_pos (by rfl)]
              have hh := (hR.f16 (haft { on := 16, ground := .data } (by simp) rfl)).choose_spec
              generalize (hR.f16 (haft { on := 16, ground := .data } (by simp) rfl)).choose = mb at hh
              have e48 := hh.1
              have hmb := hh.2.1
              have hm2 := hh.2.2.choose_spec
              generalize hh.2.2.choose = m at hm2
              have hcl := cntL_le L'
              have hu := map_upd (K := kB) (E := eY) Tryd.underlying100 hm2.2 (show m < maxLen by unfold maxLen; omega) false trivial ⟨#[110, 111]⟩ (show (2 : Nat) ≤ maxLen by decide)
              have hu2 := hu.choose_spec
              generalize hu.choose = w2 at hu2
              have hrun := hu2.1
              change (Instr.mapUpdate 100 (.map (some mb)) (.bool false) (.string ⟨#[110, 111]⟩)).run Tryd.prog w' = .ok () w2 at hrun
              subst e48
              have hg := hu2.2.2
              have h16 := haft { on := 16, ground := .data } (by simp) rfl
              have n19 := hdn.no hLi (k := 19) (by kernel_rfl)
              have n23 := hdn.no hLi (k := 23) (by kernel_rfl)
              have HSZ := Aside.mk (And.intro (Nat.lt_of_lt_of_eq hi hsz.symm) hLi)
              clear hsz hi hLi hdn
              have HK := Aside.mk hK
              clear hK haft
              simp only [putL, Act.put, List.setIfInBounds_toArray, List.set_cons_zero, List.set_cons_succ]
              go_simp
              skip
              refine HK.out _ _ ?_
              simp only [J9, putL, Act.put, List.setIfInBounds_toArray, List.set_cons_zero, List.set_cons_succ]
              refine ⟨u32, u33, u34, u35, u36, u37, u38, u39, u40, u41, u42, u43, u44, u45, u46, u47, _, u49, u50, u51, u52, u53, u54, _, rfl, .inl ⟨by rw [Array.getElem?_setIfInBounds_ne (by decide)]; exact h24, by rw [Array.getElem?_setIfInBounds_ne (by decide)]; exact h25, rfl, R9.set18 hR n19 n23 h16 hmb hg ?_⟩⟩
              exact ⟨mb, rfl, hmb, m + 1, by rw [cntL_18 HSZ.out.1 HSZ.out.2]; omega, by rw [mapF_18 HSZ.out.1]; exact hu2.2.1⟩
            rcases i with _ | i
            · simp only [List.getElem?_toArray, List.getElem?_cons_succ, List.getElem?_cons_zero, Option.some.injEq] at ho
              subst ho
              rw [if_pos (by rfl)]
              have hh := (hR.f16 (haft { on := 16, ground := .data } (by simp) rfl)).choose_spec
              generalize (hR.f16 (haft { on := 16, ground := .data } (by simp) rfl)).choose = mb at hh
              have e48 := hh.1
              have hmb := hh.2.1
              have hm2 := hh.2.2
              rw [mapF_all (haft { on := 17, ground := .data } (by simp) rfl) (haft { on := 18, ground := .data } (by simp) rfl)] at hm2
              subst e48
              clear hsz hi hLi hdn
              have HK := Aside.mk hK
              clear hK haft
              simp only [putL, Act.put, List.setIfInBounds_toArray, List.set_cons_zero, List.set_cons_succ]
              go_simp
              skip
              refine HK.out _ _ ?_
              simp only [J9, putL, Act.put, List.setIfInBounds_toArray, List.set_cons_zero, List.set_cons_succ]
              refine ⟨u32, u33, u34, u35, u36, u37, u38, u39, u40, u41, u42, u43, u44, u45, u46, u47, _, _, u50, u51, u52, u53, u54, _, rfl, .inl ⟨by rw [Array.getElem?_setIfInBounds_ne (by decide)]; exact h24, by rw [Array.getElem?_setIfInBounds_ne (by decide)]; exact h25, rfl, R9.set19 hR ?_⟩⟩
              exact ⟨mb, rfl, hmb, hm2.choose, hm2.choose_spec.2⟩
            rcases i with _ | i
            · simp only [List.getElem?_toArray, List.getElem?_cons_succ, List.getElem?_cons_zero, Option.some.injEq] at ho
              subst ho
              rw [if_pos (by rfl)]
              clear hsz hi hLi hdn
              have HK := Aside.mk hK
              clear hK haft
              simp only [putL, Act.put, List.setIfInBounds_toArray, List.set_cons_zero, List.set_cons_succ]
              go_simp
              skip
              refine HK.out _ _ ?_
              simp only [J9, putL, Act.put, List.setIfInBounds_toArray, List.set_cons_zero, List.set_cons_succ]
              refine ⟨u32, u33, u34, u35, u36, u37, u38, u39, u40, u41, u42, u43, u44, u45, u46, u47, u48, u49, _, u51, u52, u53, u54, _, rfl, .inl ⟨by rw [Array.getElem?_setIfInBounds_ne (by decide)]; exact h24, by rw [Array.getElem?_setIfInBounds_ne (by decide)]; exact h25, rfl, R9.set20 hR ?_⟩⟩
              rfl
            rcases i with _ | i
            · simp only [List.getElem?_toArray, List.getElem?_cons_succ, List.getElem?_cons_zero, Option.some.injEq] at ho
              subst ho
              rw [if_pos (by rfl)]
              obtain rfl := hR.f20 (haft { on := 20, ground := .data } (by simp) rfl)
              have hc : w'.cell? ⟨wr.heap.size, 5, none⟩ = some (.bool r.allow) := hR.bk.cell 5
              clear hsz hi hLi hdn
              have HK := Aside.mk hK
              clear hK haft
              simp only [putL, Act.put, List.setIfInBounds_toArray, List.set_cons_zero, List.set_cons_succ]
              go_simp
              skip
              refine HK.out _ _ ?_
              simp only [J9, putL, Act.put, List.setIfInBounds_toArray, List.set_cons_zero, List.set_cons_succ]
              refine ⟨u32, u33, u34, u35, u36, u37, u38, u39, u40, u41, u42, u43, u44, u45, u46, u47, u48, u49, _, _, u52, u53, u54, _, rfl, .inl ⟨by rw [Array.getElem?_setIfInBounds_ne (by decide)]; exact h24, by rw [Array.getElem?_setIfInBounds_ne (by decide)]; exact h25, rfl, R9.set21 hR ?_⟩⟩
              rfl
            rcases i with _ | i
            · simp only [List.getElem?_toArray, List.getElem?_cons_succ, List.getElem?_cons_zero, Option.some.injEq] at ho
              subst ho
              rw [if_pos (by rfl)]
              have hh := (hR.f19 (haft { on := 19, ground := .data } (by simp) rfl)).choose_spec
              generalize (hR.f19 (haft { on := 19, ground := .data } (by simp) rfl)).choose = mb at hh
              have e49 := hh.1
              have hm2 := hh.2.2.choose_spec
              generalize hh.2.2.choose = m at hm2
              obtain rfl := hR.f21 (haft { on := 21, ground := .data } (by simp) rfl)
              have hlk : (Instr.lookup 100 (.map (some mb)) (.bool r.allow) false).run Tryd.prog w' = .ok (.string (yesS r.allow)) w' := map_run (K := kB) (E := eY) Tryd.underlying100 hm2 r.allow trivial
              subst e49
              clear hsz hi hLi hdn
              have HK := Aside.mk hK
              clear hK haft
              simp only [putL, Act.put, List.setIfInBounds_toArray, List.set_cons_zero, List.set_cons_succ]
              go_simp
              skip
              refine HK.out _ _ ?_
              simp only [J9, putL, Act.put, List.setIfInBounds_toArray, List.set_cons_zero, List.set_cons_succ]
              refine ⟨u32, u33, u34, u35, u36, u37, u38, u39, u40, u41, u42, u43, u44, u45, u46, u47, u48, _, u50, _, _, u53, u54, _, rfl, .inl ⟨by rw [Array.getElem?_setIfInBounds_ne (by decide)]; exact h24, by rw [Array.getElem?_setIfInBounds_ne (by decide)]; exact h25, rfl, R9.set22 hR ?_⟩⟩
              rfl
            rcases i with _ | i
            · simp only [List.getElem?_toArray, List.getElem?_cons_succ, List.getElem?_cons_zero, Option.some.injEq] at ho
              subst ho
              rw [if_pos (by rfl)]
              obtain rfl := hR.f3 (haft { on := 3, ground := .data } (by simp) rfl)
              obtain rfl := hR.f6 (haft { on := 6, ground := .data } (by simp) rfl)
              obtain rfl := hR.f9 (haft { on := 9, ground := .data } (by simp) rfl)
              obtain rfl := hR.f12 (haft { on := 12, ground := .data } (by simp) rfl)
              obtain rfl := hR.f15 (haft { on := 15, ground := .data } (by simp) rfl)
              obtain rfl := hR.f22 (haft { on := 22, ground := .data } (by simp) rfl)
              clear hsz hi hLi hdn
              have HK := Aside.mk hK
              clear hK haft
              simp only [putL, Act.put, List.setIfInBounds_toArray, List.set_cons_zero, List.set_cons_succ]
              go_simp
              skip
              refine HK.out _ _ ?_
              simp only [J9, putL, Act.put, List.setIfInBounds_toArray, List.set_cons_zero, List.set_cons_succ]
              refine ⟨u32, u33, u34, _, u36, u37, _, u39, u40, _, u42, u43, _, u45, u46, _, u48, u49, u50, u51, _, _, u54, _, rfl, .inl ⟨by rw [Array.getElem?_setIfInBounds_ne (by decide)]; exact h24, by rw [Array.getElem?_setIfInBounds_ne (by decide)]; exact h25, rfl, R9.set23 (hR.below ((Below.refl _ _).alloc (Nat.le_refl _) _)) ?_⟩⟩
              exact ⟨_, rfl, Nat.le_trans hR.ge hR.bel.size, (Own.lit str 9 w' 0 (fun _ => False) (Nat.zero_le _) (reps_str w' _ (rulW r)) (show 6 ≤ 9223372036854775807 by decide)).row.2.2.mono fun _ _ _ => trivial⟩
            rcases i with _ | i
            · have hall := hdn.all (n := 24) ho haft (by kernel_rfl)
              have hsz24 := Nat.lt_of_lt_of_eq hi hsz.symm
              simp only [List.getElem?_toArray, List.getElem?_cons_succ, List.getElem?_cons_zero, Option.some.injEq] at ho
              subst ho
              rw [if_pos (by rfl)]
              obtain rfl := hR.f0 (haft { on := 0, ground := .data } (by simp) rfl)
              have hh := (hR.f23 (haft { on := 23, ground := .data } (by simp) rfl)).choose_spec
              generalize (hR.f23 (haft { on := 23, ground := .data } (by simp) rfl)).choose = nb at hh
              have e53 := hh.1
              have hh2 := hh.2
              subst e53
              have HBA := Aside.mk (Nat.le_trans (Nat.le_trans HBX.out hR.ge) hR.bel.size)
              clear hsz hi hLi hdn
              have HK := Aside.mk hK
              clear hK haft
              simp only [putL, Act.put, List.setIfInBounds_toArray, List.set_cons_zero, List.set_cons_succ]
              skip
              refine wp_row (w0 := w') str w1.heap.size (.tmp 32) (.tmp 53) 33 9 (.string ByteArray.empty) 16 rfl Tryd.underlying33 infoStJ rfl Nat.one_pos (Nat.succ_pos _) (.slice AL (rulWK o.rules k).length cL) (rulWK o.rules k) (rulW r) ⟨nb, 0, none⟩ 6 (fun _ => False) (fun _ => True) 6 rfl (by rfl) (by rfl) hh2.2 (fun _ _ h => h) hR.own (Below.refl _ _) HBA.out (by rw [HLW.out]; exact HLL.out) ?_
              intro v1 w5 HO1 HBz hg hat
              refine HK.out _ _ ?_
              simp only [J9, putL, Act.put, List.setIfInBounds_toArray, List.set_cons_zero, List.set_cons_succ]
              refine ⟨_, u33, u34, u35, u36, u37, u38, u39, u40, u41, u42, u43, u44, u45, u46, u47, u48, u49, u50, u51, u52, _, _, _, rfl, .inr ⟨all_25 hall hsz24, own_form9 HO1 rfl, ⟨w', hR.bel, hg⟩, fun h => by rw [Array.getElem?_setIfInBounds_ne (by decide), h25] at h; cases h⟩⟩
            rcases i with _ | i
            · simp only [List.getElem?_toArray, List.getElem?_cons_succ, List.getElem?_cons_zero, Option.some.injEq] at ho
              subst ho
              rw [if_pos (by rfl)]
              skip
              exact absurd (haft { on := 24, ground := .data } (by simp) rfl) (by rw [h24]; simp)
            exact absurd ho (by simp)
          · intro L' a w' hall hJ
            obtain ⟨u32, u33, u34, u35, u36, u37, u38, u39, u40, u41, u42, u43, u44, u45, u46, u47, u48, u49, u50, u51, u52, u53, u54, u3, rfl, hJ⟩ := hJ
            rcases hJ with ⟨h24, h25, rfl, hR⟩ | ⟨hall2, hfin, hwb, h3⟩
            · exact absurd (hall 24 (show 24 < 26 by decide)) (by rw [h24]; simp)
            · have e3 := h3 (hall 25 (show 25 < 26 by decide))
              have hx := hfin.choose_spec
              generalize hfin.choose = AX at hx
              have hx2 := hx.choose_spec
              generalize hx.choose = cX at hx2
              have e54 := hx2.1
              have hO := Aside.mk (HK.out ▸ hx2.2)
              have hwb2 := hwb.choose_spec
              generalize hwb.choose = wb at hwb2
              have HBF := Aside.mk ((below_step hbw8 hwb2.1).grown hwb2.2 (below_step hbw8 hwb2.1).size (fun j hj => (HO.out.lt j hj).1))
              subst e3
              subst e54
              clear hall hall2 hfin hwb h3 hx hx2 hwb2
              subst hA
              simp only [putL, Act.put, List.setIfInBounds_toArray, List.set_cons_zero, List.set_cons_succ]
              go_wp2_with fail
              exact ⟨⟨k + 1, by omega, by go_num, hO, HBF⟩, by simp [intOf]; omega⟩
        · obtain rfl : k = o.rules.length := by omega
          have HLEN := Aside.mk (show (wordsW o).length = (rulWK o.rules o.rules.length).length by rw [HWO.out])
          have HWL := Aside.mk (show (wordsW o).length ≤ 125 by rw [HWO.out, rulWK_len o.rules (Nat.le_refl _)]; omega)
          have HW := Aside.mk (show str.Row wr (fun _ => True) AL (wordsW o) from (HWO.out ▸ HO.out.row.2.2).mono fun _ _ _ => trivial)
          have HBW := Aside.mk (below_step HX1.out.2.2.2.2 HB.out)
          have HCAP := Aside.mk (show (wordsW o).length ≤ cL by rw [HWO.out]; exact hcL)
          clear HO HB
          go_wp2_with fail
          refine (joinN AL cL (rulWK o.rules o.rules.length).length (wordsW o) _ _ _ HW.out HLEN.out HCAP.out (Nat.le_trans HWL.out (by decide)) (by rw [words_plain HE.out]; exact Nat.le_trans HPS.out (by decide))).mono ?_
          rw [words_plain HE.out]
          rintro e w8 ⟨rfl, hb8⟩
          have HB8 := Aside.mk (below_step HBW.out hb8)
          clear hb8
          have HLN := Aside.mk (show lineS o = plainS o ++ ⟨#[32, 61]⟩ ++ decS (sumV (plainS o)) ++ ⟨#[10]⟩ from rfl)
          have hpz := HPS.out
          generalize plainS o = p at *
          have HSM := Aside.mk (refSum p w8 (by omega))
          obtain ⟨hs0, hs1⟩ := sumV_small p
          have hds := decS_len (n := sumV p) (by omega) (by omega)
          have HIT := Aside.mk (decC (sumV p) (by omega) (by omega) w8)
          generalize sumV p = m at *
          generalize decS m = ds at *
          go_wp2_with fail
          refine HSM.out.mono ?_
          rintro e w9 ⟨rfl, rfl⟩
          go_wp2_with fail
          refine HIT.out.mono ?_
          rintro e w9 ⟨rfl, rfl⟩
          go_wp2_with fail
          go_ret
          exact ⟨by rw [HLN.out]; rfl, HB8.out⟩
    · have k1 : (o.kind == 1) = false := by rw [hk]; rfl
      have k2 : (o.kind == 2) = true := by rw [hk]; rfl
      have k3 : (o.kind == 3) = false := by rw [hk]; rfl
      have HWO := Aside.mk (show wordsW o = [⟨#[112, 117, 116]⟩, decS o.who.role, decS o.who.why, decS o.who.time] ++ [textV o.r] by
        unfold wordsW
        rw [if_pos hk]
        rfl)
      have HLEN := Aside.mk (show (wordsW o).length = 5 by rw [HWO.out]; rfl)
      have HWL := Aside.mk (show (wordsW o).length ≤ 125 by rw [HLEN.out]; decide)
      have HLB : Aside (([⟨#[112, 117, 116]⟩, decS o.who.role, decS o.who.why, decS o.who.time].length + 1) * 16 ≤ 140737488355328) := ⟨(by decide : (4 + 1) * 16 ≤ 140737488355328)⟩
      have HBS : Aside (w.heap.size ≤ w0.heap.size) := ⟨HX.out.2.2.2.2.size⟩
      have HT := Aside.mk (refText o.r B2 B3 e2 e3 ok2 ok3 hrr w1 HX1.out.2.2.1 HX1.out.2.2.2.1)
      clear hk
      go_wp2_with fail
      refine HT.out.mono ?_
      rintro e w2 ⟨rfl, hb⟩
      have HO2 := Aside.mk (HO.out.below hb)
      have HB2 := Aside.mk (below_step HX1.out.2.2.2.2 hb)
      have HZ2 : Aside (w0.heap.size ≤ (w2.alloc (.cells #[.string (textV o.r)] 9)).heap.size) := ⟨Nat.le_trans (Nat.le_trans HB1.out.size hb.size) (by simp)⟩
      clear hb q1
      go_wp2_with (at_builtin
                   refine list_one (w0 := w2.alloc (.cells #[.string (textV o.r)] 9)) str w0.heap.size rfl (.tmp 58) (.tmp 62) 33 9 (.string ByteArray.empty) 16 rfl Tryd.underlying33 infoStJ rfl Nat.one_pos (Nat.succ_pos _) (.slice (some ⟨w0.heap.size, 0, none⟩) 4 4) [⟨#[112, 117, 116]⟩, decS o.who.role, decS o.who.why, decS o.who.time] (textV o.r) [.string (textV o.r)] (fun _ => False) w2.heap.size 1 rfl rfl (blk_new w2 _ _) rfl (HO2.out.below ((Below.refl _ _).alloc (Nat.le_refl _) _)) (Below.refl _ _) HZ2.out HLB.out ?_
                   intro v1 w5 HO1 HBz hg hat
                   obtain ⟨AX, cX, rfl, hcX⟩ := HO1.sl.frm
                   have HW := Aside.mk (show str.Row w5 (fun _ => True) AX (wordsW o) from HWO.out ▸ (HO1.row.2.2.mono fun _ _ _ => trivial))
                   have HBW := Aside.mk ((HB2.out.alloc HB2.out.size (.cells #[.string (textV o.r)] 9)).grown hg (Nat.le_trans HB2.out.size (by simp)) fun j hj => Nat.le_trans HBS.out (HO2.out.lt j hj).1)
                   have HCAP := Aside.mk (show (wordsW o).length ≤ cX from HWO.out ▸ hcX)
                   clear HO1 HBz hg hat hcX)
      refine (joinN AX cX 5 (wordsW o) _ _ _ HW.out HLEN.out HCAP.out (Nat.le_trans HWL.out (by decide)) (by rw [words_plain HE.out]; exact Nat.le_trans HPS.out (by decide))).mono ?_
      rw [words_plain HE.out]
      rintro e w8 ⟨rfl, hb8⟩
      have HB8 := Aside.mk (below_step HBW.out hb8)
      clear hb8
      have HLN := Aside.mk (show lineS o = plainS o ++ ⟨#[32, 61]⟩ ++ decS (sumV (plainS o)) ++ ⟨#[10]⟩ from rfl)
      have hpz := HPS.out
      generalize plainS o = p at *
      have HSM := Aside.mk (refSum p w8 (by omega))
      obtain ⟨hs0, hs1⟩ := sumV_small p
      have hds := decS_len (n := sumV p) (by omega) (by omega)
      have HIT := Aside.mk (decC (sumV p) (by omega) (by omega) w8)
      generalize sumV p = m at *
      generalize decS m = ds at *
      go_wp2_with fail
      refine HSM.out.mono ?_
      rintro e w9 ⟨rfl, rfl⟩
      go_wp2_with fail
      refine HIT.out.mono ?_
      rintro e w9 ⟨rfl, rfl⟩
      go_wp2_with fail
      go_ret
      exact ⟨by rw [HLN.out]; rfl, HB8.out⟩
    · have k1 : (o.kind == 1) = false := by rw [hk]; rfl
      have k2 : (o.kind == 2) = false := by rw [hk]; rfl
      have k3 : (o.kind == 3) = true := by rw [hk]; rfl
      have HWO := Aside.mk (show wordsW o = [⟨#[99, 117, 116]⟩, decS o.who.role, decS o.who.why, decS o.who.time] ++ [o.id, decS o.r.cats] by
        unfold wordsW
        rw [if_neg (by omega), if_pos hk]
        rfl)
      have HLEN := Aside.mk (show (wordsW o).length = 6 by rw [HWO.out]; rfl)
      have HWL := Aside.mk (show (wordsW o).length ≤ 125 by rw [HLEN.out]; decide)
      have HLB : Aside (([⟨#[99, 117, 116]⟩, decS o.who.role, decS o.who.why, decS o.who.time].length + [o.id, decS o.r.cats].length) * 16 ≤ 140737488355328) := ⟨(by decide : (4 + 2) * 16 ≤ 140737488355328)⟩
      have HBS : Aside (w.heap.size ≤ w0.heap.size) := ⟨HX.out.2.2.2.2.size⟩
      have HDC := Aside.mk (decC o.r.cats (by omega) (by omega))
      have q2 := HBQ.out.four
      clear hk hc hi
      go_upto_region 14 with fail
      have HB3 := Aside.mk (below_set (w := w0) HB1.out (p := ⟨w0.heap.size, 0, none⟩) (Nat.le_refl _) (.string ⟨#[99, 117, 116]⟩))
      have ho3 : str.Own 9 (w1.setCell ⟨w0.heap.size, 0, none⟩ (.string ⟨#[99, 117, 116]⟩)) w0.heap.size (fun _ => False) (.slice (some ⟨w0.heap.size, 0, none⟩) 4 4) [⟨#[99, 117, 116]⟩, decS o.who.role, decS o.who.why, decS o.who.time] :=
        own_set HO.out (i := 0) (Nat.succ_pos 3) (x := ⟨#[99, 117, 116]⟩) (cs := [.string ⟨#[99, 117, 116]⟩]) rfl
      have HO3 := Aside.mk ho3
      clear ho3 q1 q2
      generalize w1.setCell ⟨w0.heap.size, 0, none⟩ (.string ⟨#[99, 117, 116]⟩) = w3 at *
      have HRW := Aside.mk (((Own.lit str 9 w3 0 (fun _ => False) (Nat.zero_le _) (reps_str w3 _ [o.id, decS o.r.cats]) (by simp)).row.2.2.mono (ok' := fun _ => True) fun _ _ _ => trivial).below (Below.refl _ _).drew)
      have hbA : Below w0.heap.size w0 (w3.alloc (.cells #[.string o.id, .string (decS o.r.cats)] 9)).drew := (HB3.out.alloc HB3.out.size _).drew
      have HBA := Aside.mk hbA
      have HOA := Aside.mk ((HO3.out.below ((Below.refl w3.heap.size w3).alloc (Nat.le_refl _) (.cells #[.string o.id, .string (decS o.r.cats)] 9))).below (Below.refl _ _).drew)
      clear hbA
      go_region_held3 (fun w' => w'.cell? ⟨w.heap.size, 9, none⟩ = some (.string o.id) ∧ w'.cell? ⟨w.heap.size, 6, none⟩ = some (.int .i64 o.r.cats) ∧ Aside (Below w0.heap.size w0 w'))
        (first
         | with_reducible exact plS HX.out.1 HB3.out.drew
         | assumption
         | with_reducible exact plS HX.out.1 HBA.out)
        (first
         | (go_at_call 77; with_reducible refine (HDC.out _).mono ?_; rintro e w' ⟨rfl, rfl⟩)
         | (refine step_row (w0 := w0) str w0.heap.size rfl (.tmp 68) (.tmp 75) 33 9 (.string ByteArray.empty) 16 rfl Tryd.underlying33 infoStJ rfl Nat.one_pos (Nat.succ_pos _) (.slice (some ⟨w0.heap.size, 0, none⟩) 4 4) [⟨#[99, 117, 116]⟩, decS o.who.role, decS o.who.why, decS o.who.time] [o.id, decS o.r.cats] ⟨w3.heap.size, 0, none⟩ 2 (fun _ => False) (fun _ => True) 2 rfl rfl rfl HRW.out (fun _ _ h => h) HOA.out HBA.out HBA.out.size HLB.out ?_
            intro v1 w5 HO1 HBz hg hat
            obtain ⟨AX, cX, rfl, hcX⟩ := HO1.sl.frm
            have hx := plS HX.out.1 HBz
            have HW := Aside.mk (show str.Row w5 (fun _ => True) AX (wordsW o) from HWO.out ▸ (HO1.row.2.2.mono fun _ _ _ => trivial))
            have HBW := Aside.mk (HX.out.2.2.2.2.trans (HBz.mono HBS.out))
            have HCAP := Aside.mk (show (wordsW o).length ≤ cX from HWO.out ▸ hcX)
            clear HO1 HBz hg hat hcX))
      go_wp2_with fail
      refine (joinN AX cX 6 (wordsW o) _ _ _ HW.out HLEN.out HCAP.out (Nat.le_trans HWL.out (by decide)) (by rw [words_plain HE.out]; exact Nat.le_trans HPS.out (by decide))).mono ?_
      rw [words_plain HE.out]
      rintro e w8 ⟨rfl, hb8⟩
      have HB8 := Aside.mk (below_step HBW.out hb8)
      clear hb8
      have HLN := Aside.mk (show lineS o = plainS o ++ ⟨#[32, 61]⟩ ++ decS (sumV (plainS o)) ++ ⟨#[10]⟩ from rfl)
      have hpz := HPS.out
      generalize plainS o = p at *
      have HSM := Aside.mk (refSum p w8 (by omega))
      obtain ⟨hs0, hs1⟩ := sumV_small p
      have hds := decS_len (n := sumV p) (by omega) (by omega)
      have HIT := Aside.mk (decC (sumV p) (by omega) (by omega) w8)
      generalize sumV p = m at *
      generalize decS m = ds at *
      go_wp2_with fail
      refine HSM.out.mono ?_
      rintro e w9 ⟨rfl, rfl⟩
      go_wp2_with fail
      refine HIT.out.mono ?_
      rintro e w9 ⟨rfl, rfl⟩
      go_wp2_with fail
      go_ret
      exact ⟨by rw [HLN.out]; rfl, HB8.out⟩
end Go.Proofs.WK
