/-
  wytop.ops.
-/
import Derived.Test.YtljjiicjnoljbaaTopR
import Derived.Deep.DeepCutAuto
import Derived.Test.YtljjiicjnoljbaaWk0
namespace Go.Proofs.WK
open Go.RowKit Rp
namespace Rp
def opRp : Rp OpV where
  sz := 12
  K := fun w ok o cs => ∃ v1 v2 v3, cs = [.int .i64 o.kind, .int .i64 o.who.role, .int .i64 o.who.why, .int .i64 o.who.time, v1, .string o.r.id, .int .i64 o.r.cats, v2, v3, .string o.id, .string o.f.key, .string o.f.val] ∧
    rulR.Sl w ok v1 o.rules ∧ fldR.Sl w ok v2 o.r.fields ∧ str.Sl w ok v3 o.r.refs
  len := by rintro _ _ _ _ ⟨v1, v2, v3, rfl, _⟩; rfl
  one := by
    rintro _ _ _ _ ⟨v1, v2, v3, rfl, h1, h2, h3⟩ u hu
    simp only [List.mem_cons, List.not_mem_nil, or_false] at hu
    rcases hu with rfl | rfl | rfl | rfl | rfl | rfl | rfl | rfl | rfl | rfl | rfl | rfl <;> first | rfl | exact h1.one | exact h2.one | exact h3.one
  mono := by rintro _ _ _ _ _ hk ⟨v1, v2, v3, rfl, h1, h2, h3⟩; exact ⟨v1, v2, v3, rfl, h1.mono hk, h2.mono hk, h3.mono hk⟩
  move := by rintro _ _ _ _ _ hk ⟨v1, v2, v3, rfl, h1, h2, h3⟩; exact ⟨v1, v2, v3, rfl, h1.move hk, h2.move hk, h3.move hk⟩
end Rp
theorem withinV_wrap (x n : Int) : withinV (IntKind.i64.wrap x) n = withinV x n := by
  have e : IntKind.i64.wrap x % 18446744073709551616 = x % 18446744073709551616 := by
    simp [IntKind.wrap, IntKind.bits, IntKind.signed]
    try omega
  unfold withinV
  rw [e]
theorem infoOp : (Try.prog.info? 62).map (fun i => (i.zero, i.size, i.bytes)) = some (some (.agg #[.int .i64 0, .int .i64 0, .int .i64 0, .int .i64 0, .slice none 0 0, .string ByteArray.empty, .int .i64 0, .slice none 0 0, .slice none 0 0, .string ByteArray.empty, .string ByteArray.empty, .string ByteArray.empty]), 12, 176) := by kernel_rfl
theorem ints_at {w : World} {ok : Nat → Prop} {A : Option Addr} {l : List (List Int)} (h : (Rp.slice int).Row w ok A l) {k : Nat} (hk : k < l.length) : ∃ ad B d, A = some ad ∧ ad.block < w.heap.size ∧ w.cell? (ad.add k) = some (.slice B l[k].length d) ∧ l[k].length ≤ d ∧ int.Row w ok B l[k] := by
  obtain ⟨ad, u, e, h2, _, hK, hc⟩ := h.at1 rfl hk
  obtain ⟨v, hv, B, d, rfl, hd, hr⟩ := hK
  obtain rfl : u = _ := by simpa using hv
  exact ⟨ad, B, d, e, h2, hc, hd, hr⟩
theorem three_at {w : World} {ok : Nat → Prop} {B : Option Addr} {x y z : Int} {r : List Int} (h : int.Row w ok B (x :: y :: z :: r)) : ∃ bd, B = some bd ∧ bd.block < w.heap.size ∧ w.cell? bd = some (.int .i64 x) ∧ w.cell? ⟨bd.block, bd.off + 1, none⟩ = some (.int .i64 y) ∧ w.cell? ⟨bd.block, bd.off + 2, none⟩ = some (.int .i64 z) := by
  obtain ⟨bd, e, hb, y0⟩ := int_at (k := 0) h (by simp)
  obtain ⟨b1, e1, _, y1⟩ := int_at (k := 1) h (by simp)
  obtain ⟨b2, e2, _, y2⟩ := int_at (k := 2) h (by simp)
  subst e
  injection e1 with e1
  injection e2 with e2
  subst e1 e2
  exact ⟨_, rfl, hb, by simpa [Addr.add] using y0, by simpa [Addr.add] using y1, by simpa [Addr.add] using y2⟩
abbrev K3 (w : World) (bd : Addr) (x y z : Int) : Prop := w.cell? bd = some (.int .i64 x) ∧ w.cell? ⟨bd.block, bd.off + 1, none⟩ = some (.int .i64 y) ∧ w.cell? ⟨bd.block, bd.off + 2, none⟩ = some (.int .i64 z)
theorem K3.step {w w' : World} {bd : Addr} {x y z : Int} (h : K3 w bd x y z) (hb : Below w.heap.size w w') : K3 w' bd x y z := ⟨cell_below hb h.1, cell_below hb h.2.1, cell_below hb h.2.2⟩
theorem K3.al {w : World} {bd : Addr} {x y z : Int} (h : K3 w bd x y z) (o : Obj) : K3 (w.alloc o).drew bd x y z := K3.step (w' := w.alloc o) h ((Below.refl _ _).alloc (Nat.le_refl _) _)
theorem kinds_cell {w : World} {n i : Nat} (h : Bk w n (kindsL.map (Value.int .i64))) (hi : i < 8) : w.cell? ⟨n, i, none⟩ = some (.int .i64 (kindsL[i]?.getD 0)) := by
  rw [h.cell i, List.getElem?_map]
  have : i < kindsL.length := hi
  rw [List.getElem?_eq_getElem this]
  rfl
theorem xy_cell {w : World} {n i : Nat} (h : Bk w n (xyS.map Value.string)) (hi : i < 2) : w.cell? ⟨n, i, none⟩ = some (.string (xyS[i]?.getD ⟨#[]⟩)) := by
  rw [h.cell i, List.getElem?_map]
  have : i < xyS.length := hi
  rw [List.getElem?_eq_getElem this]
  rfl
theorem abc_get {i : Nat} (hi : i < 3) : [Value.string ⟨#[97]⟩, .string ⟨#[98]⟩, .string ⟨#[99]⟩][i]? = some (.string (abcS[i]?.getD ⟨#[]⟩)) := by
  match i, hi with
  | 0, _ => rfl
  | 1, _ => rfl
  | 2, _ => rfl
theorem sl_fld1 {w : World} {n : Nat} {x : Fld} (h : Bk w n (fldC x)) {ok : Nat → Prop} (ho : ok n) : fldR.Sl w ok (.slice (some ⟨n, 0, none⟩) 1 1) [x] := by
  refine ⟨_, 1, rfl, Nat.le_refl _, by simp, fun j p hp => ?_⟩
  match j, hp with
  | 0, hp =>
    obtain rfl : x = p := by simpa using hp
    refine ⟨_, rfl, ho, h.lt, fldC x, fldK.2 rfl, fun i u hu => ?_⟩
    rw [add_plain, h.cell]
    simpa using hu
abbrev zeroOp : Value := .agg #[.int .i64 0, .int .i64 0, .int .i64 0, .int .i64 0, .slice none 0 0, .string ByteArray.empty, .int .i64 0, .slice none 0 0, .slice none 0 0, .string ByteArray.empty, .string ByteArray.empty, .string ByteArray.empty]
abbrev K0 (w : World) (n : Nat) (q : Who) : Prop := w.cell? ⟨n, 0, none⟩ = some (.int .i64 q.role) ∧ w.cell? ⟨n, 1, none⟩ = some (.int .i64 q.why) ∧ w.cell? ⟨n, 2, none⟩ = some (.int .i64 q.time)
theorem K0.step {w w' : World} {n : Nat} {q : Who} (h : K0 w n q) (hb : Below w.heap.size w w') : K0 w' n q := ⟨cell_below hb h.1, cell_below hb h.2.1, cell_below hb h.2.2⟩
set_option maxHeartbeats 16000000 in
set_option maxRecDepth 100000 in
theorem topOps (A : Option Addr) (c : Nat) (l : List (List Int)) (ok : Nat → Prop) (w : World) (hr : (Rp.slice int).Row w ok A l) (hc : l.length ≤ c) :
    Calls Try.prog 32 #[.slice A l.length c] w fun e w' => ∃ v, e = .returned v ∧ opRp.Sl w' (fun k => w.heap.size ≤ k) v (opsV l) ∧ Below w.heap.size w w' := by
  have HR := Aside.mk (hr.take 25)
  have hl := hr.1
  have m1 : min (l.length : Int) 25 = ((l.take 25).length : Int) := by rw [List.length_take]; omega
  have m2 : (0 : Int) ≤ ((l.take 25).length : Int) := by omega
  have m3 : ((l.take 25).length : Int) ≤ (c : Int) := by rw [List.length_take]; omega
  have HN : Aside ((l.take 25).length ≤ 25) := ⟨by rw [List.length_take]; omega⟩
  obtain ⟨L, hL⟩ : ∃ L, l.take 25 = L := ⟨_, rfl⟩
  have e0 : opsV l = opsK L := by rw [← hL]; rfl
  rw [e0]
  rw [hL] at m1 m2 m3 HR HN
  clear hr e0 hL
  go_enter Try.func32, Try.ntmps32
  go_wp2_with fail
  go_loopw [3, 15] (fun o i wr => ∃ k : Nat, k ≤ L.length ∧ i = .int .i64 k ∧ Aside (opRp.Own 62 wr w.heap.size (fun j => w.heap.size ≤ j) o (opsK (L.take k))) ∧ Aside (Below w.heap.size w wr)) (fun _ i _ => L.length - (intOf i).toNat)
  case atStart => exact ⟨0, Nat.zero_le _, rfl, ⟨Own.nil _ _ _ _ _⟩, ⟨Below.refl _ _⟩⟩
  case round =>
    obtain ⟨k, hk, rfl, HO, HB⟩ := hrel
    have hN := HN.out
    obtain ⟨Ao, co, rfl⟩ := Sl.form HO.out.sl
    by_cases hlt : k < L.length
    · have p0 : (0 : Int) ≤ (k : Int) := by omega
      have p1 : (k : Int) < (L.length : Int) := by omega
      obtain ⟨ad, B, d, rfl, _, x0, x1, x2⟩ := ints_at (HR.out.below HB.out) hlt
      have hst := opsK_step hlt
      match hcs : L[k] with
      | [] =>
        rw [hcs] at hst x0
        have HE := Aside.mk (hst.trans (by show _ ++ [] = _; exact List.append_nil _))
        go_wp2_with fail
        refine ⟨⟨k + 1, by omega, by go_num, ⟨by rw [HE.out]; exact HO.out⟩, HB⟩, by simp [intOf]; omega⟩
      | [_] =>
        rw [hcs] at hst x0
        have HE := Aside.mk (hst.trans (by show _ ++ [] = _; exact List.append_nil _))
        go_wp2_with fail
        refine ⟨⟨k + 1, by omega, by go_num, ⟨by rw [HE.out]; exact HO.out⟩, HB⟩, by simp [intOf]; omega⟩
      | [_, _] =>
        rw [hcs] at hst x0
        have HE := Aside.mk (hst.trans (by show _ ++ [] = _; exact List.append_nil _))
        go_wp2_with fail
        refine ⟨⟨k + 1, by omega, by go_num, ⟨by rw [HE.out]; exact HO.out⟩, HB⟩, by simp [intOf]; omega⟩
      | x :: y :: z :: r =>
        rw [hcs] at x0 x1 x2 hst
        obtain ⟨bd, rfl, hbl, y0, y1, y2⟩ := three_at x2
        have r0 : (3 : Int) ≤ ((x :: y :: z :: r).length : Int) := by simp; omega
        generalize (x :: y :: z :: r).length = m at *
        have r1 : decide ((m : Int) < 3) = false := by simp; omega
        have g0 : (0 : Int) < (m : Int) := by omega
        have g0n : 0 < m := by omega
        have g1 : (1 : Int) < (m : Int) := by omega
        have g2 : (2 : Int) < (m : Int) := by omega
        have hal1 : Below wr.heap.size wr (wr.alloc (.cells #[.int .i64 (withinV x 3), .int .i64 (withinV y 2), .int .i64 (withinV z 30)] 42)).drew := below_drewN ((Below.refl _ _).alloc (Nat.le_refl _) _) 1
        go_upto_region 6 with fail
        go_cut [6] (fun p wx => ∃ n, p = .pointer (some ⟨n, 0, none⟩) ∧ Aside (K0 wx n ⟨withinV x 3, withinV y 2, withinV z 30⟩ ∧ K3 wx bd x y z ∧ Below wr.heap.size wr wx))
        case first =>
          go_region_held3 (fun w' => w'.cell? bd = some (.int .i64 x) ∧ w'.cell? ⟨bd.block, bd.off + 1, none⟩ = some (.int .i64 y) ∧ w'.cell? ⟨bd.block, bd.off + 2, none⟩ = some (.int .i64 z))
            (first | exact ⟨y0, y1, y2⟩ | assumption | exact K3.al ⟨y0, y1, y2⟩ _)
            (first
             | (go_at_call 70; refine (withinC _ _ (by decide) (by decide) _).mono ?_; rintro e w' ⟨rfl, rfl⟩))
          all_goals
            go_wp2_with fail
            go_meet
            exact ⟨_, rfl, ⟨⟨(Bk.made wr [_, _, _] _).cell 0, (Bk.made wr [_, _, _] _).cell 1, (Bk.made wr [_, _, _] _).cell 2⟩, K3.al ⟨y0, y1, y2⟩ _, hal1⟩⟩
        case rest =>
          obtain ⟨n6, rfl, hcut⟩ := hcut
          obtain ⟨i3, hi3⟩ : ∃ i : Nat, withinV z 3 = (i : Int) := ⟨_, (Int.toNat_of_nonneg (withinV_lt (by decide)).1).symm⟩
          have l3 := (withinV_lt (x := z) (n := 3) (by decide)).2
          rw [hi3] at l3
          have b3 : (0 : Int) ≤ (i3 : Int) := by omega
          have z3 : [Value.string ⟨#[97]⟩, .string ⟨#[98]⟩, .string ⟨#[99]⟩][i3]? = some (.string (abcS[i3]?.getD ⟨#[]⟩)) := abc_get (by omega)
          have HI3 := Aside.mk hi3
          obtain ⟨c0, c1, c2⟩ := K3.step (w' := wc.alloc (.cells #[.string ⟨#[97]⟩, .string ⟨#[98]⟩, .string ⟨#[99]⟩] 9)) hcut.out.2.1 ((Below.refl _ _).alloc (Nat.le_refl _) _)
          clear hi3
          go_upto_region 8 with (go_at_call 70; refine (withinC _ _ (by decide) (by decide) _).mono ?_; rintro e w' ⟨rfl, rfl⟩; rw [HI3.out])
          have hk0 := K0.step (w' := wc.alloc (.cells #[.string ⟨#[97]⟩, .string ⟨#[98]⟩, .string ⟨#[99]⟩] 9)) hcut.out.1 ((Below.refl _ _).alloc (Nat.le_refl _) _)
          have hBw8 := below_step hcut.out.2.2 (Below.alloc (Below.refl _ wc) (Nat.le_refl _) (.cells #[.string ⟨#[97]⟩, .string ⟨#[98]⟩, .string ⟨#[99]⟩] 9))
          have hk3 : K3 (wc.alloc (.cells #[.string ⟨#[97]⟩, .string ⟨#[98]⟩, .string ⟨#[99]⟩] 9)) bd x y z := ⟨c0, c1, c2⟩
          clear c0 c1 c2
          generalize hW8 : wc.alloc (.cells #[.string ⟨#[97]⟩, .string ⟨#[98]⟩, .string ⟨#[99]⟩] 9) = W8 at *
          obtain ⟨i8, hx8⟩ : ∃ i : Nat, withinV (x.tdiv 3) 8 = (i : Int) := ⟨_, (Int.toNat_of_nonneg (withinV_lt (by decide)).1).symm⟩
          obtain ⟨i2, hy2⟩ : ∃ i : Nat, withinV y 2 = (i : Int) := ⟨_, (Int.toNat_of_nonneg (withinV_lt (by decide)).1).symm⟩
          have hi8 : i8 < 8 := by have h := (withinV_lt (x := x.tdiv 3) (n := 8) (by decide)).2; omega
          have hi2 : i2 < 2 := by have h := (withinV_lt (x := y) (n := 2) (by decide)).2; omega
          have b8 : (0 : Int) ≤ (i8 : Int) := by omega
          have b8' : (i8 : Int) < 8 := by omega
          have b2 : (0 : Int) ≤ (i2 : Int) := by omega
          have b2' : (i2 : Int) < 2 := by omega
          have HX8 := Aside.mk hx8
          have HY2 := Aside.mk hy2
          clear hx8 hy2 hcut z3
          go_cut [8] (fun p wx => ∃ n nf, p = .pointer (some ⟨n, 0, none⟩) ∧ Aside (
            Bk wx n [.int .i64 (kindsL[i8]?.getD 0), .int .i64 (withinV x 3), .int .i64 (withinV y 2), .int .i64 (withinV z 30), .slice none 0 0, .string (abcS[i3]?.getD ⟨#[]⟩), .int .i64 (withinV y 8), .slice (some ⟨nf, 0, none⟩) 1 1, .slice none 0 0, .string (abcS[i3]?.getD ⟨#[]⟩), .string ⟨#[107]⟩, .string ⟨#[120]⟩] ∧
            Bk wx nf [.string ⟨#[107]⟩, .string (xyS[i2]?.getD ⟨#[]⟩)] ∧ wr.heap.size ≤ nf ∧ Below wr.heap.size wr wx) ∧ Aside (wr.heap.size ≤ n))
          case first =>
            generalize hA : Act.mk _ _ = A
            refine region_facts (J8 A W8 W8.heap.size bd m d x y ⟨withinV x 3, withinV y 2, withinV z 30⟩ (abcS[i3]?.getD ⟨#[]⟩) i8 i2) (by kernel_rfl) (by kernel_rfl) ?_ ?_ ?_
            · subst hA
              simp only [J8, putA, Act.put, List.setIfInBounds_toArray, List.set_cons_zero, List.set_cons_succ]
              refine ⟨_, _, _, _, _, _, _, _, _, _, _, _, _, _, _, _, _, _, _, _, _, _, _, _, _, _, _, _, rfl, below_drewN (Below.refl _ _) 1, .inl ⟨rfl, R8.init fun j hj => ?_⟩⟩
              rw [Array.getElem?_replicate] at hj
              split at hj <;> simp at hj
            · intro i o L' a w' ho hsz hLi haft hJ K' hK
              obtain ⟨u42, u43, u44, u45, u46, u47, u48, u49, u50, u51, u52, u53, u54, u55, u56, u57, u58, u59, u60, u61, u62, u63, u64, u65, u66, u67, u68, u8, rfl, hB, hJ⟩ := hJ
              have hi := (Array.getElem?_eq_some_iff.1 ho).1
              rcases hJ with ⟨h28, hR⟩ | ⟨hall, _⟩
              case inr =>
                have h := hall i hi
                rw [hLi] at h
                cases h
              subst hA
              rcases i with _ | i
              · simp only [List.getElem?_toArray, List.getElem?_cons_succ, List.getElem?_cons_zero, Option.some.injEq] at ho
                subst ho
                rw [if_pos (by rfl)]
                clear hsz hi hLi
                have HK := Aside.mk hK
                clear hK haft
                simp only [putA, Act.put, List.setIfInBounds_toArray, List.set_cons_zero, List.set_cons_succ]
                go_simp
                refine HK.out _ _ ?_
                simp only [J8, putA, Act.put, List.setIfInBounds_toArray, List.set_cons_zero, List.set_cons_succ]
                refine ⟨_, u43, u44, u45, u46, u47, u48, u49, u50, u51, u52, u53, u54, u55, u56, u57, u58, u59, u60, u61, u62, u63, u64, u65, u66, u67, u68, u8, rfl, hB.alloc hB.size _, .inl ⟨by rw [Array.getElem?_setIfInBounds_ne (by decide)]; exact h28, R8.set0 (hR.below ((Below.refl _ _).alloc (Nat.le_refl _) _)) ?_⟩⟩
                exact ⟨_, rfl, hB.size, Bk.made _ _ _⟩
              rcases i with _ | i
              · simp only [List.getElem?_toArray, List.getElem?_cons_succ, List.getElem?_cons_zero, Option.some.injEq] at ho
                subst ho
                rw [if_pos (by rfl)]
                clear hsz hi hLi
                have HK := Aside.mk hK
                clear hK haft
                simp only [putA, Act.put, List.setIfInBounds_toArray, List.set_cons_zero, List.set_cons_succ]
                go_simp
                refine HK.out _ _ ?_
                simp only [J8, putA, Act.put, List.setIfInBounds_toArray, List.set_cons_zero, List.set_cons_succ]
                refine ⟨u42, _, u44, u45, u46, u47, u48, u49, u50, u51, u52, u53, u54, u55, u56, u57, u58, u59, u60, u61, u62, u63, u64, u65, u66, u67, u68, u8, rfl, hB, .inl ⟨by rw [Array.getElem?_setIfInBounds_ne (by decide)]; exact h28, R8.set1 (hR) ?_⟩⟩
                rfl
              rcases i with _ | i
              · simp only [List.getElem?_toArray, List.getElem?_cons_succ, List.getElem?_cons_zero, Option.some.injEq] at ho
                subst ho
                rw [if_pos (by rfl)]
                clear hsz hi hLi
                obtain rfl := hR.f1 (haft { on := 1, ground := .data } (by simp) rfl)
                have HK := Aside.mk hK
                clear hK haft
                simp only [putA, Act.put, List.setIfInBounds_toArray, List.set_cons_zero, List.set_cons_succ]
                go_simp
                refine HK.out _ _ ?_
                simp only [J8, putA, Act.put, List.setIfInBounds_toArray, List.set_cons_zero, List.set_cons_succ]
                refine ⟨u42, _, _, u45, u46, u47, u48, u49, u50, u51, u52, u53, u54, u55, u56, u57, u58, u59, u60, u61, u62, u63, u64, u65, u66, u67, u68, u8, rfl, hB, .inl ⟨by rw [Array.getElem?_setIfInBounds_ne (by decide)]; exact h28, R8.set2 (hR) ?_⟩⟩
                rfl
              rcases i with _ | i
              · simp only [List.getElem?_toArray, List.getElem?_cons_succ, List.getElem?_cons_zero, Option.some.injEq] at ho
                subst ho
                rw [if_pos (by rfl)]
                clear hsz hi hLi
                obtain rfl := hR.f2 (haft { on := 2, ground := .data } (by simp) rfl)
                have c0 := (K3.step hk3 hB).1
                have c1 := (K3.step hk3 hB).2.1
                have HK := Aside.mk hK
                clear hK haft
                simp only [putA, Act.put, List.setIfInBounds_toArray, List.set_cons_zero, List.set_cons_succ]
                go_simp
                refine HK.out _ _ ?_
                simp only [J8, putA, Act.put, List.setIfInBounds_toArray, List.set_cons_zero, List.set_cons_succ]
                refine ⟨u42, u43, _, _, u46, u47, u48, u49, u50, u51, u52, u53, u54, u55, u56, u57, u58, u59, u60, u61, u62, u63, u64, u65, u66, u67, u68, u8, rfl, hB, .inl ⟨by rw [Array.getElem?_setIfInBounds_ne (by decide)]; exact h28, R8.set3 (hR) ?_⟩⟩
                rfl
              rcases i with _ | i
              · simp only [List.getElem?_toArray, List.getElem?_cons_succ, List.getElem?_cons_zero, Option.some.injEq] at ho
                subst ho
                rw [if_pos (by rfl)]
                clear hsz hi hLi
                obtain rfl := hR.f3 (haft { on := 3, ground := .data } (by simp) rfl)
                have HK := Aside.mk hK
                clear hK haft
                simp only [putA, Act.put, List.setIfInBounds_toArray, List.set_cons_zero, List.set_cons_succ]
                go_simp
                refine HK.out _ _ ?_
                simp only [J8, putA, Act.put, List.setIfInBounds_toArray, List.set_cons_zero, List.set_cons_succ]
                refine ⟨u42, u43, u44, _, _, u47, u48, u49, u50, u51, u52, u53, u54, u55, u56, u57, u58, u59, u60, u61, u62, u63, u64, u65, u66, u67, u68, u8, rfl, hB, .inl ⟨by rw [Array.getElem?_setIfInBounds_ne (by decide)]; exact h28, R8.set4 (hR) ?_⟩⟩
                rfl
              rcases i with _ | i
              · simp only [List.getElem?_toArray, List.getElem?_cons_succ, List.getElem?_cons_zero, Option.some.injEq] at ho
                subst ho
                rw [if_pos (by rfl)]
                clear hsz hi hLi
                obtain rfl := hR.f4 (haft { on := 4, ground := .data } (by simp) rfl)
                have HK := Aside.mk hK
                clear hK haft
                simp only [putA, Act.put, List.setIfInBounds_toArray, List.set_cons_zero, List.set_cons_succ]
                go_simp
                go_at_call 70
                refine (withinC _ _ (by decide) (by decide) _).mono ?_
                rintro e w' ⟨rfl, rfl⟩
                rw [withinV_wrap]
                rw [HX8.out]
                try simp only [putA, Act.put, List.setIfInBounds_toArray, List.set_cons_zero, List.set_cons_succ]
                refine HK.out _ _ ?_
                simp only [J8, putA, Act.put, List.setIfInBounds_toArray, List.set_cons_zero, List.set_cons_succ]
                refine ⟨u42, u43, u44, u45, _, _, u48, u49, u50, u51, u52, u53, u54, u55, u56, u57, u58, u59, u60, u61, u62, u63, u64, u65, u66, u67, u68, u8, rfl, hB, .inl ⟨by rw [Array.getElem?_setIfInBounds_ne (by decide)]; exact h28, R8.set5 (hR) ?_⟩⟩
                rfl
              rcases i with _ | i
              · simp only [List.getElem?_toArray, List.getElem?_cons_succ, List.getElem?_cons_zero, Option.some.injEq] at ho
                subst ho
                rw [if_pos (by rfl)]
                clear hsz hi hLi
                have hh0 := (hR.f0 (haft { on := 0, ground := .data } (by simp) rfl)).choose_spec
                generalize (hR.f0 (haft { on := 0, ground := .data } (by simp) rfl)).choose = n0 at hh0
                have ee0 := hh0.1
                have hn0 := hh0.2.1
                have hb0 := hh0.2.2
                clear hh0
                subst ee0
                obtain rfl := hR.f5 (haft { on := 5, ground := .data } (by simp) rfl)
                have HK := Aside.mk hK
                clear hK haft
                simp only [putA, Act.put, List.setIfInBounds_toArray, List.set_cons_zero, List.set_cons_succ]
                go_simp
                refine HK.out _ _ ?_
                simp only [J8, putA, Act.put, List.setIfInBounds_toArray, List.set_cons_zero, List.set_cons_succ]
                refine ⟨_, u43, u44, u45, u46, _, _, u49, u50, u51, u52, u53, u54, u55, u56, u57, u58, u59, u60, u61, u62, u63, u64, u65, u66, u67, u68, u8, rfl, hB, .inl ⟨by rw [Array.getElem?_setIfInBounds_ne (by decide)]; exact h28, R8.set6 (hR) ?_⟩⟩
                exact ⟨_, rfl, hn0, hb0⟩
              rcases i with _ | i
              · simp only [List.getElem?_toArray, List.getElem?_cons_succ, List.getElem?_cons_zero, Option.some.injEq] at ho
                subst ho
                rw [if_pos (by rfl)]
                clear hsz hi hLi
                have hh6 := (hR.f6 (haft { on := 6, ground := .data } (by simp) rfl)).choose_spec
                generalize (hR.f6 (haft { on := 6, ground := .data } (by simp) rfl)).choose = n6 at hh6
                have ee6 := hh6.1
                have hn6 := hh6.2.1
                have hb6 := hh6.2.2
                clear hh6
                subst ee6
                have c0 := kinds_cell hb6 hi8
                have HK := Aside.mk hK
                clear hK haft
                simp only [putA, Act.put, List.setIfInBounds_toArray, List.set_cons_zero, List.set_cons_succ]
                go_simp
                refine HK.out _ _ ?_
                simp only [J8, putA, Act.put, List.setIfInBounds_toArray, List.set_cons_zero, List.set_cons_succ]
                refine ⟨u42, u43, u44, u45, u46, u47, _, _, u50, u51, u52, u53, u54, u55, u56, u57, u58, u59, u60, u61, u62, u63, u64, u65, u66, u67, u68, u8, rfl, hB, .inl ⟨by rw [Array.getElem?_setIfInBounds_ne (by decide)]; exact h28, R8.set7 (hR) ?_⟩⟩
                rfl
              rcases i with _ | i
              · simp only [List.getElem?_toArray, List.getElem?_cons_succ, List.getElem?_cons_zero, Option.some.injEq] at ho
                subst ho
                rw [if_pos (by rfl)]
                clear hsz hi hLi
                have c0 := (K0.step hk0 hB).1
                have c1 := (K0.step hk0 hB).2.1
                have c2 := (K0.step hk0 hB).2.2
                have HK := Aside.mk hK
                clear hK haft
                simp only [putA, Act.put, List.setIfInBounds_toArray, List.set_cons_zero, List.set_cons_succ]
                go_simp
                refine HK.out _ _ ?_
                simp only [J8, putA, Act.put, List.setIfInBounds_toArray, List.set_cons_zero, List.set_cons_succ]
                refine ⟨u42, u43, u44, u45, u46, u47, u48, u49, _, u51, u52, u53, u54, u55, u56, u57, u58, u59, u60, u61, u62, u63, u64, u65, u66, u67, u68, u8, rfl, hB, .inl ⟨by rw [Array.getElem?_setIfInBounds_ne (by decide)]; exact h28, R8.set8 (hR) ?_⟩⟩
                rfl
              rcases i with _ | i
              · simp only [List.getElem?_toArray, List.getElem?_cons_succ, List.getElem?_cons_zero, Option.some.injEq] at ho
                subst ho
                rw [if_pos (by rfl)]
                clear hsz hi hLi
                have HK := Aside.mk hK
                clear hK haft
                simp only [putA, Act.put, List.setIfInBounds_toArray, List.set_cons_zero, List.set_cons_succ]
                go_simp
                refine HK.out _ _ ?_
                simp only [J8, putA, Act.put, List.setIfInBounds_toArray, List.set_cons_zero, List.set_cons_succ]
                refine ⟨u42, u43, u44, u45, u46, u47, u48, u49, u50, _, u52, u53, u54, u55, u56, u57, u58, u59, u60, u61, u62, u63, u64, u65, u66, u67, u68, u8, rfl, hB, .inl ⟨by rw [Array.getElem?_setIfInBounds_ne (by decide)]; exact h28, R8.set9 (hR) ?_⟩⟩
                rfl
              rcases i with _ | i
              · simp only [List.getElem?_toArray, List.getElem?_cons_succ, List.getElem?_cons_zero, Option.some.injEq] at ho
                subst ho
                rw [if_pos (by rfl)]
                clear hsz hi hLi
                have HK := Aside.mk hK
                clear hK haft
                simp only [putA, Act.put, List.setIfInBounds_toArray, List.set_cons_zero, List.set_cons_succ]
                go_simp
                refine HK.out _ _ ?_
                simp only [J8, putA, Act.put, List.setIfInBounds_toArray, List.set_cons_zero, List.set_cons_succ]
                refine ⟨u42, u43, u44, u45, u46, u47, u48, u49, u50, u51, _, u53, u54, u55, u56, u57, u58, u59, u60, u61, u62, u63, u64, u65, u66, u67, u68, u8, rfl, hB, .inl ⟨by rw [Array.getElem?_setIfInBounds_ne (by decide)]; exact h28, R8.set10 (hR) ?_⟩⟩
                rfl
              rcases i with _ | i
              · simp only [List.getElem?_toArray, List.getElem?_cons_succ, List.getElem?_cons_zero, Option.some.injEq] at ho
                subst ho
                rw [if_pos (by rfl)]
                clear hsz hi hLi
                have HK := Aside.mk hK
                clear hK haft
                simp only [putA, Act.put, List.setIfInBounds_toArray, List.set_cons_zero, List.set_cons_succ]
                go_simp
                refine HK.out _ _ ?_
                simp only [J8, putA, Act.put, List.setIfInBounds_toArray, List.set_cons_zero, List.set_cons_succ]
                refine ⟨u42, u43, u44, u45, u46, u47, u48, u49, u50, u51, u52, _, u54, u55, u56, u57, u58, u59, u60, u61, u62, u63, u64, u65, u66, u67, u68, u8, rfl, hB, .inl ⟨by rw [Array.getElem?_setIfInBounds_ne (by decide)]; exact h28, R8.set11 (hR) ?_⟩⟩
                rfl
              rcases i with _ | i
              · simp only [List.getElem?_toArray, List.getElem?_cons_succ, List.getElem?_cons_zero, Option.some.injEq] at ho
                subst ho
                rw [if_pos (by rfl)]
                clear hsz hi hLi
                obtain rfl := hR.f11 (haft { on := 11, ground := .data } (by simp) rfl)
                have HK := Aside.mk hK
                clear hK haft
                simp only [putA, Act.put, List.setIfInBounds_toArray, List.set_cons_zero, List.set_cons_succ]
                go_simp
                refine HK.out _ _ ?_
                simp only [J8, putA, Act.put, List.setIfInBounds_toArray, List.set_cons_zero, List.set_cons_succ]
                refine ⟨u42, u43, u44, u45, u46, u47, u48, u49, u50, u51, u52, _, _, u55, u56, u57, u58, u59, u60, u61, u62, u63, u64, u65, u66, u67, u68, u8, rfl, hB, .inl ⟨by rw [Array.getElem?_setIfInBounds_ne (by decide)]; exact h28, R8.set12 (hR) ?_⟩⟩
                rfl
              rcases i with _ | i
              · simp only [List.getElem?_toArray, List.getElem?_cons_succ, List.getElem?_cons_zero, Option.some.injEq] at ho
                subst ho
                rw [if_pos (by rfl)]
                clear hsz hi hLi
                obtain rfl := hR.f12 (haft { on := 12, ground := .data } (by simp) rfl)
                have c0 := (K3.step hk3 hB).1
                have c1 := (K3.step hk3 hB).2.1
                have HK := Aside.mk hK
                clear hK haft
                simp only [putA, Act.put, List.setIfInBounds_toArray, List.set_cons_zero, List.set_cons_succ]
                go_simp
                refine HK.out _ _ ?_
                simp only [J8, putA, Act.put, List.setIfInBounds_toArray, List.set_cons_zero, List.set_cons_succ]
                refine ⟨u42, u43, u44, u45, u46, u47, u48, u49, u50, u51, u52, u53, _, _, u56, u57, u58, u59, u60, u61, u62, u63, u64, u65, u66, u67, u68, u8, rfl, hB, .inl ⟨by rw [Array.getElem?_setIfInBounds_ne (by decide)]; exact h28, R8.set13 (hR) ?_⟩⟩
                rfl
              rcases i with _ | i
              · simp only [List.getElem?_toArray, List.getElem?_cons_succ, List.getElem?_cons_zero, Option.some.injEq] at ho
                subst ho
                rw [if_pos (by rfl)]
                clear hsz hi hLi
                obtain rfl := hR.f13 (haft { on := 13, ground := .data } (by simp) rfl)
                have HK := Aside.mk hK
                clear hK haft
                simp only [putA, Act.put, List.setIfInBounds_toArray, List.set_cons_zero, List.set_cons_succ]
                go_simp
                go_at_call 70
                refine (withinC _ _ (by decide) (by decide) _).mono ?_
                rintro e w' ⟨rfl, rfl⟩
                try simp only [putA, Act.put, List.setIfInBounds_toArray, List.set_cons_zero, List.set_cons_succ]
                refine HK.out _ _ ?_
                simp only [J8, putA, Act.put, List.setIfInBounds_toArray, List.set_cons_zero, List.set_cons_succ]
                refine ⟨u42, u43, u44, u45, u46, u47, u48, u49, u50, u51, u52, u53, u54, _, _, u57, u58, u59, u60, u61, u62, u63, u64, u65, u66, u67, u68, u8, rfl, hB, .inl ⟨by rw [Array.getElem?_setIfInBounds_ne (by decide)]; exact h28, R8.set14 (hR) ?_⟩⟩
                rfl
              rcases i with _ | i
              · simp only [List.getElem?_toArray, List.getElem?_cons_succ, List.getElem?_cons_zero, Option.some.injEq] at ho
                subst ho
                rw [if_pos (by rfl)]
                clear hsz hi hLi
                have HK := Aside.mk hK
                clear hK haft
                simp only [putA, Act.put, List.setIfInBounds_toArray, List.set_cons_zero, List.set_cons_succ]
                go_simp
                refine HK.out _ _ ?_
                simp only [J8, putA, Act.put, List.setIfInBounds_toArray, List.set_cons_zero, List.set_cons_succ]
                refine ⟨u42, u43, u44, u45, u46, u47, u48, u49, u50, u51, u52, u53, u54, u55, u56, _, u58, u59, u60, u61, u62, u63, u64, u65, u66, u67, u68, u8, rfl, hB.alloc hB.size _, .inl ⟨by rw [Array.getElem?_setIfInBounds_ne (by decide)]; exact h28, R8.set15 (hR.below ((Below.refl _ _).alloc (Nat.le_refl _) _)) ?_⟩⟩
                exact ⟨_, rfl, hB.size, Bk.made _ _ _⟩
              rcases i with _ | i
              · simp only [List.getElem?_toArray, List.getElem?_cons_succ, List.getElem?_cons_zero, Option.some.injEq] at ho
                subst ho
                rw [if_pos (by rfl)]
                clear hsz hi hLi
                have HK := Aside.mk hK
                clear hK haft
                simp only [putA, Act.put, List.setIfInBounds_toArray, List.set_cons_zero, List.set_cons_succ]
                go_simp
                refine HK.out _ _ ?_
                simp only [J8, putA, Act.put, List.setIfInBounds_toArray, List.set_cons_zero, List.set_cons_succ]
                refine ⟨u42, u43, u44, u45, u46, u47, u48, u49, u50, u51, u52, u53, u54, u55, u56, u57, _, u59, u60, u61, u62, u63, u64, u65, u66, u67, u68, u8, rfl, hB, .inl ⟨by rw [Array.getElem?_setIfInBounds_ne (by decide)]; exact h28, R8.set16 (hR) ?_⟩⟩
                rfl
              rcases i with _ | i
              · simp only [List.getElem?_toArray, List.getElem?_cons_succ, List.getElem?_cons_zero, Option.some.injEq] at ho
                subst ho
                rw [if_pos (by rfl)]
                clear hsz hi hLi
                obtain rfl := hR.f16 (haft { on := 16, ground := .data } (by simp) rfl)
                have HK := Aside.mk hK
                clear hK haft
                simp only [putA, Act.put, List.setIfInBounds_toArray, List.set_cons_zero, List.set_cons_succ]
                go_simp
                refine HK.out _ _ ?_
                simp only [J8, putA, Act.put, List.setIfInBounds_toArray, List.set_cons_zero, List.set_cons_succ]
                refine ⟨u42, u43, u44, u45, u46, u47, u48, u49, u50, u51, u52, u53, u54, u55, u56, u57, _, _, u60, u61, u62, u63, u64, u65, u66, u67, u68, u8, rfl, hB, .inl ⟨by rw [Array.getElem?_setIfInBounds_ne (by decide)]; exact h28, R8.set17 (hR) ?_⟩⟩
                rfl
              rcases i with _ | i
              · simp only [List.getElem?_toArray, List.getElem?_cons_succ, List.getElem?_cons_zero, Option.some.injEq] at ho
                subst ho
                rw [if_pos (by rfl)]
                clear hsz hi hLi
                obtain rfl := hR.f17 (haft { on := 17, ground := .data } (by simp) rfl)
                have c0 := (K3.step hk3 hB).1
                have c1 := (K3.step hk3 hB).2.1
                have HK := Aside.mk hK
                clear hK haft
                simp only [putA, Act.put, List.setIfInBounds_toArray, List.set_cons_zero, List.set_cons_succ]
                go_simp
                refine HK.out _ _ ?_
                simp only [J8, putA, Act.put, List.setIfInBounds_toArray, List.set_cons_zero, List.set_cons_succ]
                refine ⟨u42, u43, u44, u45, u46, u47, u48, u49, u50, u51, u52, u53, u54, u55, u56, u57, u58, _, _, u61, u62, u63, u64, u65, u66, u67, u68, u8, rfl, hB, .inl ⟨by rw [Array.getElem?_setIfInBounds_ne (by decide)]; exact h28, R8.set18 (hR) ?_⟩⟩
                rfl
              rcases i with _ | i
              · simp only [List.getElem?_toArray, List.getElem?_cons_succ, List.getElem?_cons_zero, Option.some.injEq] at ho
                subst ho
                rw [if_pos (by rfl)]
                clear hsz hi hLi
                obtain rfl := hR.f18 (haft { on := 18, ground := .data } (by simp) rfl)
                have HK := Aside.mk hK
                clear hK haft
                simp only [putA, Act.put, List.setIfInBounds_toArray, List.set_cons_zero, List.set_cons_succ]
                go_simp
                go_at_call 70
                refine (withinC _ _ (by decide) (by decide) _).mono ?_
                rintro e w' ⟨rfl, rfl⟩
                rw [HY2.out]
                try simp only [putA, Act.put, List.setIfInBounds_toArray, List.set_cons_zero, List.set_cons_succ]
                refine HK.out _ _ ?_
                simp only [J8, putA, Act.put, List.setIfInBounds_toArray, List.set_cons_zero, List.set_cons_succ]
                refine ⟨u42, u43, u44, u45, u46, u47, u48, u49, u50, u51, u52, u53, u54, u55, u56, u57, u58, u59, _, _, u62, u63, u64, u65, u66, u67, u68, u8, rfl, hB, .inl ⟨by rw [Array.getElem?_setIfInBounds_ne (by decide)]; exact h28, R8.set19 (hR) ?_⟩⟩
                rfl
              rcases i with _ | i
              · simp only [List.getElem?_toArray, List.getElem?_cons_succ, List.getElem?_cons_zero, Option.some.injEq] at ho
                subst ho
                rw [if_pos (by rfl)]
                clear hsz hi hLi
                have hh15 := (hR.f15 (haft { on := 15, ground := .data } (by simp) rfl)).choose_spec
                generalize (hR.f15 (haft { on := 15, ground := .data } (by simp) rfl)).choose = n15 at hh15
                have ee15 := hh15.1
                have hn15 := hh15.2.1
                have hb15 := hh15.2.2
                clear hh15
                subst ee15
                obtain rfl := hR.f19 (haft { on := 19, ground := .data } (by simp) rfl)
                have HK := Aside.mk hK
                clear hK haft
                simp only [putA, Act.put, List.setIfInBounds_toArray, List.set_cons_zero, List.set_cons_succ]
                go_simp
                refine HK.out _ _ ?_
                simp only [J8, putA, Act.put, List.setIfInBounds_toArray, List.set_cons_zero, List.set_cons_succ]
                refine ⟨u42, u43, u44, u45, u46, u47, u48, u49, u50, u51, u52, u53, u54, u55, u56, _, u58, u59, u60, _, _, u63, u64, u65, u66, u67, u68, u8, rfl, hB, .inl ⟨by rw [Array.getElem?_setIfInBounds_ne (by decide)]; exact h28, R8.set20 (hR) ?_⟩⟩
                exact ⟨_, rfl, hn15, hb15⟩
              rcases i with _ | i
              · simp only [List.getElem?_toArray, List.getElem?_cons_succ, List.getElem?_cons_zero, Option.some.injEq] at ho
                subst ho
                rw [if_pos (by rfl)]
                clear hsz hi hLi
                have hh20 := (hR.f20 (haft { on := 20, ground := .data } (by simp) rfl)).choose_spec
                generalize (hR.f20 (haft { on := 20, ground := .data } (by simp) rfl)).choose = n20 at hh20
                have ee20 := hh20.1
                have hn20 := hh20.2.1
                have hb20 := hh20.2.2
                clear hh20
                subst ee20
                have c0 := xy_cell hb20 hi2
                have HK := Aside.mk hK
                clear hK haft
                simp only [putA, Act.put, List.setIfInBounds_toArray, List.set_cons_zero, List.set_cons_succ]
                go_simp
                refine HK.out _ _ ?_
                simp only [J8, putA, Act.put, List.setIfInBounds_toArray, List.set_cons_zero, List.set_cons_succ]
                refine ⟨u42, u43, u44, u45, u46, u47, u48, u49, u50, u51, u52, u53, u54, u55, u56, u57, u58, u59, u60, u61, _, _, u64, u65, u66, u67, u68, u8, rfl, hB, .inl ⟨by rw [Array.getElem?_setIfInBounds_ne (by decide)]; exact h28, R8.set21 (hR) ?_⟩⟩
                rfl
              rcases i with _ | i
              · simp only [List.getElem?_toArray, List.getElem?_cons_succ, List.getElem?_cons_zero, Option.some.injEq] at ho
                subst ho
                rw [if_pos (by rfl)]
                clear hsz hi hLi
                obtain rfl := hR.f21 (haft { on := 21, ground := .data } (by simp) rfl)
                have HK := Aside.mk hK
                clear hK haft
                simp only [putA, Act.put, List.setIfInBounds_toArray, List.set_cons_zero, List.set_cons_succ]
                go_simp
                refine HK.out _ _ ?_
                simp only [J8, putA, Act.put, List.setIfInBounds_toArray, List.set_cons_zero, List.set_cons_succ]
                refine ⟨u42, u43, u44, u45, u46, u47, u48, u49, u50, u51, u52, u53, u54, u55, u56, u57, u58, u59, u60, u61, u62, _, _, u65, u66, u67, u68, u8, rfl, hB, .inl ⟨by rw [Array.getElem?_setIfInBounds_ne (by decide)]; exact h28, R8.set22 (hR) ?_⟩⟩
                rfl
              rcases i with _ | i
              · simp only [List.getElem?_toArray, List.getElem?_cons_succ, List.getElem?_cons_zero, Option.some.injEq] at ho
                subst ho
                rw [if_pos (by rfl)]
                clear hsz hi hLi
                obtain rfl := hR.f22 (haft { on := 22, ground := .data } (by simp) rfl)
                have HK := Aside.mk hK
                clear hK haft
                simp only [putA, Act.put, List.setIfInBounds_toArray, List.set_cons_zero, List.set_cons_succ]
                go_simp
                refine HK.out _ _ ?_
                simp only [J8, putA, Act.put, List.setIfInBounds_toArray, List.set_cons_zero, List.set_cons_succ]
                refine ⟨u42, u43, u44, u45, u46, u47, u48, u49, u50, u51, u52, u53, u54, u55, u56, u57, u58, u59, u60, u61, u62, u63, _, _, u66, u67, u68, u8, rfl, hB.alloc hB.size _, .inl ⟨by rw [Array.getElem?_setIfInBounds_ne (by decide)]; exact h28, R8.set23 (hR.below ((Below.refl _ _).alloc (Nat.le_refl _) _)) ?_⟩⟩
                exact ⟨_, rfl, hB.size, Bk.made _ _ _⟩
              rcases i with _ | i
              · simp only [List.getElem?_toArray, List.getElem?_cons_succ, List.getElem?_cons_zero, Option.some.injEq] at ho
                subst ho
                rw [if_pos (by rfl)]
                clear hsz hi hLi
                obtain rfl := hR.f10 (haft { on := 10, ground := .data } (by simp) rfl)
                obtain rfl := hR.f14 (haft { on := 14, ground := .data } (by simp) rfl)
                have hh23 := (hR.f23 (haft { on := 23, ground := .data } (by simp) rfl)).choose_spec
                generalize (hR.f23 (haft { on := 23, ground := .data } (by simp) rfl)).choose = n23 at hh23
                have ee23 := hh23.1
                have hn23 := hh23.2.1
                have hb23 := hh23.2.2
                clear hh23
                subst ee23
                have HK := Aside.mk hK
                clear hK haft
                simp only [putA, Act.put, List.setIfInBounds_toArray, List.set_cons_zero, List.set_cons_succ]
                go_simp
                refine HK.out _ _ ?_
                simp only [J8, putA, Act.put, List.setIfInBounds_toArray, List.set_cons_zero, List.set_cons_succ]
                refine ⟨u42, u43, u44, u45, u46, u47, u48, u49, u50, u51, _, u53, u54, u55, _, u57, u58, u59, u60, u61, u62, u63, u64, _, _, u67, u68, u8, rfl, hB, .inl ⟨by rw [Array.getElem?_setIfInBounds_ne (by decide)]; exact h28, R8.set24 (hR) ?_⟩⟩
                exact ⟨_, rfl, hn23, hb23⟩
              rcases i with _ | i
              · simp only [List.getElem?_toArray, List.getElem?_cons_succ, List.getElem?_cons_zero, Option.some.injEq] at ho
                subst ho
                rw [if_pos (by rfl)]
                clear hsz hi hLi
                have HK := Aside.mk hK
                clear hK haft
                simp only [putA, Act.put, List.setIfInBounds_toArray, List.set_cons_zero, List.set_cons_succ]
                go_simp
                refine HK.out _ _ ?_
                simp only [J8, putA, Act.put, List.setIfInBounds_toArray, List.set_cons_zero, List.set_cons_succ]
                refine ⟨u42, u43, u44, u45, u46, u47, u48, u49, u50, u51, u52, u53, u54, u55, u56, u57, u58, u59, u60, u61, u62, u63, u64, u65, u66, _, u68, u8, rfl, hB, .inl ⟨by rw [Array.getElem?_setIfInBounds_ne (by decide)]; exact h28, R8.set25 (hR) ?_⟩⟩
                rfl
              rcases i with _ | i
              · simp only [List.getElem?_toArray, List.getElem?_cons_succ, List.getElem?_cons_zero, Option.some.injEq] at ho
                subst ho
                rw [if_pos (by rfl)]
                clear hsz hi hLi
                obtain rfl := hR.f7 (haft { on := 7, ground := .data } (by simp) rfl)
                obtain rfl := hR.f8 (haft { on := 8, ground := .data } (by simp) rfl)
                obtain rfl := hR.f9 (haft { on := 9, ground := .data } (by simp) rfl)
                have hh24 := (hR.f24 (haft { on := 24, ground := .data } (by simp) rfl)).choose_spec
                generalize (hR.f24 (haft { on := 24, ground := .data } (by simp) rfl)).choose = n24 at hh24
                have ee24 := hh24.1
                have hn24 := hh24.2.1
                have hb24 := hh24.2.2
                clear hh24
                subst ee24
                obtain rfl := hR.f25 (haft { on := 25, ground := .data } (by simp) rfl)
                have HK := Aside.mk hK
                clear hK haft
                simp only [putA, Act.put, List.setIfInBounds_toArray, List.set_cons_zero, List.set_cons_succ]
                go_simp
                refine HK.out _ _ ?_
                simp only [J8, putA, Act.put, List.setIfInBounds_toArray, List.set_cons_zero, List.set_cons_succ]
                refine ⟨u42, u43, u44, u45, u46, u47, u48, _, _, _, u52, u53, u54, u55, u56, u57, u58, u59, u60, u61, u62, u63, u64, u65, _, _, _, u8, rfl, hB, .inl ⟨by rw [Array.getElem?_setIfInBounds_ne (by decide)]; exact h28, R8.set26 (hR) ?_⟩⟩
                exact ⟨_, rfl, hn24, hb24⟩
              rcases i with _ | i
              · simp only [List.getElem?_toArray, List.getElem?_cons_succ, List.getElem?_cons_zero, Option.some.injEq] at ho
                subst ho
                rw [if_pos (by rfl)]
                clear hsz hi hLi
                have HK := Aside.mk hK
                clear hK haft
                simp only [putA, Act.put, List.setIfInBounds_toArray, List.set_cons_zero, List.set_cons_succ]
                go_simp
                refine HK.out _ _ ?_
                simp only [J8, putA, Act.put, List.setIfInBounds_toArray, List.set_cons_zero, List.set_cons_succ]
                refine ⟨u42, u43, u44, u45, u46, u47, u48, u49, u50, u51, u52, u53, u54, u55, u56, u57, u58, u59, u60, u61, u62, u63, u64, u65, u66, u67, u68, _, rfl, hB.alloc hB.size _, .inl ⟨by rw [Array.getElem?_setIfInBounds_ne (by decide)]; exact h28, R8.set27 (hR.below ((Below.refl _ _).alloc (Nat.le_refl _) _)) ?_⟩⟩
                exact ⟨_, rfl, hB.size, Bk.made _ _ _⟩
              rcases i with _ | i
              · simp only [List.getElem?_toArray, List.getElem?_cons_succ, List.getElem?_cons_zero, Option.some.injEq] at ho
                subst ho
                rw [if_pos (by rfl)]
                have HSZ := Aside.mk hsz
                clear hsz hi hLi
                have hh27 := (hR.f27 (haft { on := 27, ground := .data } (by simp) rfl)).choose_spec
                generalize (hR.f27 (haft { on := 27, ground := .data } (by simp) rfl)).choose = n27 at hh27
                have ee27 := hh27.1
                have hn27 := hh27.2.1
                have hb27 := hh27.2.2
                clear hh27
                subst ee27
                have hh26 := (hR.f26 (haft { on := 26, ground := .data } (by simp) rfl)).choose_spec
                generalize (hR.f26 (haft { on := 26, ground := .data } (by simp) rfl)).choose = n26 at hh26
                have ee26 := hh26.1
                have hn26 := hh26.2.1
                have hb26 := hh26.2.2
                clear hh26
                subst ee26
                have HK := Aside.mk hK
                have HAF : Aside (∀ j, j < 28 → L'[j]? = some true) := ⟨fun j hj => by
                  have hc : j = 0 ∨ j = 1 ∨ j = 2 ∨ j = 3 ∨ j = 4 ∨ j = 5 ∨ j = 6 ∨ j = 7 ∨ j = 8 ∨ j = 9 ∨ j = 10 ∨ j = 11 ∨ j = 12 ∨ j = 13 ∨ j = 14 ∨ j = 15 ∨ j = 16 ∨ j = 17 ∨ j = 18 ∨ j = 19 ∨ j = 20 ∨ j = 21 ∨ j = 22 ∨ j = 23 ∨ j = 24 ∨ j = 25 ∨ j = 26 ∨ j = 27 := by omega
                  rcases hc with rfl | rfl | rfl | rfl | rfl | rfl | rfl | rfl | rfl | rfl | rfl | rfl | rfl | rfl | rfl | rfl | rfl | rfl | rfl | rfl | rfl | rfl | rfl | rfl | rfl | rfl | rfl | rfl <;> exact haft { on := _, ground := .phase } (by simp) rfl⟩
                clear hK haft
                simp only [putA, Act.put, List.setIfInBounds_toArray, List.set_cons_zero, List.set_cons_succ]
                have hfz := hb27.frozen
                have hcl := hb27.cell
                go_simp
                clear hfz hcl
                refine HK.out _ _ ?_
                simp only [J8, putA, Act.put, List.setIfInBounds_toArray, List.set_cons_zero, List.set_cons_succ]
                have hne : n26 ≠ n27 := hb26.ne hb27 (by simp)
                refine ⟨_, _, _, _, _, _, _, _, _, _, _, _, _, _, _, _, _, _, _, _, _, _, _, _, _, _, _, _, rfl, below12 hB hn27, .inr ⟨fun j hj => ?_, _, _, rfl, hn27, hn26, hb27.set12, hb26.other12 hne⟩⟩
                by_cases h28 : 28 = j
                · subst h28
                  rw [Array.getElem?_setIfInBounds_self_of_lt (by rw [HSZ.out]; decide)]
                · rw [Array.getElem?_setIfInBounds_ne h28]
                  exact HAF.out j (by omega)
              exact absurd hi (by simp)
            · intro L' a w' hall hJ
              obtain ⟨u42, u43, u44, u45, u46, u47, u48, u49, u50, u51, u52, u53, u54, u55, u56, u57, u58, u59, u60, u61, u62, u63, u64, u65, u66, u67, u68, u8, rfl, hB, hJ⟩ := hJ
              rcases hJ with ⟨h28, _⟩ | ⟨_, n, nf, rfl, h1, h2, h3, h4⟩
              · rw [hall 28 (by decide)] at h28
                cases h28
              · subst hA
                simp only [putA, Act.put, List.setIfInBounds_toArray, List.set_cons_zero, List.set_cons_succ]
                go_wp2_with fail
                go_meet
                exact ⟨n, nf, rfl, ⟨h3, h4, Nat.le_trans hBw8.size h2, below_step hBw8 hB⟩, ⟨Nat.le_trans hBw8.size h1⟩⟩
          case rest =>
            obtain ⟨n8, nf, rfl, hcut, HN8⟩ := hcut
            have hop : opsOne (x :: y :: z :: r) = [⟨kindsL[i8]?.getD 0, ⟨withinV x 3, withinV y 2, withinV z 30⟩, if kindsL[i8]?.getD 0 = 1 then rules4 else [], ⟨abcS[i3]?.getD ⟨#[]⟩, withinV y 8, [⟨⟨#[107]⟩, xyS[i2]?.getD ⟨#[]⟩⟩], []⟩, abcS[i3]?.getD ⟨#[]⟩, ⟨⟨#[107]⟩, ⟨#[120]⟩⟩⟩] := by
              show [opOf x y z] = _
              unfold opOf opR opK opId opVl
              rw [HX8.out, HI3.out, HY2.out]
              rfl
            rw [hop] at hst
            clear hop HX8 HI3 HY2 hk0 hk3 hW8
            generalize kindsL[i8]?.getD 0 = kd at *
            generalize abcS[i3]?.getD ⟨#[]⟩ = idb at *
            generalize xyS[i2]?.getD ⟨#[]⟩ = vlb at *
            have HLN : Aside (((opsK (L.take k)).length + 1) * 176 ≤ 140737488355328) := ⟨by have := opsK_len (L.take k); rw [List.length_take] at this; omega⟩
            have hOlt := HO.out.lt
            have HO2 := Aside.mk (HO.out.below hcut.out.2.2.2)
            have HB2 := Aside.mk (below_step HB.out hcut.out.2.2.2)
            have hb8 := hcut.out.1
            have HBF := Aside.mk hcut.out.2.1
            have HBW := Aside.mk hcut.out.2.2.2
            have hnf : w.heap.size ≤ nf ∧ ∀ j, (Value.slice Ao (opsK (L.take k)).length co).ownBlock = some j → j < nf := ⟨Nat.le_trans HB.out.size hcut.out.2.2.1, fun j hj => Nat.lt_of_lt_of_le (hOlt j hj).2 hcut.out.2.2.1⟩
            have HNF := Aside.mk hnf
            clear hcut hnf hOlt
            by_cases hk1 : kd = 1
            · rw [if_pos hk1] at hst
              subst hk1
              have HE := Aside.mk hst
              clear hst
              have hr4 : rulR.Row (wc.alloc (.cells #[.int .i64 0, .int .i64 (-1), .int .i64 0, .int .i64 40, .int .i64 1, .bool true, .int .i64 1, .int .i64 (-1), .int .i64 0, .int .i64 20, .int .i64 3, .bool true, .int .i64 2, .int .i64 0, .int .i64 0, .int .i64 40, .int .i64 7, .bool true, .int .i64 (-1), .int .i64 (-1), .int .i64 10, .int .i64 12, .int .i64 2, .bool false] 44)) (fun k => k = wc.heap.size) (some ⟨wc.heap.size, 0, none⟩) rules4 := rulesLit wc rules4 (by decide)
              have q00 : wc.cell? ⟨n8, 0, none⟩ = some (.int .i64 1) := hb8.cell 0
              have hne : n8 ≠ wc.heap.size := Nat.ne_of_lt hb8.lt
              have q := (hb8.alloc (.cells #[.int .i64 0, .int .i64 (-1), .int .i64 0, .int .i64 40, .int .i64 1, .bool true, .int .i64 1, .int .i64 (-1), .int .i64 0, .int .i64 20, .int .i64 3, .bool true, .int .i64 2, .int .i64 0, .int .i64 0, .int .i64 40, .int .i64 7, .bool true, .int .i64 (-1), .int .i64 (-1), .int .i64 10, .int .i64 12, .int .i64 2, .bool false] 44)).twelve
              have hb81 := (hb8.alloc (.cells #[.int .i64 0, .int .i64 (-1), .int .i64 0, .int .i64 40, .int .i64 1, .bool true, .int .i64 1, .int .i64 (-1), .int .i64 0, .int .i64 20, .int .i64 3, .bool true, .int .i64 2, .int .i64 0, .int .i64 0, .int .i64 40, .int .i64 7, .bool true, .int .i64 (-1), .int .i64 (-1), .int .i64 10, .int .i64 12, .int .i64 2, .bool false] 44)).set 4 (.slice (some ⟨wc.heap.size, 0, none⟩) 4 4)
              have qq := Bk.twelve (show Bk ((wc.alloc (.cells #[.int .i64 0, .int .i64 (-1), .int .i64 0, .int .i64 40, .int .i64 1, .bool true, .int .i64 1, .int .i64 (-1), .int .i64 0, .int .i64 20, .int .i64 3, .bool true, .int .i64 2, .int .i64 0, .int .i64 0, .int .i64 40, .int .i64 7, .bool true, .int .i64 (-1), .int .i64 (-1), .int .i64 10, .int .i64 12, .int .i64 2, .bool false] 44)).setCell ⟨n8, 4, none⟩ (.slice (some ⟨wc.heap.size, 0, none⟩) 4 4)) n8 [.int .i64 1, .int .i64 (withinV x 3), .int .i64 (withinV y 2), .int .i64 (withinV z 30), .slice (some ⟨wc.heap.size, 0, none⟩) 4 4, .string idb, .int .i64 (withinV y 8), .slice (some ⟨nf, 0, none⟩) 1 1, .slice none 0 0, .string idb, .string ⟨#[107]⟩, .string ⟨#[120]⟩] from hb81)
              have hO2 := (HO.out.mono (ok' := fun j => w.heap.size ≤ j ∧ j < wr.heap.size) fun j h1 h2 => ⟨h1, h2⟩)
              have hO3 := ((hO2.below HBW.out).below (Below.alloc (Below.refl _ wc) (Nat.le_refl _) (.cells #[.int .i64 0, .int .i64 (-1), .int .i64 0, .int .i64 40, .int .i64 1, .bool true, .int .i64 1, .int .i64 (-1), .int .i64 0, .int .i64 20, .int .i64 3, .bool true, .int .i64 2, .int .i64 0, .int .i64 0, .int .i64 40, .int .i64 7, .bool true, .int .i64 (-1), .int .i64 (-1), .int .i64 10, .int .i64 12, .int .i64 2, .bool false] 44))).grown (grown_set _ n8 4 (.slice (some ⟨wc.heap.size, 0, none⟩) 4 4)) (fun j hj e => by
                injection e with e
                have h1 := (HO.out.lt j hj).2
                have h2 := HN8.out
                omega) (fun j hj e => by
                injection e with e
                have h2 := HN8.out
                omega)
              have hO4 := hO3.mono (ok' := fun j => w.heap.size ≤ j) fun j h1 _ => h1.1
              have HO3 := Aside.mk hO4
              have HB3 := Aside.mk (below_set (HB2.out.alloc HB2.out.size (.cells #[.int .i64 0, .int .i64 (-1), .int .i64 0, .int .i64 40, .int .i64 1, .bool true, .int .i64 1, .int .i64 (-1), .int .i64 0, .int .i64 20, .int .i64 3, .bool true, .int .i64 2, .int .i64 0, .int .i64 0, .int .i64 40, .int .i64 7, .bool true, .int .i64 (-1), .int .i64 (-1), .int .i64 10, .int .i64 12, .int .i64 2, .bool false] 44)) (p := ⟨n8, 4, none⟩) (Nat.le_trans HB.out.size HN8.out) (.slice (some ⟨wc.heap.size, 0, none⟩) 4 4))
              have hbf1 := (HBF.out.alloc (.cells #[.int .i64 0, .int .i64 (-1), .int .i64 0, .int .i64 40, .int .i64 1, .bool true, .int .i64 1, .int .i64 (-1), .int .i64 0, .int .i64 20, .int .i64 3, .bool true, .int .i64 2, .int .i64 0, .int .i64 0, .int .i64 40, .int .i64 7, .bool true, .int .i64 (-1), .int .i64 (-1), .int .i64 10, .int .i64 12, .int .i64 2, .bool false] 44)).other (m := n8) (o := 4) (HBF.out.ne hb8 (by simp)) (.slice (some ⟨wc.heap.size, 0, none⟩) 4 4)
              have hr41 := hr4.move (w1 := ((wc.alloc (.cells #[.int .i64 0, .int .i64 (-1), .int .i64 0, .int .i64 40, .int .i64 1, .bool true, .int .i64 1, .int .i64 (-1), .int .i64 0, .int .i64 20, .int .i64 3, .bool true, .int .i64 2, .int .i64 0, .int .i64 0, .int .i64 40, .int .i64 7, .bool true, .int .i64 (-1), .int .i64 (-1), .int .i64 10, .int .i64 12, .int .i64 2, .bool false] 44)).setCell ⟨n8, 4, none⟩ (.slice (some ⟨wc.heap.size, 0, none⟩) 4 4))) fun j hj _ => Below.heap_setCell _ _ _ j (by
                have h : j = wc.heap.size := hj
                rw [h]
                exact hne.symm)
              have HS1 := Aside.mk (And.intro hbf1 hr41)
              have HCR : Aside (w.heap.size ≤ wc.heap.size ∧ ∀ j, (Value.slice Ao (opsK (L.take k)).length co).ownBlock = some j → j < wc.heap.size) := ⟨HB2.out.size, fun j hj => (HO2.out.lt j hj).2⟩
              clear hO2 hO3 hO4 hbf1 hr41 hr4 hb81 hb8
              go_upto_region 11 with fail
              change Code.wp _ _ _ _ ((wc.alloc (.cells #[.int .i64 0, .int .i64 (-1), .int .i64 0, .int .i64 40, .int .i64 1, .bool true, .int .i64 1, .int .i64 (-1), .int .i64 0, .int .i64 20, .int .i64 3, .bool true, .int .i64 2, .int .i64 0, .int .i64 0, .int .i64 40, .int .i64 7, .bool true, .int .i64 (-1), .int .i64 (-1), .int .i64 10, .int .i64 12, .int .i64 2, .bool false] 44)).setCell ⟨n8, 4, none⟩ (.slice (some ⟨wc.heap.size, 0, none⟩) 4 4))
              generalize hW1 : ((wc.alloc (.cells #[.int .i64 0, .int .i64 (-1), .int .i64 0, .int .i64 40, .int .i64 1, .bool true, .int .i64 1, .int .i64 (-1), .int .i64 0, .int .i64 20, .int .i64 3, .bool true, .int .i64 2, .int .i64 0, .int .i64 0, .int .i64 40, .int .i64 7, .bool true, .int .i64 (-1), .int .i64 (-1), .int .i64 10, .int .i64 12, .int .i64 2, .bool false] 44)).setCell ⟨n8, 4, none⟩ (.slice (some ⟨wc.heap.size, 0, none⟩) 4 4)) = W1 at *
              clear q q00 hW1
              have HKY : Aside (opRp.K (W1.alloc (.cells #[.int .i64 1, .int .i64 (withinV x 3), .int .i64 (withinV y 2), .int .i64 (withinV z 30), .slice (some ⟨wc.heap.size, 0, none⟩) 4 4, .string idb, .int .i64 (withinV y 8), .slice (some ⟨nf, 0, none⟩) 1 1, .slice none 0 0, .string idb, .string ⟨#[107]⟩, .string ⟨#[120]⟩] 62)) (fun j => w.heap.size ≤ j ∧ some j ≠ (Value.slice Ao (opsK (L.take k)).length co).ownBlock) ⟨1, ⟨withinV x 3, withinV y 2, withinV z 30⟩, rules4, ⟨idb, withinV y 8, [⟨⟨#[107]⟩, vlb⟩], []⟩, idb, ⟨⟨#[107]⟩, ⟨#[120]⟩⟩⟩ [.int .i64 1, .int .i64 (withinV x 3), .int .i64 (withinV y 2), .int .i64 (withinV z 30), .slice (some ⟨wc.heap.size, 0, none⟩) 4 4, .string idb, .int .i64 (withinV y 8), .slice (some ⟨nf, 0, none⟩) 1 1, .slice none 0 0, .string idb, .string ⟨#[107]⟩, .string ⟨#[120]⟩]) :=
                ⟨_, _, _, rfl, ⟨_, 4, rfl, Nat.le_refl _, (HS1.out.2.mono fun j hj _ => by
                    obtain rfl : j = wc.heap.size := hj
                    exact ⟨HCR.out.1, fun e => Nat.lt_irrefl _ (HCR.out.2 _ e.symm)⟩).below ((Below.refl _ _).alloc (Nat.le_refl _) _)⟩, sl_fld1 (x := ⟨⟨#[107]⟩, vlb⟩) (HS1.out.1.alloc _) ⟨HNF.out.1, fun e => Nat.lt_irrefl _ (HNF.out.2 nf e.symm)⟩, Sl.nil _ _ _⟩
              go_wp2_with (at_builtin
                           refine list_one (w0 := W1.alloc (.cells #[.int .i64 1, .int .i64 (withinV x 3), .int .i64 (withinV y 2), .int .i64 (withinV z 30), .slice (some ⟨wc.heap.size, 0, none⟩) 4 4, .string idb, .int .i64 (withinV y 8), .slice (some ⟨nf, 0, none⟩) 1 1, .slice none 0 0, .string idb, .string ⟨#[107]⟩, .string ⟨#[120]⟩] 62)) opRp w.heap.size rfl (.tmp 78) (.tmp 80) 64 62 zeroOp 176 rfl Try.underlying64 infoOp rfl (by decide) (by decide) (.slice Ao (opsK (L.take k)).length co) (opsK (L.take k)) ⟨1, ⟨withinV x 3, withinV y 2, withinV z 30⟩, rules4, ⟨idb, withinV y 8, [⟨⟨#[107]⟩, vlb⟩], []⟩, idb, ⟨⟨#[107]⟩, ⟨#[120]⟩⟩⟩ [.int .i64 1, .int .i64 (withinV x 3), .int .i64 (withinV y 2), .int .i64 (withinV z 30), .slice (some ⟨wc.heap.size, 0, none⟩) 4 4, .string idb, .int .i64 (withinV y 8), .slice (some ⟨nf, 0, none⟩) 1 1, .slice none 0 0, .string idb, .string ⟨#[107]⟩, .string ⟨#[120]⟩] (fun j => w.heap.size ≤ j) W1.heap.size 1 rfl rfl (blk_new W1 _ _) HKY.out (HO3.out.below ((Below.refl _ _).alloc (Nat.le_refl _) _)) (Below.refl _ _) (Nat.le_trans HB3.out.size (by simp)) HLN.out ?_
                           intro v1 w5 HO1 HB1 hg hat
                           have HO5 := Aside.mk HO1
                           have HB5 := Aside.mk ((HB3.out.alloc HB3.out.size _).grown hg (Nat.le_trans HB3.out.size (by simp)) (fun j hj => (HO3.out.lt j hj).1))
                           clear HO1 HB1 hg hat)
              refine ⟨⟨k + 1, by omega, by go_num, ⟨by rw [HE.out]; exact HO5.out⟩, HB5⟩, by simp [intOf]; omega⟩
            · rw [if_neg hk1] at hst
              have HE := Aside.mk hst
              clear hst
              have g : (kd == 1) = false := by simp [hk1]
              have q := hb8.twelve
              have HKY : Aside (opRp.K (wc.alloc (.cells #[.int .i64 kd, .int .i64 (withinV x 3), .int .i64 (withinV y 2), .int .i64 (withinV z 30), .slice none 0 0, .string idb, .int .i64 (withinV y 8), .slice (some ⟨nf, 0, none⟩) 1 1, .slice none 0 0, .string idb, .string ⟨#[107]⟩, .string ⟨#[120]⟩] 62)) (fun j => w.heap.size ≤ j ∧ some j ≠ (Value.slice Ao (opsK (L.take k)).length co).ownBlock) ⟨kd, ⟨withinV x 3, withinV y 2, withinV z 30⟩, [], ⟨idb, withinV y 8, [⟨⟨#[107]⟩, vlb⟩], []⟩, idb, ⟨⟨#[107]⟩, ⟨#[120]⟩⟩⟩ [.int .i64 kd, .int .i64 (withinV x 3), .int .i64 (withinV y 2), .int .i64 (withinV z 30), .slice none 0 0, .string idb, .int .i64 (withinV y 8), .slice (some ⟨nf, 0, none⟩) 1 1, .slice none 0 0, .string idb, .string ⟨#[107]⟩, .string ⟨#[120]⟩]) :=
                ⟨_, _, _, rfl, Sl.nil _ _ _, sl_fld1 (x := ⟨⟨#[107]⟩, vlb⟩) (HBF.out.alloc _) ⟨HNF.out.1, fun e => Nat.lt_irrefl _ (HNF.out.2 nf e.symm)⟩, Sl.nil _ _ _⟩
              clear hb8
              go_wp2_with (at_builtin
                           refine list_one (w0 := wc.alloc (.cells #[.int .i64 kd, .int .i64 (withinV x 3), .int .i64 (withinV y 2), .int .i64 (withinV z 30), .slice none 0 0, .string idb, .int .i64 (withinV y 8), .slice (some ⟨nf, 0, none⟩) 1 1, .slice none 0 0, .string idb, .string ⟨#[107]⟩, .string ⟨#[120]⟩] 62)) opRp w.heap.size rfl (.tmp 78) (.tmp 80) 64 62 zeroOp 176 rfl Try.underlying64 infoOp rfl (by decide) (by decide) (.slice Ao (opsK (L.take k)).length co) (opsK (L.take k)) ⟨kd, ⟨withinV x 3, withinV y 2, withinV z 30⟩, [], ⟨idb, withinV y 8, [⟨⟨#[107]⟩, vlb⟩], []⟩, idb, ⟨⟨#[107]⟩, ⟨#[120]⟩⟩⟩ [.int .i64 kd, .int .i64 (withinV x 3), .int .i64 (withinV y 2), .int .i64 (withinV z 30), .slice none 0 0, .string idb, .int .i64 (withinV y 8), .slice (some ⟨nf, 0, none⟩) 1 1, .slice none 0 0, .string idb, .string ⟨#[107]⟩, .string ⟨#[120]⟩] (fun j => w.heap.size ≤ j) wc.heap.size 1 rfl rfl (blk_new wc _ _) HKY.out (HO2.out.below ((Below.refl _ _).alloc (Nat.le_refl _) _)) (Below.refl _ _) (Nat.le_trans HB2.out.size (by simp)) HLN.out ?_
                           intro v1 w5 HO1 HB1 hg hat
                           have HO5 := Aside.mk HO1
                           have HB5 := Aside.mk ((HB2.out.alloc HB2.out.size _).grown hg (Nat.le_trans HB2.out.size (by simp)) (fun j hj => (HO2.out.lt j hj).1))
                           clear HO1 HB1 hg hat)
              refine ⟨⟨k + 1, by omega, by go_num, ⟨by rw [HE.out]; exact HO5.out⟩, HB5⟩, by simp [intOf]; omega⟩
    · obtain rfl : k = L.length := by omega
      have h := HO.out
      rw [List.take_length] at h
      have HE := Aside.mk h
      clear h
      go_wp2_with fail
      go_ret
      refine ⟨_, by rw [List.take_length]; rfl, HE.out.sl.mono fun j hj _ => hj.elim id fun h => (HE.out.lt j h).1, HB.out⟩
end Go.Proofs.WK
