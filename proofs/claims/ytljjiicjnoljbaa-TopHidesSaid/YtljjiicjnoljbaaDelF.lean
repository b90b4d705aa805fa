/-
  slices.IndexFunc, slices.DeleteFunc of versions, with a predicate that reads one variable.
-/
import Derived.Test.YtljjiicjnoljbaaStoCp
import Derived.Test.YtljjiicjnoljbaaWk0
namespace Go.Proofs.WK
open Go.RowKit Rp
/-- The function g, with the variable at block B that holds u, answers p. -/
def PredV (g : Nat) (B : Nat) (u : Value) (p : Ver → Bool) : Prop :=
  ∀ (W : World) (x : Ver) (A1 A2 : Option Addr) (c1 c2 : Nat), B < W.heap.size → W.cell? ⟨B, 0, none⟩ = some u →
    Calls Try.prog g #[.agg #[.string x.r.id, .int .i64 x.r.cats, .slice A1 x.r.fields.length c1, .slice A2 x.r.refs.length c2, .bool x.gone], .pointer (some ⟨B, 0, none⟩)] W fun e W' => e = .returned (.bool (p x)) ∧ Below W.heap.size W W'
/-- The first place at which p holds. -/
def firstP (p : Ver → Bool) (l : List Ver) : Nat → Prop := fun k => k ≤ l.length ∧ (∀ j (h : j < l.length), j < k → p l[j] = false) ∧ ∀ h : k < l.length, p l[k] = true
set_option maxHeartbeats 1600000 in
set_option maxRecDepth 100000 in
theorem indexF (g B : Nat) (u : Value) (p : Ver → Bool) (eg : ∀ args w, (callFunc g args).run Try.prog w = .ok (.enter g args) w) (hp : PredV g B u p) (A : Option Addr) (n c : Nat) (l : List Ver) (ok : Nat → Prop) (w : World) (hr : verR.Row w ok A l) (hn : l.length = n) (hB : B < w.heap.size) (hu : w.cell? ⟨B, 0, none⟩ = some u) :
    Calls Try.prog 110 #[.slice A n c, .func (.func g) #[] #[.pointer (some ⟨B, 0, none⟩)]] w fun e w' => (∃ k : Nat, firstP p l k ∧ e = .returned (.int .i64 (if k < l.length then (k : Int) else -1))) ∧ Below w.heap.size w w' := by
  subst hn
  have hm := hr.1
  have HR := Aside.mk hr
  have HP := Aside.mk hp
  clear hr hp
  go_enter Try.func110, Try.ntmps110
  go_wp2_with fail
  go_loopw [8] (fun i wr => ∃ k : Nat, k ≤ l.length ∧ i = .int .i64 k ∧ Aside (∀ j (h : j < l.length), j < k → p l[j] = false) ∧ Aside (Below w.heap.size w wr)) (fun i _ => l.length - (intOf i).toNat)
  case atStart => exact ⟨0, Nat.zero_le _, rfl, ⟨fun j _ h => by omega⟩, ⟨Below.refl _ _⟩⟩
  case round =>
    obtain ⟨k, hk, rfl, HK, HW⟩ := hrel
    by_cases hlt : k < l.length
    · obtain ⟨ad, A1, c1, A2, c2, rfl, _, x0, x1, x2, x3, x4, _, _, _, _⟩ := ver_at (HR.out.below HW.out) hlt
      have p0 : (0 : Int) ≤ (k : Int) := by omega
      have p1 : (k : Int) < (l.length : Int) := by omega
      have HC := Aside.mk (HP.out wr l[k] A1 A2 c1 c2 (Nat.lt_of_lt_of_le hB HW.out.size) (cell_below HW.out hu))
      cases hq : p l[k]
      · have HK1 := Aside.mk (show ∀ j (h : j < l.length), j < k + 1 → p l[j] = false from fun j h hj => by
          rcases Nat.lt_or_eq_of_le (Nat.le_of_lt_succ hj) with h1 | h1
          · exact HK.out j h h1
          · subst h1; exact hq)
        go_wp2_with fail
        refine HC.out.mono ?_
        rw [hq]
        rintro e w1 ⟨rfl, hb⟩
        have HW1 := Aside.mk (below_step HW.out hb)
        clear hb
        go_wp2_with fail
        refine ⟨⟨k + 1, by omega, by go_num, HK1, HW1⟩, by simp [intOf]; omega⟩
      · have HX := Aside.mk (show firstP p l k from ⟨hk, HK.out, fun _ => hq⟩)
        have HI := Aside.mk (show (if k < l.length then (k : Int) else -1) = (k : Int) from if_pos hlt)
        go_wp2_with fail
        refine HC.out.mono ?_
        rw [hq]
        rintro e w1 ⟨rfl, hb⟩
        have HW1 := Aside.mk (below_step HW.out hb)
        clear hb
        go_wp2_with fail
        go_ret
        exact ⟨⟨k, HX.out, by rw [HI.out]; rfl⟩, HW1.out⟩
    · obtain rfl : k = l.length := by omega
      have HX := Aside.mk (show firstP p l l.length from ⟨Nat.le_refl _, HK.out, fun h => absurd h (Nat.lt_irrefl _)⟩)
      have HI := Aside.mk (show (if l.length < l.length then (l.length : Int) else -1) = -1 from if_neg (Nat.lt_irrefl _))
      go_wp2_with fail
      go_ret
      exact ⟨⟨_, HX.out, by rw [HI.out]; rfl⟩, HW.out⟩
/-! ### the plain law of slices.DeleteFunc -/
def keepL (p : Ver → Bool) (l : List Ver) : List Ver := l.filter fun x => !p x
structure DelAt (p : Ver → Bool) (l D : List Ver) (i j : Nat) : Prop where
  len : D.length = l.length
  lt : i < j
  le : j ≤ l.length
  kept : D.take i = keepL p (l.take j)
  rest : D.drop j = l.drop j
theorem keep_step {p : Ver → Bool} {l : List Ver} {j : Nat} (hj : j < l.length) : keepL p (l.take (j + 1)) = keepL p (l.take j) ++ if p l[j] = true then [] else [l[j]] := by
  unfold keepL
  rw [List.take_succ_eq_append_getElem hj, List.filter_append]
  cases h : p l[j] <;> simp [h]
theorem DelAt.start {p : Ver → Bool} {l : List Ver} {k : Nat} (h : firstP p l k) (hk : k < l.length) : DelAt p l l k (k + 1) := by
  refine ⟨rfl, by omega, hk, ?_, rfl⟩
  rw [keep_step hk, h.2.2 hk]
  have e : keepL p (l.take k) = l.take k := List.filter_eq_self.2 fun x hx => by
    obtain ⟨m, hm, rfl⟩ := List.getElem_of_mem hx
    rw [List.getElem_take]
    have := h.2.1 m (by simp at hm; omega) (by simp at hm; omega)
    rw [this]; rfl
  rw [e]
  simp
theorem DelAt.get {p : Ver → Bool} {l D : List Ver} {i j : Nat} (h : DelAt p l D i j) (hj : j < l.length) : D[j]'(by rw [h.len]; exact hj) = l[j] := by
  have e := congrArg (fun x => x[0]?) h.rest
  simp only [List.getElem?_drop, Nat.add_zero] at e
  rw [List.getElem?_eq_getElem (by rw [h.len]; exact hj), List.getElem?_eq_getElem hj] at e
  exact Option.some.inj e
theorem drop_succ_of {D l : List Ver} {j : Nat} (h : D.drop j = l.drop j) : D.drop (j + 1) = l.drop (j + 1) := by
  rw [← List.drop_drop, ← List.drop_drop, h]
theorem DelAt.skip {p : Ver → Bool} {l D : List Ver} {i j : Nat} (h : DelAt p l D i j) (hj : j < l.length) (hp : p l[j] = true) : DelAt p l D i (j + 1) :=
  ⟨h.len, Nat.lt_succ_of_lt h.lt, hj, by rw [keep_step hj, hp, if_pos rfl, List.append_nil]; exact h.kept, drop_succ_of h.rest⟩
theorem DelAt.keep {p : Ver → Bool} {l D : List Ver} {i j : Nat} (h : DelAt p l D i j) (hj : j < l.length) (hp : p l[j] = false) : DelAt p l (D.set i l[j]) (i + 1) (j + 1) := by
  have hi : i < D.length := by rw [h.len]; have := h.lt; omega
  refine ⟨by rw [List.length_set]; exact h.len, by have := h.lt; omega, hj, ?_, ?_⟩
  · rw [keep_step hj, hp, if_neg (by simp), ← h.kept, List.take_succ_eq_append_getElem (by simpa using hi)]
    have e : (D.set i l[j]).take i = D.take i := List.ext_getElem? fun m => by
      rw [List.getElem?_take, List.getElem?_take]
      by_cases hm : m < i
      · rw [if_pos hm, if_pos hm, List.getElem?_set_ne (by omega)]
      · rw [if_neg hm, if_neg hm]
    rw [e]
    simp
  · rw [List.drop_set_of_lt (by have := h.lt; omega)]
    exact drop_succ_of h.rest
theorem DelAt.done {p : Ver → Bool} {l D : List Ver} {i : Nat} (h : DelAt p l D i l.length) : D.take i = keepL p l := by rw [h.kept, List.take_length]
theorem keep_all {p : Ver → Bool} {l : List Ver} (h : firstP p l l.length) : keepL p l = l := List.filter_eq_self.2 fun x hx => by
  obtain ⟨m, hm, rfl⟩ := List.getElem_of_mem hx
  rw [h.2.1 m hm hm]; rfl
theorem grown_below {w W : World} (hb : Below w.heap.size w W) (r : Option Nat) : w.grownBy W r := ⟨hb.os, hb.tape, hb.output, hb.size, fun i hi _ => hb.block i hi⟩
theorem cell_grown {w W : World} {B : Nat} {r : Option Nat} (h : w.grownBy W r) (hB : B < w.heap.size) (hne : some B ≠ r) : W.cell? ⟨B, 0, none⟩ = w.cell? ⟨B, 0, none⟩ := World.cell?_of_block (h.block B hB hne)
theorem set5 (W : World) (g m : Nat) (a b c d e : Value) :
    (((((W.setCell ⟨g, m, none⟩ a).setCell ⟨g, m + 1, none⟩ b).setCell ⟨g, m + 2, none⟩ c).setCell ⟨g, m + 3, none⟩ d).setCell ⟨g, m + 4, none⟩ e) = W.setCells g m [a, b, c, d, e] := rfl
/-- An element of a row of versions of the call's own. -/
theorem own_ver {w : World} {ok : Nat → Prop} {e base n c k : Nat} {ad : Addr} {xs : List Ver} (h : verR.Own e w base ok (.slice (some ad) n c) xs) (hk : k < xs.length) : ∃ g A1 c1 A2 c2, ad = ⟨g, 0, none⟩ ∧
    w.cell? (ad.add (k * 5)) = some (.string xs[k].r.id) ∧ w.cell? ⟨(ad.add (k * 5)).block, (ad.add (k * 5)).off + 1, none⟩ = some (.int .i64 xs[k].r.cats) ∧
    w.cell? ⟨(ad.add (k * 5)).block, (ad.add (k * 5)).off + 2, none⟩ = some (.slice A1 xs[k].r.fields.length c1) ∧ w.cell? ⟨(ad.add (k * 5)).block, (ad.add (k * 5)).off + 3, none⟩ = some (.slice A2 xs[k].r.refs.length c2) ∧
    w.cell? ⟨(ad.add (k * 5)).block, (ad.add (k * 5)).off + 4, none⟩ = some (.bool xs[k].gone) ∧ verR.K w (fun k => ok k ∧ some k ≠ some g) xs[k] [.string xs[k].r.id, .int .i64 xs[k].r.cats, .slice A1 xs[k].r.fields.length c1, .slice A2 xs[k].r.refs.length c2, .bool xs[k].gone] := by
  obtain ⟨g, cl, hg, hK, hc0⟩ := own_cells h hk
  have hc : ∀ i u, cl[i]? = some u → w.cell? (ad.add (k * 5 + i)) = some u := hc0
  obtain ⟨_, _, rfl, ⟨A1, c1, rfl, l1, r1⟩, ⟨A2, c2, rfl, l2, r2⟩⟩ := verK.1 hK
  exact ⟨g, A1, c1, A2, c2, hg, hc 0 _ rfl, by rw [← add_field _ _ 1 (by omega)]; exact hc 1 _ rfl, by rw [← add_field _ _ 2 (by omega)]; exact hc 2 _ rfl, by rw [← add_field _ _ 3 (by omega)]; exact hc 3 _ rfl, by rw [← add_field _ _ 4 (by omega)]; exact hc 4 _ rfl, hK⟩
/-- No cell of such a row is frozen. -/
theorem own_free {w : World} {ok : Nat → Prop} {e base n c : Nat} {ad : Addr} {xs : List Ver} (h : verR.Own e w base ok (.slice (some ad) n c) xs) (m : Nat) : w.frozen? (ad.add m) = false ∧ ∀ o, w.frozen? ⟨(ad.add m).block, o, none⟩ = false := by
  obtain ⟨g, cs, rfl, hn, hb, hB, _⟩ := own_open h
  rw [add_plain]
  exact ⟨hB.frozen _, fun o => hB.frozen o⟩
theorem own_verL {w : World} {ok : Nat → Prop} {e base n c k g : Nat} {xs : List Ver} (h : verR.Own e w base ok (.slice (some ⟨g, 0, none⟩) n c) xs) (hk : k < xs.length) : ∃ A1 c1 A2 c2,
    w.cell? ⟨g, k * 5, none⟩ = some (.string xs[k].r.id) ∧ w.cell? ⟨g, k * 5 + 1, none⟩ = some (.int .i64 xs[k].r.cats) ∧ w.cell? ⟨g, k * 5 + 2, none⟩ = some (.slice A1 xs[k].r.fields.length c1) ∧ w.cell? ⟨g, k * 5 + 3, none⟩ = some (.slice A2 xs[k].r.refs.length c2) ∧
    w.cell? ⟨g, k * 5 + 4, none⟩ = some (.bool xs[k].gone) ∧ verR.K w (fun k => ok k ∧ some k ≠ some g) xs[k] [.string xs[k].r.id, .int .i64 xs[k].r.cats, .slice A1 xs[k].r.fields.length c1, .slice A2 xs[k].r.refs.length c2, .bool xs[k].gone] := by
  obtain ⟨g', A1, c1, A2, c2, hg, x0, x1, x2, x3, x4, hK⟩ := own_ver h hk
  obtain rfl : g = g' := by injection hg
  simp only [add_plain] at x0 x1 x2 x3 x4
  exact ⟨A1, c1, A2, c2, x0, x1, x2, x3, x4, hK⟩
theorem own_freeL {w : World} {ok : Nat → Prop} {e base n c g : Nat} {xs : List Ver} (h : verR.Own e w base ok (.slice (some ⟨g, 0, none⟩) n c) xs) : ∀ o, w.frozen? ⟨g, o, none⟩ = false := by
  have := (own_free h 0).2
  rwa [add_plain] at this
theorem zeroVer (w : World) : (zeroValue 129).run Try.prog w = .ok (.agg #[.string ByteArray.empty, .int .i64 0, .slice none 0 0, .slice none 0 0, .bool false]) w := by kernel_rfl
set_option maxHeartbeats 4000000 in
set_option maxRecDepth 100000 in
theorem deleteF (g B : Nat) (u : Value) (p : Ver → Bool) (eg : ∀ args w, (callFunc g args).run Try.prog w = .ok (.enter g args) w) (hp : PredV g B u p) (A : Option Addr) (n c base : Nat) (l : List Ver) (ok : Nat → Prop) (w : World)
    (ho : verR.Own 129 w base ok (.slice A n c) l) (hB : B < w.heap.size) (hu : w.cell? ⟨B, 0, none⟩ = some u) (hne : some B ≠ (Value.slice A n c).ownBlock) :
    Calls Try.prog 83 #[.slice A n c, .func (.func g) #[] #[.pointer (some ⟨B, 0, none⟩)]] w fun e w' => ∃ v, e = .returned v ∧ verR.Own 129 w' base ok v (keepL p l) ∧ w.grownBy w' (Value.slice A n c).ownBlock := by
  obtain ⟨rfl, hc, hr⟩ := ho.row
  have hm := hr.1
  have HO := Aside.mk ho
  have HR := Aside.mk hr
  have HP := Aside.mk hp
  have HIF := Aside.mk (indexF g B u p eg hp A l.length c l _ w hr rfl hB hu)
  clear ho hr hp
  go_enter Try.func83, Try.ntmps83
  go_wp2_with fail
  refine HIF.out.mono ?_
  rintro e w1 ⟨⟨k, hk, rfl⟩, hb⟩
  have HK := Aside.mk hk
  have hkl := hk.1
  have HB1 := Aside.mk hb
  clear HIF hb hk
  by_cases hlt : k < l.length
  · rw [if_pos hlt]
    have hne1 : ((k : Int) == -1) = false := by simp
    have hk1 : (k : Int) + 1 ≤ 9223372036854775807 := by omega
    cases A with
    | none => 
      exfalso
      obtain ⟨ad, e, _⟩ := HR.out.2 0 l[0] (List.getElem?_eq_getElem (by omega))
      cases e
    | some ad =>
      obtain ⟨g0, rfl⟩ : ∃ g0, ad = ⟨g0, 0, none⟩ := by obtain ⟨g0, cs, e, _⟩ := own_open HO.out; exact ⟨g0, e⟩
      have HNE : Aside (some B ≠ some g0) := ⟨hne⟩
      clear hne
      go_wp2_with fail
      go_loopw [5, 6] (fun a b wr => ∃ (i j : Nat) (D : List Ver), a = .int .i64 i ∧ b = .int .i64 j ∧ j ≤ l.length ∧ i < j ∧ Aside (DelAt p l D i j) ∧ Aside (verR.Own 129 wr base ok (.slice (some ⟨g0, 0, none⟩) l.length c) D) ∧ Aside (w.grownBy wr (some g0))) (fun _ b _ => l.length - (intOf b).toNat)
      case atStart => exact ⟨k, k + 1, l, rfl, by go_num, hlt, Nat.lt_succ_self k, ⟨.start HK.out hlt⟩, ⟨HO.out.below HB1.out⟩, ⟨grown_below HB1.out _⟩⟩
      case round =>
        obtain ⟨i, j, D, rfl, rfl, hj, hij, HD, HW, HGr⟩ := hrel
        have hDl := HD.out.len
        by_cases hjl : j < l.length
        · have p0 : (0 : Int) ≤ (j : Int) := by omega
          have p1 : (j : Int) < (l.length : Int) := by omega
          have p2 : (0 : Int) ≤ (i : Int) := by omega
          have p3 : (i : Int) < (l.length : Int) := by omega
          obtain ⟨A1, c1, A2, c2, x0, x1, x2, x3, x4, hK⟩ := own_verL HW.out (k := j) (by omega)
          have hDj := HD.out.get hjl
          rw [hDj] at x0 x1 x2 x3 x4 hK
          have HKj := Aside.mk hK
          clear hK
          have hBw : wr.cell? ⟨B, 0, none⟩ = some u := (cell_grown HGr.out hB HNE.out).trans hu
          have HC := Aside.mk (HP.out (wr.alloc (.cells (verC l[j] A1 A2 c1 c2).toArray 129)) l[j] A1 A2 c1 c2 (by have := HGr.out.size; simp; omega) (cell_below ((Below.refl _ _).alloc (Nat.le_refl _) _) hBw))
          clear hDj hBw
          cases hq : p l[j] with
          | true =>
            go_wp2_with fail
            refine HC.out.mono ?_
            rw [hq]
            rintro e w2 ⟨rfl, hb⟩
            have hb2 := below_step ((Below.refl _ _).alloc (Nat.le_refl _) _) hb
            have HW2 := Aside.mk (HW.out.below hb2)
            have HG2 := Aside.mk (HGr.out.trans (grown_below hb2 _))
            clear hb hb2
            go_wp2_with fail
            refine ⟨⟨i, j + 1, D, rfl, by go_num, by omega, by omega, ⟨HD.out.skip hjl hq⟩, HW2, HG2⟩, by simp [intOf]; omega⟩
          | false =>
            go_wp2_with fail
            refine HC.out.mono ?_
            rw [hq]
            rintro e w2 ⟨rfl, hb⟩
            have hb2 := below_step ((Below.refl _ _).alloc (Nat.le_refl _) _) hb
            have q5 := ((Bk.made wr (verC l[j] A1 A2 c1 c2) 129).below hb).five
            have HW2 := Aside.mk (HW.out.below hb2)
            have HG2 := Aside.mk (HGr.out.trans (grown_below hb2 _))
            have HM2 := Aside.mk hb2
            clear hb hb2 x0 x1 x2 x3 x4
            obtain ⟨E1, e1, E2, e2, y0, y1, y2, y3, y4, _⟩ := own_verL HW2.out (k := i) (by omega)
            have zz := own_freeL HW2.out
            go_wp2_with fail
            rw [set5 w2 g0 (i * 5)]
            refine ⟨⟨i + 1, j + 1, D.set i l[j], by go_num, by go_num, by omega, by omega, ⟨HD.out.keep hjl hq⟩, ⟨?_⟩, ⟨HG2.out.trans (grown_setCells _ _ _ _)⟩⟩, by simp [intOf]; omega⟩
            exact own_set HW2.out (by omega) (verR.move (fun k hk hlt => HM2.out.block k hlt) HKj.out)
        · obtain rfl : j = l.length := by omega
          have hic : ¬ c = i := by omega
          have p2 : (0 : Int) ≤ (i : Int) := by omega
          have p3 : (i : Int) ≤ (l.length : Int) := by omega
          have p4 : (i : Int) ≤ (c : Int) := by omega
          obtain ⟨vs, hcl⟩ := run_clear_own (P := Try.prog) (t := 66) (ty := 0) (z := .agg #[.string ByteArray.empty, .int .i64 0, .slice none 0 0, .slice none 0 0, .bool false]) Try.underlying66 zeroVer rfl (by intro u hu; simp [Value.cells] at hu; rcases hu with rfl | rfl | rfl | rfl | rfl <;> rfl) HW.out (Nat.le_of_lt hij) hij (c - i)
          have hcl2 : ∀ ty, (Builtin.clear_ #[66] ty #[.slice (some ⟨g0, i * 5, none⟩) (l.length - i) (c - i)]).run Try.prog wr = .ok (.tuple #[]) (wr.setCells g0 (i * 5) vs) := fun _ => hcl
          have HX := Aside.mk HD.out.done
          have HG3 := Aside.mk (HGr.out.trans (grown_setCells wr g0 (i * 5) vs))
          have HE2 : Aside (verR.Own 129 (wr.setCells g0 (i * 5) vs) base ok (.slice (some ⟨g0, 0, none⟩) i c) (D.take i)) := ⟨own_behind (own_take HW.out (i := i) (by omega)) (Nat.le_refl _) vs⟩
          generalize wr.setCells g0 (i * 5) vs = w9 at hcl2 HG3 HE2
          clear hcl
          go_wp2_with fail
          go_ret
          exact ⟨_, rfl, by rw [← HX.out]; exact HE2.out, HG3.out⟩
  · rw [if_neg hlt]
    obtain rfl : k = l.length := by omega
    have HX := Aside.mk (keep_all HK.out)
    go_wp2_with fail
    go_ret
    exact ⟨_, rfl, by rw [HX.out]; exact HO.out.below HB1.out, grown_below HB1.out _⟩
end Go.Proofs.WK
