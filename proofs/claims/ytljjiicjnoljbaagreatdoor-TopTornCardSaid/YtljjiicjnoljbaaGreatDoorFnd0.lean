/-
  slices.IndexFunc, slices.DeleteFunc of versions, with a predicate that reads one variable.
  store.Part, store.Hist (P24, P26).
  slices.Index, slices.Contains at fields and texts.
  store.Get (P25).
  slices.Sort of a row of texts that is the call's own.
  store.Ids (P27).
  find.By (P28).
-/
import Derived.Shelf.Abstract
import Derived.Lib.OwnBridge
import Derived.Sort.OwnSorted
import Derived.Test.YtljjiicjnoljbaaGreatDoorSto0
import Derived.Test.YtljjiicjnoljbaaGreatDoorWk0
import Derived.Test.YtljjiicjnoljbaaGreatDoorPl0
import Derived.Test.YtljjiicjnoljbaaGreatDoorSame
import Derived.Test.YtljjiicjnoljbaaGreatDoorDat
import Derived.Test.YtljjiicjnoljbaaGreatDoorShSort
import Derived.Test.YtljjiicjnoljbaaGreatDoorRec0
import Derived.Test.YtljjiicjnoljbaaGreatDoorShSortL
namespace Go.Proofs.WK
open Go.RowKit Rp
/-- The function g, with the variable at block B that holds u, answers p. -/
def PredV (g : Nat) (B : Nat) (u : Value) (p : Ver → Bool) : Prop :=
  ∀ (W : World) (x : Ver) (A1 A2 : Option Addr) (c1 c2 : Nat), B < W.heap.size → W.cell? ⟨B, 0, none⟩ = some u →
    Calls Tryz.prog g #[.agg #[.string x.r.id, .int .i64 x.r.cats, .slice A1 x.r.fields.length c1, .slice A2 x.r.refs.length c2, .bool x.gone], .pointer (some ⟨B, 0, none⟩)] W fun e W' => e = .returned (.bool (p x)) ∧ Below W.heap.size W W'
/-- The first place at which p holds. -/
def firstP (p : Ver → Bool) (l : List Ver) : Nat → Prop := fun k => k ≤ l.length ∧ (∀ j (h : j < l.length), j < k → p l[j] = false) ∧ ∀ h : k < l.length, p l[k] = true
set_option maxHeartbeats 1600000 in
set_option maxRecDepth 100000 in
theorem indexF (g B : Nat) (u : Value) (p : Ver → Bool) (eg : ∀ args w, (callFunc g args).run Tryz.prog w = .ok (.enter g args) w) (hp : PredV g B u p) (A : Option Addr) (n c : Nat) (l : List Ver) (ok : Nat → Prop) (w : World) (hr : verR.Row w ok A l) (hn : l.length = n) (hB : B < w.heap.size) (hu : w.cell? ⟨B, 0, none⟩ = some u) :
    Calls Tryz.prog 193 #[.slice A n c, .func (.func g) #[] #[.pointer (some ⟨B, 0, none⟩)]] w fun e w' => (∃ k : Nat, firstP p l k ∧ e = .returned (.int .i64 (if k < l.length then (k : Int) else -1))) ∧ Below w.heap.size w w' := by
  subst hn
  have hm := hr.1
  have HR := Aside.mk hr
  have HP := Aside.mk hp
  clear hr hp
  go_enter Tryz.func193, Tryz.ntmps193
  go_wp2_with fail
  go_loopw [8] (fun i wr => ∃ k : Nat, k ≤ l.length ∧ i = .int .i64 k ∧ Aside (∀ j (h : j < l.length), j < k → p l[j] = false) ∧ Aside (Below w.heap.size w wr)) (fun i _ => l.length - (intOf i).toNat)
  case atStart => exact ⟨0, Nat.zero_le _, rfl, ⟨fun j _ h => by omega⟩, ⟨Below.refl _ _⟩⟩
  case round =>
    obtain ⟨k, hk, rfl, HK, HW⟩ := hrel
    by_cases hlt : k < l.length
    · obtain ⟨ad, A1, c1, A2, c2, rfl, _, x0, x1, x2, x3, x4, _, _, _, _⟩ := ver_at (HR.out.below HW.out) hlt
      have p0 : (0 : Int) ≤ (k : Int) := by omega
      have p1 : (k : Int) < (l.length : Int) := by omega
      have HC := Aside.mk (HP.out wr l[k] A1 A2 c1 c2 (Nat.lt_of_lt_of_le hB HW.out.size) (cell_below HW.out hu))
      cases hq : p l[k]
      · have HK1 := Aside.mk (show ∀ j (h : j < l.length), j < k + 1 → p l[j] = false from fun j h hj => by
          rcases Nat.lt_or_eq_of_le (Nat.le_of_lt_succ hj) with h1 | h1
          · exact HK.out j h h1
          · subst h1; exact hq)
        go_wp2_with fail
        refine HC.out.mono ?_
        rw [hq]
        rintro e w1 ⟨rfl, hb⟩
        have HW1 := Aside.mk (below_step HW.out hb)
        clear hb
        go_wp2_with fail
        refine ⟨⟨k + 1, by omega, by go_num, HK1, HW1⟩, by simp [intOf]; omega⟩
      · have HX := Aside.mk (show firstP p l k from ⟨hk, HK.out, fun _ => hq⟩)
        have HI := Aside.mk (show (if k < l.length then (k : Int) else -1) = (k : Int) from if_pos hlt)
        go_wp2_with fail
        refine HC.out.mono ?_
        rw [hq]
        rintro e w1 ⟨rfl, hb⟩
        have HW1 := Aside.mk (below_step HW.out hb)
        clear hb
        go_wp2_with fail
        go_ret
        exact ⟨⟨k, HX.out, by rw [HI.out]; rfl⟩, HW1.out⟩
    · obtain rfl : k = l.length := by omega
      have HX := Aside.mk (show firstP p l l.length from ⟨Nat.le_refl _, HK.out, fun h => absurd h (Nat.lt_irrefl _)⟩)
      have HI := Aside.mk (show (if l.length < l.length then (l.length : Int) else -1) = -1 from if_neg (Nat.lt_irrefl _))
      go_wp2_with fail
      go_ret
      exact ⟨⟨_, HX.out, by rw [HI.out]; rfl⟩, HW.out⟩
/-! ### the plain law of slices.DeleteFunc -/
def keepL (p : Ver → Bool) (l : List Ver) : List Ver := l.filter fun x => !p x
structure DelAt (p : Ver → Bool) (l D : List Ver) (i j : Nat) : Prop where
  len : D.length = l.length
  lt : i < j
  le : j ≤ l.length
  kept : D.take i = keepL p (l.take j)
  rest : D.drop j = l.drop j
theorem keep_step {p : Ver → Bool} {l : List Ver} {j : Nat} (hj : j < l.length) : keepL p (l.take (j + 1)) = keepL p (l.take j) ++ if p l[j] = true then [] else [l[j]] := by
  unfold keepL
  rw [List.take_succ_eq_append_getElem hj, List.filter_append]
  cases h : p l[j] <;> simp [h]
theorem DelAt.start {p : Ver → Bool} {l : List Ver} {k : Nat} (h : firstP p l k) (hk : k < l.length) : DelAt p l l k (k + 1) := by
  refine ⟨rfl, by omega, hk, ?_, rfl⟩
  rw [keep_step hk, h.2.2 hk]
  have e : keepL p (l.take k) = l.take k := List.filter_eq_self.2 fun x hx => by
    obtain ⟨m, hm, rfl⟩ := List.getElem_of_mem hx
    rw [List.getElem_take]
    have := h.2.1 m (by simp at hm; omega) (by simp at hm; omega)
    rw [this]; rfl
  rw [e]
  simp
theorem DelAt.get {p : Ver → Bool} {l D : List Ver} {i j : Nat} (h : DelAt p l D i j) (hj : j < l.length) : D[j]'(by rw [h.len]; exact hj) = l[j] := by
  have e := congrArg (fun x => x[0]?) h.rest
  simp only [List.getElem?_drop, Nat.add_zero] at e
  rw [List.getElem?_eq_getElem (by rw [h.len]; exact hj), List.getElem?_eq_getElem hj] at e
  exact Option.some.inj e
theorem drop_succ_of {D l : List Ver} {j : Nat} (h : D.drop j = l.drop j) : D.drop (j + 1) = l.drop (j + 1) := by
  rw [← List.drop_drop, ← List.drop_drop, h]
theorem DelAt.skip {p : Ver → Bool} {l D : List Ver} {i j : Nat} (h : DelAt p l D i j) (hj : j < l.length) (hp : p l[j] = true) : DelAt p l D i (j + 1) :=
  ⟨h.len, Nat.lt_succ_of_lt h.lt, hj, by rw [keep_step hj, hp, if_pos rfl, List.append_nil]; exact h.kept, drop_succ_of h.rest⟩
theorem DelAt.keep {p : Ver → Bool} {l D : List Ver} {i j : Nat} (h : DelAt p l D i j) (hj : j < l.length) (hp : p l[j] = false) : DelAt p l (D.set i l[j]) (i + 1) (j + 1) := by
  have hi : i < D.length := by rw [h.len]; have := h.lt; omega
  refine ⟨by rw [List.length_set]; exact h.len, by have := h.lt; omega, hj, ?_, ?_⟩
  · rw [keep_step hj, hp, if_neg (by simp), ← h.kept, List.take_succ_eq_append_getElem (by simpa using hi)]
    have e : (D.set i l[j]).take i = D.take i := List.ext_getElem? fun m => by
      rw [List.getElem?_take, List.getElem?_take]
      by_cases hm : m < i
      · rw [if_pos hm, if_pos hm, List.getElem?_set_ne (by omega)]
      · rw [if_neg hm, if_neg hm]
    rw [e]
    simp
  · rw [List.drop_set_of_lt (by have := h.lt; omega)]
    exact drop_succ_of h.rest
theorem DelAt.done {p : Ver → Bool} {l D : List Ver} {i : Nat} (h : DelAt p l D i l.length) : D.take i = keepL p l := by rw [h.kept, List.take_length]
theorem keep_all {p : Ver → Bool} {l : List Ver} (h : firstP p l l.length) : keepL p l = l := List.filter_eq_self.2 fun x hx => by
  obtain ⟨m, hm, rfl⟩ := List.getElem_of_mem hx
  rw [h.2.1 m hm hm]; rfl
theorem grown_below {w W : World} (hb : Below w.heap.size w W) (r : Option Nat) : w.grownBy W r := ⟨hb.os, hb.tape, hb.output, hb.size, fun i hi _ => hb.block i hi⟩
theorem cell_grown {w W : World} {B : Nat} {r : Option Nat} (h : w.grownBy W r) (hB : B < w.heap.size) (hne : some B ≠ r) : W.cell? ⟨B, 0, none⟩ = w.cell? ⟨B, 0, none⟩ := World.cell?_of_block (h.block B hB hne)
theorem set5 (W : World) (g m : Nat) (a b c d e : Value) :
    (((((W.setCell ⟨g, m, none⟩ a).setCell ⟨g, m + 1, none⟩ b).setCell ⟨g, m + 2, none⟩ c).setCell ⟨g, m + 3, none⟩ d).setCell ⟨g, m + 4, none⟩ e) = W.setCells g m [a, b, c, d, e] := rfl
/-- An element of a row of versions of the call's own. -/
theorem own_ver {w : World} {ok : Nat → Prop} {e base n c k : Nat} {ad : Addr} {xs : List Ver} (h : verR.Own e w base ok (.slice (some ad) n c) xs) (hk : k < xs.length) : ∃ g A1 c1 A2 c2, ad = ⟨g, 0, none⟩ ∧
    w.cell? (ad.add (k * 5)) = some (.string xs[k].r.id) ∧ w.cell? ⟨(ad.add (k * 5)).block, (ad.add (k * 5)).off + 1, none⟩ = some (.int .i64 xs[k].r.cats) ∧
    w.cell? ⟨(ad.add (k * 5)).block, (ad.add (k * 5)).off + 2, none⟩ = some (.slice A1 xs[k].r.fields.length c1) ∧ w.cell? ⟨(ad.add (k * 5)).block, (ad.add (k * 5)).off + 3, none⟩ = some (.slice A2 xs[k].r.refs.length c2) ∧
    w.cell? ⟨(ad.add (k * 5)).block, (ad.add (k * 5)).off + 4, none⟩ = some (.bool xs[k].gone) ∧ verR.K w (fun k => ok k ∧ some k ≠ some g) xs[k] [.string xs[k].r.id, .int .i64 xs[k].r.cats, .slice A1 xs[k].r.fields.length c1, .slice A2 xs[k].r.refs.length c2, .bool xs[k].gone] := by
  obtain ⟨g, cl, hg, hK, hc0⟩ := own_cells h hk
  have hc : ∀ i u, cl[i]? = some u → w.cell? (ad.add (k * 5 + i)) = some u := hc0
  obtain ⟨_, _, rfl, ⟨A1, c1, rfl, l1, r1⟩, ⟨A2, c2, rfl, l2, r2⟩⟩ := verK.1 hK
  exact ⟨g, A1, c1, A2, c2, hg, hc 0 _ rfl, by rw [← add_field _ _ 1 (by omega)]; exact hc 1 _ rfl, by rw [← add_field _ _ 2 (by omega)]; exact hc 2 _ rfl, by rw [← add_field _ _ 3 (by omega)]; exact hc 3 _ rfl, by rw [← add_field _ _ 4 (by omega)]; exact hc 4 _ rfl, hK⟩
/-- No cell of such a row is frozen. -/
theorem own_free {w : World} {ok : Nat → Prop} {e base n c : Nat} {ad : Addr} {xs : List Ver} (h : verR.Own e w base ok (.slice (some ad) n c) xs) (m : Nat) : w.frozen? (ad.add m) = false ∧ ∀ o, w.frozen? ⟨(ad.add m).block, o, none⟩ = false := by
  obtain ⟨g, cs, rfl, hn, hb, hB, _⟩ := own_open h
  rw [add_plain]
  exact ⟨hB.frozen _, fun o => hB.frozen o⟩
theorem own_verL {w : World} {ok : Nat → Prop} {e base n c k g : Nat} {xs : List Ver} (h : verR.Own e w base ok (.slice (some ⟨g, 0, none⟩) n c) xs) (hk : k < xs.length) : ∃ A1 c1 A2 c2,
    w.cell? ⟨g, k * 5, none⟩ = some (.string xs[k].r.id) ∧ w.cell? ⟨g, k * 5 + 1, none⟩ = some (.int .i64 xs[k].r.cats) ∧ w.cell? ⟨g, k * 5 + 2, none⟩ = some (.slice A1 xs[k].r.fields.length c1) ∧ w.cell? ⟨g, k * 5 + 3, none⟩ = some (.slice A2 xs[k].r.refs.length c2) ∧
    w.cell? ⟨g, k * 5 + 4, none⟩ = some (.bool xs[k].gone) ∧ verR.K w (fun k => ok k ∧ some k ≠ some g) xs[k] [.string xs[k].r.id, .int .i64 xs[k].r.cats, .slice A1 xs[k].r.fields.length c1, .slice A2 xs[k].r.refs.length c2, .bool xs[k].gone] := by
  obtain ⟨g', A1, c1, A2, c2, hg, x0, x1, x2, x3, x4, hK⟩ := own_ver h hk
  obtain rfl : g = g' := by injection hg
  simp only [add_plain] at x0 x1 x2 x3 x4
  exact ⟨A1, c1, A2, c2, x0, x1, x2, x3, x4, hK⟩
theorem own_freeL {w : World} {ok : Nat → Prop} {e base n c g : Nat} {xs : List Ver} (h : verR.Own e w base ok (.slice (some ⟨g, 0, none⟩) n c) xs) : ∀ o, w.frozen? ⟨g, o, none⟩ = false := by
  have := (own_free h 0).2
  rwa [add_plain] at this
theorem zeroVer (w : World) : (zeroValue 63).run Tryz.prog w = .ok (.agg #[.string ByteArray.empty, .int .i64 0, .slice none 0 0, .slice none 0 0, .bool false]) w := by kernel_rfl
set_option maxHeartbeats 4000000 in
set_option maxRecDepth 100000 in
theorem deleteF (g B : Nat) (u : Value) (p : Ver → Bool) (eg : ∀ args w, (callFunc g args).run Tryz.prog w = .ok (.enter g args) w) (hp : PredV g B u p) (A : Option Addr) (n c base : Nat) (l : List Ver) (ok : Nat → Prop) (w : World)
    (ho : verR.Own 63 w base ok (.slice A n c) l) (hB : B < w.heap.size) (hu : w.cell? ⟨B, 0, none⟩ = some u) (hne : some B ≠ (Value.slice A n c).ownBlock) :
    Calls Tryz.prog 138 #[.slice A n c, .func (.func g) #[] #[.pointer (some ⟨B, 0, none⟩)]] w fun e w' => ∃ v, e = .returned v ∧ verR.Own 63 w' base ok v (keepL p l) ∧ w.grownBy w' (Value.slice A n c).ownBlock := by
  obtain ⟨rfl, hc, hr⟩ := ho.row
  have hm := hr.1
  have HO := Aside.mk ho
  have HR := Aside.mk hr
  have HP := Aside.mk hp
  have HIF := Aside.mk (indexF g B u p eg hp A l.length c l _ w hr rfl hB hu)
  clear ho hr hp
  go_enter Tryz.func138, Tryz.ntmps138
  go_wp2_with fail
  refine HIF.out.mono ?_
  rintro e w1 ⟨⟨k, hk, rfl⟩, hb⟩
  have HK := Aside.mk hk
  have hkl := hk.1
  have HB1 := Aside.mk hb
  clear HIF hb hk
  by_cases hlt : k < l.length
  · rw [if_pos hlt]
    have hne1 : ((k : Int) == -1) = false := by simp
    have hk1 : (k : Int) + 1 ≤ 9223372036854775807 := by omega
    cases A with
    | none => 
      exfalso
      obtain ⟨ad, e, _⟩ := HR.out.2 0 l[0] (List.getElem?_eq_getElem (by omega))
      cases e
    | some ad =>
      obtain ⟨g0, rfl⟩ : ∃ g0, ad = ⟨g0, 0, none⟩ := by obtain ⟨g0, cs, e, _⟩ := own_open HO.out; exact ⟨g0, e⟩
      have HNE : Aside (some B ≠ some g0) := ⟨hne⟩
      clear hne
      go_wp2_with fail
      go_loopw [5, 6] (fun a b wr => ∃ (i j : Nat) (D : List Ver), a = .int .i64 i ∧ b = .int .i64 j ∧ j ≤ l.length ∧ i < j ∧ Aside (DelAt p l D i j) ∧ Aside (verR.Own 63 wr base ok (.slice (some ⟨g0, 0, none⟩) l.length c) D) ∧ Aside (w.grownBy wr (some g0))) (fun _ b _ => l.length - (intOf b).toNat)
      case atStart => exact ⟨k, k + 1, l, rfl, by go_num, hlt, Nat.lt_succ_self k, ⟨.start HK.out hlt⟩, ⟨HO.out.below HB1.out⟩, ⟨grown_below HB1.out _⟩⟩
      case round =>
        obtain ⟨i, j, D, rfl, rfl, hj, hij, HD, HW, HGr⟩ := hrel
        have hDl := HD.out.len
        by_cases hjl : j < l.length
        · have p0 : (0 : Int) ≤ (j : Int) := by omega
          have p1 : (j : Int) < (l.length : Int) := by omega
          have p2 : (0 : Int) ≤ (i : Int) := by omega
          have p3 : (i : Int) < (l.length : Int) := by omega
          obtain ⟨A1, c1, A2, c2, x0, x1, x2, x3, x4, hK⟩ := own_verL HW.out (k := j) (by omega)
          have hDj := HD.out.get hjl
          rw [hDj] at x0 x1 x2 x3 x4 hK
          have HKj := Aside.mk hK
          clear hK
          have hBw : wr.cell? ⟨B, 0, none⟩ = some u := (cell_grown HGr.out hB HNE.out).trans hu
          have HC := Aside.mk (HP.out (wr.alloc (.cells (verC l[j] A1 A2 c1 c2).toArray 63)) l[j] A1 A2 c1 c2 (by have := HGr.out.size; simp; omega) (cell_below ((Below.refl _ _).alloc (Nat.le_refl _) _) hBw))
          clear hDj hBw
          cases hq : p l[j] with
          | true =>
            go_wp2_with fail
            refine HC.out.mono ?_
            rw [hq]
            rintro e w2 ⟨rfl, hb⟩
            have hb2 := below_step ((Below.refl _ _).alloc (Nat.le_refl _) _) hb
            have HW2 := Aside.mk (HW.out.below hb2)
            have HG2 := Aside.mk (HGr.out.trans (grown_below hb2 _))
            clear hb hb2
            go_wp2_with fail
            refine ⟨⟨i, j + 1, D, rfl, by go_num, by omega, by omega, ⟨HD.out.skip hjl hq⟩, HW2, HG2⟩, by simp [intOf]; omega⟩
          | false =>
            go_wp2_with fail
            refine HC.out.mono ?_
            rw [hq]
            rintro e w2 ⟨rfl, hb⟩
            have hb2 := below_step ((Below.refl _ _).alloc (Nat.le_refl _) _) hb
            have q5 := ((Bk.made wr (verC l[j] A1 A2 c1 c2) 63).below hb).five
            have HW2 := Aside.mk (HW.out.below hb2)
            have HG2 := Aside.mk (HGr.out.trans (grown_below hb2 _))
            have HM2 := Aside.mk hb2
            clear hb hb2 x0 x1 x2 x3 x4
            obtain ⟨E1, e1, E2, e2, y0, y1, y2, y3, y4, _⟩ := own_verL HW2.out (k := i) (by omega)
            have zz := own_freeL HW2.out
            go_wp2_with fail
            rw [set5 w2 g0 (i * 5)]
            refine ⟨⟨i + 1, j + 1, D.set i l[j], by go_num, by go_num, by omega, by omega, ⟨HD.out.keep hjl hq⟩, ⟨?_⟩, ⟨HG2.out.trans (grown_setCells _ _ _ _)⟩⟩, by simp [intOf]; omega⟩
            exact own_set HW2.out (by omega) (verR.move (fun k hk hlt => HM2.out.block k hlt) HKj.out)
        · obtain rfl : j = l.length := by omega
          have hic : ¬ c = i := by omega
          have p2 : (0 : Int) ≤ (i : Int) := by omega
          have p3 : (i : Int) ≤ (l.length : Int) := by omega
          have p4 : (i : Int) ≤ (c : Int) := by omega
          obtain ⟨vs, hcl⟩ := run_clear_own (P := Tryz.prog) (t := 42) (ty := 0) (z := .agg #[.string ByteArray.empty, .int .i64 0, .slice none 0 0, .slice none 0 0, .bool false]) Tryz.underlying42 zeroVer rfl (by intro u hu; simp [Value.cells] at hu; rcases hu with rfl | rfl | rfl | rfl | rfl <;> rfl) HW.out (Nat.le_of_lt hij) hij (c - i)
          have hcl2 : ∀ ty, (Builtin.clear_ #[42] ty #[.slice (some ⟨g0, i * 5, none⟩) (l.length - i) (c - i)]).run Tryz.prog wr = .ok (.tuple #[]) (wr.setCells g0 (i * 5) vs) := fun _ => hcl
          have HX := Aside.mk HD.out.done
          have HG3 := Aside.mk (HGr.out.trans (grown_setCells wr g0 (i * 5) vs))
          have HE2 : Aside (verR.Own 63 (wr.setCells g0 (i * 5) vs) base ok (.slice (some ⟨g0, 0, none⟩) i c) (D.take i)) := ⟨own_behind (own_take HW.out (i := i) (by omega)) (Nat.le_refl _) vs⟩
          generalize wr.setCells g0 (i * 5) vs = w9 at hcl2 HG3 HE2
          clear hcl
          go_wp2_with fail
          go_ret
          exact ⟨_, rfl, by rw [← HX.out]; exact HE2.out, HG3.out⟩
  · rw [if_neg hlt]
    obtain rfl : k = l.length := by omega
    have HX := Aside.mk (keep_all HK.out)
    go_wp2_with fail
    go_ret
    exact ⟨_, rfl, by rw [HX.out]; exact HO.out.below HB1.out, grown_below HB1.out _⟩
end Go.Proofs.WK
namespace Go.Proofs.WK
open Go.RowKit Rp
/-- P24. -/
def seenL (l : List Ver) (c : Int) : List Ver := l.filter fun v => part v.r.cats c
def partErr (l : List Ver) (c : Int) : Int := if storeErr l ≠ 0 then storeErr l else if ¬ (0 ≤ c ∧ c ≤ 255) then 1 else 0
def partV (l : List Ver) (c : Int) : List Ver := if partErr l c = 0 then seenL l c else []
/-- P26. -/
def histL (l : List Ver) (id : ByteArray) : List Ver := l.filter fun v => decide (v.r.id = id)
def histErr (l : List Ver) (id : ByteArray) : Int := if storeErr l ≠ 0 then storeErr l else if histL l id = [] then 4 else 0
def histV (l : List Ver) (id : ByteArray) : List Ver := if histErr l id = 0 then histL l id else []
def pPart (c : Int) (x : Ver) : Bool := bits .andNot .i64 x.r.cats c != 0
def pHist (id : ByteArray) (x : Ver) : Bool := !(x.r.id.toList == id.toList)
theorem keep_part {l : List Ver} {c : Int} (h : storeErr l = 0) (h0 : 0 ≤ c) (h1 : c ≤ 255) : keepL (pPart c) l = seenL l c := by
  unfold keepL seenL
  refine List.filter_congr fun v hv => ?_
  obtain ⟨_, a0, a1, _⟩ := rec_ok (store_rec h v hv)
  have := part_andNot a0 a1 h0 h1
  rw [← this]
  unfold pPart
  cases hb : (bits .andNot .i64 v.r.cats c == 0) <;> simp_all
theorem keep_hist (l : List Ver) (id : ByteArray) : keepL (pHist id) l = histL l id := by
  unfold keepL histL
  refine List.filter_congr fun v _ => ?_
  unfold pHist
  rw [toList_beq]
  simp
theorem partPred (B : Nat) (c : Int) : PredV 192 B (.int .i64 c) (pPart c) := by
  intro W x A1 A2 c1 c2 hB hu
  cases hp : pPart c x
  all_goals
    have hp2 := hp
    unfold pPart at hp2
    go_enter Tryz.func192, Tryz.ntmps192
    go_wp2_with fail
    go_ret
    exact ⟨rfl, (Below.refl _ _).alloc (Nat.le_refl _) _⟩
theorem histPred (B : Nat) (id : ByteArray) : PredV 139 B (.string id) (pHist id) := by
  intro W x A1 A2 c1 c2 hB hu
  go_enter Tryz.func139, Tryz.ntmps139
  go_wp2_with fail
  go_ret
  exact ⟨rfl, (Below.refl _ _).alloc (Nat.le_refl _) _⟩
theorem seen_small {l : List Ver} (h : storeErr l = 0) (p : Ver → Bool) : (l.filter p).length ≤ 6000 ∧ ∀ v ∈ l.filter p, v.r.fields.length ≤ 6 ∧ v.r.refs.length ≤ 4 := by
  refine ⟨Nat.le_trans (List.length_filter_le _ _) (by have := (store_ok h).1; omega), fun v hv => ?_⟩
  have := rec_ok (store_rec h v (List.mem_filter.1 hv).1)
  exact ⟨this.2.2.2.1, this.2.2.2.2.1⟩
set_option maxHeartbeats 4000000 in
set_option maxRecDepth 100000 in
theorem storePart (A : Option Addr) (c : Nat) (l : List Ver) (cats : Int) (ok : Nat → Prop) (w : World) (hr : verR.Row w ok A l) (hc : l.length ≤ c) :
    Calls Tryz.prog 137 #[.slice A l.length c, .int .i64 cats] w fun e w' => ∃ v, e = .returned (.tuple #[v, .int .i64 (partErr l cats)]) ∧ verR.Sl w' (fun k => w.heap.size ≤ k) v (partV l cats) ∧ Below w.heap.size w w' := by
  have hb1 : Below w.heap.size w (w.alloc (.cells #[.int .i64 cats] 3)) := (Below.refl _ _).alloc (Nat.le_refl _) _
  have HR := Aside.mk (hr.below hb1)
  have HQ := Aside.mk (Bk.made w [.int .i64 cats] 3)
  have HB := Aside.mk hb1
  clear hr hb1
  by_cases h1 : storeErr l = 0
  · have H1 := Aside.mk h1
    cases hd : decide (0 ≤ cats ∧ cats ≤ 255) with
    | false =>
      have e1 : partErr l cats = 1 := by rw [partErr, if_neg (by simpa using h1), if_pos (of_decide_eq_false hd)]
      have e2 : partV l cats = [] := by rw [partV, e1]; rfl
      rw [e1, e2]
      clear e1 e2 h1
      go_enter Tryz.func137, Tryz.ntmps137
      go_wp2_with fail
      refine (storeCheck _ c l _ _ HR.out hc).mono ?_
      rw [H1.out]
      rintro e w1 ⟨rfl, hb⟩
      have q1 : w1.cell? ⟨w.heap.size, 0, none⟩ = some (.int .i64 cats) := (HQ.out.below hb).cell 0
      have HB1 := Aside.mk (below_step HB.out hb)
      clear hb
      go_wp2_with (go_at_call 141; refine (labelCats _ _).mono ?_; rw [hd]; rintro e w' ⟨rfl, rfl⟩)
      go_ret2
      exact ⟨_, rfl, Sl.nil _ _ _, HB1.out⟩
    | true =>
      have hd2 := of_decide_eq_true hd
      have e1 : partErr l cats = 0 := by rw [partErr, if_neg (by simpa using h1), if_neg (by simpa using hd2)]
      have e2 : partV l cats = seenL l cats := by rw [partV, if_pos e1]
      have HK := Aside.mk (keep_part h1 hd2.1 hd2.2)
      have HSM := Aside.mk (seen_small h1 (fun v => part v.r.cats cats))
      have HL := Aside.mk (show l.length * 80 ≤ 140737488355328 by have := (store_ok h1).1; omega)
      have eg := Go.Proofs.enters_of (P := Tryz.prog) Tryz.func192 (by kernel_rfl) rfl
      have HP := Aside.mk (partPred w.heap.size cats)
      have HEG := Aside.mk eg
      rw [e1, e2]
      clear e1 e2 h1 hd2 eg
      go_enter Tryz.func137, Tryz.ntmps137
      go_wp2_with fail
      refine (storeCheck _ c l _ _ HR.out hc).mono ?_
      rw [H1.out]
      rintro e w1 ⟨rfl, hb⟩
      have HQ1 := Aside.mk (HQ.out.below hb)
      have q1 : w1.cell? ⟨w.heap.size, 0, none⟩ = some (.int .i64 cats) := HQ1.out.cell 0
      have HR1 := Aside.mk (HR.out.below hb)
      have HB1 := Aside.mk (below_step HB.out hb)
      clear hb HR HQ HB
      go_wp2_with (go_at_call 141; refine (labelCats _ _).mono ?_; rw [hd]; rintro e w' ⟨rfl, rfl⟩)
      refine (cloneV A c l _ _ HR1.out HL.out).mono ?_
      rintro e w2 ⟨v2, rfl, ho, hb⟩
      obtain ⟨A2, c2, rfl⟩ := Sl.form ho.sl
      have HQ2 := Aside.mk (HQ1.out.below hb)
      have HO2 := Aside.mk ho
      have HB2 := Aside.mk (below_step HB1.out hb)
      have HN : Aside (some w.heap.size ≠ (Value.slice A2 l.length c2).ownBlock) := ⟨fun e => by have := (ho.lt _ e.symm).1; have := HQ1.out.lt; omega⟩
      have HB21 := Aside.mk hb
      clear hb ho
      go_wp2_with fail
      refine (deleteF _ w.heap.size _ _ HEG.out HP.out A2 l.length c2 w1.heap.size l _ w2 HO2.out HQ2.out.lt (HQ2.out.cell 0) HN.out).mono ?_
      rw [HK.out]
      rintro e w3 ⟨v3, rfl, ho, hg⟩
      obtain ⟨A3, c3, rfl⟩ := Sl.form ho.sl
      have HO3 := Aside.mk ho
      have HB3 := Aside.mk (HB2.out.grown hg HB2.out.size (fun k hk => Nat.le_trans HB1.out.size (HO2.out.lt k hk).1))
      clear hg ho
      go_wp2_with fail
      refine (storeCopied A3 _ c3 (seenL l cats) _ _ HO3.out.row.2.2 rfl HSM.out.1 HSM.out.2).mono ?_
      rintro e w4 ⟨v4, rfl, ho, hb⟩
      have HO4 := Aside.mk ho
      have HB4 := Aside.mk (below_step HB3.out hb)
      clear hb ho
      go_wp2_with fail
      go_ret2
      exact ⟨_, rfl, (Own.sl_new HO4.out).mono fun k hk _ => Nat.le_trans HB3.out.size hk, HB4.out⟩
  · have e1 : partErr l cats = storeErr l := if_pos h1
    have e2 : partV l cats = [] := by rw [partV, e1, if_neg h1]
    have g3 : (storeErr l != 0) = true := by simp [h1]
    rw [e1, e2]
    clear e1 e2 h1
    go_enter Tryz.func137, Tryz.ntmps137
    go_wp2_with fail
    refine (storeCheck _ c l _ _ HR.out hc).mono ?_
    rintro e w1 ⟨rfl, hb⟩
    have HB1 := Aside.mk (below_step HB.out hb)
    clear hb
    go_wp2_with fail
    go_ret2
    exact ⟨_, rfl, Sl.nil _ _ _, HB1.out⟩
set_option maxHeartbeats 4000000 in
set_option maxRecDepth 100000 in
theorem storeHist (A : Option Addr) (c : Nat) (l : List Ver) (id : ByteArray) (ok : Nat → Prop) (w : World) (hr : verR.Row w ok A l) (hc : l.length ≤ c) :
    Calls Tryz.prog 58 #[.slice A l.length c, .string id] w fun e w' => ∃ v, e = .returned (.tuple #[v, .int .i64 (histErr l id)]) ∧ verR.Sl w' (fun k => w.heap.size ≤ k) v (histV l id) ∧ Below w.heap.size w w' := by
  have hb1 : Below w.heap.size w (w.alloc (.cells #[.string id] 9)) := (Below.refl _ _).alloc (Nat.le_refl _) _
  have HR := Aside.mk (hr.below hb1)
  have HQ := Aside.mk (Bk.made w [.string id] 9)
  have HB := Aside.mk hb1
  clear hr hb1
  by_cases h1 : storeErr l = 0
  · have H1 := Aside.mk h1
    have e0 : histErr l id = if histL l id = [] then 4 else 0 := by rw [histErr, if_neg (by simpa using h1)]
    have hways : ((((histL l id).length : Int) == 0) = true ∧ Aside (histErr l id = 4 ∧ histV l id = [])) ∨ ((((histL l id).length : Int) == 0) = false ∧ Aside (histErr l id = 0 ∧ histV l id = histL l id)) := by
      by_cases h : histL l id = []
      · rw [if_pos h] at e0
        exact .inl ⟨by rw [h]; rfl, ⟨e0, by rw [histV, e0]; rfl⟩⟩
      · rw [if_neg h] at e0
        refine .inr ⟨?_, ⟨e0, by rw [histV, if_pos e0]⟩⟩
        have : (histL l id).length ≠ 0 := fun e => h (List.eq_nil_of_length_eq_zero e)
        simp; omega
    have HK := Aside.mk (keep_hist l id)
    have HSM := Aside.mk (seen_small h1 (fun v => decide (v.r.id = id)))
    have HL := Aside.mk (show l.length * 80 ≤ 140737488355328 by have := (store_ok h1).1; omega)
    have eg := Go.Proofs.enters_of (P := Tryz.prog) Tryz.func139 (by kernel_rfl) rfl
    have HP := Aside.mk (histPred w.heap.size id)
    have HEG := Aside.mk eg
    have HWY := Aside.mk hways
    clear e0 h1 eg hways
    go_enter Tryz.func58, Tryz.ntmps58
    go_wp2_with fail
    refine (storeCheck _ c l _ _ HR.out hc).mono ?_
    rw [H1.out]
    rintro e w1 ⟨rfl, hb⟩
    have HQ1 := Aside.mk (HQ.out.below hb)
    have HR1 := Aside.mk (HR.out.below hb)
    have HB1 := Aside.mk (below_step HB.out hb)
    clear hb HR HQ HB
    go_wp2_with fail
    refine (cloneV A c l _ _ HR1.out HL.out).mono ?_
    rintro e w2 ⟨v2, rfl, ho, hb⟩
    obtain ⟨A2, c2, rfl⟩ := Sl.form ho.sl
    have HQ2 := Aside.mk (HQ1.out.below hb)
    have HO2 := Aside.mk ho
    have HB2 := Aside.mk (below_step HB1.out hb)
    have HN : Aside (some w.heap.size ≠ (Value.slice A2 l.length c2).ownBlock) := ⟨fun e => by have := (ho.lt _ e.symm).1; have := HQ1.out.lt; omega⟩
    clear hb ho
    go_wp2_with fail
    refine (deleteF _ w.heap.size _ _ HEG.out HP.out A2 l.length c2 w1.heap.size l _ w2 HO2.out HQ2.out.lt (HQ2.out.cell 0) HN.out).mono ?_
    rw [HK.out]
    rintro e w3 ⟨v3, rfl, ho, hg⟩
    obtain ⟨A3, c3, rfl⟩ := Sl.form ho.sl
    have HO3 := Aside.mk ho
    have HB3 := Aside.mk (HB2.out.grown hg HB2.out.size (fun k hk => Nat.le_trans HB1.out.size (HO2.out.lt k hk).1))
    clear hg ho
    go_wp2_with fail
    refine (storeCopied A3 _ c3 (histL l id) _ _ HO3.out.row.2.2 rfl HSM.out.1 HSM.out.2).mono ?_
    rintro e w4 ⟨v4, rfl, ho, hb⟩
    obtain ⟨A4, c4, rfl⟩ := Sl.form ho.sl
    have HO4 := Aside.mk ho
    have HB4 := Aside.mk (below_step HB3.out hb)
    clear hb ho
    rcases HWY.out with ⟨g, HX⟩ | ⟨g, HX⟩
    all_goals
      go_wp2_with fail
      go_ret2
    · exact ⟨_, by rw [HX.out.1]; rfl, by rw [HX.out.2]; exact Sl.nil _ _ _, HB4.out⟩
    · exact ⟨_, by rw [HX.out.1]; rfl, by rw [HX.out.2]; exact (Own.sl_new HO4.out).mono fun k hk _ => Nat.le_trans HB3.out.size hk, HB4.out⟩
  · have e1 : histErr l id = storeErr l := if_pos h1
    have e2 : histV l id = [] := by rw [histV, e1, if_neg h1]
    have g3 : (storeErr l != 0) = true := by simp [h1]
    rw [e1, e2]
    clear e1 e2 h1
    go_enter Tryz.func58, Tryz.ntmps58
    go_wp2_with fail
    refine (storeCheck _ c l _ _ HR.out hc).mono ?_
    rintro e w1 ⟨rfl, hb⟩
    have HB1 := Aside.mk (below_step HB.out hb)
    clear hb
    go_wp2_with fail
    go_ret2
    exact ⟨_, rfl, Sl.nil _ _ _, HB1.out⟩
end Go.Proofs.WK
namespace Go.Proofs.WK
open Go.RowKit Rp
/-- Not among the first k. -/
def NotIn {α : Type} (l : List α) (x : α) (k : Nat) : Prop := ∀ j (h : j < l.length), j < k → l[j] ≠ x
theorem NotIn.zero {α : Type} (l : List α) (x : α) : NotIn l x 0 := fun _ _ h => by omega
theorem NotIn.step {α : Type} {l : List α} {x : α} {k : Nat} (h : NotIn l x k) (hk : k < l.length) (hne : l[k] ≠ x) : NotIn l x (k + 1) := fun j hj hjk => by
  by_cases e : j = k
  · subst e; exact hne
  · exact h j hj (by omega)
theorem NotIn.end_ {α : Type} [DecidableEq α] {l : List α} {x : α} (h : NotIn l x l.length) : decide (x ∈ l) = false := decide_eq_false fun hx => by
  obtain ⟨j, hj, e⟩ := List.getElem_of_mem hx
  exact h j hj hj e
theorem in_at {α : Type} [DecidableEq α] {l : List α} {x : α} {k : Nat} (hk : k < l.length) (h : l[k] = x) : decide (x ∈ l) = true := decide_eq_true (h ▸ List.getElem_mem hk)
theorem fld_ne {a b : Fld} (h : ¬ a = b) : (a.key.toList == b.key.toList && a.val.toList == b.val.toList) = false := by
  have := fldEq_eq a b
  unfold fldEq at this
  rw [this, decide_eq_false h]
theorem fld_eq {a b : Fld} (h : a = b) : (a.key.toList == b.key.toList && a.val.toList == b.val.toList) = true := by
  have := fldEq_eq a b
  unfold fldEq at this
  rw [this, decide_eq_true h]
set_option maxHeartbeats 1600000 in
set_option maxRecDepth 100000 in
theorem indexFld (A : Option Addr) (c : Nat) (l : List Fld) (x : Fld) (ok : Nat → Prop) (w : World) (hl : fldR.Row w ok A l) :
    Calls Tryz.prog 194 #[.slice A l.length c, .agg #[.string x.key, .string x.val]] w fun e w' => ∃ r : Int, e = .returned (.int .i64 r) ∧ decide (0 ≤ r) = decide (x ∈ l) ∧ Below w.heap.size w w' := by
  have hb : Below w.heap.size w (w.alloc (.cells #[.string x.key, .string x.val] 38)) := (Below.refl _ _).alloc (Nat.le_refl _) _
  have HL := Aside.mk (hl.below hb)
  have HQ := Aside.mk (Bk.made w [.string x.key, .string x.val] 38)
  have HB := Aside.mk hb
  have b1 := hl.1
  have hnq := eqlFld
  have hgd := guardFld
  clear hl hb
  go_enter Tryz.func194, Tryz.ntmps194
  go_wp2_with fail
  go_loopw [8] (fun i wr => ∃ k : Nat, k ≤ l.length ∧ i = .int .i64 k ∧ Aside (NotIn l x k) ∧ Aside (Drawn (w.alloc (.cells #[.string x.key, .string x.val] 38)) wr)) (fun i _ => l.length - (intOf i).toNat)
  case atStart => exact ⟨0, Nat.zero_le _, rfl, ⟨NotIn.zero _ _⟩, ⟨Drawn.refl _⟩⟩
  case round =>
    obtain ⟨k, hk, rfl, HK, HD⟩ := hrel
    by_cases hlt : k < l.length
    · obtain ⟨ad, rfl, _, y0, y1⟩ := fld_at (HL.out.below HD.out.below) hlt
      have q0 := (HQ.out.below HD.out.below).two
      have p0 : (0 : Int) ≤ (k : Int) := by omega
      have p1 : (k : Int) < (l.length : Int) := by omega
      by_cases he : l[k] = x
      · have HI := Aside.mk (in_at hlt he)
        have q := fld_eq he.symm
        clear he
        go_wp2
        go_quiet (fail)
        go_wp2
        go_ret
        exact ⟨_, rfl, (decide_eq_true (by omega)).trans HI.out.symm, below_step HB.out (HD.out.step _).below⟩
      · have HK1 := Aside.mk (HK.out.step hlt he)
        have q := fld_ne (fun e : x = l[k] => he e.symm)
        clear he
        go_wp2
        go_quiet (fail)
        go_wp2
        refine ⟨⟨k + 1, by omega, by go_num, HK1, ⟨HD.out.step _⟩⟩, by simp [intOf]; omega⟩
    · obtain rfl : k = l.length := by omega
      have HE := Aside.mk HK.out.end_
      go_wp2_with fail
      go_ret
      exact ⟨_, rfl, by rw [HE.out]; rfl, below_step HB.out HD.out.below⟩
theorem containsFld (A : Option Addr) (c : Nat) (l : List Fld) (x : Fld) (ok : Nat → Prop) (w : World) (hl : fldR.Row w ok A l) :
    Calls Tryz.prog 140 #[.slice A l.length c, .agg #[.string x.key, .string x.val]] w fun e w' => e = .returned (.bool (decide (x ∈ l))) ∧ Below w.heap.size w w' := by
  have hb : Below w.heap.size w (w.alloc (.cells #[.string x.key, .string x.val] 38)) := (Below.refl _ _).alloc (Nat.le_refl _) _
  have HL := Aside.mk (hl.below hb)
  have HB := Aside.mk hb
  clear hl hb
  go_enter Tryz.func140, Tryz.ntmps140
  go_wp2_with fail
  refine (indexFld A c l x ok _ HL.out).mono ?_
  rintro e w1 ⟨r, rfl, hr, hb⟩
  have HB1 := Aside.mk (below_step HB.out hb)
  clear hb
  go_wp2_with fail
  go_ret
  exact ⟨by rw [← hr]; rfl, HB1.out⟩
end Go.Proofs.WK
namespace Go.Proofs.WK
open Go.RowKit Rp
theorem zeroBoolG (w : World) : (zeroValue 4).run Tryz.prog w = .ok (.bool false) w := by kernel_rfl
noncomputable def eB : ET Tryz.prog 4 Bool := boolE Tryz.underlying4 zeroBoolG
theorem gone_put {l : List Ver} {id : ByteArray} {j : Nat} (hj : j < l.length) (hid : l[j].r.id = id) : (fun z => if z = l[j].r.cats then some true else goneF l id (j + 1) z) = goneF l id j := by
  funext z
  rw [goneF_drop hj]
  unfold hitV
  by_cases h : z = l[j].r.cats
  · subst h; simp [hid]
  · rw [if_neg h, if_neg (by simp [hid]; exact fun e => h e.symm)]
theorem gone_same {l : List Ver} {id : ByteArray} {j : Nat} (hj : j < l.length) (hid : ¬ l[j].r.id = id) : goneF l id (j + 1) = goneF l id j := by
  funext z
  rw [goneF_drop hj, if_neg (by unfold hitV; simp [hid])]
theorem gone_get (l : List Ver) (id : ByteArray) (m : Nat) (x : Int) : (goneF l id m x).getD eB.zero = true ∧ goneF l id m x = some true ∨ (goneF l id m x).getD eB.zero = false ∧ goneF l id m x = none := by
  unfold goneF
  split
  · exact .inl ⟨rfl, rfl⟩
  · exact .inr ⟨rfl, rfl⟩
theorem gone_start (l : List Ver) (id : ByteArray) : goneF l id l.length = fun _ => none := by
  funext z
  unfold goneF
  rw [List.drop_length]
  rfl
theorem eqS_t {a b : ByteArray} (h : a = b) : (a.toList == b.toList) = true := by rw [h]; simp
theorem eqS_g {a b : ByteArray} (h : ¬ a = b) : (a.toList == b.toList) = false := by rw [toList_beq]; simp [h]
def recCells (r : Rec) (v1 v2 : Value) : List Value := [.string r.id, .int .i64 r.cats, v1, v2]
theorem below_set4 {w w1 : World} {k : Nat} (h : Below w.heap.size w w1) (hk : w.heap.size ≤ k) (c d e f : Value) : Below w.heap.size w ((((w1.setCell ⟨k, 0, none⟩ c).setCell ⟨k, 1, none⟩ d).setCell ⟨k, 2, none⟩ e).setCell ⟨k, 3, none⟩ f) :=
  below_set (below_set (below_set (below_set h hk _) hk _) hk _) hk _
theorem sets4 {w2 : World} {m k : Nat} {c d e f : Value} (h2 : k ≠ m) : ((((w2.setCell ⟨m, 0, none⟩ c).setCell ⟨m, 1, none⟩ d).setCell ⟨m, 2, none⟩ e).setCell ⟨m, 3, none⟩ f).heap[k]? = w2.heap[k]? := by
  rw [Below.heap_setCell _ _ _ k h2, Below.heap_setCell _ _ _ k h2, Below.heap_setCell _ _ _ k h2, Below.heap_setCell _ _ _ k h2]
set_option maxHeartbeats 4000000 in
set_option maxRecDepth 100000 in
theorem storeGet (A : Option Addr) (c : Nat) (l : List Ver) (id : ByteArray) (ok : Nat → Prop) (w : World) (hr : verR.Row w ok A l) (hc : l.length ≤ c) :
    Calls Tryz.prog 78 #[.slice A l.length c, .string id] w fun e w' => ∃ v1 v2, e = .returned (.tuple #[.agg #[.string (getR l id).id, .int .i64 (getR l id).cats, v1, v2], .int .i64 (getErr l id)]) ∧
      fldR.Sl w' (fun k => w.heap.size ≤ k) v1 (getR l id).fields ∧ str.Sl w' (fun k => w.heap.size ≤ k) v2 (getR l id).refs ∧ Below w.heap.size w w' := by
  have hb1 : Below w.heap.size w (w.alloc (.cells #[.string ⟨#[]⟩, .int .i64 0, .slice none 0 0, .slice none 0 0] 36)) := (Below.refl _ _).alloc (Nat.le_refl _) _
  have hm := hr.1
  have HR := Aside.mk (hr.below hb1)
  have HQ := Aside.mk (Bk.made w [.string ⟨#[]⟩, .int .i64 0, .slice none 0 0, .slice none 0 0] 36)
  have HB := Aside.mk hb1
  have hmm := @run_makeMap Tryz.prog
  clear hr hb1
  by_cases h1 : storeErr l = 0
  · have H1 := Aside.mk h1
    clear h1
    go_enter Tryz.func78, Tryz.ntmps78
    go_wp2_with fail
    refine (storeCheck _ c l _ _ HR.out hc).mono ?_
    rw [H1.out]
    rintro e w1 ⟨rfl, hb⟩
    have HQ1 := Aside.mk (HQ.out.below hb)
    have HR1 := Aside.mk (HR.out.below hb)
    have HB1 := Aside.mk (below_step HB.out hb)
    clear hb HR HQ HB
    go_wp2_with fail
    have HSZ := Aside.mk HQ1.out.lt
    go_loopw [8] (fun i wr => ∃ m : Nat, m ≤ l.length ∧ i = .int .i64 ((m : Int) - 1) ∧ Aside (GetAt l id m) ∧ Aside (MapIs kI eB wr w1.heap.size (l.length - m) (goneF l id m)) ∧ Aside (Bk wr w.heap.size [.string ⟨#[]⟩, .int .i64 0, .slice none 0 0, .slice none 0 0]) ∧ Aside (Below w1.heap.size w1 wr)) (fun i _ => (intOf i + 1).toNat)
    case atStart => exact ⟨l.length, Nat.le_refl _, rfl, ⟨.start l id⟩, ⟨by rw [Nat.sub_self, gone_start]; exact MapIs.made _ _ _⟩, ⟨HQ1.out.alloc _⟩, ⟨(Below.refl _ _).alloc (Nat.le_refl _) _⟩⟩
    case round =>
      clear hmm
      obtain ⟨m, hml, rfl, HK, HM, HQ2, HB2⟩ := hrel
      cases m with
      | zero =>
        have HX := Aside.mk (get_none H1.out HK.out.none)
        have q0 := HQ2.out.four
        rw [show (((0 : Nat) : Int) - 1) = -1 from rfl]
        go_wp2_with fail
        refine bodyPost_ret (v := .tuple #[.agg #[.string ⟨#[]⟩, .int .i64 0, .slice none 0 0, .slice none 0 0], .int .i64 4]) ?_ rfl ⟨.slice none 0 0, .slice none 0 0, by rw [HX.out.1, HX.out.2]; rfl, by rw [HX.out.2]; exact Sl.nil _ _ _, by rw [HX.out.2]; exact Sl.nil _ _ _, ?_⟩
        · simp [results, Tryz.results78, go_sem, q0]
        · exact below_set4 (below_step HB1.out HB2.out) (Nat.le_refl _) _ _ _ _
      | succ j =>
        rw [show (((j + 1 : Nat) : Int) - 1) = (j : Int) by omega]
        have hj : j < l.length := by omega
        have p0 : (0 : Int) ≤ (j : Int) := by omega
        have p1 : (j : Int) < (l.length : Int) := by omega
        obtain ⟨ad, A1, c1, A2, c2, rfl, _, x0, x1, x2, x3, x4, _, _, r1, r2⟩ := ver_at (HR1.out.below HB2.out) hj
        have hal : Below wr.heap.size wr (wr.alloc (.cells #[.string l[j].r.id, .int .i64 l[j].r.cats, .slice A1 l[j].r.fields.length c1, .slice A2 l[j].r.refs.length c2, .bool l[j].gone] 63)) := (Below.refl _ _).alloc (Nat.le_refl _) _
        have HB3 := Aside.mk (below_step HB2.out hal)
        have HM3 := Aside.mk (HM.out.below hal)
        have HQ3 := Aside.mk (HQ2.out.below hal)
        have hrec := rec_ok (store_rec H1.out l[j] (List.getElem_mem hj))
        have hc0 := hrec.2.1
        have hc1 := hrec.2.2.1
        have HRC := Aside.mk hrec
        have HR1' := Aside.mk (r1.below hal)
        have HR2' := Aside.mk (r2.below hal)
        clear hrec r1 r2
        by_cases hid : l[j].r.id = id
        · have b1 : (l[j].r.id.toList == id.toList) = true := eqS_t hid
          have kok := Aside.mk (i64_wf (x := l[j].r.cats) (by omega) (by omega))
          have ek : ∀ z, kI.kv z = Value.int .i64 z := fun _ => rfl
          have ee : ∀ z, eB.ev z = Value.bool z := fun _ => rfl
          have hbk := HM3.out.lt
          have hlen5 := (store_ok H1.out).1
          obtain ⟨cN, hcN⟩ := Int.eq_ofNat_of_zero_le hc0
          have hcN2 : cN < 256 := by omega
          have HhN := Aside.mk (show hitV l[j] id (cN : Int) = true by unfold hitV; rw [← hcN]; simp [hid])
          have HCN := Aside.mk (And.intro hcN hcN2)
          have HPUT := Aside.mk (gone_put hj hid)
          have HID := Aside.mk hid
          have hnoput : Aside ((l[j].gone = true ∨ goneF l id (j + 1) l[j].r.cats = some true) → GetAt l id j) := ⟨fun h => HK.out.other hj fun c' _ hh => by
            unfold hitV at hh
            simp only [Bool.and_eq_true, decide_eq_true_eq] at hh
            rw [← hh.2]
            exact h⟩
          have HNEb : Aside (some w.heap.size ≠ some w1.heap.size) := ⟨by simp; have := HSZ.out; omega⟩
          have HN : Aside (l.length - (j + 1) < maxLen) := ⟨by unfold maxLen; omega⟩
          clear hal hid hbk hc0 hc1 hcN hcN2 hlen5
          have hstep : ∀ W, Aside (MapIs kI eB W w1.heap.size (l.length - (j + 1) + 1) (goneF l id j)) → Aside (MapIs kI eB W w1.heap.size (l.length - j) (goneF l id j)) := fun W h => by
            rwa [show l.length - (j + 1) + 1 = l.length - j by omega] at h
          have HST := Aside.mk hstep
          clear hstep
          cases hg : l[j].gone with
          | true =>
            rw [hg] at x4 HM3 HQ3 HB3 HR1' HR2'
            have HG := Aside.mk (hnoput.out (.inl hg))
            go_wp2_with (at_mapUpdate; refine map_put (K := kI) (E := eB) rfl _ _ _ rfl Tryz.underlying222 rfl HM3.out HN.out l[j].r.cats rfl kok.out true rfl trivial ?_
                         intro w3 hm3 hg3
                         rw [HPUT.out] at hm3
                         have HM4 := HST.out w3 ⟨hm3⟩
                         have HQ4 := Aside.mk (HQ3.out.grown hg3 HNEb.out)
                         have HB4 := Aside.mk (HB3.out.grown hg3 HB3.out.size (fun j hj => by cases hj; exact Nat.le_refl _))
                         clear hm3 hg3)
            refine ⟨⟨j, by omega, rfl, HG, HM4, HQ4, HB4⟩, by simp [intOf]⟩
          | false =>
            rw [hg] at x4 HM3 HQ3 HB3 HR1' HR2'
            rcases gone_get l id (j + 1) l[j].r.cats with ⟨g1, g2⟩ | ⟨g1, g2⟩
            · have HG := Aside.mk (hnoput.out (.inr g2))
              clear g2
              have hlk := map_run Tryz.underlying222 HM3.out l[j].r.cats kok.out
              rw [g1] at hlk
              simp only [ek, ee] at hlk
              go_wp2_with (first
                | (at_mapUpdate; refine map_put (K := kI) (E := eB) rfl _ _ _ rfl Tryz.underlying222 rfl HM3.out HN.out l[j].r.cats rfl kok.out true rfl trivial ?_
                   intro w3 hm3 hg3
                   rw [HPUT.out] at hm3
                   have HM4 := HST.out w3 ⟨hm3⟩
                   have HQ4 := Aside.mk (HQ3.out.grown hg3 HNEb.out)
                   have HB4 := Aside.mk (HB3.out.grown hg3 HB3.out.size (fun j hj => by cases hj; exact Nat.le_refl _))
                   clear hm3 hg3))
              refine ⟨⟨j, by omega, rfl, HG, HM4, HQ4, HB4⟩, by simp [intOf]⟩
            · have HG := Aside.mk (get_hit H1.out hj (HK.out.hit hj HCN.out.2 HhN.out hg (by rw [← HCN.out.1]; exact g2)))
              have HRC1 := Aside.mk HRC.out.2.2.2.1
              have HRC2 := Aside.mk HRC.out.2.2.2.2.1
              clear g2
              have hlk := map_run Tryz.underlying222 HM3.out l[j].r.cats kok.out
              rw [g1] at hlk
              simp only [ek, ee] at hlk
              go_wp2_with fail
              refine (recCopied l[j].r _ _ _ _ _ _ _ HR1'.out HR2'.out HRC1.out HRC2.out).mono ?_
              rintro e w4 ⟨v1, v2, rfl, s1, s2, hb⟩
              obtain ⟨A3, c3, rfl⟩ := Sl.form s1
              obtain ⟨A4, c4, rfl⟩ := Sl.form s2
              have q4 := (HQ3.out.below hb).four
              have HB4 := Aside.mk (below_step HB1.out (below_step HB3.out hb))
              have HSS := Aside.mk (And.intro s1 s2)
              have HW3 := Aside.mk (Nat.le_trans HB1.out.size HB3.out.size)
              have HW4 := Aside.mk (Nat.lt_of_lt_of_le HSZ.out HB3.out.size)
              clear hb s1 s2
              go_wp2_with fail
              refine bodyPost_ret (v := .tuple #[.agg #[.string l[j].r.id, .int .i64 l[j].r.cats, .slice A3 l[j].r.fields.length c3, .slice A4 l[j].r.refs.length c4], .int .i64 0]) ?_ rfl ⟨.slice A3 l[j].r.fields.length c3, .slice A4 l[j].r.refs.length c4, by rw [HG.out.1, HG.out.2], ?_, ?_, ?_⟩
              · simp [results, Tryz.results78, go_sem, q4]
              · rw [HG.out.2]
                exact (HSS.out.1.move fun k hk _ => sets4 (fun e => by have := HW4.out; omega)).mono fun k hk _ => Nat.le_trans HW3.out hk
              · rw [HG.out.2]
                exact (HSS.out.2.move fun k hk _ => sets4 (fun e => by have := HW4.out; omega)).mono fun k hk _ => Nat.le_trans HW3.out hk
              · exact below_set4 HB4.out (Nat.le_refl _) _ _ _ _
        · have b1 : (l[j].r.id.toList == id.toList) = false := eqS_g hid
          have HSM := Aside.mk (gone_same hj hid)
          have HG := Aside.mk (HK.out.other hj fun c' _ hh => by unfold hitV at hh; simp [hid] at hh)
          have HM4 : Aside (MapIs kI eB (wr.alloc (.cells #[.string l[j].r.id, .int .i64 l[j].r.cats, .slice A1 l[j].r.fields.length c1, .slice A2 l[j].r.refs.length c2, .bool l[j].gone] 63)) w1.heap.size (l.length - j) (goneF l id j)) := ⟨by
            rw [← HSM.out]
            obtain ⟨D, d1, d2⟩ := HM3.out
            exact ⟨D, d1.mono (by omega), d2⟩⟩
          clear hal hid hc0 hc1
          go_wp2_with fail
          refine ⟨⟨j, by omega, rfl, HG, HM4, HQ3, HB3⟩, by simp [intOf]⟩
  · have e1 : getErr l id = storeErr l := if_pos h1
    have e2 : getR l id = noRec := by rw [getR, e1, if_neg h1]
    have g3 : (storeErr l != 0) = true := by simp [h1]
    rw [e1, e2]
    clear e1 e2 h1 hmm
    go_enter Tryz.func78, Tryz.ntmps78
    go_wp2_with fail
    refine (storeCheck _ c l _ _ HR.out hc).mono ?_
    rintro e w1 ⟨rfl, hb⟩
    have q1 := (HQ.out.below hb).four
    have HB1 := Aside.mk (below_step HB.out hb)
    clear hb
    go_wp2_with fail
    refine bodyPost_ret (v := .tuple #[.agg #[.string ⟨#[]⟩, .int .i64 0, .slice none 0 0, .slice none 0 0], .int .i64 (storeErr l)]) ?_ rfl ⟨.slice none 0 0, .slice none 0 0, rfl, Sl.nil _ _ _, Sl.nil _ _ _, ?_⟩
    · simp [results, Tryz.results78, go_sem, q1]
    · exact below_set4 HB1.out (Nat.le_refl _) _ _ _ _
end Go.Proofs.WK
namespace Go.Proofs.WK
open Go.RowKit Go.Sort Rp
theorem inner_str {w : World} {ok : Nat → Prop} {xs : List ByteArray} {inner : List Value} (h : Reps (str.K w ok) 1 xs inner) : inner = (xs.map (·.data.toList)).map encStr := by
  obtain ⟨hl, hr⟩ := h
  refine List.ext_getElem? fun j => ?_
  by_cases hj : j < xs.length
  · have h1 := hr j xs[j] (List.getElem?_eq_getElem hj)
    rw [str_K, Nat.mul_one] at h1
    have h2 := congrArg (·[0]?) h1
    simp at h2
    rw [h2]
    simp [hj]
  · rw [List.getElem?_eq_none (by simp at hl; omega), List.getElem?_eq_none (by simp; omega)]
theorem own_str {w : World} {base : Nat} {ok : Nat → Prop} {v : Value} {xs : List ByteArray} {t : TypeId} (h : w.ownsRow base t 1 v xs.length (xs.map Value.string)) : str.Own t w base ok v xs := ⟨_, h, reps_str _ _ _⟩
theorem map_sortS (xs : List ByteArray) : ((xs.map (·.data.toList)).mergeSort fun x y => decide (x ≤ y)).map encStr = (sortS xs).map Value.string := by
  unfold sortS
  simp [List.map_map, encStr]
/-- What a sort leaves. -/
theorem own_sorted {w : World} {base g c n : Nat} {ok : Nat → Prop} {t : TypeId} {os : Array Obj} {xs : List ByteArray} (h : str.Own t w base ok (.slice (some ⟨g, 0, none⟩) xs.length c) xs) :
    str.Own t (grow (putRow encStr (Sort.ahead w n) g 0 ((xs.map (·.data.toList)).mergeSort fun x y => decide (x ≤ y)).toArray) os) base ok (.slice (some ⟨g, 0, none⟩) xs.length c) (sortS xs) := by
  obtain ⟨inner, ho, hr⟩ := h
  have e := inner_str hr
  subst e
  rcases ho.2 with ⟨h0, _⟩ | ⟨g', c', cur, hv, hbase, hb, h1, h2, h3, h4⟩
  · cases h0
  · cases hv
    have hs := ownsRow_sorted (w := w) (base := base) (g := g) (cap := c) (n := n) (e := t) (os := os) (cur := cur) (ss := xs.map (·.data.toList)) (ts := (xs.map (·.data.toList)).mergeSort fun x y => decide (x ≤ y)) (by rw [List.length_mergeSort]) hbase hb (by simpa using h1) h2 h3
    rw [map_sortS, List.length_map] at hs
    refine own_str ?_
    rw [length_sortS]
    exact hs
theorem holds_own {w : World} {base : Nat} {ok : Nat → Prop} {t : TypeId} {v : Value} {xs : List ByteArray} (h : str.Own t w base ok v xs) (hv : v ≠ .slice none 0 0) : ∃ g c, v = .slice (some ⟨g, 0, none⟩) xs.length c ∧ g < w.heap.size ∧ Holds encStr w g 0 (xs.map (·.data.toList)).toArray := by
  obtain ⟨inner, ho, hr⟩ := h
  have e := inner_str hr
  subst e
  obtain ⟨g, c, rfl, _, h1, _, _, _, h2⟩ := Lib.holds_of_ownsRow ho hv
  exact ⟨g, c, rfl, h1, h2⟩
theorem own_none {w : World} {base : Nat} {ok : Nat → Prop} {t : TypeId} {xs : List ByteArray} (h : str.Own t w base ok (.slice none 0 0) xs) : xs = [] := by
  obtain ⟨A, c, e, hc, _⟩ := h.sl
  injection e with _ e _
  exact List.length_eq_zero_iff.1 e.symm
set_option maxRecDepth 100000 in
theorem sortStr (t : TypeId) (v : Value) (xs : List ByteArray) (base : Nat) (ok : Nat → Prop) (w : World) (h : str.Own t w base ok v xs) (hl : xs.length < 4611686018427387904) :
    Calls Tryz.prog 95 #[v] w fun e w' => e = .returned (.tuple #[]) ∧ str.Own t w' base ok v (sortS xs) ∧ w.grownBy w' v.ownBlock := by
  by_cases hv : v = .slice none 0 0
  · subst hv
    obtain rfl := own_none h
    refine (Any.slices_Sort_string_none Tryz.laySortS none 0 w).mono ?_
    rintro e w' ⟨rfl, rfl⟩
    exact ⟨rfl, by rw [show sortS [] = [] by simp [sortS]]; exact h, World.grownBy.refl _ _⟩
  · obtain ⟨g, c, rfl, hg, hH⟩ := holds_own h hv
    have hc := Any.slices_Sort_string Tryz.laySortS g 0 c (xs.map (·.data.toList)) w hH hg (by simpa using hl)
    rw [List.length_map] at hc
    refine hc.mono ?_
    rintro e w' ⟨rfl, n, os, rfl⟩
    exact ⟨rfl, own_sorted h, grownBy_sorted _⟩
set_option maxRecDepth 100000 in
theorem sortStrL (t : TypeId) (v : Value) (xs : List ByteArray) (base : Nat) (ok : Nat → Prop) (w : World) (h : str.Own t w base ok v xs) (hl : xs.length < 4611686018427387904) :
    Calls Tryz.prog 33 #[v] w fun e w' => e = .returned (.tuple #[]) ∧ str.Own t w' base ok v (sortS xs) ∧ w.grownBy w' v.ownBlock := by
  by_cases hv : v = .slice none 0 0
  · subst hv
    obtain rfl := own_none h
    refine (Any.sort_Strings_none Tryz.laySortL none 0 w).mono ?_
    rintro e w' ⟨rfl, rfl⟩
    exact ⟨rfl, by rw [show sortS [] = [] by simp [sortS]]; exact h, World.grownBy.refl _ _⟩
  · obtain ⟨g, c, rfl, hg, hH⟩ := holds_own h hv
    have hc := Any.sort_Strings Tryz.laySortL g 0 c (xs.map (·.data.toList)) w hH hg (by simpa using hl)
    rw [List.length_map] at hc
    refine hc.mono ?_
    rintro e w' ⟨rfl, n, os, rfl⟩
    exact ⟨rfl, own_sorted h, grownBy_sorted _⟩
end Go.Proofs.WK
namespace Go.Proofs.WK
open Go.RowKit Rp
noncomputable def kS : KT Tryz.prog 9 ByteArray := strT Tryz.underlying9
theorem kS_ok {s : ByteArray} (h : idOk s = true) : kS.okk s := Nat.le_trans (idOk_size h).2 (by unfold maxLen; omega)
set_option maxHeartbeats 4000000 in
set_option maxRecDepth 100000 in
theorem storeIds (A : Option Addr) (c : Nat) (l : List Ver) (ok : Nat → Prop) (w : World) (hr : verR.Row w ok A l) (hc : l.length ≤ c) :
    Calls Tryz.prog 77 #[.slice A l.length c] w fun e w' => ∃ v, e = .returned (.tuple #[v, .int .i64 (storeErr l)]) ∧ str.Sl w' (fun k => w.heap.size ≤ k) v (idsV l) ∧ Below w.heap.size w w' := by
  have HR := Aside.mk hr
  have hmm := @run_makeMap Tryz.prog
  clear hr
  by_cases h1 : storeErr l = 0
  · have H1 := Aside.mk h1
    have HV := Aside.mk (show idsV l = sortS (idsK l l.length) from if_pos h1)
    have HL := Aside.mk (store_ok h1).1
    rw [h1]
    clear h1
    go_enter Tryz.func77, Tryz.ntmps77
    go_wp2_with fail
    refine (storeCheck _ c l _ _ HR.out hc).mono ?_
    rw [H1.out]
    rintro e w1 ⟨rfl, hb⟩
    have HR1 := Aside.mk (HR.out.below hb)
    have HB1 := Aside.mk hb
    clear hb HR
    go_wp2_with fail
    go_loopw [5, 20] (fun o i wr => ∃ k : Nat, k ≤ l.length ∧ i = .int .i64 k ∧ Aside (MapIs kS eB wr w1.heap.size k (seenF l k)) ∧ Aside (str.Own 9 wr (w1.heap.size + 1) (fun _ => False) o (idsK l k)) ∧ Aside (Below w1.heap.size w1 wr)) (fun _ i _ => l.length - (intOf i).toNat)
    case atStart => exact ⟨0, Nat.zero_le _, rfl, ⟨by rw [seenF_zero]; exact MapIs.made _ _ _⟩, ⟨Own.nil _ _ _ _ _⟩, ⟨(Below.refl _ _).alloc (Nat.le_refl _) _⟩⟩
    case round =>
      clear hmm
      obtain ⟨k, hk, rfl, HM, HO, HB⟩ := hrel
      have hL5 : l.length ≤ 5120 := HL.out
      obtain ⟨Ao, co, rfl⟩ := Sl.form HO.out.sl
      by_cases hlt : k < l.length
      · have p0 : (0 : Int) ≤ (k : Int) := by omega
        have p1 : (k : Int) < (l.length : Int) := by omega
        obtain ⟨ad, A1, c1, A2, c2, rfl, _, x0, x1, x2, x3, x4, _, _, _, _⟩ := ver_at (HR1.out.below HB.out) hlt
        have hal : Below wr.heap.size wr (wr.alloc (.cells #[.string l[k].r.id, .int .i64 l[k].r.cats, .slice A1 l[k].r.fields.length c1, .slice A2 l[k].r.refs.length c2, .bool l[k].gone] 63)) := (Below.refl _ _).alloc (Nat.le_refl _) _
        have HBa := Aside.mk (below_step HB.out hal)
        have HMa := Aside.mk (HM.out.below hal)
        have HOa := Aside.mk (HO.out.below hal)
        have hrec := rec_ok (store_rec H1.out l[k] (List.getElem_mem hlt))
        have kok := Aside.mk (kS_ok hrec.1)
        have ek : ∀ z, kS.kv z = Value.string z := fun _ => rfl
        have ee : ∀ z, eB.ev z = Value.bool z := fun _ => rfl
        clear hal hrec
        have hgetD := seenF_get l k l[k].r.id
        cases hs : isId (l.take k) l[k].r.id with
        | true =>
          rw [hs] at hgetD
          have HG := Aside.mk (show (seenF l k l[k].r.id).getD eB.zero = true from hgetD)
          have HM2 : Aside (MapIs kS eB (wr.alloc (.cells #[.string l[k].r.id, .int .i64 l[k].r.cats, .slice A1 l[k].r.fields.length c1, .slice A2 l[k].r.refs.length c2, .bool l[k].gone] 63)) w1.heap.size (k + 1) (seenF l (k + 1))) := ⟨by
            rw [seenF_same hlt hs]
            obtain ⟨D, d1, d2⟩ := HMa.out
            exact ⟨D, d1.mono (by omega), d2⟩⟩
          have HO2 : Aside (str.Own 9 (wr.alloc (.cells #[.string l[k].r.id, .int .i64 l[k].r.cats, .slice A1 l[k].r.fields.length c1, .slice A2 l[k].r.refs.length c2, .bool l[k].gone] 63)) (w1.heap.size + 1) (fun _ => False) (.slice Ao (idsK l k).length co) (idsK l (k + 1))) := ⟨by rw [idsK_seen hlt hs]; exact HOa.out⟩
          clear hgetD
          go_wp2_with (at_lookup; refine map_look (K := kS) (E := eB) rfl _ _ rfl Tryz.underlying158 rfl HMa.out l[k].r.id rfl kok.out ?_; rw [HG.out])
          refine ⟨⟨k + 1, by omega, by go_num, HM2, HO2, HBa⟩, by simp [intOf]; omega⟩
        | false =>
          rw [hs] at hgetD
          have HG := Aside.mk (show (seenF l k l[k].r.id).getD eB.zero = false from hgetD)
          have HP := Aside.mk (seenF_put hlt)
          have HN : Aside (k < maxLen) := ⟨by have := HL.out; unfold maxLen; omega⟩
          have HKN := Aside.mk (length_idsK l k)
          have hgerr := get_err H1.out l[k].r.id
          have HNE : Aside (∀ j, ((Value.slice Ao (idsK l k).length co).ownBlock = some j) → some j ≠ some w1.heap.size) := ⟨fun j hj => by have := (HOa.out.lt j hj).1; simp; omega⟩
          clear hgetD
          by_cases hg : getI l l[k].r.id < 0
          · rw [if_pos hg] at hgerr
            have HE := Aside.mk hgerr
            have HX := Aside.mk (idsK_gone hlt hs hg)
            clear hgerr hs hg
            go_wp2_with (first
              | (at_lookup; refine map_look (K := kS) (E := eB) rfl _ _ rfl Tryz.underlying158 rfl HMa.out l[k].r.id rfl kok.out ?_; rw [HG.out])
              | (at_mapUpdate; refine map_put (K := kS) (E := eB) rfl _ _ _ rfl Tryz.underlying158 rfl HMa.out HN.out l[k].r.id rfl kok.out true rfl trivial ?_
                 intro w3 hm3 hg3
                 rw [HP.out] at hm3
                 have HM3 := Aside.mk hm3
                 have HO3 := Aside.mk (HOa.out.grown hg3 HNE.out (fun _ h => h.elim))
                 have HB3 := Aside.mk (HBa.out.grown hg3 HBa.out.size (fun j hj => by cases hj; exact Nat.le_refl _))
                 clear hm3 hg3))
            refine (storeGet (some ad) c l l[k].r.id ok _ (HR1.out.below HB3.out) hc).mono ?_
            rintro e w4 ⟨v1, v2, rfl, s1, s2, hb⟩
            obtain ⟨A3, c3, rfl⟩ := Sl.form s1
            obtain ⟨A4, c4, rfl⟩ := Sl.form s2
            rw [HE.out]
            have HM4 := Aside.mk (HM3.out.below hb)
            have HO4 := Aside.mk (HO3.out.below hb)
            have HB4 := Aside.mk (below_step HB3.out hb)
            clear hb s1 s2
            go_wp2_with fail
            refine ⟨⟨k + 1, by omega, by go_num, ⟨HM4.out.alloc _⟩, ⟨by rw [HX.out]; exact HO4.out.below ((Below.refl _ _).alloc (Nat.le_refl _) _)⟩, ⟨HB4.out.alloc HB4.out.size _⟩⟩, by simp [intOf]; omega⟩
          · rw [if_neg hg] at hgerr
            have HE := Aside.mk hgerr
            have HX := Aside.mk (idsK_new hlt hs hg)
            clear hgerr hs hg
            go_wp2_with (first
              | (at_lookup; refine map_look (K := kS) (E := eB) rfl _ _ rfl Tryz.underlying158 rfl HMa.out l[k].r.id rfl kok.out ?_; rw [HG.out])
              | (at_mapUpdate; refine map_put (K := kS) (E := eB) rfl _ _ _ rfl Tryz.underlying158 rfl HMa.out HN.out l[k].r.id rfl kok.out true rfl trivial ?_
                 intro w3 hm3 hg3
                 rw [HP.out] at hm3
                 have HM3 := Aside.mk hm3
                 have HO3 := Aside.mk (HOa.out.grown hg3 HNE.out (fun _ h => h.elim))
                 have HB3 := Aside.mk (HBa.out.grown hg3 HBa.out.size (fun j hj => by cases hj; exact Nat.le_refl _))
                 clear hm3 hg3))
            refine (storeGet (some ad) c l l[k].r.id ok _ (HR1.out.below HB3.out) hc).mono ?_
            rintro e w4 ⟨v1, v2, rfl, s1, s2, hb⟩
            obtain ⟨A3, c3, rfl⟩ := Sl.form s1
            obtain ⟨A4, c4, rfl⟩ := Sl.form s2
            rw [HE.out]
            have HM4 := Aside.mk (HM3.out.below hb)
            have HO4 := Aside.mk (HO3.out.below hb)
            have HB4 := Aside.mk (below_step HB3.out hb)
            have HS5 : Aside (w1.heap.size ≤ (w4.alloc (.cells #[.string (getR l l[k].r.id).id, .int .i64 (getR l l[k].r.id).cats, .slice A3 (getR l l[k].r.id).fields.length c3, .slice A4 (getR l l[k].r.id).refs.length c4] 36)).heap.size) := ⟨Nat.le_trans HB4.out.size (by simp)⟩
            have HS4 : Aside (w1.heap.size + 1 ≤ ((w4.alloc (.cells #[.string (getR l l[k].r.id).id, .int .i64 (getR l l[k].r.id).cats, .slice A3 (getR l l[k].r.id).fields.length c3, .slice A4 (getR l l[k].r.id).refs.length c4] 36)).alloc (.cells #[.string l[k].r.id] 9)).heap.size) := ⟨by have := HB4.out.size; simp; omega⟩
            have HL4 : Aside (((idsK l k).length + 1) * 16 ≤ 140737488355328) := ⟨by have := HKN.out; have := HL.out; omega⟩
            clear hb s1 s2
            go_wp2_with (at_builtin
                         refine list_one (w0 := (w4.alloc (.cells #[.string (getR l l[k].r.id).id, .int .i64 (getR l l[k].r.id).cats, .slice A3 (getR l l[k].r.id).fields.length c3, .slice A4 (getR l l[k].r.id).refs.length c4] 36)).alloc (.cells #[.string l[k].r.id] 9)) str (w1.heap.size + 1) rfl (.tmp 40) (.tmp 42) 34 9 (.string ByteArray.empty) 16 rfl Tryz.underlying34 infoSt rfl Nat.one_pos (Nat.succ_pos _) (.slice Ao (idsK l k).length co) (idsK l k) l[k].r.id [.string l[k].r.id] (fun _ => False) (w4.heap.size + 1) 1 rfl rfl (blk_new2 w4 _ _ _) rfl ((HO4.out.below ((Below.refl _ _).alloc (Nat.le_refl _) _)).below ((Below.refl _ _).alloc (Nat.le_refl _) _)) (Below.refl _ _) HS4.out HL4.out ?_
                         intro v1 w5 HO1 HB1 hg hat
                         have HO5 := Aside.mk HO1
                         have HM5 := Aside.mk (((HM4.out.alloc _).alloc _).kept hg (fun e => HNE.out _ e.symm rfl))
                         have HB5 := Aside.mk (((HB4.out.alloc HB4.out.size _).alloc HS5.out _).grown hg (Nat.le_trans HS5.out (by simp)) (fun j hj => Nat.le_trans (Nat.le_succ _) (HO4.out.lt j hj).1))
                         clear HO1 HB1 hg hat)
            refine ⟨⟨k + 1, by omega, by go_num, HM5, ⟨by rw [HX.out]; exact HO5.out⟩, HB5⟩, by simp [intOf]; omega⟩
      · obtain rfl : k = l.length := by omega
        have HLN : Aside ((idsK l l.length).length < 4611686018427387904) := ⟨by have := length_idsK l l.length; have := HL.out; omega⟩
        go_wp2_with fail
        refine (sortStr _ _ _ _ _ _ HO.out HLN.out).mono ?_
        rintro e w3 ⟨rfl, ho, hg⟩
        have HB3 := Aside.mk (HB.out.grown hg HB.out.size (fun j hj => Nat.le_trans (Nat.le_succ _) (HO.out.lt j hj).1))
        have HO3 := Aside.mk ho
        clear hg ho
        go_wp2_with fail
        go_ret2
        exact ⟨_, rfl, by rw [HV.out]; exact HO3.out.sl.mono fun j hj _ => hj.elim False.elim fun hj => Nat.le_trans HB1.out.size (Nat.le_trans (Nat.le_succ _) (HO3.out.lt j hj).1), below_step HB1.out HB3.out⟩
  · have e2 : idsV l = [] := if_neg h1
    have g3 : (storeErr l != 0) = true := by simp [h1]
    rw [e2]
    clear e2 h1 hmm
    go_enter Tryz.func77, Tryz.ntmps77
    go_wp2_with fail
    refine (storeCheck _ c l _ _ HR.out hc).mono ?_
    rintro e w1 ⟨rfl, hb⟩
    have HB1 := Aside.mk hb
    clear hb
    go_wp2_with fail
    go_ret2
    exact ⟨_, rfl, Sl.nil _ _ _, HB1.out⟩
end Go.Proofs.WK
namespace Go.Proofs.WK
open Go.RowKit Rp
set_option maxHeartbeats 4000000 in
set_option maxRecDepth 100000 in
theorem findBy (A : Option Addr) (c : Nat) (l : List Ver) (f : Fld) (ok : Nat → Prop) (w : World) (hr : verR.Row w ok A l) (hc : l.length ≤ c) :
    Calls Tryz.prog 59 #[.slice A l.length c, .agg #[.string f.key, .string f.val]] w fun e w' => ∃ v, e = .returned (.tuple #[v, .int .i64 (byErr l f)]) ∧ str.Sl w' (fun k => w.heap.size ≤ k) v (byV l f) ∧ Below w.heap.size w w' := by
  have hb : Below w.heap.size w (w.alloc (.cells #[.string f.key, .string f.val] 38)) := (Below.refl _ _).alloc (Nat.le_refl _) _
  have HR := Aside.mk (hr.below hb)
  have HQ := Aside.mk (Bk.made w [.string f.key, .string f.val] 38)
  have HB := Aside.mk hb
  clear hr hb
  by_cases h1 : storeErr l = 0
  · have H1 := Aside.mk h1
    have HV := Aside.mk (show (idsV l).length ≤ 5120 from Nat.le_trans (length_idsV l) (store_ok h1).1)
    rcases by_ways l f h1 with ⟨a1, HX⟩ | ⟨⟨a1, a2⟩, HX⟩ | ⟨⟨a1, a2⟩, HX⟩
    case inr.inr =>
      clear h1
      rw [HX.out.1, HX.out.2]
      go_enter Tryz.func59, Tryz.ntmps59
      go_wp2_with fail
      refine (storeIds _ c l _ _ HR.out hc).mono ?_
      rw [H1.out]
      rintro e w1 ⟨v1, rfl, s1, hb⟩
      generalize hids : idsV l = ids at *
      obtain ⟨X1, d1, rfl, _, s1⟩ := s1
      have HR1 := Aside.mk (HR.out.below hb)
      have HQ1 := Aside.mk (HQ.out.below hb)
      have HB1 := Aside.mk (below_step HB.out hb)
      have HI1 := Aside.mk s1
      have q1 := HQ1.out.two
      have HIDS := Aside.mk hids
      clear hb s1 HR HQ HB hids
      go_wp2_with (first
        | (go_at_call 85; refine (recId _ _).mono ?_; rw [a1]; rintro e w' ⟨rfl, rfl⟩)
        | (go_at_call 86; refine (recValue _ _).mono ?_; rw [a2]; rintro e w' ⟨rfl, rfl⟩))
      clear q1
      go_loopw [8, 33] (fun o i wr => ∃ k : Nat, k ≤ ids.length ∧ i = .int .i64 k ∧ Aside (str.Own 9 wr w1.heap.size (fun _ => False) o (byF l f (ids.take k))) ∧ Aside (Below w1.heap.size w1 wr)) (fun _ i _ => ids.length - (intOf i).toNat)
      case atStart => exact ⟨0, Nat.zero_le _, rfl, ⟨Own.nil _ _ _ _ _⟩, ⟨Below.refl _ _⟩⟩
      case round =>
        obtain ⟨k, hk, rfl, HO, HB2⟩ := hrel
        have hL5 := HV.out
        obtain ⟨Ao, co, rfl⟩ := Sl.form HO.out.sl
        by_cases hlt : k < ids.length
        · have p0 : (0 : Int) ≤ (k : Int) := by omega
          have p1 : (k : Int) < (ids.length : Int) := by omega
          obtain ⟨ad, rfl, _, x0⟩ := str_at (HI1.out.below HB2.out) hlt
          have hstep := byF_step (l := l) (f := f) hlt
          have HLN := Aside.mk (byF_len l f ids k)
          have HSTEP := Aside.mk hstep
          clear hstep
          go_wp2_with fail
          refine (storeGet A c l ids[k] _ _ (HR1.out.below HB2.out) hc).mono ?_
          rintro e w2 ⟨v2, v3, rfl, s2, s3, hb⟩
          have hgr := HSTEP.out
          generalize getR l ids[k] = gr at *
          have HST := Aside.mk hgr
          clear hgr HSTEP
          obtain ⟨X2, d2, rfl, _, s2⟩ := s2
          obtain ⟨X3, d3, rfl⟩ := Sl.form s3
          have hal : Below w2.heap.size w2 (w2.alloc (.cells #[.string gr.id, .int .i64 gr.cats, .slice X2 gr.fields.length d2, .slice X3 gr.refs.length d3] 36)) := (Below.refl _ _).alloc (Nat.le_refl _) _
          have HF3 := Aside.mk (s2.below hal)
          have HO3 := Aside.mk ((HO.out.below hb).below hal)
          have HB3 := Aside.mk (below_step (below_step HB2.out hb) hal)
          have q3 := (HQ1.out.below HB3.out).two
          clear hb s2 s3 hal
          cases hin : decide (f ∈ gr.fields) with
          | false =>
            have HE := Aside.mk (HST.out.trans (if_neg (of_decide_eq_false hin)))
            go_wp2_with (go_at_call 140; refine (containsFld _ _ gr.fields f _ _ HF3.out).mono ?_; rw [hin]; rintro e w4 ⟨rfl, hb⟩
                         have HO4 := Aside.mk (HO3.out.below hb); have HB4 := Aside.mk (below_step HB3.out hb); clear hb)
            refine ⟨⟨k + 1, by omega, by go_num, ⟨by rw [HE.out]; exact HO4.out⟩, HB4⟩, by simp [intOf]; omega⟩
          | true =>
            have HE := Aside.mk (HST.out.trans (if_pos (of_decide_eq_true hin)))
            have HL4 : Aside (((byF l f (ids.take k)).length + 1) * 16 ≤ 140737488355328) := ⟨by have := HLN.out; omega⟩
            go_wp2_with (first
              | (go_at_call 140; refine (containsFld _ _ gr.fields f _ _ HF3.out).mono ?_; rw [hin]; rintro e w4 ⟨rfl, hb⟩
                 have HO4 := Aside.mk (HO3.out.below hb); have HB4 := Aside.mk (below_step HB3.out hb); clear hb)
              | (at_builtin
                 refine list_one (w0 := w4.alloc (.cells #[.string ids[k]] 9)) str w1.heap.size rfl (.tmp 47) (.tmp 49) 34 9 (.string ByteArray.empty) 16 rfl Tryz.underlying34 infoSt rfl Nat.one_pos (Nat.succ_pos _) (.slice Ao (byF l f (ids.take k)).length co) (byF l f (ids.take k)) ids[k] [.string ids[k]] (fun _ => False) w4.heap.size 1 rfl rfl (blk_new w4 _ _) rfl (HO4.out.below ((Below.refl _ _).alloc (Nat.le_refl _) _)) (Below.refl _ _) (Nat.le_trans HB4.out.size (by simp)) HL4.out ?_
                 intro v1 w5 HO1 HB1 hg hat
                 have HO5 := Aside.mk HO1
                 have HB5 := Aside.mk ((HB4.out.alloc HB4.out.size _).grown hg (Nat.le_trans HB4.out.size (by simp)) (fun j hj => (HO4.out.lt j hj).1))
                 clear HO1 HB1 hg hat))
            refine ⟨⟨k + 1, by omega, by go_num, ⟨by rw [HE.out]; exact HO5.out⟩, HB5⟩, by simp [intOf]; omega⟩
        · obtain rfl : k = ids.length := by omega
          have h := HO.out
          rw [List.take_length] at h
          have HE := Aside.mk h
          clear h
          go_wp2_with fail
          go_ret2
          exact ⟨.slice Ao (byF l f ids).length co, by rw [List.take_length]; first | done | rfl, by rw [HIDS.out]; exact HE.out.sl.mono fun j hj _ => hj.elim False.elim fun hj => Nat.le_trans HB1.out.size (HE.out.lt j hj).1, below_step HB1.out HB2.out⟩
    all_goals
      clear h1
      rw [HX.out.1, HX.out.2]
      go_enter Tryz.func59, Tryz.ntmps59
      go_wp2_with fail
      refine (storeIds _ c l _ _ HR.out hc).mono ?_
      rw [H1.out]
      rintro e w1 ⟨v1, rfl, s1, hb⟩
      obtain ⟨X1, d1, rfl⟩ := Sl.form s1
      have q1 := (HQ.out.below hb).two
      have HB1 := Aside.mk (below_step HB.out hb)
      clear hb s1
      go_wp2_with (first
        | (go_at_call 85; refine (recId _ _).mono ?_; rw [a1]; rintro e w' ⟨rfl, rfl⟩)
        | (go_at_call 86; refine (recValue _ _).mono ?_; rw [a2]; rintro e w' ⟨rfl, rfl⟩))
      go_ret2
      exact ⟨_, rfl, Sl.nil _ _ _, HB1.out⟩
  · have e1 : byErr l f = storeErr l := if_pos h1
    have e2 : byV l f = [] := by rw [byV, e1, if_neg h1]
    have g3 : (storeErr l != 0) = true := by simp [h1]
    rw [e1, e2]
    clear e1 e2 h1
    go_enter Tryz.func59, Tryz.ntmps59
    go_wp2_with fail
    refine (storeIds _ c l _ _ HR.out hc).mono ?_
    rintro e w1 ⟨v1, rfl, s1, hb⟩
    obtain ⟨X1, d1, rfl⟩ := Sl.form s1
    have HB1 := Aside.mk (below_step HB.out hb)
    clear hb s1
    go_wp2_with fail
    go_ret2
    exact ⟨_, rfl, Sl.nil _ _ _, HB1.out⟩
end Go.Proofs.WK
