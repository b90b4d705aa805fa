/-
  GOGUEN, MESEGUER, of plain servers: who may not see some kinds is told the same. No walk.
-/
import Derived.Test.YtljjiicjnoljbaaGreatDoorSrv0
namespace Go.Proofs.WK
theorem part_trans {x y z : Int} (h1 : part x y = true) (h2 : part y z = true) : part x z = true := by
  unfold part at *
  rw [List.all_eq_true] at *
  intro i hi
  have a := h1 i hi
  have b := h2 i hi
  cases hx : bit x i <;> cases hy : bit y i <;> cases hz : bit z i <;> simp_all
theorem seen_app (l : List Ver) (v : Ver) (s : Int) : seenL (l ++ [v]) s = seenL l s ++ if part v.r.cats s = true then [v] else [] := by
  unfold seenL
  rw [List.filter_append, List.filter_cons, List.filter_nil]
theorem seen_seen {m s : Int} (h : part m s = true) (l : List Ver) : seenL (seenL l s) m = seenL l m := by
  unfold seenL
  rw [List.filter_filter]
  refine List.filter_congr fun v _ => ?_
  cases hv : part v.r.cats m
  · rfl
  · rw [part_trans hv h]; rfl
theorem seen_same {c s : Int} (h : part c s = true) (l : List Ver) : sameN (seenL l s) c = sameN l c := by
  unfold sameN seenL
  rw [List.filter_filter]
  congr 1
  refine List.filter_congr fun v _ => ?_
  by_cases e : v.r.cats = c
  · rw [e, h]; simp
  · simp [e]
theorem lives_app (l : List Ver) (v : Ver) (id : ByteArray) (c : Int) : (0 ≤ livesI (l ++ [v]) id c) ↔ if hitV v id c = true then v.gone = false else 0 ≤ livesI l id c := by
  unfold livesI
  rw [List.length_append, List.length_singleton, livesK_step (by simp)]
  have e : (l ++ [v])[l.length]'(by simp) = v := by simp
  rw [e, livesK_app l v _ _ _ (Nat.le_refl _)]
  by_cases hh : hitV v id c = true
  · rw [if_pos hh, if_pos hh]
    cases v.gone <;> simp <;> omega
  · rw [if_neg hh, if_neg hh]
theorem seen_lives {c s : Int} (h : part c s = true) (id : ByteArray) (l : List Ver) : (0 ≤ livesI (seenL l s) id c) ↔ 0 ≤ livesI l id c := by
  have key : ∀ n, n ≤ l.length → ((0 ≤ livesI (seenL (l.take n) s) id c) ↔ 0 ≤ livesI (l.take n) id c) := by
    intro n
    induction n with
    | zero => intro _; simp [seenL]
    | succ n ih =>
      intro hn
      have hn' : n < l.length := by omega
      rw [List.take_succ_eq_append_getElem hn', seen_app, lives_app]
      by_cases hp : part l[n].r.cats s = true
      · rw [if_pos hp, lives_app, ih (by omega)]
      · rw [if_neg hp, List.append_nil]
        have hh : hitV l[n] id c = false := by
          unfold hitV
          rw [Bool.and_eq_false_iff]
          right
          refine decide_eq_false fun e => hp ?_
          rw [e, h]
        rw [hh, if_neg (by simp)]
        exact ih (by omega)
  have h1 := key l.length (Nat.le_refl _)
  rwa [List.take_length] at h1
/-- Two servers are one to who may see no kinds but s. -/
structure Lo (s : Int) (a b : Srv) : Prop where
  up : a.up = b.up
  rules : a.rules = b.rules
  notes : a.notes = b.notes
  ea : storeErr a.l = 0
  eb : storeErr b.l = 0
  seen : seenL a.l s = seenL b.l s
theorem Lo.same {s : Int} {a b : Srv} (h : Lo s a b) {c : Int} (hc : part c s = true) : sameN a.l c = sameN b.l c := by
  rw [← seen_same hc a.l, ← seen_same hc b.l, h.seen]
theorem Lo.lives {s : Int} {a b : Srv} (h : Lo s a b) {c : Int} (hc : part c s = true) (id : ByteArray) : (livesI a.l id c < 0) ↔ livesI b.l id c < 0 := by
  have h1 := seen_lives hc id a.l
  have h2 := seen_lives hc id b.l
  rw [h.seen] at h1
  omega
theorem Lo.put {s : Int} {a b : Srv} (h : Lo s a b) {r : Rec} (hc : part r.cats s = true) : putErr a.l r = putErr b.l r := by
  rw [putErr, putErr, h.ea, h.eb, h.same hc]
theorem Lo.cut {s : Int} {a b : Srv} (h : Lo s a b) {id : ByteArray} {c : Int} (hc : part c s = true) : cutErr a.l id c = cutErr b.l id c := by
  rw [cutErr, cutErr, h.ea, h.eb, h.same hc]
  have hl := h.lives hc id
  by_cases hb : livesI b.l id c < 0
  · rw [if_pos (hl.2 hb), if_pos hb]
  · rw [if_neg (fun e => hb (hl.1 e)), if_neg hb]
theorem putE_ok {a : Srv} {o : OpV} (h : putE a o = 0) : putErr a.l o.r = 0 := by
  rw [putE] at h
  split at h
  · exact absurd h ‹_›
  · split at h
    · exact absurd h ‹_›
    · split at h
      · cases h
      · exact h
theorem cutE_ok {a : Srv} {o : OpV} (h : cutE a o = 0) : cutErr a.l o.id o.r.cats = 0 := by
  rw [cutE] at h
  split at h
  · exact absurd h ‹_›
  · split at h
    · cases h
    · exact h
theorem putV_ok {l : List Ver} {r : Rec} (h : putErr l r = 0) : putV l r = l ++ [⟨r, false⟩] := if_pos h
theorem cutV_ok {l : List Ver} {id : ByteArray} {c : Int} (h : cutErr l id c = 0) : cutV l id c = l ++ [⟨⟨id, c, [], []⟩, true⟩] := if_pos h
/-- What is hidden changes nothing. -/
theorem lo_hidden {s : Int} {a b : Srv} (h : Lo s a b) {o : OpV} (hk : o.kind = 2 ∨ o.kind = 3) (hh : part o.r.cats s = false) : Lo s (doS a o).1 b := by
  rcases hk with hk | hk
  · rw [doS_put hk]
    show Lo s (if putE a o = 0 then { a with l := putV a.l o.r } else a) b
    split
    · rename_i he
      have h1 := putE_ok he
      refine ⟨h.up, h.rules, h.notes, ?_, h.eb, ?_⟩
      · show storeErr (putV a.l o.r) = 0
        rw [putV_ok h1]; exact put_ok h.ea h1
      · show seenL (putV a.l o.r) s = _
        rw [putV_ok h1, seen_app, if_neg (by simp [hh]), List.append_nil]; exact h.seen
    · exact h
  · rw [doS_cut hk]
    show Lo s (if cutE a o = 0 then { a with l := cutV a.l o.id o.r.cats } else a) b
    split
    · rename_i he
      have h1 := cutE_ok he
      refine ⟨h.up, h.rules, h.notes, ?_, h.eb, ?_⟩
      · show storeErr (cutV a.l o.id o.r.cats) = 0
        rw [cutV_ok h1]; exact cut_ok h.ea h1
      · show seenL (cutV a.l o.id o.r.cats) s = _
        rw [cutV_ok h1, seen_app, if_neg (by simp [hh]), List.append_nil]; exact h.seen
    · exact h
theorem Lo.symm {s : Int} {a b : Srv} (h : Lo s a b) : Lo s b a := ⟨h.up.symm, h.rules.symm, h.notes.symm, h.eb, h.ea, h.seen.symm⟩
theorem Lo.mine {s : Int} {a b : Srv} (h : Lo s a b) {q : Who} (hm : part (seesV a.up a.rules q) s = true) : mineE a q = mineE b q ∧ mineV a q = mineV b q := by
  have e : mineE a q = mineE b q := by
    unfold mineE partErr
    rw [h.up, h.rules, h.ea, h.eb]
  refine ⟨e, ?_⟩
  unfold mineV
  rw [e]
  have : seenL a.l (seesV a.up a.rules q) = seenL b.l (seesV b.up b.rules q) := by
    rw [← seen_seen hm a.l, h.seen, seen_seen hm b.l, h.up, h.rules]
  rw [this]
/-- What is not hidden is done by both, and both tell the same to who sees no more. -/
theorem lo_do {s : Int} {a b : Srv} (h : Lo s a b) {o : OpV} (hk : o.kind = 1 ∨ o.kind = 2 ∨ o.kind = 3 ∨ o.kind = 4 ∨ o.kind = 5 ∨ o.kind = 6) (hv : o.kind = 2 ∨ o.kind = 3 → part o.r.cats s = true) :
    Lo s (doS a o).1 (doS b o).1 ∧ ((o.kind = 2 ∨ o.kind = 3 ∨ part (seesV a.up a.rules o.who) s = true) → (doS a o).2 = (doS b o).2) := by
  rcases hk with hk | hk | hk | hk
  · rw [doS_rules hk, doS_rules hk]
    refine ⟨?_, fun _ => rfl⟩
    show Lo s (if rulesErr o.rules = 0 then _ else _) (if rulesErr o.rules = 0 then _ else _)
    split
    · exact ⟨h.up, rfl, h.notes, h.ea, h.eb, h.seen⟩
    · exact h
  · have hc := hv (.inl hk)
    have e : putE a o = putE b o := by unfold putE; rw [h.up, h.rules, h.put hc]
    rw [doS_put hk, doS_put hk, e]
    refine ⟨?_, fun _ => rfl⟩
    show Lo s (if putE b o = 0 then { a with l := putV a.l o.r } else a) (if putE b o = 0 then { b with l := putV b.l o.r } else b)
    split
    · rename_i he
      have hb1 := putE_ok he
      have ha1 : putErr a.l o.r = 0 := by rw [h.put hc]; exact hb1
      refine ⟨h.up, h.rules, h.notes, ?_, ?_, ?_⟩
      · show storeErr (putV a.l o.r) = 0
        rw [putV_ok ha1]; exact put_ok h.ea ha1
      · show storeErr (putV b.l o.r) = 0
        rw [putV_ok hb1]; exact put_ok h.eb hb1
      · show seenL (putV a.l o.r) s = seenL (putV b.l o.r) s
        rw [putV_ok ha1, putV_ok hb1, seen_app, seen_app, h.seen]
    · exact h
  · have hc := hv (.inr hk)
    have e : cutE a o = cutE b o := by unfold cutE; rw [h.up, h.rules, h.cut hc]
    rw [doS_cut hk, doS_cut hk, e]
    refine ⟨?_, fun _ => rfl⟩
    show Lo s (if cutE b o = 0 then { a with l := cutV a.l o.id o.r.cats } else a) (if cutE b o = 0 then { b with l := cutV b.l o.id o.r.cats } else b)
    split
    · rename_i he
      have hb1 := cutE_ok he
      have ha1 : cutErr a.l o.id o.r.cats = 0 := by rw [h.cut hc]; exact hb1
      refine ⟨h.up, h.rules, h.notes, ?_, ?_, ?_⟩
      · show storeErr (cutV a.l o.id o.r.cats) = 0
        rw [cutV_ok ha1]; exact cut_ok h.ea ha1
      · show storeErr (cutV b.l o.id o.r.cats) = 0
        rw [cutV_ok hb1]; exact cut_ok h.eb hb1
      · show seenL (cutV a.l o.id o.r.cats) s = seenL (cutV b.l o.id o.r.cats) s
        rw [cutV_ok ha1, cutV_ok hb1, seen_app, seen_app, h.seen]
    · exact h
  · rw [doS_look hk, doS_look hk]
    refine ⟨h, fun hm => ?_⟩
    have hm' : part (seesV a.up a.rules o.who) s = true := by
      rcases hm with hm | hm | hm
      · omega
      · omega
      · exact hm
    obtain ⟨e1, e2⟩ := h.mine hm'
    show lookT a o = lookT b o
    unfold lookT
    rw [e1, e2]
end Go.Proofs.WK
