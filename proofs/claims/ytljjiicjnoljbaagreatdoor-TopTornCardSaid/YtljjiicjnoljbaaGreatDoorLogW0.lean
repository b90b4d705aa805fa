/-
  log.Check, wyref.Logged (P44).
  log.nums, log.plain, log.Write (P46).
  log.Write (P46).
-/
import Derived.Test.YtljjiicjnoljbaaGreatDoorLog0
import Derived.Test.YtljjiicjnoljbaaGreatDoorRec0
import Derived.Test.YtljjiicjnoljbaaGreatDoorRef0
namespace Go.Proofs.WK
open Go.RowKit Rp
theorem opC_rec {w : World} {n : Nat} {o : OpV} {B1 B2 B3 : Option Addr} {e1 e2 e3 : Nat} (h : Bk w n (opC o B1 e1 B2 e2 B3 e3)) :
    n < w.heap.size ∧ w.cell? ⟨n, 0, none⟩ = some (.int .i64 o.kind) ∧ w.cell? ⟨n, 1, none⟩ = some (.int .i64 o.who.role) ∧ w.cell? ⟨n, 2, none⟩ = some (.int .i64 o.who.why) ∧ w.cell? ⟨n, 3, none⟩ = some (.int .i64 o.who.time) ∧
    w.cell? ⟨n, 4, none⟩ = some (.slice B1 o.rules.length e1) ∧ w.cell? ⟨n, 5, none⟩ = some (.string o.r.id) ∧ w.cell? ⟨n, 6, none⟩ = some (.int .i64 o.r.cats) ∧ w.cell? ⟨n, 7, none⟩ = some (.slice B2 o.r.fields.length e2) ∧
    w.cell? ⟨n, 8, none⟩ = some (.slice B3 o.r.refs.length e3) ∧ w.cell? ⟨n, 9, none⟩ = some (.string o.id) ∧ w.cell? ⟨n, 10, none⟩ = some (.string o.f.key) ∧ w.cell? ⟨n, 11, none⟩ = some (.string o.f.val) ∧ ∀ x, w.frozen? ⟨n, x, none⟩ = false :=
  ⟨h.lt, h.cell 0, h.cell 1, h.cell 2, h.cell 3, h.cell 4, h.cell 5, h.cell 6, h.cell 7, h.cell 8, h.cell 9, h.cell 10, h.cell 11, h.frozen⟩
theorem log_ways (o : OpV) : (o.kind = 1 ∧ logErr o = rulesErr o.rules) ∨ ((o.kind = 2 ∧ whoOk o.who = false) ∧ logErr o = 1) ∨ ((o.kind = 2 ∧ whoOk o.who = true) ∧ logErr o = recErr o.r) ∨
    ((o.kind = 3 ∧ whoOk o.who = false) ∧ logErr o = 1) ∨ ((o.kind = 3 ∧ whoOk o.who = true ∧ decide (0 ≤ o.r.cats ∧ o.r.cats ≤ 255) = false) ∧ logErr o = 1) ∨
    ((o.kind = 3 ∧ whoOk o.who = true ∧ decide (0 ≤ o.r.cats ∧ o.r.cats ≤ 255) = true ∧ idOk o.id = false) ∧ logErr o = 3) ∨ ((o.kind = 3 ∧ whoOk o.who = true ∧ decide (0 ≤ o.r.cats ∧ o.r.cats ≤ 255) = true ∧ idOk o.id = true) ∧ logErr o = 0) ∨
    ((o.kind ≠ 1 ∧ o.kind ≠ 2 ∧ o.kind ≠ 3) ∧ logErr o = 3) := by
  unfold logErr
  by_cases h1 : o.kind = 1
  · exact .inl ⟨h1, if_pos h1⟩
  · rw [if_neg h1]
    by_cases h2 : o.kind = 2
    · rw [if_pos h2]
      cases hw : whoOk o.who
      · exact .inr (.inl ⟨⟨h2, rfl⟩, by simp⟩)
      · exact .inr (.inr (.inl ⟨⟨h2, rfl⟩, by simp⟩))
    · rw [if_neg h2]
      by_cases h3 : o.kind = 3
      · rw [if_pos h3]
        cases hw : whoOk o.who
        · exact .inr (.inr (.inr (.inl ⟨⟨h3, rfl⟩, by simp⟩)))
        · by_cases hc : 0 ≤ o.r.cats ∧ o.r.cats ≤ 255
          · rw [if_pos ⟨rfl, hc⟩]
            cases hi : idOk o.id
            · exact .inr (.inr (.inr (.inr (.inr (.inl ⟨⟨h3, rfl, decide_eq_true hc, rfl⟩, by simp⟩)))))
            · exact .inr (.inr (.inr (.inr (.inr (.inr (.inl ⟨⟨h3, rfl, decide_eq_true hc, rfl⟩, by simp⟩))))))
          · rw [if_neg (fun h => hc h.2)]
            exact .inr (.inr (.inr (.inr (.inl ⟨⟨h3, rfl, decide_eq_false hc⟩, rfl⟩))))
      · rw [if_neg h3]
        exact .inr (.inr (.inr (.inr (.inr (.inr (.inr ⟨⟨h1, h2, h3⟩, rfl⟩))))))
set_option maxRecDepth 100000 in
set_option maxHeartbeats 4000000 in
theorem logCheck (o : OpV) (B1 B2 B3 : Option Addr) (e1 e2 e3 : Nat) (ok1 ok2 ok3 : Nat → Prop) (w : World) (hr : rulR.Row w ok1 B1 o.rules) (hf : fldR.Row w ok2 B2 o.r.fields) (hg : str.Row w ok3 B3 o.r.refs) (hwf : RecWf o.r) :
    Calls Tryz.prog 60 #[opVal o B1 e1 B2 e2 B3 e3] w fun e w' => e = .returned (.int .i64 (logErr o)) ∧ Below w.heap.size w w' := by
  have hal : Below w.heap.size w (w.alloc (.cells (opC o B1 e1 B2 e2 B3 e3).toArray 40)) := (Below.refl _ _).alloc (Nat.le_refl _) _
  have HQ := Aside.mk (Bk.made w (opC o B1 e1 B2 e2 B3 e3) 40)
  have HR := Aside.mk (hr.below hal)
  have HF := Aside.mk (hf.below hal)
  have HG := Aside.mk (hg.below hal)
  have HB := Aside.mk hal
  have HWF := Aside.mk hwf
  have hl := hr.1
  unfold opC opVal at *
  have q0 := opC_rec HQ.out
  clear hr hf hg hal hwf
  rcases log_ways o with ⟨hk, he⟩ | ⟨⟨hk, hw⟩, he⟩ | ⟨⟨hk, hw⟩, he⟩ | ⟨⟨hk, hw⟩, he⟩ | ⟨⟨hk, hw, hc⟩, he⟩ | ⟨⟨hk, hw, hc, hi⟩, he⟩ | ⟨⟨hk, hw, hc, hi⟩, he⟩ | ⟨⟨h1, h2, h3⟩, he⟩
  · rw [he]
    have k1 : (o.kind == 1) = true := by rw [hk]; rfl
    clear he hk
    go_enter Tryz.func60, Tryz.ntmps60
    go_wp2_with fail
    refine (ruleCheck B1 e1 o.rules ok1 _ HR.out hl).mono ?_
    rintro e w1 ⟨rfl, hb⟩
    have HB1 := Aside.mk (below_step HB.out hb)
    clear hb q0
    go_wp2_with fail
    go_ret
    exact ⟨rfl, HB1.out⟩
  · rw [he]
    have k1 : (o.kind == 1) = false := by rw [hk]; rfl
    have k2 : (o.kind == 2) = true := by rw [hk]; rfl
    clear he hk
    go_enter Tryz.func60, Tryz.ntmps60
    go_wp2_with fail
    refine (ruleWho o.who _).mono ?_
    rw [hw]
    rintro e w1 ⟨rfl, hb⟩
    have HB1 := Aside.mk (below_step HB.out hb)
    clear hb q0
    go_wp2_with fail
    go_ret
    exact ⟨rfl, HB1.out⟩
  · rw [he]
    have k1 : (o.kind == 1) = false := by rw [hk]; rfl
    have k2 : (o.kind == 2) = true := by rw [hk]; rfl
    clear he hk
    go_enter Tryz.func60, Tryz.ntmps60
    go_wp2_with fail
    refine (ruleWho o.who _).mono ?_
    rw [hw]
    rintro e w1 ⟨rfl, hb⟩
    have HB1 := Aside.mk (below_step HB.out hb)
    have HF1 := Aside.mk (HF.out.below hb)
    have HG1 := Aside.mk (HG.out.below hb)
    have q1 := opC_rec (HQ.out.below hb)
    clear hb q0
    go_wp2_with fail
    refine (recCheck o.r B2 B3 e2 e3 _ _ _ HF1.out HG1.out).mono ?_
    rintro e w2 ⟨rfl, hb⟩
    have HB2 := Aside.mk (below_step HB1.out hb)
    clear hb q1
    go_wp2_with fail
    go_ret
    exact ⟨rfl, HB2.out⟩
  · rw [he]
    have k1 : (o.kind == 1) = false := by rw [hk]; rfl
    have k2 : (o.kind == 2) = false := by rw [hk]; rfl
    have k3 : (o.kind == 3) = true := by rw [hk]; rfl
    clear he hk
    go_enter Tryz.func60, Tryz.ntmps60
    go_wp2_with fail
    refine (ruleWho o.who _).mono ?_
    rw [hw]
    rintro e w1 ⟨rfl, hb⟩
    have HB1 := Aside.mk (below_step HB.out hb)
    clear hb q0
    go_wp2_with fail
    go_ret
    exact ⟨rfl, HB1.out⟩
  · rw [he]
    have k1 : (o.kind == 1) = false := by rw [hk]; rfl
    have k2 : (o.kind == 2) = false := by rw [hk]; rfl
    have k3 : (o.kind == 3) = true := by rw [hk]; rfl
    clear he hk
    go_enter Tryz.func60, Tryz.ntmps60
    go_wp2_with fail
    refine (ruleWho o.who _).mono ?_
    rw [hw]
    rintro e w1 ⟨rfl, hb⟩
    have HB1 := Aside.mk (below_step HB.out hb)
    have q1 := opC_rec (HQ.out.below hb)
    clear hb q0
    go_wp2_with fail
    refine (labelCats o.r.cats _).mono ?_
    rw [hc]
    rintro e w2 ⟨rfl, rfl⟩
    go_wp2_with fail
    go_ret
    exact ⟨rfl, HB1.out⟩
  · rw [he]
    have k1 : (o.kind == 1) = false := by rw [hk]; rfl
    have k2 : (o.kind == 2) = false := by rw [hk]; rfl
    have k3 : (o.kind == 3) = true := by rw [hk]; rfl
    clear he hk
    go_enter Tryz.func60, Tryz.ntmps60
    go_wp2_with fail
    refine (ruleWho o.who _).mono ?_
    rw [hw]
    rintro e w1 ⟨rfl, hb⟩
    have HB1 := Aside.mk (below_step HB.out hb)
    have q1 := opC_rec (HQ.out.below hb)
    clear hb q0
    go_wp2_with fail
    refine (labelCats o.r.cats _).mono ?_
    rw [hc]
    rintro e w2 ⟨rfl, rfl⟩
    go_wp2_with fail
    refine (recId o.id _).mono ?_
    rw [hi]
    rintro e w3 ⟨rfl, hb⟩
    have HB2 := Aside.mk (hb ▸ HB1.out)
    clear hb q1
    go_wp2_with fail
    go_ret
    exact ⟨rfl, HB2.out⟩
  · rw [he]
    have k1 : (o.kind == 1) = false := by rw [hk]; rfl
    have k2 : (o.kind == 2) = false := by rw [hk]; rfl
    have k3 : (o.kind == 3) = true := by rw [hk]; rfl
    clear he hk
    go_enter Tryz.func60, Tryz.ntmps60
    go_wp2_with fail
    refine (ruleWho o.who _).mono ?_
    rw [hw]
    rintro e w1 ⟨rfl, hb⟩
    have HB1 := Aside.mk (below_step HB.out hb)
    have q1 := opC_rec (HQ.out.below hb)
    clear hb q0
    go_wp2_with fail
    refine (labelCats o.r.cats _).mono ?_
    rw [hc]
    rintro e w2 ⟨rfl, rfl⟩
    go_wp2_with fail
    refine (recId o.id _).mono ?_
    rw [hi]
    rintro e w3 ⟨rfl, hb⟩
    have HB2 := Aside.mk (hb ▸ HB1.out)
    clear hb q1
    go_wp2_with fail
    go_ret
    exact ⟨rfl, HB2.out⟩
  · have g1 : (o.kind == 1) = false := beq_eq_false_iff_ne.2 h1
    have g2 : (o.kind == 2) = false := beq_eq_false_iff_ne.2 h2
    have g3 : (o.kind == 3) = false := beq_eq_false_iff_ne.2 h3
    rw [he]
    clear he h1 h2 h3
    go_enter Tryz.func60, Tryz.ntmps60
    go_wp2_with fail
    go_ret
    exact ⟨rfl, HB.out⟩
set_option maxRecDepth 100000 in
set_option maxHeartbeats 4000000 in
theorem refLogged (o : OpV) (B1 B2 B3 : Option Addr) (e1 e2 e3 : Nat) (ok1 ok2 ok3 : Nat → Prop) (w : World) (hr : rulR.Row w ok1 B1 o.rules) (hf : fldR.Row w ok2 B2 o.r.fields) (hg : str.Row w ok3 B3 o.r.refs) (hwf : RecWf o.r) :
    Calls Tryz.prog 115 #[opVal o B1 e1 B2 e2 B3 e3] w fun e w' => e = .returned (.int .i64 (logErr o)) ∧ Below w.heap.size w w' := by
  have hal : Below w.heap.size w (w.alloc (.cells (opC o B1 e1 B2 e2 B3 e3).toArray 40)) := (Below.refl _ _).alloc (Nat.le_refl _) _
  have HQ := Aside.mk (Bk.made w (opC o B1 e1 B2 e2 B3 e3) 40)
  have HR := Aside.mk (hr.below hal)
  have HF := Aside.mk (hf.below hal)
  have HG := Aside.mk (hg.below hal)
  have HB := Aside.mk hal
  have HWF := Aside.mk hwf
  have hl := hr.1
  unfold opC opVal at *
  have q0 := opC_rec HQ.out
  clear hr hf hg hal hwf
  rcases log_ways o with ⟨hk, he⟩ | ⟨⟨hk, hw⟩, he⟩ | ⟨⟨hk, hw⟩, he⟩ | ⟨⟨hk, hw⟩, he⟩ | ⟨⟨hk, hw, hc⟩, he⟩ | ⟨⟨hk, hw, hc, hi⟩, he⟩ | ⟨⟨hk, hw, hc, hi⟩, he⟩ | ⟨⟨h1, h2, h3⟩, he⟩
  · rw [he]
    have k1 : (o.kind == 1) = true := by rw [hk]; rfl
    clear he hk
    go_enter Tryz.func115, Tryz.ntmps115
    go_wp2_with fail
    refine (refRules B1 e1 o.rules ok1 _ HR.out hl).mono ?_
    rintro e w1 ⟨rfl, hb⟩
    have HB1 := Aside.mk (below_step HB.out hb)
    clear hb q0
    go_wp2_with fail
    go_ret
    exact ⟨rfl, HB1.out⟩
  · rw [he]
    have k1 : (o.kind == 1) = false := by rw [hk]; rfl
    have k2 : (o.kind == 2) = true := by rw [hk]; rfl
    clear he hk
    go_enter Tryz.func115, Tryz.ntmps115
    go_wp2_with fail
    refine (refWho o.who _).mono ?_
    rw [hw]
    rintro e w1 ⟨rfl, hb⟩
    have HB1 := Aside.mk (below_step HB.out hb)
    clear hb q0
    go_wp2_with fail
    go_ret
    exact ⟨rfl, HB1.out⟩
  · rw [he]
    have k1 : (o.kind == 1) = false := by rw [hk]; rfl
    have k2 : (o.kind == 2) = true := by rw [hk]; rfl
    clear he hk
    go_enter Tryz.func115, Tryz.ntmps115
    go_wp2_with fail
    refine (refWho o.who _).mono ?_
    rw [hw]
    rintro e w1 ⟨rfl, hb⟩
    have HB1 := Aside.mk (below_step HB.out hb)
    have HF1 := Aside.mk (HF.out.below hb)
    have HG1 := Aside.mk (HG.out.below hb)
    have q1 := opC_rec (HQ.out.below hb)
    clear hb q0
    go_wp2_with fail
    refine (refRecord o.r B2 B3 e2 e3 _ _ HWF.out _ HF1.out HG1.out).mono ?_
    rintro e w2 ⟨rfl, hb⟩
    have HB2 := Aside.mk (below_step HB1.out hb)
    clear hb q1
    go_wp2_with fail
    go_ret
    exact ⟨rfl, HB2.out⟩
  · rw [he]
    have k1 : (o.kind == 1) = false := by rw [hk]; rfl
    have k2 : (o.kind == 2) = false := by rw [hk]; rfl
    have k3 : (o.kind == 3) = true := by rw [hk]; rfl
    clear he hk
    go_enter Tryz.func115, Tryz.ntmps115
    go_wp2_with fail
    refine (refWho o.who _).mono ?_
    rw [hw]
    rintro e w1 ⟨rfl, hb⟩
    have HB1 := Aside.mk (below_step HB.out hb)
    clear hb q0
    go_wp2_with fail
    go_ret
    exact ⟨rfl, HB1.out⟩
  · rw [he]
    have k1 : (o.kind == 1) = false := by rw [hk]; rfl
    have k2 : (o.kind == 2) = false := by rw [hk]; rfl
    have k3 : (o.kind == 3) = true := by rw [hk]; rfl
    clear he hk
    go_enter Tryz.func115, Tryz.ntmps115
    go_wp2_with fail
    refine (refWho o.who _).mono ?_
    rw [hw]
    rintro e w1 ⟨rfl, hb⟩
    have HB1 := Aside.mk (below_step HB.out hb)
    have q1 := opC_rec (HQ.out.below hb)
    clear hb q0
    go_wp2_with fail
    refine (refCats o.r.cats _).mono ?_
    rw [hc]
    rintro e w2 ⟨rfl, rfl⟩
    go_wp2_with fail
    go_ret
    exact ⟨rfl, HB1.out⟩
  · rw [he]
    have k1 : (o.kind == 1) = false := by rw [hk]; rfl
    have k2 : (o.kind == 2) = false := by rw [hk]; rfl
    have k3 : (o.kind == 3) = true := by rw [hk]; rfl
    clear he hk
    go_enter Tryz.func115, Tryz.ntmps115
    go_wp2_with fail
    refine (refWho o.who _).mono ?_
    rw [hw]
    rintro e w1 ⟨rfl, hb⟩
    have HB1 := Aside.mk (below_step HB.out hb)
    have q1 := opC_rec (HQ.out.below hb)
    clear hb q0
    go_wp2_with fail
    refine (refCats o.r.cats _).mono ?_
    rw [hc]
    rintro e w2 ⟨rfl, rfl⟩
    go_wp2_with fail
    refine (refId o.id _).mono ?_
    rw [hi]
    rintro e w3 ⟨rfl, hb⟩
    have HB2 := Aside.mk (below_step HB1.out hb)
    clear hb q1
    go_wp2_with fail
    go_ret
    exact ⟨rfl, HB2.out⟩
  · rw [he]
    have k1 : (o.kind == 1) = false := by rw [hk]; rfl
    have k2 : (o.kind == 2) = false := by rw [hk]; rfl
    have k3 : (o.kind == 3) = true := by rw [hk]; rfl
    clear he hk
    go_enter Tryz.func115, Tryz.ntmps115
    go_wp2_with fail
    refine (refWho o.who _).mono ?_
    rw [hw]
    rintro e w1 ⟨rfl, hb⟩
    have HB1 := Aside.mk (below_step HB.out hb)
    have q1 := opC_rec (HQ.out.below hb)
    clear hb q0
    go_wp2_with fail
    refine (refCats o.r.cats _).mono ?_
    rw [hc]
    rintro e w2 ⟨rfl, rfl⟩
    go_wp2_with fail
    refine (refId o.id _).mono ?_
    rw [hi]
    rintro e w3 ⟨rfl, hb⟩
    have HB2 := Aside.mk (below_step HB1.out hb)
    clear hb q1
    go_wp2_with fail
    go_ret
    exact ⟨rfl, HB2.out⟩
  · have g1 : (o.kind == 1) = false := beq_eq_false_iff_ne.2 h1
    have g2 : (o.kind == 2) = false := beq_eq_false_iff_ne.2 h2
    have g3 : (o.kind == 3) = false := beq_eq_false_iff_ne.2 h3
    rw [he]
    clear he h1 h2 h3
    go_enter Tryz.func115, Tryz.ntmps115
    go_wp2_with fail
    go_ret
    exact ⟨rfl, HB.out⟩
end Go.Proofs.WK
namespace Go.Proofs.WK
open Go.RowKit Rp
def NumsOk (l : List Int) : Prop := ∀ n ∈ l, -9223372036854775808 ≤ n ∧ n ≤ 9223372036854775807
set_option maxRecDepth 100000 in
theorem logNums (A : Option Addr) (c : Nat) (l : List Int) (ok : Nat → Prop) (w : World) (hr : int.Row w ok A l) (hl : l.length ≤ 5) (ho : NumsOk l) (ht : PowTab w) :
    Calls Tryz.prog 142 #[.slice A l.length c] w fun e w' => e = .returned (.string (bs (numsL l))) ∧ Below w.heap.size w w' := by
  have HR := Aside.mk hr
  have HO := Aside.mk ho
  have HT := Aside.mk ht
  clear hr ho ht
  go_enter Tryz.func142, Tryz.ntmps142
  go_wp2_with fail
  go_loopw [3, 8] (fun x i wr => ∃ (k : Nat) (L : ByteArray), k ≤ l.length ∧ i = .int .i64 k ∧ x = .string L ∧ Aside (L = bs (numsL (l.take k))) ∧ L.size ≤ 22 * k ∧ Aside (Below w.heap.size w wr)) (fun _ i _ => l.length - (intOf i).toNat)
  case atStart => exact ⟨0, _, Nat.zero_le _, rfl, rfl, ⟨rfl⟩, Nat.zero_le _, ⟨Below.refl _ _⟩⟩
  case round =>
    obtain ⟨k, L, hk, rfl, rfl, HL, hz, HB⟩ := hrel
    by_cases hlt : k < l.length
    · obtain ⟨ad, u, rfl, _, _, hK, x0⟩ := (HR.out.below HB.out).at1 rfl hlt
      obtain rfl : u = .int .i64 l[k] := by simpa [int, scalar] using hK
      have HM := Aside.mk (HO.out _ (List.getElem_mem hlt))
      have hds := decS_len HM.out.1 HM.out.2
      have HX := Aside.mk (show bs (numsL (l.take (k + 1))) = bs (numsL (l.take k)) ++ (⟨#[32]⟩ ++ decS l[k]) by
        rw [List.take_succ_eq_append_getElem hlt, numsL_snoc]
        apply toL_inj
        simp only [app_data, bs_data, decS]
        simp)
      go_wp2_with fail
      refine (itoaC l[k] HM.out.1 HM.out.2 _ (HT.out.below HB.out)).mono ?_
      rintro e w1 ⟨rfl, hb⟩
      have HB1 := Aside.mk (below_step HB.out hb)
      clear hb hK
      generalize decS l[k] = ds at *
      have e1 : (⟨#[32]⟩ : ByteArray).size = 1 := rfl
      go_wp2_with fail
      exact ⟨⟨k + 1, _, by omega, by go_num, rfl, ⟨by rw [HX.out, HL.out]⟩, by simp only [app_size, e1]; omega, HB1⟩, by simp [intOf]; omega⟩
    · obtain rfl : k = l.length := by omega
      rw [List.take_length] at HL
      go_wp2_with fail
      go_ret
      exact ⟨by rw [HL.out]; rfl, HB.out⟩
theorem row_ints (w : World) (l : List Int) (hl : l.length ≤ 9223372036854775807) : int.Row (w.alloc (.cells (l.map (Value.int .i64)).toArray 3)) (fun _ => True) (some ⟨w.heap.size, 0, none⟩) l :=
  (Own.lit int 3 w 0 (fun _ => False) (Nat.zero_le _) (reps_int w _ l) hl).row.2.2.mono fun _ _ _ => trivial
theorem logNumsN (A : Option Addr) (c n : Nat) (l : List Int) (ok : Nat → Prop) (w : World) (hn : l.length = n) (hr : int.Row w ok A l) (hl : l.length ≤ 5) (ho : NumsOk l) (ht : PowTab w) :
    Calls Tryz.prog 142 #[.slice A n c] w fun e w' => e = .returned (.string (bs (numsL l))) ∧ Below w.heap.size w w' := by
  subst hn
  exact logNums A c l ok w hr hl ho ht
theorem row_one (w : World) (a : Int) : int.Row (w.alloc (.cells #[.int .i64 a] 3)) (fun _ => True) (some ⟨w.heap.size, 0, none⟩) [a] := row_ints w [a] (by simp)
theorem row_three (w : World) (a b c : Int) : int.Row (w.alloc (.cells #[.int .i64 a, .int .i64 b, .int .i64 c] 3)) (fun _ => True) (some ⟨w.heap.size, 0, none⟩) [a, b, c] := row_ints w [a, b, c] (by simp)
theorem row_five (w : World) (a b c d e : Int) : int.Row (w.alloc (.cells #[.int .i64 a, .int .i64 b, .int .i64 c, .int .i64 d, .int .i64 e] 3)) (fun _ => True) (some ⟨w.heap.size, 0, none⟩) [a, b, c, d, e] := row_ints w [a, b, c, d, e] (by simp)
theorem nums_size {l : List Int} (h : NumsOk l) : (bs (numsL l)).size ≤ 22 * l.length := by rw [bs_size]; exact nums_len l h
theorem rul_nums {r : Rul} (h : rulErr r = 0) : NumsOk (rulN r) := by
  unfold rulErr at h
  split at h
  · rename_i hb
    split at h
    · rename_i hft
      intro n hn
      simp only [rulN, List.mem_cons, List.not_mem_nil, or_false] at hn
      rcases hn with rfl | rfl | rfl | rfl | rfl <;> omega
    · cases h
  · cases h
theorem rules_of {l : List Rul} (h : rulesErr l = 0) : l.length ≤ 20 ∧ ∀ r ∈ l, rulErr r = 0 := by
  unfold rulesErr at h
  split at h
  · cases h
  · exact ⟨by omega, firstErr_none h⟩
/-- What logErr's 0 gives. -/
theorem log_ok {o : OpV} (h : logErr o = 0) : (o.kind = 1 ∧ rulesErr o.rules = 0) ∨ (o.kind = 2 ∧ recErr o.r = 0) ∨ (o.kind = 3 ∧ (0 ≤ o.r.cats ∧ o.r.cats ≤ 255) ∧ idOk o.id = true) := by
  rcases log_ways o with ⟨hk, he⟩ | ⟨⟨hk, hw⟩, he⟩ | ⟨⟨hk, hw⟩, he⟩ | ⟨⟨hk, hw⟩, he⟩ | ⟨⟨hk, hw, hc⟩, he⟩ | ⟨⟨hk, hw, hc, hi⟩, he⟩ | ⟨⟨hk, hw, hc, hi⟩, he⟩ | ⟨⟨h1, h2, h3⟩, he⟩
  · exact .inl ⟨hk, he ▸ h⟩
  · omega
  · exact .inr (.inl ⟨hk, he ▸ h⟩)
  · omega
  · omega
  · omega
  · exact .inr (.inr ⟨hk, of_decide_eq_true hc, hi⟩)
  · omega
theorem plS {w1 W : World} {n : Nat} {o : OpV} {B1 B2 B3 : Option Addr} {e1 e2 e3 : Nat} (h : Bk w1 n (opC o B1 e1 B2 e2 B3 e3)) (hb : Below w1.heap.size w1 W) : W.cell? ⟨n, 9, none⟩ = some (.string o.id) ∧ W.cell? ⟨n, 6, none⟩ = some (.int .i64 o.r.cats) ∧ Aside (Below w1.heap.size w1 W) :=
  ⟨(h.below hb).cell 9, (h.below hb).cell 6, ⟨hb⟩⟩
theorem row_drew {w : World} {A : Option Addr} {l : List Int} {ok : Nat → Prop} (h : int.Row w ok A l) : int.Row w.drew ok A l := h.below (Below.refl _ _).drew
def rulesK (l : List Rul) (k : Nat) : List UInt8 := [114, 117, 108, 101, 115] ++ ((l.take k).map rulL).flatten
theorem rulesK_step {l : List Rul} {k : Nat} (hk : k < l.length) : rulesK l (k + 1) = rulesK l k ++ rulL l[k] := by
  unfold rulesK
  rw [List.take_succ_eq_append_getElem hk, List.map_append, List.flatten_append, List.append_assoc, List.map_cons, List.map_nil, List.flatten_cons, List.flatten_nil, List.append_nil]
theorem recS_size (r : Rec) : (recS r).size ≤ 200 := by
  unfold recS
  split
  · rename_i h
    obtain ⟨i1, i2, i3, i4, i5, _, _⟩ := rec_ok h
    have hid := (idOk_size i1).2
    have hds := decS_len (n := r.cats) (by omega) (by omega)
    obtain ⟨hz1, hz2⟩ := word_sizes h
    have e : (⟨#[59]⟩ : ByteArray).size = 1 := rfl
    rw [← text_words]
    simp only [app_size, e]
    omega
  · exact Nat.zero_le _
set_option maxRecDepth 100000 in
set_option maxHeartbeats 4000000 in
theorem logPlain (o : OpV) (B1 B2 B3 : Option Addr) (e1 e2 e3 : Nat) (ok1 ok2 ok3 : Nat → Prop) (w : World) (hr : rulR.Row w ok1 B1 o.rules) (hf : fldR.Row w ok2 B2 o.r.fields) (hg : str.Row w ok3 B3 o.r.refs) (hc3 : o.r.refs.length ≤ e3) (hwho : NumsOk (whoN o)) (he : logErr o = 0) (ht : PowTab w) :
    Calls Tryz.prog 61 #[opVal o B1 e1 B2 e2 B3 e3] w fun e w' => e = .returned (.string (plainS o)) ∧ Below w.heap.size w w' := by
  have hal : Below w.heap.size w (w.alloc (.cells (opC o B1 e1 B2 e2 B3 e3).toArray 40)) := (Below.refl _ _).alloc (Nat.le_refl _) _
  have HX := Aside.mk (show Bk _ w.heap.size (opC o B1 e1 B2 e2 B3 e3) ∧ rulR.Row _ ok1 B1 o.rules ∧ fldR.Row _ ok2 B2 o.r.fields ∧ str.Row _ ok3 B3 o.r.refs ∧ PowTab _ ∧ Below w.heap.size w _ from ⟨Bk.made w (opC o B1 e1 B2 e2 B3 e3) 40, hr.below hal, hf.below hal, hg.below hal, ht.below hal, hal⟩)
  have HC3 := Aside.mk hc3
  have HWH := Aside.mk hwho
  have HE := Aside.mk he
  clear hr hf hg hal hc3 hwho he ht
  unfold opVal
  go_enter Tryz.func61, Tryz.ntmps61
  go_upto_region 1 with fail
  generalize hw0 : w.alloc (.cells #[.int .i64 o.kind, .int .i64 o.who.role, .int .i64 o.who.why, .int .i64 o.who.time, .slice B1 o.rules.length e1, .string o.r.id, .int .i64 o.r.cats, .slice B2 o.r.fields.length e2, .slice B3 o.r.refs.length e3, .string o.id, .string o.f.key, .string o.f.val] 40) = w0
  have hx0 : Bk w0 w.heap.size (opC o B1 e1 B2 e2 B3 e3) ∧ rulR.Row w0 ok1 B1 o.rules ∧ fldR.Row w0 ok2 B2 o.r.fields ∧ str.Row w0 ok3 B3 o.r.refs ∧ PowTab w0 ∧ Below w.heap.size w w0 := by
    rw [← hw0]
    exact HX.out
  have HX := Aside.mk hx0
  clear hw0 hx0
  have q0 := opC_rec HX.out.1
  go_wp2_with fail
  have hb := (Below.refl w0.heap.size w0).alloc (Nat.le_refl _) (.cells #[.int .i64 o.who.role, .int .i64 o.who.why, .int .i64 o.who.time] 3)
  refine (logNumsN _ _ _ [o.who.role, o.who.why, o.who.time] _ _ rfl (row_three w0 _ _ _) (by simp) HWH.out (HX.out.2.2.2.2.1.below hb)).mono ?_
  rintro e w1 ⟨rfl, hb1⟩
  have hb2 := below_step hb hb1
  have HX1 := Aside.mk (show Bk w1 w.heap.size (opC o B1 e1 B2 e2 B3 e3) ∧ rulR.Row w1 ok1 B1 o.rules ∧ fldR.Row w1 ok2 B2 o.r.fields ∧ str.Row w1 ok3 B3 o.r.refs ∧ PowTab w1 ∧ Below w.heap.size w w1 from ⟨HX.out.1.below hb2, HX.out.2.1.below hb2, HX.out.2.2.1.below hb2, HX.out.2.2.2.1.below hb2, HX.out.2.2.2.2.1.below hb2, below_step HX.out.2.2.2.2.2 hb2⟩)
  have hz := nums_size HWH.out
  change (bs (numsL [o.who.role, o.who.why, o.who.time])).size ≤ 66 at hz
  clear HX hb hb1 hb2 q0
  have q1 := opC_rec HX1.out.1
  obtain ⟨L, hL⟩ : ∃ L, L = bs (numsL [o.who.role, o.who.why, o.who.time]) := ⟨_, rfl⟩
  rw [← hL] at hz ⊢
  have HL := Aside.mk hL
  clear hL
  go_upto_region 2 with fail
  rcases log_ok HE.out with ⟨hk, hrr⟩ | ⟨hk, hrr⟩ | ⟨hk, hc, hi⟩
  · have k2 : (o.kind == 2) = false := by rw [hk]; rfl
    have k3 : (o.kind == 3) = false := by rw [hk]; rfl
    obtain ⟨hrl, hro⟩ := rules_of hrr
    have HRO := Aside.mk hro
    have HP := Aside.mk (show plainS o = bs (rulesK o.rules o.rules.length) by
      unfold plainS plainL rulesK
      rw [if_neg (by omega), if_neg (by omega), List.take_length])
    clear hk hrr hro
    go_wp2_with fail
    go_loopw [6, 52] (fun x i wr => ∃ (k : Nat) (M : ByteArray), k ≤ o.rules.length ∧ i = .int .i64 k ∧ x = .string M ∧ Aside (M = bs (rulesK o.rules k)) ∧ M.size ≤ 5 + 114 * k ∧ Aside (Below w1.heap.size w1 wr)) (fun _ i _ => o.rules.length - (intOf i).toNat)
    case atStart => exact ⟨0, _, Nat.zero_le _, rfl, rfl, ⟨rfl⟩, (by decide), ⟨Below.refl _ _⟩⟩
    case round =>
      clear q1
      obtain ⟨k, M, hk, rfl, rfl, HM, hmz, HB⟩ := hrel
      have q1 := opC_rec (HX1.out.1.below HB.out)
      by_cases hlt : k < o.rules.length
      · obtain ⟨ad, rfl, _, x0, x1, x2, x3, x4, x5⟩ := rul_at (HX1.out.2.1.below HB.out) hlt
        have HN := Aside.mk (rul_nums (HRO.out _ (List.getElem_mem hlt)))
        have HK := Aside.mk (rulesK_step hlt)
        have hbx := (Below.refl wr.heap.size wr).alloc (Nat.le_refl _) (.cells #[.int .i64 o.rules[k].role, .int .i64 o.rules[k].why, .int .i64 o.rules[k].frm, .int .i64 o.rules[k].til, .int .i64 o.rules[k].cats, .bool o.rules[k].allow] 89)
        have HBK := Aside.mk (Bk.made wr [.int .i64 o.rules[k].role, .int .i64 o.rules[k].why, .int .i64 o.rules[k].frm, .int .i64 o.rules[k].til, .int .i64 o.rules[k].cats, .bool o.rules[k].allow] 89)
        have HBX := Aside.mk hbx
        clear hbx
        generalize o.rules[k] = r at *
        have hr5 := row_five (wr.alloc (.cells #[.int .i64 r.role, .int .i64 r.why, .int .i64 r.frm, .int .i64 r.til, .int .i64 r.cats, .bool r.allow] 89)) r.role r.why r.frm r.til r.cats
        rw [show (wr.alloc (.cells #[.int .i64 r.role, .int .i64 r.why, .int .i64 r.frm, .int .i64 r.til, .int .i64 r.cats, .bool r.allow] 89)).heap.size = wr.heap.size + 1 by simp] at hr5
        have HR5 := Aside.mk hr5
        have hb3 := below_step HBX.out ((Below.refl _ _).alloc (Nat.le_refl _) (.cells #[.int .i64 r.role, .int .i64 r.why, .int .i64 r.frm, .int .i64 r.til, .int .i64 r.cats] 3))
        have HB3 := Aside.mk hb3
        have HK3 := Aside.mk (HBK.out.below ((Below.refl _ _).alloc (Nat.le_refl _) (.cells #[.int .i64 r.role, .int .i64 r.why, .int .i64 r.frm, .int .i64 r.til, .int .i64 r.cats] 3)))
        have hz2 := nums_size HN.out
        change (bs (numsL [r.role, r.why, r.frm, r.til, r.cats])).size ≤ 110 at hz2
        clear hr5 hb3
        go_wp2_with fail
        refine (logNumsN _ _ 5 [r.role, r.why, r.frm, r.til, r.cats] _ _ rfl HR5.out (Nat.le_refl _) HN.out (HX1.out.2.2.2.2.1.below (below_step HB.out HB3.out))).mono ?_
        rintro e w2 ⟨rfl, hb⟩
        have HB2 := Aside.mk (below_step HB.out (below_step HB3.out hb))
        have q2 := (HK3.out.below hb).cell 5
        simp only [List.getElem?_cons_succ, List.getElem?_cons_zero] at q2
        obtain ⟨L2, hL2⟩ : ∃ L2, L2 = bs (numsL [r.role, r.why, r.frm, r.til, r.cats]) := ⟨_, rfl⟩
        rw [← hL2] at hz2 ⊢
        have hst : bs (rulesK o.rules (k + 1)) = M ++ L2 ++ (if r.allow = true then ⟨#[32, 121, 101, 115]⟩ else ⟨#[32, 110, 111]⟩) := by
          rw [HK.out, HM.out, hL2]
          apply toL_inj
          simp only [app_data, bs_data, rulL, rulN]
          cases r.allow <;> simp
        have HST := Aside.mk hst
        clear hb hst hL2 q1 x0 x1 x2 x3 x4 x5
        have e4 : (⟨#[32, 121, 101, 115]⟩ : ByteArray).size = 4 := rfl
        have e3' : (⟨#[32, 110, 111]⟩ : ByteArray).size = 3 := rfl
        cases hal : r.allow with
        | true =>
          rw [hal] at q2 HST
          go_wp2_with fail
          exact ⟨⟨k + 1, _, by omega, by go_num, rfl, ⟨by rw [HST.out]; rfl⟩, by simp only [app_size, e4]; omega, HB2⟩, by simp [intOf]; omega⟩
        | false =>
          rw [hal] at q2 HST
          go_wp2_with fail
          exact ⟨⟨k + 1, _, by omega, by go_num, rfl, ⟨by rw [HST.out]; rfl⟩, by simp only [app_size, e3']; omega, HB2⟩, by simp [intOf]; omega⟩
      · obtain rfl : k = o.rules.length := by omega
        go_wp2_with fail
        go_ret
        exact ⟨by rw [HP.out, HM.out]; rfl, below_step HX1.out.2.2.2.2.2 HB.out⟩
  · have k2 : (o.kind == 2) = true := by rw [hk]; rfl
    have HP := Aside.mk (show plainS o = ⟨#[112, 117, 116]⟩ ++ L ++ ⟨#[32]⟩ ++ recS o.r by
      rw [HL.out]
      apply toL_inj
      simp only [app_data, bs_data]
      unfold plainS plainL
      rw [if_pos hk, bs_data]
      simp [whoN])
    have hz2 := recS_size o.r
    clear hk hrr
    go_wp2_with fail
    refine (recWriteS o.r B2 B3 e2 e3 ok2 ok3 _ HX1.out.2.2.1 HX1.out.2.2.2.1 HC3.out HX1.out.2.2.2.2.1).mono ?_
    rintro e w2 ⟨rfl, hb⟩
    have HB2 := Aside.mk (below_step HX1.out.2.2.2.2.2 hb)
    clear hb q1
    go_wp2_with fail
    go_ret
    exact ⟨by rw [HP.out]; rfl, HB2.out⟩
  · have k2 : (o.kind == 2) = false := by rw [hk]; rfl
    have k3 : (o.kind == 3) = true := by rw [hk]; rfl
    have hco : NumsOk [o.r.cats] := fun n hn => by
      rw [List.mem_singleton] at hn
      subst hn
      omega
    have HCO := Aside.mk hco
    have hz2 := nums_size hco
    change (bs (numsL [o.r.cats])).size ≤ 22 at hz2
    have hz3 := (idOk_size hi).2
    obtain ⟨L2, hL2⟩ : ∃ L2, L2 = bs (numsL [o.r.cats]) := ⟨_, rfl⟩
    have HP := Aside.mk (show plainS o = ⟨#[99, 117, 116]⟩ ++ L ++ ⟨#[32]⟩ ++ o.id ++ L2 by
      rw [HL.out, hL2]
      apply toL_inj
      simp only [app_data, bs_data]
      unfold plainS plainL
      rw [if_neg (by omega), if_pos hk, bs_data]
      simp [whoN])
    rw [← hL2] at hz2
    have HL2 := Aside.mk hL2.symm
    have z1 : (9223372036854775807 < 3 + L.size) = False := eq_false (by omega)
    have z2 : (9223372036854775807 < 3 + L.size + 1) = False := eq_false (by omega)
    have z3 : (9223372036854775807 < 3 + L.size + 1 + o.id.size) = False := eq_false (by omega)
    have z4 : (9223372036854775807 < 3 + L.size + 1 + o.id.size + L2.size) = False := eq_false (by omega)
    have hbA : Below w1.heap.size w1 (w1.alloc (.cells #[.int .i64 o.r.cats] 3)).drew := ((Below.refl _ _).alloc (Nat.le_refl _) _).drew
    have HRO := Aside.mk (row_one w1 o.r.cats)
    have hle1 : [o.r.cats].length = 1 := rfl
    have hle5 : [o.r.cats].length ≤ 5 := (by decide : 1 ≤ 5)
    clear hk hc hi hco hL2
    go_upto_region 7 with fail
    go_region_held3 (fun w' => w'.cell? ⟨w.heap.size, 9, none⟩ = some (.string o.id) ∧ w'.cell? ⟨w.heap.size, 6, none⟩ = some (.int .i64 o.r.cats) ∧ Aside (Below w1.heap.size w1 w'))
      (first
       | with_reducible exact plS HX1.out.1 (Below.refl w1.heap.size w1).drew
       | assumption
       | with_reducible exact plS HX1.out.1 hbA)
      (first
       | (go_at_call 142
          with_reducible refine (logNumsN _ _ 1 [o.r.cats] _ (w1.alloc (.cells #[.int .i64 o.r.cats] 3)).drew hle1 (row_drew HRO.out) hle5 HCO.out (HX1.out.2.2.2.2.1.below hbA)).mono ?_
          rw [HL2.out]
          rintro e w2 ⟨rfl, hb⟩
          have hx := plS HX1.out.1 (below_step hbA hb)
          clear hb))
    all_goals
      go_wp2
      go_ret
      exact ⟨by rw [HP.out]; rfl, below_step HX1.out.2.2.2.2.2 hx.2.2.out⟩
end Go.Proofs.WK
namespace Go.Proofs.WK
open Go.RowKit Rp
theorem rulesK_len {l : List Rul} (h : ∀ r ∈ l, rulErr r = 0) : ∀ k, k ≤ l.length → (rulesK l k).length ≤ 5 + 114 * k
  | 0, _ => by simp [rulesK]
  | k + 1, hk => by
    have h1 := rulesK_len h k (by omega)
    rw [rulesK_step (by omega), List.length_append]
    have h2 := nums_len _ (rul_nums (h l[k] (List.getElem_mem (by omega))))
    have h3 : (rulN l[k]).length = 5 := rfl
    have h4 : (rulL l[k]).length ≤ 114 := by
      unfold rulL
      rw [List.length_append]
      split
      · simp only [List.length_cons, List.length_nil]; omega
      · simp only [List.length_cons, List.length_nil]; omega
    omega
theorem plain_size {o : OpV} (h : logErr o = 0) (hw : NumsOk (whoN o)) : (plainS o).size ≤ 2285 := by
  have h1 := nums_len _ hw
  have h2 : (whoN o).length = 3 := rfl
  have h3 := recS_size o.r
  have e3 : (recS o.r).data.toList.length = (recS o.r).size := Array.length_toList
  have e4 : o.id.data.toList.length = o.id.size := Array.length_toList
  unfold plainS
  rw [bs_size]
  unfold plainL
  rcases log_ok h with ⟨hk, hr⟩ | ⟨hk, hr⟩ | ⟨hk, hc, hi⟩
  · rw [if_neg (by omega), if_neg (by omega)]
    obtain ⟨hl, hr⟩ := rules_of hr
    have := rulesK_len hr o.rules.length (Nat.le_refl _)
    unfold rulesK at this
    rw [List.take_length] at this
    omega
  · rw [if_pos hk]
    simp only [List.length_append, List.length_cons, List.length_nil]
    omega
  · rw [if_neg (by omega), if_pos hk]
    have h5 := (idOk_size hi).2
    have h6 := nums_len [o.r.cats] (fun n hn => by rw [List.mem_singleton] at hn; subst hn; omega)
    simp only [List.length_append, List.length_cons, List.length_nil] at h6 ⊢
    omega
theorem sumV_small (s : ByteArray) : 0 ≤ sumV s ∧ sumV s ≤ 65520 := by
  have : wsum s.data.toList s.size % 65521 < 65521 := Nat.mod_lt _ (by decide)
  unfold sumV
  omega
def logS (o : OpV) : ByteArray := if logErr o = 0 then lineS o else ⟨#[]⟩
set_option maxRecDepth 100000 in
set_option maxHeartbeats 4000000 in
theorem logWrite (o : OpV) (B1 B2 B3 : Option Addr) (e1 e2 e3 : Nat) (ok1 ok2 ok3 : Nat → Prop) (w : World) (hr : rulR.Row w ok1 B1 o.rules) (hf : fldR.Row w ok2 B2 o.r.fields) (hg : str.Row w ok3 B3 o.r.refs) (hwf : RecWf o.r) (hc3 : o.r.refs.length ≤ e3) (hwho : NumsOk (whoN o)) (ht : PowTab w) :
    Calls Tryz.prog 13 #[opVal o B1 e1 B2 e2 B3 e3] w fun e w' => e = .returned (.tuple #[.string (logS o), .int .i64 (logErr o)]) ∧ Below w.heap.size w w' := by
  have hal : Below w.heap.size w (w.alloc (.cells (opC o B1 e1 B2 e2 B3 e3).toArray 40)) := (Below.refl _ _).alloc (Nat.le_refl _) _
  have HX := Aside.mk (show Bk _ w.heap.size (opC o B1 e1 B2 e2 B3 e3) ∧ rulR.Row _ ok1 B1 o.rules ∧ fldR.Row _ ok2 B2 o.r.fields ∧ str.Row _ ok3 B3 o.r.refs ∧ PowTab _ ∧ Below w.heap.size w _ from ⟨Bk.made w (opC o B1 e1 B2 e2 B3 e3) 40, hr.below hal, hf.below hal, hg.below hal, ht.below hal, hal⟩)
  have HC3 := Aside.mk hc3
  have HWH := Aside.mk hwho
  have HWF := Aside.mk hwf
  have HC := Aside.mk (fun (W : World) (h1 : rulR.Row W ok1 B1 o.rules) (h2 : fldR.Row W ok2 B2 o.r.fields) (h3 : str.Row W ok3 B3 o.r.refs) => logCheck o B1 B2 B3 e1 e2 e3 ok1 ok2 ok3 W h1 h2 h3 hwf)
  have HPL := Aside.mk (fun (W : World) (h1 : rulR.Row W ok1 B1 o.rules) (h2 : fldR.Row W ok2 B2 o.r.fields) (h3 : str.Row W ok3 B3 o.r.refs) (he : logErr o = 0) (ht : PowTab W) => logPlain o B1 B2 B3 e1 e2 e3 ok1 ok2 ok3 W h1 h2 h3 hc3 hwho he ht)
  clear hr hf hg hal hc3 hwho ht hwf
  unfold opVal at *
  have hways : logErr o = 0 ∨ logErr o ≠ 0 := by omega
  go_enter Tryz.func13, Tryz.ntmps13
  go_upto_region 1 with fail
  generalize hw0 : w.alloc (.cells #[.int .i64 o.kind, .int .i64 o.who.role, .int .i64 o.who.why, .int .i64 o.who.time, .slice B1 o.rules.length e1, .string o.r.id, .int .i64 o.r.cats, .slice B2 o.r.fields.length e2, .slice B3 o.r.refs.length e3, .string o.id, .string o.f.key, .string o.f.val] 40) = w0
  have hx0 : Bk w0 w.heap.size (opC o B1 e1 B2 e2 B3 e3) ∧ rulR.Row w0 ok1 B1 o.rules ∧ fldR.Row w0 ok2 B2 o.r.fields ∧ str.Row w0 ok3 B3 o.r.refs ∧ PowTab w0 ∧ Below w.heap.size w w0 := by
    rw [← hw0]
    exact HX.out
  have HX := Aside.mk hx0
  clear hw0 hx0
  have q0 := opC_rec HX.out.1
  go_wp2_with fail
  refine (HC.out _ HX.out.2.1 HX.out.2.2.1 HX.out.2.2.2.1).mono ?_
  rintro e w1 ⟨rfl, hb⟩
  have HX1 := Aside.mk (show Bk w1 w.heap.size (opC o B1 e1 B2 e2 B3 e3) ∧ rulR.Row w1 ok1 B1 o.rules ∧ fldR.Row w1 ok2 B2 o.r.fields ∧ str.Row w1 ok3 B3 o.r.refs ∧ PowTab w1 ∧ Below w.heap.size w w1 from ⟨HX.out.1.below hb, HX.out.2.1.below hb, HX.out.2.2.1.below hb, HX.out.2.2.2.1.below hb, HX.out.2.2.2.2.1.below hb, below_step HX.out.2.2.2.2.2 hb⟩)
  clear hb q0 HX
  have q1 := opC_rec HX1.out.1
  rcases hways with h0 | h0
  · have HE := Aside.mk h0
    have HS := Aside.mk (show logS o = lineS o from if_pos h0)
    have hpz := plain_size h0 HWH.out
    rw [h0]
    clear h0
    go_wp2_with fail
    refine (HPL.out _ HX1.out.2.1 HX1.out.2.2.1 HX1.out.2.2.2.1 HE.out HX1.out.2.2.2.2.1).mono ?_
    rintro e w2 ⟨rfl, hb⟩
    have HB2 := Aside.mk (below_step HX1.out.2.2.2.2.2 hb)
    have HT2 := Aside.mk (HX1.out.2.2.2.2.1.below hb)
    clear hb q1
    have HLN := Aside.mk (show lineS o = plainS o ++ ⟨#[32, 61]⟩ ++ decS (sumV (plainS o)) ++ ⟨#[10]⟩ from rfl)
    generalize plainS o = p at *
    have HSM := Aside.mk (logSum p w2 (by omega))
    obtain ⟨hs0, hs1⟩ := sumV_small p
    have hds := decS_len (n := sumV p) (by omega) (by omega)
    have HIT := Aside.mk (itoaC (sumV p) (by omega) (by omega) w2 HT2.out)
    generalize sumV p = m at *
    generalize decS m = ds at *
    go_wp2_with fail
    refine HSM.out.mono ?_
    rintro e w3 ⟨rfl, rfl⟩
    go_wp2_with fail
    refine HIT.out.mono ?_
    rintro e w3 ⟨rfl, hb⟩
    have HB3 := Aside.mk (below_step HB2.out hb)
    clear hb
    go_wp2_with fail
    go_ret2
    exact ⟨by rw [HS.out, HLN.out, HE.out]; rfl, HB3.out⟩
  · have HS := Aside.mk (show logS o = ⟨#[]⟩ from if_neg h0)
    have g0 : (logErr o != 0) = true := by simp [h0]
    clear h0
    go_wp2_with fail
    go_ret2
    exact ⟨by rw [HS.out]; rfl, HX1.out.2.2.2.2.2⟩
end Go.Proofs.WK
