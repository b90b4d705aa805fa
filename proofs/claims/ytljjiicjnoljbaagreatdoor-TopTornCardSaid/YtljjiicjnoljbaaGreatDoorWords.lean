/-
  log.words: a line's words, one by one (next, num).
-/
import Derived.Test.YtljjiicjnoljbaaGreatDoorAtoi
import Derived.Test.YtljjiicjnoljbaaGreatDoorChg
namespace Go.Proofs.WK
open Go.RowKit Rp
/-- The words that are left lie in the block at p; whether one was wrong. -/
def WdS (W : World) (p : Nat) (l : List ByteArray) (bad : Bool) : Prop := ∃ A c, Bk W p [.slice A l.length c, .bool bad] ∧ l.length ≤ c ∧ str.Row W (fun k => k < p) A l
def nextS (l : List ByteArray) : ByteArray := l.headD ⟨#[]⟩
theorem WdS.below {W W2 : World} {p : Nat} {l : List ByteArray} {bad : Bool} (h : WdS W p l bad) (hb : Below W.heap.size W W2) : WdS W2 p l bad := by
  obtain ⟨A, c, h1, h2, h3⟩ := h
  exact ⟨A, c, h1.below hb, h2, h3.below hb⟩
theorem WdS.other {W : World} {p : Nat} {l : List ByteArray} {bad : Bool} (h : WdS W p l bad) {m o : Nat} (hm : p < m) (u : Value) : WdS (W.setCell ⟨m, o, none⟩ u) p l bad := by
  obtain ⟨A, c, h1, h2, h3⟩ := h
  exact ⟨A, c, h1.other (by omega) u, h2, h3.move fun k hk _ => Below.heap_setCell _ _ _ k (by show k ≠ m; omega)⟩
theorem WdS.bad {W : World} {p : Nat} {l : List ByteArray} {bad : Bool} (h : WdS W p l bad) (b : Bool) : WdS (W.setCell ⟨p, 1, none⟩ (.bool b)) p l b := by
  obtain ⟨A, c, h1, h2, h3⟩ := h
  exact ⟨A, c, h1.set 1 _, h2, h3.move fun k hk _ => Below.heap_setCell _ _ _ k (by show k ≠ p; omega)⟩
set_option maxRecDepth 100000 in
theorem wordsNext (p : Nat) (l : List ByteArray) (bad : Bool) (w : World) (h : WdS w p l bad) :
    Calls Tryz.prog 182 #[.pointer (some ⟨p, 0, none⟩)] w fun e w' => e = .returned (.string (nextS l)) ∧ WdS w' p l.tail (bad || l.isEmpty) ∧ Chg (fun k => k = p) w w' := by
  obtain ⟨A, c, hb, hc, hr⟩ := h
  have q := hb.two
  have HB := Aside.mk hb
  have HR := Aside.mk hr
  cases l with
  | nil =>
    clear hb hr
    go_enter Tryz.func182, Tryz.ntmps182
    go_wp2_with fail
    go_ret
    exact ⟨rfl, ⟨A, c, by have h := HB.out.set 1 (.bool true); simpa using h, hc, Row.nil⟩, chg_set _ _ _ _ _ rfl⟩
  | cons a l =>
    obtain ⟨ad, rfl, had, x0⟩ := str_at hr (show 0 < (a :: l).length by simp)
    have x1 : w.cell? ad = some (.string a) := by
      have : ad.add 0 = ad := by unfold Addr.add; simp
      rw [this] at x0
      exact x0
    rw [List.length_cons] at hc q
    have hd := hr.cut (n := 1) (by simp)
    simp [Addr.add, show str.sz = 1 from rfl] at hd
    have HD := Aside.mk hd
    clear hd
    have HE : Aside (∀ B, c = 1 → str.Row w (fun k => k < p) B l) := ⟨fun B e => hr.end_ (n := 1) hc e⟩
    clear hb hr x0
    go_enter Tryz.func182, Tryz.ntmps182
    go_wp2_with fail
    · go_ret
      rename_i h
      refine ⟨rfl, ⟨some ad, 0, ?_, by show l.length ≤ _; omega, (HE.out _ h).move fun k hk _ => Below.heap_setCell _ _ _ k (by show k ≠ p; omega)⟩, chg_set _ _ _ _ _ rfl⟩
      have h := HB.out.set 0 (.slice (some ad) l.length 0)
      simpa using h
    · go_ret
      refine ⟨rfl, ⟨_, c - 1, ?_, by show l.length ≤ _; omega, HD.out.move fun k hk _ => Below.heap_setCell _ _ _ k (by show k ≠ p; omega)⟩, chg_set _ _ _ _ _ rfl⟩
      have h := HB.out.set 0 (.slice (some ⟨ad.block, ad.off + 1, none⟩) l.length (c - 1))
      simpa using h
/-- What a word is as a number: where it is none, whatever Atoi has said. -/
def NumIs (s : ByteArray) (v : Int) : Prop := ∀ n, numV s = some n → v = n
/-- What the words' reading needs of the world ahead. -/
structure EnvC (w0 : World) : Prop where
  max : MaxCell w0
  pow : PowTab w0
  err : ErrCells w0
theorem EnvC.below {w w' : World} (h : EnvC w) (hb : Below w.heap.size w w') : EnvC w' := ⟨h.max.below hb, h.pow.below hb, h.err.below hb⟩
theorem chg_env {w0 w w1 : World} {p : Nat} (hb : Below w0.heap.size w0 w) (hp : w0.heap.size ≤ p) (hc : Chg (fun k => k = p) w w1) : Below w0.heap.size w0 w1 :=
  hb.trans (hc.below (fun k hk => by omega) hb.size)
theorem numV_empty : numV ⟨#[]⟩ = none := numV_bad rfl
theorem nextS_num {l : List ByteArray} : (l.isEmpty || (numV (nextS l)).isNone) = (numV (nextS l)).isNone := by
  cases l with
  | nil => show (true || _) = (numV ⟨#[]⟩).isNone; rw [numV_empty]; rfl
  | cons a l => rfl
theorem chg_then {w w1 w2 w3 : World} {p : Nat} (h : Chg (fun k => k = p) w w1) (hb : Below w1.heap.size w1 w2) : Chg (fun k => k = p) w w2 := h.step hb
theorem numIs_none {s : ByteArray} {v : Int} (h : numV s = none) : NumIs s v := by intro n e; rw [h] at e; cases e
theorem numIs_some {s : ByteArray} {v : Int} (h : numV s = some v) : NumIs s v := by intro n e; rw [h] at e; injection e
theorem numEnd {W : World} {p : Nat} {l : List ByteArray} {b0 b : Bool} (h : WdS W p l b0) (hb : b = true) : WdS (W.setCell ⟨p, 1, none⟩ (.bool true)) p l b := hb ▸ h.bad true
set_option maxRecDepth 100000 in
theorem wordsNum (p : Nat) (l : List ByteArray) (bad : Bool) (w w0 : World) (h : WdS w p l bad) (hs : ∀ x ∈ l, x.size < 4294967281) (he : EnvC w0) (hb0 : Below w0.heap.size w0 w) (hp : w0.heap.size ≤ p) :
    Calls Tryz.prog 183 #[.pointer (some ⟨p, 0, none⟩)] w fun e w' => ∃ v : Int, e = .returned (.int .i64 v) ∧ NumIs (nextS l) v ∧ WdS w' p l.tail (bad || (numV (nextS l)).isNone) ∧ Chg (fun k => k = p) w w' := by
  have HN := Aside.mk (wordsNext p l bad w h)
  have HZ : Aside ((nextS l).size < 4294967281) := ⟨by
    cases l with
    | nil => show (0 : Nat) < _; decide
    | cons a l => exact hs a (List.mem_cons_self ..)⟩
  have hX := nextS_num (l := l)
  have HE := Aside.mk he
  have HB := Aside.mk (And.intro hb0 hp)
  clear h hs he hb0 hp
  obtain ⟨s, hs⟩ : ∃ s, s = nextS l := ⟨_, rfl⟩
  rw [← hs] at HN HZ hX ⊢
  rw [← hX]
  have HX := Aside.mk hX
  clear hs hX
  go_enter Tryz.func183, Tryz.ntmps183
  go_wp2_with fail
  refine HN.out.mono ?_
  rintro e w1 ⟨rfl, hw, hc⟩
  have hx1 : EnvC w1 := HE.out.below (chg_env HB.out.1 HB.out.2 hc)
  have HW := Aside.mk (And.intro hw hc)
  have HE1 := Aside.mk hx1
  clear hw hc hx1
  go_wp2_with fail
  refine (atoiC s _ (Nat.le_of_lt (Nat.lt_of_lt_of_le HZ.out (by decide))) HE1.out.err).mono ?_
  rintro e w2 ⟨v, ev, rfl, hev, hb2⟩
  have HW2 := Aside.mk (And.intro (HW.out.1.below hb2) (HW.out.2.step hb2))
  have HE2 := Aside.mk (HE1.out.below hb2)
  clear hb2 HW HE1
  rcases hev with ⟨rfl, hv, hv0, hv1⟩ | ⟨⟨tt, pp, rfl⟩, hv⟩
  · by_cases h9 : 9 < s.size
    · have HV := Aside.mk (numV_long h9)
      have g9 : decide ((9 : Int) < (s.size : Int)) = true := decide_eq_true (by omega)
      obtain ⟨A, c, hbk, hln, hrw⟩ := HW2.out.1
      have q := hbk.two
      have HBK := Aside.mk (And.intro hbk (And.intro hln hrw))
      clear hbk hln hrw
      go_wp2_with fail
      go_ret
      exact ⟨v, rfl, numIs_none HV.out, numEnd HW2.out.1 (by rw [HX.out, HV.out]; simp), HW2.out.2.trans (S' := fun k => k = p) (chg_set _ _ _ _ _ rfl) fun _ _ h => h⟩
    · have hn := numV_ok hv (by omega)
      have g9 : decide ((9 : Int) < (s.size : Int)) = false := decide_eq_false (by omega)
      have HI := Aside.mk (itoaC v hv0 hv1 w2 HE2.out.pow)
      by_cases hb9 : decS v = s
      · rw [if_pos hb9] at hn
        have HV := Aside.mk hn
        have g1 : ((decS v).toList == s.toList) = true := by rw [toList_beq, decide_eq_true hb9]
        have g2 : ((decS v).toList != s.toList) = false := by rw [bne, g1]; rfl
        clear hb9 hn hv h9
        go_wp2_with fail
        refine HI.out.mono ?_
        rintro e w3 ⟨rfl, hb3⟩
        have HW3 := Aside.mk (And.intro (HW2.out.1.below hb3) (HW2.out.2.step hb3))
        clear hb3
        go_wp2_with fail
        go_ret
        refine ⟨v, rfl, numIs_some HV.out, ?_, HW3.out.2⟩
        have h := HW3.out.1
        have hx := HX.out
        rw [HV.out] at hx ⊢
        rw [hx]
        simp only [Option.isNone_some, Bool.or_false] at hx ⊢
        rw [hx, Bool.or_false] at h
        exact h
      · rw [if_neg hb9] at hn
        have HV := Aside.mk hn
        have g1 : ((decS v).toList == s.toList) = false := by rw [toList_beq, decide_eq_false hb9]
        have g2 : ((decS v).toList != s.toList) = true := by rw [bne, g1]; rfl
        clear hb9 hn hv h9
        go_wp2_with fail
        refine HI.out.mono ?_
        rintro e w3 ⟨rfl, hb3⟩
        have HW3 := Aside.mk (And.intro (HW2.out.1.below hb3) (HW2.out.2.step hb3))
        clear hb3
        obtain ⟨A, c, hbk, hln, hrw⟩ := HW3.out.1
        have q := hbk.two
        clear hbk hln hrw
        go_wp2_with fail
        go_ret
        exact ⟨v, rfl, numIs_none HV.out, numEnd HW3.out.1 (by rw [HX.out, HV.out]; simp), HW3.out.2.trans (S' := fun k => k = p) (chg_set _ _ _ _ _ rfl) fun _ _ h => h⟩
  · have HV := Aside.mk hv
    obtain ⟨A, c, hbk, hln, hrw⟩ := HW2.out.1
    have q := hbk.two
    clear hbk hln hrw hv
    go_wp2_with fail
    go_ret
    exact ⟨v, rfl, numIs_none HV.out, numEnd HW2.out.1 (by rw [HX.out, HV.out]; simp), HW2.out.2.trans (S' := fun k => k = p) (chg_set _ _ _ _ _ rfl) fun _ _ h => h⟩
end Go.Proofs.WK
