/-
  record.Get; slices.BinarySearchFunc over a record's fields.
-/
import Derived.Test.YtljjiicjnoljbaaDoorSetP
import Derived.Test.YtljjiicjnoljbaaDoorRec0
import Derived.Test.YtljjiicjnoljbaaDoorShCmp
namespace Go.Proofs.WK
open Go.RowKit Rp
theorem eqS_b' {a b : ByteArray} (h : a = b) : (a.toList == b.toList) = true := by rw [toList_beq, decide_eq_true h]
theorem eqS_f' {a b : ByteArray} (h : ¬ a = b) : (a.toList == b.toList) = false := by rw [toList_beq, decide_eq_false h]
/-- P17: the first of the first k fields of this key. -/
def keyEK (l : List Fld) (key : ByteArray) : Nat → Int
  | 0 => 4
  | k + 1 => if keyEK l key k = 0 then 0 else match l[k]? with
    | some g => if g.key = key then 0 else 4
    | none => 4
def keyVK (l : List Fld) (key : ByteArray) : Nat → ByteArray
  | 0 => ⟨#[]⟩
  | k + 1 => if keyEK l key k = 0 then keyVK l key k else match l[k]? with
    | some g => if g.key = key then g.val else ⟨#[]⟩
    | none => ⟨#[]⟩
def keyE (r : Rec) (key : ByteArray) : Int := if recErr r = 0 then keyEK r.fields key r.fields.length else recErr r
def keyV (r : Rec) (key : ByteArray) : ByteArray := if recErr r = 0 then keyVK r.fields key r.fields.length else ⟨#[]⟩
theorem keyK_more {l : List Fld} {key : ByteArray} {k : Nat} (h : keyEK l key k = 0) : ∀ n, k ≤ n → keyEK l key n = 0 ∧ keyVK l key n = keyVK l key k
  | 0, hn => by obtain rfl : k = 0 := by omega
                exact ⟨h, rfl⟩
  | n + 1, hn => by
    rcases Nat.lt_or_eq_of_le hn with h1 | rfl
    · obtain ⟨e1, e2⟩ := keyK_more h n (by omega)
      rw [keyEK, keyVK, if_pos e1, if_pos e1]
      exact ⟨rfl, e2⟩
    · exact ⟨h, rfl⟩
theorem keyK_hit {l : List Fld} {key : ByteArray} {k : Nat} (hk : k < l.length) (h : l[k].key = key) (h0 : keyEK l key k = 4 ∧ keyVK l key k = ⟨#[]⟩) : keyEK l key l.length = 0 ∧ keyVK l key l.length = l[k].val := by
  have e1 : keyEK l key (k + 1) = 0 := by
    rw [keyEK, if_neg (by omega), List.getElem?_eq_getElem hk]
    exact if_pos h
  have e2 : keyVK l key (k + 1) = l[k].val := by
    rw [keyVK, if_neg (by omega), List.getElem?_eq_getElem hk]
    exact if_pos h
  obtain ⟨a, b⟩ := keyK_more e1 l.length hk
  exact ⟨a, b.trans e2⟩
theorem keyK_miss {l : List Fld} {key : ByteArray} {k : Nat} (hk : k < l.length) (h : ¬ l[k].key = key) (h0 : keyEK l key k = 4 ∧ keyVK l key k = ⟨#[]⟩) : keyEK l key (k + 1) = 4 ∧ keyVK l key (k + 1) = ⟨#[]⟩ := by
  constructor
  · rw [keyEK, if_neg (by omega), List.getElem?_eq_getElem hk]
    exact if_neg h
  · rw [keyVK, if_neg (by omega), List.getElem?_eq_getElem hk]
    exact if_neg h
/-- strings.Compare. -/
def cmpV (a b : ByteArray) : Int := Lib.compareBytes a.data.toList b.data.toList
theorem cmp_list : ∀ a b : List UInt8, (Lib.compareBytes a b < 0 ↔ Op.bytesLess a b = true) ∧ (Lib.compareBytes a b = 0 ↔ a = b)
  | [], [] => by simp [Lib.compareBytes, Op.bytesLess]
  | [], _ :: _ => by simp [Lib.compareBytes, Op.bytesLess]
  | _ :: _, [] => by simp [Lib.compareBytes, Op.bytesLess]
  | a :: xs, b :: ys => by
    have ih := cmp_list xs ys
    rw [Lib.compareBytes, Op.bytesLess]
    by_cases h1 : a < b
    · rw [if_pos h1]
      have h2 : a ≠ b := fun e => by rw [e] at h1; exact absurd h1 (by simp)
      have h3 : a.toNat < b.toNat := h1
      simp [h3, h2, h1]
    · rw [if_neg h1]
      by_cases h2 : b < a
      · rw [if_pos h2]
        have h3 : a ≠ b := fun e => by rw [e] at h2; exact absurd h2 (by simp)
        have h4 : ¬ a.toNat < b.toNat := fun h => h1 h
        simp [h3, h4, UInt8.le_of_lt h2]
      · rw [if_neg h2]
        have h3 : a = b := by
          have h4 : ¬ a.toNat < b.toNat := fun h => h1 h
          have h5 : ¬ b.toNat < a.toNat := fun h => h2 h
          exact UInt8.toNat_inj.1 (by omega)
        subst h3
        simp [ih.1, ih.2]
theorem cmp_lt (a b : ByteArray) : cmpV a b < 0 ↔ slt a b = true := by
  unfold cmpV slt
  rw [toList_data, toList_data]
  exact (cmp_list _ _).1
theorem cmp_eq (a b : ByteArray) : cmpV a b = 0 ↔ a = b := by
  unfold cmpV
  rw [(cmp_list _ _).2]
  exact ⟨toL_inj, fun h => by rw [h]⟩
theorem hasK_at {l : List Fld} {k : ByteArray} (h : KSrt l) : hasK l k = true ↔ ∃ h : keyN l k < l.length, l[keyN l k].key = k := by
  rw [hasK_iff]
  constructor
  · rintro ⟨j, hj, hk⟩
    obtain ⟨_, hn, _⟩ := set_hit (f := ⟨k, ⟨#[]⟩⟩) h hj hk
    have hn : j = keyN l k := hn
    subst hn
    exact ⟨hj, hk⟩
  · rintro ⟨hj, hk⟩
    exact ⟨_, hj, hk⟩
theorem compareC (a b : ByteArray) (w : World) : Calls Tryd.prog 93 #[.string a, .string b] w fun e w' => e = .returned (.int .i64 (cmpV a b)) ∧ w = w' :=
  (show Calls Tryd.prog 93 #[.string a, .string b] w _ from Any.strings_Compare Tryd.layCmp a b w).mono fun e w' ⟨h1, h2⟩ => ⟨h1, h2.symm⟩
set_option maxRecDepth 100000 in
theorem setCmp (x : Fld) (k : ByteArray) (w : World) : Calls Tryd.prog 92 #[.agg #[.string x.key, .string x.val], .string k] w fun e w' => e = .returned (.int .i64 (cmpV x.key k)) ∧ Below w.heap.size w w' := by
  have HB : Aside (Below w.heap.size w (w.alloc (.cells #[.string x.key, .string x.val] 46))) := ⟨(Below.refl _ _).alloc (Nat.le_refl _) _⟩
  go_enter Tryd.func92, Tryd.ntmps92
  go_wp2_with fail
  refine (compareC x.key k _).mono ?_
  rintro e w1 ⟨rfl, rfl⟩
  go_wp2_with fail
  go_ret
  exact ⟨rfl, HB.out⟩
set_option maxRecDepth 100000 in
set_option maxHeartbeats 4000000 in
theorem searchF (A : Option Addr) (c : Nat) (l : List Fld) (k : ByteArray) (ok : Nat → Prop) (w : World) (hr : fldR.Row w ok A l) (hs : KSrt l) (hl : l.length ≤ 4294967296) :
    Calls Tryd.prog 91 #[.slice A l.length c, .string k, .func (.func 92) #[] #[]] w fun e w' => e = .returned (.tuple #[.int .i64 (keyN l k : Nat), .bool (hasK l k)]) ∧ Below w.heap.size w w' := by
  have HR := Aside.mk hr
  have HS := Aside.mk (key_at (k := k) hs)
  have HH := Aside.mk (hasK_at (k := k) hs)
  have HN := Aside.mk (show keyN l k ≤ l.length from (key_at (k := k) hs).2.2)
  clear hr hs
  generalize hkn : keyN l k = kn at HS HH HN ⊢
  clear hkn
  go_enter Tryd.func91, Tryd.ntmps91
  go_wp2_with fail
  go_loopw [9, 10] (fun s9 s10 wr => ∃ lo hi : Nat, s9 = .int .i64 lo ∧ s10 = .int .i64 hi ∧ lo ≤ hi ∧ hi ≤ l.length ∧ Aside (lo ≤ kn ∧ kn ≤ hi) ∧ Aside (Below w.heap.size w wr)) (fun s9 s10 _ => (intOf s10).toNat - (intOf s9).toNat)
  case atStart => exact ⟨0, l.length, rfl, rfl, Nat.zero_le _, Nat.le_refl _, ⟨Nat.zero_le _, HN.out⟩, ⟨Below.refl _ _⟩⟩
  case round =>
    obtain ⟨lo, hi, rfl, rfl, hlh, hin, HI, HB⟩ := hrel
    by_cases hlt : lo < hi
    · have hm : (lo + hi) / 2 < l.length := by omega
      obtain ⟨ad, rfl, _, x0, x1⟩ := fld_at (HR.out.below HB.out) hm
      have hc := setCmp l[(lo + hi) / 2] k wr
      by_cases hy : slt l[(lo + hi) / 2].key k = true
      · have g1 : decide (cmpV l[(lo + hi) / 2].key k < 0) = true := decide_eq_true ((cmp_lt _ _).2 hy)
        have h1 : (lo + hi) / 2 < kn := Nat.lt_of_not_le fun h => by
          have := HS.out.2.1 _ hm h
          rw [this] at hy
          cases hy
        have HI2 : Aside ((lo + hi) / 2 + 1 ≤ kn ∧ kn ≤ hi) := ⟨h1, HI.out.2⟩
        have HC := Aside.mk hc
        clear hy h1 hc
        go_wp2_with fail
        refine HC.out.mono ?_
        rintro e w2 ⟨rfl, hb⟩
        have HB2 := Aside.mk (below_step HB.out hb)
        clear hb HC
        go_wp2_with fail
        exact ⟨⟨(lo + hi) / 2 + 1, hi, congrArg _ (by omega), rfl, by omega, hin, HI2, HB2⟩, by simp [intOf]; omega⟩
      · have g1 : decide (cmpV l[(lo + hi) / 2].key k < 0) = false := decide_eq_false fun h => hy ((cmp_lt _ _).1 h)
        have h1 : kn ≤ (lo + hi) / 2 := Nat.le_of_not_lt fun h => hy (HS.out.1 _ hm h)
        have HI2 : Aside (lo ≤ kn ∧ kn ≤ (lo + hi) / 2) := ⟨HI.out.1, h1⟩
        have HC := Aside.mk hc
        clear hy h1 hc
        go_wp2_with fail
        refine HC.out.mono ?_
        rintro e w2 ⟨rfl, hb⟩
        have HB2 := Aside.mk (below_step HB.out hb)
        clear hb HC
        go_wp2_with fail
        exact ⟨⟨lo, (lo + hi) / 2, rfl, congrArg _ (by omega), by omega, by omega, HI2, HB2⟩, by simp [intOf]; omega⟩
    · have e1 := HI.out
      obtain rfl : hi = lo := by omega
      obtain rfl : kn = hi := by omega
      clear e1 HI
      by_cases hn : kn < l.length
      · obtain ⟨ad, rfl, _, x0, x1⟩ := fld_at (HR.out.below HB.out) hn
        have hc := setCmp l[kn] k wr
        have HC := Aside.mk hc
        clear hc
        by_cases hk : l[kn].key = k
        · have g1 : (cmpV l[kn].key k == 0) = true := beq_iff_eq.2 ((cmp_eq _ _).2 hk)
          have HE := Aside.mk (show hasK l k = true from HH.out.2 ⟨hn, hk⟩)
          clear hk
          go_wp2_with fail
          refine HC.out.mono ?_
          rintro e w2 ⟨rfl, hb⟩
          have HB2 := Aside.mk (below_step HB.out hb)
          clear hb HC
          go_wp2_with fail
          go_ret2
          exact ⟨by rw [HE.out]; rfl, HB2.out⟩
        · have g1 : (cmpV l[kn].key k == 0) = false := beq_eq_false_iff_ne.2 fun h => hk ((cmp_eq _ _).1 h)
          have HE := Aside.mk (show hasK l k = false from Bool.eq_false_iff.2 fun h => hk (HH.out.1 h).2)
          clear hk
          go_wp2_with fail
          refine HC.out.mono ?_
          rintro e w2 ⟨rfl, hb⟩
          have HB2 := Aside.mk (below_step HB.out hb)
          clear hb HC
          go_wp2_with fail
          go_ret2
          exact ⟨by rw [HE.out]; rfl, HB2.out⟩
      · have HE := Aside.mk (show hasK l k = false from Bool.eq_false_iff.2 fun h => hn (HH.out.1 h).1)
        go_wp2_with fail
        go_ret2
        exact ⟨by rw [HE.out]; rfl, HB.out⟩
set_option maxRecDepth 100000 in
set_option maxHeartbeats 4000000 in
theorem recGet (r : Rec) (key : ByteArray) (A1 A2 : Option Addr) (c1 c2 : Nat) (ok ok' : Nat → Prop) (w : World) (hf : fldR.Row w ok A1 r.fields) (hg : str.Row w ok' A2 r.refs) :
    Calls Tryd.prog 48 #[.agg #[.string r.id, .int .i64 r.cats, .slice A1 r.fields.length c1, .slice A2 r.refs.length c2], .string key] w fun e w' => e = .returned (.tuple #[.string (keyV r key), .int .i64 (keyE r key)]) ∧ Below w.heap.size w w' := by
  have hal : Below w.heap.size w (w.alloc (.cells #[.string r.id, .int .i64 r.cats, .slice A1 r.fields.length c1, .slice A2 r.refs.length c2] 35)) := (Below.refl _ _).alloc (Nat.le_refl _) _
  have HF := Aside.mk (hf.below hal)
  have HG := Aside.mk (hg.below hal)
  have HQ := Aside.mk (Bk.made w [.string r.id, .int .i64 r.cats, .slice A1 r.fields.length c1, .slice A2 r.refs.length c2] 35)
  have HB := Aside.mk hal
  clear hf hg hal
  go_enter Tryd.func48, Tryd.ntmps48
  go_wp2_with fail
  refine (recCheck r A1 A2 c1 c2 _ _ _ HF.out HG.out).mono ?_
  rintro e w1 ⟨rfl, hb⟩
  have HB1 := Aside.mk (below_step HB.out hb)
  have HF1 := Aside.mk (HF.out.below hb)
  have q1 := (HQ.out.below hb).four
  clear hb HB HF HG HQ
  by_cases h0 : recErr r = 0
  · have HE := Aside.mk (show keyE r key = keyEK r.fields key r.fields.length ∧ keyV r key = keyVK r.fields key r.fields.length by unfold keyE keyV; rw [h0]; exact ⟨rfl, rfl⟩)
    have hl6 := (rec_ok h0).2.2.2.1
    rw [h0]
    clear h0
    go_wp2_with fail
    go_loopw [17] (fun i wr => ∃ k : Nat, k ≤ r.fields.length ∧ i = .int .i64 k ∧ Aside (keyEK r.fields key k = 4 ∧ keyVK r.fields key k = ⟨#[]⟩) ∧ Aside (Below w1.heap.size w1 wr)) (fun i _ => r.fields.length - (intOf i).toNat)
    case atStart => exact ⟨0, Nat.zero_le _, rfl, ⟨⟨rfl, rfl⟩⟩, ⟨Below.refl _ _⟩⟩
    case round =>
      obtain ⟨k, hk, rfl, HK, HW⟩ := hrel
      by_cases hlt : k < r.fields.length
      · have p0 : (0 : Int) ≤ (k : Int) := by omega
        have p1 : (k : Int) < (r.fields.length : Int) := by omega
        obtain ⟨ad, rfl, _, x0, x1⟩ := fld_at (HF1.out.below HW.out) hlt
        have HN : Aside (Below w1.heap.size w1 (wr.alloc (.cells #[.string r.fields[k].key, .string r.fields[k].val] 46))) := ⟨HW.out.alloc HW.out.size _⟩
        by_cases hy : r.fields[k].key = key
        · have g1 := eqS_b' hy
          have HH := Aside.mk (keyK_hit hlt hy HK.out)
          clear hy
          go_wp2_with fail
          go_ret2
          exact ⟨by rw [HE.out.1, HE.out.2, HH.out.1, HH.out.2]; rfl, below_step HB1.out HN.out⟩
        · have g1 := eqS_f' hy
          have HH := Aside.mk (keyK_miss hlt hy HK.out)
          clear hy
          go_wp2_with fail
          exact ⟨⟨k + 1, by omega, by go_num, HH, HN⟩, by simp [intOf]; omega⟩
      · obtain rfl : k = r.fields.length := by omega
        go_wp2_with fail
        go_ret2
        exact ⟨by rw [HE.out.1, HE.out.2, HK.out.1, HK.out.2]; rfl, below_step HB1.out HW.out⟩
  · have HE := Aside.mk (show keyE r key = recErr r ∧ keyV r key = ⟨#[]⟩ by unfold keyE keyV; rw [if_neg h0, if_neg h0]; exact ⟨rfl, rfl⟩)
    have g0 : (recErr r != 0) = true := by simp [h0]
    clear h0
    go_wp2_with fail
    go_ret2
    exact ⟨by rw [HE.out.1, HE.out.2]; rfl, HB1.out⟩
end Go.Proofs.WK
