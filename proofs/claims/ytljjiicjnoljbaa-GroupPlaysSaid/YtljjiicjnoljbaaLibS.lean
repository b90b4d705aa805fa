/-
  Contracts of Go's library at texts: cmp.Less, slices.BinarySearch, slices.Clone, slices.Equal at []string.
-/
import Derived.Test.YtljjiicjnoljbaaDat
import Derived.Test.YtljjiicjnoljbaaPl0
namespace Go.Proofs.WK
open Go.RowKit Rp

theorem infoStr : (Try.prog.info? 9).map (fun i => (i.zero, i.size, i.bytes)) = some (some (.string ByteArray.empty), 1, 16) := by kernel_rfl
theorem cmpNaN (a : ByteArray) (w : World) : Calls Try.prog 116 #[.string a] w fun e w' => e = .returned (.bool false) ∧ w = w' := by
  go_enter Try.func116, Try.ntmps116
  go_wp2
  go_ret
  exact ⟨by simp, rfl⟩
theorem slNaN (a : ByteArray) (w : World) : Calls Try.prog 95 #[.string a] w fun e w' => e = .returned (.bool false) ∧ w = w' := by
  go_enter Try.func95, Try.ntmps95
  go_wp2
  go_ret
  exact ⟨by simp, rfl⟩
theorem lessS (a b : ByteArray) (w : World) : Calls Try.prog 94 #[.string a, .string b] w fun e w' => e = .returned (.bool (slt a b)) ∧ w = w' := by
  go_enter Try.func94, Try.ntmps94
  go_wp2_with (go_at_call 116; refine (cmpNaN _ _).mono ?_; rintro e w' ⟨rfl, rfl⟩)
  go_ret
  exact ⟨rfl, rfl⟩

def hasS (l : List ByteArray) (t : ByteArray) : Bool := l.any fun x => decide (x = t)
theorem hasS_iff {l : List ByteArray} {t : ByteArray} : hasS l t = true ↔ t ∈ l := by simp [hasS]
/-- i parts l: what is below t, and the rest. -/
def CutAt (l : List ByteArray) (t : ByteArray) (i : Nat) : Prop := i ≤ l.length ∧ (∀ k (h : k < l.length), k < i → slt l[k] t = true) ∧ ∀ k (h : k < l.length), i ≤ k → slt l[k] t = false
theorem srt_get {l : List ByteArray} (hs : Srt l) {i j : Nat} (hij : i < j) (hj : j < l.length) : slt (l[i]'(by omega)) l[j] = true := List.pairwise_iff_getElem.1 hs i j (by omega) hj hij
theorem cut_mem {l : List ByteArray} (hs : Srt l) {t : ByteArray} {i : Nat} (h : CutAt l t i) : t ∈ l ↔ ∃ h : i < l.length, l[i] = t := by
  constructor
  · intro ht
    obtain ⟨k, hk, rfl⟩ := List.getElem_of_mem ht
    have h1 : ¬ k < i := fun hki => by have := h.2.1 k hk hki; rw [slt_irrefl] at this; cases this
    have h2 : ¬ i < k := fun hik => by have := h.2.2 i (by omega) (Nat.le_refl _); rw [srt_get hs hik hk] at this; cases this
    obtain rfl : k = i := by omega
    exact ⟨hk, rfl⟩
  · rintro ⟨hi, rfl⟩
    exact List.getElem_mem _
theorem cut_drop {l : List ByteArray} {t : ByteArray} {i : Nat} (h : CutAt l t i) : l.take i = l.filter (fun x => slt x t) := by
  conv => rhs; rw [← List.take_append_drop i l, List.filter_append]
  have h1 : (l.take i).filter (fun x => slt x t) = l.take i := List.filter_eq_self.2 fun x hx => by
    obtain ⟨k, hk, rfl⟩ := List.getElem_of_mem hx
    rw [List.getElem_take]
    exact h.2.1 k _ (by simp at hk; omega)
  have h2 : (l.drop i).filter (fun x => slt x t) = [] := List.filter_eq_nil_iff.2 fun x hx => by
    obtain ⟨k, hk, rfl⟩ := List.getElem_of_mem hx
    rw [List.getElem_drop]
    simp [h.2.2 (i + k) (by simp at hk; omega) (by omega)]
  rw [h1, h2, List.append_nil]

set_option maxHeartbeats 800000 in
set_option maxRecDepth 100000 in
theorem bsearchS (A : Option Addr) (c : Nat) (l : List ByteArray) (t : ByteArray) (ok : Nat → Prop) (w : World) (hr : str.Row w ok A l) (hs : Srt l) (hl : l.length ≤ 4611686018427387903) :
    Calls Try.prog 55 #[.slice A l.length c, .string t] w fun e w' => (∃ i : Nat, CutAt l t i ∧ e = .returned (.tuple #[.int .i64 i, .bool (hasS l t)])) ∧ w = w' := by
  have HR := Aside.mk hr
  have HS := Aside.mk hs
  clear hr hs
  go_enter Try.func55, Try.ntmps55
  go_wp2
  go_loop [7, 8] (fun a b => ∃ i j : Nat, a = .int .i64 i ∧ b = .int .i64 j ∧ i ≤ j ∧ j ≤ l.length ∧ Aside (∀ k (h : k < l.length), k < i → slt l[k] t = true) ∧ Aside (∀ k (h : k < l.length), j ≤ k → slt l[k] t = false)) (fun a b => (intOf b - intOf a).toNat)
  case atStart => exact ⟨0, l.length, rfl, rfl, Nat.zero_le _, Nat.le_refl _, ⟨fun k _ hk => by omega⟩, ⟨fun k h hk => by omega⟩⟩
  case round =>
    obtain ⟨i, j, rfl, rfl, hij, hjl, HI, HJ⟩ := hrel
    by_cases hlt : i < j
    · obtain ⟨ad, rfl, _, hcell⟩ := str_at HR.out (k := (i + j) / 2) (by omega)
      go_wp2_with (go_at_call 94; refine (lessS _ _ _).mono ?_; rintro e w' ⟨rfl, rfl⟩)
      all_goals (rename_i ht; refine ⟨?_, by simp [intOf]; omega⟩)
      · refine ⟨(i + j) / 2 + 1, j, by go_num, rfl, by omega, hjl, ⟨fun k h hk => ?_⟩, HJ⟩
        rcases Nat.lt_or_eq_of_le (Nat.le_of_lt_succ hk) with h1 | h1
        · exact slt_trans (srt_get HS.out h1 (by omega)) ht
        · subst h1; exact ht
      · refine ⟨i, (i + j) / 2, rfl, by go_num, by omega, by omega, HI, ⟨fun k h hk => ?_⟩⟩
        rcases Nat.lt_or_eq_of_le hk with h1 | h1
        · cases h2 : slt l[k] t with
          | false => rfl
          | true => have := slt_trans (srt_get HS.out h1 h) h2; rw [ht] at this; cases this
        · subst h1; exact ht
    · obtain rfl : i = j := by omega
      have hC : CutAt l t i := ⟨hjl, HI.out, HJ.out⟩
      have hm := cut_mem HS.out hC
      by_cases hn : i < l.length
      · obtain ⟨ad, rfl, _, hcell⟩ := str_at HR.out hn
        by_cases he : l[i] = t
        · have H := Aside.mk (And.intro hC (hasS_iff.2 (hm.2 ⟨hn, he⟩)))
          have e1 : (l[i].toList == t.toList) = true := by rw [he]; simp
          clear he hC hm
          go_wp2_with (go_at_call 95; refine (slNaN _ _).mono ?_; rintro e w' ⟨rfl, rfl⟩)
          go_ret2
          exact ⟨⟨i, H.out.1, by rw [H.out.2]; rfl⟩, rfl⟩
        · have H := Aside.mk (And.intro hC (show hasS l t = false from Bool.eq_false_iff.2 fun h => he (hm.1 (hasS_iff.1 h)).2))
          have e1 : (l[i].toList == t.toList) = false := by rw [toList_beq]; simp [he]
          clear he hC hm
          go_wp2_with (go_at_call 95; refine (slNaN _ _).mono ?_; rintro e w' ⟨rfl, rfl⟩)
          go_ret2
          exact ⟨⟨i, H.out.1, by rw [H.out.2]; rfl⟩, rfl⟩
      · have H := Aside.mk (And.intro hC (show hasS l t = false from Bool.eq_false_iff.2 fun h => hn (hm.1 (hasS_iff.1 h)).1))
        clear hC hm
        go_wp2_with (go_at_call 95; refine (slNaN _ _).mono ?_; rintro e w' ⟨rfl, rfl⟩)
        go_ret2
        exact ⟨⟨i, H.out.1, by rw [H.out.2]; rfl⟩, rfl⟩

set_option maxHeartbeats 800000 in
set_option maxRecDepth 100000 in
theorem cloneS (A : Option Addr) (n c : Nat) (l : List ByteArray) (ok : Nat → Prop) (w : World) (hr : str.Row w ok A l) (hn : l.length = n) (hl : l.length * 16 ≤ 140737488355328) :
    Calls Try.prog 56 #[.slice A n c] w fun e w' => ∃ v, e = .returned v ∧ str.Own 9 w' w.heap.size (fun _ => False) v l ∧ Below w.heap.size w w' := by
  have HR := Aside.mk hr
  subst hn
  clear hr
  have he := fun (W : World) (a : Option Addr) (n c : Nat) => Lib.run_eql_slice_nil (P := Try.prog) W 22 9 a n c 0 0 Try.underlying22
  cases A with
  | none =>
    have h0 : l = [] := by
      cases l with
      | nil => rfl
      | cons y ys => obtain ⟨_, e, _⟩ := HR.out.2 0 y rfl; cases e
    subst h0
    go_enter Try.func56, Try.ntmps56
    go_wp2
    go_ret
    exact ⟨_, rfl, Own.nil _ _ _ _ _, Below.refl _ _⟩
  | some ad =>
    go_enter Try.func56, Try.ntmps56
    go_wp2_with (at_builtin; refine append_row (w0 := w) (ok1 := ok) str w.heap.size rfl (.tmp 5) (.tmp 6) 22 9 (.string ByteArray.empty) 16 rfl Try.underlying22 infoStr rfl Nat.one_pos (Nat.succ_pos _) _ [] l (some ad) c (fun _ => False) rfl rfl ?hp (fun _ _ h => h) ?ho ?hb ?hs ?hl ?_; (case hl => simpa using hl); (case hs => simp); (case hb => exact (Below.refl _ _).alloc (Nat.le_refl _) _); (case ho => exact Own.empty _ _ _ _ _ (Nat.le_refl _)); (case hp => exact HR.out.below ((Below.refl _ _).alloc (Nat.le_refl _) _)); intro v1 w1 HO HB hg hat)
    go_ret
    exact ⟨_, rfl, by simpa using HO, HB⟩

set_option maxHeartbeats 800000 in
set_option maxRecDepth 100000 in
theorem equalS (A B : Option Addr) (c d : Nat) (l m : List ByteArray) (ok ok' : Nat → Prop) (w : World) (hl : str.Row w ok A l) (hm : str.Row w ok' B m) :
    Calls Try.prog 9 #[.slice A l.length c, .slice B m.length d] w fun e w' => e = .returned (.bool (decide (l = m))) ∧ Drawn w w' := by
  have HL := Aside.mk hl
  have HM := Aside.mk hm
  have b1 := hl.1
  clear hl hm
  by_cases hlen : l.length = m.length
  · have hne : ((l.length : Int) != (m.length : Int)) = false := by simp [hlen]
    have HE := Aside.mk hlen
    clear hlen
    go_enter Try.func9, Try.ntmps9
    go_wp2
    go_loopw [13] (fun i wr => ∃ k : Nat, k ≤ l.length ∧ i = .int .i64 k ∧ Aside (l.take k = m.take k) ∧ Aside (Drawn w wr)) (fun i _ => l.length - (intOf i).toNat)
    case atStart => exact ⟨0, Nat.zero_le _, rfl, ⟨rfl⟩, ⟨Drawn.refl _⟩⟩
    case round =>
      obtain ⟨k, hk, rfl, HK, HD⟩ := hrel
      by_cases hlt : k < l.length
      · have hlt2 : k < m.length := by rw [← HE.out]; exact hlt
        obtain ⟨ad, rfl, _, h1⟩ := str_at (HL.out.below HD.out.below) hlt
        obtain ⟨ad2, rfl, _, h2⟩ := str_at (HM.out.below HD.out.below) hlt2
        have p0 : (0 : Int) ≤ (k : Int) := by omega
        have p1 : (k : Int) < (l.length : Int) := by omega
        have p2 : (k : Int) < (m.length : Int) := by omega
        by_cases he : l[k] = m[k]
        · have hb : (l[k].toList == m[k].toList) = true := by rw [he]; simp
          have HK1 := Aside.mk (show l.take (k + 1) = m.take (k + 1) by rw [List.take_succ_eq_append_getElem hlt, List.take_succ_eq_append_getElem hlt2, HK.out, he])
          clear he
          go_wp2
          go_quiet (fail)
          go_wp2
          go_roundw
          case rel => exact ⟨k + 1, by omega, by go_num, HK1, ⟨HD.out.step _⟩⟩
          case measure => simp [intOf]; omega
        · have hb : (l[k].toList == m[k].toList) = false := by rw [toList_beq]; simp [he]
          have H := Aside.mk (show decide (l = m) = false from decide_eq_false fun e => he (by subst e; rfl))
          clear he
          go_wp2
          go_quiet (fail)
          go_wp2
          go_ret
          exact ⟨by rw [H.out]; rfl, HD.out.step _⟩
      · obtain rfl : k = l.length := by omega
        have H := Aside.mk (show decide (l = m) = true from decide_eq_true (by
          have h := HK.out
          rw [List.take_length, HE.out, List.take_length] at h
          exact h))
        go_wp2
        go_ret
        exact ⟨by rw [H.out]; rfl, HD.out⟩
  · have hne : ((l.length : Int) != (m.length : Int)) = true := by simp; omega
    have H := Aside.mk (show decide (l = m) = false from decide_eq_false fun e => hlen (by rw [e]))
    clear hlen
    go_enter Try.func9, Try.ntmps9
    go_wp2
    go_ret
    exact ⟨by rw [H.out]; rfl, Drawn.refl _⟩
end Go.Proofs.WK
