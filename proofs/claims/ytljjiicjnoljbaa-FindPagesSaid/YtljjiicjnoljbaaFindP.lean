/-
  find.Page: what it answers (P30).
-/
import Derived.Test.YtljjiicjnoljbaaLibS
namespace Go.Proofs.WK
open Go.RowKit Rp

def pageErr (ids : List ByteArray) (n : Int) : Int := if 5120 < ids.length then 2 else if srtB ids = false then 3 else if n < 1 ∨ 60 < n then 1 else 0
def above (ids : List ByteArray) (from_ : ByteArray) : List ByteArray := ids.filter fun x => slt from_ x
def pageL (ids : List ByteArray) (from_ : ByteArray) (n : Int) : List ByteArray := if pageErr ids n = 0 then (above ids from_).take n.toNat else []
def pageMore (ids : List ByteArray) (from_ : ByteArray) (n : Int) : Bool := pageErr ids n == 0 && decide (n < ((above ids from_).length : Int))

theorem above_drop {l : List ByteArray} {t : ByteArray} {i : Nat} (hs : Srt l) (h : CutAt l t i) : above l t = l.drop (if hasS l t = true then i + 1 else i) := by
  have hm := cut_mem hs h
  unfold above
  have h1 : ∀ j, (∀ k (hk : k < l.length), k < j → slt t l[k] = false) → (∀ k (hk : k < l.length), j ≤ k → slt t l[k] = true) → l.filter (fun x => slt t x) = l.drop j := by
    intro j ha hb
    conv => lhs; rw [← List.take_append_drop j l, List.filter_append]
    have e1 : (l.take j).filter (fun x => slt t x) = [] := List.filter_eq_nil_iff.2 fun x hx => by
      obtain ⟨k, hk, rfl⟩ := List.getElem_of_mem hx
      rw [List.getElem_take]
      simp [ha k (by simp at hk; omega) (by simp at hk; omega)]
    have e2 : (l.drop j).filter (fun x => slt t x) = l.drop j := List.filter_eq_self.2 fun x hx => by
      obtain ⟨k, hk, rfl⟩ := List.getElem_of_mem hx
      rw [List.getElem_drop]
      exact hb (j + k) (by simp at hk; omega) (by omega)
    rw [e1, e2, List.nil_append]
  split
  · rename_i hh
    obtain ⟨hi, he⟩ := hm.1 (hasS_iff.1 hh)
    refine h1 _ (fun k hk hki => ?_) (fun k hk hki => ?_)
    · rcases Nat.lt_or_eq_of_le (Nat.le_of_lt_succ hki) with h2 | h2
      · exact slt_asymm (h.2.1 k hk h2)
      · subst h2; rw [he, slt_irrefl]
    · rw [← he]; exact srt_get hs (by omega) hk
  · rename_i hh
    refine h1 _ (fun k hk hki => slt_asymm (h.2.1 k hk hki)) (fun k hk hki => ?_)
    rcases slt_false (h.2.2 k hk hki) with h2 | h2
    · exact absurd (hasS_iff.2 (h2 ▸ List.getElem_mem hk)) hh
    · exact h2

def PageTold (w : World) (ids : List ByteArray) (from_ : ByteArray) (n : Int) (e : Ending) (w' : World) : Prop :=
  ∃ v, e = .returned (.tuple #[v, .bool (pageMore ids from_ n), .int .i64 (pageErr ids n)]) ∧ str.Sl w' (fun k => w.heap.size ≤ k) v (pageL ids from_ n) ∧ Below w.heap.size w w'
theorem page_bad {w w' : World} {ids : List ByteArray} {from_ : ByteArray} {n c : Int} (h : pageErr ids n = c) (hc : c ≠ 0) (hb : Below w.heap.size w w') : PageTold w ids from_ n (.returned (.tuple #[.slice none 0 0, .bool false, .int .i64 c])) w' := by
  refine ⟨.slice none 0 0, ?_, ?_, hb⟩
  · rw [pageMore, h]; simp [hc]
  · rw [pageL, if_neg (by rw [h]; exact hc)]; exact Sl.nil _ _ _

theorem page_good {w w' : World} {ids : List ByteArray} {from_ : ByteArray} {N m : Nat} {v : Value} {b : Bool} (h1 : pageErr ids (N : Int) = 0) (ha : above ids from_ = ids.drop m) (hb : b = decide (m + N < ids.length))
    (hs : str.Sl w' (fun k => w.heap.size ≤ k) v ((ids.drop m).take N)) (hB : Below w.heap.size w w') : PageTold w ids from_ (N : Int) (.returned (.tuple #[v, .bool b, .int .i64 0])) w' := by
  have e : pageMore ids from_ (N : Int) = b := by
    rw [pageMore, h1, ha, hb]
    simp
    omega
  exact ⟨v, by rw [h1, e], by rw [pageL, if_pos h1, ha]; simpa using hs, hB⟩
set_option maxHeartbeats 1600000 in
set_option maxRecDepth 100000 in
theorem pageS (A : Option Addr) (c : Nat) (ids : List ByteArray) (from_ : ByteArray) (n : Int) (ok : Nat → Prop) (w : World) (hr : str.Row w ok A ids) (hc : ids.length ≤ c) (hn1 : -9223372036854775808 ≤ n) (hn2 : n ≤ 9223372036854775807) :
    Calls Try.prog 8 #[.slice A ids.length c, .string from_, .int .i64 n] w (PageTold w ids from_ n) := by
  have HR := Aside.mk hr
  have hl := hr.1
  clear hr
  by_cases h5 : 5120 < ids.length
  · have H := Aside.mk (show pageErr ids n = 2 by simp [pageErr, h5])
    go_enter Try.func8, Try.ntmps8
    go_wp2
    go_ret3
    exact page_bad H.out (by decide) (Below.refl _ _)
  · have h5b : decide (5120 < (ids.length : Int)) = false := by simp; omega
    go_enter Try.func8, Try.ntmps8
    go_wp2
    go_loopw [9, 18] (fun _ i wr => ∃ k : Nat, k ≤ ids.length ∧ i = .int .i64 k ∧ Aside (srtB (ids.take k) = true) ∧ Aside (Drawn w wr)) (fun _ i _ => ids.length - (intOf i).toNat)
    case atStart => exact ⟨0, Nat.zero_le _, rfl, ⟨by simp [srtB]⟩, ⟨Drawn.refl _⟩⟩
    case round =>
      obtain ⟨k, hk, rfl, HK, HD⟩ := hrel
      by_cases hlt : k < ids.length
      · by_cases h0 : 0 < k
        · obtain ⟨ad, rfl, _, h1⟩ := str_at (HR.out.below HD.out.below) hlt
          obtain ⟨ad2, e2, _, h2⟩ := str_at (HR.out.below HD.out.below) (k := k - 1) (by omega)
          cases e2
          have HS := Aside.mk (srtB_at ids k h0 hlt)
          have g0 : decide ((0 : Int) < (k : Int)) = true := by simp; omega
          have p0 : (0 : Int) ≤ (k : Int) := by omega
          have p1 : (k : Int) < (ids.length : Int) := by omega
          have p2 : (0 : Int) ≤ (k : Int) - 1 := by omega
          have p3 : (k : Int) - 1 < (ids.length : Int) := by omega
          cases hb : slt ids[k - 1] ids[k] with
          | true =>
            have H1 := Aside.mk (show srtB (ids.take (k + 1)) = true by rw [HS.out, HK.out, hb]; rfl)
            unfold slt at hb
            go_wp2
            go_quiet (fail)
            go_wp2
            go_roundw
            case rel => exact ⟨k + 1, by omega, by go_num, H1, ⟨HD.out.step _⟩⟩
            case measure => simp [intOf]; omega
          | false =>
            have H1 := Aside.mk (show pageErr ids n = 3 by
              have h : srtB ids = false := Bool.eq_false_iff.2 fun h => by have := srt_take h (k + 1); rw [HS.out, hb] at this; simp at this
              simp [pageErr, h5, h])
            unfold slt at hb
            go_wp2
            go_quiet (fail)
            go_wp2
            go_ret3
            exact page_bad H1.out (by decide) (HD.out.step _).below
        · obtain rfl : k = 0 := by omega
          have g0 : decide ((0 : Int) < ((0 : Nat) : Int)) = false := by simp
          have H1 := Aside.mk (show srtB (ids.take (0 + 1)) = true by match ids with | [] => rfl | _ :: _ => rfl)
          go_wp2
          go_quiet (fail)
          go_wp2
          go_roundw
          case rel => exact ⟨1, by omega, rfl, H1, ⟨HD.out.step _⟩⟩
          case measure => simp [intOf]; omega
      · obtain rfl : k = ids.length := by omega
        have HS := Aside.mk (show srtB ids = true by have := HK.out; rwa [List.take_length] at this)
        have g0 : decide ((ids.length : Int) < (ids.length : Int)) = false := by simp
        by_cases hn : n < 1 ∨ 60 < n
        · have H1 := Aside.mk (show pageErr ids n = 1 by simp [pageErr, h5, HS.out, hn])
          by_cases hn0 : n < 1
          · clear hn
            go_wp2
            go_ret3
            exact page_bad H1.out (by decide) HD.out.below
          · have hn3 : 60 < n := by omega
            clear hn
            go_wp2
            go_ret3
            exact page_bad H1.out (by decide) HD.out.below
        · have H1 := Aside.mk (show pageErr ids n = 0 by simp [pageErr, h5, HS.out, hn])
          obtain ⟨N, rfl⟩ : ∃ N : Nat, n = (N : Int) := ⟨n.toNat, by omega⟩
          have q1 : 1 ≤ N := by omega
          have q2 : N ≤ 60 := by omega
          clear hn
          cases hh : hasS ids from_ with
          | true =>
            go_wp2_with (go_at_call 55; refine (bsearchS _ _ _ _ _ _ (HR.out.below HD.out.below) ((srtB_iff _).1 HS.out) (by omega)).mono ?_; rintro e w' ⟨⟨i, hC, rfl⟩, rfl⟩; have hi := ((cut_mem ((srtB_iff _).1 HS.out) hC).1 (hasS_iff.1 hh)).1; have HA := Aside.mk (above_drop ((srtB_iff _).1 HS.out) hC); clear hC)
            all_goals (have hA := HA.out; rw [if_pos hh] at hA; clear HA; have HA := Aside.mk hA; clear hA)
            all_goals
              refine (cloneS _ _ _ ((ids.drop (i + 1)).take N) ok _ ?k1 ?k2 ?k3).mono ?_
              case k1 =>
                have h1 := (HR.out.below HD.out.below).cut (n := (i + 1)) (by omega)
                have h2 : c = (i + 1) → ∀ B, str.Row _ ok B (ids.drop (i + 1)) := fun e B => (HR.out.below HD.out.below).end_ hc e
                simp only [show (i + 1) * str.sz = (i + 1) from Nat.mul_one _] at h1
                first | exact h1.take _ | exact (h2 ‹_› _).take _ | (simp [Addr.add] at h1; exact h1.take _)
              case k2 => rw [List.length_take, List.length_drop]; omega
              case k3 => rw [List.length_take, List.length_drop]; omega
              rintro e w' ⟨v, rfl, HO, HB⟩
              go_wp2
              go_ret3
              exact page_good H1.out HA.out (by simp; omega) (HO.sl.mono fun k h _ => by rcases h with h | h; exact h.elim; exact Nat.le_trans HD.out.below.size (HO.lt k h).1) (below_step HD.out.below HB)
          | false =>
            go_wp2_with (go_at_call 55; refine (bsearchS _ _ _ _ _ _ (HR.out.below HD.out.below) ((srtB_iff _).1 HS.out) (by omega)).mono ?_; rintro e w' ⟨⟨i, hC, rfl⟩, rfl⟩; have hi := hC.1; have HA := Aside.mk (above_drop ((srtB_iff _).1 HS.out) hC); clear hC)
            all_goals (have hA := HA.out; rw [if_neg (by rw [hh]; decide)] at hA; clear HA; have HA := Aside.mk hA; clear hA)
            all_goals
              refine (cloneS _ _ _ ((ids.drop i).take N) ok _ ?k1 ?k2 ?k3).mono ?_
              case k1 =>
                have h1 := (HR.out.below HD.out.below).cut (n := i) (by omega)
                have h2 : c = i → ∀ B, str.Row _ ok B (ids.drop i) := fun e B => (HR.out.below HD.out.below).end_ hc e
                simp only [show i * str.sz = i from Nat.mul_one _] at h1
                first | exact h1.take _ | exact (h2 ‹_› _).take _ | (simp [Addr.add] at h1; exact h1.take _)
              case k2 => rw [List.length_take, List.length_drop]; omega
              case k3 => rw [List.length_take, List.length_drop]; omega
              rintro e w' ⟨v, rfl, HO, HB⟩
              go_wp2
              go_ret3
              exact page_good H1.out HA.out (by simp; omega) (HO.sl.mono fun k h _ => by rcases h with h | h; exact h.elim; exact Nat.le_trans HD.out.below.size (HO.lt k h).1) (below_step HD.out.below HB)
end Go.Proofs.WK
