/-
  The law FindPages, walked: it returns true.
-/
import Derived.Test.YtljjiicjnoljbaaFindP
namespace Go.Proofs.WK
open Go.RowKit Rp

def wantAt (ids : List ByteArray) (k : Nat) : Int := if 5120 < ids.length then 2 else if srtB (ids.take k) = false then 3 else 0
def abc : List ByteArray := [⟨#[97]⟩, ⟨#[98]⟩, ⟨#[99]⟩]
theorem abc_page : pageErr abc 1 = 0 ∧ pageL abc ⟨#[97]⟩ 1 = [⟨#[98]⟩] ∧ pageMore abc ⟨#[97]⟩ 1 = true := by decide +kernel

theorem want_zero (ids : List ByteArray) : wantAt ids 0 = if 5120 < ids.length then 2 else 0 := by simp [wantAt, srtB]
theorem want_stay {ids : List ByteArray} {k : Nat} (h : wantAt ids k ≠ 0) : wantAt ids (k + 1) = wantAt ids k := by
  unfold wantAt at h ⊢
  by_cases h5 : 5120 < ids.length
  · simp [h5]
  · by_cases hs : srtB (ids.take k) = false
    · have : srtB (ids.take (k + 1)) = false := Bool.eq_false_iff.2 fun h1 => by
        have h2 := srt_take h1 k
        rw [List.take_take, Nat.min_eq_left (by omega), hs] at h2
        cases h2
      simp [h5, hs, this]
    · simp [h5, hs] at h
theorem want_step {ids : List ByteArray} {k : Nat} (h : wantAt ids k = 0) (h0 : 0 < k) (hk : k < ids.length) : wantAt ids (k + 1) = if slt (ids[k - 1]'(by omega)) ids[k] = true then 0 else 3 := by
  unfold wantAt at h ⊢
  by_cases h5 : 5120 < ids.length
  · simp [h5] at h
  · by_cases hs : srtB (ids.take k) = false
    · simp [h5, hs] at h
    · rw [if_neg h5, srtB_at ids k h0 hk, (by simpa using hs : srtB (ids.take k) = true)]
      cases slt (ids[k - 1]'(by omega)) ids[k] <;> simp
theorem want_one {ids : List ByteArray} (h : wantAt ids 0 = 0) : wantAt ids 1 = 0 := by
  unfold wantAt at h ⊢
  by_cases h5 : 5120 < ids.length
  · simp [h5] at h
  · have : srtB (ids.take 1) = true := by match ids with | [] => rfl | _ :: _ => rfl
    simp [h5, this]
theorem want_end (ids : List ByteArray) (n : Int) : pageErr ids n = if wantAt ids ids.length = 0 then (if n < 1 ∨ 60 < n then 1 else 0) else wantAt ids ids.length := by
  unfold wantAt pageErr
  rw [List.take_length]
  by_cases h5 : 5120 < ids.length
  · simp [h5]
  · by_cases hs : srtB ids = false <;> simp [h5, hs]
def pgAll (ids : List ByteArray) (from_ : ByteArray) (N k : Nat) : List ByteArray := (above (ids.take k) from_).take N
def pgLeft (ids : List ByteArray) (from_ : ByteArray) (N k : Nat) : Bool := decide (N < (above (ids.take k) from_).length)
theorem above_snoc (ids : List ByteArray) (from_ : ByteArray) {k : Nat} (h : k < ids.length) : above (ids.take (k + 1)) from_ = above (ids.take k) from_ ++ if slt from_ ids[k] = true then [ids[k]] else [] := by
  unfold above
  rw [List.take_succ_eq_append_getElem h, List.filter_append]
  cases hb : slt from_ ids[k] <;> simp [hb]
theorem pg_no {ids : List ByteArray} {from_ : ByteArray} {N k : Nat} (h : k < ids.length) (hb : slt from_ ids[k] = false) : pgAll ids from_ N (k + 1) = pgAll ids from_ N k ∧ pgLeft ids from_ N (k + 1) = pgLeft ids from_ N k := by
  unfold pgAll pgLeft
  rw [above_snoc ids from_ h, hb]
  simp
theorem pg_add {ids : List ByteArray} {from_ : ByteArray} {N k : Nat} (h : k < ids.length) (hb : slt from_ ids[k] = true) (hl : (pgAll ids from_ N k).length < N) : pgAll ids from_ N (k + 1) = pgAll ids from_ N k ++ [ids[k]] ∧ pgLeft ids from_ N (k + 1) = pgLeft ids from_ N k := by
  unfold pgAll pgLeft at *
  rw [List.length_take] at hl
  rw [above_snoc ids from_ h, hb]
  simp only [if_true, List.length_append, List.length_singleton]
  refine ⟨?_, by rw [decide_eq_decide]; omega⟩
  generalize above (ids.take k) from_ = L at *
  rw [List.take_of_length_le (l := L ++ [ids[k]]) (by simp; omega), List.take_of_length_le (l := L) (by omega)]
theorem pg_full {ids : List ByteArray} {from_ : ByteArray} {N k : Nat} (h : k < ids.length) (hb : slt from_ ids[k] = true) (hl : ¬ (pgAll ids from_ N k).length < N) : pgAll ids from_ N (k + 1) = pgAll ids from_ N k ∧ pgLeft ids from_ N (k + 1) = true := by
  unfold pgAll pgLeft at *
  rw [List.length_take] at hl
  rw [above_snoc ids from_ h, hb]
  simp only [if_true, List.length_append, List.length_singleton]
  refine ⟨?_, by simp; omega⟩
  rw [List.take_append_of_le_length (by omega)]
theorem pg_le (ids : List ByteArray) (from_ : ByteArray) (N k : Nat) : (pgAll ids from_ N k).length ≤ N := by unfold pgAll; rw [List.length_take]; omega
theorem leB (a b : ByteArray) : (Op.bytesLess a.toList b.toList || a.toList == b.toList) = !slt b a := by
  rw [toList_beq]
  show (slt a b || decide (a = b)) = !slt b a
  rcases slt_tri a b with h | h | h
  · rw [h, slt_asymm h]; simp
  · subst h; simp [slt_irrefl]
  · rw [slt_asymm h, h]; simp [(slt_ne h).symm]
set_option maxHeartbeats 1600000 in
set_option maxRecDepth 100000 in
theorem findPagesL (A : Option Addr) (c : Nat) (ids : List ByteArray) (from_ : ByteArray) (n : Int) (ok : Nat → Prop) (w : World) (hr : str.Row w ok A ids) (hc : ids.length ≤ c) (hn1 : -9223372036854775808 ≤ n) (hn2 : n ≤ 9223372036854775807) :
    Calls Try.prog 3 #[.slice A ids.length c, .string from_, .int .i64 n] w fun e w' => e = .returned (.bool true) ∧ Below w.heap.size w w' := by
  have HR := Aside.mk hr
  have b1 := hr.1
  clear hr
  go_enter Try.func3, Try.ntmps3
  go_wp2_with fail
  refine (pageS _ _ _ _ _ _ _ HR.out hc hn1 hn2).mono ?_
  rintro e w1 ⟨_, rfl, ⟨A1, c1, rfl, hc1, hs1⟩, hb1⟩
  have HS1 := Aside.mk hs1
  have HB1 := Aside.mk hb1
  clear hs1 hb1
  go_wp2_with fail
  have hlit := (Own.lit str 9 w1 0 (fun _ => False) (Nat.zero_le _) (reps_str w1 _ abc) (by decide)).row
  refine (pageS _ 3 abc _ 1 _ _ hlit.2.2 (by decide) (by decide) (by decide)).mono ?_
  rintro e w2 ⟨_, rfl, ⟨A2, c2, rfl, hc2, hs2⟩, hb2⟩
  have HS2 := Aside.mk hs2
  have HB2 := Aside.mk (below_step (HB1.out.alloc HB1.out.size _) hb2)
  have HS1 := Aside.mk ((HS1.out.below ((Below.refl _ _).alloc (Nat.le_refl _) _)).below hb2)
  clear hs2 hb2 hlit
  rw [abc_page.1, abc_page.2.2]
  go_wp2_with fail
  have hlit := (Own.lit str 9 w2 0 (fun _ => False) (Nat.zero_le _) (reps_str w2 _ [⟨#[98]⟩]) (by decide)).row
  refine (equalS _ _ _ _ _ [⟨#[98]⟩] _ _ _ (HS2.out.below ((Below.refl _ _).alloc (Nat.le_refl _) _)) hlit.2.2).mono ?_
  rintro e w3 ⟨rfl, hd⟩
  rw [abc_page.2.1]
  have hb3 := (below_step ((Below.refl w2.heap.size w2).alloc (Nat.le_refl _) (.cells ([⟨#[98]⟩].map Value.string).toArray 9)) hd.below)
  have HB3 := Aside.mk (below_step HB2.out hb3)
  have HS1 := Aside.mk (HS1.out.below hb3)
  clear hd hb3 hlit HS2 hc2 HB2
  have h5 : (decide (5120 < (ids.length : Int)) = true ∧ wantAt ids 0 = 2) ∨ (decide (5120 < (ids.length : Int)) = false ∧ wantAt ids 0 = 0) := by
    rw [want_zero]
    by_cases h : 5120 < ids.length
    · exact .inl ⟨by simp; omega, if_pos h⟩
    · exact .inr ⟨by simp; omega, if_neg h⟩
  rcases h5 with ⟨h5, hW⟩ | ⟨h5, hW⟩
  all_goals
    have HW0 := Aside.mk hW
    clear hW
    go_wp2_with fail
    go_loopw [13, 14, 50] (fun a _ i wr => ∃ k : Nat, k ≤ ids.length ∧ i = .int .i64 k ∧ a = .int .i64 (wantAt ids k) ∧ Aside (Below w3.heap.size w3 wr)) (fun _ _ i _ => ids.length - (intOf i).toNat)
    case atStart => exact ⟨0, Nat.zero_le _, rfl, by rw [HW0.out], ⟨Below.refl _ _⟩⟩
    case round =>
      obtain ⟨k, hk, rfl, rfl, HB⟩ := hrel
      have hbw := Aside.mk (below_step HB3.out HB.out)
      by_cases hlt : k < ids.length
      · have g1 : decide ((k : Int) < (ids.length : Int)) = true := by simp; omega
        have p0 : (0 : Int) ≤ (k : Int) := by omega
        have p1 : (k : Int) < (ids.length : Int) := by omega
        by_cases hz : wantAt ids k = 0
        · by_cases h0 : 0 < k
          · obtain ⟨ad, rfl, _, h1⟩ := str_at (HR.out.below hbw.out) hlt
            obtain ⟨ad2, e2, _, h2⟩ := str_at (HR.out.below hbw.out) (k := k - 1) (by omega)
            cases e2
            have HN := Aside.mk (want_step hz h0 hlt)
            have hle := leB ids[k] ids[k - 1]
            rw [hz]
            clear hz
            have g0 : decide ((0 : Int) < (k : Int)) = true := by simp; omega
            have p2 : (0 : Int) ≤ (k : Int) - 1 := by omega
            have p3 : (k : Int) - 1 < (ids.length : Int) := by omega
            cases hb : slt ids[k - 1] ids[k]
            all_goals
              rw [hb] at hle
              go_wp2
              go_quiet (fail)
              go_wp2
              refine ⟨⟨k + 1, by omega, by go_num, by rw [HN.out, hb]; rfl, ⟨below_drewN HB.out _⟩⟩, by simp [intOf]; omega⟩
          · obtain rfl : k = 0 := by omega
            have HN := Aside.mk (want_one hz)
            rw [hz]
            clear hz
            have g0 : decide ((0 : Int) < ((0 : Nat) : Int)) = false := by simp
            go_wp2
            go_quiet (fail)
            go_wp2
            refine ⟨⟨1, by omega, rfl, by rw [HN.out], ⟨below_drewN HB.out _⟩⟩, by simp [intOf]; omega⟩
        · have HN := Aside.mk (want_stay hz)
          have g0 : (wantAt ids k == 0) = false := by simp [hz]
          clear hz
          go_wp2
          go_quiet (fail)
          go_wp2
          refine ⟨⟨k + 1, by omega, by go_num, by rw [HN.out], ⟨below_drewN HB.out _⟩⟩, by simp [intOf]; omega⟩
      · obtain rfl : k = ids.length := by omega
        have g1 : decide ((ids.length : Int) < (ids.length : Int)) = false := by simp
        have hE := want_end ids n
        by_cases hz : wantAt ids ids.length = 0
        · rw [hz]
          rw [if_pos hz] at hE
          clear hz
          by_cases hn : n < 1 ∨ 60 < n
          · rw [if_pos hn] at hE
            have g4 : pageL ids from_ n = [] := by rw [pageL, hE]; rfl
            have g5 : pageMore ids from_ n = false := by rw [pageMore, hE]; rfl
            rw [hE, g4, g5]
            clear hE g4 g5
            by_cases hn0 : n < 1
            · clear hn
              go_wp2
              go_ret
              exact ⟨rfl, hbw.out⟩
            · have hn3 : 60 < n := by omega
              clear hn
              go_wp2
              go_ret
              exact ⟨rfl, hbw.out⟩
          · rw [if_neg hn] at hE
            have g4 : pageL ids from_ n = pgAll ids from_ n.toNat ids.length := by rw [pageL, if_pos hE, pgAll, List.take_length]
            have g5 : pageMore ids from_ n = pgLeft ids from_ n.toNat ids.length := by rw [pageMore, hE, pgLeft, List.take_length]; simp; omega
            rw [hE, g5]
            rw [g4] at HS1 hc1
            rw [g4]
            clear hE g4 g5
            obtain ⟨N, rfl⟩ : ∃ N : Nat, n = (N : Int) := ⟨n.toNat, by omega⟩
            have q1 : 1 ≤ N := by omega
            have q2 : N ≤ 60 := by omega
            rw [Int.toNat_natCast] at HS1 hc1
            rw [Int.toNat_natCast]
            clear hn
            go_wp2_with fail
            go_loopw [15, 16, 18, 98] (fun v b _ i wq => ∃ k : Nat, k ≤ ids.length ∧ i = .int .i64 k ∧ b = .bool (pgLeft ids from_ N k) ∧ Aside (str.Own 9 wq w3.heap.size (fun _ => False) v (pgAll ids from_ N k)) ∧ Aside (∃ A' c', v = .slice A' (pgAll ids from_ N k).length c') ∧ Aside (Below w3.heap.size w3 wq)) (fun _ _ _ i _ => ids.length - (intOf i).toNat)
            case atStart => exact ⟨0, Nat.zero_le _, rfl, by simp [above, pgLeft], ⟨by simpa [above, pgAll] using Own.nil _ _ _ _ _⟩, ⟨none, 0, by simp [above, pgAll]⟩, HB⟩
            case round =>
              clear HB hbw
              obtain ⟨k, hk, rfl, rfl, HO, ⟨A3, c3, rfl⟩, HB⟩ := hrel
              have hbw := Aside.mk (below_step HB3.out HB.out)
              by_cases hlt : k < ids.length
              · have g1 : decide ((k : Int) < (ids.length : Int)) = true := by simp; omega
                obtain ⟨ad, rfl, _, h1⟩ := str_at (HR.out.below hbw.out) hlt
                have hle := leB ids[k] from_
                have hpl := pg_le ids from_ N k
                cases hb : slt from_ ids[k] with
                | false =>
                  have HP := Aside.mk (pg_no (N := N) hlt hb)
                  rw [hb] at hle
                  go_wp2_with fail
                  refine ⟨⟨k + 1, by omega, by go_num, by rw [HP.out.2], by rw [HP.out.1]; exact HO, by rw [HP.out.1]; exact ⟨_, _, rfl⟩, HB⟩, by simp [intOf]; omega⟩
                | true =>
                  rw [hb] at hle
                  by_cases hN : (pgAll ids from_ N k).length < N
                  · have HP := Aside.mk (pg_add hlt hb hN)
                    go_wp2_with (at_builtin; refine append_one (w0 := w3) str w3.heap.size rfl (.tmp 109) (.tmp 111) 22 9 (.string ByteArray.empty) 16 rfl Try.underlying22 infoStr rfl Nat.one_pos (Nat.succ_pos _) _ (pgAll ids from_ N k) ids[k] [.string ids[k]] (fun _ => False) rfl rfl rfl ?ho ?hb ?hs ?hl ?_; (case ho => exact HO.out); (case hb => exact HB.out); (case hs => exact HB.out.size); (case hl => omega); intro v1 w5 HO1 HB1 hg hat; obtain ⟨A5, c5, rfl, hc5, hr5⟩ := HO1.sl; have HO5 := Aside.mk HO1; have HB5 := Aside.mk HB1; clear HO1 HB1 hg hat hr5)
                    refine ⟨⟨k + 1, by omega, by go_num, by rw [HP.out.2], by rw [HP.out.1]; simpa using HO5, by rw [HP.out.1]; exact ⟨A5, c5, by simp⟩, HB5⟩, by simp [intOf]; omega⟩
                  · have HP := Aside.mk (pg_full hlt hb hN)
                    go_wp2_with fail
                    refine ⟨⟨k + 1, by omega, by go_num, by rw [HP.out.2], by rw [HP.out.1]; exact HO, by rw [HP.out.1]; exact ⟨_, _, rfl⟩, HB⟩, by simp [intOf]; omega⟩
              · obtain rfl : k = ids.length := by omega
                have g1 : decide ((ids.length : Int) < (ids.length : Int)) = false := by simp
                go_wp2_with fail
                refine (equalS _ _ _ _ _ _ _ _ _ (HS1.out.below HB.out) HO.out.row.2.2).mono ?_
                rintro e w6 ⟨rfl, hd⟩
                have HB6 := Aside.mk (below_step hbw.out hd.below)
                clear hd
                go_wp2_with fail
                go_ret
                exact ⟨by simp, HB6.out⟩
        · rw [if_neg hz] at hE
          rw [← hE]
          have HP := Aside.mk (show pageErr ids n ≠ 0 by rw [hE]; exact hz)
          have g2 : (pageErr ids n == 0) = false := by simp [HP.out]
          have g3 : (pageErr ids n != 0) = true := by simp [HP.out]
          have g4 : pageL ids from_ n = [] := by rw [pageL, if_neg HP.out]
          have g5 : pageMore ids from_ n = false := by rw [pageMore, g2]; rfl
          rw [g4, g5]
          clear hE hz g4 g5
          go_wp2
          go_ret
          exact ⟨rfl, hbw.out⟩
end Go.Proofs.WK
