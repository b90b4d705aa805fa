/-
  wyref.nums, said: a line's words as the document reads them (P47).
-/
import Derived.Test.YtljjiicjnoljbaaGreatDoorParse
import Derived.Test.YtljjiicjnoljbaaGreatDoorNumR
import Derived.Test.YtljjiicjnoljbaaGreatDoorRdW0
namespace Go.Proofs.WK
open Go.RowKit Rp
set_option maxRecDepth 100000 in
set_option maxHeartbeats 4000000 in
theorem refNums (A : Option Addr) (c n : Nat) (l : List ByteArray) (ok : Nat → Prop) (w : World) (hr : str.Row w ok A l) (hn : l.length = n) (hz : ∀ x ∈ l, x.size < 4294967281) (hlen : l.length ≤ 4294967281) :
    Calls Tryz.prog 186 #[.slice A n c] w fun e w' => ∃ v, e = .returned (.tuple #[v, .bool (numsX l).isSome]) ∧ (∀ ns, numsX l = some ns → int.Sl w' (fun k => w.heap.size ≤ k) v ns) ∧ Below w.heap.size w w' := by
  subst hn
  have HR := Aside.mk hr
  have HZ := Aside.mk hz
  clear hr hz
  go_enter Tryz.func186, Tryz.ntmps186
  go_wp2_with fail
  go_loopw [4, 11] (fun o i wr => ∃ (k : Nat) (ns : List Int), k ≤ l.length ∧ i = .int .i64 k ∧ Aside (numsX (l.take k) = some ns) ∧ Aside (int.Own 3 wr w.heap.size (fun _ => False) o ns) ∧ Aside (Below w.heap.size w wr)) (fun _ i _ => l.length - (intOf i).toNat)
  case atStart => exact ⟨0, [], Nat.zero_le _, rfl, ⟨by rw [List.take_zero]; rfl⟩, ⟨Own.nil _ _ _ _ _⟩, ⟨Below.refl _ _⟩⟩
  case round =>
    obtain ⟨k, ns, hk, rfl, HN, HO, HB⟩ := hrel
    obtain ⟨Ao, co, rfl, _⟩ := HO.out.sl.frm
    by_cases hlt : k < l.length
    · have p0 : (0 : Int) ≤ (k : Int) := by omega
      have p1 : (k : Int) < (l.length : Int) := by omega
      obtain ⟨ad, rfl, _, x0⟩ := str_at (HR.out.below HB.out) hlt
      have HM := Aside.mk (List.getElem_mem hlt)
      have HC := Aside.mk (refNum l[k] wr (HZ.out _ HM.out))
      have hnl := numsX_len HN.out
      rw [List.length_take, Nat.min_eq_left hk] at hnl
      have HST := Aside.mk (show numsX (l.take (k + 1)) = (numV l[k]).map fun n => ns ++ [n] by rw [List.take_succ_eq_append_getElem hlt, numsX_snoc HN.out])
      have HBD := Aside.mk (fun (h : numV l[k] = none) => numsX_bad HM.out h)
      generalize l[k] = x at *
      go_wp2_with fail
      refine HC.out.mono ?_
      rintro e w2 ⟨v, rfl, hv, hb⟩
      have HO2 := Aside.mk (HO.out.below hb)
      have HB2 := Aside.mk (below_step HB.out hb)
      clear hb HC
      cases hx : numV x with
      | none =>
        have HE := Aside.mk (HBD.out hx)
        rw [show (none : Option Int).isSome = false from rfl]
        clear hx hv
        go_wp2_with fail
        refine bodyPost_ret (v := .tuple #[.slice none 0 0, .bool false]) (by simp [results, Tryz.results186, go_sem]) rfl ?_
        rw [HE.out]
        exact ⟨_, rfl, fun ns h => by (cases h), HB2.out⟩
      | some m =>
        obtain rfl := hv m hx
        rw [show (some v : Option Int).isSome = true from rfl]
        have HST2 := Aside.mk (show numsX (l.take (k + 1)) = some (ns ++ [v]) by rw [HST.out, hx]; rfl)
        have HLN : Aside ((ns.length + 1) * 8 ≤ 140737488355328) := ⟨by omega⟩
        have hone : (ns ++ [v]).length = ns.length + 1 := by simp
        clear hx hv hnl
        go_wp2_with (at_builtin
                     refine append_one (w0 := w2) int w.heap.size rfl (.tmp 22) (.tmp 24) 79 3 (.int .i64 0) 8 rfl Tryz.underlying79 infoI rfl Nat.one_pos (Nat.succ_pos _) (.slice Ao ns.length co) ns v [.int .i64 v] (fun _ => False) rfl rfl rfl HO2.out (Below.refl _ _) HB2.out.size HLN.out ?_
                     intro v1 w3 HO3 HB3 hg hat
                     have HX := Aside.mk HO3
                     have HY := Aside.mk (HB2.out.trans (HB3.mono (Nat.le_refl _)))
                     clear HO3 HB3 hg hat)
        exact ⟨⟨k + 1, _, by omega, by go_num, HST2, HX, HY⟩, by simp [intOf]; omega⟩
    · obtain rfl : k = l.length := by omega
      rw [List.take_length] at HN
      have HNN := Aside.mk HN.out
      go_wp2_with fail
      refine bodyPost_ret (v := .tuple #[.slice Ao ns.length co, .bool true]) (by simp [results, Tryz.results186, go_sem]) rfl ?_
      rw [HNN.out]
      exact ⟨_, rfl, fun ns' h => by (injection h with h; subst h; exact HO.out.sl.mono fun k hk _ => (HO.out.lt k (hk.elim False.elim id)).1), HB.out⟩
end Go.Proofs.WK
