/-
  strings.Join, as this program bears it.
-/
import Derived.Test.YtljjiicjnoljbaaGreatDoorTxt0
import Derived.Test.YtljjiicjnoljbaaGreatDoorShJoin
import Derived.Test.YtljjiicjnoljbaaGreatDoorShItoa
namespace Go.Proofs.WK
open Go.RowKit Rp
theorem joinX : Builder.Extra Tryz.prog Tryz.layJoin_ren := {
  sizeBuilder := by kernel_rfl
  liesBuilder := by kernel_rfl
  t5 := Tryz.layItoa.t5
  a5 := Tryz.layItoa.a5
  z5 := Tryz.layItoa.z5
  v5 := Tryz.layItoa.v5
  infoByte := by kernel_rfl
  cellsByte := by kernel_rfl
  sizeByte := by kernel_rfl
  neB5 := by decide }
theorem infoStJ : (Tryz.prog.info? 9).map (fun i => (i.zero, i.size, i.bytes)) = some (some (.string ByteArray.empty), 1, 16) := by kernel_rfl
theorem Rp.Sl.frm {α : Type} {d : Rp α} {w : World} {ok : Nat → Prop} {v : Value} {xs : List α} (h : d.Sl w ok v xs) : ∃ A c, v = .slice A xs.length c ∧ xs.length ≤ c := by obtain ⟨A, c, rfl, hc, _⟩ := h; exact ⟨A, c, rfl, hc⟩
/-- Texts with a separator between. -/
def joinV (l : List ByteArray) (s : ByteArray) : ByteArray := bs (Lib.join (l.map (·.data.toList)) s.data.toList)
theorem cell_spot {w : World} {a : Addr} {v : Value} (h : w.cell? a = some v) : a = ⟨a.block, a.off, none⟩ := by
  unfold World.cell? at h
  cases hb : w.heap[a.block]? with
  | none => rw [hb] at h; cases h
  | some o =>
    rw [hb] at h
    cases o with
    | cells c t f =>
      cases hs : a.spot with
      | some s => simp [hs] at h
      | none => cases a; simp only at hs; rw [hs]
    | _ => cases h
theorem joinC (A : Option Addr) (c : Nat) (l : List ByteArray) (s : ByteArray) (ok : Nat → Prop) (w : World) (h : str.Row w ok A l) (hc : l.length ≤ c) (hz : l.length ≤ 140737488355328) (hlen : (joinV l s).size ≤ 140737488355328) :
    Calls Tryz.prog 195 #[.slice A l.length c, .string s] w fun e w' => e = .returned (.string (joinV l s)) ∧ Below w.heap.size w w' := by
  rw [joinV, bs_size] at hlen
  rcases Nat.lt_or_ge l.length 2 with h2 | h2
  · match l, h2 with
    | [], _ => exact (Any.strings_Join_none Tryz.layJoin joinX A c s w).mono fun e w' ⟨h1, h2⟩ => ⟨h1, h2 ▸ Below.refl _ _⟩
    | [x], _ =>
      obtain ⟨ad, rfl, _, x0⟩ := str_at h (Nat.zero_lt_one : 0 < [x].length)
      have e := cell_spot x0
      rw [show ad.add 0 = ad from if_pos rfl] at x0 e
      rw [e] at x0 ⊢
      refine (Any.strings_Join_one Tryz.layJoin joinX ad.block ad.off c x s w x0).mono fun e w' ⟨h1, h2⟩ => ⟨?_, h2 ▸ Below.refl _ _⟩
      rw [h1]
      simp [joinV, Lib.join_one, data_bs]
  · obtain ⟨ad, rfl, hb, x0⟩ := str_at h (Nat.lt_of_lt_of_le Nat.zero_lt_two h2)
    have e := cell_spot x0
    rw [show ad.add 0 = ad from if_pos rfl] at x0 e
    refine (show Calls Tryz.prog 195 #[.slice (some ad) l.length c, .string s] w _ from ?_)
    rw [e]
    refine Any.strings_Join_many Tryz.layJoin joinX ad.block ad.off c l s w (fun j x hj => ?_) hb h2 hz hc hlen
    obtain ⟨hl, rfl⟩ := List.getElem?_eq_some_iff.1 hj
    obtain ⟨ad', e', _, x1⟩ := str_at h hl
    cases e'
    rw [e] at x1
    rcases Nat.eq_zero_or_pos j with h0 | h0
    · subst h0
      exact x1
    · rwa [Addr.add, if_neg (by omega)] at x1
theorem joinN (A : Option Addr) (c n : Nat) (l : List ByteArray) (s : ByteArray) (ok : Nat → Prop) (w : World) (h : str.Row w ok A l) (hn : l.length = n) (hc : l.length ≤ c) (hz : l.length ≤ 140737488355328) (hlen : (joinV l s).size ≤ 140737488355328) :
    Calls Tryz.prog 195 #[.slice A n c, .string s] w fun e w' => e = .returned (.string (joinV l s)) ∧ Below w.heap.size w w' := by
  subst hn
  exact joinC A c l s ok w h hc hz hlen
theorem joinV_size (l : List ByteArray) (s : ByteArray) (N : Nat) (h : ∀ x ∈ l, x.size + s.size ≤ N) : (joinV l s).size ≤ N * l.length := by
  rw [joinV, bs_size]
  have key : ∀ r : List ByteArray, (∀ x ∈ r, x.size + s.size ≤ N) → (Lib.joinTail s.data.toList (r.map (·.data.toList))).length ≤ N * r.length := by
    intro r
    induction r with
    | nil => intro _; simp [Lib.joinTail]
    | cons a r ih =>
      intro hr
      have h1 := ih fun x hx => hr x (List.mem_cons_of_mem _ hx)
      have h2 := hr a (List.mem_cons_self ..)
      have e1 : a.data.toList.length = a.size := Array.length_toList
      have e2 : s.data.toList.length = s.size := Array.length_toList
      unfold Lib.joinTail at h1 ⊢
      simp only [List.map_cons, List.flatten_cons, List.length_append, List.length_cons, Nat.mul_add, Nat.mul_one, e1, e2]
      omega
  cases l with
  | nil => simp [Lib.join_nil]
  | cons a r =>
    have h1 := key r fun x hx => h x (List.mem_cons_of_mem _ hx)
    have h2 := h a (List.mem_cons_self ..)
    have e1 : a.data.toList.length = a.size := Array.length_toList
    rw [List.map_cons, Lib.join_cons]
    simp only [List.length_append, List.length_cons, Nat.mul_add, Nat.mul_one, e1]
    omega
end Go.Proofs.WK
