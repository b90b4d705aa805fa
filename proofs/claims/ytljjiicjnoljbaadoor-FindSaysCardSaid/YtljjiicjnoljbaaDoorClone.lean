/-
  slices.Clone at this program's element types; record.Copied.
-/
import Derived.Test.YtljjiicjnoljbaaDoorRecP
import Derived.Test.YtljjiicjnoljbaaDoorBox
namespace Go.Proofs.WK
open Go.RowKit Rp
theorem Own.sl_new {α : Type} {d : Rp α} {e base : Nat} {w : World} {v : Value} {xs : List α} (h : d.Own e w base (fun k => base ≤ k) v xs) : d.Sl w (fun k => base ≤ k) v xs :=
  h.sl.mono fun k hk _ => hk.elim id fun h2 => (h.lt k h2).1
theorem infoF : (Tryd.prog.info? 46).map (fun i => (i.zero, i.size, i.bytes)) = some (some (.agg #[.string ByteArray.empty, .string ByteArray.empty]), 2, 32) := by kernel_rfl
theorem infoV : (Tryd.prog.info? 62).map (fun i => (i.zero, i.size, i.bytes)) = some (some (.agg #[.string ByteArray.empty, .int .i64 0, .slice none 0 0, .slice none 0 0, .bool false]), 5, 80) := by kernel_rfl
theorem infoSt : (Tryd.prog.info? 9).map (fun i => (i.zero, i.size, i.bytes)) = some (some (.string ByteArray.empty), 1, 16) := by kernel_rfl
set_option maxHeartbeats 800000 in
set_option maxRecDepth 100000 in
theorem cloneF (A : Option Addr) (c : Nat) (l : List Fld) (ok : Nat → Prop) (w : World) (hr : fldR.Row w ok A l) (hl : l.length * 32 ≤ 140737488355328) :
    Calls Tryd.prog 113 #[.slice A l.length c] w fun e w' => ∃ v, e = .returned v ∧ fldR.Own 46 w' w.heap.size (fun k => ok k ∧ k < w.heap.size) v l ∧ Below w.heap.size w w' := by
  have HR := Aside.mk (hr.mono (ok' := fun k => ok k ∧ k < w.heap.size) fun k h1 h2 => ⟨h1, h2⟩)
  clear hr
  have he := fun (W : World) (a : Option Addr) (n c : Nat) => Lib.run_eql_slice_nil (P := Tryd.prog) W 32 46 a n c 0 0 Tryd.underlying32
  cases A with
  | none =>
    have h0 : l = [] := by
      cases l with
      | nil => rfl
      | cons y ys => obtain ⟨_, e, _⟩ := HR.out.2 0 y rfl; cases e
    subst h0
    go_enter Tryd.func113, Tryd.ntmps113
    go_wp2
    go_ret
    exact ⟨_, rfl, Own.nil _ _ _ _ _, Below.refl _ _⟩
  | some ad =>
    go_enter Tryd.func113, Tryd.ntmps113
    go_wp2_with (at_builtin; refine append_row (w0 := w) (ok1 := fun k => ok k ∧ k < w.heap.size) fldR w.heap.size rfl (.tmp 5) (.tmp 6) 32 46 _ 32 rfl Tryd.underlying32 infoF rfl (by decide) (by decide) (.slice (some ⟨w.heap.size, 0, none⟩) 0 0) [] l (some ad) c (fun k => ok k ∧ k < w.heap.size) rfl rfl ?hp (fun _ _ h => fldR.mono (fun k h1 _ => ⟨h1, by have := h1.2; simp [Value.ownBlock]; omega⟩) h) ?ho ?hb ?hs ?hl ?_; (case hl => simpa using hl); (case hs => simp); (case hb => exact (Below.refl _ _).alloc (Nat.le_refl _) _); (case ho => exact Own.empty _ _ _ _ _ (Nat.le_refl _)); (case hp => exact HR.out.below ((Below.refl _ _).alloc (Nat.le_refl _) _)); intro v1 w1 HO HB hg hat)
    go_ret
    exact ⟨_, rfl, by simpa using HO, HB⟩
set_option maxHeartbeats 800000 in
set_option maxRecDepth 100000 in
theorem cloneSt (A : Option Addr) (c : Nat) (l : List ByteArray) (ok : Nat → Prop) (w : World) (hr : str.Row w ok A l) (hl : l.length * 16 ≤ 140737488355328) :
    Calls Tryd.prog 114 #[.slice A l.length c] w fun e w' => ∃ v, e = .returned v ∧ str.Own 9 w' w.heap.size (fun k => ok k ∧ k < w.heap.size) v l ∧ Below w.heap.size w w' := by
  have HR := Aside.mk (hr.mono (ok' := fun k => ok k ∧ k < w.heap.size) fun k h1 h2 => ⟨h1, h2⟩)
  clear hr
  have he := fun (W : World) (a : Option Addr) (n c : Nat) => Lib.run_eql_slice_nil (P := Tryd.prog) W 33 9 a n c 0 0 Tryd.underlying33
  cases A with
  | none =>
    have h0 : l = [] := by
      cases l with
      | nil => rfl
      | cons y ys => obtain ⟨_, e, _⟩ := HR.out.2 0 y rfl; cases e
    subst h0
    go_enter Tryd.func114, Tryd.ntmps114
    go_wp2
    go_ret
    exact ⟨_, rfl, Own.nil _ _ _ _ _, Below.refl _ _⟩
  | some ad =>
    go_enter Tryd.func114, Tryd.ntmps114
    go_wp2_with (at_builtin; refine append_row (w0 := w) (ok1 := fun k => ok k ∧ k < w.heap.size) str w.heap.size rfl (.tmp 5) (.tmp 6) 33 9 _ 16 rfl Tryd.underlying33 infoSt rfl (by decide) (by decide) (.slice (some ⟨w.heap.size, 0, none⟩) 0 0) [] l (some ad) c (fun k => ok k ∧ k < w.heap.size) rfl rfl ?hp (fun _ _ h => str.mono (fun k h1 _ => ⟨h1, by have := h1.2; simp [Value.ownBlock]; omega⟩) h) ?ho ?hb ?hs ?hl ?_; (case hl => simpa using hl); (case hs => simp); (case hb => exact (Below.refl _ _).alloc (Nat.le_refl _) _); (case ho => exact Own.empty _ _ _ _ _ (Nat.le_refl _)); (case hp => exact HR.out.below ((Below.refl _ _).alloc (Nat.le_refl _) _)); intro v1 w1 HO HB hg hat)
    go_ret
    exact ⟨_, rfl, by simpa using HO, HB⟩
set_option maxHeartbeats 800000 in
set_option maxRecDepth 100000 in
theorem cloneV (A : Option Addr) (c : Nat) (l : List Ver) (ok : Nat → Prop) (w : World) (hr : verR.Row w ok A l) (hl : l.length * 80 ≤ 140737488355328) :
    Calls Tryd.prog 63 #[.slice A l.length c] w fun e w' => ∃ v, e = .returned v ∧ verR.Own 62 w' w.heap.size (fun k => ok k ∧ k < w.heap.size) v l ∧ Below w.heap.size w w' := by
  have HR := Aside.mk (hr.mono (ok' := fun k => ok k ∧ k < w.heap.size) fun k h1 h2 => ⟨h1, h2⟩)
  clear hr
  have he := fun (W : World) (a : Option Addr) (n c : Nat) => Lib.run_eql_slice_nil (P := Tryd.prog) W 31 62 a n c 0 0 Tryd.underlying31
  cases A with
  | none =>
    have h0 : l = [] := by
      cases l with
      | nil => rfl
      | cons y ys => obtain ⟨_, e, _⟩ := HR.out.2 0 y rfl; cases e
    subst h0
    go_enter Tryd.func63, Tryd.ntmps63
    go_wp2
    go_ret
    exact ⟨_, rfl, Own.nil _ _ _ _ _, Below.refl _ _⟩
  | some ad =>
    go_enter Tryd.func63, Tryd.ntmps63
    go_wp2_with (at_builtin; refine append_row (w0 := w) (ok1 := fun k => ok k ∧ k < w.heap.size) verR w.heap.size rfl (.tmp 5) (.tmp 6) 31 62 _ 80 rfl Tryd.underlying31 infoV rfl (by decide) (by decide) (.slice (some ⟨w.heap.size, 0, none⟩) 0 0) [] l (some ad) c (fun k => ok k ∧ k < w.heap.size) rfl rfl ?hp (fun _ _ h => verR.mono (fun k h1 _ => ⟨h1, by have := h1.2; simp [Value.ownBlock]; omega⟩) h) ?ho ?hb ?hs ?hl ?_; (case hl => simpa using hl); (case hs => simp); (case hb => exact (Below.refl _ _).alloc (Nat.le_refl _) _); (case ho => exact Own.empty _ _ _ _ _ (Nat.le_refl _)); (case hp => exact HR.out.below ((Below.refl _ _).alloc (Nat.le_refl _) _)); intro v1 w1 HO HB hg hat)
    go_ret
    exact ⟨_, rfl, by simpa using HO, HB⟩
end Go.Proofs.WK
