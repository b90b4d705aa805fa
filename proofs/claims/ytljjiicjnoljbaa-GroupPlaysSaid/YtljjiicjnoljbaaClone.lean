/-
  slices.Clone at this program's element types; record.Copied.
-/
import Derived.Test.YtljjiicjnoljbaaDat
import Derived.Test.YtljjiicjnoljbaaWk0
namespace Go.Proofs.WK
open Go.RowKit Rp
theorem Own.sl_new {α : Type} {d : Rp α} {e base : Nat} {w : World} {v : Value} {xs : List α} (h : d.Own e w base (fun k => base ≤ k) v xs) : d.Sl w (fun k => base ≤ k) v xs :=
  h.sl.mono fun k hk _ => hk.elim id fun h2 => (h.lt k h2).1
theorem infoF : (Try.prog.info? 60).map (fun i => (i.zero, i.size, i.bytes)) = some (some (.agg #[.string ByteArray.empty, .string ByteArray.empty]), 2, 32) := by kernel_rfl
theorem infoV : (Try.prog.info? 129).map (fun i => (i.zero, i.size, i.bytes)) = some (some (.agg #[.string ByteArray.empty, .int .i64 0, .slice none 0 0, .slice none 0 0, .bool false]), 5, 80) := by kernel_rfl
theorem infoR : (Try.prog.info? 44).map (fun i => (i.zero, i.size, i.bytes)) = some (some (.agg #[.int .i64 0, .int .i64 0, .int .i64 0, .int .i64 0, .int .i64 0, .bool false]), 6, 48) := by kernel_rfl
theorem infoN : (Try.prog.info? 120).map (fun i => (i.zero, i.size, i.bytes)) = some (some (.agg #[.int .i64 0, .int .i64 0, .int .i64 0, .string ByteArray.empty]), 4, 40) := by kernel_rfl
theorem infoSt : (Try.prog.info? 9).map (fun i => (i.zero, i.size, i.bytes)) = some (some (.string ByteArray.empty), 1, 16) := by kernel_rfl
theorem infoI : (Try.prog.info? 3).map (fun i => (i.zero, i.size, i.bytes)) = some (some (.int .i64 0), 1, 8) := by kernel_rfl
set_option maxHeartbeats 800000 in
set_option maxRecDepth 100000 in
theorem cloneF (A : Option Addr) (c : Nat) (l : List Fld) (ok : Nat → Prop) (w : World) (hr : fldR.Row w ok A l) (hl : l.length * 32 ≤ 140737488355328) :
    Calls Try.prog 119 #[.slice A l.length c] w fun e w' => ∃ v, e = .returned v ∧ fldR.Own 60 w' w.heap.size (fun k => ok k ∧ k < w.heap.size) v l ∧ Below w.heap.size w w' := by
  have HR := Aside.mk (hr.mono (ok' := fun k => ok k ∧ k < w.heap.size) fun k h1 h2 => ⟨h1, h2⟩)
  clear hr
  have he := fun (W : World) (a : Option Addr) (n c : Nat) => Lib.run_eql_slice_nil (P := Try.prog) W 56 60 a n c 0 0 Try.underlying56
  cases A with
  | none =>
    have h0 : l = [] := by
      cases l with
      | nil => rfl
      | cons y ys => obtain ⟨_, e, _⟩ := HR.out.2 0 y rfl; cases e
    subst h0
    go_enter Try.func119, Try.ntmps119
    go_wp2
    go_ret
    exact ⟨_, rfl, Own.nil _ _ _ _ _, Below.refl _ _⟩
  | some ad =>
    go_enter Try.func119, Try.ntmps119
    go_wp2_with (at_builtin; refine append_row (w0 := w) (ok1 := fun k => ok k ∧ k < w.heap.size) fldR w.heap.size rfl (.tmp 5) (.tmp 6) 56 60 _ 32 rfl Try.underlying56 infoF rfl (by decide) (by decide) (.slice (some ⟨w.heap.size, 0, none⟩) 0 0) [] l (some ad) c (fun k => ok k ∧ k < w.heap.size) rfl rfl ?hp (fun _ _ h => fldR.mono (fun k h1 _ => ⟨h1, by have := h1.2; simp [Value.ownBlock]; omega⟩) h) ?ho ?hb ?hs ?hl ?_; (case hl => simpa using hl); (case hs => simp); (case hb => exact (Below.refl _ _).alloc (Nat.le_refl _) _); (case ho => exact Own.empty _ _ _ _ _ (Nat.le_refl _)); (case hp => exact HR.out.below ((Below.refl _ _).alloc (Nat.le_refl _) _)); intro v1 w1 HO HB hg hat)
    go_ret
    exact ⟨_, rfl, by simpa using HO, HB⟩
set_option maxHeartbeats 800000 in
set_option maxRecDepth 100000 in
theorem cloneSt (A : Option Addr) (c : Nat) (l : List ByteArray) (ok : Nat → Prop) (w : World) (hr : str.Row w ok A l) (hl : l.length * 16 ≤ 140737488355328) :
    Calls Try.prog 56 #[.slice A l.length c] w fun e w' => ∃ v, e = .returned v ∧ str.Own 9 w' w.heap.size (fun k => ok k ∧ k < w.heap.size) v l ∧ Below w.heap.size w w' := by
  have HR := Aside.mk (hr.mono (ok' := fun k => ok k ∧ k < w.heap.size) fun k h1 h2 => ⟨h1, h2⟩)
  clear hr
  have he := fun (W : World) (a : Option Addr) (n c : Nat) => Lib.run_eql_slice_nil (P := Try.prog) W 22 9 a n c 0 0 Try.underlying22
  cases A with
  | none =>
    have h0 : l = [] := by
      cases l with
      | nil => rfl
      | cons y ys => obtain ⟨_, e, _⟩ := HR.out.2 0 y rfl; cases e
    subst h0
    go_enter Try.func56, Try.ntmps56
    go_wp2
    go_ret
    exact ⟨_, rfl, Own.nil _ _ _ _ _, Below.refl _ _⟩
  | some ad =>
    go_enter Try.func56, Try.ntmps56
    go_wp2_with (at_builtin; refine append_row (w0 := w) (ok1 := fun k => ok k ∧ k < w.heap.size) str w.heap.size rfl (.tmp 5) (.tmp 6) 22 9 _ 16 rfl Try.underlying22 infoSt rfl (by decide) (by decide) (.slice (some ⟨w.heap.size, 0, none⟩) 0 0) [] l (some ad) c (fun k => ok k ∧ k < w.heap.size) rfl rfl ?hp (fun _ _ h => str.mono (fun k h1 _ => ⟨h1, by have := h1.2; simp [Value.ownBlock]; omega⟩) h) ?ho ?hb ?hs ?hl ?_; (case hl => simpa using hl); (case hs => simp); (case hb => exact (Below.refl _ _).alloc (Nat.le_refl _) _); (case ho => exact Own.empty _ _ _ _ _ (Nat.le_refl _)); (case hp => exact HR.out.below ((Below.refl _ _).alloc (Nat.le_refl _) _)); intro v1 w1 HO HB hg hat)
    go_ret
    exact ⟨_, rfl, by simpa using HO, HB⟩
set_option maxHeartbeats 800000 in
set_option maxRecDepth 100000 in
theorem cloneV (A : Option Addr) (c : Nat) (l : List Ver) (ok : Nat → Prop) (w : World) (hr : verR.Row w ok A l) (hl : l.length * 80 ≤ 140737488355328) :
    Calls Try.prog 84 #[.slice A l.length c] w fun e w' => ∃ v, e = .returned v ∧ verR.Own 129 w' w.heap.size (fun k => ok k ∧ k < w.heap.size) v l ∧ Below w.heap.size w w' := by
  have HR := Aside.mk (hr.mono (ok' := fun k => ok k ∧ k < w.heap.size) fun k h1 h2 => ⟨h1, h2⟩)
  clear hr
  have he := fun (W : World) (a : Option Addr) (n c : Nat) => Lib.run_eql_slice_nil (P := Try.prog) W 66 129 a n c 0 0 Try.underlying66
  cases A with
  | none =>
    have h0 : l = [] := by
      cases l with
      | nil => rfl
      | cons y ys => obtain ⟨_, e, _⟩ := HR.out.2 0 y rfl; cases e
    subst h0
    go_enter Try.func84, Try.ntmps84
    go_wp2
    go_ret
    exact ⟨_, rfl, Own.nil _ _ _ _ _, Below.refl _ _⟩
  | some ad =>
    go_enter Try.func84, Try.ntmps84
    go_wp2_with (at_builtin; refine append_row (w0 := w) (ok1 := fun k => ok k ∧ k < w.heap.size) verR w.heap.size rfl (.tmp 5) (.tmp 6) 66 129 _ 80 rfl Try.underlying66 infoV rfl (by decide) (by decide) (.slice (some ⟨w.heap.size, 0, none⟩) 0 0) [] l (some ad) c (fun k => ok k ∧ k < w.heap.size) rfl rfl ?hp (fun _ _ h => verR.mono (fun k h1 _ => ⟨h1, by have := h1.2; simp [Value.ownBlock]; omega⟩) h) ?ho ?hb ?hs ?hl ?_; (case hl => simpa using hl); (case hs => simp); (case hb => exact (Below.refl _ _).alloc (Nat.le_refl _) _); (case ho => exact Own.empty _ _ _ _ _ (Nat.le_refl _)); (case hp => exact HR.out.below ((Below.refl _ _).alloc (Nat.le_refl _) _)); intro v1 w1 HO HB hg hat)
    go_ret
    exact ⟨_, rfl, by simpa using HO, HB⟩
set_option maxHeartbeats 800000 in
set_option maxRecDepth 100000 in
theorem cloneR (A : Option Addr) (c : Nat) (l : List Rul) (ok : Nat → Prop) (w : World) (hr : rulR.Row w ok A l) (hl : l.length * 48 ≤ 140737488355328) :
    Calls Try.prog 71 #[.slice A l.length c] w fun e w' => ∃ v, e = .returned v ∧ rulR.Own 44 w' w.heap.size (fun k => ok k ∧ k < w.heap.size) v l ∧ Below w.heap.size w w' := by
  have HR := Aside.mk (hr.mono (ok' := fun k => ok k ∧ k < w.heap.size) fun k h1 h2 => ⟨h1, h2⟩)
  clear hr
  have he := fun (W : World) (a : Option Addr) (n c : Nat) => Lib.run_eql_slice_nil (P := Try.prog) W 40 44 a n c 0 0 Try.underlying40
  cases A with
  | none =>
    have h0 : l = [] := by
      cases l with
      | nil => rfl
      | cons y ys => obtain ⟨_, e, _⟩ := HR.out.2 0 y rfl; cases e
    subst h0
    go_enter Try.func71, Try.ntmps71
    go_wp2
    go_ret
    exact ⟨_, rfl, Own.nil _ _ _ _ _, Below.refl _ _⟩
  | some ad =>
    go_enter Try.func71, Try.ntmps71
    go_wp2_with (at_builtin; refine append_row (w0 := w) (ok1 := fun k => ok k ∧ k < w.heap.size) rulR w.heap.size rfl (.tmp 5) (.tmp 6) 40 44 _ 48 rfl Try.underlying40 infoR rfl (by decide) (by decide) (.slice (some ⟨w.heap.size, 0, none⟩) 0 0) [] l (some ad) c (fun k => ok k ∧ k < w.heap.size) rfl rfl ?hp (fun _ _ h => rulR.mono (fun k h1 _ => ⟨h1, by have := h1.2; simp [Value.ownBlock]; omega⟩) h) ?ho ?hb ?hs ?hl ?_; (case hl => simpa using hl); (case hs => simp); (case hb => exact (Below.refl _ _).alloc (Nat.le_refl _) _); (case ho => exact Own.empty _ _ _ _ _ (Nat.le_refl _)); (case hp => exact HR.out.below ((Below.refl _ _).alloc (Nat.le_refl _) _)); intro v1 w1 HO HB hg hat)
    go_ret
    exact ⟨_, rfl, by simpa using HO, HB⟩
set_option maxHeartbeats 800000 in
set_option maxRecDepth 100000 in
theorem cloneN (A : Option Addr) (c : Nat) (l : List Nte) (ok : Nat → Prop) (w : World) (hr : nteR.Row w ok A l) (hl : l.length * 40 ≤ 140737488355328) :
    Calls Try.prog 75 #[.slice A l.length c] w fun e w' => ∃ v, e = .returned v ∧ nteR.Own 120 w' w.heap.size (fun k => ok k ∧ k < w.heap.size) v l ∧ Below w.heap.size w w' := by
  have HR := Aside.mk (hr.mono (ok' := fun k => ok k ∧ k < w.heap.size) fun k h1 h2 => ⟨h1, h2⟩)
  clear hr
  have he := fun (W : World) (a : Option Addr) (n c : Nat) => Lib.run_eql_slice_nil (P := Try.prog) W 67 120 a n c 0 0 Try.underlying67
  cases A with
  | none =>
    have h0 : l = [] := by
      cases l with
      | nil => rfl
      | cons y ys => obtain ⟨_, e, _⟩ := HR.out.2 0 y rfl; cases e
    subst h0
    go_enter Try.func75, Try.ntmps75
    go_wp2
    go_ret
    exact ⟨_, rfl, Own.nil _ _ _ _ _, Below.refl _ _⟩
  | some ad =>
    go_enter Try.func75, Try.ntmps75
    go_wp2_with (at_builtin; refine append_row (w0 := w) (ok1 := fun k => ok k ∧ k < w.heap.size) nteR w.heap.size rfl (.tmp 5) (.tmp 6) 67 120 _ 40 rfl Try.underlying67 infoN rfl (by decide) (by decide) (.slice (some ⟨w.heap.size, 0, none⟩) 0 0) [] l (some ad) c (fun k => ok k ∧ k < w.heap.size) rfl rfl ?hp (fun _ _ h => nteR.mono (fun k h1 _ => ⟨h1, by have := h1.2; simp [Value.ownBlock]; omega⟩) h) ?ho ?hb ?hs ?hl ?_; (case hl => simpa using hl); (case hs => simp); (case hb => exact (Below.refl _ _).alloc (Nat.le_refl _) _); (case ho => exact Own.empty _ _ _ _ _ (Nat.le_refl _)); (case hp => exact HR.out.below ((Below.refl _ _).alloc (Nat.le_refl _) _)); intro v1 w1 HO HB hg hat)
    go_ret
    exact ⟨_, rfl, by simpa using HO, HB⟩
set_option maxHeartbeats 800000 in
set_option maxRecDepth 100000 in
theorem cloneI (A : Option Addr) (c : Nat) (l : List Int) (ok : Nat → Prop) (w : World) (hr : int.Row w ok A l) (hl : l.length * 8 ≤ 140737488355328) :
    Calls Try.prog 100 #[.slice A l.length c] w fun e w' => ∃ v, e = .returned v ∧ int.Own 3 w' w.heap.size (fun k => ok k ∧ k < w.heap.size) v l ∧ Below w.heap.size w w' := by
  have HR := Aside.mk (hr.mono (ok' := fun k => ok k ∧ k < w.heap.size) fun k h1 h2 => ⟨h1, h2⟩)
  clear hr
  have he := fun (W : World) (a : Option Addr) (n c : Nat) => Lib.run_eql_slice_nil (P := Try.prog) W 39 3 a n c 0 0 Try.underlying39
  cases A with
  | none =>
    have h0 : l = [] := by
      cases l with
      | nil => rfl
      | cons y ys => obtain ⟨_, e, _⟩ := HR.out.2 0 y rfl; cases e
    subst h0
    go_enter Try.func100, Try.ntmps100
    go_wp2
    go_ret
    exact ⟨_, rfl, Own.nil _ _ _ _ _, Below.refl _ _⟩
  | some ad =>
    go_enter Try.func100, Try.ntmps100
    go_wp2_with (at_builtin; refine append_row (w0 := w) (ok1 := fun k => ok k ∧ k < w.heap.size) int w.heap.size rfl (.tmp 5) (.tmp 6) 39 3 _ 8 rfl Try.underlying39 infoI rfl (by decide) (by decide) (.slice (some ⟨w.heap.size, 0, none⟩) 0 0) [] l (some ad) c (fun k => ok k ∧ k < w.heap.size) rfl rfl ?hp (fun _ _ h => int.mono (fun k h1 _ => ⟨h1, by have := h1.2; simp [Value.ownBlock]; omega⟩) h) ?ho ?hb ?hs ?hl ?_; (case hl => simpa using hl); (case hs => simp); (case hb => exact (Below.refl _ _).alloc (Nat.le_refl _) _); (case ho => exact Own.empty _ _ _ _ _ (Nat.le_refl _)); (case hp => exact HR.out.below ((Below.refl _ _).alloc (Nat.le_refl _) _)); intro v1 w1 HO HB hg hat)
    go_ret
    exact ⟨_, rfl, by simpa using HO, HB⟩
end Go.Proofs.WK
