/-
  The literal map[bool]string{true: "yes", false: "no"}, as runs.
-/
import Derived.Test.YtljjiicjnoljbaaDoorLogP
import Derived.Maps.Keyed
namespace Go.Proofs.WK
open Go.RowKit Go.Maps Rp
noncomputable def boolK {P : Program} {k : TypeId} (hk : P.underlying k = some .bool) : KT P k Bool where
  kv := Value.bool
  kf := Lit.bool
  okk := fun _ => True
  law := bool_keyed hk
  key := fun x _ => keyOf_bool_mk hk x
  inv := fun v kl h => by
    cases v <;> simp [keyOf, hk, mapKey] at h
    subst h
    exact ⟨_, trivial, rfl, rfl⟩
  inj := fun _ _ _ _ h => by injection h
theorem zeroStrY (w : World) : (zeroValue 9).run Tryd.prog w = .ok (.string ByteArray.empty) w := by kernel_rfl
noncomputable def kB : KT Tryd.prog 4 Bool := boolK Tryd.underlying4
noncomputable def eY : ET Tryd.prog 9 ByteArray := strE Tryd.underlying9 zeroStrY
theorem map_upd {P : Program} {k e t : TypeId} {κ ε : Type} [DecidableEq κ] {K : KT P k κ} {E : ET P e ε} {w : World} {b n : Nat} {f : κ → Option ε} (ht : P.underlying t = some (.map k e)) (h : MapIs K E w b n f) (hn : n < maxLen) (key : κ) (hkey : K.okk key) (y : ε) (hy : E.oke y) :
    ∃ w', (Instr.mapUpdate t (.map (some b)) (K.kv key) (E.ev y)).run P w = .ok () w' ∧ MapIs K E w' b (n + 1) (fun z => if z = key then some y else f z) ∧ w.grownBy w' (some b) := by
  obtain ⟨D, h1, h2⟩ := h
  have hD : IsMap D := by obtain ⟨es, clock, _, _, _, rfl⟩ := h1; exact ⟨_, rfl⟩
  obtain ⟨w', hrun, r1, r2⟩ := h1.update K.law ht hn (K.key key hkey) (E.elem y hy)
  exact ⟨w', hrun, ⟨_, r1, says_put hD h2 key hkey y⟩, r2⟩
/-- Made, filled, looked up. -/
theorem yes_map (w : World) : ∃ W1 W2 W3, (Instr.makeMap 100 none).run Tryd.prog w = .ok (.map (some w.heap.size)) W1 ∧
    (Instr.mapUpdate 100 (.map (some w.heap.size)) (.bool true) (.string ⟨#[121, 101, 115]⟩)).run Tryd.prog W1 = .ok () W2 ∧
    (Instr.mapUpdate 100 (.map (some w.heap.size)) (.bool false) (.string ⟨#[110, 111]⟩)).run Tryd.prog W2 = .ok () W3 ∧
    (∀ b, (Instr.lookup 100 (.map (some w.heap.size)) (.bool b) false).run Tryd.prog W3 = .ok (.string (yesS b)) W3) ∧ Below w.heap.size w W1 ∧ Below w.heap.size w W2 ∧ Below w.heap.size w W3 ∧ w.heap.size < W3.heap.size := by
  have m1 := MapIs.made kB eY w
  have ht : Tryd.prog.underlying 100 = some (.map 4 9) := Tryd.underlying100
  obtain ⟨W2, r2, m2, g2⟩ := map_upd ht m1 (by decide) true trivial ⟨#[121, 101, 115]⟩ (show (3 : Nat) ≤ maxLen by decide)
  obtain ⟨W3, r3, m3, g3⟩ := map_upd ht m2 (by decide) false trivial ⟨#[110, 111]⟩ (show (2 : Nat) ≤ maxLen by decide)
  have b1 : Below w.heap.size w (w.alloc (.map #[] 0)) := (Below.refl _ _).alloc (Nat.le_refl _) _
  have b2 : Below w.heap.size w W2 := b1.grown g2 b1.size fun j hj => by injection hj with hj; omega
  have b3 : Below w.heap.size w W3 := b2.grown g3 b2.size fun j hj => by injection hj with hj; omega
  refine ⟨_, W2, W3, run_makeMap _ w, r2, r3, fun b => ?_, b1, b2, b3, m3.lt⟩
  have h := map_run ht m3 b trivial
  cases b <;> exact h
end Go.Proofs.WK
