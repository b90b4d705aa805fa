/-
  Servers as plain data (P35 to P42), and what who may not see some kinds sees of them. No walk.
-/
import Derived.Test.YtljjiicjnoljbaaDat
import Derived.Test.YtljjiicjnoljbaaPart
import Derived.Test.YtljjiicjnoljbaaMay
namespace Go.Proofs.WK
structure Srv where
  up : List Int
  rules : List Rul
  l : List Ver
  notes : List Nte
structure OpV where
  kind : Int
  who : Who
  rules : List Rul
  r : Rec
  id : ByteArray
  f : Fld
structure Told where
  code : Int
  vers : List Ver
  ids : List ByteArray
  notes : List Nte
def Told.err (e : Int) : Told := ⟨e, [], [], []⟩
/-- P37. -/
def putE (s : Srv) (o : OpV) : Int :=
  if recErr o.r ≠ 0 then recErr o.r else if mayErr s.up s.rules o.who o.r.cats ≠ 0 then mayErr s.up s.rules o.who o.r.cats else if mayV s.up s.rules o.who o.r.cats = false then 6 else putErr s.l o.r
/-- P38. -/
def cutE (s : Srv) (o : OpV) : Int :=
  if mayErr s.up s.rules o.who o.r.cats ≠ 0 then mayErr s.up s.rules o.who o.r.cats else if mayV s.up s.rules o.who o.r.cats = false then 6 else cutErr s.l o.id o.r.cats
def oneV (l : List Ver) (id : ByteArray) : List Ver := if getErr l id = 0 then [⟨getR l id, false⟩] else []
/-- P41. -/
def needE (s : Srv) (o : OpV) : Int := if seesErr s.up s.rules o.who ≠ 0 then seesErr s.up s.rules o.who else if s.notes.length = 60 then 2 else getErr s.l o.id
/-- What somebody may see. -/
def mineE (s : Srv) (q : Who) : Int := if seesErr s.up s.rules q ≠ 0 then seesErr s.up s.rules q else partErr s.l (seesV s.up s.rules q)
def mineV (s : Srv) (q : Who) : List Ver := if mineE s q = 0 then seenL s.l (seesV s.up s.rules q) else []
/-- P36 to P42. -/
def doS (s : Srv) (o : OpV) : Srv × Told :=
  if o.kind = 1 then (if rulesErr o.rules = 0 then { s with rules := o.rules } else s, .err (rulesErr o.rules))
  else if o.kind = 2 then (if putE s o = 0 then { s with l := putV s.l o.r } else s, .err (putE s o))
  else if o.kind = 3 then (if cutE s o = 0 then { s with l := cutV s.l o.id o.r.cats } else s, .err (cutE s o))
  else if o.kind = 7 then (if needE s o = 0 then { s with notes := s.notes ++ [⟨o.who, o.id⟩] } else s, ⟨needE s o, if needE s o = 0 then oneV s.l o.id else [], [], []⟩)
  else if o.kind = 8 then (s, if seesErr s.up s.rules o.who ≠ 0 then .err (seesErr s.up s.rules o.who) else if (seesV s.up s.rules o.who : Int) ≠ 255 then .err 6 else ⟨0, [], [], s.notes⟩)
  else if o.kind = 4 ∨ o.kind = 5 ∨ o.kind = 6 then
    (s, if mineE s o.who ≠ 0 then .err (mineE s o.who)
      else if o.kind = 4 then ⟨getErr (mineV s o.who) o.id, oneV (mineV s o.who) o.id, [], []⟩
      else if o.kind = 6 then ⟨histErr (mineV s o.who) o.id, histV (mineV s o.who) o.id, [], []⟩
      else ⟨byErr (mineV s o.who) o.f, [], byV (mineV s o.who) o.f, []⟩)
  else (s, .err 3)
theorem doS_rules {s : Srv} {o : OpV} (hk : o.kind = 1) : doS s o = (if rulesErr o.rules = 0 then { s with rules := o.rules } else s, .err (rulesErr o.rules)) := by
  unfold doS
  rw [if_pos hk]
theorem doS_put {s : Srv} {o : OpV} (hk : o.kind = 2) : doS s o = (if putE s o = 0 then { s with l := putV s.l o.r } else s, .err (putE s o)) := by
  unfold doS
  rw [if_neg (by omega), if_pos hk]
theorem doS_cut {s : Srv} {o : OpV} (hk : o.kind = 3) : doS s o = (if cutE s o = 0 then { s with l := cutV s.l o.id o.r.cats } else s, .err (cutE s o)) := by
  unfold doS
  rw [if_neg (by omega), if_neg (by omega), if_pos hk]
def lookT (s : Srv) (o : OpV) : Told :=
  if mineE s o.who ≠ 0 then .err (mineE s o.who)
  else if o.kind = 4 then ⟨getErr (mineV s o.who) o.id, oneV (mineV s o.who) o.id, [], []⟩
  else if o.kind = 6 then ⟨histErr (mineV s o.who) o.id, histV (mineV s o.who) o.id, [], []⟩
  else ⟨byErr (mineV s o.who) o.f, [], byV (mineV s o.who) o.f, []⟩
theorem doS_look {s : Srv} {o : OpV} (hk : o.kind = 4 ∨ o.kind = 5 ∨ o.kind = 6) : doS s o = (s, lookT s o) := by
  unfold doS
  rw [if_neg (by omega), if_neg (by omega), if_neg (by omega), if_neg (by omega), if_neg (by omega), if_pos hk]
  rfl
/-! ### a store grows, and may be -/
theorem same_app (l : List Ver) (v : Ver) (c : Int) : sameN (l ++ [v]) c = sameN l c + if v.r.cats = c then 1 else 0 := by
  unfold sameN
  rw [List.filter_append, List.length_append]
  by_cases h : v.r.cats = c <;> simp [h]
theorem under_len {l : List Ver} (h : ∀ c : Int, sameN l c ≤ 20) : ∀ n : Nat, (l.filter fun v => decide (0 ≤ v.r.cats ∧ v.r.cats < (n : Int))).length ≤ 20 * n
  | 0 => by
    rw [List.filter_eq_nil_iff.2 (fun v _ => by simp <;> omega)]
    simp
  | n + 1 => by
    have ih := under_len h n
    have key : ∀ l : List Ver, (l.filter fun v => decide (0 ≤ v.r.cats ∧ v.r.cats < ((n + 1 : Nat) : Int))).length = (l.filter fun v => decide (0 ≤ v.r.cats ∧ v.r.cats < (n : Int))).length + sameN l n := by
      intro l
      induction l with
      | nil => simp [sameN]
      | cons v l ih2 =>
        unfold sameN at *
        simp only [List.filter_cons]
        by_cases h1 : v.r.cats = n
        · rw [if_pos (by simp; omega), if_neg (by simp; omega), if_pos (by simp [h1])]
          simp only [List.length_cons]
          omega
        · by_cases h2 : 0 ≤ v.r.cats ∧ v.r.cats < n
          · rw [if_pos (by simp; omega), if_pos (by simp; omega), if_neg (by simp [h1])]
            simp only [List.length_cons]
            omega
          · rw [if_neg (by simp; omega), if_neg (by simp; omega), if_neg (by simp [h1])]
            omega
    rw [key]
    have := h n
    omega
theorem all_len {l : List Ver} (h : ∀ c : Int, sameN l c ≤ 20) (hc : ∀ v ∈ l, 0 ≤ v.r.cats ∧ v.r.cats ≤ 255) : l.length ≤ 5120 := by
  have h1 := under_len h 256
  rw [List.filter_eq_self.2 (fun v hv => by have := hc v hv; simp; omega)] at h1
  omega
theorem livesK_app (l : List Ver) (v : Ver) (id : ByteArray) (c : Int) : ∀ k, k ≤ l.length → livesK (l ++ [v]) id c k = livesK l id c k
  | 0, _ => rfl
  | k + 1, h => by
    rw [livesK, livesK, livesK_app l v id c k (by omega), List.getElem?_append_left (by omega)]
theorem verErr_app {l : List Ver} {v : Ver} {k : Nat} (hk : k < l.length) : verErr (l ++ [v]) k = verErr l k := by
  unfold verErr goneBad
  rw [List.getElem?_append_left hk, List.getElem?_eq_getElem hk]
  simp only
  rw [List.take_append_of_le_length (by omega), livesK_app l v _ _ k (by omega)]
theorem firstI_zero {f : Nat → Int} : ∀ {n : Nat}, (∀ k, k < n → f k = 0) → firstI f n = 0
  | 0, _ => rfl
  | n + 1, h => firstI_step (firstI_zero fun k hk => h k (by omega)) (h n (by omega))
theorem store_app {l : List Ver} {v : Ver} (h : storeErr l = 0) (hr : recErr v.r = 0) (hs : sameN l v.r.cats < 20) (hg : goneBad l v l.length = false) : storeErr (l ++ [v]) = 0 := by
  have hsame : ∀ c, sameN (l ++ [v]) c ≤ 20 := fun c => by
    rw [same_app]
    have := store_same h c
    split
    · rename_i e; subst e; omega
    · omega
  have hlen := all_len hsame fun x hx => by
    rcases List.mem_append.1 hx with h1 | h1
    · have := rec_ok (store_rec h x h1); exact ⟨this.2.1, this.2.2.1⟩
    · rw [List.mem_singleton.1 h1]; have := rec_ok hr; exact ⟨this.2.1, this.2.2.1⟩
  unfold storeErr
  rw [if_neg (by omega)]
  refine firstI_zero fun k hk => ?_
  by_cases hkl : k < l.length
  · rw [verErr_app hkl, verErr_at hkl]
    obtain ⟨h1, h2, h3⟩ := (store_ok h).2 k hkl
    rw [if_neg (by simpa using h1), if_neg (by omega), if_neg (by simp [h3])]
  · have e : k = l.length := by rw [List.length_append] at hk; simp at hk; omega
    subst e
    have hat : (l ++ [v])[l.length]'hk = v := by simp
    rw [verErr_at hk, hat, if_neg (by simpa using hr)]
    rw [if_neg (by rw [show l.length + 1 = (l ++ [v]).length by simp, List.take_length]; have := hsame v.r.cats; omega)]
    unfold goneBad at hg ⊢
    rw [livesK_app l v _ _ _ (Nat.le_refl _), hg, if_neg (by simp)]
theorem put_ok {l : List Ver} {r : Rec} (h : storeErr l = 0) (h1 : putErr l r = 0) : storeErr (l ++ [⟨r, false⟩]) = 0 := by
  rw [putErr, if_neg (by simpa using h)] at h1
  split at h1
  · exact absurd h1 ‹_›
  · rename_i hr
    split at h1
    · cases h1
    · exact store_app h (by simpa using hr) (by simp only; omega) (by simp [goneBad])
theorem cut_ok {l : List Ver} {id : ByteArray} {c : Int} (h : storeErr l = 0) (h1 : cutErr l id c = 0) : storeErr (l ++ [⟨⟨id, c, [], []⟩, true⟩]) = 0 := by
  rw [cutErr, if_neg (by simpa using h)] at h1
  split at h1
  · cases h1
  · rename_i hi
    split at h1
    · cases h1
    · rename_i hc
      split at h1
      · cases h1
      · rename_i hl
        split at h1
        · cases h1
        · refine store_app h ?_ (by simp only; omega) ?_
          · rw [recErr_end (by simpa using hi) (by simpa using hc) (by simp)]
            simp [fldsOk, refsOk, srtB]
          · unfold goneBad
            simp only [Bool.true_and, List.length_nil]
            unfold livesI at hl
            simp
            omega
end Go.Proofs.WK
