/-
  Servers as plain data (P35 to P42), and what who may not see some kinds sees of them. No walk.
  Servers in memory; server.one.
  (*Server).put (P37).
  (*Server).cut (P38).
  server.New, Rules, Versions (P35, P43); wykeep.Within.
  (*Server).Do, kind by kind: put, cut.
  (*Server).Do, kind by kind: rules.
  (*Server).Do, kind by kind: get, hist, find; and who may not ask.
  (*Server).Do at the kinds 1 to 6: one contract.
-/
import Derived.Deep.RegionHeld3
import Derived.Test.YtljjiicjnoljbaaGreatDoorDat
import Derived.Test.YtljjiicjnoljbaaGreatDoorOpv
import Derived.Test.YtljjiicjnoljbaaGreatDoorFnd0
import Derived.Test.YtljjiicjnoljbaaGreatDoorRol0
import Derived.Test.YtljjiicjnoljbaaGreatDoorSto0
import Derived.Test.YtljjiicjnoljbaaGreatDoorRec0
namespace Go.Proofs.WK
structure Srv where
  up : List Int
  rules : List Rul
  l : List Ver
  notes : List Nte
  nv : Value
structure Told where
  code : Int
  vers : List Ver
  ids : List ByteArray
  notes : List Nte
def Told.err (e : Int) : Told := ⟨e, [], [], []⟩
/-- P37. -/
def putE (s : Srv) (o : OpV) : Int :=
  if recErr o.r ≠ 0 then recErr o.r else if mayErr s.up s.rules o.who o.r.cats ≠ 0 then mayErr s.up s.rules o.who o.r.cats else if mayV s.up s.rules o.who o.r.cats = false then 6 else putErr s.l o.r
/-- P38. -/
def cutE (s : Srv) (o : OpV) : Int :=
  if mayErr s.up s.rules o.who o.r.cats ≠ 0 then mayErr s.up s.rules o.who o.r.cats else if mayV s.up s.rules o.who o.r.cats = false then 6 else cutErr s.l o.id o.r.cats
def oneV (l : List Ver) (id : ByteArray) : List Ver := if getErr l id = 0 then [⟨getR l id, false⟩] else []
/-- P41. -/
def needE (s : Srv) (o : OpV) : Int := if seesErr s.up s.rules o.who ≠ 0 then seesErr s.up s.rules o.who else if s.notes.length = 60 then 2 else getErr s.l o.id
/-- What somebody may see. -/
def mineE (s : Srv) (q : Who) : Int := if seesErr s.up s.rules q ≠ 0 then seesErr s.up s.rules q else partErr s.l (seesV s.up s.rules q)
def mineV (s : Srv) (q : Who) : List Ver := if mineE s q = 0 then seenL s.l (seesV s.up s.rules q) else []
/-- P36 to P42. -/
def doS (s : Srv) (o : OpV) : Srv × Told :=
  if o.kind = 1 then (if rulesErr o.rules = 0 then { s with rules := o.rules } else s, .err (rulesErr o.rules))
  else if o.kind = 2 then (if putE s o = 0 then { s with l := putV s.l o.r } else s, .err (putE s o))
  else if o.kind = 3 then (if cutE s o = 0 then { s with l := cutV s.l o.id o.r.cats } else s, .err (cutE s o))
  else if o.kind = 7 then (if needE s o = 0 then { s with notes := s.notes ++ [⟨o.who, o.id⟩] } else s, ⟨needE s o, if needE s o = 0 then oneV s.l o.id else [], [], []⟩)
  else if o.kind = 8 then (s, if seesErr s.up s.rules o.who ≠ 0 then .err (seesErr s.up s.rules o.who) else if (seesV s.up s.rules o.who : Int) ≠ 255 then .err 6 else ⟨0, [], [], s.notes⟩)
  else if o.kind = 4 ∨ o.kind = 5 ∨ o.kind = 6 then
    (s, if mineE s o.who ≠ 0 then .err (mineE s o.who)
      else if o.kind = 4 then ⟨getErr (mineV s o.who) o.id, oneV (mineV s o.who) o.id, [], []⟩
      else if o.kind = 6 then ⟨histErr (mineV s o.who) o.id, histV (mineV s o.who) o.id, [], []⟩
      else ⟨byErr (mineV s o.who) o.f, [], byV (mineV s o.who) o.f, []⟩)
  else (s, .err 3)
theorem doS_rules {s : Srv} {o : OpV} (hk : o.kind = 1) : doS s o = (if rulesErr o.rules = 0 then { s with rules := o.rules } else s, .err (rulesErr o.rules)) := by
  unfold doS
  rw [if_pos hk]
theorem doS_put {s : Srv} {o : OpV} (hk : o.kind = 2) : doS s o = (if putE s o = 0 then { s with l := putV s.l o.r } else s, .err (putE s o)) := by
  unfold doS
  rw [if_neg (by omega), if_pos hk]
theorem doS_cut {s : Srv} {o : OpV} (hk : o.kind = 3) : doS s o = (if cutE s o = 0 then { s with l := cutV s.l o.id o.r.cats } else s, .err (cutE s o)) := by
  unfold doS
  rw [if_neg (by omega), if_neg (by omega), if_pos hk]
def lookT (s : Srv) (o : OpV) : Told :=
  if mineE s o.who ≠ 0 then .err (mineE s o.who)
  else if o.kind = 4 then ⟨getErr (mineV s o.who) o.id, oneV (mineV s o.who) o.id, [], []⟩
  else if o.kind = 6 then ⟨histErr (mineV s o.who) o.id, histV (mineV s o.who) o.id, [], []⟩
  else ⟨byErr (mineV s o.who) o.f, [], byV (mineV s o.who) o.f, []⟩
theorem doS_look {s : Srv} {o : OpV} (hk : o.kind = 4 ∨ o.kind = 5 ∨ o.kind = 6) : doS s o = (s, lookT s o) := by
  unfold doS
  rw [if_neg (by omega), if_neg (by omega), if_neg (by omega), if_neg (by omega), if_neg (by omega), if_pos hk]
  rfl
/-! ### a store grows, and may be -/
theorem same_app (l : List Ver) (v : Ver) (c : Int) : sameN (l ++ [v]) c = sameN l c + if v.r.cats = c then 1 else 0 := by
  unfold sameN
  rw [List.filter_append, List.length_append]
  by_cases h : v.r.cats = c <;> simp [h]
theorem under_len {l : List Ver} (h : ∀ c : Int, sameN l c ≤ 20) : ∀ n : Nat, (l.filter fun v => decide (0 ≤ v.r.cats ∧ v.r.cats < (n : Int))).length ≤ 20 * n
  | 0 => by
    rw [List.filter_eq_nil_iff.2 (fun v _ => by simp <;> omega)]
    simp
  | n + 1 => by
    have ih := under_len h n
    have key : ∀ l : List Ver, (l.filter fun v => decide (0 ≤ v.r.cats ∧ v.r.cats < ((n + 1 : Nat) : Int))).length = (l.filter fun v => decide (0 ≤ v.r.cats ∧ v.r.cats < (n : Int))).length + sameN l n := by
      intro l
      induction l with
      | nil => simp [sameN]
      | cons v l ih2 =>
        unfold sameN at *
        simp only [List.filter_cons]
        by_cases h1 : v.r.cats = n
        · rw [if_pos (by simp; omega), if_neg (by simp; omega), if_pos (by simp [h1])]
          simp only [List.length_cons]
          omega
        · by_cases h2 : 0 ≤ v.r.cats ∧ v.r.cats < n
          · rw [if_pos (by simp; omega), if_pos (by simp; omega), if_neg (by simp [h1])]
            simp only [List.length_cons]
            omega
          · rw [if_neg (by simp; omega), if_neg (by simp; omega), if_neg (by simp [h1])]
            omega
    rw [key]
    have := h n
    omega
theorem all_len {l : List Ver} (h : ∀ c : Int, sameN l c ≤ 20) (hc : ∀ v ∈ l, 0 ≤ v.r.cats ∧ v.r.cats ≤ 255) : l.length ≤ 5120 := by
  have h1 := under_len h 256
  rw [List.filter_eq_self.2 (fun v hv => by have := hc v hv; simp; omega)] at h1
  omega
theorem livesK_app (l : List Ver) (v : Ver) (id : ByteArray) (c : Int) : ∀ k, k ≤ l.length → livesK (l ++ [v]) id c k = livesK l id c k
  | 0, _ => rfl
  | k + 1, h => by
    rw [livesK, livesK, livesK_app l v id c k (by omega), List.getElem?_append_left (by omega)]
theorem verErr_app {l : List Ver} {v : Ver} {k : Nat} (hk : k < l.length) : verErr (l ++ [v]) k = verErr l k := by
  unfold verErr goneBad
  rw [List.getElem?_append_left hk, List.getElem?_eq_getElem hk]
  simp only
  rw [List.take_append_of_le_length (by omega), livesK_app l v _ _ k (by omega)]
theorem firstI_zero {f : Nat → Int} : ∀ {n : Nat}, (∀ k, k < n → f k = 0) → firstI f n = 0
  | 0, _ => rfl
  | n + 1, h => firstI_step (firstI_zero fun k hk => h k (by omega)) (h n (by omega))
theorem store_app {l : List Ver} {v : Ver} (h : storeErr l = 0) (hr : recErr v.r = 0) (hs : sameN l v.r.cats < 20) (hg : goneBad l v l.length = false) : storeErr (l ++ [v]) = 0 := by
  have hsame : ∀ c, sameN (l ++ [v]) c ≤ 20 := fun c => by
    rw [same_app]
    have := store_same h c
    split
    · rename_i e; subst e; omega
    · omega
  have hlen := all_len hsame fun x hx => by
    rcases List.mem_append.1 hx with h1 | h1
    · have := rec_ok (store_rec h x h1); exact ⟨this.2.1, this.2.2.1⟩
    · rw [List.mem_singleton.1 h1]; have := rec_ok hr; exact ⟨this.2.1, this.2.2.1⟩
  unfold storeErr
  rw [if_neg (by omega)]
  refine firstI_zero fun k hk => ?_
  by_cases hkl : k < l.length
  · rw [verErr_app hkl, verErr_at hkl]
    obtain ⟨h1, h2, h3⟩ := (store_ok h).2 k hkl
    rw [if_neg (by simpa using h1), if_neg (by omega), if_neg (by simp [h3])]
  · have e : k = l.length := by rw [List.length_append] at hk; simp at hk; omega
    subst e
    have hat : (l ++ [v])[l.length]'hk = v := by simp
    rw [verErr_at hk, hat, if_neg (by simpa using hr)]
    rw [if_neg (by rw [show l.length + 1 = (l ++ [v]).length by simp, List.take_length]; have := hsame v.r.cats; omega)]
    unfold goneBad at hg ⊢
    rw [livesK_app l v _ _ _ (Nat.le_refl _), hg, if_neg (by simp)]
theorem put_ok {l : List Ver} {r : Rec} (h : storeErr l = 0) (h1 : putErr l r = 0) : storeErr (l ++ [⟨r, false⟩]) = 0 := by
  rw [putErr, if_neg (by simpa using h)] at h1
  split at h1
  · exact absurd h1 ‹_›
  · rename_i hr
    split at h1
    · cases h1
    · exact store_app h (by simpa using hr) (by simp only; omega) (by simp [goneBad])
theorem cut_ok {l : List Ver} {id : ByteArray} {c : Int} (h : storeErr l = 0) (h1 : cutErr l id c = 0) : storeErr (l ++ [⟨⟨id, c, [], []⟩, true⟩]) = 0 := by
  rw [cutErr, if_neg (by simpa using h)] at h1
  split at h1
  · cases h1
  · rename_i hi
    split at h1
    · cases h1
    · rename_i hc
      split at h1
      · cases h1
      · rename_i hl
        split at h1
        · cases h1
        · refine store_app h ?_ (by simp only; omega) ?_
          · rw [recErr_end (by simpa using hi) (by simpa using hc) (by simp)]
            simp [fldsOk, refsOk, srtB]
          · unfold goneBad
            simp only [Bool.true_and, List.length_nil]
            unfold livesI at hl
            simp
            omega
end Go.Proofs.WK
namespace Go.Proofs.WK
open Go.RowKit Rp
/-- Block g is a server; F: the blocks that its fields lead to. -/
def SrvIs (w : World) (g : Nat) (F : Nat → Prop) (s : Srv) : Prop :=
  ∃ A1 c1 A2 c2 A3 c3 A4 c4, Bk w g [.slice A1 s.up.length c1, .slice A2 s.rules.length c2, .slice A3 s.l.length c3, .slice A4 s.notes.length c4] ∧
    (s.up.length ≤ c1 ∧ int.Row w F A1 s.up) ∧ (s.rules.length ≤ c2 ∧ rulR.Row w F A2 s.rules) ∧ (s.l.length ≤ c3 ∧ verR.Row w F A3 s.l) ∧ s.nv = .slice A4 s.notes.length c4
theorem SrvIs.below {w w' : World} {g : Nat} {F : Nat → Prop} {s : Srv} (h : SrvIs w g F s) (hb : Below w.heap.size w w') : SrvIs w' g F s := by
  obtain ⟨A1, c1, A2, c2, A3, c3, A4, c4, h0, h1, h2, h3, h4⟩ := h
  exact ⟨A1, c1, A2, c2, A3, c3, A4, c4, h0.below hb, ⟨h1.1, h1.2.below hb⟩, ⟨h2.1, h2.2.below hb⟩, ⟨h3.1, h3.2.below hb⟩, h4⟩
theorem SrvIs.move {w w' : World} {g : Nat} {F : Nat → Prop} {s : Srv} (h : SrvIs w g F s) (hg : w'.heap[g]? = w.heap[g]?) (hF : ∀ k, F k → k < w.heap.size → w'.heap[k]? = w.heap[k]?) : SrvIs w' g F s := by
  obtain ⟨A1, c1, A2, c2, A3, c3, A4, c4, ⟨t, h0⟩, h1, h2, h3, h4⟩ := h
  exact ⟨A1, c1, A2, c2, A3, c3, A4, c4, ⟨t, hg.trans h0⟩, ⟨h1.1, h1.2.move hF⟩, ⟨h2.1, h2.2.move hF⟩, ⟨h3.1, h3.2.move hF⟩, h4⟩
theorem lit_ver2 (w : World) (o : Obj) (ok : Nat → Prop) (x : Ver) (cs : List Value) (hk : verR.K (w.alloc o) ok x cs) : verR.Sl ((w.alloc o).alloc (.cells cs.toArray 63)) (fun k => ok k ∨ k = w.heap.size + 1) (.slice (some ⟨w.heap.size + 1, 0, none⟩) 1 1) [x] := by
  have h0 : Reps (verR.K (w.alloc o) ok) verR.sz [] [] := ⟨by simp, fun j p h => by simp at h⟩
  have h := (Own.lit verR 63 (w.alloc o) 0 ok (Nat.zero_le _) (h0.snoc hk (verR.len hk)) (by simp)).sl
  rw [show (w.alloc o).heap.size = w.heap.size + 1 by simp] at h
  exact h.mono fun k hk _ => hk.imp id fun e => by simpa [Value.ownBlock] using e.symm
set_option maxHeartbeats 1600000 in
set_option maxRecDepth 100000 in
theorem serverOne (A : Option Addr) (c : Nat) (l : List Ver) (id : ByteArray) (ok : Nat → Prop) (w : World) (hr : verR.Row w ok A l) (hc : l.length ≤ c) :
    Calls Tryz.prog 57 #[.slice A l.length c, .string id] w fun e w' => ∃ v, e = .returned (.tuple #[v, .int .i64 (getErr l id)]) ∧ verR.Sl w' (fun k => w.heap.size ≤ k) v (oneV l id) ∧ Below w.heap.size w w' := by
  have HR := Aside.mk hr
  clear hr
  obtain ⟨ge, hge⟩ : ∃ ge, getErr l id = ge := ⟨_, rfl⟩
  obtain ⟨gr, hgr⟩ : ∃ gr, getR l id = gr := ⟨_, rfl⟩
  have HGE := Aside.mk hge
  have HGR := Aside.mk hgr
  have hv : oneV l id = if ge = 0 then [⟨gr, false⟩] else [] := by rw [← hge, ← hgr]; rfl
  rw [hge, hv]
  clear hge hgr hv
  by_cases h0 : ge = 0
  · rw [if_pos h0]
    subst h0
    go_enter Tryz.func57, Tryz.ntmps57
    go_wp2_with fail
    refine (storeGet A c l id _ _ HR.out hc).mono ?_
    rw [HGE.out, HGR.out]
    rintro e w1 ⟨v2, v3, rfl, s2, s3, hb⟩
    obtain ⟨X2, d2, rfl⟩ := Sl.form s2
    obtain ⟨X3, d3, rfl⟩ := Sl.form s3
    have hal : Below w1.heap.size w1 (w1.alloc (.cells #[.string gr.id, .int .i64 gr.cats, .slice X2 gr.fields.length d2, .slice X3 gr.refs.length d3] 36)) := (Below.refl _ _).alloc (Nat.le_refl _) _
    have HK := Aside.mk (lit_ver2 w1 (.cells #[.string gr.id, .int .i64 gr.cats, .slice X2 gr.fields.length d2, .slice X3 gr.refs.length d3] 36) (fun k => w.heap.size ≤ k) ⟨gr, false⟩ _ (verK.2 ⟨_, _, rfl, s2.below hal, s3.below hal⟩))
    have HB2 := Aside.mk (below_step hb hal)
    have HSZ := Aside.mk hb.size
    clear s2 s3 hb hal
    go_wp2_with fail
    go_ret2
    exact ⟨_, rfl, HK.out.mono fun k hk _ => hk.elim (fun h => h) (fun h => by have := HSZ.out; omega), HB2.out.alloc HB2.out.size _⟩
  · have g3 : (ge != 0) = true := by simp [h0]
    rw [if_neg h0]
    clear h0
    go_enter Tryz.func57, Tryz.ntmps57
    go_wp2_with fail
    refine (storeGet A c l id _ _ HR.out hc).mono ?_
    rw [HGE.out, HGR.out]
    rintro e w1 ⟨v2, v3, rfl, s2, s3, hb⟩
    obtain ⟨X2, d2, rfl⟩ := Sl.form s2
    obtain ⟨X3, d3, rfl⟩ := Sl.form s3
    have HB1 := Aside.mk hb
    clear s2 s3 hb
    go_wp2_with fail
    go_ret2
    exact ⟨_, rfl, Sl.nil _ _ _, HB1.out.alloc HB1.out.size _⟩
/-- What rule.Sees is told: the server's roles and rules, and who asks. -/
abbrev Ks (w : World) (g n : Nat) (v1 v2 : Value) (q : Who) : Prop :=
  w.cell? { block := g, off := 0 } = some v1 ∧ w.cell? { block := g, off := 1 } = some v2 ∧ w.cell? { block := n, off := 0 } = some (.int .i64 q.role) ∧ w.cell? { block := n, off := 1 } = some (.int .i64 q.why) ∧ w.cell? { block := n, off := 2 } = some (.int .i64 q.time)
theorem Ks.step {w w' : World} {g n : Nat} {v1 v2 : Value} {q : Who} (h : Ks w g n v1 v2 q) (hb : Below w.heap.size w w') : Ks w' g n v1 v2 q :=
  ⟨cell_below hb h.1, cell_below hb h.2.1, cell_below hb h.2.2.1, cell_below hb h.2.2.2.1, cell_below hb h.2.2.2.2⟩
set_option maxHeartbeats 4000000 in
set_option maxRecDepth 100000 in
theorem serverPart (g : Nat) (F : Nat → Prop) (s : Srv) (q : Who) (w : World) (h : SrvIs w g F s) :
    Calls Tryz.prog 56 #[.pointer (some ⟨g, 0, none⟩), whoV q] w fun e w' => ∃ v, e = .returned (.tuple #[v, .int .i64 (mineE s q)]) ∧ verR.Sl w' (fun k => w.heap.size ≤ k) v (mineV s q) ∧ Below w.heap.size w w' := by
  obtain ⟨A1, c1, A2, c2, A3, c3, A4, c4, h0, h1, h2, h3, h4⟩ := h
  have hal : Below w.heap.size w (w.alloc (.cells (Rp.whoC q).toArray 31)) := (Below.refl _ _).alloc (Nat.le_refl _) _
  have HQ := Aside.mk (h0.below hal)
  have HU := Aside.mk (And.intro h1.2.1 (h1.2.below hal))
  have HRU := Aside.mk (h2.2.below hal)
  have HL := Aside.mk (And.intro h3.1 (h3.2.below hal))
  have HB := Aside.mk hal
  have HW := Aside.mk (Bk.made w (Rp.whoC q) 31)
  clear h0 h1 h2 h3 h4 hal
  obtain ⟨se, hse⟩ : ∃ se, seesErr s.up s.rules q = se := ⟨_, rfl⟩
  have HSE := Aside.mk hse
  have q1 := HQ.out.four
  have q2 := HW.out.three
  have HK := Aside.mk (show Ks (w.alloc (.cells (Rp.whoC q).toArray 31)) g w.heap.size (.slice A1 s.up.length c1) (.slice A2 s.rules.length c2) q from ⟨q1.2.1, q1.2.2.1, q2.2.1, q2.2.2.1, q2.2.2.2.1⟩)
  by_cases h0 : se = 0
  · have e1 : mineE s q = partErr s.l (seesV s.up s.rules q) := by rw [mineE, hse, if_neg (by simpa using h0)]
    have e2 : mineV s q = partV s.l (seesV s.up s.rules q) := by rw [mineV, e1]; rfl
    rw [e1, e2]
    subst h0
    clear e1 e2 hse
    go_enter Tryz.func56, Tryz.ntmps56
    go_wp2_with fail
    go_region_held3 (fun w' => Ks w' g w.heap.size (.slice A1 s.up.length c1) (.slice A2 s.rules.length c2) q)
      (first | exact HK.out | assumption)
      (first
       | (go_at_call 54; refine (ruleSees _ _ s.up _ _ s.rules q _ _ _ (HU.out.2.below (below_drewN (Below.refl _ _) 1)) HU.out.1 (HRU.out.below (below_drewN (Below.refl _ _) 1)) HRU.out.1).mono ?_; rw [HSE.out]; rintro e w3 ⟨rfl, hb⟩
          have hb3 := below_step (below_drewN (Below.refl _ _) 1) hb
          have hx := Ks.step HK.out hb3
          have HQ3 := Aside.mk (HQ.out.below hb3)
          have HL3 := Aside.mk (HL.out.2.below hb3)
          have HB3 := Aside.mk (below_step HB.out hb3)
          clear hb hb3))
    clear q1 q2
    have q1 := HQ3.out.four
    go_wp2_with fail
    refine (storePart _ _ s.l _ _ _ HL3.out HL.out.1).mono ?_
    rintro e w4 ⟨v, rfl, s4, hb⟩
    have HS := Aside.mk (s4.mono fun k hk _ => Nat.le_trans HB3.out.size hk)
    have HB4 := Aside.mk (below_step HB3.out hb)
    clear s4 hb
    go_wp2_with fail
    go_ret2
    exact ⟨_, rfl, HS.out, HB4.out⟩
  · have e1 : mineE s q = se := by rw [mineE, hse, if_pos h0]
    have e2 : mineV s q = [] := by rw [mineV, e1, if_neg h0]
    have g3 : (se != 0) = true := by simp [h0]
    rw [e1, e2]
    clear e1 e2 hse h0
    go_enter Tryz.func56, Tryz.ntmps56
    go_wp2_with fail
    go_region_held3 (fun w' => Ks w' g w.heap.size (.slice A1 s.up.length c1) (.slice A2 s.rules.length c2) q)
      (first | exact HK.out | assumption)
      (first
       | (go_at_call 54; refine (ruleSees _ _ s.up _ _ s.rules q _ _ _ (HU.out.2.below (below_drewN (Below.refl _ _) 1)) HU.out.1 (HRU.out.below (below_drewN (Below.refl _ _) 1)) HRU.out.1).mono ?_; rw [HSE.out]; rintro e w3 ⟨rfl, hb⟩
          have hb3 := below_step (below_drewN (Below.refl _ _) 1) hb
          have hx := Ks.step HK.out hb3
          have HB3 := Aside.mk (below_step HB.out hb3)
          clear hb hb3))
    go_wp2_with fail
    go_ret2
    exact ⟨_, rfl, Sl.nil _ _ _, HB3.out⟩
end Go.Proofs.WK
namespace Go.Proofs.WK
open Go.RowKit Rp
/-- The cells that put and cut read. -/
abbrev Kf (w : World) (g n : Nat) (v1 v2 v3 : Value) (q : Who) (a : ByteArray) (b : Int) (x y : Value) (id : ByteArray) : Prop :=
  w.cell? { block := g, off := 0 } = some v1 ∧ w.cell? { block := g, off := 1 } = some v2 ∧ w.cell? { block := g, off := 2 } = some v3 ∧ w.cell? { block := n, off := 1 } = some (.int .i64 q.role) ∧ w.cell? { block := n, off := 2 } = some (.int .i64 q.why) ∧ w.cell? { block := n, off := 3 } = some (.int .i64 q.time) ∧
  w.cell? { block := n, off := 5 } = some (.string a) ∧ w.cell? { block := n, off := 6 } = some (.int .i64 b) ∧ w.cell? { block := n, off := 7 } = some x ∧ w.cell? { block := n, off := 8 } = some y ∧ w.cell? { block := n, off := 9 } = some (.string id)
theorem Kf.step {w w' : World} {g n : Nat} {v1 v2 v3 : Value} {q : Who} {a : ByteArray} {b : Int} {x y : Value} {id : ByteArray} (h : Kf w g n v1 v2 v3 q a b x y id) (hb : Below w.heap.size w w') : Kf w' g n v1 v2 v3 q a b x y id := by
  obtain ⟨h1, h2, h3, h4, h5, h6, h7, h8, h9, h10, h11⟩ := h
  exact ⟨cell_below hb h1, cell_below hb h2, cell_below hb h3, cell_below hb h4, cell_below hb h5, cell_below hb h6, cell_below hb h7, cell_below hb h8, cell_below hb h9, cell_below hb h10, cell_below hb h11⟩
theorem SrvIs.more {w : World} {g : Nat} {F F' : Nat → Prop} {s : Srv} (h : SrvIs w g F s) (hF : ∀ k, F k → k < w.heap.size → F' k) : SrvIs w g F' s := by
  obtain ⟨A1, c1, A2, c2, A3, c3, A4, c4, h0, h1, h2, h3, h4⟩ := h
  exact ⟨A1, c1, A2, c2, A3, c3, A4, c4, h0, ⟨h1.1, h1.2.mono hF⟩, ⟨h2.1, h2.2.mono hF⟩, ⟨h3.1, h3.2.mono hF⟩, h4⟩
theorem below_grown {w w' : World} (h : Below w.heap.size w w') (row : Option Nat) : w.grownBy w' row := ⟨h.os, h.tape, h.output, h.size, fun k hk _ => h.block k hk⟩
/-- The server's versions are others from now on. -/
theorem SrvIs.setL {w : World} {g : Nat} {F : Nat → Prop} {s : Srv} (h : SrvIs w g F s) (hF : ∀ k, F k → k ≠ g) {v : Value} {l : List Ver} (hl : verR.Sl w F v l) : SrvIs (w.setCell ⟨g, 2, none⟩ v) g F { s with l := l } := by
  obtain ⟨A1, c1, A2, c2, A3, c3, A4, c4, h0, h1, h2, h3, h4⟩ := h
  obtain ⟨A5, c5, rfl, h5, h6⟩ := hl
  have hm : ∀ k, F k → k < w.heap.size → (w.setCell ⟨g, 2, none⟩ (.slice A5 l.length c5)).heap[k]? = w.heap[k]? := fun k hk _ => Below.heap_setCell _ _ _ k (hF k hk)
  exact ⟨A1, c1, A2, c2, A5, c5, A4, c4, h0.set 2 _, ⟨h1.1, h1.2.move hm⟩, ⟨h2.1, h2.2.move hm⟩, ⟨h5, h6.move hm⟩, h4⟩
theorem grown_set (w : World) (g o : Nat) (v : Value) : w.grownBy (w.setCell ⟨g, o, none⟩ v) (some g) := by
  refine ⟨rfl, rfl, rfl, ?_, fun k hk hne => Below.heap_setCell _ _ _ k (fun e => hne (by rw [e]))⟩
  show w.heap.size ≤ (w.heap.modify g _).size
  simp
set_option maxHeartbeats 8000000 in
set_option maxRecDepth 100000 in
theorem serverPut (g : Nat) (F : Nat → Prop) (s : Srv) (o : OpV) (B1 : Option Addr) (e1 : Nat) (B2 : Option Addr) (e2 : Nat) (B3 : Option Addr) (e3 : Nat) (ok1 ok2 : Nat → Prop) (w : World) (h : SrvIs w g F s) (hF : ∀ k, F k → k ≠ g)
    (hf : fldR.Row w ok1 B2 o.r.fields) (hf2 : o.r.fields.length ≤ e2) (hg : str.Row w ok2 B3 o.r.refs) (hg2 : o.r.refs.length ≤ e3) :
    Calls Tryz.prog 51 #[.pointer (some ⟨g, 0, none⟩), opVal o B1 e1 B2 e2 B3 e3] w fun e w' => e = .returned (.int .i64 (putE s o)) ∧ SrvIs w' g (fun k => F k ∨ w.heap.size ≤ k) (if putE s o = 0 then { s with l := putV s.l o.r } else s) ∧ w.grownBy w' (some g) := by
  have hal : Below w.heap.size w (w.alloc (.cells (opC o B1 e1 B2 e2 B3 e3).toArray 40)) := (Below.refl _ _).alloc (Nat.le_refl _) _
  have HS := Aside.mk ((h.below hal).more (F' := fun k => F k ∨ w.heap.size ≤ k) fun k hk _ => .inl hk)
  obtain ⟨A1, c1, A2, c2, A3, c3, A4, c4, h0, h1, h2, h3, h4⟩ := h
  have hgl := h0.lt
  have HFN : Aside (∀ k, (F k ∨ w.heap.size ≤ k) → k ≠ g) := ⟨fun k hk => hk.elim (hF k) fun h => by omega⟩
  have HU := Aside.mk (And.intro h1.2.1 (h1.2.below hal))
  have HRU := Aside.mk (h2.2.below hal)
  have HL := Aside.mk (And.intro h3.1 (h3.2.below hal))
  have HF := Aside.mk (And.intro hf2 (hf.below hal))
  have HG := Aside.mk (And.intro hg2 (hg.below hal))
  have HB := Aside.mk hal
  have HBK := Aside.mk (h0.below hal)
  have hbk := Bk.made w (opC o B1 e1 B2 e2 B3 e3) 40
  have q1 := (h0.below hal).four
  have HK := Aside.mk (show Kf (w.alloc (.cells (opC o B1 e1 B2 e2 B3 e3).toArray 40)) g w.heap.size (.slice A1 s.up.length c1) (.slice A2 s.rules.length c2) (.slice A3 s.l.length c3) o.who o.r.id o.r.cats (.slice B2 o.r.fields.length e2) (.slice B3 o.r.refs.length e3) o.id from
    ⟨q1.2.1, q1.2.2.1, q1.2.2.2.1, hbk.cell 1, hbk.cell 2, hbk.cell 3, hbk.cell 5, hbk.cell 6, hbk.cell 7, hbk.cell 8, hbk.cell 9⟩)
  clear h0 h1 h2 h3 h4 hal hf hf2 hg hg2 hF hgl q1 hbk
  unfold opVal
  unfold opC at HS HU HRU HL HF HG HB HK
  by_cases p1 : recErr o.r = 0
  case neg =>
    have e : putE s o = recErr o.r := if_pos p1
    have g3 : (recErr o.r != 0) = true := by simp [p1]
    rw [e, if_neg p1]
    clear e p1
    have q := HK.out
    go_enter Tryz.func51, Tryz.ntmps51
    go_wp2_with fail
    refine (recCheck o.r _ _ _ _ _ _ _ HF.out.2 HG.out.2).mono ?_
    rintro e w1 ⟨rfl, hb⟩
    have HS1 := Aside.mk (HS.out.below hb)
    have HB1 := Aside.mk (below_step HB.out hb)
    clear hb
    go_wp2_with fail
    go_ret
    exact ⟨rfl, HS1.out, below_grown HB1.out _⟩
  case pos =>
    obtain ⟨me, hme⟩ : ∃ me, mayErr s.up s.rules o.who o.r.cats = me := ⟨_, rfl⟩
    obtain ⟨mv, hmv⟩ : ∃ mv, mayV s.up s.rules o.who o.r.cats = mv := ⟨_, rfl⟩
    have HME := Aside.mk hme
    have HMV := Aside.mk hmv
    have P1 := Aside.mk p1
    have e0 : putE s o = if me ≠ 0 then me else if mv = false then 6 else putErr s.l o.r := by rw [putE, if_neg (by simpa using p1), hme, hmv]
    clear hme hmv p1
    have q := HK.out
    by_cases p2 : me = 0
    case neg =>
      rw [e0, if_pos p2]
      have g3 : (me != 0) = true := by simp [p2]
      rw [if_neg p2]
      clear e0 p2
      go_enter Tryz.func51, Tryz.ntmps51
      go_wp2_with fail
      refine (recCheck o.r _ _ _ _ _ _ _ HF.out.2 HG.out.2).mono ?_
      rw [P1.out]
      rintro e w1 ⟨rfl, hb⟩
      have HS1 := Aside.mk (HS.out.below hb)
      have HK1 := Aside.mk (HK.out.step hb)
      have HB1 := Aside.mk (below_step HB.out hb)
      have HB10 := Aside.mk hb
      clear hb q
      have q := HK1.out
      go_wp2_with fail
      go_region_held3 (fun w' => Kf w' g w.heap.size (.slice A1 s.up.length c1) (.slice A2 s.rules.length c2) (.slice A3 s.l.length c3) o.who o.r.id o.r.cats (.slice B2 o.r.fields.length e2) (.slice B3 o.r.refs.length e3) o.id)
        (first | exact HK1.out | assumption)
        (first
         | (go_at_call 132; refine (ruleMay _ _ s.up _ _ s.rules o.who o.r.cats _ _ _ ((HU.out.2.below HB10.out).below (below_drewN (Below.refl _ _) 1)) HU.out.1 ((HRU.out.below HB10.out).below (below_drewN (Below.refl _ _) 1)) HRU.out.1).mono ?_; rw [HME.out, HMV.out]; rintro e w2 ⟨rfl, hb⟩
            have hb3 := below_step (below_drewN (Below.refl _ _) 1) hb
            have hx := Kf.step HK1.out hb3
            have HK2 := Aside.mk hx
            have HS2 := Aside.mk (HS1.out.below hb3)
            have HB2 := Aside.mk (below_step HB1.out hb3)
            have HB20 := Aside.mk (below_step HB10.out hb3)
            clear hb hb3))
      go_wp2_with fail
      go_ret
      exact ⟨rfl, HS2.out, below_grown HB2.out _⟩
    case pos =>
      subst p2
      cases mv with
      | false =>
        have e5 : putE s o = 6 := by rw [e0]; rfl
        rw [e5, if_neg (by decide)]
        clear e0 e5
        go_enter Tryz.func51, Tryz.ntmps51
        go_wp2_with fail
        refine (recCheck o.r _ _ _ _ _ _ _ HF.out.2 HG.out.2).mono ?_
        rw [P1.out]
        rintro e w1 ⟨rfl, hb⟩
        have HS1 := Aside.mk (HS.out.below hb)
        have HK1 := Aside.mk (HK.out.step hb)
        have HB1 := Aside.mk (below_step HB.out hb)
        have HB10 := Aside.mk hb
        clear hb q
        have q := HK1.out
        go_wp2_with fail
        go_region_held3 (fun w' => Kf w' g w.heap.size (.slice A1 s.up.length c1) (.slice A2 s.rules.length c2) (.slice A3 s.l.length c3) o.who o.r.id o.r.cats (.slice B2 o.r.fields.length e2) (.slice B3 o.r.refs.length e3) o.id)
          (first | exact HK1.out | assumption)
          (first
           | (go_at_call 132; refine (ruleMay _ _ s.up _ _ s.rules o.who o.r.cats _ _ _ ((HU.out.2.below HB10.out).below (below_drewN (Below.refl _ _) 1)) HU.out.1 ((HRU.out.below HB10.out).below (below_drewN (Below.refl _ _) 1)) HRU.out.1).mono ?_; rw [HME.out, HMV.out]; rintro e w2 ⟨rfl, hb⟩
              have hb3 := below_step (below_drewN (Below.refl _ _) 1) hb
              have hx := Kf.step HK1.out hb3
              have HK2 := Aside.mk hx
              have HS2 := Aside.mk (HS1.out.below hb3)
              have HB2 := Aside.mk (below_step HB1.out hb3)
              have HB20 := Aside.mk (below_step HB10.out hb3)
              clear hb hb3))
        go_wp2_with fail
        go_ret
        exact ⟨rfl, HS2.out, below_grown HB2.out _⟩
      | true =>
        have e5 : putE s o = putErr s.l o.r := by rw [e0]; rfl
        rw [e5]
        clear e0 e5
        obtain ⟨pe, hpe⟩ : ∃ pe, putErr s.l o.r = pe := ⟨_, rfl⟩
        have HPE := Aside.mk hpe
        rw [hpe]
        clear hpe
        by_cases p3 : pe = 0
        case neg =>
          rw [if_neg p3]
          have g3 : (pe == 0) = false := by simp [p3]
          clear p3
          go_enter Tryz.func51, Tryz.ntmps51
          go_wp2_with fail
          refine (recCheck o.r _ _ _ _ _ _ _ HF.out.2 HG.out.2).mono ?_
          rw [P1.out]
          rintro e w1 ⟨rfl, hb⟩
          have HS1 := Aside.mk (HS.out.below hb)
          have HK1 := Aside.mk (HK.out.step hb)
          have HB1 := Aside.mk (below_step HB.out hb)
          have HB10 := Aside.mk hb
          clear hb q
          have q := HK1.out
          go_wp2_with fail
          go_region_held3 (fun w' => Kf w' g w.heap.size (.slice A1 s.up.length c1) (.slice A2 s.rules.length c2) (.slice A3 s.l.length c3) o.who o.r.id o.r.cats (.slice B2 o.r.fields.length e2) (.slice B3 o.r.refs.length e3) o.id)
            (first | exact HK1.out | assumption)
            (first
             | (go_at_call 132; refine (ruleMay _ _ s.up _ _ s.rules o.who o.r.cats _ _ _ ((HU.out.2.below HB10.out).below (below_drewN (Below.refl _ _) 1)) HU.out.1 ((HRU.out.below HB10.out).below (below_drewN (Below.refl _ _) 1)) HRU.out.1).mono ?_; rw [HME.out, HMV.out]; rintro e w2 ⟨rfl, hb⟩
                have hb3 := below_step (below_drewN (Below.refl _ _) 1) hb
                have hx := Kf.step HK1.out hb3
                have HK2 := Aside.mk hx
                have HS2 := Aside.mk (HS1.out.below hb3)
                have HB2 := Aside.mk (below_step HB1.out hb3)
                have HB20 := Aside.mk (below_step HB10.out hb3)
                clear hb hb3))
          go_wp2_with fail
          clear q
          have q := HK2.out
          go_region_held3 (fun w' => Kf w' g w.heap.size (.slice A1 s.up.length c1) (.slice A2 s.rules.length c2) (.slice A3 s.l.length c3) o.who o.r.id o.r.cats (.slice B2 o.r.fields.length e2) (.slice B3 o.r.refs.length e3) o.id)
            (first | exact HK2.out | assumption)
            (first
             | (go_at_call 48; refine (storePut _ _ s.l o.r _ _ _ _ _ _ _ _ ((HL.out.2.below HB20.out).below (below_drewN (Below.refl _ _) 1)) HL.out.1 ((HF.out.2.below HB20.out).below (below_drewN (Below.refl _ _) 1)) HF.out.1 ((HG.out.2.below HB20.out).below (below_drewN (Below.refl _ _) 1)) HG.out.1).mono ?_; rw [HPE.out]; rintro e w3 ⟨v3, rfl, s3, hb⟩
                have hsz : w.heap.size ≤ (w2.drewN 1).heap.size := HB2.out.size
                have hb3 := below_step (below_drewN (Below.refl _ _) 1) hb
                have hx := Kf.step HK2.out hb3
                have HS3 := Aside.mk (HS2.out.below hb3)
                have HB3 := Aside.mk (below_step HB2.out hb3)
                have HBK3 := Aside.mk (HBK.out.below (below_step HB20.out hb3))
                have HV := Aside.mk (s3.mono (ok' := fun k => F k ∨ w.heap.size ≤ k) fun k hk _ => .inr (Nat.le_trans hsz hk))
                obtain ⟨X3, d3, rfl⟩ := Sl.form s3
                clear s3 hb hb3 hsz))
          clear q
          go_wp2_with fail
          go_ret
          exact ⟨rfl, HS3.out, below_grown HB3.out _⟩
        case pos =>
          rw [if_pos p3]
          subst p3
          go_enter Tryz.func51, Tryz.ntmps51
          go_wp2_with fail
          refine (recCheck o.r _ _ _ _ _ _ _ HF.out.2 HG.out.2).mono ?_
          rw [P1.out]
          rintro e w1 ⟨rfl, hb⟩
          have HS1 := Aside.mk (HS.out.below hb)
          have HK1 := Aside.mk (HK.out.step hb)
          have HB1 := Aside.mk (below_step HB.out hb)
          have HB10 := Aside.mk hb
          clear hb q
          have q := HK1.out
          go_wp2_with fail
          go_region_held3 (fun w' => Kf w' g w.heap.size (.slice A1 s.up.length c1) (.slice A2 s.rules.length c2) (.slice A3 s.l.length c3) o.who o.r.id o.r.cats (.slice B2 o.r.fields.length e2) (.slice B3 o.r.refs.length e3) o.id)
            (first | exact HK1.out | assumption)
            (first
             | (go_at_call 132; refine (ruleMay _ _ s.up _ _ s.rules o.who o.r.cats _ _ _ ((HU.out.2.below HB10.out).below (below_drewN (Below.refl _ _) 1)) HU.out.1 ((HRU.out.below HB10.out).below (below_drewN (Below.refl _ _) 1)) HRU.out.1).mono ?_; rw [HME.out, HMV.out]; rintro e w2 ⟨rfl, hb⟩
                have hb3 := below_step (below_drewN (Below.refl _ _) 1) hb
                have hx := Kf.step HK1.out hb3
                have HK2 := Aside.mk hx
                have HS2 := Aside.mk (HS1.out.below hb3)
                have HB2 := Aside.mk (below_step HB1.out hb3)
                have HB20 := Aside.mk (below_step HB10.out hb3)
                clear hb hb3))
          go_wp2_with fail
          clear q
          have q := HK2.out
          go_region_held3 (fun w' => Kf w' g w.heap.size (.slice A1 s.up.length c1) (.slice A2 s.rules.length c2) (.slice A3 s.l.length c3) o.who o.r.id o.r.cats (.slice B2 o.r.fields.length e2) (.slice B3 o.r.refs.length e3) o.id)
            (first | exact HK2.out | assumption)
            (first
             | (go_at_call 48; refine (storePut _ _ s.l o.r _ _ _ _ _ _ _ _ ((HL.out.2.below HB20.out).below (below_drewN (Below.refl _ _) 1)) HL.out.1 ((HF.out.2.below HB20.out).below (below_drewN (Below.refl _ _) 1)) HF.out.1 ((HG.out.2.below HB20.out).below (below_drewN (Below.refl _ _) 1)) HG.out.1).mono ?_; rw [HPE.out]; rintro e w3 ⟨v3, rfl, s3, hb⟩
                have hsz : w.heap.size ≤ (w2.drewN 1).heap.size := HB2.out.size
                have hb3 := below_step (below_drewN (Below.refl _ _) 1) hb
                have hx := Kf.step HK2.out hb3
                have HS3 := Aside.mk (HS2.out.below hb3)
                have HB3 := Aside.mk (below_step HB2.out hb3)
                have HBK3 := Aside.mk (HBK.out.below (below_step HB20.out hb3))
                have HV := Aside.mk (s3.mono (ok' := fun k => F k ∨ w.heap.size ≤ k) fun k hk _ => .inr (Nat.le_trans hsz hk))
                obtain ⟨X3, d3, rfl⟩ := Sl.form s3
                clear s3 hb hb3 hsz))
          clear q
          have q3 := HBK3.out.four
          go_wp2_with fail
          go_ret
          exact ⟨rfl, HS3.out.setL HFN.out HV.out, (below_grown HB3.out _).trans (grown_set _ _ _ _)⟩
end Go.Proofs.WK
namespace Go.Proofs.WK
open Go.RowKit Rp
set_option maxHeartbeats 8000000 in
set_option maxRecDepth 100000 in
theorem serverCut (g : Nat) (F : Nat → Prop) (s : Srv) (o : OpV) (B1 : Option Addr) (e1 : Nat) (B2 : Option Addr) (e2 : Nat) (B3 : Option Addr) (e3 : Nat) (w : World) (h : SrvIs w g F s) (hF : ∀ k, F k → k ≠ g) :
    Calls Tryz.prog 52 #[.pointer (some ⟨g, 0, none⟩), opVal o B1 e1 B2 e2 B3 e3] w fun e w' => e = .returned (.int .i64 (cutE s o)) ∧ SrvIs w' g (fun k => F k ∨ w.heap.size ≤ k) (if cutE s o = 0 then { s with l := cutV s.l o.id o.r.cats } else s) ∧ w.grownBy w' (some g) := by
  have hal : Below w.heap.size w (w.alloc (.cells (opC o B1 e1 B2 e2 B3 e3).toArray 40)) := (Below.refl _ _).alloc (Nat.le_refl _) _
  have HS := Aside.mk ((h.below hal).more (F' := fun k => F k ∨ w.heap.size ≤ k) fun k hk _ => .inl hk)
  obtain ⟨A1, c1, A2, c2, A3, c3, A4, c4, h0, h1, h2, h3, h4⟩ := h
  have hgl := h0.lt
  have HFN : Aside (∀ k, (F k ∨ w.heap.size ≤ k) → k ≠ g) := ⟨fun k hk => hk.elim (hF k) fun h => by omega⟩
  have HU := Aside.mk (And.intro h1.2.1 (h1.2.below hal))
  have HRU := Aside.mk (h2.2.below hal)
  have HL := Aside.mk (And.intro h3.1 (h3.2.below hal))
  have HB := Aside.mk hal
  have HBK := Aside.mk (h0.below hal)
  have hbk := Bk.made w (opC o B1 e1 B2 e2 B3 e3) 40
  have q1 := (h0.below hal).four
  have HK := Aside.mk (show Kf (w.alloc (.cells (opC o B1 e1 B2 e2 B3 e3).toArray 40)) g w.heap.size (.slice A1 s.up.length c1) (.slice A2 s.rules.length c2) (.slice A3 s.l.length c3) o.who o.r.id o.r.cats (.slice B2 o.r.fields.length e2) (.slice B3 o.r.refs.length e3) o.id from
    ⟨q1.2.1, q1.2.2.1, q1.2.2.2.1, hbk.cell 1, hbk.cell 2, hbk.cell 3, hbk.cell 5, hbk.cell 6, hbk.cell 7, hbk.cell 8, hbk.cell 9⟩)
  clear h0 h1 h2 h3 h4 hal hF hgl q1 hbk
  unfold opVal
  unfold opC at HS HU HRU HL HB HK
  obtain ⟨me, hme⟩ : ∃ me, mayErr s.up s.rules o.who o.r.cats = me := ⟨_, rfl⟩
  obtain ⟨mv, hmv⟩ : ∃ mv, mayV s.up s.rules o.who o.r.cats = mv := ⟨_, rfl⟩
  have HME := Aside.mk hme
  have HMV := Aside.mk hmv
  have e0 : cutE s o = if me ≠ 0 then me else if mv = false then 6 else cutErr s.l o.id o.r.cats := by rw [cutE, hme, hmv]
  clear hme hmv
  have q := HK.out
  by_cases p2 : me = 0
  case neg =>
    rw [e0, if_pos p2]
    have g3 : (me != 0) = true := by simp [p2]
    rw [if_neg p2]
    clear e0 p2
    go_enter Tryz.func52, Tryz.ntmps52
    go_wp2_with fail
    go_region_held3 (fun w' => Kf w' g w.heap.size (.slice A1 s.up.length c1) (.slice A2 s.rules.length c2) (.slice A3 s.l.length c3) o.who o.r.id o.r.cats (.slice B2 o.r.fields.length e2) (.slice B3 o.r.refs.length e3) o.id)
      (first | exact HK.out | assumption)
      (first
       | (go_at_call 132; refine (ruleMay _ _ s.up _ _ s.rules o.who o.r.cats _ _ _ (HU.out.2.below (below_drewN (Below.refl _ _) 1)) HU.out.1 (HRU.out.below (below_drewN (Below.refl _ _) 1)) HRU.out.1).mono ?_; rw [HME.out, HMV.out]; rintro e w2 ⟨rfl, hb⟩
          have hb3 := below_step (below_drewN (Below.refl _ _) 1) hb
          have hx := Kf.step HK.out hb3
          have HK2 := Aside.mk hx
          have HS2 := Aside.mk (HS.out.below hb3)
          have HB2 := Aside.mk (below_step HB.out hb3)
          have HB20 := Aside.mk hb3
          clear hb hb3))
    go_wp2_with fail
    go_ret
    exact ⟨rfl, HS2.out, below_grown HB2.out _⟩
  case pos =>
    subst p2
    cases mv with
    | false =>
      have e5 : cutE s o = 6 := by rw [e0]; rfl
      rw [e5, if_neg (by decide)]
      clear e0 e5
      go_enter Tryz.func52, Tryz.ntmps52
      go_wp2_with fail
      go_region_held3 (fun w' => Kf w' g w.heap.size (.slice A1 s.up.length c1) (.slice A2 s.rules.length c2) (.slice A3 s.l.length c3) o.who o.r.id o.r.cats (.slice B2 o.r.fields.length e2) (.slice B3 o.r.refs.length e3) o.id)
        (first | exact HK.out | assumption)
        (first
         | (go_at_call 132; refine (ruleMay _ _ s.up _ _ s.rules o.who o.r.cats _ _ _ (HU.out.2.below (below_drewN (Below.refl _ _) 1)) HU.out.1 (HRU.out.below (below_drewN (Below.refl _ _) 1)) HRU.out.1).mono ?_; rw [HME.out, HMV.out]; rintro e w2 ⟨rfl, hb⟩
            have hb3 := below_step (below_drewN (Below.refl _ _) 1) hb
            have hx := Kf.step HK.out hb3
            have HK2 := Aside.mk hx
            have HS2 := Aside.mk (HS.out.below hb3)
            have HB2 := Aside.mk (below_step HB.out hb3)
            have HB20 := Aside.mk hb3
            clear hb hb3))
      go_wp2_with fail
      go_ret
      exact ⟨rfl, HS2.out, below_grown HB2.out _⟩
    | true =>
      have e5 : cutE s o = cutErr s.l o.id o.r.cats := by rw [e0]; rfl
      rw [e5]
      clear e0 e5
      obtain ⟨pe, hpe⟩ : ∃ pe, cutErr s.l o.id o.r.cats = pe := ⟨_, rfl⟩
      have HPE := Aside.mk hpe
      rw [hpe]
      clear hpe
      by_cases p3 : pe = 0
      case neg =>
        rw [if_neg p3]
        have g3 : (pe == 0) = false := by simp [p3]
        clear p3
        go_enter Tryz.func52, Tryz.ntmps52
        go_wp2_with fail
        go_region_held3 (fun w' => Kf w' g w.heap.size (.slice A1 s.up.length c1) (.slice A2 s.rules.length c2) (.slice A3 s.l.length c3) o.who o.r.id o.r.cats (.slice B2 o.r.fields.length e2) (.slice B3 o.r.refs.length e3) o.id)
          (first | exact HK.out | assumption)
          (first
           | (go_at_call 132; refine (ruleMay _ _ s.up _ _ s.rules o.who o.r.cats _ _ _ (HU.out.2.below (below_drewN (Below.refl _ _) 1)) HU.out.1 (HRU.out.below (below_drewN (Below.refl _ _) 1)) HRU.out.1).mono ?_; rw [HME.out, HMV.out]; rintro e w2 ⟨rfl, hb⟩
              have hb3 := below_step (below_drewN (Below.refl _ _) 1) hb
              have hx := Kf.step HK.out hb3
              have HK2 := Aside.mk hx
              have HS2 := Aside.mk (HS.out.below hb3)
              have HB2 := Aside.mk (below_step HB.out hb3)
              have HB20 := Aside.mk hb3
              clear hb hb3))
        go_wp2_with fail
        clear q
        have q := HK2.out
        go_region_held3 (fun w' => Kf w' g w.heap.size (.slice A1 s.up.length c1) (.slice A2 s.rules.length c2) (.slice A3 s.l.length c3) o.who o.r.id o.r.cats (.slice B2 o.r.fields.length e2) (.slice B3 o.r.refs.length e3) o.id)
          (first | exact HK2.out | assumption)
          (first
           | (go_at_call 133; refine (storeCut _ _ s.l o.id o.r.cats _ _ ((HL.out.2.below HB20.out).below (below_drewN (Below.refl _ _) 1)) HL.out.1).mono ?_; rw [HPE.out]; rintro e w3 ⟨v3, rfl, s3, hb⟩
              have hsz : w.heap.size ≤ (w2.drewN 1).heap.size := HB2.out.size
              have hb3 := below_step (below_drewN (Below.refl _ _) 1) hb
              have hx := Kf.step HK2.out hb3
              have HS3 := Aside.mk (HS2.out.below hb3)
              have HB3 := Aside.mk (below_step HB2.out hb3)
              have HBK3 := Aside.mk (HBK.out.below (below_step HB20.out hb3))
              have HV := Aside.mk (s3.mono (ok' := fun k => F k ∨ w.heap.size ≤ k) fun k hk _ => .inr (Nat.le_trans hsz hk))
              obtain ⟨X3, d3, rfl⟩ := Sl.form s3
              clear s3 hb hb3 hsz))
        clear q
        go_wp2_with fail
        go_ret
        exact ⟨rfl, HS3.out, below_grown HB3.out _⟩
      case pos =>
        rw [if_pos p3]
        subst p3
        go_enter Tryz.func52, Tryz.ntmps52
        go_wp2_with fail
        go_region_held3 (fun w' => Kf w' g w.heap.size (.slice A1 s.up.length c1) (.slice A2 s.rules.length c2) (.slice A3 s.l.length c3) o.who o.r.id o.r.cats (.slice B2 o.r.fields.length e2) (.slice B3 o.r.refs.length e3) o.id)
          (first | exact HK.out | assumption)
          (first
           | (go_at_call 132; refine (ruleMay _ _ s.up _ _ s.rules o.who o.r.cats _ _ _ (HU.out.2.below (below_drewN (Below.refl _ _) 1)) HU.out.1 (HRU.out.below (below_drewN (Below.refl _ _) 1)) HRU.out.1).mono ?_; rw [HME.out, HMV.out]; rintro e w2 ⟨rfl, hb⟩
              have hb3 := below_step (below_drewN (Below.refl _ _) 1) hb
              have hx := Kf.step HK.out hb3
              have HK2 := Aside.mk hx
              have HS2 := Aside.mk (HS.out.below hb3)
              have HB2 := Aside.mk (below_step HB.out hb3)
              have HB20 := Aside.mk hb3
              clear hb hb3))
        go_wp2_with fail
        clear q
        have q := HK2.out
        go_region_held3 (fun w' => Kf w' g w.heap.size (.slice A1 s.up.length c1) (.slice A2 s.rules.length c2) (.slice A3 s.l.length c3) o.who o.r.id o.r.cats (.slice B2 o.r.fields.length e2) (.slice B3 o.r.refs.length e3) o.id)
          (first | exact HK2.out | assumption)
          (first
           | (go_at_call 133; refine (storeCut _ _ s.l o.id o.r.cats _ _ ((HL.out.2.below HB20.out).below (below_drewN (Below.refl _ _) 1)) HL.out.1).mono ?_; rw [HPE.out]; rintro e w3 ⟨v3, rfl, s3, hb⟩
              have hsz : w.heap.size ≤ (w2.drewN 1).heap.size := HB2.out.size
              have hb3 := below_step (below_drewN (Below.refl _ _) 1) hb
              have hx := Kf.step HK2.out hb3
              have HS3 := Aside.mk (HS2.out.below hb3)
              have HB3 := Aside.mk (below_step HB2.out hb3)
              have HBK3 := Aside.mk (HBK.out.below (below_step HB20.out hb3))
              have HV := Aside.mk (s3.mono (ok' := fun k => F k ∨ w.heap.size ≤ k) fun k hk _ => .inr (Nat.le_trans hsz hk))
              obtain ⟨X3, d3, rfl⟩ := Sl.form s3
              clear s3 hb hb3 hsz))
        clear q
        have q3 := HBK3.out.four
        go_wp2_with fail
        go_ret
        exact ⟨rfl, HS3.out.setL HFN.out HV.out, (below_grown HB3.out _).trans (grown_set _ _ _ _)⟩
end Go.Proofs.WK
namespace Go.Proofs.WK
open Go.RowKit Rp
theorem own_int {t : TypeId} {w : World} {base : Nat} {ok : Nat → Prop} {v : Value} {xs : List Int} (h : int.Own t w base ok v xs) : int.Own t w base (fun _ => False) v xs := by
  obtain ⟨inner, h1, h2, h3⟩ := h
  exact ⟨inner, h1, h2, fun j p hp => int_K.2 (int_K.1 (h3 j p hp))⟩
set_option maxHeartbeats 1600000 in
set_option maxRecDepth 100000 in
theorem serverNew (A : Option Addr) (c : Nat) (up : List Int) (ok : Nat → Prop) (w : World) (hr : int.Row w ok A up) (h0 : roleErr up = 0) :
    Calls Tryz.prog 34 #[.slice A up.length c] w fun e w' => Below w.heap.size w w' ∧ ∃ g, w.heap.size ≤ g ∧ e = .returned (.tuple #[.pointer (some ⟨g, 0, none⟩), .int .i64 0]) ∧ SrvIs w' g (fun k => w.heap.size ≤ k ∧ k < g) ⟨up, [], [], [], .slice none 0 0⟩ := by
  have HR := Aside.mk hr
  have hn := hr.1
  clear hr
  have HE := Aside.mk h0
  have HL := Aside.mk (show up.length * 8 ≤ 140737488355328 by have := (roleErr_ok h0).1; omega)
  clear h0
  go_enter Tryz.func34, Tryz.ntmps34
  go_wp2_with fail
  refine (roleCheck A c up _ _ HR.out hn).mono ?_
  rw [HE.out]
  rintro e w1 ⟨rfl, heq⟩
  have hb : Below w.heap.size w w1 := by rw [← heq]; exact Below.refl _ _
  clear heq
  have HR1 := Aside.mk (HR.out.below hb)
  have HB1 := Aside.mk hb
  clear hb
  go_wp2_with fail
  refine (cloneI A c up _ _ HR1.out HL.out).mono ?_
  rintro e w2 ⟨v, rfl, ho, hb⟩
  replace ho := own_int ho
  have hs := ho.sl
  obtain ⟨X, d, rfl, hd, hrow⟩ := hs
  have HD := Aside.mk hd
  have hrow2 := hrow.mono (ok' := fun k => w.heap.size ≤ k ∧ k < w2.heap.size) fun k hk hk2 => ⟨hk.elim False.elim (fun h => Nat.le_trans HB1.out.size (ho.lt k h).1), hk2⟩
  have HRW := Aside.mk hrow2
  have HB2 := Aside.mk (below_step HB1.out hb)
  clear ho hd hrow hb
  go_wp2_with fail
  go_ret2
  have hal : Below w2.heap.size w2 (w2.alloc (.cells #[.slice X up.length d, .slice none 0 0, .slice none 0 0, .slice none 0 0] 109)) := (Below.refl _ _).alloc (Nat.le_refl _) _
  exact ⟨HB2.out.alloc HB2.out.size _, w2.heap.size, HB2.out.size, rfl, X, d, none, 0, none, 0, none, 0, Bk.made w2 [.slice X up.length d, .slice none 0 0, .slice none 0 0, .slice none 0 0] _, ⟨HD.out, HRW.out.below hal⟩, ⟨Nat.le_refl _, Row.nil⟩, ⟨Nat.le_refl _, Row.nil⟩, rfl⟩
set_option maxHeartbeats 1600000 in
set_option maxRecDepth 100000 in
theorem serverNew_bad (A : Option Addr) (c : Nat) (up : List Int) (ok : Nat → Prop) (w : World) (hr : int.Row w ok A up) (h0 : ¬ roleErr up = 0) :
    Calls Tryz.prog 34 #[.slice A up.length c] w fun e w' => Below w.heap.size w w' ∧ e = .returned (.tuple #[.pointer none, .int .i64 (roleErr up)]) := by
  have HR := Aside.mk hr
  have hn := hr.1
  clear hr
  have g3 : (roleErr up != 0) = true := by simp [h0]
  clear h0
  go_enter Tryz.func34, Tryz.ntmps34
  go_wp2_with fail
  refine (roleCheck A c up _ _ HR.out hn).mono ?_
  rintro e w1 ⟨rfl, heq⟩
  have hb : Below w.heap.size w w1 := by rw [← heq]; exact Below.refl _ _
  clear heq
  have HB1 := Aside.mk hb
  clear hb
  go_wp2_with fail
  go_ret2
  exact ⟨HB1.out, rfl⟩
set_option maxRecDepth 100000 in
theorem serverRules (g : Nat) (F : Nat → Prop) (s : Srv) (w : World) (h : SrvIs w g F s) (hl : s.rules.length * 48 ≤ 140737488355328) :
    Calls Tryz.prog 39 #[.pointer (some ⟨g, 0, none⟩)] w fun e w' => ∃ v, e = .returned v ∧ rulR.Own 89 w' w.heap.size (fun k => F k ∧ k < w.heap.size) v s.rules ∧ Below w.heap.size w w' := by
  obtain ⟨A1, c1, A2, c2, A3, c3, A4, c4, h0, h1, h2, h3, h4⟩ := h
  have q := h0.four
  have HR := Aside.mk h2.2
  clear h0 h1 h2 h3 h4
  go_enter Tryz.func39, Tryz.ntmps39
  go_wp2_with fail
  refine (cloneR A2 c2 s.rules _ _ HR.out hl).mono ?_
  rintro e w1 ⟨v, rfl, ho, hb⟩
  have HO := Aside.mk ho
  have HB := Aside.mk hb
  clear ho hb q
  go_wp2_with fail
  go_ret
  exact ⟨_, rfl, HO.out, HB.out⟩
set_option maxRecDepth 100000 in
theorem serverVersions (g : Nat) (F : Nat → Prop) (s : Srv) (w : World) (h : SrvIs w g F s) (hs : storeErr s.l = 0) :
    Calls Tryz.prog 14 #[.pointer (some ⟨g, 0, none⟩)] w fun e w' => ∃ v, e = .returned v ∧ verR.Own 63 w' w.heap.size (fun k => w.heap.size ≤ k) v s.l ∧ Below w.heap.size w w' := by
  obtain ⟨A1, c1, A2, c2, A3, c3, A4, c4, h0, h1, h2, h3, h4⟩ := h
  have q := h0.four
  have HR := Aside.mk h3.2
  have HL := Aside.mk (show s.l.length ≤ 6000 by have := (store_ok hs).1; omega)
  have HK := Aside.mk (show ∀ v ∈ s.l, v.r.fields.length ≤ 6 ∧ v.r.refs.length ≤ 4 from fun v hv => by have := rec_ok (store_rec hs v hv); exact ⟨this.2.2.2.1, this.2.2.2.2.1⟩)
  clear h0 h1 h2 h3 h4 hs
  go_enter Tryz.func14, Tryz.ntmps14
  go_wp2_with fail
  refine (storeCopied A3 _ c3 s.l _ _ HR.out rfl HL.out HK.out).mono ?_
  rintro e w1 ⟨v, rfl, ho, hb⟩
  have HO := Aside.mk ho
  have HB := Aside.mk hb
  clear ho hb q
  go_wp2_with fail
  go_ret
  exact ⟨_, rfl, HO.out, HB.out⟩
end Go.Proofs.WK
namespace Go.Proofs.WK
open Go.RowKit Rp
/-- A variable that is set behind everything that was there: nothing turns. -/
theorem grown_new {w w1 : World} {g n : Nat} (h : w.grownBy w1 (some g)) (hn : w.heap.size ≤ n) (o : Nat) (v : Value) : w.grownBy (w1.setCell ⟨n, o, none⟩ v) (some g) := by
  refine ⟨h.os, h.tape, h.output, ?_, fun k hk hne => (Below.heap_setCell _ _ _ k (fun e => by have e2 : k = n := e; omega)).trans (h.block k hk hne)⟩
  show w.heap.size ≤ (w1.heap.modify n _).size
  simpa using h.size
theorem told_heap {w : World} {a b k : Nat} {u c d e f : Value} (ha : k ≠ a) (hb : k ≠ b) : (((((w.setCell ⟨b, 0, none⟩ u).setCell ⟨a, 0, none⟩ c).setCell ⟨a, 1, none⟩ d).setCell ⟨a, 2, none⟩ e).setCell ⟨a, 3, none⟩ f).heap[k]? = w.heap[k]? := by
  rw [sets4 ha]
  exact Below.heap_setCell _ _ _ k hb
theorem told_grown {w w1 : World} {g a b : Nat} {u c d e f : Value} (h : w.grownBy w1 (some g)) (ha : w.heap.size ≤ a) (hb : w.heap.size ≤ b) : w.grownBy (((((w1.setCell ⟨b, 0, none⟩ u).setCell ⟨a, 0, none⟩ c).setCell ⟨a, 1, none⟩ d).setCell ⟨a, 2, none⟩ e).setCell ⟨a, 3, none⟩ f) (some g) :=
  grown_new (grown_new (grown_new (grown_new (grown_new h hb _ _) ha _ _) ha _ _) ha _ _) ha _ _
set_option maxHeartbeats 4000000 in
set_option maxRecDepth 100000 in
theorem doPut (g : Nat) (F : Nat → Prop) (s : Srv) (o : OpV) (hk : o.kind = 2) (B1 : Option Addr) (e1 : Nat) (B2 : Option Addr) (e2 : Nat) (B3 : Option Addr) (e3 : Nat) (ok1 ok2 : Nat → Prop) (w : World) (h : SrvIs w g F s) (hF : ∀ k, F k → k ≠ g)
    (hf : fldR.Row w ok1 B2 o.r.fields) (hf2 : o.r.fields.length ≤ e2) (hg : str.Row w ok2 B3 o.r.refs) (hg2 : o.r.refs.length ≤ e3) :
    Calls Tryz.prog 12 #[.pointer (some ⟨g, 0, none⟩), opVal o B1 e1 B2 e2 B3 e3] w fun e w' => e = .returned (.agg #[.int .i64 (putE s o), .slice none 0 0, .slice none 0 0, .slice none 0 0]) ∧ SrvIs w' g (fun k => F k ∨ w.heap.size ≤ k) (doS s o).1 ∧ w.grownBy w' (some g) := by
  rw [doS_put hk]
  obtain ⟨pe, hpe⟩ : ∃ pe, putE s o = pe := ⟨_, rfl⟩
  obtain ⟨s', hs'⟩ : ∃ s', (if putE s o = 0 then { s with l := putV s.l o.r } else s) = s' := ⟨_, rfl⟩
  rw [hs', hpe]
  have HPE := Aside.mk hpe
  have HS' := Aside.mk hs'
  have hgl : g < w.heap.size := by obtain ⟨_, _, _, _, _, _, _, _, h0, _⟩ := h; exact h0.lt
  have hb0 : Below w.heap.size w (((w.alloc (.cells #[.int .i64 2, .int .i64 o.who.role, .int .i64 o.who.why, .int .i64 o.who.time, .slice B1 o.rules.length e1, .string o.r.id, .int .i64 o.r.cats, .slice B2 o.r.fields.length e2, .slice B3 o.r.refs.length e3, .string o.id, .string o.f.key, .string o.f.val] 40)).alloc (.cells #[.int .i64 0, .slice none 0 0, .slice none 0 0, .slice none 0 0] 45)).alloc (.cells #[.int .i64 0, .slice none 0 0, .slice none 0 0, .slice none 0 0] 45)) := (((Below.refl _ _).alloc (Nat.le_refl _) _).alloc (by simp) _).alloc (by simp; omega) _
  have hz : (((w.alloc (.cells #[.int .i64 2, .int .i64 o.who.role, .int .i64 o.who.why, .int .i64 o.who.time, .slice B1 o.rules.length e1, .string o.r.id, .int .i64 o.r.cats, .slice B2 o.r.fields.length e2, .slice B3 o.r.refs.length e3, .string o.id, .string o.f.key, .string o.f.val] 40)).alloc (.cells #[.int .i64 0, .slice none 0 0, .slice none 0 0, .slice none 0 0] 45)).alloc (.cells #[.int .i64 0, .slice none 0 0, .slice none 0 0, .slice none 0 0] 45)).heap.size = w.heap.size + 1 + 1 + 1 := by simp
  have hc := serverPut g (fun k => F k ∧ k < w.heap.size) s o B1 e1 B2 e2 B3 e3 ok1 ok2 _ ((h.more (F' := fun k => F k ∧ k < w.heap.size) fun k hk hl => ⟨hk, hl⟩).below hb0) (fun k hk => hF k hk.1) (hf.below hb0) hf2 (hg.below hb0) hg2
  rw [hs', hpe] at hc
  unfold opVal at hc
  rw [hk] at hc
  have hb1 := (Bk.made (w.alloc (.cells #[.int .i64 2, .int .i64 o.who.role, .int .i64 o.who.why, .int .i64 o.who.time, .slice B1 o.rules.length e1, .string o.r.id, .int .i64 o.r.cats, .slice B2 o.r.fields.length e2, .slice B3 o.r.refs.length e3, .string o.id, .string o.f.key, .string o.f.val] 40)) [.int .i64 0, .slice none 0 0, .slice none 0 0, .slice none 0 0] 45).alloc (.cells #[.int .i64 0, .slice none 0 0, .slice none 0 0, .slice none 0 0] 45)
  have hb2 := Bk.made ((w.alloc (.cells #[.int .i64 2, .int .i64 o.who.role, .int .i64 o.who.why, .int .i64 o.who.time, .slice B1 o.rules.length e1, .string o.r.id, .int .i64 o.r.cats, .slice B2 o.r.fields.length e2, .slice B3 o.r.refs.length e3, .string o.id, .string o.f.key, .string o.f.val] 40)).alloc (.cells #[.int .i64 0, .slice none 0 0, .slice none 0 0, .slice none 0 0] 45)) [.int .i64 0, .slice none 0 0, .slice none 0 0, .slice none 0 0] 45
  rw [show (w.alloc (.cells #[.int .i64 2, .int .i64 o.who.role, .int .i64 o.who.why, .int .i64 o.who.time, .slice B1 o.rules.length e1, .string o.r.id, .int .i64 o.r.cats, .slice B2 o.r.fields.length e2, .slice B3 o.r.refs.length e3, .string o.id, .string o.f.key, .string o.f.val] 40)).heap.size = w.heap.size + 1 by simp] at hb1
  rw [show ((w.alloc (.cells #[.int .i64 2, .int .i64 o.who.role, .int .i64 o.who.why, .int .i64 o.who.time, .slice B1 o.rules.length e1, .string o.r.id, .int .i64 o.r.cats, .slice B2 o.r.fields.length e2, .slice B3 o.r.refs.length e3, .string o.id, .string o.f.key, .string o.f.val] 40)).alloc (.cells #[.int .i64 0, .slice none 0 0, .slice none 0 0, .slice none 0 0] 45)).heap.size = w.heap.size + 1 + 1 by simp] at hb2
  have HC := Aside.mk hc
  have HQ1 := Aside.mk hb1
  have HQ2 := Aside.mk hb2
  have HZ := Aside.mk hz
  have HG0 := Aside.mk (below_grown hb0 (some g))
  have HGL := Aside.mk hgl
  clear h hF hf hf2 hg hg2 hpe hs' hc hb0 hb1 hb2 hz hgl
  unfold opVal
  rw [hk]
  go_enter Tryz.func12, Tryz.ntmps12
  go_wp2_with fail
  refine HC.out.mono ?_
  rintro e w1 ⟨rfl, hs, hg1⟩
  have hne1 : some (w.heap.size + 1) ≠ some g := fun e => by have := HGL.out; injection e with e; omega
  have hne2 : some (w.heap.size + 1 + 1) ≠ some g := fun e => by have := HGL.out; injection e with e; omega
  have q1 := (HQ1.out.grown hg1 hne1).four
  have q2 := (HQ2.out.grown hg1 hne2).four
  have HS1 := Aside.mk hs
  have HG1 := Aside.mk (HG0.out.trans hg1)
  clear hs hg1 hne1 hne2
  go_wp2_with fail
  refine bodyPost_ret (v := .agg #[.int .i64 pe, .slice none 0 0, .slice none 0 0, .slice none 0 0]) ?_ rfl ⟨rfl, ?_, ?_⟩
  · simp [results, Tryz.results12, go_sem, q1]
  · refine (SrvIs.move HS1.out (told_heap (by have := HGL.out; omega) (by have := HGL.out; omega)) fun k hk _ => told_heap ?_ ?_).more fun k hk _ => hk.imp (fun h => h.1) fun h => by have := HZ.out; omega
    · have := HZ.out; omega
    · have := HZ.out; omega
  · exact told_grown HG1.out (by omega) (by omega)
set_option maxHeartbeats 4000000 in
set_option maxRecDepth 100000 in
theorem doCut (g : Nat) (F : Nat → Prop) (s : Srv) (o : OpV) (hk : o.kind = 3) (B1 : Option Addr) (e1 : Nat) (B2 : Option Addr) (e2 : Nat) (B3 : Option Addr) (e3 : Nat) (w : World) (h : SrvIs w g F s) (hF : ∀ k, F k → k ≠ g) :
    Calls Tryz.prog 12 #[.pointer (some ⟨g, 0, none⟩), opVal o B1 e1 B2 e2 B3 e3] w fun e w' => e = .returned (.agg #[.int .i64 (cutE s o), .slice none 0 0, .slice none 0 0, .slice none 0 0]) ∧ SrvIs w' g (fun k => F k ∨ w.heap.size ≤ k) (doS s o).1 ∧ w.grownBy w' (some g) := by
  rw [doS_cut hk]
  obtain ⟨pe, hpe⟩ : ∃ pe, cutE s o = pe := ⟨_, rfl⟩
  obtain ⟨s', hs'⟩ : ∃ s', (if cutE s o = 0 then { s with l := cutV s.l o.id o.r.cats } else s) = s' := ⟨_, rfl⟩
  rw [hs', hpe]
  have HPE := Aside.mk hpe
  have HS' := Aside.mk hs'
  have hgl : g < w.heap.size := by obtain ⟨_, _, _, _, _, _, _, _, h0, _⟩ := h; exact h0.lt
  have hb0 : Below w.heap.size w (((w.alloc (.cells #[.int .i64 3, .int .i64 o.who.role, .int .i64 o.who.why, .int .i64 o.who.time, .slice B1 o.rules.length e1, .string o.r.id, .int .i64 o.r.cats, .slice B2 o.r.fields.length e2, .slice B3 o.r.refs.length e3, .string o.id, .string o.f.key, .string o.f.val] 40)).alloc (.cells #[.int .i64 0, .slice none 0 0, .slice none 0 0, .slice none 0 0] 45)).alloc (.cells #[.int .i64 0, .slice none 0 0, .slice none 0 0, .slice none 0 0] 45)) := (((Below.refl _ _).alloc (Nat.le_refl _) _).alloc (by simp) _).alloc (by simp; omega) _
  have hz : (((w.alloc (.cells #[.int .i64 3, .int .i64 o.who.role, .int .i64 o.who.why, .int .i64 o.who.time, .slice B1 o.rules.length e1, .string o.r.id, .int .i64 o.r.cats, .slice B2 o.r.fields.length e2, .slice B3 o.r.refs.length e3, .string o.id, .string o.f.key, .string o.f.val] 40)).alloc (.cells #[.int .i64 0, .slice none 0 0, .slice none 0 0, .slice none 0 0] 45)).alloc (.cells #[.int .i64 0, .slice none 0 0, .slice none 0 0, .slice none 0 0] 45)).heap.size = w.heap.size + 1 + 1 + 1 := by simp
  have hc := serverCut g (fun k => F k ∧ k < w.heap.size) s o B1 e1 B2 e2 B3 e3 _ ((h.more (F' := fun k => F k ∧ k < w.heap.size) fun k hk hl => ⟨hk, hl⟩).below hb0) (fun k hk => hF k hk.1)
  rw [hs', hpe] at hc
  unfold opVal at hc
  rw [hk] at hc
  have hb1 := (Bk.made (w.alloc (.cells #[.int .i64 3, .int .i64 o.who.role, .int .i64 o.who.why, .int .i64 o.who.time, .slice B1 o.rules.length e1, .string o.r.id, .int .i64 o.r.cats, .slice B2 o.r.fields.length e2, .slice B3 o.r.refs.length e3, .string o.id, .string o.f.key, .string o.f.val] 40)) [.int .i64 0, .slice none 0 0, .slice none 0 0, .slice none 0 0] 45).alloc (.cells #[.int .i64 0, .slice none 0 0, .slice none 0 0, .slice none 0 0] 45)
  have hb2 := Bk.made ((w.alloc (.cells #[.int .i64 3, .int .i64 o.who.role, .int .i64 o.who.why, .int .i64 o.who.time, .slice B1 o.rules.length e1, .string o.r.id, .int .i64 o.r.cats, .slice B2 o.r.fields.length e2, .slice B3 o.r.refs.length e3, .string o.id, .string o.f.key, .string o.f.val] 40)).alloc (.cells #[.int .i64 0, .slice none 0 0, .slice none 0 0, .slice none 0 0] 45)) [.int .i64 0, .slice none 0 0, .slice none 0 0, .slice none 0 0] 45
  rw [show (w.alloc (.cells #[.int .i64 3, .int .i64 o.who.role, .int .i64 o.who.why, .int .i64 o.who.time, .slice B1 o.rules.length e1, .string o.r.id, .int .i64 o.r.cats, .slice B2 o.r.fields.length e2, .slice B3 o.r.refs.length e3, .string o.id, .string o.f.key, .string o.f.val] 40)).heap.size = w.heap.size + 1 by simp] at hb1
  rw [show ((w.alloc (.cells #[.int .i64 3, .int .i64 o.who.role, .int .i64 o.who.why, .int .i64 o.who.time, .slice B1 o.rules.length e1, .string o.r.id, .int .i64 o.r.cats, .slice B2 o.r.fields.length e2, .slice B3 o.r.refs.length e3, .string o.id, .string o.f.key, .string o.f.val] 40)).alloc (.cells #[.int .i64 0, .slice none 0 0, .slice none 0 0, .slice none 0 0] 45)).heap.size = w.heap.size + 1 + 1 by simp] at hb2
  have HC := Aside.mk hc
  have HQ1 := Aside.mk hb1
  have HQ2 := Aside.mk hb2
  have HZ := Aside.mk hz
  have HG0 := Aside.mk (below_grown hb0 (some g))
  have HGL := Aside.mk hgl
  clear h hF hpe hs' hc hb0 hb1 hb2 hz hgl
  unfold opVal
  rw [hk]
  go_enter Tryz.func12, Tryz.ntmps12
  go_wp2_with fail
  refine HC.out.mono ?_
  rintro e w1 ⟨rfl, hs, hg1⟩
  have hne1 : some (w.heap.size + 1) ≠ some g := fun e => by have := HGL.out; injection e with e; omega
  have hne2 : some (w.heap.size + 1 + 1) ≠ some g := fun e => by have := HGL.out; injection e with e; omega
  have q1 := (HQ1.out.grown hg1 hne1).four
  have q2 := (HQ2.out.grown hg1 hne2).four
  have HS1 := Aside.mk hs
  have HG1 := Aside.mk (HG0.out.trans hg1)
  clear hs hg1 hne1 hne2
  go_wp2_with fail
  refine bodyPost_ret (v := .agg #[.int .i64 pe, .slice none 0 0, .slice none 0 0, .slice none 0 0]) ?_ rfl ⟨rfl, ?_, ?_⟩
  · simp [results, Tryz.results12, go_sem, q1]
  · refine (SrvIs.move HS1.out (told_heap (by have := HGL.out; omega) (by have := HGL.out; omega)) fun k hk _ => told_heap ?_ ?_).more fun k hk _ => hk.imp (fun h => h.1) fun h => by have := HZ.out; omega
    · have := HZ.out; omega
    · have := HZ.out; omega
  · exact told_grown HG1.out (by omega) (by omega)
end Go.Proofs.WK
namespace Go.Proofs.WK
open Go.RowKit Rp
theorem own_rul {t : TypeId} {w : World} {base : Nat} {ok : Nat → Prop} {v : Value} {xs : List Rul} (h : rulR.Own t w base ok v xs) : rulR.Own t w base (fun _ => False) v xs := by
  obtain ⟨inner, h1, h2, h3⟩ := h
  exact ⟨inner, h1, h2, fun j p hp => rulK.2 (rulK.1 (h3 j p hp))⟩
/-- The server's rules are others from now on. -/
theorem SrvIs.setR {w : World} {g : Nat} {F : Nat → Prop} {s : Srv} (h : SrvIs w g F s) (hF : ∀ k, F k → k ≠ g) {v : Value} {l : List Rul} (hl : rulR.Sl w F v l) : SrvIs (w.setCell ⟨g, 1, none⟩ v) g F { s with rules := l } := by
  obtain ⟨A1, c1, A2, c2, A3, c3, A4, c4, h0, h1, h2, h3, h4⟩ := h
  obtain ⟨A5, c5, rfl, h5, h6⟩ := hl
  have hm : ∀ k, F k → k < w.heap.size → (w.setCell ⟨g, 1, none⟩ (.slice A5 l.length c5)).heap[k]? = w.heap[k]? := fun k hk _ => Below.heap_setCell _ _ _ k (hF k hk)
  exact ⟨A1, c1, A5, c5, A3, c3, A4, c4, h0.set 1 _, ⟨h1.1, h1.2.move hm⟩, ⟨h5, h6.move hm⟩, ⟨h3.1, h3.2.move hm⟩, h4⟩
set_option maxHeartbeats 4000000 in
set_option maxRecDepth 100000 in
theorem doRules_bad (g : Nat) (F : Nat → Prop) (s : Srv) (o : OpV) (hk : o.kind = 1) (B1 : Option Addr) (e1 : Nat) (B2 : Option Addr) (e2 : Nat) (B3 : Option Addr) (e3 : Nat) (ok1 : Nat → Prop) (w : World) (h : SrvIs w g F s)
    (hf : rulR.Row w ok1 B1 o.rules) (h0 : ¬ rulesErr o.rules = 0) :
    Calls Tryz.prog 12 #[.pointer (some ⟨g, 0, none⟩), opVal o B1 e1 B2 e2 B3 e3] w fun e w' => e = .returned (.agg #[.int .i64 (rulesErr o.rules), .slice none 0 0, .slice none 0 0, .slice none 0 0]) ∧ SrvIs w' g (fun k => F k ∨ w.heap.size ≤ k) (doS s o).1 ∧ w.grownBy w' (some g) := by
  rw [doS_rules hk, if_neg h0]
  have hgl : g < w.heap.size := by obtain ⟨_, _, _, _, _, _, _, _, h0, _⟩ := h; exact h0.lt
  have hb0 : Below w.heap.size w (((w.alloc (.cells #[.int .i64 1, .int .i64 o.who.role, .int .i64 o.who.why, .int .i64 o.who.time, .slice B1 o.rules.length e1, .string o.r.id, .int .i64 o.r.cats, .slice B2 o.r.fields.length e2, .slice B3 o.r.refs.length e3, .string o.id, .string o.f.key, .string o.f.val] 40)).alloc (.cells #[.int .i64 0, .slice none 0 0, .slice none 0 0, .slice none 0 0] 45)).alloc (.cells #[.int .i64 0, .slice none 0 0, .slice none 0 0, .slice none 0 0] 45)) := (((Below.refl _ _).alloc (Nat.le_refl _) _).alloc (by simp) _).alloc (by simp; omega) _
  have hz : (((w.alloc (.cells #[.int .i64 1, .int .i64 o.who.role, .int .i64 o.who.why, .int .i64 o.who.time, .slice B1 o.rules.length e1, .string o.r.id, .int .i64 o.r.cats, .slice B2 o.r.fields.length e2, .slice B3 o.r.refs.length e3, .string o.id, .string o.f.key, .string o.f.val] 40)).alloc (.cells #[.int .i64 0, .slice none 0 0, .slice none 0 0, .slice none 0 0] 45)).alloc (.cells #[.int .i64 0, .slice none 0 0, .slice none 0 0, .slice none 0 0] 45)).heap.size = w.heap.size + 1 + 1 + 1 := by simp
  have hb1 := (Bk.made (w.alloc (.cells #[.int .i64 1, .int .i64 o.who.role, .int .i64 o.who.why, .int .i64 o.who.time, .slice B1 o.rules.length e1, .string o.r.id, .int .i64 o.r.cats, .slice B2 o.r.fields.length e2, .slice B3 o.r.refs.length e3, .string o.id, .string o.f.key, .string o.f.val] 40)) [.int .i64 0, .slice none 0 0, .slice none 0 0, .slice none 0 0] 45).alloc (.cells #[.int .i64 0, .slice none 0 0, .slice none 0 0, .slice none 0 0] 45)
  have hb2 := Bk.made ((w.alloc (.cells #[.int .i64 1, .int .i64 o.who.role, .int .i64 o.who.why, .int .i64 o.who.time, .slice B1 o.rules.length e1, .string o.r.id, .int .i64 o.r.cats, .slice B2 o.r.fields.length e2, .slice B3 o.r.refs.length e3, .string o.id, .string o.f.key, .string o.f.val] 40)).alloc (.cells #[.int .i64 0, .slice none 0 0, .slice none 0 0, .slice none 0 0] 45)) [.int .i64 0, .slice none 0 0, .slice none 0 0, .slice none 0 0] 45
  rw [show (w.alloc (.cells #[.int .i64 1, .int .i64 o.who.role, .int .i64 o.who.why, .int .i64 o.who.time, .slice B1 o.rules.length e1, .string o.r.id, .int .i64 o.r.cats, .slice B2 o.r.fields.length e2, .slice B3 o.r.refs.length e3, .string o.id, .string o.f.key, .string o.f.val] 40)).heap.size = w.heap.size + 1 by simp] at hb1
  rw [show ((w.alloc (.cells #[.int .i64 1, .int .i64 o.who.role, .int .i64 o.who.why, .int .i64 o.who.time, .slice B1 o.rules.length e1, .string o.r.id, .int .i64 o.r.cats, .slice B2 o.r.fields.length e2, .slice B3 o.r.refs.length e3, .string o.id, .string o.f.key, .string o.f.val] 40)).alloc (.cells #[.int .i64 0, .slice none 0 0, .slice none 0 0, .slice none 0 0] 45)).heap.size = w.heap.size + 1 + 1 by simp] at hb2
  have HS := Aside.mk ((h.more (F' := fun k => F k ∧ k < w.heap.size) fun k hk hl => ⟨hk, hl⟩).below hb0)
  have HR := Aside.mk (And.intro hf.1 (hf.below hb0))
  have HQ1 := Aside.mk hb1
  have HQ2 := Aside.mk hb2
  have HZ := Aside.mk hz
  have HB := Aside.mk hb0
  have HGL := Aside.mk hgl
  have g3 : (rulesErr o.rules == 0) = false := by simp [h0]
  clear h hf hb0 hb1 hb2 hz hgl h0
  unfold opVal
  rw [hk]
  go_enter Tryz.func12, Tryz.ntmps12
  go_wp2_with fail
  refine (ruleCheck _ _ o.rules _ _ HR.out.2 HR.out.1).mono ?_
  rintro e w1 ⟨rfl, hb⟩
  have q1 := (HQ1.out.below hb).four
  have q2 := (HQ2.out.below hb).four
  have HS1 := Aside.mk (HS.out.below hb)
  have HG1 := Aside.mk (below_grown (below_step HB.out hb) (some g))
  clear hb
  go_wp2_with fail
  refine bodyPost_ret (v := .agg #[.int .i64 (rulesErr o.rules), .slice none 0 0, .slice none 0 0, .slice none 0 0]) ?_ rfl ⟨rfl, ?_, ?_⟩
  · simp [results, Tryz.results12, go_sem, q1]
  · refine (SrvIs.move HS1.out (told_heap (by have := HGL.out; omega) (by have := HGL.out; omega)) fun k hk _ => told_heap ?_ ?_).more fun k hk _ => .inl hk.1
    · have := hk.2; omega
    · have := hk.2; omega
  · exact told_grown HG1.out (by omega) (by omega)
set_option maxHeartbeats 4000000 in
set_option maxRecDepth 100000 in
theorem doRules_ok (g : Nat) (F : Nat → Prop) (s : Srv) (o : OpV) (hk : o.kind = 1) (B1 : Option Addr) (e1 : Nat) (B2 : Option Addr) (e2 : Nat) (B3 : Option Addr) (e3 : Nat) (ok1 : Nat → Prop) (w : World) (h : SrvIs w g F s)
    (hf : rulR.Row w ok1 B1 o.rules) (h0 : rulesErr o.rules = 0) (hF : ∀ k, F k → k ≠ g) :
    Calls Tryz.prog 12 #[.pointer (some ⟨g, 0, none⟩), opVal o B1 e1 B2 e2 B3 e3] w fun e w' => e = .returned (.agg #[.int .i64 0, .slice none 0 0, .slice none 0 0, .slice none 0 0]) ∧ SrvIs w' g (fun k => F k ∨ w.heap.size ≤ k) (doS s o).1 ∧ w.grownBy w' (some g) := by
  rw [doS_rules hk, if_pos h0]
  have hgl : g < w.heap.size := by obtain ⟨_, _, _, _, _, _, _, _, h0, _⟩ := h; exact h0.lt
  have hb0 : Below w.heap.size w (((w.alloc (.cells #[.int .i64 1, .int .i64 o.who.role, .int .i64 o.who.why, .int .i64 o.who.time, .slice B1 o.rules.length e1, .string o.r.id, .int .i64 o.r.cats, .slice B2 o.r.fields.length e2, .slice B3 o.r.refs.length e3, .string o.id, .string o.f.key, .string o.f.val] 40)).alloc (.cells #[.int .i64 0, .slice none 0 0, .slice none 0 0, .slice none 0 0] 45)).alloc (.cells #[.int .i64 0, .slice none 0 0, .slice none 0 0, .slice none 0 0] 45)) := (((Below.refl _ _).alloc (Nat.le_refl _) _).alloc (by simp) _).alloc (by simp; omega) _
  have hz : (((w.alloc (.cells #[.int .i64 1, .int .i64 o.who.role, .int .i64 o.who.why, .int .i64 o.who.time, .slice B1 o.rules.length e1, .string o.r.id, .int .i64 o.r.cats, .slice B2 o.r.fields.length e2, .slice B3 o.r.refs.length e3, .string o.id, .string o.f.key, .string o.f.val] 40)).alloc (.cells #[.int .i64 0, .slice none 0 0, .slice none 0 0, .slice none 0 0] 45)).alloc (.cells #[.int .i64 0, .slice none 0 0, .slice none 0 0, .slice none 0 0] 45)).heap.size = w.heap.size + 1 + 1 + 1 := by simp
  have hb1 := (Bk.made (w.alloc (.cells #[.int .i64 1, .int .i64 o.who.role, .int .i64 o.who.why, .int .i64 o.who.time, .slice B1 o.rules.length e1, .string o.r.id, .int .i64 o.r.cats, .slice B2 o.r.fields.length e2, .slice B3 o.r.refs.length e3, .string o.id, .string o.f.key, .string o.f.val] 40)) [.int .i64 0, .slice none 0 0, .slice none 0 0, .slice none 0 0] 45).alloc (.cells #[.int .i64 0, .slice none 0 0, .slice none 0 0, .slice none 0 0] 45)
  have hb2 := Bk.made ((w.alloc (.cells #[.int .i64 1, .int .i64 o.who.role, .int .i64 o.who.why, .int .i64 o.who.time, .slice B1 o.rules.length e1, .string o.r.id, .int .i64 o.r.cats, .slice B2 o.r.fields.length e2, .slice B3 o.r.refs.length e3, .string o.id, .string o.f.key, .string o.f.val] 40)).alloc (.cells #[.int .i64 0, .slice none 0 0, .slice none 0 0, .slice none 0 0] 45)) [.int .i64 0, .slice none 0 0, .slice none 0 0, .slice none 0 0] 45
  rw [show (w.alloc (.cells #[.int .i64 1, .int .i64 o.who.role, .int .i64 o.who.why, .int .i64 o.who.time, .slice B1 o.rules.length e1, .string o.r.id, .int .i64 o.r.cats, .slice B2 o.r.fields.length e2, .slice B3 o.r.refs.length e3, .string o.id, .string o.f.key, .string o.f.val] 40)).heap.size = w.heap.size + 1 by simp] at hb1
  rw [show ((w.alloc (.cells #[.int .i64 1, .int .i64 o.who.role, .int .i64 o.who.why, .int .i64 o.who.time, .slice B1 o.rules.length e1, .string o.r.id, .int .i64 o.r.cats, .slice B2 o.r.fields.length e2, .slice B3 o.r.refs.length e3, .string o.id, .string o.f.key, .string o.f.val] 40)).alloc (.cells #[.int .i64 0, .slice none 0 0, .slice none 0 0, .slice none 0 0] 45)).heap.size = w.heap.size + 1 + 1 by simp] at hb2
  have HS := Aside.mk ((h.more (F' := fun k => F k ∧ k < w.heap.size) fun k hk hl => ⟨hk, hl⟩).below hb0)
  have HR := Aside.mk (And.intro hf.1 ((hf.mono (ok' := fun k => ok1 k ∧ k < w.heap.size) fun k h1 h2 => ⟨h1, h2⟩).below hb0))
  have HQ0 := Aside.mk (((Bk.made w [.int .i64 1, .int .i64 o.who.role, .int .i64 o.who.why, .int .i64 o.who.time, .slice B1 o.rules.length e1, .string o.r.id, .int .i64 o.r.cats, .slice B2 o.r.fields.length e2, .slice B3 o.r.refs.length e3, .string o.id, .string o.f.key, .string o.f.val] 40).alloc (.cells #[.int .i64 0, .slice none 0 0, .slice none 0 0, .slice none 0 0] 45)).alloc (.cells #[.int .i64 0, .slice none 0 0, .slice none 0 0, .slice none 0 0] 45))
  have HQ1 := Aside.mk hb1
  have HQ2 := Aside.mk hb2
  have HZ := Aside.mk hz
  have HB := Aside.mk hb0
  have HGL := Aside.mk hgl
  have HE := Aside.mk h0
  have HLN := Aside.mk (show o.rules.length * 48 ≤ 140737488355328 by have := (rules_ok h0).1; omega)
  have HFF := Aside.mk hF
  clear h hf hb0 hb1 hb2 hz hgl h0 hF
  unfold opVal
  rw [hk]
  go_enter Tryz.func12, Tryz.ntmps12
  go_wp2_with fail
  refine (ruleCheck _ _ o.rules _ _ HR.out.2 HR.out.1).mono ?_
  rw [HE.out]
  rintro e w1 ⟨rfl, hb⟩
  have q0 : w1.cell? ⟨w.heap.size, 4, none⟩ = some (.slice B1 o.rules.length e1) := (HQ0.out.below hb).cell 4
  have q1 := (HQ1.out.below hb).four
  have q2 := (HQ2.out.below hb).four
  have HP1 := Aside.mk ((HQ1.out.below hb).other (o := 0) (show w.heap.size + 1 ≠ w.heap.size + 1 + 1 by omega) (.int .i64 0))
  have HP2 := Aside.mk ((HQ2.out.below hb).set 0 (.int .i64 0))
  have HS1 := Aside.mk ((HS.out.below hb).move (w' := w1.setCell ⟨w.heap.size + 1 + 1, 0, none⟩ (.int .i64 0)) (Below.heap_setCell _ _ _ g (by have := HGL.out; show g ≠ w.heap.size + 1 + 1; omega)) fun k hk _ => Below.heap_setCell _ _ _ k (by have := hk.2; show k ≠ w.heap.size + 1 + 1; omega))
  have HR1 := Aside.mk ((HR.out.2.below hb).move (w1 := w1.setCell ⟨w.heap.size + 1 + 1, 0, none⟩ (.int .i64 0)) fun k hk _ => Below.heap_setCell _ _ _ k (by have := hk.2; show k ≠ w.heap.size + 1 + 1; omega))
  have HG1 := Aside.mk (grown_new (below_grown (below_step HB.out hb) (some g)) (show w.heap.size ≤ w.heap.size + 1 + 1 by omega) 0 (.int .i64 0))
  clear hb
  go_wp2_with fail
  refine (cloneR _ _ o.rules _ _ HR1.out HLN.out).mono ?_
  rintro e w2 ⟨v, rfl, ho, hb⟩
  have hs := (own_rul ho).sl
  have hsz := HG1.out.size
  have HV := Aside.mk (hs.mono (ok' := fun k => (F k ∧ k < w.heap.size) ∨ (w.heap.size ≤ k ∧ k ≠ g ∧ k ≠ w.heap.size + 1)) fun k hk _ => .inr (hk.elim False.elim fun h => by
    have h1 := (ho.lt k h).1
    have h2 := HP1.out.lt
    have h3 := HGL.out
    omega))
  have p1 := (HP1.out.below hb).four
  have p2 := (HP2.out.below hb).four
  have HS2 := Aside.mk ((HS1.out.below hb).more (F' := fun k => (F k ∧ k < w.heap.size) ∨ (w.heap.size ≤ k ∧ k ≠ g ∧ k ≠ w.heap.size + 1)) fun k hk _ => .inl hk)
  have HG2 := Aside.mk (HG1.out.trans (below_grown hb (some g)))
  obtain ⟨_, _, _, _, _, _, _, _, hbk, _⟩ := HS2.out
  have p3 := hbk.four
  obtain ⟨X, d, rfl⟩ := Sl.form hs
  clear hs ho hb hbk hsz q0 q1 q2
  have n1 : w.heap.size + 1 + 1 ≠ g := by have := HGL.out; omega
  have n2 : g ≠ w.heap.size + 1 + 1 := fun e => n1 e.symm
  have n3 : w.heap.size + 1 ≠ g := by have := HGL.out; omega
  have n4 : g ≠ w.heap.size + 1 := fun e => n3 e.symm
  go_wp2_with fail
  refine bodyPost_ret (v := .agg #[.int .i64 0, .slice none 0 0, .slice none 0 0, .slice none 0 0]) ?_ rfl ⟨rfl, ?_, ?_⟩
  · simp [results, Tryz.results12, go_sem, p1]
  · refine (SrvIs.move (HS2.out.setR (fun k hk => hk.elim (fun h => HFF.out k h.1) fun h => h.2.1) HV.out) (sets4 (by have := HGL.out; omega)) fun k hk _ => sets4 ?_).more fun k hk _ => hk.imp (fun h => h.1) fun h => h.1
    have := HGL.out
    rcases hk with hk | hk
    · have := hk.2; omega
    · exact hk.2.2
  · exact grown_new (grown_new (grown_new (grown_new (HG2.out.trans (grown_set _ _ _ _)) (by omega) _ _) (by omega) _ _) (by omega) _ _) (by omega) _ _
end Go.Proofs.WK
namespace Go.Proofs.WK
open Go.RowKit Rp
theorem look_heap {w : World} {a b k : Nat} {x u c d e f : Value} {j : Nat} (ha : k ≠ a) (hb : k ≠ b) : ((((((w.setCell ⟨b, j, none⟩ x).setCell ⟨b, 0, none⟩ u).setCell ⟨a, 0, none⟩ c).setCell ⟨a, 1, none⟩ d).setCell ⟨a, 2, none⟩ e).setCell ⟨a, 3, none⟩ f).heap[k]? = w.heap[k]? := by
  rw [told_heap ha hb]
  exact Below.heap_setCell _ _ _ k hb
theorem look_below {w w1 : World} {a b : Nat} {x u c d e f : Value} {j : Nat} (h : Below w.heap.size w w1) (ha : w.heap.size ≤ a) (hb : w.heap.size ≤ b) : Below w.heap.size w ((((((w1.setCell ⟨b, j, none⟩ x).setCell ⟨b, 0, none⟩ u).setCell ⟨a, 0, none⟩ c).setCell ⟨a, 1, none⟩ d).setCell ⟨a, 2, none⟩ e).setCell ⟨a, 3, none⟩ f) :=
  below_set (below_set (below_set (below_set (below_set (below_set h hb _) hb _) ha _) ha _) ha _) ha _
theorem tell_below {w w1 : World} {a b : Nat} {u c d e f : Value} (h : Below w.heap.size w w1) (ha : w.heap.size ≤ a) (hb : w.heap.size ≤ b) : Below w.heap.size w (((((w1.setCell ⟨b, 0, none⟩ u).setCell ⟨a, 0, none⟩ c).setCell ⟨a, 1, none⟩ d).setCell ⟨a, 2, none⟩ e).setCell ⟨a, 3, none⟩ f) :=
  below_set (below_set (below_set (below_set (below_set h hb _) ha _) ha _) ha _) ha _
set_option maxHeartbeats 4000000 in
set_option maxRecDepth 100000 in
theorem doGet_no (g : Nat) (F : Nat → Prop) (s : Srv) (o : OpV) (hk : o.kind = 4) (B1 : Option Addr) (e1 : Nat) (B2 : Option Addr) (e2 : Nat) (B3 : Option Addr) (e3 : Nat) (w : World) (h : SrvIs w g F s) (h0 : ¬ mineE s o.who = 0) :
    Calls Tryz.prog 12 #[.pointer (some ⟨g, 0, none⟩), opVal o B1 e1 B2 e2 B3 e3] w fun e w' => e = .returned (.agg #[.int .i64 (mineE s o.who), .slice none 0 0, .slice none 0 0, .slice none 0 0]) ∧ Below w.heap.size w w' := by
  have hb0 : Below w.heap.size w (((w.alloc (.cells #[.int .i64 4, .int .i64 o.who.role, .int .i64 o.who.why, .int .i64 o.who.time, .slice B1 o.rules.length e1, .string o.r.id, .int .i64 o.r.cats, .slice B2 o.r.fields.length e2, .slice B3 o.r.refs.length e3, .string o.id, .string o.f.key, .string o.f.val] 40)).alloc (.cells #[.int .i64 0, .slice none 0 0, .slice none 0 0, .slice none 0 0] 45)).alloc (.cells #[.int .i64 0, .slice none 0 0, .slice none 0 0, .slice none 0 0] 45)) := (((Below.refl _ _).alloc (Nat.le_refl _) _).alloc (by simp) _).alloc (by simp; omega) _
  have hz : (((w.alloc (.cells #[.int .i64 4, .int .i64 o.who.role, .int .i64 o.who.why, .int .i64 o.who.time, .slice B1 o.rules.length e1, .string o.r.id, .int .i64 o.r.cats, .slice B2 o.r.fields.length e2, .slice B3 o.r.refs.length e3, .string o.id, .string o.f.key, .string o.f.val] 40)).alloc (.cells #[.int .i64 0, .slice none 0 0, .slice none 0 0, .slice none 0 0] 45)).alloc (.cells #[.int .i64 0, .slice none 0 0, .slice none 0 0, .slice none 0 0] 45)).heap.size = w.heap.size + 1 + 1 + 1 := by simp
  have hb1 := (Bk.made (w.alloc (.cells #[.int .i64 4, .int .i64 o.who.role, .int .i64 o.who.why, .int .i64 o.who.time, .slice B1 o.rules.length e1, .string o.r.id, .int .i64 o.r.cats, .slice B2 o.r.fields.length e2, .slice B3 o.r.refs.length e3, .string o.id, .string o.f.key, .string o.f.val] 40)) [.int .i64 0, .slice none 0 0, .slice none 0 0, .slice none 0 0] 45).alloc (.cells #[.int .i64 0, .slice none 0 0, .slice none 0 0, .slice none 0 0] 45)
  have hb2 := Bk.made ((w.alloc (.cells #[.int .i64 4, .int .i64 o.who.role, .int .i64 o.who.why, .int .i64 o.who.time, .slice B1 o.rules.length e1, .string o.r.id, .int .i64 o.r.cats, .slice B2 o.r.fields.length e2, .slice B3 o.r.refs.length e3, .string o.id, .string o.f.key, .string o.f.val] 40)).alloc (.cells #[.int .i64 0, .slice none 0 0, .slice none 0 0, .slice none 0 0] 45)) [.int .i64 0, .slice none 0 0, .slice none 0 0, .slice none 0 0] 45
  rw [show (w.alloc (.cells #[.int .i64 4, .int .i64 o.who.role, .int .i64 o.who.why, .int .i64 o.who.time, .slice B1 o.rules.length e1, .string o.r.id, .int .i64 o.r.cats, .slice B2 o.r.fields.length e2, .slice B3 o.r.refs.length e3, .string o.id, .string o.f.key, .string o.f.val] 40)).heap.size = w.heap.size + 1 by simp] at hb1
  rw [show ((w.alloc (.cells #[.int .i64 4, .int .i64 o.who.role, .int .i64 o.who.why, .int .i64 o.who.time, .slice B1 o.rules.length e1, .string o.r.id, .int .i64 o.r.cats, .slice B2 o.r.fields.length e2, .slice B3 o.r.refs.length e3, .string o.id, .string o.f.key, .string o.f.val] 40)).alloc (.cells #[.int .i64 0, .slice none 0 0, .slice none 0 0, .slice none 0 0] 45)).heap.size = w.heap.size + 1 + 1 by simp] at hb2
  have HS := Aside.mk (h.below hb0)
  have HQ0 := Aside.mk (((Bk.made w [.int .i64 4, .int .i64 o.who.role, .int .i64 o.who.why, .int .i64 o.who.time, .slice B1 o.rules.length e1, .string o.r.id, .int .i64 o.r.cats, .slice B2 o.r.fields.length e2, .slice B3 o.r.refs.length e3, .string o.id, .string o.f.key, .string o.f.val] 40).alloc (.cells #[.int .i64 0, .slice none 0 0, .slice none 0 0, .slice none 0 0] 45)).alloc (.cells #[.int .i64 0, .slice none 0 0, .slice none 0 0, .slice none 0 0] 45))
  have HQ1 := Aside.mk hb1
  have HQ2 := Aside.mk hb2
  have HZ := Aside.mk hz
  have HB := Aside.mk hb0
  clear h hb0 hb1 hb2 hz
  obtain ⟨me, hme⟩ : ∃ me, mineE s o.who = me := ⟨_, rfl⟩
  have HME := Aside.mk hme
  rw [hme] at h0
  rw [hme]
  have g3 : (me != 0) = true := by simp [h0]
  clear h0 hme
  unfold opVal
  rw [hk]
  go_enter Tryz.func12, Tryz.ntmps12
  go_wp2_with fail
  refine (serverPart g F s o.who _ HS.out).mono ?_
  rw [HME.out]
  rintro e w1 ⟨v, rfl, sl, hb⟩
  obtain ⟨X, d, rfl⟩ := Sl.form sl
  have q0 : w1.cell? ⟨w.heap.size, 0, none⟩ = some (.int .i64 4) := (HQ0.out.below hb).cell 0
  have q1 := (HQ1.out.below hb).four
  have q2 := (HQ2.out.below hb).four
  have HB1 := Aside.mk (below_step HB.out hb)
  clear hb sl
  go_wp2_with fail
  refine bodyPost_ret (v := .agg #[.int .i64 me, .slice none 0 0, .slice none 0 0, .slice none 0 0]) ?_ rfl ⟨rfl, tell_below HB1.out (by omega) (by omega)⟩
  simp [results, Tryz.results12, go_sem, q1]
set_option maxHeartbeats 4000000 in
set_option maxRecDepth 100000 in
theorem doHist_no (g : Nat) (F : Nat → Prop) (s : Srv) (o : OpV) (hk : o.kind = 6) (B1 : Option Addr) (e1 : Nat) (B2 : Option Addr) (e2 : Nat) (B3 : Option Addr) (e3 : Nat) (w : World) (h : SrvIs w g F s) (h0 : ¬ mineE s o.who = 0) :
    Calls Tryz.prog 12 #[.pointer (some ⟨g, 0, none⟩), opVal o B1 e1 B2 e2 B3 e3] w fun e w' => e = .returned (.agg #[.int .i64 (mineE s o.who), .slice none 0 0, .slice none 0 0, .slice none 0 0]) ∧ Below w.heap.size w w' := by
  have hb0 : Below w.heap.size w (((w.alloc (.cells #[.int .i64 6, .int .i64 o.who.role, .int .i64 o.who.why, .int .i64 o.who.time, .slice B1 o.rules.length e1, .string o.r.id, .int .i64 o.r.cats, .slice B2 o.r.fields.length e2, .slice B3 o.r.refs.length e3, .string o.id, .string o.f.key, .string o.f.val] 40)).alloc (.cells #[.int .i64 0, .slice none 0 0, .slice none 0 0, .slice none 0 0] 45)).alloc (.cells #[.int .i64 0, .slice none 0 0, .slice none 0 0, .slice none 0 0] 45)) := (((Below.refl _ _).alloc (Nat.le_refl _) _).alloc (by simp) _).alloc (by simp; omega) _
  have hz : (((w.alloc (.cells #[.int .i64 6, .int .i64 o.who.role, .int .i64 o.who.why, .int .i64 o.who.time, .slice B1 o.rules.length e1, .string o.r.id, .int .i64 o.r.cats, .slice B2 o.r.fields.length e2, .slice B3 o.r.refs.length e3, .string o.id, .string o.f.key, .string o.f.val] 40)).alloc (.cells #[.int .i64 0, .slice none 0 0, .slice none 0 0, .slice none 0 0] 45)).alloc (.cells #[.int .i64 0, .slice none 0 0, .slice none 0 0, .slice none 0 0] 45)).heap.size = w.heap.size + 1 + 1 + 1 := by simp
  have hb1 := (Bk.made (w.alloc (.cells #[.int .i64 6, .int .i64 o.who.role, .int .i64 o.who.why, .int .i64 o.who.time, .slice B1 o.rules.length e1, .string o.r.id, .int .i64 o.r.cats, .slice B2 o.r.fields.length e2, .slice B3 o.r.refs.length e3, .string o.id, .string o.f.key, .string o.f.val] 40)) [.int .i64 0, .slice none 0 0, .slice none 0 0, .slice none 0 0] 45).alloc (.cells #[.int .i64 0, .slice none 0 0, .slice none 0 0, .slice none 0 0] 45)
  have hb2 := Bk.made ((w.alloc (.cells #[.int .i64 6, .int .i64 o.who.role, .int .i64 o.who.why, .int .i64 o.who.time, .slice B1 o.rules.length e1, .string o.r.id, .int .i64 o.r.cats, .slice B2 o.r.fields.length e2, .slice B3 o.r.refs.length e3, .string o.id, .string o.f.key, .string o.f.val] 40)).alloc (.cells #[.int .i64 0, .slice none 0 0, .slice none 0 0, .slice none 0 0] 45)) [.int .i64 0, .slice none 0 0, .slice none 0 0, .slice none 0 0] 45
  rw [show (w.alloc (.cells #[.int .i64 6, .int .i64 o.who.role, .int .i64 o.who.why, .int .i64 o.who.time, .slice B1 o.rules.length e1, .string o.r.id, .int .i64 o.r.cats, .slice B2 o.r.fields.length e2, .slice B3 o.r.refs.length e3, .string o.id, .string o.f.key, .string o.f.val] 40)).heap.size = w.heap.size + 1 by simp] at hb1
  rw [show ((w.alloc (.cells #[.int .i64 6, .int .i64 o.who.role, .int .i64 o.who.why, .int .i64 o.who.time, .slice B1 o.rules.length e1, .string o.r.id, .int .i64 o.r.cats, .slice B2 o.r.fields.length e2, .slice B3 o.r.refs.length e3, .string o.id, .string o.f.key, .string o.f.val] 40)).alloc (.cells #[.int .i64 0, .slice none 0 0, .slice none 0 0, .slice none 0 0] 45)).heap.size = w.heap.size + 1 + 1 by simp] at hb2
  have HS := Aside.mk (h.below hb0)
  have HQ0 := Aside.mk (((Bk.made w [.int .i64 6, .int .i64 o.who.role, .int .i64 o.who.why, .int .i64 o.who.time, .slice B1 o.rules.length e1, .string o.r.id, .int .i64 o.r.cats, .slice B2 o.r.fields.length e2, .slice B3 o.r.refs.length e3, .string o.id, .string o.f.key, .string o.f.val] 40).alloc (.cells #[.int .i64 0, .slice none 0 0, .slice none 0 0, .slice none 0 0] 45)).alloc (.cells #[.int .i64 0, .slice none 0 0, .slice none 0 0, .slice none 0 0] 45))
  have HQ1 := Aside.mk hb1
  have HQ2 := Aside.mk hb2
  have HZ := Aside.mk hz
  have HB := Aside.mk hb0
  clear h hb0 hb1 hb2 hz
  obtain ⟨me, hme⟩ : ∃ me, mineE s o.who = me := ⟨_, rfl⟩
  have HME := Aside.mk hme
  rw [hme] at h0
  rw [hme]
  have g3 : (me != 0) = true := by simp [h0]
  clear h0 hme
  unfold opVal
  rw [hk]
  go_enter Tryz.func12, Tryz.ntmps12
  go_wp2_with fail
  refine (serverPart g F s o.who _ HS.out).mono ?_
  rw [HME.out]
  rintro e w1 ⟨v, rfl, sl, hb⟩
  obtain ⟨X, d, rfl⟩ := Sl.form sl
  have q0 : w1.cell? ⟨w.heap.size, 0, none⟩ = some (.int .i64 6) := (HQ0.out.below hb).cell 0
  have q1 := (HQ1.out.below hb).four
  have q2 := (HQ2.out.below hb).four
  have HB1 := Aside.mk (below_step HB.out hb)
  clear hb sl
  go_wp2_with fail
  refine bodyPost_ret (v := .agg #[.int .i64 me, .slice none 0 0, .slice none 0 0, .slice none 0 0]) ?_ rfl ⟨rfl, tell_below HB1.out (by omega) (by omega)⟩
  simp [results, Tryz.results12, go_sem, q1]
set_option maxHeartbeats 4000000 in
set_option maxRecDepth 100000 in
theorem doFind_no (g : Nat) (F : Nat → Prop) (s : Srv) (o : OpV) (hk : o.kind = 5) (B1 : Option Addr) (e1 : Nat) (B2 : Option Addr) (e2 : Nat) (B3 : Option Addr) (e3 : Nat) (w : World) (h : SrvIs w g F s) (h0 : ¬ mineE s o.who = 0) :
    Calls Tryz.prog 12 #[.pointer (some ⟨g, 0, none⟩), opVal o B1 e1 B2 e2 B3 e3] w fun e w' => e = .returned (.agg #[.int .i64 (mineE s o.who), .slice none 0 0, .slice none 0 0, .slice none 0 0]) ∧ Below w.heap.size w w' := by
  have hb0 : Below w.heap.size w (((w.alloc (.cells #[.int .i64 5, .int .i64 o.who.role, .int .i64 o.who.why, .int .i64 o.who.time, .slice B1 o.rules.length e1, .string o.r.id, .int .i64 o.r.cats, .slice B2 o.r.fields.length e2, .slice B3 o.r.refs.length e3, .string o.id, .string o.f.key, .string o.f.val] 40)).alloc (.cells #[.int .i64 0, .slice none 0 0, .slice none 0 0, .slice none 0 0] 45)).alloc (.cells #[.int .i64 0, .slice none 0 0, .slice none 0 0, .slice none 0 0] 45)) := (((Below.refl _ _).alloc (Nat.le_refl _) _).alloc (by simp) _).alloc (by simp; omega) _
  have hz : (((w.alloc (.cells #[.int .i64 5, .int .i64 o.who.role, .int .i64 o.who.why, .int .i64 o.who.time, .slice B1 o.rules.length e1, .string o.r.id, .int .i64 o.r.cats, .slice B2 o.r.fields.length e2, .slice B3 o.r.refs.length e3, .string o.id, .string o.f.key, .string o.f.val] 40)).alloc (.cells #[.int .i64 0, .slice none 0 0, .slice none 0 0, .slice none 0 0] 45)).alloc (.cells #[.int .i64 0, .slice none 0 0, .slice none 0 0, .slice none 0 0] 45)).heap.size = w.heap.size + 1 + 1 + 1 := by simp
  have hb1 := (Bk.made (w.alloc (.cells #[.int .i64 5, .int .i64 o.who.role, .int .i64 o.who.why, .int .i64 o.who.time, .slice B1 o.rules.length e1, .string o.r.id, .int .i64 o.r.cats, .slice B2 o.r.fields.length e2, .slice B3 o.r.refs.length e3, .string o.id, .string o.f.key, .string o.f.val] 40)) [.int .i64 0, .slice none 0 0, .slice none 0 0, .slice none 0 0] 45).alloc (.cells #[.int .i64 0, .slice none 0 0, .slice none 0 0, .slice none 0 0] 45)
  have hb2 := Bk.made ((w.alloc (.cells #[.int .i64 5, .int .i64 o.who.role, .int .i64 o.who.why, .int .i64 o.who.time, .slice B1 o.rules.length e1, .string o.r.id, .int .i64 o.r.cats, .slice B2 o.r.fields.length e2, .slice B3 o.r.refs.length e3, .string o.id, .string o.f.key, .string o.f.val] 40)).alloc (.cells #[.int .i64 0, .slice none 0 0, .slice none 0 0, .slice none 0 0] 45)) [.int .i64 0, .slice none 0 0, .slice none 0 0, .slice none 0 0] 45
  rw [show (w.alloc (.cells #[.int .i64 5, .int .i64 o.who.role, .int .i64 o.who.why, .int .i64 o.who.time, .slice B1 o.rules.length e1, .string o.r.id, .int .i64 o.r.cats, .slice B2 o.r.fields.length e2, .slice B3 o.r.refs.length e3, .string o.id, .string o.f.key, .string o.f.val] 40)).heap.size = w.heap.size + 1 by simp] at hb1
  rw [show ((w.alloc (.cells #[.int .i64 5, .int .i64 o.who.role, .int .i64 o.who.why, .int .i64 o.who.time, .slice B1 o.rules.length e1, .string o.r.id, .int .i64 o.r.cats, .slice B2 o.r.fields.length e2, .slice B3 o.r.refs.length e3, .string o.id, .string o.f.key, .string o.f.val] 40)).alloc (.cells #[.int .i64 0, .slice none 0 0, .slice none 0 0, .slice none 0 0] 45)).heap.size = w.heap.size + 1 + 1 by simp] at hb2
  have HS := Aside.mk (h.below hb0)
  have HQ0 := Aside.mk (((Bk.made w [.int .i64 5, .int .i64 o.who.role, .int .i64 o.who.why, .int .i64 o.who.time, .slice B1 o.rules.length e1, .string o.r.id, .int .i64 o.r.cats, .slice B2 o.r.fields.length e2, .slice B3 o.r.refs.length e3, .string o.id, .string o.f.key, .string o.f.val] 40).alloc (.cells #[.int .i64 0, .slice none 0 0, .slice none 0 0, .slice none 0 0] 45)).alloc (.cells #[.int .i64 0, .slice none 0 0, .slice none 0 0, .slice none 0 0] 45))
  have HQ1 := Aside.mk hb1
  have HQ2 := Aside.mk hb2
  have HZ := Aside.mk hz
  have HB := Aside.mk hb0
  clear h hb0 hb1 hb2 hz
  obtain ⟨me, hme⟩ : ∃ me, mineE s o.who = me := ⟨_, rfl⟩
  have HME := Aside.mk hme
  rw [hme] at h0
  rw [hme]
  have g3 : (me != 0) = true := by simp [h0]
  clear h0 hme
  unfold opVal
  rw [hk]
  go_enter Tryz.func12, Tryz.ntmps12
  go_wp2_with fail
  refine (serverPart g F s o.who _ HS.out).mono ?_
  rw [HME.out]
  rintro e w1 ⟨v, rfl, sl, hb⟩
  obtain ⟨X, d, rfl⟩ := Sl.form sl
  have q0 : w1.cell? ⟨w.heap.size, 0, none⟩ = some (.int .i64 5) := (HQ0.out.below hb).cell 0
  have q1 := (HQ1.out.below hb).four
  have q2 := (HQ2.out.below hb).four
  have HB1 := Aside.mk (below_step HB.out hb)
  clear hb sl
  go_wp2_with fail
  refine bodyPost_ret (v := .agg #[.int .i64 me, .slice none 0 0, .slice none 0 0, .slice none 0 0]) ?_ rfl ⟨rfl, tell_below HB1.out (by omega) (by omega)⟩
  simp [results, Tryz.results12, go_sem, q1]
set_option maxHeartbeats 4000000 in
set_option maxRecDepth 100000 in
theorem doGet_ok (g : Nat) (F : Nat → Prop) (s : Srv) (o : OpV) (hk : o.kind = 4) (B1 : Option Addr) (e1 : Nat) (B2 : Option Addr) (e2 : Nat) (B3 : Option Addr) (e3 : Nat) (w : World) (h : SrvIs w g F s) (h0 : mineE s o.who = 0) :
    Calls Tryz.prog 12 #[.pointer (some ⟨g, 0, none⟩), opVal o B1 e1 B2 e2 B3 e3] w fun e w' => ∃ v, e = .returned (.agg #[.int .i64 (getErr (mineV s o.who) o.id), v, .slice none 0 0, .slice none 0 0]) ∧ verR.Sl w' (fun k => w.heap.size ≤ k) v (oneV (mineV s o.who) o.id) ∧ Below w.heap.size w w' := by
  have hb0 : Below w.heap.size w (((w.alloc (.cells #[.int .i64 4, .int .i64 o.who.role, .int .i64 o.who.why, .int .i64 o.who.time, .slice B1 o.rules.length e1, .string o.r.id, .int .i64 o.r.cats, .slice B2 o.r.fields.length e2, .slice B3 o.r.refs.length e3, .string o.id, .string o.f.key, .string o.f.val] 40)).alloc (.cells #[.int .i64 0, .slice none 0 0, .slice none 0 0, .slice none 0 0] 45)).alloc (.cells #[.int .i64 0, .slice none 0 0, .slice none 0 0, .slice none 0 0] 45)) := (((Below.refl _ _).alloc (Nat.le_refl _) _).alloc (by simp) _).alloc (by simp; omega) _
  have hz : (((w.alloc (.cells #[.int .i64 4, .int .i64 o.who.role, .int .i64 o.who.why, .int .i64 o.who.time, .slice B1 o.rules.length e1, .string o.r.id, .int .i64 o.r.cats, .slice B2 o.r.fields.length e2, .slice B3 o.r.refs.length e3, .string o.id, .string o.f.key, .string o.f.val] 40)).alloc (.cells #[.int .i64 0, .slice none 0 0, .slice none 0 0, .slice none 0 0] 45)).alloc (.cells #[.int .i64 0, .slice none 0 0, .slice none 0 0, .slice none 0 0] 45)).heap.size = w.heap.size + 1 + 1 + 1 := by simp
  have hb1 := (Bk.made (w.alloc (.cells #[.int .i64 4, .int .i64 o.who.role, .int .i64 o.who.why, .int .i64 o.who.time, .slice B1 o.rules.length e1, .string o.r.id, .int .i64 o.r.cats, .slice B2 o.r.fields.length e2, .slice B3 o.r.refs.length e3, .string o.id, .string o.f.key, .string o.f.val] 40)) [.int .i64 0, .slice none 0 0, .slice none 0 0, .slice none 0 0] 45).alloc (.cells #[.int .i64 0, .slice none 0 0, .slice none 0 0, .slice none 0 0] 45)
  have hb2 := Bk.made ((w.alloc (.cells #[.int .i64 4, .int .i64 o.who.role, .int .i64 o.who.why, .int .i64 o.who.time, .slice B1 o.rules.length e1, .string o.r.id, .int .i64 o.r.cats, .slice B2 o.r.fields.length e2, .slice B3 o.r.refs.length e3, .string o.id, .string o.f.key, .string o.f.val] 40)).alloc (.cells #[.int .i64 0, .slice none 0 0, .slice none 0 0, .slice none 0 0] 45)) [.int .i64 0, .slice none 0 0, .slice none 0 0, .slice none 0 0] 45
  rw [show (w.alloc (.cells #[.int .i64 4, .int .i64 o.who.role, .int .i64 o.who.why, .int .i64 o.who.time, .slice B1 o.rules.length e1, .string o.r.id, .int .i64 o.r.cats, .slice B2 o.r.fields.length e2, .slice B3 o.r.refs.length e3, .string o.id, .string o.f.key, .string o.f.val] 40)).heap.size = w.heap.size + 1 by simp] at hb1
  rw [show ((w.alloc (.cells #[.int .i64 4, .int .i64 o.who.role, .int .i64 o.who.why, .int .i64 o.who.time, .slice B1 o.rules.length e1, .string o.r.id, .int .i64 o.r.cats, .slice B2 o.r.fields.length e2, .slice B3 o.r.refs.length e3, .string o.id, .string o.f.key, .string o.f.val] 40)).alloc (.cells #[.int .i64 0, .slice none 0 0, .slice none 0 0, .slice none 0 0] 45)).heap.size = w.heap.size + 1 + 1 by simp] at hb2
  have HS := Aside.mk (h.below hb0)
  have HQ0 := Aside.mk (((Bk.made w [.int .i64 4, .int .i64 o.who.role, .int .i64 o.who.why, .int .i64 o.who.time, .slice B1 o.rules.length e1, .string o.r.id, .int .i64 o.r.cats, .slice B2 o.r.fields.length e2, .slice B3 o.r.refs.length e3, .string o.id, .string o.f.key, .string o.f.val] 40).alloc (.cells #[.int .i64 0, .slice none 0 0, .slice none 0 0, .slice none 0 0] 45)).alloc (.cells #[.int .i64 0, .slice none 0 0, .slice none 0 0, .slice none 0 0] 45))
  have HQ1 := Aside.mk hb1
  have HQ2 := Aside.mk hb2
  have HZ := Aside.mk hz
  have HB := Aside.mk hb0
  clear h hb0 hb1 hb2 hz
  obtain ⟨ml, hml⟩ : ∃ ml, mineV s o.who = ml := ⟨_, rfl⟩
  have HME := Aside.mk h0
  have HML := Aside.mk hml
  rw [hml]
  clear h0 hml
  obtain ⟨xe, hxe⟩ : ∃ xe, getErr ml o.id = xe := ⟨_, rfl⟩
  have HXE := Aside.mk hxe
  rw [hxe]
  clear hxe
  unfold opVal
  rw [hk]
  go_enter Tryz.func12, Tryz.ntmps12
  go_wp2_with fail
  refine (serverPart g F s o.who _ HS.out).mono ?_
  rw [HME.out, HML.out]
  rintro e w1 ⟨v, rfl, sl, hb⟩
  obtain ⟨X, d, rfl, hd, hrow⟩ := sl
  have q0 : w1.cell? ⟨w.heap.size, 0, none⟩ = some (.int .i64 4) := (HQ0.out.below hb).cell 0
  have q9 : w1.cell? ⟨w.heap.size, 9, none⟩ = some (.string o.id) := (HQ0.out.below hb).cell 9
  have q10 : w1.cell? ⟨w.heap.size, 10, none⟩ = some (.string o.f.key) := (HQ0.out.below hb).cell 10
  have q11 : w1.cell? ⟨w.heap.size, 11, none⟩ = some (.string o.f.val) := (HQ0.out.below hb).cell 11
  have HQ11 := Aside.mk (HQ1.out.below hb)
  have HQ21 := Aside.mk (HQ2.out.below hb)
  have HB1 := Aside.mk (below_step HB.out hb)
  have HR := Aside.mk hrow
  have HZ1 : Aside (w.heap.size + 1 + 1 + 1 ≤ w1.heap.size) := ⟨by have := hb.size; have := HZ.out; omega⟩
  clear hb hrow
  go_wp2_with fail
  refine (serverOne X d ml o.id _ _ HR.out hd).mono ?_
  rw [HXE.out]
  rintro e w2 ⟨v2, rfl, s2, hb⟩
  have HB2 := Aside.mk (below_step HB1.out hb)
  have q1 := (HQ11.out.below hb).four
  have q2 := (HQ21.out.below hb).four
  have HV := Aside.mk s2
  obtain ⟨Y, dy, rfl⟩ := Sl.form s2
  clear s2 hb q0 q9 q10 q11
  go_wp2_with fail
  refine bodyPost_ret (v := .agg #[.int .i64 xe, _, .slice none 0 0, .slice none 0 0]) ?_ rfl ⟨_, rfl, (HV.out.move fun k hk _ => look_heap ?_ ?_).mono fun k hk _ => Nat.le_trans HB1.out.size hk, look_below HB2.out (by omega) (by omega)⟩
  · simp [results, Tryz.results12, go_sem, q1]
  all_goals
    have := HZ1.out
    have hk' : w1.heap.size ≤ k := hk
    omega
set_option maxHeartbeats 4000000 in
set_option maxRecDepth 100000 in
theorem doHist_ok (g : Nat) (F : Nat → Prop) (s : Srv) (o : OpV) (hk : o.kind = 6) (B1 : Option Addr) (e1 : Nat) (B2 : Option Addr) (e2 : Nat) (B3 : Option Addr) (e3 : Nat) (w : World) (h : SrvIs w g F s) (h0 : mineE s o.who = 0) :
    Calls Tryz.prog 12 #[.pointer (some ⟨g, 0, none⟩), opVal o B1 e1 B2 e2 B3 e3] w fun e w' => ∃ v, e = .returned (.agg #[.int .i64 (histErr (mineV s o.who) o.id), v, .slice none 0 0, .slice none 0 0]) ∧ verR.Sl w' (fun k => w.heap.size ≤ k) v (histV (mineV s o.who) o.id) ∧ Below w.heap.size w w' := by
  have hb0 : Below w.heap.size w (((w.alloc (.cells #[.int .i64 6, .int .i64 o.who.role, .int .i64 o.who.why, .int .i64 o.who.time, .slice B1 o.rules.length e1, .string o.r.id, .int .i64 o.r.cats, .slice B2 o.r.fields.length e2, .slice B3 o.r.refs.length e3, .string o.id, .string o.f.key, .string o.f.val] 40)).alloc (.cells #[.int .i64 0, .slice none 0 0, .slice none 0 0, .slice none 0 0] 45)).alloc (.cells #[.int .i64 0, .slice none 0 0, .slice none 0 0, .slice none 0 0] 45)) := (((Below.refl _ _).alloc (Nat.le_refl _) _).alloc (by simp) _).alloc (by simp; omega) _
  have hz : (((w.alloc (.cells #[.int .i64 6, .int .i64 o.who.role, .int .i64 o.who.why, .int .i64 o.who.time, .slice B1 o.rules.length e1, .string o.r.id, .int .i64 o.r.cats, .slice B2 o.r.fields.length e2, .slice B3 o.r.refs.length e3, .string o.id, .string o.f.key, .string o.f.val] 40)).alloc (.cells #[.int .i64 0, .slice none 0 0, .slice none 0 0, .slice none 0 0] 45)).alloc (.cells #[.int .i64 0, .slice none 0 0, .slice none 0 0, .slice none 0 0] 45)).heap.size = w.heap.size + 1 + 1 + 1 := by simp
  have hb1 := (Bk.made (w.alloc (.cells #[.int .i64 6, .int .i64 o.who.role, .int .i64 o.who.why, .int .i64 o.who.time, .slice B1 o.rules.length e1, .string o.r.id, .int .i64 o.r.cats, .slice B2 o.r.fields.length e2, .slice B3 o.r.refs.length e3, .string o.id, .string o.f.key, .string o.f.val] 40)) [.int .i64 0, .slice none 0 0, .slice none 0 0, .slice none 0 0] 45).alloc (.cells #[.int .i64 0, .slice none 0 0, .slice none 0 0, .slice none 0 0] 45)
  have hb2 := Bk.made ((w.alloc (.cells #[.int .i64 6, .int .i64 o.who.role, .int .i64 o.who.why, .int .i64 o.who.time, .slice B1 o.rules.length e1, .string o.r.id, .int .i64 o.r.cats, .slice B2 o.r.fields.length e2, .slice B3 o.r.refs.length e3, .string o.id, .string o.f.key, .string o.f.val] 40)).alloc (.cells #[.int .i64 0, .slice none 0 0, .slice none 0 0, .slice none 0 0] 45)) [.int .i64 0, .slice none 0 0, .slice none 0 0, .slice none 0 0] 45
  rw [show (w.alloc (.cells #[.int .i64 6, .int .i64 o.who.role, .int .i64 o.who.why, .int .i64 o.who.time, .slice B1 o.rules.length e1, .string o.r.id, .int .i64 o.r.cats, .slice B2 o.r.fields.length e2, .slice B3 o.r.refs.length e3, .string o.id, .string o.f.key, .string o.f.val] 40)).heap.size = w.heap.size + 1 by simp] at hb1
  rw [show ((w.alloc (.cells #[.int .i64 6, .int .i64 o.who.role, .int .i64 o.who.why, .int .i64 o.who.time, .slice B1 o.rules.length e1, .string o.r.id, .int .i64 o.r.cats, .slice B2 o.r.fields.length e2, .slice B3 o.r.refs.length e3, .string o.id, .string o.f.key, .string o.f.val] 40)).alloc (.cells #[.int .i64 0, .slice none 0 0, .slice none 0 0, .slice none 0 0] 45)).heap.size = w.heap.size + 1 + 1 by simp] at hb2
  have HS := Aside.mk (h.below hb0)
  have HQ0 := Aside.mk (((Bk.made w [.int .i64 6, .int .i64 o.who.role, .int .i64 o.who.why, .int .i64 o.who.time, .slice B1 o.rules.length e1, .string o.r.id, .int .i64 o.r.cats, .slice B2 o.r.fields.length e2, .slice B3 o.r.refs.length e3, .string o.id, .string o.f.key, .string o.f.val] 40).alloc (.cells #[.int .i64 0, .slice none 0 0, .slice none 0 0, .slice none 0 0] 45)).alloc (.cells #[.int .i64 0, .slice none 0 0, .slice none 0 0, .slice none 0 0] 45))
  have HQ1 := Aside.mk hb1
  have HQ2 := Aside.mk hb2
  have HZ := Aside.mk hz
  have HB := Aside.mk hb0
  clear h hb0 hb1 hb2 hz
  obtain ⟨ml, hml⟩ : ∃ ml, mineV s o.who = ml := ⟨_, rfl⟩
  have HME := Aside.mk h0
  have HML := Aside.mk hml
  rw [hml]
  clear h0 hml
  obtain ⟨xe, hxe⟩ : ∃ xe, histErr ml o.id = xe := ⟨_, rfl⟩
  have HXE := Aside.mk hxe
  rw [hxe]
  clear hxe
  unfold opVal
  rw [hk]
  go_enter Tryz.func12, Tryz.ntmps12
  go_wp2_with fail
  refine (serverPart g F s o.who _ HS.out).mono ?_
  rw [HME.out, HML.out]
  rintro e w1 ⟨v, rfl, sl, hb⟩
  obtain ⟨X, d, rfl, hd, hrow⟩ := sl
  have q0 : w1.cell? ⟨w.heap.size, 0, none⟩ = some (.int .i64 6) := (HQ0.out.below hb).cell 0
  have q9 : w1.cell? ⟨w.heap.size, 9, none⟩ = some (.string o.id) := (HQ0.out.below hb).cell 9
  have q10 : w1.cell? ⟨w.heap.size, 10, none⟩ = some (.string o.f.key) := (HQ0.out.below hb).cell 10
  have q11 : w1.cell? ⟨w.heap.size, 11, none⟩ = some (.string o.f.val) := (HQ0.out.below hb).cell 11
  have HQ11 := Aside.mk (HQ1.out.below hb)
  have HQ21 := Aside.mk (HQ2.out.below hb)
  have HB1 := Aside.mk (below_step HB.out hb)
  have HR := Aside.mk hrow
  have HZ1 : Aside (w.heap.size + 1 + 1 + 1 ≤ w1.heap.size) := ⟨by have := hb.size; have := HZ.out; omega⟩
  clear hb hrow
  go_wp2_with fail
  refine (storeHist X d ml o.id _ _ HR.out hd).mono ?_
  rw [HXE.out]
  rintro e w2 ⟨v2, rfl, s2, hb⟩
  have HB2 := Aside.mk (below_step HB1.out hb)
  have q1 := (HQ11.out.below hb).four
  have q2 := (HQ21.out.below hb).four
  have HV := Aside.mk s2
  obtain ⟨Y, dy, rfl⟩ := Sl.form s2
  clear s2 hb q0 q9 q10 q11
  go_wp2_with fail
  refine bodyPost_ret (v := .agg #[.int .i64 xe, _, .slice none 0 0, .slice none 0 0]) ?_ rfl ⟨_, rfl, (HV.out.move fun k hk _ => look_heap ?_ ?_).mono fun k hk _ => Nat.le_trans HB1.out.size hk, look_below HB2.out (by omega) (by omega)⟩
  · simp [results, Tryz.results12, go_sem, q1]
  all_goals
    have := HZ1.out
    have hk' : w1.heap.size ≤ k := hk
    omega
set_option maxHeartbeats 4000000 in
set_option maxRecDepth 100000 in
theorem doFind_ok (g : Nat) (F : Nat → Prop) (s : Srv) (o : OpV) (hk : o.kind = 5) (B1 : Option Addr) (e1 : Nat) (B2 : Option Addr) (e2 : Nat) (B3 : Option Addr) (e3 : Nat) (w : World) (h : SrvIs w g F s) (h0 : mineE s o.who = 0) :
    Calls Tryz.prog 12 #[.pointer (some ⟨g, 0, none⟩), opVal o B1 e1 B2 e2 B3 e3] w fun e w' => ∃ v, e = .returned (.agg #[.int .i64 (byErr (mineV s o.who) o.f), .slice none 0 0, v, .slice none 0 0]) ∧ str.Sl w' (fun k => w.heap.size ≤ k) v (byV (mineV s o.who) o.f) ∧ Below w.heap.size w w' := by
  have hb0 : Below w.heap.size w (((w.alloc (.cells #[.int .i64 5, .int .i64 o.who.role, .int .i64 o.who.why, .int .i64 o.who.time, .slice B1 o.rules.length e1, .string o.r.id, .int .i64 o.r.cats, .slice B2 o.r.fields.length e2, .slice B3 o.r.refs.length e3, .string o.id, .string o.f.key, .string o.f.val] 40)).alloc (.cells #[.int .i64 0, .slice none 0 0, .slice none 0 0, .slice none 0 0] 45)).alloc (.cells #[.int .i64 0, .slice none 0 0, .slice none 0 0, .slice none 0 0] 45)) := (((Below.refl _ _).alloc (Nat.le_refl _) _).alloc (by simp) _).alloc (by simp; omega) _
  have hz : (((w.alloc (.cells #[.int .i64 5, .int .i64 o.who.role, .int .i64 o.who.why, .int .i64 o.who.time, .slice B1 o.rules.length e1, .string o.r.id, .int .i64 o.r.cats, .slice B2 o.r.fields.length e2, .slice B3 o.r.refs.length e3, .string o.id, .string o.f.key, .string o.f.val] 40)).alloc (.cells #[.int .i64 0, .slice none 0 0, .slice none 0 0, .slice none 0 0] 45)).alloc (.cells #[.int .i64 0, .slice none 0 0, .slice none 0 0, .slice none 0 0] 45)).heap.size = w.heap.size + 1 + 1 + 1 := by simp
  have hb1 := (Bk.made (w.alloc (.cells #[.int .i64 5, .int .i64 o.who.role, .int .i64 o.who.why, .int .i64 o.who.time, .slice B1 o.rules.length e1, .string o.r.id, .int .i64 o.r.cats, .slice B2 o.r.fields.length e2, .slice B3 o.r.refs.length e3, .string o.id, .string o.f.key, .string o.f.val] 40)) [.int .i64 0, .slice none 0 0, .slice none 0 0, .slice none 0 0] 45).alloc (.cells #[.int .i64 0, .slice none 0 0, .slice none 0 0, .slice none 0 0] 45)
  have hb2 := Bk.made ((w.alloc (.cells #[.int .i64 5, .int .i64 o.who.role, .int .i64 o.who.why, .int .i64 o.who.time, .slice B1 o.rules.length e1, .string o.r.id, .int .i64 o.r.cats, .slice B2 o.r.fields.length e2, .slice B3 o.r.refs.length e3, .string o.id, .string o.f.key, .string o.f.val] 40)).alloc (.cells #[.int .i64 0, .slice none 0 0, .slice none 0 0, .slice none 0 0] 45)) [.int .i64 0, .slice none 0 0, .slice none 0 0, .slice none 0 0] 45
  rw [show (w.alloc (.cells #[.int .i64 5, .int .i64 o.who.role, .int .i64 o.who.why, .int .i64 o.who.time, .slice B1 o.rules.length e1, .string o.r.id, .int .i64 o.r.cats, .slice B2 o.r.fields.length e2, .slice B3 o.r.refs.length e3, .string o.id, .string o.f.key, .string o.f.val] 40)).heap.size = w.heap.size + 1 by simp] at hb1
  rw [show ((w.alloc (.cells #[.int .i64 5, .int .i64 o.who.role, .int .i64 o.who.why, .int .i64 o.who.time, .slice B1 o.rules.length e1, .string o.r.id, .int .i64 o.r.cats, .slice B2 o.r.fields.length e2, .slice B3 o.r.refs.length e3, .string o.id, .string o.f.key, .string o.f.val] 40)).alloc (.cells #[.int .i64 0, .slice none 0 0, .slice none 0 0, .slice none 0 0] 45)).heap.size = w.heap.size + 1 + 1 by simp] at hb2
  have HS := Aside.mk (h.below hb0)
  have HQ0 := Aside.mk (((Bk.made w [.int .i64 5, .int .i64 o.who.role, .int .i64 o.who.why, .int .i64 o.who.time, .slice B1 o.rules.length e1, .string o.r.id, .int .i64 o.r.cats, .slice B2 o.r.fields.length e2, .slice B3 o.r.refs.length e3, .string o.id, .string o.f.key, .string o.f.val] 40).alloc (.cells #[.int .i64 0, .slice none 0 0, .slice none 0 0, .slice none 0 0] 45)).alloc (.cells #[.int .i64 0, .slice none 0 0, .slice none 0 0, .slice none 0 0] 45))
  have HQ1 := Aside.mk hb1
  have HQ2 := Aside.mk hb2
  have HZ := Aside.mk hz
  have HB := Aside.mk hb0
  clear h hb0 hb1 hb2 hz
  obtain ⟨ml, hml⟩ : ∃ ml, mineV s o.who = ml := ⟨_, rfl⟩
  have HME := Aside.mk h0
  have HML := Aside.mk hml
  rw [hml]
  clear h0 hml
  obtain ⟨xe, hxe⟩ : ∃ xe, byErr ml o.f = xe := ⟨_, rfl⟩
  have HXE := Aside.mk hxe
  rw [hxe]
  clear hxe
  unfold opVal
  rw [hk]
  go_enter Tryz.func12, Tryz.ntmps12
  go_wp2_with fail
  refine (serverPart g F s o.who _ HS.out).mono ?_
  rw [HME.out, HML.out]
  rintro e w1 ⟨v, rfl, sl, hb⟩
  obtain ⟨X, d, rfl, hd, hrow⟩ := sl
  have q0 : w1.cell? ⟨w.heap.size, 0, none⟩ = some (.int .i64 5) := (HQ0.out.below hb).cell 0
  have q9 : w1.cell? ⟨w.heap.size, 9, none⟩ = some (.string o.id) := (HQ0.out.below hb).cell 9
  have q10 : w1.cell? ⟨w.heap.size, 10, none⟩ = some (.string o.f.key) := (HQ0.out.below hb).cell 10
  have q11 : w1.cell? ⟨w.heap.size, 11, none⟩ = some (.string o.f.val) := (HQ0.out.below hb).cell 11
  have HQ11 := Aside.mk (HQ1.out.below hb)
  have HQ21 := Aside.mk (HQ2.out.below hb)
  have HB1 := Aside.mk (below_step HB.out hb)
  have HR := Aside.mk hrow
  have HZ1 : Aside (w.heap.size + 1 + 1 + 1 ≤ w1.heap.size) := ⟨by have := hb.size; have := HZ.out; omega⟩
  clear hb hrow
  go_wp2_with fail
  refine (findBy X d ml o.f _ _ HR.out hd).mono ?_
  rw [HXE.out]
  rintro e w2 ⟨v2, rfl, s2, hb⟩
  have HB2 := Aside.mk (below_step HB1.out hb)
  have q1 := (HQ11.out.below hb).four
  have q2 := (HQ21.out.below hb).four
  have HV := Aside.mk s2
  obtain ⟨Y, dy, rfl⟩ := Sl.form s2
  clear s2 hb q0 q9 q10 q11
  go_wp2_with fail
  refine bodyPost_ret (v := .agg #[.int .i64 xe, .slice none 0 0, _, .slice none 0 0]) ?_ rfl ⟨_, rfl, (HV.out.move fun k hk _ => look_heap ?_ ?_).mono fun k hk _ => Nat.le_trans HB1.out.size hk, look_below HB2.out (by omega) (by omega)⟩
  · simp [results, Tryz.results12, go_sem, q1]
  all_goals
    have := HZ1.out
    have hk' : w1.heap.size ≤ k := hk
    omega
end Go.Proofs.WK
namespace Go.Proofs.WK
open Go.RowKit Rp
/-- What Do does, and tells: no notes. -/
def DoesTold (w : World) (g : Nat) (F : Nat → Prop) (s : Srv) (o : OpV) (e : Ending) (w' : World) : Prop :=
  ∃ v1 v2, e = .returned (.agg #[.int .i64 (doS s o).2.code, v1, v2, .slice none 0 0]) ∧ verR.Sl w' (fun k => w.heap.size ≤ k) v1 (doS s o).2.vers ∧ str.Sl w' (fun k => w.heap.size ≤ k) v2 (doS s o).2.ids ∧
    SrvIs w' g (fun k => F k ∨ w.heap.size ≤ k) (doS s o).1 ∧ w.grownBy w' (some g)
theorem DoesTold.err {w w' : World} {g : Nat} {F : Nat → Prop} {s : Srv} {o : OpV} {x : Int} (h : (doS s o).2 = .err x) (hs : SrvIs w' g (fun k => F k ∨ w.heap.size ≤ k) (doS s o).1) (hg : w.grownBy w' (some g)) :
    DoesTold w g F s o (.returned (.agg #[.int .i64 x, .slice none 0 0, .slice none 0 0, .slice none 0 0])) w' := by
  refine ⟨.slice none 0 0, .slice none 0 0, ?_, ?_, ?_, hs, hg⟩
  · rw [h]; rfl
  · rw [h]; exact Sl.nil _ _ _
  · rw [h]; exact Sl.nil _ _ _
theorem DoesTold.look {w w' : World} {g : Nat} {F : Nat → Prop} {s : Srv} {o : OpV} (hk : o.kind = 4 ∨ o.kind = 5 ∨ o.kind = 6) (h : SrvIs w g F s) (hb : Below w.heap.size w w') {t : Told} {v1 v2 : Value} (ht : lookT s o = t)
    (h1 : verR.Sl w' (fun k => w.heap.size ≤ k) v1 t.vers) (h2 : str.Sl w' (fun k => w.heap.size ≤ k) v2 t.ids) :
    DoesTold w g F s o (.returned (.agg #[.int .i64 t.code, v1, v2, .slice none 0 0])) w' := by
  have e := doS_look (s := s) hk
  rw [ht] at e
  refine ⟨v1, v2, by rw [e], by rw [e]; exact h1, by rw [e]; exact h2, ?_, below_grown hb _⟩
  rw [e]
  exact (h.below hb).more fun k hk _ => .inl hk
theorem doAll (g : Nat) (F : Nat → Prop) (s : Srv) (o : OpV) (hk : o.kind = 1 ∨ o.kind = 2 ∨ o.kind = 3 ∨ o.kind = 4 ∨ o.kind = 5 ∨ o.kind = 6) (B1 : Option Addr) (e1 : Nat) (B2 : Option Addr) (e2 : Nat) (B3 : Option Addr) (e3 : Nat) (ok1 ok2 ok3 : Nat → Prop) (w : World)
    (h : SrvIs w g F s) (hF : ∀ k, F k → k ≠ g) (hr : rulR.Row w ok1 B1 o.rules) (hf : fldR.Row w ok2 B2 o.r.fields) (hf2 : o.r.fields.length ≤ e2) (hg : str.Row w ok3 B3 o.r.refs) (hg2 : o.r.refs.length ≤ e3) :
    Calls Tryz.prog 12 #[.pointer (some ⟨g, 0, none⟩), opVal o B1 e1 B2 e2 B3 e3] w (DoesTold w g F s o) := by
  rcases hk with hk | hk | hk | hk
  · by_cases h0 : rulesErr o.rules = 0
    · refine (doRules_ok g F s o hk B1 e1 B2 e2 B3 e3 ok1 w h hr h0 hF).mono ?_
      rintro e w' ⟨rfl, hs, hg⟩
      exact .err (by rw [doS_rules hk, h0]) hs hg
    · refine (doRules_bad g F s o hk B1 e1 B2 e2 B3 e3 ok1 w h hr h0).mono ?_
      rintro e w' ⟨rfl, hs, hg⟩
      exact .err (by rw [doS_rules hk]) hs hg
  · refine (doPut g F s o hk B1 e1 B2 e2 B3 e3 ok2 ok3 w h hF hf hf2 hg hg2).mono ?_
    rintro e w' ⟨rfl, hs, hg⟩
    exact .err (by rw [doS_put hk]) hs hg
  · refine (doCut g F s o hk B1 e1 B2 e2 B3 e3 w h hF).mono ?_
    rintro e w' ⟨rfl, hs, hg⟩
    exact .err (by rw [doS_cut hk]) hs hg
  · by_cases h0 : mineE s o.who = 0
    · rcases hk with hk | hk | hk
      · refine (doGet_ok g F s o hk B1 e1 B2 e2 B3 e3 w h h0).mono ?_
        rintro e w' ⟨v, rfl, hs, hb⟩
        exact .look (.inl hk) h hb (t := ⟨getErr (mineV s o.who) o.id, oneV (mineV s o.who) o.id, [], []⟩) (by rw [lookT, if_neg (by simpa using h0), if_pos hk]) hs (Sl.nil _ _ _)
      · refine (doFind_ok g F s o hk B1 e1 B2 e2 B3 e3 w h h0).mono ?_
        rintro e w' ⟨v, rfl, hs, hb⟩
        exact .look (.inr (.inl hk)) h hb (t := ⟨byErr (mineV s o.who) o.f, [], byV (mineV s o.who) o.f, []⟩) (by rw [lookT, if_neg (by simpa using h0), if_neg (by omega), if_neg (by omega)]) (Sl.nil _ _ _) hs
      · refine (doHist_ok g F s o hk B1 e1 B2 e2 B3 e3 w h h0).mono ?_
        rintro e w' ⟨v, rfl, hs, hb⟩
        exact .look (.inr (.inr hk)) h hb (t := ⟨histErr (mineV s o.who) o.id, histV (mineV s o.who) o.id, [], []⟩) (by rw [lookT, if_neg (by simpa using h0), if_neg (by omega), if_pos hk]) hs (Sl.nil _ _ _)
    · have ht : lookT s o = .err (mineE s o.who) := by rw [lookT, if_pos h0]
      rcases hk with hk | hk | hk
      · refine (doGet_no g F s o hk B1 e1 B2 e2 B3 e3 w h h0).mono ?_
        rintro e w' ⟨rfl, hb⟩
        exact .look (.inl hk) h hb ht (Sl.nil _ _ _) (Sl.nil _ _ _)
      · refine (doFind_no g F s o hk B1 e1 B2 e2 B3 e3 w h h0).mono ?_
        rintro e w' ⟨rfl, hb⟩
        exact .look (.inr (.inl hk)) h hb ht (Sl.nil _ _ _) (Sl.nil _ _ _)
      · refine (doHist_no g F s o hk B1 e1 B2 e2 B3 e3 w h h0).mono ?_
        rintro e w' ⟨rfl, hb⟩
        exact .look (.inr (.inr hk)) h hb ht (Sl.nil _ _ _) (Sl.nil _ _ _)
end Go.Proofs.WK
