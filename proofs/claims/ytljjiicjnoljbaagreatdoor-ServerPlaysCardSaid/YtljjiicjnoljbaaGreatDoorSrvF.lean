/-
  (*Server).Do, whatever is asked: what it tells is new. The document's Do, whatever is asked. What stays true of a server.
-/
import Derived.Test.YtljjiicjnoljbaaGreatDoorRDoM
namespace Go.Proofs.WK
open Go.RowKit Rp
/-- What Do does and tells, whatever is asked; what is told is new. -/
def DidP (w : World) (g base : Nat) (X : Nat → Prop) (s : Srv) (o : OpV) (e : Ending) (w' : World) : Prop :=
  ∃ v1 v2 v3 nv, e = .returned (.agg #[.int .i64 (doS s o).2.code, v1, v2, v3]) ∧ verR.Sl w' (fun k => w.heap.size ≤ k) v1 (doS s o).2.vers ∧ str.Sl w' (fun k => w.heap.size ≤ k) v2 (doS s o).2.ids ∧ nteR.Sl w' (fun k => w.heap.size ≤ k) v3 (doS s o).2.notes ∧
    SrvIs w' g (fun k => (X k ∧ k < w.heap.size) ∨ (w.heap.size ≤ k ∧ some k ≠ nv.ownBlock)) { (doS s o).1 with nv := nv } ∧ NOwn w' base nv (doS s o).1.notes ∧ (nv.ownBlock = s.nv.ownBlock ∨ ∃ b, nv.ownBlock = some b ∧ w.heap.size ≤ b) ∧ Chg (fun k => k = g ∨ s.nv.ownBlock = some k) w w'
theorem DidP.quiet {w w' : World} {g base : Nat} {X : Nat → Prop} {s : Srv} {o : OpV} (hk : o.kind ≠ 7) {e : Ending} {v1 v2 v3 : Value} (he : e = .returned (.agg #[.int .i64 (doS s o).2.code, v1, v2, v3])) (h1 : verR.Sl w' (fun k => w.heap.size ≤ k) v1 (doS s o).2.vers) (h2 : str.Sl w' (fun k => w.heap.size ≤ k) v2 (doS s o).2.ids) (h3 : nteR.Sl w' (fun k => w.heap.size ≤ k) v3 (doS s o).2.notes)
    (hs : SrvIs w' g (fun k => (X k ∧ k < w.heap.size) ∨ w.heap.size ≤ k) (doS s o).1) (hn : NOwn w base s.nv s.notes) (hng : ∀ k, s.nv.ownBlock = some k → k ≠ g) (hg : w.grownBy w' (some g)) : DidP w g base X s o e w' := by
  obtain ⟨e1, e2⟩ := doS_keep (s := s) (o := o) hk
  have hnl := fun k hk => (hn.lt k hk).2
  have hc : Chg (fun k => k = g ∨ s.nv.ownBlock = some k) w w' := Chg.of_grown hg fun k e => by injection e with e; exact .inl e.symm
  refine ⟨v1, v2, v3, s.nv, he, h1, h2, h3, ?_, ?_, .inl rfl, hc⟩
  · have e3 : ({ (doS s o).1 with nv := s.nv } : Srv) = (doS s o).1 := by rw [← e2]
    rw [e3]
    exact hs.more fun k hk _ => hk.imp id fun h => ⟨h, fun e => by have := hnl k e.symm; omega⟩
  · rw [e1]
    exact hn.grown hg (fun k hk e => hng k hk (by injection e)) fun k hk => hk.elim
theorem doEveryP (g base : Nat) (X : Nat → Prop) (s : Srv) (o : OpV) (B1 : Option Addr) (e1 : Nat) (B2 : Option Addr) (e2 : Nat) (B3 : Option Addr) (e3 : Nat) (ok1 ok2 ok3 : Nat → Prop) (w : World) (h : SrvIs w g X s) (hX : ∀ k, X k → k ≠ g ∧ some k ≠ s.nv.ownBlock) (hn : NOwn w base s.nv s.notes) (hbase : base ≤ w.heap.size) (hng : ∀ k, s.nv.ownBlock = some k → k ≠ g) (h60 : s.notes.length ≤ 60)
    (hr : rulR.Row w ok1 B1 o.rules) (hf : fldR.Row w ok2 B2 o.r.fields) (hf2 : o.r.fields.length ≤ e2) (hg : str.Row w ok3 B3 o.r.refs) (hg2 : o.r.refs.length ≤ e3) :
    Calls Tryz.prog 12 #[.pointer (some ⟨g, 0, none⟩), opVal o B1 e1 B2 e2 B3 e3] w (DidP w g base X s o) := by
  have h' : SrvIs w g (fun k => X k ∧ k < w.heap.size) s := h.more fun k h1 h2 => ⟨h1, h2⟩
  by_cases h16 : o.kind = 1 ∨ o.kind = 2 ∨ o.kind = 3 ∨ o.kind = 4 ∨ o.kind = 5 ∨ o.kind = 6
  · refine (doAll g _ s o h16 B1 e1 B2 e2 B3 e3 ok1 ok2 ok3 w h' (fun k hk => (hX k hk.1).1) hr hf hf2 hg hg2).mono ?_
    rintro e w' ⟨v1, v2, he, s1, s2, hs, hgr⟩
    exact .quiet (by omega) he s1 s2 (by rw [doS_nonotes (by omega)]; exact Sl.nil _ _ _) hs hn hng hgr
  · by_cases h7 : o.kind = 7
    · refine (doNeed g base _ s o h7 B1 e1 B2 e2 B3 e3 w h' (fun k hk => hX k hk.1) (fun k hk => hk.2) hn hbase hng h60).mono ?_
      rintro e w' ⟨v, he, s1, nv, hs, hno, hat, hc⟩
      refine ⟨v, .slice none 0 0, .slice none 0 0, nv, ?_, s1, ?_, ?_, hs.more fun k hk _ => .inl hk, hno, hat, hc⟩
      · rw [he, doS_need h7]
      · rw [doS_need h7]; exact Sl.nil _ _ _
      · rw [doS_need h7]; exact Sl.nil _ _ _
    · by_cases h8 : o.kind = 8
      · refine (doAudit g base _ s o h8 B1 e1 B2 e2 B3 e3 w h' hn h60).mono ?_
        rintro e w' ⟨v, he, s3, hb⟩
        have e0 : (doS s o).2 = auditT s o := by rw [doS_audit h8]
        have ea : (auditT s o).vers = [] ∧ (auditT s o).ids = [] := by
          unfold auditT
          split
          · exact ⟨rfl, rfl⟩
          · split <;> exact ⟨rfl, rfl⟩
        refine .quiet (by omega) he ?_ ?_ s3 ?_ hn hng (below_grown hb _)
        · rw [e0, ea.1]; exact Sl.nil _ _ _
        · rw [e0, ea.2]; exact Sl.nil _ _ _
        · rw [doS_audit h8]; exact (h'.below hb).more fun k hk _ => .inl hk
      · refine (doOther g _ s o (by omega) B1 e1 B2 e2 B3 e3 w h').mono ?_
        rintro e w' ⟨he, hb⟩
        have e0 := doS_other (s := s) (o := o) (by omega)
        refine .quiet h7 (by rw [he, e0]; rfl) ?_ ?_ ?_ ?_ hn hng (below_grown hb _)
        · rw [e0]; exact Sl.nil _ _ _
        · rw [e0]; exact Sl.nil _ _ _
        · rw [e0]; exact Sl.nil _ _ _
        · rw [e0]; exact (h'.below hb).more fun k hk _ => .inl hk
/-- The document's Do, whatever is asked. -/
theorem rdEvery (g base : Nat) (X Y : Nat → Prop) (s : Srv) (o : OpV) (B1 : Option Addr) (e1 : Nat) (B2 : Option Addr) (e2 : Nat) (B3 : Option Addr) (e3 : Nat) (w : World) (h : SrvIs w g X s) (hX : ∀ k, X k → k ≠ g ∧ some k ≠ s.nv.ownBlock) (hY : ∀ k, Y k → X k ∧ k < w.heap.size) (hn : NOwn w base s.nv s.notes) (hbase : base ≤ w.heap.size) (hng : ∀ k, s.nv.ownBlock = some k → k ≠ g) (hst : storeErr s.l = 0) (h60 : s.notes.length ≤ 60) (hwf : RecWf o.r) (hfv : o.f.val.size ≤ 9223372036854775807)
    (hr : rulR.Row w Y B1 o.rules) (hr1 : o.rules.length ≤ e1) (hf : fldR.Row w Y B2 o.r.fields) (hf2 : o.r.fields.length ≤ e2) (hg : str.Row w Y B3 o.r.refs) (hg2 : o.r.refs.length ≤ e3) :
    Calls Tryz.prog 37 #[.pointer (some ⟨g, 0, none⟩), opVal o B1 e1 B2 e2 B3 e3] w (DidN w g base X s o) := by
  by_cases h1 : o.kind = 1
  · exact rdRules g base X Y s o h1 B1 e1 B2 e2 B3 e3 w h hX hY hn hng hr hr1 hf hg
  by_cases h2 : o.kind = 2
  · exact rdPut g base X Y s o h2 B1 e1 B2 e2 B3 e3 w h hX hY hn hng hst hwf hr hf hf2 hg hg2
  by_cases h3 : o.kind = 3
  · exact rdCut g base X Y s o h3 B1 e1 B2 e2 B3 e3 w h hX hY hn hng hst hwf hr hf hf2 hg hg2
  by_cases h4 : o.kind = 4
  · exact rdGet g base X Y s o h4 B1 e1 B2 e2 B3 e3 w h hX hn hbase hng hst h60 hfv hr hf hg
  by_cases h5 : o.kind = 5
  · exact rdFind g base X Y s o h5 B1 e1 B2 e2 B3 e3 w h hX hn hbase hng hst h60 hfv hr hf hg
  by_cases h6 : o.kind = 6
  · exact rdHist g base X Y s o h6 B1 e1 B2 e2 B3 e3 w h hX hn hbase hng hst h60 hfv hr hf hg
  by_cases h7 : o.kind = 7
  · exact rdNeed g base X Y s o h7 B1 e1 B2 e2 B3 e3 w h hX hn hbase hng hst h60 hfv hr hf hg
  by_cases h8 : o.kind = 8
  · exact rdAudit g base X Y s o h8 B1 e1 B2 e2 B3 e3 w h hX hn hbase hng hst h60 hfv hr hf hg
  · exact rdOther g base X Y s o (by omega) B1 e1 B2 e2 B3 e3 w h hn hng hr hf hg
/-- What stays true of a server. -/
structure SrvOk (s : Srv) : Prop where
  up : roleErr s.up = 0
  rules : rulesErr s.rules = 0
  st : storeErr s.l = 0
  n60 : s.notes.length ≤ 60
theorem doS_ok {s : Srv} {o : OpV} (h : SrvOk s) : SrvOk (doS s o).1 := by
  by_cases h1 : o.kind = 1
  · rw [doS_rules h1]
    show SrvOk (if rulesErr o.rules = 0 then { s with rules := o.rules } else s)
    split
    · rename_i h0; exact ⟨h.up, h0, h.st, h.n60⟩
    · exact h
  by_cases h2 : o.kind = 2
  · rw [doS_put h2]
    show SrvOk (if putE s o = 0 then { s with l := putV s.l o.r } else s)
    split
    · rename_i he
      have hp := putE_ok he
      refine ⟨h.up, h.rules, ?_, h.n60⟩
      show storeErr (putV s.l o.r) = 0
      rw [putV_ok hp]; exact put_ok h.st hp
    · exact h
  by_cases h3 : o.kind = 3
  · rw [doS_cut h3]
    show SrvOk (if cutE s o = 0 then { s with l := cutV s.l o.id o.r.cats } else s)
    split
    · rename_i he
      have hp := cutE_ok he
      refine ⟨h.up, h.rules, ?_, h.n60⟩
      show storeErr (cutV s.l o.id o.r.cats) = 0
      rw [cutV_ok hp]; exact cut_ok h.st hp
    · exact h
  by_cases h7 : o.kind = 7
  · rw [doS_need h7]
    show SrvOk (if needE s o = 0 then { s with notes := s.notes ++ [⟨o.who, o.id⟩] } else s)
    split
    · rename_i he
      refine ⟨h.up, h.rules, h.st, ?_⟩
      have h6 : s.notes.length ≠ 60 := fun e => by
        rw [need_e] at he
        split at he
        · exact absurd he ‹_›
        · exact absurd he (by decide)
      have := h.n60
      show (s.notes ++ [_]).length ≤ 60
      simp
      omega
    · exact h
  by_cases h8 : o.kind = 8
  · rw [doS_audit h8]; exact h
  by_cases h4 : o.kind = 4 ∨ o.kind = 5 ∨ o.kind = 6
  · rw [doS_look h4]; exact h
  · rw [doS_other (by omega)]; exact h
/-- Two servers that say the same. -/
def Twin (a b : Srv) : Prop := a = { b with nv := a.nv }
theorem doS_twin {a b : Srv} {o : OpV} (h : Twin a b) : (doS a o).2 = (doS b o).2 ∧ Twin (doS a o).1 (doS b o).1 := by
  obtain ⟨up, rules, l, notes, nv⟩ := b
  unfold Twin at h
  simp only at h
  generalize a.nv = na at h
  subst h
  by_cases h1 : o.kind = 1
  · rw [doS_rules h1, doS_rules h1]
    refine ⟨rfl, ?_⟩
    unfold Twin
    simp only
    split <;> rfl
  by_cases h2 : o.kind = 2
  · rw [doS_put h2, doS_put h2]
    refine ⟨rfl, ?_⟩
    unfold Twin
    simp only
    have e : putE ⟨up, rules, l, notes, na⟩ o = putE ⟨up, rules, l, notes, nv⟩ o := rfl
    rw [e]
    split <;> rfl
  by_cases h3 : o.kind = 3
  · rw [doS_cut h3, doS_cut h3]
    refine ⟨rfl, ?_⟩
    unfold Twin
    simp only
    have e : cutE ⟨up, rules, l, notes, na⟩ o = cutE ⟨up, rules, l, notes, nv⟩ o := rfl
    rw [e]
    split <;> rfl
  by_cases h7 : o.kind = 7
  · rw [doS_need h7, doS_need h7]
    refine ⟨rfl, ?_⟩
    unfold Twin
    simp only
    have e : needE ⟨up, rules, l, notes, na⟩ o = needE ⟨up, rules, l, notes, nv⟩ o := rfl
    rw [e]
    split <;> rfl
  by_cases h8 : o.kind = 8
  · rw [doS_audit h8, doS_audit h8]; exact ⟨rfl, rfl⟩
  by_cases h4 : o.kind = 4 ∨ o.kind = 5 ∨ o.kind = 6
  · rw [doS_look h4, doS_look h4]; exact ⟨rfl, rfl⟩
  · rw [doS_other (by omega), doS_other (by omega)]; exact ⟨rfl, rfl⟩
/-- The blocks that are none of these. -/
def Xs (ga gb : Nat) (na nb : Value) (k : Nat) : Prop := k ≠ ga ∧ k ≠ gb ∧ some k ≠ na.ownBlock ∧ some k ≠ nb.ownBlock
/-- Two servers in one memory. -/
structure Duo (w W : World) (ga gb : Nat) (a b : Srv) : Prop where
  sa : SrvIs W ga (Xs ga gb a.nv b.nv) a
  sb : SrvIs W gb (Xs ga gb a.nv b.nv) b
  na : NOwn W w.heap.size a.nv a.notes
  nb : NOwn W w.heap.size b.nv b.notes
  ne : ga ≠ gb
  aa : ∀ k, a.nv.ownBlock = some k → k ≠ ga ∧ k ≠ gb
  bb : ∀ k, b.nv.ownBlock = some k → k ≠ ga ∧ k ≠ gb
  ab : ∀ k, a.nv.ownBlock = some k → b.nv.ownBlock ≠ some k
  ga_ : w.heap.size ≤ ga
  gb_ : w.heap.size ≤ gb
  bel : Below w.heap.size w W
theorem Duo.symm {w W : World} {ga gb : Nat} {a b : Srv} (h : Duo w W ga gb a b) : Duo w W gb ga b a :=
  ⟨h.sb.more fun k hk _ => ⟨hk.2.1, hk.1, hk.2.2.2, hk.2.2.1⟩, h.sa.more fun k hk _ => ⟨hk.2.1, hk.1, hk.2.2.2, hk.2.2.1⟩, h.nb, h.na, h.ne.symm, fun k hk => (h.bb k hk).symm, fun k hk => (h.aa k hk).symm, fun k hk e => h.ab k e hk, h.gb_, h.ga_, h.bel⟩
theorem Duo.below {w W W' : World} {ga gb : Nat} {a b : Srv} (h : Duo w W ga gb a b) (hb : Below W.heap.size W W') : Duo w W' ga gb a b :=
  ⟨h.sa.below hb, h.sb.below hb, h.na.below hb, h.nb.below hb, h.ne, h.aa, h.bb, h.ab, h.ga_, h.gb_, below_step h.bel hb⟩
/-- One of the two has done something. -/
theorem Duo.step {w W W1 : World} {ga gb : Nat} {a b a' : Srv} {nv : Value} (h : Duo w W ga gb a b)
    (hs : SrvIs W1 ga (fun k => (Xs ga gb a.nv b.nv k ∧ k < W.heap.size) ∨ (W.heap.size ≤ k ∧ some k ≠ nv.ownBlock)) { a' with nv := nv }) (hn : NOwn W1 w.heap.size nv a'.notes) (hat : nv.ownBlock = a.nv.ownBlock ∨ ∃ b, nv.ownBlock = some b ∧ W.heap.size ≤ b) (hc : Chg (fun k => k = ga ∨ a.nv.ownBlock = some k) W W1) :
    Duo w W1 ga gb { a' with nv := nv } b := by
  have hga := h.sa.lt
  have hgb := h.sb.lt
  have hnb := fun k hk => (h.nb.lt k hk).2
  have hnv : ∀ k, nv.ownBlock = some k → a.nv.ownBlock = some k ∨ W.heap.size ≤ k := fun k hk => by
    rcases hat with e | ⟨b, e, hb⟩
    · exact .inl (e ▸ hk)
    · rw [e] at hk; injection hk with hk; exact .inr (by omega)
  have hx : ∀ k, Xs ga gb a.nv b.nv k → k < W.heap.size → Xs ga gb nv b.nv k := fun k hk hl => ⟨hk.1, hk.2.1, fun e => by
    rcases hnv k e.symm with h1 | h1
    · exact hk.2.2.1 h1.symm
    · omega, hk.2.2.2⟩
  refine ⟨hs.more fun k hk _ => ?_, ?_, hn, ?_, h.ne, fun k hk => ?_, h.bb, fun k hk e => ?_, h.ga_, h.gb_, ?_⟩
  · rcases hk with ⟨h1, h2⟩ | ⟨h1, h2⟩
    · exact hx k h1 h2
    · exact ⟨by omega, by omega, h2, fun e => by have := hnb k e.symm; omega⟩
  · have h1 : SrvIs W gb (fun k => Xs ga gb a.nv b.nv k ∧ k < W.heap.size) b := h.sb.more fun k h1 h2 => ⟨h1, h2⟩
    exact (srv_chg h1 hc (fun e => e.elim (fun e => h.ne e.symm) fun e => (h.aa _ e).2 rfl) fun k hk e => e.elim hk.1.1 fun e => hk.1.2.2.1 e.symm).more fun k hk _ => hx k hk.1 hk.2
  · exact nown_chg h.nb hc fun k hk e => e.elim (h.bb k hk).1 fun e => h.ab k e hk
  · rcases hnv k hk with h1 | h1
    · exact h.aa k h1
    · exact ⟨by omega, by omega⟩
  · rcases hnv k hk with h1 | h1
    · exact h.ab k h1 e
    · have := hnb k e; omega
  · have hw : ∀ k, (k = ga ∨ a.nv.ownBlock = some k) → w.heap.size ≤ k := fun k e => e.elim (fun e => e ▸ h.ga_) fun e => (h.na.lt k e).1
    exact h.bel.trans (hc.below hw h.bel.size)
end Go.Proofs.WK
