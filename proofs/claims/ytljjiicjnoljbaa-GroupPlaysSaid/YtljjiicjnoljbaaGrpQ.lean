/-
  Two groups in memory, the program's and the document's, side by side: what each method leaves of both.
-/
import Derived.Test.YtljjiicjnoljbaaGrpS
namespace Go.Proofs.WK
open Go.RowKit Rp
variable {w wx wx' : World} {ga gm n : Nat} {gl gr gl' gr' : Grp} {G Gm : Nat → Prop}
structure GSt (w wx : World) (n ga gm : Nat) (gl gr : Grp) (G Gm : Nat → Prop) : Prop where
  okl : GrpOk gl
  okr : GrpOk gr
  nl : gl.has.length = n
  nr : gr.has.length = n
  below : Below w.heap.size w wx
  gi : GrpIs wx G ga gl
  ri : RGrpIs wx Gm gm gr
  hG : ∀ j, G j → w.heap.size ≤ j ∧ j < wx.heap.size
  hR : ∀ j, Gm j → w.heap.size ≤ j ∧ j < wx.heap.size
  dis : ∀ j, G j → ¬ Gm j
theorem GSt.after (h : GSt w wx n ga gm gl gr G Gm) (hb : Below wx.heap.size wx wx') : GSt w wx' n ga gm gl gr G Gm :=
  ⟨h.okl, h.okr, h.nl, h.nr, h.below.trans (hb.mono h.below.size), h.gi.below hb, h.ri.below hb, fun j hj => ⟨(h.hG j hj).1, Nat.lt_of_lt_of_le (h.hG j hj).2 hb.size⟩, fun j hj => ⟨(h.hR j hj).1, Nat.lt_of_lt_of_le (h.hR j hj).2 hb.size⟩, h.dis⟩
theorem GSt.left (h : GSt w wx n ga gm gl gr G Gm) (hw : Wrote wx G ga gl' wx') (ok : GrpOk gl') (hl : gl'.has.length = gl.has.length) : ∃ G', GSt w wx' n ga gm gl' gr G' Gm ∧ Below w.heap.size w wx' ∧ ∀ j, Gm j → wx'.heap[j]? = wx.heap[j]? := by
  obtain ⟨G', h1, h2, h3⟩ := hw
  have hsz := h.below.size
  have hb : Below w.heap.size w wx' := h.below.trans (h2.below (fun j hj => (h.hG j hj).1) h.below.size)
  have mv : ∀ j, Gm j → wx'.heap[j]? = wx.heap[j]? := fun j hj => h2.block j (h.hR j hj).2 fun hg => h.dis j hg hj
  refine ⟨G', ⟨ok, h.okr, hl.trans h.nl, h.nr, hb, h1, h.ri.move fun k hk _ => mv k hk, fun j hj => ?_, fun j hj => ⟨(h.hR j hj).1, Nat.lt_of_lt_of_le (h.hR j hj).2 h2.size⟩, fun j hj hm => ?_⟩, hb, mv⟩
  · rcases h3 j hj with hg | hg
    · exact ⟨(h.hG j hg).1, Nat.lt_of_lt_of_le (h.hG j hg).2 h2.size⟩
    · exact ⟨by omega, hg.2⟩
  · rcases h3 j hj with hg | hg
    · exact h.dis j hg hm
    · have := (h.hR j hm).2; omega
theorem GSt.right (h : GSt w wx n ga gm gl gr G Gm) (hw : RWrote wx Gm gm gr' wx') (ok : GrpOk gr') (hl : gr'.has.length = gr.has.length) : ∃ Gm', GSt w wx' n ga gm gl gr' G Gm' := by
  obtain ⟨G', h1, h2, h3⟩ := hw
  have hsz := h.below.size
  refine ⟨G', ⟨h.okl, ok, h.nl, hl.trans h.nr, h.below.trans (h2.below (fun j hj => (h.hR j hj).1) h.below.size), h.gi.move fun k hk hl => h2.block k hl fun hg => h.dis k hk hg, h1, fun j hj => ⟨(h.hG j hj).1, Nat.lt_of_lt_of_le (h.hG j hj).2 h2.size⟩, fun j hj => ?_, fun j hj hm => ?_⟩⟩
  · rcases h3 j hj with hg | hg
    · exact ⟨(h.hR j hg).1, Nat.lt_of_lt_of_le (h.hR j hg).2 h2.size⟩
    · exact ⟨by omega, hg.2⟩
  · rcases h3 j hm with hg | hg
    · exact h.dis j hj hg
    · have := (h.hG j hj).2; omega
theorem len_add (g : Grp) (s : ByteArray) : (addG g s).has.length = g.has.length := by unfold addG; split <;> simp
theorem len_take (g : Grp) (i f : Int) (l : List ByteArray) : (takeG g i f l).has.length = g.has.length := by unfold takeG; split <;> simp
theorem len_told (g : Grp) (i f : Int) : (toldG g i f).has.length = g.has.length := by unfold toldG; split <;> simp
theorem len_lose (g : Grp) (i f : Int) : (loseG g i f).has.length = g.has.length := by unfold loseG; split <;> simp
/-- What Ack leaves, as what is written leaves. -/
theorem Wrote.of_chg {g : Grp} (h1 : GrpIs wx' G ga g) (h2 : Chg G wx wx') : Wrote wx G ga g wx' := ⟨G, h1, h2, fun _ hj => .inl hj⟩
theorem RGrpIs.lt (h : RGrpIs wx Gm gm gr) : gm < wx.heap.size := by
  obtain ⟨_, _, _, h⟩ := h
  exact h.bk.lt
/-- The document's new group. -/
theorem rgrp0_is {W : World} {gm hm km n : Nat} (h1 : Bk W gm [.slice (some ⟨hm, 0, none⟩) n n, .slice (some ⟨km, 0, none⟩) n n]) (h2 : Bk W hm (List.replicate n (.slice none 0 0))) (h3 : Bk W km (List.replicate n (.int .i64 0))) (hne : gm ≠ hm ∧ gm ≠ km ∧ hm ≠ km) :
    RGrpIs W (fun j => j = gm ∨ j = hm ∨ j = km) gm (grp0 n) := by
  have hl : (grp0 n).has.length = n := by simp [grp0]
  refine ⟨hm, km, List.replicate n (.slice none 0 0), ⟨by rw [hl]; exact h1, by rw [show (grp0 n).ack.map (Value.int .i64) = List.replicate n (.int .i64 0) by simp [grp0]]; exact h3, h2, by rw [hl]; simp, fun i v hv => ?_, ⟨.inl rfl, .inr (.inl rfl), .inr (.inr rfl)⟩, hne⟩⟩
  rw [List.getElem?_replicate] at hv
  split at hv
  · injection hv with hv
    subst hv
    rw [lst0]
    exact Sl.nil _ _ _
  · cases hv
theorem GSt.made {w1 w2 : World} {n : Nat} (h1 : 1 ≤ n) (h5 : n ≤ 5) (hb1 : Below w.heap.size w w1) (hg : GrpIs w1 G ga (grp0 n)) (hG : ∀ j, G j → w.heap.size ≤ j ∧ j < w1.heap.size) (hb2 : Below w1.heap.size w1 w2) (hr : RGrpIs w2 Gm gm (grp0 n)) (hR : ∀ j, Gm j → w1.heap.size ≤ j ∧ j < w2.heap.size) : GSt w w2 n ga gm (grp0 n) (grp0 n) G Gm :=
  ⟨grp0_ok h1 h5, grp0_ok h1 h5, by simp [grp0], by simp [grp0], hb1.trans (hb2.mono hb1.size), hg.below hb2, hr, fun j hj => ⟨(hG j hj).1, Nat.lt_of_lt_of_le (hG j hj).2 hb2.size⟩, fun j hj => ⟨Nat.le_trans hb1.size (hR j hj).1, (hR j hj).2⟩, fun j hj hm => by have := (hG j hj).2; have := (hR j hm).1; omega⟩
end Go.Proofs.WK
