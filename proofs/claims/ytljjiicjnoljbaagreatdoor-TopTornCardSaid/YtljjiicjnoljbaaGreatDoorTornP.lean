/-
  A line that log.Write has written, read again (P46 to P48), and a log that breaks off. No walk.
-/
import Derived.Test.YtljjiicjnoljbaaGreatDoorLog0
import Derived.Test.YtljjiicjnoljbaaGreatDoorRecRd
import Derived.Test.YtljjiicjnoljbaaGreatDoorTxtC
namespace Go.Proofs.WK
/-! ### bytes -/
theorem ixb_app (c : UInt8) : ∀ (a r : List UInt8), (∀ x ∈ a, x ≠ c) → Lib.indexByte (a ++ c :: r) c = a.length
  | [], r, _ => by simp [Lib.indexByte]
  | x :: a, r, h => by
    have hx : (x == c) = false := beq_eq_false_iff_ne.2 (h x (List.mem_cons_self ..))
    have ih := ixb_app c a r fun y hy => h y (List.mem_cons_of_mem _ hy)
    have h1 : ((a.length : Int) == -1) = false := beq_eq_false_iff_ne.2 (by omega)
    rw [List.cons_append, Lib.indexByte, hx, ih, h1]
    simp
theorem ixb_none (c : UInt8) : ∀ (a : List UInt8), (∀ x ∈ a, x ≠ c) → Lib.indexByte a c = -1
  | [], _ => rfl
  | x :: a, h => by
    have hx : (x == c) = false := beq_eq_false_iff_ne.2 (h x (List.mem_cons_self ..))
    have ih := ixb_none c a fun y hy => h y (List.mem_cons_of_mem _ hy)
    rw [Lib.indexByte, hx, ih]
    rfl
theorem indexB_app {c : UInt8} {a r : List UInt8} (h : ∀ x ∈ a, x ≠ c) : Lib.indexB (bs (a ++ c :: r)) (one c) = (a.length : Nat) := by
  rw [← index_byte, bs_data]
  exact ixb_app c a r h
theorem indexB_none {c : UInt8} {a : List UInt8} (h : ∀ x ∈ a, x ≠ c) : Lib.indexB (bs a) (one c) = -1 := by
  rw [← index_byte, bs_data]
  exact ixb_none c a h
theorem bs_extract (l : List UInt8) (i j : Nat) : (bs l).extract i j = bs ((l.drop i).take (j - i)) := by
  rw [← data_bs ((bs l).extract i j), extract_data, bs_data]
theorem drop_past {c : UInt8} {a r : List UInt8} : (a ++ c :: r).drop (a.length + 1) = r := by
  rw [show a ++ c :: r = (a ++ [c]) ++ r by simp]
  exact List.drop_left' (by simp)
theorem ext_head {a r : List UInt8} : (bs (a ++ r)).extract 0 a.length = bs a := by
  rw [bs_extract]
  simp
theorem ext_tail {c : UInt8} {a r : List UInt8} : (bs (a ++ c :: r)).extract (a.length + 1) (bs (a ++ c :: r)).size = bs r := by
  rw [bs_extract, drop_past, bs_size]
  congr 1
  exact List.take_of_length_le (by simp; omega)
theorem parts_cons {c : UInt8} {a r : List UInt8} (h : ∀ x ∈ a, x ≠ c) : parts c (bs (a ++ c :: r)) = bs a :: parts c (bs r) := by
  rw [parts_hit (indexB_app h), ext_head, ext_tail]
theorem parts_alone {c : UInt8} {a : List UInt8} (h : ∀ x ∈ a, x ≠ c) : parts c (bs a) = [bs a] := parts_miss (indexB_none h)
theorem join_two (a b : List UInt8) (l : List (List UInt8)) (c : UInt8) : Lib.join (a :: b :: l) [c] = a ++ c :: Lib.join (b :: l) [c] := by
  rw [Lib.join_cons, Lib.join_cons]
  simp [Lib.joinTail]
theorem parts_words (c : UInt8) : ∀ l : List (List UInt8), l ≠ [] → (∀ a ∈ l, ∀ x ∈ a, x ≠ c) → parts c (bs (Lib.join l [c])) = l.map bs
  | [], h, _ => absurd rfl h
  | [a], _, h => by
    rw [Lib.join_one, parts_alone (h a (List.mem_cons_self ..))]
    rfl
  | a :: b :: l, _, h => by
    rw [join_two, parts_cons (h a (List.mem_cons_self ..)), parts_words c (b :: l) (by simp) fun x hx => h x (List.mem_cons_of_mem _ hx)]
    rfl
theorem join_ne {c d : UInt8} {l : List (List UInt8)} (h : ∀ a ∈ l, ∀ x ∈ a, x ≠ c) (hc : d ≠ c) : ∀ x ∈ Lib.join l [d], x ≠ c := by
  intro x hx
  cases l with
  | nil => simp [Lib.join_nil] at hx
  | cons a l =>
    rw [Lib.join_cons] at hx
    rcases List.mem_append.1 hx with hx | hx
    · exact h a (List.mem_cons_self ..) x hx
    · unfold Lib.joinTail at hx
      obtain ⟨y, hy, hx⟩ := List.mem_flatten.1 hx
      obtain ⟨z, hz, rfl⟩ := List.mem_map.1 hy
      rcases List.mem_append.1 hx with hx | hx
      · rw [List.mem_singleton.1 hx]; exact hc
      · exact h z (List.mem_cons_of_mem _ hz) x hx
/-! ### what no word has -/
theorem itoa_chars (n : Int) : ∀ b ∈ Lib.itoa n, b = 45 ∨ (48 ≤ b.toNat ∧ b.toNat ≤ 57) := by
  intro b hb
  unfold Lib.itoa at hb
  split at hb
  · rcases List.mem_cons.1 hb with rfl | hb
    · exact .inl rfl
    · exact .inr (digits_all _ b hb)
  · exact .inr (digits_all _ b hb)
theorem itoa_ne {n : Int} {c : UInt8} (h1 : c ≠ 45) (h2 : c.toNat < 48 ∨ 57 < c.toNat) : ∀ b ∈ Lib.itoa n, b ≠ c := by
  intro b hb e
  subst e
  rcases itoa_chars n b hb with e | h
  · exact h1 e
  · omega
theorem id_ne {s : ByteArray} {c : UInt8} (h : idOk s = true) (hc : idB c = false) : ∀ b ∈ s.data.toList, b ≠ c := by
  intro b hb e
  subst e
  unfold idOk at h
  simp only [Bool.and_eq_true] at h
  have := List.all_eq_true.1 h.2 b hb
  rw [hc] at this
  cases this
theorem val_ne {s : ByteArray} {c : UInt8} (h : valOk s = true) (hc : valB c = false) : ∀ b ∈ s.data.toList, b ≠ c := by
  intro b hb e
  subst e
  unfold valOk at h
  simp only [Bool.and_eq_true] at h
  have := List.all_eq_true.1 h.2 b hb
  rw [hc] at this
  cases this
theorem fldL_ne {f : Fld} {c : UInt8} (h : fldOk f = true) (h1 : idB c = false) (h2 : valB c = false) (h3 : c ≠ 61) : ∀ b ∈ fldL f, b ≠ c := by
  unfold fldOk at h
  rw [Bool.and_eq_true] at h
  intro b hb
  unfold fldL at hb
  rcases List.mem_append.1 hb with hb | hb
  · exact id_ne h.1 h1 b hb
  · rcases List.mem_cons.1 hb with rfl | hb
    · exact h3.symm
    · exact val_ne h.2 h2 b hb
theorem flds_each {l : List Fld} (h : fldsOk l = true) : ∀ f ∈ l, fldOk f = true := by
  unfold fldsOk at h
  rw [Bool.and_eq_true] at h
  exact List.all_eq_true.1 h.1
theorem refs_each {l : List ByteArray} (h : refsOk l = true) : ∀ s ∈ l, idOk s = true := by
  unfold refsOk at h
  rw [Bool.and_eq_true] at h
  exact List.all_eq_true.1 h.1
/-- A small number has few digits. -/
theorem digits_len : ∀ (k u : Nat), 1 ≤ k → u < 10 ^ k → (Lib.decDigits u).length ≤ k
  | 0, _, h, _ => absurd h (by decide)
  | k + 1, u, _, h => by
    rw [digits_rec]
    split
    · simp
    · rename_i h0
      have hk : 1 ≤ k := by
        cases k with
        | zero => simp at h; omega
        | succ k => omega
      have := digits_len k (u / 10) hk (by rw [Nat.pow_succ] at h; omega)
      simp
      exact this
theorem dec_small {n : Int} (h0 : -1 ≤ n) (h1 : n ≤ 99999999) : (decS n).size ≤ 9 := by
  unfold decS
  rw [bs_size]
  unfold Lib.itoa
  split
  · have := digits_len 8 n.natAbs (by decide) (by omega)
    simp
    omega
  · have := digits_len 8 n.toNat (by decide) (by omega)
    omega
theorem num_dec {n : Int} (h0 : -1 ≤ n) (h1 : n ≤ 99999999) : numV (decS n) = some n := numV_iff.2 ⟨dec_small h0 h1, rfl⟩
/-! ### a record's text, read again -/
theorem fldV_text {f : Fld} (h : fldOk f = true) : fldV (bs (fldL f)) = some f := by
  have hk : ∀ x ∈ f.key.data.toList, x ≠ 61 := by
    unfold fldOk at h
    rw [Bool.and_eq_true] at h
    exact id_ne h.1 (by decide)
  unfold fldL
  rw [fldV_hit (indexB_app hk), ext_head, ext_tail, data_bs, data_bs]
theorem fldsV_text : ∀ {l : List Fld}, (∀ f ∈ l, fldOk f = true) → fldsV ((l.map fldL).map bs) = some l
  | [], _ => rfl
  | f :: l, h => by
    rw [List.map_cons, List.map_cons, fldsV, fldV_text (h f (List.mem_cons_self ..)), fldsV_text fun g hg => h g (List.mem_cons_of_mem _ hg)]
theorem items_words {l : List (List UInt8)} (h : ∀ a ∈ l, ∀ x ∈ a, x ≠ 44) (h1 : ∀ a ∈ l, a ≠ []) : items (bs (commas l)) = l.map bs := by
  unfold items
  cases l with
  | nil => rfl
  | cons a l =>
    have hne : (bs (commas (a :: l))).size ≠ 0 := by
      rw [bs_size]
      unfold commas
      rw [Lib.join_cons, List.length_append]
      have := List.length_pos_iff.2 (h1 a (List.mem_cons_self ..))
      omega
    rw [if_neg hne]
    exact parts_words 44 (a :: l) (by simp) h
theorem raw_text {r : Rec} (h : recErr r = 0) : rawV (textV r) = some r := by
  obtain ⟨hi, hc0, hc1, _, _, hf, hg⟩ := rec_ok h
  have hF : ∀ c : UInt8, idB c = false → valB c = false → c ≠ 61 → ∀ a ∈ r.fields.map fldL, ∀ x ∈ a, x ≠ c := by
    intro c h1 h2 h3 a ha
    obtain ⟨f, hfm, rfl⟩ := List.mem_map.1 ha
    exact fldL_ne (flds_each hf f hfm) h1 h2 h3
  have hR : ∀ c : UInt8, idB c = false → ∀ a ∈ r.refs.map (·.data.toList), ∀ x ∈ a, x ≠ c := by
    intro c h1 a ha
    obtain ⟨f, hfm, rfl⟩ := List.mem_map.1 ha
    exact id_ne (refs_each hg f hfm) h1
  have e4 : parts 59 (textV r) = [r.id, decS r.cats, bs (commas (r.fields.map fldL)), bs (commas (r.refs.map (·.data.toList)))] := by
    unfold textV textL
    rw [parts_cons (id_ne hi (by decide)), parts_cons (itoa_ne (by decide) (by decide)), parts_cons (show ∀ x ∈ commas (r.fields.map fldL), x ≠ 59 from join_ne (hF 59 (by decide) (by decide) (by decide)) (by decide)), parts_alone (show ∀ x ∈ commas (r.refs.map (·.data.toList)), x ≠ 59 from join_ne (hR 59 (by decide)) (by decide)), data_bs]
    rfl
  rw [raw_four e4, num_dec (by omega) (by omega)]
  have e1 : items (bs (commas (r.fields.map fldL))) = (r.fields.map fldL).map bs := items_words (hF 44 (by decide) (by decide) (by decide)) fun a ha => by
    obtain ⟨f, _, rfl⟩ := List.mem_map.1 ha
    unfold fldL
    simp
  have e2 : items (bs (commas (r.refs.map (·.data.toList)))) = (r.refs.map (·.data.toList)).map bs := items_words (hR 44 (by decide)) fun a ha => by
    obtain ⟨f, hfm, rfl⟩ := List.mem_map.1 ha
    have := (idOk_size (refs_each hg f hfm)).1
    intro e
    have e3 : f.data.toList.length = f.size := Array.length_toList
    rw [e] at e3
    simp at e3
    omega
  have e3 : (r.refs.map (·.data.toList)).map bs = r.refs := by
    rw [List.map_map]
    conv => rhs; rw [← List.map_id r.refs]
    exact List.map_congr_left fun s _ => data_bs s
  rw [e1, e2, e3, fldsV_text (flds_each hf)]
theorem read_text {r : Rec} (h : recErr r = 0) : readE (textV r) = 0 ∧ readR (textV r) = r := by
  obtain ⟨h1, h2⟩ := read_some (raw_text h)
  exact ⟨h1.trans h, h2.trans (if_pos h)⟩
/-! ### a line, read again -/
/-- Without what is not written. -/
def plainO (o : OpV) : OpV := if o.kind = 2 then { opNo with kind := 2, who := o.who, r := o.r } else { opNo with kind := 3, who := o.who, r := { noRec with cats := o.r.cats }, id := o.id }
/-- What a log has here. -/
structure Told2 (o : OpV) : Prop where
  kind : o.kind = 2 ∨ o.kind = 3
  ok : logErr o = 0
  role : 0 ≤ o.who.role ∧ o.who.role ≤ 7
  why : 0 ≤ o.who.why ∧ o.who.why ≤ 3
  time : 0 ≤ o.who.time ∧ o.who.time ≤ 999
theorem Told2.recOk {o : OpV} (h : Told2 o) (hk : o.kind = 2) : recErr o.r = 0 := by
  have h0 := h.ok
  unfold logErr at h0
  rw [if_neg (by omega), if_pos hk] at h0
  split at h0
  · exact h0
  · omega
theorem Told2.cut {o : OpV} (h : Told2 o) (hk : o.kind = 3) : (0 ≤ o.r.cats ∧ o.r.cats ≤ 255) ∧ idOk o.id = true := by
  have h0 := h.ok
  unfold logErr at h0
  rw [if_neg (by omega), if_neg (by omega), if_pos hk] at h0
  split at h0
  · rename_i h1
    split at h0
    · exact ⟨h1.2, ‹_›⟩
    · omega
  · omega
theorem words_put {o : OpV} (hk : o.kind = 2) : wordsW o = [⟨#[112, 117, 116]⟩, decS o.who.role, decS o.who.why, decS o.who.time, textV o.r] := by
  unfold wordsW
  rw [if_pos hk]
  rfl
theorem words_cut {o : OpV} (hk : o.kind = 3) : wordsW o = [⟨#[99, 117, 116]⟩, decS o.who.role, decS o.who.why, decS o.who.time, o.id, decS o.r.cats] := by
  unfold wordsW
  rw [if_neg (by omega), if_pos hk]
  rfl
theorem dec_data (n : Int) : (decS n).data.toList = Lib.itoa n := bs_data _
theorem text_ne {r : Rec} {c : UInt8} (h : recErr r = 0) (h1 : idB c = false) (h2 : valB c = false) (h3 : c ≠ 61) (h4 : c ≠ 59) (h5 : c ≠ 44) (h6 : c ≠ 45) (h7 : c.toNat < 48 ∨ 57 < c.toNat) : ∀ x ∈ (textV r).data.toList, x ≠ c := by
  obtain ⟨hi, _, _, _, _, hf, hg⟩ := rec_ok h
  unfold textV textL
  rw [bs_data]
  have hF : ∀ a ∈ r.fields.map fldL, ∀ x ∈ a, x ≠ c := by
    intro a ha
    obtain ⟨f, hfm, rfl⟩ := List.mem_map.1 ha
    exact fldL_ne (flds_each hf f hfm) h1 h2 h3
  have hR : ∀ a ∈ r.refs.map (·.data.toList), ∀ x ∈ a, x ≠ c := by
    intro a ha
    obtain ⟨f, hfm, rfl⟩ := List.mem_map.1 ha
    exact id_ne (refs_each hg f hfm) h1
  intro x hx
  rcases List.mem_append.1 hx with hx | hx
  · exact id_ne hi h1 x hx
  rcases List.mem_cons.1 hx with rfl | hx
  · exact h4.symm
  rcases List.mem_append.1 hx with hx | hx
  · exact itoa_ne h6 h7 x hx
  rcases List.mem_cons.1 hx with rfl | hx
  · exact h4.symm
  rcases List.mem_append.1 hx with hx | hx
  · exact join_ne hF h5.symm x hx
  rcases List.mem_cons.1 hx with rfl | hx
  · exact h4.symm
  · exact join_ne hR h5.symm x hx
theorem words_ne {o : OpV} (h : Told2 o) {c : UInt8} (hc : c = 32 ∨ c = 10) : ∀ a ∈ (wordsW o).map (·.data.toList), ∀ x ∈ a, x ≠ c := by
  have hd : ∀ n : Int, ∀ x ∈ (decS n).data.toList, x ≠ c := fun n => by
    rw [dec_data]
    rcases hc with rfl | rfl <;> exact itoa_ne (by decide) (by decide)
  intro a ha
  obtain ⟨s, hs, rfl⟩ := List.mem_map.1 ha
  rcases h.kind with hk | hk
  · rw [words_put hk] at hs
    simp only [List.mem_cons, List.not_mem_nil, or_false] at hs
    rcases hs with rfl | rfl | rfl | rfl | rfl
    · intro x hx
      have hx : x ∈ [(112 : UInt8), 117, 116] := hx
      simp only [List.mem_cons, List.not_mem_nil, or_false] at hx
      rcases hc with rfl | rfl <;> rcases hx with rfl | rfl | rfl <;> decide
    · exact hd _
    · exact hd _
    · exact hd _
    · rcases hc with rfl | rfl <;> exact text_ne (h.recOk hk) (by decide) (by decide) (by decide) (by decide) (by decide) (by decide) (by decide)
  · rw [words_cut hk] at hs
    simp only [List.mem_cons, List.not_mem_nil, or_false] at hs
    rcases hs with rfl | rfl | rfl | rfl | rfl | rfl
    · intro x hx
      have hx : x ∈ [(99 : UInt8), 117, 116] := hx
      simp only [List.mem_cons, List.not_mem_nil, or_false] at hx
      rcases hc with rfl | rfl <;> rcases hx with rfl | rfl | rfl <;> decide
    · exact hd _
    · exact hd _
    · exact hd _
    · rcases hc with rfl | rfl <;> exact id_ne (h.cut hk).2 (by decide)
    · exact hd _
theorem plain_join {o : OpV} (h : Told2 o) : plainS o = bs (Lib.join ((wordsW o).map (·.data.toList)) [32]) := (words_plain h.ok).symm
theorem map_data (l : List ByteArray) : (l.map (·.data.toList)).map bs = l := by
  rw [List.map_map]
  conv => rhs; rw [← List.map_id l]
  exact List.map_congr_left fun s _ => data_bs s
theorem parts_plain {o : OpV} (h : Told2 o) : parts 32 (plainS o) = wordsW o := by
  rw [plain_join h, parts_words 32 _ (by rcases h.kind with hk | hk <;> simp [words_put, words_cut, hk]) (words_ne h (.inl rfl)), map_data]
theorem plain_ne {o : OpV} (h : Told2 o) : ∀ x ∈ (plainS o).data.toList, x ≠ 10 := by
  rw [plain_join h, bs_data]
  exact join_ne (words_ne h (.inr rfl)) (by decide)
theorem who_words {o : OpV} (h : Told2 o) : whoV3 (decS o.who.role) (decS o.who.why) (decS o.who.time) = some o.who := by
  unfold whoV3
  have h1 := h.role
  have h2 := h.why
  have h3 := h.time
  rw [num_dec (by omega) (by omega), num_dec (by omega) (by omega), num_dec (by omega) (by omega)]
theorem said_words {o : OpV} (h : Told2 o) : saidX (wordsW o) = some (plainO o) := by
  unfold plainO
  rcases h.kind with hk | hk
  · rw [words_put hk, saidX, if_neg (by decide), if_pos (show (⟨#[112, 117, 116]⟩ : ByteArray) = sPut from rfl), if_pos hk]
    simp only [who_words h, (read_text (h.recOk hk)).1, (read_text (h.recOk hk)).2, if_true]
  · have hc := (h.cut hk).1
    rw [words_cut hk, saidX, if_neg (by decide), if_neg (by decide), if_pos (show (⟨#[99, 117, 116]⟩ : ByteArray) = sCut from rfl), if_neg (show ¬ o.kind = 2 by omega)]
    simp only [who_words h, num_dec (show -1 ≤ o.r.cats by omega) (show o.r.cats ≤ 99999999 by omega)]
theorem plainO_ok {o : OpV} (h : Told2 o) : logErr (plainO o) = 0 := by
  have h0 := h.ok
  unfold logErr at h0 ⊢
  unfold plainO
  rcases h.kind with hk | hk
  · rw [if_pos hk]
    rw [if_neg (by omega), if_pos hk] at h0
    exact h0
  · rw [if_neg (show ¬ o.kind = 2 by omega)]
    rw [if_neg (by omega), if_neg (by omega), if_pos hk] at h0
    exact h0
/-- Where " =" stands last in a line. -/
theorem last_line (p d : List UInt8) (h : ∀ x ∈ d, x ≠ 32) : lastEq (bs (p ++ 32 :: 61 :: d)) = (p.length : Nat) := by
  rw [lastEq_eq]
  unfold lastK
  rw [bs_data, bs_size]
  have hl : (p ++ 32 :: 61 :: d).length - 1 = p.length + 1 + d.length := by simp; omega
  rw [hl]
  have hat : Lib.occAt (p ++ 32 :: 61 :: d) [32, 61] p.length = true := by
    unfold Lib.occAt
    rw [List.drop_left' rfl]
    rfl
  rcases Lib.lastOcc_spec (p ++ 32 :: 61 :: d) [32, 61] (p.length + 1 + d.length) with ⟨_, hn⟩ | ⟨i, hi, e, hc, hn⟩
  · rw [hn p.length (by omega)] at hat
    cases hat
  · rw [e]
    have h1 := Lib.occAt_head (c := 32) (t := [61]) rfl hc
    rcases Nat.lt_trichotomy i p.length with h2 | h2 | h2
    · rw [hn p.length h2 (by omega)] at hat
      cases hat
    · rw [h2]
    · exfalso
      rw [List.getElem?_append_right (by omega)] at h1
      obtain ⟨j, hj⟩ : ∃ j, i - p.length = j + 1 := ⟨i - p.length - 1, by omega⟩
      rw [hj, List.getElem?_cons_succ] at h1
      cases j with
      | zero => simp at h1
      | succ j =>
        rw [List.getElem?_cons_succ] at h1
        exact h 32 (List.mem_of_getElem? h1) rfl
theorem sum_range (s : ByteArray) : 0 ≤ sumV s ∧ sumV s ≤ 65520 := by
  have : wsum s.data.toList s.size % 65521 < 65521 := Nat.mod_lt _ (by decide)
  unfold sumV
  omega
/-- A line's bytes. -/
def lineL (o : OpV) : List UInt8 := (plainS o).data.toList ++ 32 :: 61 :: Lib.itoa (sumV (plainS o))
theorem lineS_bs (o : OpV) : lineS o = bs (lineL o ++ [10]) := by
  unfold lineS lineL
  rw [← data_bs (plainS o), show (⟨#[32, 61]⟩ : ByteArray) = bs [32, 61] from rfl, show (⟨#[10]⟩ : ByteArray) = bs [10] from rfl]
  unfold decS
  rw [bs_app, bs_app, bs_app, bs_data]
  simp
theorem line_ne {o : OpV} (h : Told2 o) : ∀ x ∈ lineL o, x ≠ 10 := by
  intro x hx
  unfold lineL at hx
  rcases List.mem_append.1 hx with hx | hx
  · exact plain_ne h x hx
  · rcases List.mem_cons.1 hx with rfl | hx
    · decide
    · rcases List.mem_cons.1 hx with rfl | hx
      · decide
      · exact itoa_ne (by decide) (by decide) x hx
theorem body_line {o : OpV} (h : Told2 o) : bodyE (bs (lineL o)) = (plainO o, 0) := by
  have hl : lastEq (bs (lineL o)) = ((plainS o).data.toList.length : Nat) := last_line _ _ (itoa_ne (by decide) (by decide))
  have e1 : (bs (lineL o)).extract ((plainS o).data.toList.length + 2) (bs (lineL o)).size = decS (sumV (plainS o)) := by
    unfold lineL
    rw [bs_extract, bs_size, show (plainS o).data.toList ++ 32 :: 61 :: Lib.itoa (sumV (plainS o)) = ((plainS o).data.toList ++ [32, 61]) ++ Lib.itoa (sumV (plainS o)) by simp, List.drop_left' (by simp)]
    unfold decS
    congr 1
    exact List.take_of_length_le (by simp; omega)
  have e2 : (bs (lineL o)).extract 0 (plainS o).data.toList.length = plainS o := by
    unfold lineL
    rw [ext_head, data_bs]
  have hs := sum_range (plainS o)
  unfold bodyE
  rw [hl, Int.toNat_natCast, e1, e2, if_neg (by omega), num_dec (by omega) (by omega)]
  simp only
  rw [if_neg (by simpa using hs), if_neg (by simp), parts_plain h, said_words h]
  simp only
  rw [if_neg (by simp [plainO_ok h])]
theorem ent_line {o : OpV} (h : Told2 o) (r : List UInt8) : entO (bs (lineL o ++ 10 :: r)) = plainO o ∧ entE (bs (lineL o ++ 10 :: r)) = 0 ∧ entN (bs (lineL o ++ 10 :: r)) = ((lineL o).length + 1 : Nat) := by
  have hi : Lib.indexB (bs (lineL o ++ 10 :: r)) (one 10) = ((lineL o).length : Nat) := indexB_app (line_ne h)
  have e0 : entE (bs (lineL o ++ 10 :: r)) = 0 := by
    unfold entE
    rw [hi, if_neg (by omega), Int.toNat_natCast, ext_head, body_line h]
  refine ⟨?_, e0, ?_⟩
  · unfold entO
    rw [hi, if_neg (by omega), Int.toNat_natCast, ext_head, body_line h]
  · unfold entN
    rw [if_pos e0, hi]
    rfl
/-! ### a log that breaks off -/
def linesL (l : List OpV) : List UInt8 := (l.map fun o => lineL o ++ [10]).flatten
theorem linesL_cons (o : OpV) (l : List OpV) : linesL (o :: l) = lineL o ++ 10 :: linesL l := by simp [linesL]
theorem linesL_snoc (l : List OpV) (o : OpV) : linesL (l ++ [o]) = linesL l ++ (lineL o ++ [10]) := by simp [linesL]
/-- Where a log breaks off, whole lines stand ahead of a piece. -/
theorem torn : ∀ (l : List OpV) (n : Nat), (∀ o ∈ l, Told2 o) → ∃ k t, k ≤ l.length ∧ (linesL l).take n = linesL (l.take k) ++ t ∧ ∀ x ∈ t, x ≠ 10
  | [], n, _ => ⟨0, [], Nat.le_refl _, by simp [linesL], fun x hx => by cases hx⟩
  | o :: l, n, h => by
    have ho := h o (List.mem_cons_self ..)
    by_cases hn : n ≤ (lineL o).length
    · refine ⟨0, (lineL o).take n, Nat.zero_le _, ?_, fun x hx => line_ne ho x (List.mem_of_mem_take hx)⟩
      rw [linesL_cons, List.take_append_of_le_length hn]
      simp [linesL]
    · obtain ⟨k, t, hk, e, ht⟩ := torn l (n - ((lineL o).length + 1)) fun x hx => h x (List.mem_cons_of_mem _ hx)
      refine ⟨k + 1, t, by simpa using hk, ?_, ht⟩
      rw [linesL_cons, show lineL o ++ 10 :: linesL l = (lineL o ++ [10]) ++ linesL l by simp, List.take_append, List.take_of_length_le (by simp; omega), List.take_succ_cons, linesL_cons]
      simp only [List.length_append, List.length_cons, List.length_nil]
      rw [e]
      simp
theorem count_ne {c : UInt8} : ∀ {t : List UInt8}, (∀ x ∈ t, x ≠ c) → t.count c = 0
  | [], _ => rfl
  | x :: t, h => by
    rw [List.count_cons, count_ne fun y hy => h y (List.mem_cons_of_mem _ hy)]
    have hx : (x == c) = false := beq_eq_false_iff_ne.2 (h x (List.mem_cons_self ..))
    simp [hx]
theorem count_lines : ∀ {l : List OpV} {t : List UInt8}, (∀ o ∈ l, Told2 o) → (∀ x ∈ t, x ≠ 10) → (linesL l ++ t).count 10 = l.length
  | [], t, _, ht => by
    show ([] ++ t).count 10 = 0
    exact count_ne ht
  | o :: l, t, h, ht => by
    rw [linesL_cons, List.append_assoc, List.count_append, count_ne (line_ne (h o (List.mem_cons_self ..))), List.cons_append, List.count_cons, count_lines (fun x hx => h x (List.mem_cons_of_mem _ hx)) ht]
    simp
theorem countB_list (l : List UInt8) (c : UInt8) : Lib.countB (bs l) (one c) = l.count c := by
  show Lib.count (bs l).data.toList (one c).data.toList = _
  rw [bs_data, one_data, Lib.count_one]
/-- All lines of what is left. -/
theorem allN_lines (s : ByteArray) (t : List UInt8) (ht : ∀ x ∈ t, x ≠ 10) : ∀ (l : List OpV) (f u : Nat), (∀ o ∈ l, Told2 o) → l.length < f → u ≤ s.size → s.extract u s.size = bs (linesL l ++ t) → allN f s u = (l.map plainO, ((u + (linesL l).length : Nat) : Int), 0)
  | [], f, u, _, _, _, e => by
    have h7 : entE (s.extract u s.size) = 7 := by
      rw [e]
      unfold entE
      rw [show linesL [] ++ t = t from rfl, indexB_none ht, if_pos rfl]
    rw [allN_end h7]
    rfl
  | o :: l, 0, u, _, hf, _, _ => absurd hf (Nat.not_lt_zero _)
  | o :: l, f + 1, u, h, hf, hu, e => by
    rw [linesL_cons, List.append_assoc, List.cons_append] at e
    obtain ⟨e1, e2, e3⟩ := ent_line (h o (List.mem_cons_self ..)) (linesL l ++ t)
    have hd : s.data.toList.drop u = lineL o ++ 10 :: (linesL l ++ t) := by
      have h1 := congrArg (fun x : ByteArray => x.data.toList) e
      simp only [extract_data, bs_data] at h1
      rw [← h1]
      exact (List.take_of_length_le (by rw [List.length_drop, show s.data.toList.length = s.size from Array.length_toList]; exact Nat.le_refl _)).symm
    have hlen := congrArg List.length hd
    rw [List.length_drop, show s.data.toList.length = s.size from Array.length_toList] at hlen
    simp only [List.length_append, List.length_cons] at hlen
    have e4 : s.extract (u + ((lineL o).length + 1)) s.size = bs (linesL l ++ t) := by
      rw [← data_bs (s.extract _ _), extract_data, ← List.drop_drop, hd, drop_past]
      congr 1
      refine List.take_of_length_le ?_
      simp only [List.length_append]
      omega
    have ih := allN_lines s t ht l f (u + ((lineL o).length + 1)) (fun x hx => h x (List.mem_cons_of_mem _ hx)) (by simpa using hf) (by omega) e4
    rw [allN_step (by rw [e]; exact e2), e, e3, Int.toNat_natCast, ih, e1]
    simp only [ne_eq, not_true_eq_false, if_false, List.map_cons]
    rw [linesL_cons]
    simp only [List.length_append, List.length_cons]
    congr 2
    omega
theorem linesL_len : ∀ l : List OpV, l.length ≤ (linesL l).length
  | [] => Nat.le_refl _
  | o :: l => by
    have := linesL_len l
    rw [linesL_cons]
    simp
    omega
/-- What log.All says of a log that breaks off. -/
theorem all_torn {l : List OpV} {t : List UInt8} (h : ∀ o ∈ l, Told2 o) (ht : ∀ x ∈ t, x ≠ 10) : linV (bs (linesL l ++ t)) = (l.map plainO, ((linesL l).length : Int), 0) := by
  have h1 := linesL_len l
  have hs : (bs (linesL l ++ t)).size = (linesL l).length + t.length := by rw [bs_size, List.length_append]
  have h2 := allN_lines (bs (linesL l ++ t)) t ht l ((bs (linesL l ++ t)).size + 1) 0 h (by omega) (Nat.zero_le _) (by
    rw [bs_extract, bs_size]
    congr 1
    exact List.take_of_length_le (by simp))
  unfold linV
  rw [h2]
  simp
end Go.Proofs.WK
