/- Layer 22's way back: events through their fields. No program in sight. -/
import Derived.Test.YtbpndiegbfpigaaGreatDoorPortBackMath
namespace Go.Proofs.YtbpndiegbfpigaaGreatDoor.PortM
open Go.Proofs.YtbpndiegbfpigaaGreatDoor.DecM Go.Proofs.YtbpndiegbfpigaaGreatDoor.FixpM Go.Proofs.YtbpndiegbfpigaaGreatDoor.FldW Go.Proofs.YtbpndiegbfpigaaGreatDoor.TagM
/-- events: what is formatted -/
theorem kind_typeB : ∀ k : Nat, k < 17 → k ≠ 0 → kindF [typeB (k : Int)] = k := by decide
theorem type_right : ∀ k : Nat, k < 17 → k ≠ 0 → rightF (35, [typeB (k : Int)]) = true := by decide
def addOwn (v o : Ev) (t : Int) : Ev := if t = 107 then { o with name := v.name } else if t = 201 then { o with call := v.call } else setN o t (num v t)
/-- an event without what its kind doesn't have -/
def ownF (v : Ev) : Ev := (tagsF v.kind).foldl (addOwn v) (Ev.ofKind v.kind)
theorem getOne_own {v : Ev} (o : Ev) {t : Int} (h : (one v t).1 = 0) : getOne o t (t, (one v t).2) = (addOwn v o t, 0) := by
  unfold addOwn
  by_cases h1 : t = 107
  · subst h1
    by_cases hb : v.name = [] ∨ (1 : UInt8) ∈ v.name
    · rw [one_name_bad hb] at h; cases h
    · rw [one_name hb, if_pos rfl]
      exact one_nm (fun e => hb (.inl e))
  · by_cases h2 : t = 201
    · subst h2
      rw [one_call, if_neg (show ¬ (201 : Int) = 107 by decide), if_pos (show (201 : Int) = 201 from rfl)]
      generalize v.call = bc
      cases bc with
      | true => exact one_yes
      | false => exact one_no
    · rw [if_neg h1, if_neg h2]
      rw [one_num h1 h2] at h ⊢
      by_cases hf : fits (num v t) = true
      · rw [if_pos hf]
        exact one_set h1 h2 (fmt0_ne _) (parse_fmt _ 0 (fits_max hf))
      · rw [if_neg hf] at h; cases h
theorem getAll_own (v : Ev) : ∀ (ts : List Int) (o : Ev), AllOk v ts → getAll o ts (outF v ts) = (ts.foldl (addOwn v) o, 0)
  | [], o, _ => rfl
  | t :: ts, o, h => by
    have h1 := getOne_own o (h t List.mem_cons_self)
    show (if (getOne o t (t, (one v t).2)).2 = 0 then getAll (getOne o t (t, (one v t).2)).1 ts (outF v ts) else getOne o t (t, (one v t).2)) = _
    rw [h1, if_pos rfl]
    exact getAll_own v ts _ (fun t ht => h t (List.mem_cons_of_mem _ ht))
theorem errF_zero {v : Ev} {ts : List Int} (h : errF v ts = 0) : AllOk v ts := by
  intro t ht
  unfold errF at h
  cases hf : ts.find? (fun t => decide ((one v t).1 ≠ 0)) with
  | none =>
    have := List.find?_eq_none.1 hf t ht
    simpa using this
  | some u =>
    rw [hf] at h
    have := List.find?_some hf
    simp at this
    exact absurd h this
theorem fields_ok {v : Ev} (h : (fieldsR v).2 = 0) : ∃ k : Nat, v.kind = k ∧ k < 17 ∧ k ≠ 0 ∧ AllOk v (tagsF v.kind) ∧ fieldsR v = ((35, [typeB v.kind]) :: outF v (tagsF v.kind), 0) := by
  unfold fieldsR at h
  by_cases hk : v.kind < 1 ∨ 16 < v.kind
  · rw [if_pos hk] at h; cases h
  · rw [if_neg hk] at h
    by_cases he : errF v (tagsF v.kind) = 0
    · have ha := errF_zero he
      exact ⟨v.kind.toNat, by omega, by omega, by omega, ha, fieldsR_ok hk ha⟩
    · rw [if_neg he] at h
      exact absurd h he
theorem event_of_fields {v : Ev} (h : (fieldsR v).2 = 0) : eventR (fieldsR v).1 = (ownF v, 0) := by
  obtain ⟨k, hk, h17, h0, ha, e⟩ := fields_ok h
  rw [e]
  have hl : (outF v (tagsF v.kind)).length = (tagsF v.kind).length := by unfold outF; simp
  rw [hk] at ha hl ⊢
  rw [eventR_of (kind_typeB k h17 h0) h0 hl, getAll_own v _ _ ha]
  unfold ownF
  rw [hk]
theorem tag_range {k t : Int} (h : t ∈ tagsF k) : t = 107 ∨ t = 201 ∨ (t = 1 ∨ t = 11 ∨ t = 12 ∨ t = 15 ∨ t = 38 ∨ t = 41 ∨ t = 44 ∨ t = 55 ∨ t = 311) := by
  by_cases h1 : t = 107
  · exact .inl h1
  by_cases h2 : t = 201
  · exact .inr (.inl h2)
  exact .inr (.inr (tag_num h h1 h2))
theorem one_right {v : Ev} {k t : Int} (ht : t ∈ tagsF k) (h : (one v t).1 = 0) : rightF (t, (one v t).2) = true ∧ (one v t).2.length ≤ if t = 107 then v.name.length else 21 := by
  rcases tag_range ht with rfl | rfl | hn
  · by_cases hb : v.name = [] ∨ (1 : UInt8) ∈ v.name
    · rw [one_name_bad hb] at h; cases h
    · rw [one_name hb]
      exact ⟨right_mk (by decide) (by decide) (by decide) (by decide) (by decide) (fun e => hb (.inl e)) (fun e => hb (.inr e)), by simp⟩
  · rw [one_call]
    refine ⟨?_, by simp⟩
    cases v.call <;> decide
  · have h1 : t ≠ 107 := by omega
    have h2 : t ≠ 201 := by omega
    rw [one_num h1 h2] at h ⊢
    by_cases hf : fits (num v t) = true
    · rw [if_pos hf]
      refine ⟨right_mk (by omega) (by omega) (by omega) (by omega) (by omega) (fmt0_ne _) (fmt0_one _), ?_⟩
      rw [if_neg h1]
      exact fmt0_len hf
    · rw [if_neg hf] at h; cases h
def wt (n : Nat) (ts : List Int) : Nat := (ts.map fun t => 6 + if t = 107 then n else 21).sum
theorem wt_le {n : Nat} (hn : n ≤ 1024) : ∀ k : Nat, k < 17 → wt n (tagsF k) ≤ 1300 := by
  have mono : ∀ ts : List Int, wt n ts ≤ wt 1024 ts := by
    intro ts
    induction ts with
    | nil => simp [wt]
    | cons t ts ih =>
      unfold wt at ih ⊢
      simp only [List.map_cons, List.sum_cons]
      split <;> omega
  have h1 : ∀ k : Nat, k < 17 → wt 1024 (tagsF k) ≤ 1300 := by decide
  exact fun k hk => Nat.le_trans (mono _) (h1 k hk)
theorem body_out {v : Ev} : ∀ (ts : List Int), (∀ t ∈ ts, rightF (t, (one v t).2) = true ∧ (one v t).2.length ≤ if t = 107 then v.name.length else 21) → (bodyB (outF v ts)).length ≤ wt v.name.length ts
  | [], _ => by simp [bodyB, outF, wt]
  | t :: ts, h => by
    have h1 := h t List.mem_cons_self
    have h2 := fieldB_len h1.1
    have h3 := body_out ts (fun t ht => h t (List.mem_cons_of_mem _ ht))
    unfold bodyB outF wt at h3 ⊢
    simp only [List.map_cons, List.flatMap_cons, List.length_append, List.sum_cons] at h3 ⊢
    have h4 := h1.2
    simp only at h2
    omega
theorem valid_of_fields {v : Ev} (hn : v.name.length ≤ 1024) (h : (fieldsR v).2 = 0) : validR (fieldsR v).1 = 0 := by
  obtain ⟨k, hk, h17, h0, ha, e⟩ := fields_ok h
  rw [e]
  rw [hk] at ha ⊢
  have hr : ∀ t ∈ tagsF (k : Int), rightF (t, (one v t).2) = true ∧ (one v t).2.length ≤ if t = 107 then v.name.length else 21 := fun t ht => one_right ht (ha t ht)
  have h1 := type_right k h17 h0
  refine valid_mk ?_ ?_
  · intro f hf
    rcases List.mem_cons.1 hf with rfl | hf
    · exact h1
    · unfold outF at hf
      obtain ⟨t, ht, rfl⟩ := List.mem_map.1 hf
      exact (hr t ht).1
  · have h2 := body_out _ hr
    have h3 := wt_le hn k h17
    have h4 := fieldB_len h1
    have e2 : bodyB ((35, [typeB (k : Int)]) :: outF v (tagsF k)) = fieldB (35, [typeB (k : Int)]) ++ bodyB (outF v (tagsF k)) := by unfold bodyB; rw [List.flatMap_cons]
    rw [e2, List.length_append]
    simp at h4
    omega
/-- and the other way: what is read has that text -/
theorem whole0 {s : List UInt8} (h : bad s 0 = false) : wholeT (restT s) = restT s ∧ partT (restT s) = [] ∧ digs (restT s) = true ∧ (1 < (restT s).length → (restT s).head? ≠ some 48) ∧ (negT s = true → val (restT s) ≠ 0) := by
  unfold bad at h
  simp only [Bool.or_eq_false_iff] at h
  obtain ⟨⟨hW, hP⟩, hN⟩ := h
  unfold badW at hW
  unfold badP at hP
  unfold badN at hN
  have hp : pointT (restT s) = false := by
    cases hpt : pointT (restT s) with
    | false => rfl
    | true =>
      rw [hpt] at hP
      simp at hP
      obtain ⟨h1, h2⟩ := hP
      rw [h2] at h1
      simp [digs] at h1
  rcases split_eq (restT s) with ⟨h1, _⟩ | ⟨_, h2, h3⟩
  · rw [hp] at h1; cases h1
  · rw [← h2] at hW hN
    rw [h3, List.append_nil] at hN
    simp at hW hN
    exact ⟨h2.symm, h3, hW.1, hW.2, hN⟩
theorem fmt_parse0 {s : List UInt8} {y : Int} (h : parseF s 0 = (y, 0)) : fmtF y 0 = s := by
  unfold parseF at h
  by_cases hb : bad s 0 = true
  · rw [if_pos hb] at h; cases h
  rw [if_neg hb] at h
  by_cases hM : DecM.Max < amt (restT s) 0
  · rw [if_pos hM] at h; cases h
  rw [if_neg hM] at h
  have hy : (if negT s then -(amt (restT s) 0 : Int) else (amt (restT s) 0 : Int)) = y := congrArg Prod.fst h
  obtain ⟨hw, hp, hd, hh, hn⟩ := whole0 (s := s) (by simpa using hb)
  have ha : amt (restT s) 0 = val (restT s) := by unfold amt; rw [hw, hp]; simp
  rw [ha] at hy
  have hall : (restT s).all isD = true := by unfold digs at hd; simp at hd; simpa using hd.2
  have hne : restT s ≠ [] := by intro e; rw [e] at hd; simp [digs] at hd
  have hpos : 0 < (restT s).length := List.length_pos_iff.2 hne
  have hnd := nd_val (restT s) hall hne (by
    by_cases h1 : 1 < (restT s).length
    · exact .inr (hh h1)
    · exact .inl (by omega))
  have habs : y.natAbs = val (restT s) := by rw [← hy]; split <;> simp
  have hlow : low y.natAbs (len y.natAbs 0) = restT s := by
    rw [habs, show len (val (restT s)) 0 = (restT s).length by unfold len; rw [hnd]; omega]
    exact low_val _ hall
  rw [fmt0, hlow]
  cases hN : negT s with
  | true =>
    rw [hN] at hy hn
    have hv := hn rfl
    simp at hy
    rw [if_pos (by omega)]
    unfold restT
    rw [if_pos hN]
    unfold negT at hN
    cases s with
    | nil => simp at hN
    | cons b l =>
      simp at hN
      rw [hN]; rfl
  | false =>
    rw [hN] at hy
    simp at hy
    rw [if_neg (by omega)]
    unfold restT
    rw [if_neg (by simp [hN])]
    rfl
theorem event_zero {fs : List Fld} (h : (eventR fs).2 ≠ 0) : (eventR fs).1 = Ev.zero := by
  have g1 : ∀ (v : Ev) (t : Int) (f : Fld), (getOne v t f).2 ≠ 0 → (getOne v t f).1 = Ev.zero := by
    intro v t f h
    unfold getOne at h ⊢
    repeat' split at h
    all_goals first | exact absurd rfl h | simp_all
  have g2 : ∀ (ts : List Int) (r : List Fld) (v : Ev), (getAll v ts r).2 ≠ 0 → (getAll v ts r).1 = Ev.zero := by
    intro ts
    induction ts with
    | nil => intro r v h; exact absurd rfl h
    | cons t ts ih =>
      intro r v h
      cases r with
      | nil => rfl
      | cons f r =>
        unfold getAll at h ⊢
        by_cases h1 : (getOne v t f).2 = 0
        · rw [if_pos h1] at h ⊢; exact ih r _ h
        · rw [if_neg h1] at h ⊢; exact g1 v t f h1
  cases fs with
  | nil => rfl
  | cons f r =>
    simp only [eventR] at h ⊢
    split at h
    · rename_i hc
      rw [if_pos hc]
      exact g2 _ _ _ h
    · rename_i hc
      rw [if_neg hc]
def isNum (t : Int) : Prop := t = 1 ∨ t = 11 ∨ t = 12 ∨ t = 15 ∨ t = 38 ∨ t = 41 ∨ t = 44 ∨ t = 55 ∨ t = 311
theorem num_setN {v : Ev} {t u x : Int} (ht : isNum t) (hu : isNum u) : num (setN v t x) u = if u = t then x else num v u := by
  rcases ht with rfl | rfl | rfl | rfl | rfl | rfl | rfl | rfl | rfl <;> rcases hu with rfl | rfl | rfl | rfl | rfl | rfl | rfl | rfl | rfl <;> rfl
theorem setN_rest (v : Ev) (t x : Int) : (setN v t x).kind = v.kind ∧ (setN v t x).name = v.name ∧ (setN v t x).call = v.call := by
  unfold setN
  (repeat' split) <;> exact ⟨rfl, rfl, rfl⟩
/-- what an event says of a field that it was read from -/
def FQ (x : Ev) (t : Int) (f : Fld) : Prop := f.1 = t ∧ (t = 107 → f.2 ≠ [] ∧ x.name = f.2) ∧ (t = 201 → f.2 = [if x.call then 89 else 78]) ∧ (isNum t → parseF f.2 0 = (num x t, 0))
theorem getOne_says {v w : Ev} {t : Int} {f : Fld} (ht : t = 107 ∨ t = 201 ∨ isNum t) (h : getOne v t f = (w, 0)) :
    w.kind = v.kind ∧ (∀ u, isNum u → u ≠ t → num w u = num v u) ∧ (t ≠ 107 → w.name = v.name) ∧ (t ≠ 201 → w.call = v.call) ∧ FQ w t f := by
  by_cases hf : f.1 ≠ t ∨ f.2 = []
  · rw [one_form hf] at h; cases h
  obtain ⟨f1, f2⟩ := f
  simp at hf
  obtain ⟨rfl, hne⟩ := hf
  rcases ht with rfl | rfl | hn
  · rw [one_nm hne] at h
    cases h
    exact ⟨rfl, fun _ _ _ => rfl, fun h => absurd rfl h, fun _ => rfl, rfl, fun _ => ⟨hne, rfl⟩, fun h => absurd h (by decide), fun h => absurd h (by unfold isNum; decide)⟩
  · by_cases h1 : f2 = [89]
    · subst h1
      rw [one_yes] at h
      cases h
      exact ⟨rfl, fun _ _ _ => rfl, fun _ => rfl, fun h => absurd rfl h, rfl, fun h => absurd h (by decide), fun _ => rfl, fun h => absurd h (by unfold isNum; decide)⟩
    · by_cases h2 : f2 = [78]
      · subst h2
        rw [one_no] at h
        cases h
        exact ⟨rfl, fun _ _ _ => rfl, fun _ => rfl, fun h => absurd rfl h, rfl, fun h => absurd h (by decide), fun _ => rfl, fun h => absurd h (by unfold isNum; decide)⟩
      · rw [one_odd h1 h2] at h; cases h
  · have h1 : f1 ≠ 107 := by unfold isNum at hn; omega
    have h2 : f1 ≠ 201 := by unfold isNum at hn; omega
    obtain ⟨⟨y, e⟩, hp⟩ : ∃ pr, parseF f2 0 = pr := ⟨_, rfl⟩
    by_cases he : e = 0
    · subst he
      rw [one_set h1 h2 hne hp] at h
      cases h
      have hs := setN_rest v f1 y
      refine ⟨hs.1, fun u hu hut => by rw [num_setN hn hu, if_neg hut], fun _ => hs.2.1, fun _ => hs.2.2, rfl, fun h => absurd h h1, fun h => absurd h h2, fun _ => ?_⟩
      rw [num_setN hn hn, if_pos rfl]
      exact hp
    · rw [one_err h1 h2 hne hp he] at h
      exact absurd (congrArg Prod.snd h) he
theorem FQ.later {w x : Ev} {t : Int} {f : Fld} (h : FQ w t f) (hn : isNum t → num x t = num w t) (h1 : t = 107 → x.name = w.name) (h2 : t = 201 → x.call = w.call) : FQ x t f :=
  ⟨h.1, fun e => ⟨(h.2.1 e).1, (h1 e).trans (h.2.1 e).2⟩, fun e => by rw [h2 e]; exact h.2.2.1 e, fun e => by rw [hn e]; exact h.2.2.2 e⟩
theorem getAll_says {x : Ev} : ∀ (ts : List Int) (r : List Fld) (v : Ev), ts.Nodup → (∀ t ∈ ts, t = 107 ∨ t = 201 ∨ isNum t) → r.length = ts.length → getAll v ts r = (x, 0) →
    x.kind = v.kind ∧ (∀ u, isNum u → u ∉ ts → num x u = num v u) ∧ (107 ∉ ts → x.name = v.name) ∧ (201 ∉ ts → x.call = v.call) ∧ r = ts.map (fun t => (t, (r.getD (ts.idxOf t) (0, [])).2)) ∧ ∀ t ∈ ts, FQ x t (t, (r.getD (ts.idxOf t) (0, [])).2)
  | [], r, v, _, _, hl, h => by
    have hr : r = [] := List.eq_nil_of_length_eq_zero (by simpa using hl)
    subst hr
    cases h
    exact ⟨rfl, fun _ _ _ => rfl, fun _ => rfl, fun _ => rfl, rfl, fun t ht => by cases ht⟩
  | t :: ts, [], v, _, _, hl, _ => by simp at hl
  | t :: ts, f :: r, v, hnd, hts, hl, h => by
    obtain ⟨hnt, hnd'⟩ := List.nodup_cons.1 hnd
    unfold getAll at h
    by_cases h0 : (getOne v t f).2 = 0
    · rw [if_pos h0] at h
      obtain ⟨w, hw⟩ : ∃ w, w = (getOne v t f).1 := ⟨_, rfl⟩
      have hone : getOne v t f = (w, 0) := by rw [hw, ← h0]
      rw [hone] at h
      obtain ⟨k1, n1, m1, c1, q1⟩ := getOne_says (hts t List.mem_cons_self) hone
      obtain ⟨k2, n2, m2, c2, e2, q2⟩ := getAll_says ts r w hnd' (fun u hu => hts u (List.mem_cons_of_mem _ hu)) (by simpa using hl) h
      have hidx : ∀ u ∈ ts, (t :: ts).idxOf u = ts.idxOf u + 1 := fun u hu => by
        have hne : t ≠ u := fun e => hnt (e ▸ hu)
        rw [List.idxOf_cons]
        have hb : (t == u) = false := by simpa using hne
        rw [hb]; rfl
      have h00 : (t :: ts).idxOf t = 0 := List.idxOf_cons_self
      refine ⟨k2.trans k1, fun u hu hn => ?_, fun hn => ?_, fun hn => ?_, ?_, ?_⟩
      · simp at hn
        rw [n2 u hu hn.2, n1 u hu hn.1]
      · simp at hn
        rw [m2 hn.2, m1 (fun e => hn.1 e.symm)]
      · simp at hn
        rw [c2 hn.2, c1 (fun e => hn.1 e.symm)]
      · rw [List.map_cons, h00]
        congr 1
        · obtain ⟨f1, f2⟩ := f
          have := q1.1
          simp at this
          subst this
          rfl
        · conv => lhs; rw [e2]
          refine List.map_congr_left fun u hu => ?_
          rw [hidx u hu]; rfl
      · intro u hu
        rcases List.mem_cons.1 hu with rfl | hu
        · rw [h00]
          have q : FQ w u (u, f.2) := ⟨rfl, q1.2⟩
          exact q.later (fun e => n2 u e hnt) (fun e => m2 (e ▸ hnt)) (fun e => c2 (e ▸ hnt))
        · rw [hidx u hu]
          exact q2 u hu
    · rw [if_neg h0] at h
      rw [h] at h0
      exact absurd rfl h0
theorem one_says {x : Ev} {t : Int} {s : List UInt8} (ht : t = 107 ∨ t = 201 ∨ isNum t) (h : FQ x t (t, s)) : one x t = (0, s) ∨ ((one x t).1 = 42 ∧ x.name ≠ []) := by
  rcases ht with rfl | rfl | hn
  · obtain ⟨h1, h2⟩ := h.2.1 rfl
    simp at h1 h2
    by_cases hb : x.name = [] ∨ (1 : UInt8) ∈ x.name
    · right
      rw [one_name_bad hb]
      exact ⟨rfl, by rw [h2]; exact h1⟩
    · left
      rw [one_name hb, h2]
  · left
    rw [one_call]
    have := h.2.2.1 rfl
    simp only at this
    rw [this]
  · left
    have hp := h.2.2.2 hn
    simp only at hp
    rw [one_num (by unfold isNum at hn; omega) (by unfold isNum at hn; omega), if_pos (max_fits (fmt_parse hp).1), fmt_parse0 hp]
theorem tags_nodup : ∀ k : Nat, k < 17 → (tagsF (k : Int)).Nodup := by decide
theorem kind_text {s : List UInt8} (h : kindF s ≠ 0) : s = [typeB (kindF s : Int)] := by
  by_cases hl : s.length = 1
  · match s, hl with
    | [b], _ =>
      obtain ⟨i, hi⟩ : ∃ i, kindF [b] = i + 1 := ⟨kindF [b] - 1, by omega⟩
      have hle := kindF_le [b]
      have := (kind_at (b := b) (i := i) (by omega)).2 hi
      unfold typeB
      rw [hi, show (((i + 1 : Nat) : Int) - 1).toNat = i by omega, this]
  · exact absurd (kindF_long hl) h
theorem fields_of_event {fs : List Fld} {x : Ev} (h : eventR fs = (x, 0)) : fieldsR x = (fs, 0) ∨ ((fieldsR x).1 = [] ∧ (fieldsR x).2 = 42 ∧ x.name ≠ []) := by
  cases fs with
  | nil => cases h
  | cons f r =>
    by_cases hc : f.1 = 35 ∧ kindF f.2 ≠ 0 ∧ r.length = (tagsF (kindF f.2)).length
    · obtain ⟨f1, s⟩ := f
      obtain ⟨h1, h2, h3⟩ := hc
      simp only at h1 h2 h3
      subst h1
      have hs := kind_text h2
      have hle := kindF_le s
      obtain ⟨k, hk⟩ : ∃ k, k = kindF s := ⟨_, rfl⟩
      rw [← hk] at h2 h3 hs hle
      rw [eventR_of hk.symm h2 h3] at h
      have hts : ∀ t ∈ tagsF (k : Int), t = 107 ∨ t = 201 ∨ isNum t := fun t ht => tag_range ht
      obtain ⟨kk, _, _, _, er, q⟩ := getAll_says _ r _ (tags_nodup k (by omega)) hts h3 h
      have hxk : x.kind = (k : Int) := kk
      have hin : ¬ (x.kind < 1 ∨ 16 < x.kind) := by omega
      have hone := fun t ht => one_says (hts t ht) (q t ht)
      by_cases he : errF x (tagsF x.kind) = 0
      · left
        have ha := errF_zero he
        rw [fieldsR_ok hin ha, hxk, ← hs]
        congr 2
        rw [er]
        unfold outF
        refine List.map_congr_left fun t ht => ?_
        rcases hone t ht with h5 | ⟨h5, _⟩
        · rw [h5]
        · rw [hxk] at ha
          rw [ha t ht] at h5; cases h5
      · right
        have e1 : fieldsR x = ([], errF x (tagsF x.kind)) := by unfold fieldsR; rw [if_neg hin, if_neg he]
        have : ∃ t ∈ tagsF x.kind, errF x (tagsF x.kind) = (one x t).1 ∧ (one x t).1 ≠ 0 := by
          unfold errF at he ⊢
          cases hf : (tagsF x.kind).find? (fun t => decide ((one x t).1 ≠ 0)) with
          | none => rw [hf] at he; exact absurd rfl he
          | some u => exact ⟨u, List.mem_of_find?_eq_some hf, rfl, by simpa using List.find?_some hf⟩
        obtain ⟨t, ht, h6, h7⟩ := this
        rw [hxk] at ht
        rcases hone t ht with h5 | ⟨h5, h8⟩
        · rw [h5] at h7; exact absurd rfl h7
        · rw [e1]
          exact ⟨rfl, by rw [h6]; exact h5, h8⟩
    · rw [eventR_not (by
        by_cases h1 : f.1 = 35
        · by_cases h2 : kindF f.2 = 0
          · exact .inr (.inl h2)
          · exact .inr (.inr (fun h3 => hc ⟨h1, h2, h3⟩))
        · exact .inl h1)] at h
      cases h
theorem num_zero (k t : Int) : num (Ev.ofKind k) t = 0 := by
  unfold num Ev.ofKind
  (repeat' split) <;> rfl
theorem num_other {x : Ev} {t : Int} (h : ¬ isNum t) : num x t = num x 311 := by
  unfold isNum at h
  simp only [not_or] at h
  unfold num
  simp [h]
theorem fine_of_event {fs : List Fld} {x : Ev} (hok : ∀ f ∈ fs, f.2.length ≤ 140737488351232) (h : eventR fs = (x, 0)) :
    (-9223372036854775808 ≤ x.kind ∧ x.kind ≤ 9223372036854775807) ∧ (∀ t, -9223372036854775808 ≤ num x t ∧ num x t ≤ 9223372036854775807) ∧ x.name.length ≤ 140737488351232 := by
  cases fs with
  | nil => cases h
  | cons f r =>
    by_cases hc : f.1 = 35 ∧ kindF f.2 ≠ 0 ∧ r.length = (tagsF (kindF f.2)).length
    · obtain ⟨f1, s⟩ := f
      obtain ⟨h1, h2, h3⟩ := hc
      simp only at h1 h2 h3
      subst h1
      have hle := kindF_le s
      obtain ⟨k, hk⟩ : ∃ k, k = kindF s := ⟨_, rfl⟩
      rw [← hk] at h2 h3 hle
      rw [eventR_of hk.symm h2 h3] at h
      have hts : ∀ t ∈ tagsF (k : Int), t = 107 ∨ t = 201 ∨ isNum t := fun t ht => tag_range ht
      obtain ⟨kk, nn, mm, _, er, q⟩ := getAll_says _ r _ (tags_nodup k (by omega)) hts h3 h
      have hxk : x.kind = (k : Int) := kk
      have key : ∀ u, isNum u → -9223372036854775808 ≤ num x u ∧ num x u ≤ 9223372036854775807 := by
        intro u hu
        by_cases hm : u ∈ tagsF (k : Int)
        · have hp := (q u hm).2.2.2 hu
          have := (fmt_parse hp).1
          unfold DecM.Max at this
          omega
        · rw [nn u hu hm, num_zero]; omega
      refine ⟨by omega, fun t => ?_, ?_⟩
      · by_cases ht : isNum t
        · exact key t ht
        · rw [num_other ht]
          exact key 311 (by unfold isNum; omega)
      · by_cases hm : (107 : Int) ∈ tagsF (k : Int)
        · have hq := (q 107 hm).2.1 rfl
          rw [hq.2]
          have hmem : ((107 : Int), (r.getD ((tagsF (k : Int)).idxOf 107) (0, [])).2) ∈ (tagsF (k : Int)).map (fun t => (t, (r.getD ((tagsF (k : Int)).idxOf t) (0, [])).2)) := List.mem_map.2 ⟨107, hm, rfl⟩
          rw [← er] at hmem
          exact hok _ (List.mem_cons_of_mem _ hmem)
        · rw [mm hm]; simp [Ev.ofKind]
    · rw [eventR_not (by
        by_cases h1 : f.1 = 35
        · by_cases h2 : kindF f.2 = 0
          · exact .inr (.inl h2)
          · exact .inr (.inr (fun h3 => hc ⟨h1, h2, h3⟩))
        · exact .inl h1)] at h
      cases h
theorem fields_short {v : Ev} (hn : v.name.length ≤ 1024) (h : (fieldsR v).2 = 0) : ∀ f ∈ (fieldsR v).1, f.2.length ≤ 1024 := by
  obtain ⟨k, hk, h17, h0, ha, e⟩ := fields_ok h
  rw [e]
  intro f hf
  rcases List.mem_cons.1 hf with rfl | hf
  · simp
  · unfold outF at hf
    obtain ⟨t, ht, rfl⟩ := List.mem_map.1 hf
    have := (one_right ht (ha t ht)).2
    simp only
    split at this <;> omega
end Go.Proofs.YtbpndiegbfpigaaGreatDoor.PortM
