/- Rows of bytes whose block bears a mark behind its cells ('[]byte(s)' makes such a row): append onto them, of bytes and of texts. No program in sight. -/
import Derived.Test.YtckcnenhnniogaaDoorBase
import Derived.Lib.AppendStr
import Derived.Laws.IdiomStrings
set_option linter.unusedSimpArgs false
set_option linter.unusedVariables false
namespace Go.Proofs.YtckcnenhnniogaaDoor.Bas
open Go.RowKit Go.Lib

/-- the slice owns these bytes; whatever is frozen of its row lies behind its cells -/
def ownsM (w : World) (base : Nat) (e : TypeId) (v : Value) (n : Nat) (xs : List Value) : Prop :=
  xs.length = n ∧
  ((v = .slice none 0 0 ∧ n = 0) ∨
   ∃ g cap cur fz, v = .slice (some ⟨g, 0, none⟩) n cap ∧ base ≤ g ∧ w.heap[g]? = some (.cells cur e fz) ∧ (cur.size ≤ fz.1 ∨ fz.2 ≤ fz.1) ∧ n ≤ cap ∧ cap ≤ maxLen ∧ cur.size = cap ∧ cur.toList.take n = xs)
section
variable {w : World} {base : Nat} {e : TypeId} {v : Value} {n : Nat} {xs : List Value}
theorem ownsM.below {w' : World} (h : ownsM w base e v n xs) (hb : Below w.heap.size w w') : ownsM w' base e v n xs := by
  refine ⟨h.1, ?_⟩
  rcases h.2 with hn | ⟨g, cap, cur, fz, hv, hbg, hg, r⟩
  · exact .inl hn
  · exact .inr ⟨g, cap, cur, fz, hv, hbg, (hb.block g (Array.getElem?_eq_some_iff.1 hg).1).trans hg, r⟩
theorem ownsM.at_ (h : ownsM w base e v n xs) : ∃ a cap, v = .slice a n cap ∧ n ≤ cap ∧ cap ≤ maxLen ∧ At w a xs := by
  rcases h.2 with ⟨rfl, rfl⟩ | ⟨g, cap, cur, fz, rfl, hb, hg, _, hn, hm, hs, ht⟩
  · obtain rfl : xs = [] := List.eq_nil_of_length_eq_zero h.1
    exact ⟨none, 0, rfl, Nat.le_refl _, by simp [maxLen], At.nil _ _⟩
  · refine ⟨_, cap, rfl, hn, hm, fun j u hj => ⟨g, 0, rfl, ?_⟩⟩
    rw [← ht] at hj
    rw [List.getElem?_take] at hj
    split at hj
    · rw [Nat.zero_add]
      unfold World.cell?
      simp only [hg]
      simpa using hj
    · cases hj
theorem ownsM.lt (h : ownsM w base e v n xs) : ∀ k, v.ownBlock = some k → base ≤ k := by
  intro k hk
  rcases h.2 with ⟨rfl, _⟩ | ⟨g, cap, cur, fz, rfl, hb, _⟩
  · cases hk
  · cases hk; exact hb
theorem ownsM_of (h : w.ownsRow base e 1 v n xs) : ownsM w base e v n xs := by
  refine ⟨by simpa using h.1, ?_⟩
  rcases h.2 with hn | ⟨g, cap, cur, hv, hb, hg, hn, hm, hs, ht⟩
  · exact .inl hn
  · exact .inr ⟨g, cap, cur, (0, 0), hv, hb, hg, .inr (Nat.le_refl _), hn, hm, by simpa using hs, by simpa using ht⟩
end
theorem run_storeCells_M (P : Program) (g o : Nat) (t : TypeId) (fz : Nat × Nat) : ∀ (vs : List Value) (i : Nat) (cur : Array Value) (w : World), w.heap[g]? = some (.cells cur t fz) → (cur.size ≤ fz.1 ∨ fz.2 ≤ fz.1) →
    o + i + vs.length ≤ cur.size → (∀ v ∈ vs, v.oneCell' = true) →
    (storeCells ⟨g, o, none⟩ vs i).run P w = .ok () (w.setRow g (cur.toList.take (o + i) ++ vs ++ cur.toList.drop (o + i + vs.length)).toArray)
  | [], i, cur, w, hg, _, _, _ => by
    simp only [storeCells, List.append_nil, List.length_nil, Nat.add_zero, List.take_append_drop, Array.toArray_toList]
    rw [setRow_self w g cur t fz hg]
    rfl
  | v :: rest, i, cur, w, hg, hfz, hl, h1 => by
    have hi : o + i < cur.size := by simp at hl; omega
    have hadd : (⟨g, o, none⟩ : Addr).add i = ⟨g, o + i, none⟩ := by unfold Addr.add; split <;> simp_all
    have hcell : w.cell? ⟨g, o + i, none⟩ = some cur[o + i] := by simp [World.cell?, hg, hi]
    have hfro : w.frozen? ⟨g, o + i, none⟩ = false := by
      obtain ⟨lo, hi'⟩ := fz
      simp only at hfz
      simp only [World.frozen?, hg, Bool.and_eq_false_iff, decide_eq_false_iff_not]
      omega
    have hst : (store ((⟨g, o, none⟩ : Addr).add i) v).run P w = .ok () (w.setRow g (cur.setIfInBounds (o + i) v)) := by
      rw [hadd, run_store P w _ v _ (h1 v (by simp)), hcell]
      simp [hfro, setCell_eq_setRow w g (o + i) cur t fz v hg]
    have ih := run_storeCells_M P g o t fz rest (i + 1) (cur.setIfInBounds (o + i) v) (w.setRow g (cur.setIfInBounds (o + i) v)) (setRow_heap w g cur _ t _ hg) (by simpa using hfz) (by simp at hl ⊢; omega) (fun x hx => h1 x (by simp [hx]))
    simp only [storeCells, Sem.run_bind, hst, Result.andThen_ok, ih, setRow_setRow]
    congr 3
    have e := list_seg_step cur.toList (o + i) v rest (by simp at hl ⊢; omega)
    simpa [Array.toList_setIfInBounds, Nat.add_assoc] using e
section
variable {P : Program} (w : World)
theorem add0 (b j : Nat) : (⟨b, 0, none⟩ : Addr).add j = ⟨b, 0 + j, none⟩ := by unfold Addr.add; split <;> simp_all
theorem ownsM.cells {w : World} {base : Nat} {e : TypeId} {v : Value} {n : Nat} {xs : List Value} (h : ownsM w base e v n xs) {g : Nat} (hg : v.ownBlock = some g) : ∀ j u, xs[j]? = some u → w.cell? ((⟨g, 0, none⟩ : Addr).add j) = some u := by
  obtain ⟨a, cap, hv, _, _, hat⟩ := h.at_
  intro j u hj
  obtain ⟨b, off, e2, hc⟩ := hat j u hj
  rcases h.2 with ⟨rfl, _⟩ | ⟨g', cap', cur, fz, rfl, _⟩
  · cases hg
  · cases hg
    cases hv
    cases e2
    rw [add0]; exact hc
/-- what both ways of an append leave -/
theorem room_M {base g n m cap : Nat} {e : TypeId} {cur : Array Value} {fz : Nat × Nat} {xs news : List Value} (hbg : base ≤ g) (hg : w.heap[g]? = some (.cells cur e fz)) (hfz : cur.size ≤ fz.1 ∨ fz.2 ≤ fz.1) (hcm : cap ≤ maxLen) (hcs : cur.size = cap) (ht : cur.toList.take n = xs)
    (hx : xs.length = n) (hl : news.length = m) (hroom : n + m ≤ cap) :
    ownsM (w.setRow g (cur.toList.take n ++ news ++ cur.toList.drop (n + m)).toArray) base e (.slice (some ⟨g, 0, none⟩) (n + m) cap) (n + m) (xs ++ news) ∧ w.grownBy (w.setRow g (cur.toList.take n ++ news ++ cur.toList.drop (n + m)).toArray) (some g) := by
  have hsz : (cur.toList.take n ++ news ++ cur.toList.drop (n + m)).toArray.size = cur.size := by
    simp only [List.size_toArray, List.length_append, List.length_take, List.length_drop, Array.length_toList]
    omega
  have hlen : (xs ++ news).length = n + m := by rw [List.length_append, hx, hl]
  refine ⟨⟨hlen, .inr ⟨g, cap, _, fz, rfl, hbg, setRow_heap w g cur _ e _ hg, by rw [hsz]; exact hfz, hroom, hcm, by rw [hsz]; exact hcs, ?_⟩⟩, ⟨rfl, rfl, rfl, by simp, fun k _ hk => setRow_other w g k _ (fun e => hk (by rw [e]))⟩⟩
  rw [ht, ← hlen]
  exact List.take_left
theorem grow_M {base n m old : Nat} {e : TypeId} {xs news : List Value} (hx : xs.length = n) (hl : news.length = m) (h63 : n + m ≤ maxLen) (hbase : base ≤ w.heap.size) (row : Option Nat) :
    ownsM (w.drew.alloc (.cells (xs.toArray ++ news.toArray ++ Builtin.zeroCells (Value.int .u8 0).cells (grownCap w (n + m) old e - (n + m))) e)) base e (.slice (some ⟨w.heap.size, 0, none⟩) (n + m) (grownCap w (n + m) old e)) (n + m) (xs ++ news) ∧
      w.grownBy (w.drew.alloc (.cells (xs.toArray ++ news.toArray ++ Builtin.zeroCells (Value.int .u8 0).cells (grownCap w (n + m) old e - (n + m))) e)) row := by
  have hge := grownCap_ge w (n + m) old e
  have hcm : grownCap w (n + m) old e ≤ maxLen := grownCap_le_maxLen w (n + m) old e h63
  have hlen : (xs ++ news).length = n + m := by rw [List.length_append, hx, hl]
  have hz1 : (Value.int IntKind.u8 0).cells.size = 1 := rfl
  refine ⟨⟨hlen, .inr ⟨w.heap.size, _, _, (0, 0), rfl, hbase, heap_alloc_new w.drew _, .inr (Nat.le_refl _), hge, hcm, ?_, ?_⟩⟩, ⟨rfl, rfl, rfl, by simp, fun k hk _ => heap_alloc_old w.drew _ hk⟩⟩
  · simp only [Array.size_append, List.size_toArray, size_zeroCells, hz1, hx, hl]
    omega
  · simp only [Array.toList_append, List.append_assoc]
    rw [← List.append_assoc, ← hlen]
    exact List.take_left
theorem run_append_M {t e : TypeId} (E : Elem P t e (.int .u8 0) 1 1) (base : Nat) (ty : TypeId) (v : Value) (n : Nat) (xs : List Value) (hown : ownsM w base e v n xs) (hv : v ≠ .slice none 0 0)
    (A : Option Addr) (m c : Nat) (news : List Value) (hl : news.length = m) (hm : A = none → m = 0) (hat : At w A news) (h1 : ∀ u ∈ news, u.oneCell' = true)
    (h63 : n + m ≤ maxLen) (hbytes : n + m ≤ 140737488355328) (hbase : base ≤ w.heap.size) :
    ∃ v' w', (Builtin.append_ #[t, t] ty #[v, .slice A m c]).run P w = .ok v' w' ∧ ownsM w' base e v' (n + m) (xs ++ news) ∧ w.grownBy w' v.ownBlock ∧ v' ≠ .slice none 0 0 := by
  obtain ⟨i, hi, hz, hs, hb⟩ := info_parts E.row
  rcases hown.2 with ⟨rfl, _⟩ | ⟨g, cap, cur, fz, rfl, hbg, hg, hfz, hnc, hcm, hcs, htake⟩
  · exact absurd rfl hv
  · rcases A with _ | ad
    · obtain rfl := hm rfl
      have hn : news = [] := List.eq_nil_of_length_eq_zero hl
      subst hn
      refine ⟨_, w, ?_, by simpa using hown, World.grownBy.refl w _, hv⟩
      simp [Builtin.append_, run_underlying E.und, sizeOf, typeInfo, hi, Builtin.lenOf, Builtin.firstCells, hnc, storeCells]
    · have hcells : ∀ j u, news[j]? = some u → w.cell? (ad.add j) = some u := by
        intro j u hj
        obtain ⟨b, off, h, hc⟩ := hat j u hj
        cases h
        have hadd : (⟨b, off, none⟩ : Addr).add j = ⟨b, off + j, none⟩ := by unfold Addr.add; split <;> simp_all
        rw [hadd]; exact hc
      by_cases hroom : n + m ≤ cap
      · have hf := run_firstCells_some (P := P) w 1 m ad m c news (by simpa using hl) hcells
        have hst := run_storeCells_M P g n e fz news 0 cur w hg hfz (by omega) h1
        simp only [Nat.add_zero, hl] at hst
        have r := room_M w hbg hg hfz hcm hcs htake hown.1 hl hroom
        refine ⟨_, _, ?_, r.1, r.2, by simp⟩
        rw [List.append_assoc] at hst ⊢
        simp [Builtin.append_, run_underlying E.und, sizeOf, typeInfo, hi, Builtin.lenOf, hroom, hf, Addr.add_lit, hs, hst]
      · have hr := run_append_grow (P := P) w t ty e i (.int .u8 0) E.und hi hz ⟨g, 0, none⟩ n cap xs (by rw [hs]; simpa using hown.1) (hown.cells (g := g) rfl) ad m c news (by rw [hs]; simpa using hl) hcells (by omega) (by unfold maxLen at h63; omega) (growslice_fits (by omega) (by rw [hb]; omega))
        have r := grow_M w (e := e) (old := cap) hown.1 hl h63 hbase (Value.ownBlock (.slice (some ⟨g, 0, none⟩) n cap))
        exact ⟨_, _, hr, r.1, r.2, by simp⟩
theorem run_append_M_string {t u e : TypeId} (E : Elem P t e (.int .u8 0) 1 1) (hu : P.underlying u = some .string) (base : Nat) (ty : TypeId) (v : Value) (n : Nat) (xs : List Value) (hown : ownsM w base e v n xs) (hv : v ≠ .slice none 0 0) (s : ByteArray)
    (h63 : n + s.size ≤ maxLen) (hbytes : n + s.size ≤ 140737488355328) (hbase : base ≤ w.heap.size) :
    ∃ v' w', (Builtin.append_ #[t, u] ty #[v, .string s]).run P w = .ok v' w' ∧ ownsM w' base e v' (n + s.size) (xs ++ strCells s) ∧ w.grownBy w' v.ownBlock ∧ v' ≠ .slice none 0 0 := by
  obtain ⟨i, hi, hz, hs, hb⟩ := info_parts E.row
  rcases hown.2 with ⟨rfl, _⟩ | ⟨g, cap, cur, fz, rfl, hbg, hg, hfz, hnc, hcm, hcs, htake⟩
  · exact absurd rfl hv
  · have hl : (strCells s).length = s.size := strCells_length s
    by_cases hroom : n + s.size ≤ cap
    · have hf := run_firstCells_string (P := P) w 1 s
      have hst := run_storeCells_M P g n e fz (strCells s) 0 cur w hg hfz (by omega) (strCells_oneCell s)
      simp only [Nat.add_zero, hl] at hst
      have r := room_M w hbg hg hfz hcm hcs htake hown.1 hl hroom
      refine ⟨_, _, ?_, r.1, r.2, by simp⟩
      rw [List.append_assoc] at hst ⊢
      simp [Builtin.append_, run_underlying E.und, run_underlying hu, sizeOf, typeInfo, hi, hs, Builtin.lenOf, hroom, hf, Addr.add_lit, hst]
    · have hr := run_append_grow_string (P := P) w t u ty e i (.int .u8 0) E.und hu hi hz ⟨g, 0, none⟩ n cap xs (by rw [hs]; simpa using hown.1) (hown.cells (g := g) rfl) s (by omega) (by unfold maxLen at h63; omega) (growslice_fits (by omega) (by rw [hb]; omega))
      have r := grow_M w (e := e) (old := cap) hown.1 hl h63 hbase (Value.ownBlock (.slice (some ⟨g, 0, none⟩) n cap))
      exact ⟨_, _, hr, r.1, r.2, by simp⟩
theorem wpList_append_M {ops : Array Oper} {rest : List Oper} {o : Oper} {a : Act} {Q : Exit → Act → World → Prop} (hgd : o.guard = none) (s x : Operand) {t e : TypeId} (E : Elem P t e (.int .u8 0) 1 1)
    (ho : o.op = .call { callee := .builtin .append, args := #[s, x], argTypes := #[t, t] })
    (base : Nat) (v : Value) (n : Nat) (xs : List Value) (hs : a.eval s = v) (hown : ownsM w base e v n xs) (hv : v ≠ .slice none 0 0)
    (A : Option Addr) (m c : Nat) (news : List Value) (hx : a.eval x = .slice A m c) (hl : news.length = m) (hm : A = none → m = 0) (hat : At w A news) (h1 : ∀ u ∈ news, u.oneCell' = true)
    (h63 : n + m ≤ maxLen) (hbytes : n + m ≤ 140737488355328) (hbase : base ≤ w.heap.size)
    (h : ∀ v' w', ownsM w' base e v' (n + m) (xs ++ news) → Below base w w' → v' ≠ .slice none 0 0 → wpList P ops Q rest (a.put o.dst v') w') : wpList P ops Q (o :: rest) a w := by
  refine wpList_plain hgd fun K hK => ?_
  obtain ⟨v', w', hrun, h2, h3, h4⟩ := run_append_M (P := P) w E base o.type v n xs hown hv A m c news hl hm hat h1 h63 hbytes hbase
  unfold Oper.wp execOp
  simp only [ho, resolve, invoke, builtin, Sem.run_bind, Sem.run_pure, Result.andThen_ok, List.map_toArray, List.map_cons, List.map_nil, hs, hx, hrun]
  exact hK _ _ (h v' w' h2 ((Below.refl _ _).grown h3 hbase (fun k hk => hown.lt k hk)) h4)
theorem wpList_append_M_string {ops : Array Oper} {rest : List Oper} {o : Oper} {a : Act} {Q : Exit → Act → World → Prop} (hgd : o.guard = none) (s x : Operand) {t u e : TypeId} (E : Elem P t e (.int .u8 0) 1 1) (hu : P.underlying u = some .string)
    (ho : o.op = .call { callee := .builtin .append, args := #[s, x], argTypes := #[t, u] })
    (base : Nat) (v : Value) (n : Nat) (xs : List Value) (hs : a.eval s = v) (hown : ownsM w base e v n xs) (hv : v ≠ .slice none 0 0) (b : ByteArray) (hx : a.eval x = .string b)
    (h63 : n + b.size ≤ maxLen) (hbytes : n + b.size ≤ 140737488355328) (hbase : base ≤ w.heap.size)
    (h : ∀ v' w', ownsM w' base e v' (n + b.size) (xs ++ strCells b) → Below base w w' → v' ≠ .slice none 0 0 → wpList P ops Q rest (a.put o.dst v') w') : wpList P ops Q (o :: rest) a w := by
  refine wpList_plain hgd fun K hK => ?_
  obtain ⟨v', w', hrun, h2, h3, h4⟩ := run_append_M_string (P := P) w E hu base o.type v n xs hown hv b h63 hbytes hbase
  unfold Oper.wp execOp
  simp only [ho, resolve, invoke, builtin, Sem.run_bind, Sem.run_pure, Result.andThen_ok, List.map_toArray, List.map_cons, List.map_nil, hs, hx, hrun]
  exact hK _ _ (h v' w' h2 ((Below.refl _ _).grown h3 hbase (fun k hk => hown.lt k hk)) h4)
/-- '[]byte(s)' makes such a row -/
theorem run_bytes_M (src dst e : TypeId) (s : ByteArray) (hs : P.underlying src = some .string) (hd : P.underlying dst = some (.slice e)) (he : P.underlying e = some (.int .u8)) (h63 : s.size ≤ maxLen) (base : Nat) (hbase : base ≤ w.heap.size) :
    ∃ v w', (convert src dst (.string s)).run P w = .ok v w' ∧ ownsM w' base e v s.size (strCells s) ∧ Below w.heap.size w w' ∧ v ≠ .slice none 0 0 := by
  refine ⟨_, _, run_bytes_of_string w src dst e s hs hd he, ?_, ?_, by simp⟩
  · have hge := grownCap_ge w s.size 0 e
    have hcm : grownCap w s.size 0 e ≤ maxLen := grownCap_le_maxLen w s.size 0 e h63
    have hsz : (bytesRow s (grownCap w s.size 0 e)).size = grownCap w s.size 0 e := by
      unfold bytesRow
      simp only [Array.size_append, Array.size_map, Array.size_replicate]
      have : s.data.size = s.size := rfl
      omega
    refine ⟨strCells_length s, .inr ⟨w.heap.size, grownCap w s.size 0 e, bytesRow s (grownCap w s.size 0 e), ((bytesRow s (grownCap w s.size 0 e)).size, (bytesRow s (grownCap w s.size 0 e)).size + 1), rfl, hbase, ?_, .inl ?_, hge, hcm, hsz, ?_⟩⟩
    · exact heap_alloc_new w.drew _
    · exact Nat.le_refl _
    · unfold bytesRow strCells
      rw [Array.toList_append, List.take_left' (by simp)]
      simp
  · exact (Below.refl _ _).drew.alloc (Nat.le_refl _) _
end
end Go.Proofs.YtckcnenhnniogaaDoor.Bas
