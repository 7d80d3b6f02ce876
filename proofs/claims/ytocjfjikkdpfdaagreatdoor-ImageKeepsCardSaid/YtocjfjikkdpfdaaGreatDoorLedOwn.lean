/- A ledger whose lists are the call's own: each in a block of its own. -/
import Derived.Test.YtocjfjikkdpfdaaGreatDoorLedGoodMath
import Derived.Test.YtocjfjikkdpfdaaGreatDoorLedOpen
import Derived.Deep.Onto
set_option linter.unusedSimpArgs false
set_option linter.unusedVariables false
namespace Go.Proofs.YtocjfjikkdpfdaaGreatDoor.LedW
open Go.RowKit Go.Proofs.YtocjfjikkdpfdaaGreatDoor.Bas Go.Proofs.YtocjfjikkdpfdaaGreatDoor.LedM

/-- two rows: not one block -/
def Apart (u v : Value) : Prop := ∀ g, u.ownBlock = some g → v.ownBlock ≠ some g
structure LedOwn (base : Nat) (W : World) (s : Lists) (l : Led) (vs : List (Value × Acc)) : Prop where
  curs : W.ownsRow base 55 2 (.slice s.a1 l.curs.length s.c1) l.curs.length (l.curs.flatMap curC)
  unders : W.ownsRow base 57 4 (.slice s.a2 l.unders.length s.c2) l.unders.length (l.unders.flatMap undC)
  instrs : W.ownsRow base 60 7 (.slice s.a3 l.instrs.length s.c3) l.instrs.length (l.instrs.flatMap insC)
  accts : W.ownsRow base 46 4 (.slice s.a4 l.accts.length s.c4) l.accts.length (vs.flatMap accC)
  poss : W.ownsRow base 63 3 (.slice s.a5 l.poss.length s.c5) l.poss.length (l.poss.flatMap triC)
  orders : W.ownsRow base 65 5 (.slice s.a6 l.orders.length s.c6) l.orders.length (l.orders.flatMap ordC)
  avail : W.ownsRow base 3 1 (.slice s.a7 l.avail.length s.c7) l.avail.length (i64s l.avail)
  locs : W.ownsRow base 66 3 (.slice s.a8 l.locs.length s.c8) l.locs.length (l.locs.flatMap triC)
  each : vs.map (·.2) = l.accts
  cash : ∀ x ∈ vs, W.ownsRow base 3 1 x.1 x.2.cash.length (i64s x.2.cash)
  dist : vs.Pairwise fun x y => Apart x.1 y.1
  free : ∀ x ∈ vs, Apart (.slice s.a7 l.avail.length s.c7) x.1
theorem owns_at {W : World} {base : Nat} {e : TypeId} {size : Nat} {a : Option Addr} {n c : Nat} {xs : List Value} (h : W.ownsRow base e size (.slice a n c) n xs) : At W a xs ∧ n ≤ c := by
  obtain ⟨a', c', h1, _, h3, h4, _, _⟩ := at_of_owns h
  cases h1
  exact ⟨h4, h3⟩
theorem LedOwn.at_ {base : Nat} {W : World} {s : Lists} {l : Led} {vs : List (Value × Acc)} (h : LedOwn base W s l vs) : LedAt W s l vs :=
  ⟨(owns_at h.curs).1, (owns_at h.unders).1, (owns_at h.instrs).1, (owns_at h.accts).1, h.each, fun x hx => by
    obtain ⟨a, c, h1, _, h3, h4, _, _⟩ := at_of_owns (h.cash x hx)
    exact ⟨a, c, h1, h3, h4⟩, (owns_at h.poss).1, (owns_at h.orders).1, (owns_at h.avail).1, (owns_at h.locs).1,
    ⟨(owns_at h.curs).2, (owns_at h.unders).2, (owns_at h.instrs).2, (owns_at h.accts).2, (owns_at h.poss).2, (owns_at h.orders).2, (owns_at h.avail).2, (owns_at h.locs).2⟩⟩
theorem LedOwn.below {base : Nat} {A B : World} {s : Lists} {l : Led} {vs : List (Value × Acc)} (h : LedOwn base A s l vs) (b : Below A.heap.size A B) : LedOwn base B s l vs :=
  ⟨owns_below h.curs b, owns_below h.unders b, owns_below h.instrs b, owns_below h.accts b, owns_below h.poss b, owns_below h.orders b, owns_below h.avail b, owns_below h.locs b, h.each, fun x hx => owns_below (h.cash x hx) b, h.dist, h.free⟩
theorem LedOwn.mono {base base' : Nat} {A : World} {s : Lists} {l : Led} {vs : List (Value × Acc)} (h : LedOwn base A s l vs) (b : base' ≤ base) : LedOwn base' A s l vs :=
  ⟨h.curs.mono b, h.unders.mono b, h.instrs.mono b, h.accts.mono b, h.poss.mono b, h.orders.mono b, h.avail.mono b, h.locs.mono b, h.each, fun x hx => (h.cash x hx).mono b, h.dist, h.free⟩
/-- rows of two element types lie in two blocks -/
theorem own_kinds {W : World} {b b' : Nat} {e e' : TypeId} {z z' : Nat} {v v' : Value} {n n' : Nat} {xs xs' : List Value} (h : W.ownsRow b e z v n xs) (h' : W.ownsRow b' e' z' v' n' xs') (hne : e ≠ e') : Apart v v' := by
  intro g hg hg'
  rcases h.2 with ⟨rfl, _⟩ | ⟨g1, _, _, rfl, _, hh, _⟩
  · simp [Value.ownBlock] at hg
  · rcases h'.2 with ⟨rfl, _⟩ | ⟨g2, _, _, rfl, _, hh', _⟩
    · simp [Value.ownBlock] at hg'
    · simp [Value.ownBlock] at hg hg'
      subst hg hg'
      rw [hh] at hh'
      injection hh' with hh'
      injection hh' with _ ht
      exact hne ht
theorem own_far {W : World} {b : Nat} {e : TypeId} {z : Nat} {v : Value} {n : Nat} {xs : List Value} (h : W.ownsRow b e z v n xs) {g k : Nat} {u : Value} {v' : Value} (hv : v'.ownBlock = some g) (ha : Apart v v') : (W.setCell ⟨g, k, none⟩ u).ownsRow b e z v n xs := by
  refine h.kept (row := some g) ⟨rfl, rfl, rfl, by simp, fun j _ hj => heap_setCell_other W ⟨g, k, none⟩ j u (fun e => hj (by simp [e]))⟩ ?_
  cases hb : v.ownBlock with
  | none => exact .inl rfl
  | some g' =>
    refine .inr fun e => ?_
    cases e
    exact ha _ hb hv
theorem Apart.symm {u v : Value} (h : Apart u v) : Apart v u := fun g h1 h2 => h g h2 h1

/-- an account's cash in one currency -/
def putCash (a : Acc) (c : Nat) (x : Int) : Acc := { a with cash := a.cash.set c x }
def setCash (l : Led) (v c : Nat) (x : Int) : Led := { l with accts := l.accts.modify v fun a => putCash a c x }
theorem modify_map {α β : Type} (f : α → β) (g : α → α) (g' : β → β) (h : ∀ a, f (g a) = g' (f a)) : ∀ (l : List α) (k : Nat), (l.modify k g).map f = (l.map f).modify k g'
  | [], k => by cases k <;> simp
  | x :: l, 0 => by simp [h]
  | x :: l, k + 1 => by simp [modify_map f g g' h l k]
theorem mem_modify {α : Type} {g : α → α} : ∀ {l : List α} {k : Nat} {y : α}, y ∈ l.modify k g → y ∈ l ∨ ∃ x, l[k]? = some x ∧ y = g x
  | [], k, y, h => by cases k <;> simp at h
  | x :: l, 0, y, h => by
    simp at h
    rcases h with h | h
    · exact .inr ⟨x, rfl, h⟩
    · exact .inl (List.mem_cons_of_mem _ h)
  | x :: l, k + 1, y, h => by
    simp at h
    rcases h with h | h
    · exact .inl (by simp [h])
    · rcases mem_modify h with h | ⟨z, h1, h2⟩
      · exact .inl (List.mem_cons_of_mem _ h)
      · exact .inr ⟨z, by simpa using h1, h2⟩
def putV (c : Nat) (x : Int) (p : Value × Acc) : Value × Acc := (p.1, putCash p.2 c x)
theorem modify_cells (c : Nat) (x : Int) : ∀ (vs : List (Value × Acc)) (v : Nat), (vs.modify v (putV c x)).flatMap accC = vs.flatMap accC
  | [], v => by cases v <;> simp
  | p :: vs, 0 => by simp [putV, accC, putCash]
  | p :: vs, v + 1 => by simp [modify_cells c x vs v]
theorem modify_fst (c : Nat) (x : Int) : ∀ (vs : List (Value × Acc)) (v : Nat), (vs.modify v (putV c x)).map (·.1) = vs.map (·.1)
  | [], v => by cases v <;> simp
  | p :: vs, 0 => by simp [putV]
  | p :: vs, v + 1 => by simp [modify_fst c x vs v]
theorem i64s_set (l : List Int) (c : Nat) (x : Int) : i64s (l.set c x) = (i64s l).set c (.int .i64 x) := by unfold i64s; rw [List.map_set]
/-- one cell of cash is written -/
theorem LedOwn.put {base : Nat} {W : World} {s : Lists} {l : Led} {vs : List (Value × Acc)} (h : LedOwn base W s l vs) {v c : Nat} (hv : v < vs.length) (hc : c < vs[v].2.cash.length) (x : Int) :
    ∃ g cap, vs[v].1 = .slice (some ⟨g, 0, none⟩) vs[v].2.cash.length cap ∧ base ≤ g ∧ g < W.heap.size ∧ W.cell? ⟨g, c, none⟩ = some (.int .i64 (vs[v].2.cash.getD c 0)) ∧ W.frozen? ⟨g, c, none⟩ = false ∧
      LedOwn base (W.setCell ⟨g, c, none⟩ (.int .i64 x)) s (setCash l v c x) (vs.modify v (putV c x)) := by
  have hown := h.cash _ (List.getElem_mem hv)
  obtain ⟨g, cap, cur, e1, hb, hg, hn, hm, hs, ht⟩ : ∃ g cap cur, vs[v].1 = .slice (some ⟨g, 0, none⟩) vs[v].2.cash.length cap ∧ base ≤ g ∧ W.heap[g]? = some (.cells cur 3 (0, 0)) ∧ vs[v].2.cash.length ≤ cap ∧ cap ≤ maxLen ∧ cur.size = cap * 1 ∧ cur.toList.take (vs[v].2.cash.length * 1) = i64s vs[v].2.cash := by
    rcases hown.2 with ⟨_, h0⟩ | hr
    · omega
    · exact hr
  have ho : vs[v].1.ownBlock = some g := by rw [e1]; rfl
  have hr : W.ownsRow base 3 1 (.slice (some ⟨g, 0, none⟩) vs[v].2.cash.length cap) vs[v].2.cash.length (i64s vs[v].2.cash) := e1 ▸ hown
  have hcell := hr.cellAt c (by omega)
  rw [i64s_getD _ _ hc] at hcell
  have far : ∀ {b e z v' n xs}, W.ownsRow b e z v' n xs → Apart v' vs[v].1 → (W.setCell ⟨g, c, none⟩ (.int .i64 x)).ownsRow b e z v' n xs := fun hh ha => own_far hh ho ha
  refine ⟨g, cap, e1, hb, (Array.getElem?_eq_some_iff.1 hg).1, hcell, hr.frozenAt c, ?_⟩
  have hlen : (setCash l v c x).accts.length = l.accts.length := by simp [setCash]
  refine ⟨far h.curs (own_kinds h.curs hown (by decide)), far h.unders (own_kinds h.unders hown (by decide)), far h.instrs (own_kinds h.instrs hown (by decide)), ?_, far h.poss (own_kinds h.poss hown (by decide)), far h.orders (own_kinds h.orders hown (by decide)), far h.avail (h.free _ (List.getElem_mem hv)), far h.locs (own_kinds h.locs hown (by decide)), ?_, ?_, ?_, ?_⟩
  · rw [modify_cells, hlen]
    exact far h.accts (own_kinds h.accts hown (by decide))
  · show (vs.modify v (putV c x)).map (·.2) = l.accts.modify v _
    rw [modify_map (fun p : Value × Acc => p.2) (putV c x) (fun a => putCash a c x) (fun _ => rfl), h.each]
  · intro y hy
    obtain ⟨i, hi, rfl⟩ := List.getElem_of_mem hy
    have hi' : i < vs.length := by simpa using hi
    rw [List.getElem_modify]
    by_cases hiv : v = i
    · subst hiv
      rw [if_pos rfl]
      have h2 := (hr.stored c (.int .i64 x)).1
      rw [← i64s_set] at h2
      show (W.setCell ⟨g, c, none⟩ (.int .i64 x)).ownsRow base 3 1 vs[v].1 (vs[v].2.cash.set c x).length (i64s (vs[v].2.cash.set c x))
      rw [List.length_set, e1]
      exact h2
    · rw [if_neg hiv]
      refine far (h.cash _ (List.getElem_mem hi')) ?_
      have hp := List.pairwise_iff_getElem.1 h.dist
      rcases Nat.lt_or_gt_of_ne hiv with h1 | h1
      · exact (hp v i hv hi' h1).symm
      · exact hp i v hi' hv h1
  · have h1 : (vs.map (·.1)).Pairwise Apart := List.pairwise_map.2 h.dist
    rw [← modify_fst c x vs v] at h1
    exact List.pairwise_map.1 h1
  · intro y hy
    rcases mem_modify hy with h1 | ⟨z, h1, rfl⟩
    · exact h.free y h1
    · exact h.free z (List.mem_of_getElem? h1)
end Go.Proofs.YtocjfjikkdpfdaaGreatDoor.LedW
