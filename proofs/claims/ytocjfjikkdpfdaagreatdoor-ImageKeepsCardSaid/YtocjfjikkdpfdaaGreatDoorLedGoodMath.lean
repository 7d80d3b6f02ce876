/- What can be a ledger; a ledger's box. -/
import Derived.Test.YtocjfjikkdpfdaaGreatDoorLedBook
import Derived.Test.YtocjfjikkdpfdaaGreatDoorLedAt
import Derived.Test.YtocjfjikkdpfdaaGreatDoorRefThing
import Derived.Test.YtocjfjikkdpfdaaGreatDoorTreeWalks
set_option linter.unusedSimpArgs false
set_option linter.unusedVariables false
namespace Go.Proofs.YtocjfjikkdpfdaaGreatDoor.LedW
open Go.RowKit Go.Proofs.YtocjfjikkdpfdaaGreatDoor.Bas Go.Proofs.YtocjfjikkdpfdaaGreatDoor.LedM Go.Proofs.YtocjfjikkdpfdaaGreatDoor.RefW

/-- what holds of each element and its place -/
def allI {α : Type} (f : Nat → α → Bool) : Nat → List α → Bool
  | _, [] => true
  | n, x :: l => f n x && allI f (n + 1) l
theorem allI_append {α : Type} (f : Nat → α → Bool) : ∀ (n : Nat) (l m : List α), allI f n (l ++ m) = (allI f n l && allI f (n + l.length) m)
  | n, [], m => by simp [allI]
  | n, x :: l, m => by
    simp only [List.cons_append, allI, allI_append f (n + 1) l m, Bool.and_assoc, List.length_cons]
    rw [show n + 1 + l.length = n + (l.length + 1) by omega]
theorem allI_next {α : Type} {f : Nat → α → Bool} {l : List α} {k : Nat} (hk : k < l.length) (h : allI f 0 (l.take k) = true) (h2 : f k l[k] = true) : allI f 0 (l.take (k + 1)) = true := by
  rw [List.take_succ_eq_append_getElem hk, allI_append, h, Bool.true_and, List.length_take, Nat.zero_add, Nat.min_eq_left (by omega)]
  simp [allI, h2]
theorem allI_bad {α : Type} {f : Nat → α → Bool} {l : List α} {k : Nat} (hk : k < l.length) (h2 : f k l[k] = false) : allI f 0 l = false := by
  have e : l = l.take k ++ l[k] :: l.drop (k + 1) := by
    rw [← List.drop_eq_getElem_cons hk, List.take_append_drop]
  rw [e, allI_append, List.length_take, Nat.zero_add, Nat.min_eq_left (by omega)]
  simp [allI, h2]
theorem allI_at {α : Type} {f : Nat → α → Bool} {l : List α} (h : allI f 0 l = true) {k : Nat} (hk : k < l.length) : f k l[k] = true := by
  cases hb : f k l[k] with
  | true => rfl
  | false => rw [allI_bad hk hb] at h; cases h
def curOk (n : Nat) (c : Int × Int) : Bool := curF c.1 c.2 n
def undOk (n : Nat) (u : Und) : Bool := underF ⟨u.name.toArray⟩ u.cur u.price u.vol n
def insOk (n : Nat) (i : Ins) : Bool := instrF i.kind i.under i.mult i.strike i.expiry i.call i.mark n
/-- underlyings that can be, each by a name of its own -/
def undB (n : Nat) (us : List Und) : Bool := us.all (undOk n) && decide ((us.map Und.name).Nodup)
theorem undB_next {n : Nat} {us : List Und} {k : Nat} (hk : k < us.length) (h : undB n (us.take k) = true) (h1 : undOk n us[k] = true) (h2 : us[k].name ∉ (us.take k).map Und.name) : undB n (us.take (k + 1)) = true := by
  unfold undB at h ⊢
  rw [Bool.and_eq_true, decide_eq_true_eq] at h
  rw [List.take_succ_eq_append_getElem hk, List.all_append, h.1, Bool.true_and, Bool.and_eq_true, decide_eq_true_eq, List.map_append]
  refine ⟨by simp [h1], ?_⟩
  rw [List.nodup_append]
  refine ⟨h.2, by simp, ?_⟩
  intro a ha b hb
  simp at hb
  subst hb
  intro e
  exact h2 (e ▸ ha)
theorem undB_bad {n : Nat} {us : List Und} {k : Nat} (hk : k < us.length) (h1 : undOk n us[k] = false) : undB n us = false := by
  unfold undB
  have : us.all (undOk n) = false := List.all_eq_false.2 ⟨_, List.getElem_mem hk, by simp [h1]⟩
  rw [this, Bool.false_and]
theorem undB_twice {n : Nat} {us : List Und} {k : Nat} (hk : k < us.length) (h2 : us[k].name ∈ (us.take k).map Und.name) : undB n us = false := by
  unfold undB
  rw [Bool.and_eq_false_iff]
  right
  rw [decide_eq_false_iff_not]
  intro h
  have e : us.map Und.name = (us.take k).map Und.name ++ us[k].name :: (us.drop (k + 1)).map Und.name := by
    rw [← List.map_cons, ← List.map_append, ← List.drop_eq_getElem_cons hk, List.take_append_drop]
  rw [e, List.nodup_append] at h
  exact h.2.2 _ h2 _ List.mem_cons_self rfl
theorem undB_nil (n : Nat) : undB n [] = true := rfl
theorem named_iff (us : List Und) (nm : List UInt8) : decide (0 ≤ idxF (fun u : Und => decide (u.name = nm)) us) = decide (nm ∈ us.map Und.name) := by
  rw [idxF_any, Bool.eq_iff_iff, List.any_eq_true, decide_eq_true_eq, List.mem_map]
  simp
def thingsF (l : Led) : Bool := decide (1 ≤ l.curs.length ∧ l.curs.length ≤ 4 ∧ l.unders.length ≤ 6 ∧ l.instrs.length ≤ 12) && (allI curOk 0 l.curs && (undB l.curs.length l.unders && l.instrs.all (insOk l.unders.length)))
/-- can the account be, with so many currencies? -/
def accOk (c n : Nat) (a : Acc) : Bool := decide (a.cash.length = c ∧ 0 ≤ a.last ∧ a.last ≤ 1099511627776 ∧ (n ≤ 1 → a.flag = false ∧ a.last = 0)) && a.cash.all FixpM.fits
def parents (l : Led) : List Int := l.accts.map Acc.parent
def accountsF (l : Led) : Bool := decide ((TreeM.checkF (parents l)).2 = 0) && allI (accOk l.curs.length) 0 l.accts
def lastOf (xs : List Acc) (v : Int) : Int := ((xs[v.toNat]?).map Acc.last).getD 0
def idOk (l : Led) (o : Ord) : Bool := decide (o.id ≤ lastOf l.accts o.acct)
def goodF (l : Led) : Bool := decide (0 ≤ l.day ∧ l.day ≤ 100000) && (thingsF l && (accountsF l && (possF l.poss l.accts.length l.instrs.length && (ordersF l.orders l.accts.length l.instrs.length && (locsF l.avail l.locs l.accts.length l.instrs.length && l.orders.all (idOk l))))))

/-- a ledger that can be handed to the functions -/
structure LedFit (l : Led) : Prop where
  len : l.curs.length ≤ 1000000 ∧ l.unders.length ≤ 1000000 ∧ l.instrs.length ≤ 1000000 ∧ l.accts.length ≤ 1000000 ∧ l.poss.length ≤ 1000000 ∧ l.orders.length ≤ 1000000 ∧ l.avail.length ≤ 1000000 ∧ l.locs.length ≤ 1000000
  day : FixpW.I64 l.day
  curs : ∀ x ∈ l.curs, FixpW.I64 x.1 ∧ FixpW.I64 x.2
  unders : ∀ x ∈ l.unders, x.name.length ≤ 140737488351232 ∧ FixpW.I64 x.cur ∧ FixpW.I64 x.price ∧ FixpW.I64 x.vol
  instrs : ∀ x ∈ l.instrs, FixpW.I64 x.kind ∧ FixpW.I64 x.under ∧ FixpW.I64 x.mult ∧ FixpW.I64 x.strike ∧ FixpW.I64 x.expiry ∧ FixpW.I64 x.mark
  accts : ∀ x ∈ l.accts, FixpW.I64 x.parent ∧ FixpW.I64 x.last ∧ (∀ z ∈ x.cash, FixpW.I64 z) ∧ x.cash.length * 8 ≤ 140737488351232
  poss : ∀ x ∈ l.poss, FixpW.I64 x.1 ∧ FixpW.I64 x.2.1 ∧ FixpW.I64 x.2.2
  orders : ∀ x ∈ l.orders, FixpW.I64 x.acct ∧ FixpW.I64 x.id ∧ FixpW.I64 x.instr ∧ FixpW.I64 x.qty ∧ FixpW.I64 x.price
  avail : ∀ x ∈ l.avail, FixpW.I64 x
  locs : ∀ x ∈ l.locs, FixpW.I64 x.1 ∧ FixpW.I64 x.2.1 ∧ FixpW.I64 x.2.2

/-- the ledger's box and lists, in a world of the call's -/
structure LedH (w W : World) (g : Nat) (s : Lists) (l : Led) (vs : List (Value × Acc)) : Prop where
  box : Box W g 31 #[.int .i64 l.day, .slice s.a1 l.curs.length s.c1, .slice s.a2 l.unders.length s.c2, .slice s.a3 l.instrs.length s.c3, .slice s.a4 l.accts.length s.c4, .slice s.a5 l.poss.length s.c5, .slice s.a6 l.orders.length s.c6, .slice s.a7 l.avail.length s.c7, .slice s.a8 l.locs.length s.c8]
  at_ : LedAt W s l vs
  low : Below w.heap.size w W
section
variable {w A B : World} {g : Nat} {s : Lists} {l : Led} {vs : List (Value × Acc)}
theorem LedH.keep (h : LedH w A g s l vs) (b : Below A.heap.size A B) : LedH w B g s l vs := ⟨h.box.keep b, h.at_.keep b, h.low.trans (b.mono h.low.size)⟩
theorem LedH.drew (h : LedH w A g s l vs) : LedH w A.drew g s l vs := ⟨h.box, ⟨h.at_.curs, h.at_.unders, h.at_.instrs, h.at_.accts, h.at_.each, h.at_.cash, h.at_.poss, h.at_.orders, h.at_.avail, h.at_.locs, h.at_.caps⟩, h.low.drew⟩
theorem LedH.drewN (h : LedH w A g s l vs) (n : Nat) : LedH w (A.drewN n) g s l vs := ⟨h.box, ⟨h.at_.curs, h.at_.unders, h.at_.instrs, h.at_.accts, h.at_.each, h.at_.cash, h.at_.poss, h.at_.orders, h.at_.avail, h.at_.locs, h.at_.caps⟩, below_drewN h.low n⟩
theorem LedH.alloc (h : LedH w A g s l vs) (o : Obj) : LedH w (A.alloc o) g s l vs := h.keep ((Below.refl _ _).alloc (Nat.le_refl _) _)
theorem LedH.c0 (h : LedH w A g s l vs) : A.cell? ⟨g, 0, none⟩ = some (.int .i64 l.day) := h.box.cell 0
theorem LedH.c1 (h : LedH w A g s l vs) : A.cell? ⟨g, 1, none⟩ = some (.slice s.a1 l.curs.length s.c1) := h.box.cell 1
theorem LedH.c2 (h : LedH w A g s l vs) : A.cell? ⟨g, 2, none⟩ = some (.slice s.a2 l.unders.length s.c2) := h.box.cell 2
theorem LedH.c3 (h : LedH w A g s l vs) : A.cell? ⟨g, 3, none⟩ = some (.slice s.a3 l.instrs.length s.c3) := h.box.cell 3
theorem LedH.c4 (h : LedH w A g s l vs) : A.cell? ⟨g, 4, none⟩ = some (.slice s.a4 l.accts.length s.c4) := h.box.cell 4
theorem LedH.c5 (h : LedH w A g s l vs) : A.cell? ⟨g, 5, none⟩ = some (.slice s.a5 l.poss.length s.c5) := h.box.cell 5
theorem LedH.c6 (h : LedH w A g s l vs) : A.cell? ⟨g, 6, none⟩ = some (.slice s.a6 l.orders.length s.c6) := h.box.cell 6
theorem LedH.c7 (h : LedH w A g s l vs) : A.cell? ⟨g, 7, none⟩ = some (.slice s.a7 l.avail.length s.c7) := h.box.cell 7
theorem LedH.c8 (h : LedH w A g s l vs) : A.cell? ⟨g, 8, none⟩ = some (.slice s.a8 l.locs.length s.c8) := h.box.cell 8
theorem ledH_new (w : World) (s : Lists) (l : Led) (vs : List (Value × Acc)) (h : LedAt w s l vs) : LedH w (w.alloc (.cells #[.int .i64 l.day, .slice s.a1 l.curs.length s.c1, .slice s.a2 l.unders.length s.c2, .slice s.a3 l.instrs.length s.c3, .slice s.a4 l.accts.length s.c4, .slice s.a5 l.poss.length s.c5, .slice s.a6 l.orders.length s.c6, .slice s.a7 l.avail.length s.c7, .slice s.a8 l.locs.length s.c8] 31)) w.heap.size s l vs :=
  ⟨Box.new _ _ _, h.keep ((Below.refl _ _).alloc (Nat.le_refl _) _), (Below.refl _ _).alloc (Nat.le_refl _) _⟩
end
/-- a captured ledger: it stays -/
theorem ledH_keeps (w : World) (g : Nat) (s : Lists) (l : Led) (vs : List (Value × Acc)) : Keeps (fun W => LedH w W g s l vs) := fun _ _ h b => h.keep b
theorem LedAt.len {W : World} {s : Lists} {l : Led} {vs : List (Value × Acc)} (h : LedAt W s l vs) : vs.length = l.accts.length := by rw [← h.each, List.length_map]
theorem LedAt.acc {W : World} {s : Lists} {l : Led} {vs : List (Value × Acc)} (h : LedAt W s l vs) {k : Nat} (hk : k < vs.length) (hk2 : k < l.accts.length) : vs[k].2 = l.accts[k] := by
  have : (vs.map (·.2))[k]'(by simpa using hk) = l.accts[k] := by simp only [h.each]
  simpa using this
end Go.Proofs.YtocjfjikkdpfdaaGreatDoor.LedW
