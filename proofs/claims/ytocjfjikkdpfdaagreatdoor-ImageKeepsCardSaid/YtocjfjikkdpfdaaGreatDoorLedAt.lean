/- A ledger in memory. -/
import Derived.Test.YtocjfjikkdpfdaaGreatDoorLedMath
set_option linter.unusedSimpArgs false
set_option linter.unusedVariables false
namespace Go.Proofs.YtocjfjikkdpfdaaGreatDoor.LedM
open Go Go.RowKit Go.Proofs.YtocjfjikkdpfdaaGreatDoor.Bas

/-- an account's cash -/
def CashAt (W : World) (x : Value × Acc) : Prop := ∃ a cap, x.1 = .slice a x.2.cash.length cap ∧ x.2.cash.length ≤ cap ∧ At W a (i64s x.2.cash)
theorem CashAt.keep {A B : World} {x : Value × Acc} (h : CashAt A x) (b : Below A.heap.size A B) : CashAt B x := by
  obtain ⟨a, cap, h1, h2, h3⟩ := h
  exact ⟨a, cap, h1, h2, h3.keep b⟩
/-- where a ledger's lists lie, and their capacities -/
structure Lists where
  a1 : Option Addr
  c1 : Nat
  a2 : Option Addr
  c2 : Nat
  a3 : Option Addr
  c3 : Nat
  a4 : Option Addr
  c4 : Nat
  a5 : Option Addr
  c5 : Nat
  a6 : Option Addr
  c6 : Nat
  a7 : Option Addr
  c7 : Nat
  a8 : Option Addr
  c8 : Nat
def ledV (s : Lists) (l : Led) : Value := .agg #[.int .i64 l.day, .slice s.a1 l.curs.length s.c1, .slice s.a2 l.unders.length s.c2, .slice s.a3 l.instrs.length s.c3, .slice s.a4 l.accts.length s.c4, .slice s.a5 l.poss.length s.c5, .slice s.a6 l.orders.length s.c6, .slice s.a7 l.avail.length s.c7, .slice s.a8 l.locs.length s.c8]
/-- a ledger in memory -/
structure LedAt (W : World) (s : Lists) (l : Led) (vs : List (Value × Acc)) : Prop where
  curs : At W s.a1 (l.curs.flatMap curC)
  unders : At W s.a2 (l.unders.flatMap undC)
  instrs : At W s.a3 (l.instrs.flatMap insC)
  accts : At W s.a4 (vs.flatMap accC)
  each : vs.map (·.2) = l.accts
  cash : ∀ x ∈ vs, CashAt W x
  poss : At W s.a5 (l.poss.flatMap triC)
  orders : At W s.a6 (l.orders.flatMap ordC)
  avail : At W s.a7 (i64s l.avail)
  locs : At W s.a8 (l.locs.flatMap triC)
  caps : l.curs.length ≤ s.c1 ∧ l.unders.length ≤ s.c2 ∧ l.instrs.length ≤ s.c3 ∧ l.accts.length ≤ s.c4 ∧ l.poss.length ≤ s.c5 ∧ l.orders.length ≤ s.c6 ∧ l.avail.length ≤ s.c7 ∧ l.locs.length ≤ s.c8
theorem LedAt.keep {A B : World} {s : Lists} {l : Led} {vs : List (Value × Acc)} (h : LedAt A s l vs) (b : Below A.heap.size A B) : LedAt B s l vs :=
  ⟨h.curs.keep b, h.unders.keep b, h.instrs.keep b, h.accts.keep b, h.each, fun x hx => (h.cash x hx).keep b, h.poss.keep b, h.orders.keep b, h.avail.keep b, h.locs.keep b, h.caps⟩

end Go.Proofs.YtocjfjikkdpfdaaGreatDoor.LedM
