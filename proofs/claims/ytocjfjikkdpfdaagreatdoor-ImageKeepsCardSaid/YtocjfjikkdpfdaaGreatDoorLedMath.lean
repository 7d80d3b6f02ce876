/- A ledger as plain data: its records' cells, what positions, orders and reservations can be. No program in sight. -/
import Derived.Test.YtocjfjikkdpfdaaGreatDoorBaseRows
set_option linter.unusedSimpArgs false
set_option linter.unusedVariables false
namespace Go.Proofs.YtocjfjikkdpfdaaGreatDoor.LedM
open Go Go.RowKit Go.Proofs.YtocjfjikkdpfdaaGreatDoor.Bas

structure Und where
  name : List UInt8
  cur : Int
  price : Int
  vol : Int
deriving DecidableEq
structure Ins where
  kind : Int
  under : Int
  mult : Int
  strike : Int
  expiry : Int
  call : Bool
  mark : Int
deriving DecidableEq
structure Acc where
  parent : Int
  cash : List Int
  flag : Bool
  last : Int
deriving DecidableEq
abbrev Tri := Int × Int × Int
structure Ord where
  acct : Int
  id : Int
  instr : Int
  qty : Int
  price : Int
deriving DecidableEq
structure Led where
  day : Int
  curs : List (Int × Int)
  unders : List Und
  instrs : List Ins
  accts : List Acc
  poss : List Tri
  orders : List Ord
  avail : List Int
  locs : List Tri
deriving DecidableEq
def curC (c : Int × Int) : List Value := [.int .i64 c.1, .int .i64 c.2]
def undC (u : Und) : List Value := [.string ⟨u.name.toArray⟩, .int .i64 u.cur, .int .i64 u.price, .int .i64 u.vol]
def insC (i : Ins) : List Value := [.int .i64 i.kind, .int .i64 i.under, .int .i64 i.mult, .int .i64 i.strike, .int .i64 i.expiry, .bool i.call, .int .i64 i.mark]
/-- an account's cells: its cash lies elsewhere -/
def accC (x : Value × Acc) : List Value := [.int .i64 x.2.parent, x.1, .bool x.2.flag, .int .i64 x.2.last]
def triC (p : Tri) : List Value := [.int .i64 p.1, .int .i64 p.2.1, .int .i64 p.2.2]
def ordC (o : Ord) : List Value := [.int .i64 o.acct, .int .i64 o.id, .int .i64 o.instr, .int .i64 o.qty, .int .i64 o.price]

theorem flat_cell {α : Type} {f : α → List Value} {n : Nat} (hf : ∀ x, (f x).length = n) : ∀ {l : List α} {k c : Nat} (hk : k < l.length) (_ : c < n), (l.flatMap f)[k * n + c]? = (f l[k])[c]?
  | [], k, c, hk, _ => absurd hk (Nat.not_lt_zero _)
  | x :: l, 0, c, hk, hc => by
    rw [List.flatMap_cons, Nat.zero_mul, Nat.zero_add, List.getElem?_append_left (by rw [hf]; exact hc)]
    rfl
  | x :: l, k + 1, c, hk, hc => by
    rw [List.flatMap_cons, List.getElem?_append_right (by rw [hf, Nat.succ_mul]; omega), hf, show (k + 1) * n + c - n = k * n + c by rw [Nat.succ_mul]; omega]
    exact flat_cell hf (l := l) (by simpa using hk) hc
theorem flat_take {α : Type} {f : α → List Value} {n : Nat} (hf : ∀ x, (f x).length = n) : ∀ (l : List α) (k : Nat), (l.take k).flatMap f = (l.flatMap f).take (k * n)
  | [], k => by simp
  | x :: l, 0 => by simp
  | x :: l, k + 1 => by
    have h1 : (f x).take ((k + 1) * n) = f x := List.take_of_length_le (by rw [hf, Nat.succ_mul]; omega)
    rw [List.take_succ_cons, List.flatMap_cons, List.flatMap_cons, flat_take hf l k, List.take_append, h1, hf, show (k + 1) * n - n = k * n by rw [Nat.succ_mul]; omega]
theorem flat_len {α : Type} {f : α → List Value} {n : Nat} (hf : ∀ x, (f x).length = n) (l : List α) : (l.flatMap f).length = l.length * n := by
  induction l with
  | nil => simp
  | cons x l ih => rw [List.flatMap_cons, List.length_append, hf, ih, List.length_cons, Nat.succ_mul]; omega
/-- a record's cells, one by one -/
theorem rec_at {α : Type} {f : α → List Value} {n : Nat} (hf : ∀ x, (f x).length = n) (hn : 0 < n) {W : World} {a : Option Addr} {l : List α} (h : At W a (l.flatMap f)) {k : Nat} (hk : k < l.length) :
    ∃ b off, a = some ⟨b, off, none⟩ ∧ ∀ c u, (f l[k])[c]? = some u → W.cell? ⟨b, off + (k * n + c), none⟩ = some u := by
  have h0 : ∃ u, (f l[k])[0]? = some u := ⟨_, List.getElem?_eq_getElem (by rw [hf]; exact hn)⟩
  obtain ⟨u0, hu0⟩ := h0
  obtain ⟨b, off, rfl, _⟩ := h (k * n + 0) u0 (by rw [flat_cell hf hk hn]; exact hu0)
  refine ⟨b, off, rfl, fun c u hu => ?_⟩
  have hc : c < n := by
    rw [← hf l[k]]
    exact (List.getElem?_eq_some_iff.1 hu).1
  obtain ⟨b', off', e, hc0⟩ := h (k * n + c) u (by rw [flat_cell hf hk hc]; exact hu)
  cases e
  exact hc0
/-! ### what can be -/
def MaxQty : Int := 1000000000
/-- one key stands ahead of another -/
def ahead (p q : Int × Int) : Prop := p.1 < q.1 ∨ (p.1 = q.1 ∧ p.2 < q.2)
instance (p q : Int × Int) : Decidable (ahead p q) := by unfold ahead; infer_instance
/-- keys that rise -/
def rising : List (Int × Int) → Bool
  | [] => true
  | [_] => true
  | p :: q :: r => decide (ahead p q) && rising (q :: r)
theorem rising_iff : ∀ {l : List (Int × Int)}, rising l = true ↔ ∀ i, (h : i + 1 < l.length) → ahead l[i] l[i + 1]
  | [] => by simp [rising]
  | [p] => by simp [rising]
  | p :: q :: r => by
    unfold rising
    rw [Bool.and_eq_true, decide_eq_true_eq, rising_iff (l := q :: r)]
    constructor
    · rintro ⟨h1, h2⟩ i hi
      cases i with
      | zero => exact h1
      | succ i => exact h2 i (by simpa using hi)
    · intro h
      exact ⟨h 0 (by simp), fun i hi => h (i + 1) (by simpa using hi)⟩
/-- may the account trade, is there such an instrument? -/
def posOk (n k : Int) (p : Tri) : Bool := decide (2 ≤ p.1 ∧ p.1 < n ∧ 0 ≤ p.2.1 ∧ p.2.1 < k ∧ p.2.2 ≠ 0 ∧ -MaxQty ≤ p.2.2 ∧ p.2.2 ≤ MaxQty)
def possF (l : List Tri) (n k : Int) : Bool := decide (l.length ≤ 64) && rising (l.map fun p => (p.1, p.2.1)) && l.all (posOk n k)
def ordOk (n k : Int) (o : Ord) : Bool := decide (2 ≤ o.acct ∧ o.acct < n ∧ 1 ≤ o.id ∧ o.id ≤ 1099511627776 ∧ 0 ≤ o.instr ∧ o.instr < k ∧ o.qty ≠ 0 ∧ -MaxQty ≤ o.qty ∧ o.qty ≤ MaxQty ∧ 1 ≤ o.price ∧ o.price ≤ 100000000000000)
def ordersF (l : List Ord) (n k : Int) : Bool := decide (l.length ≤ 32) && rising (l.map fun o => (o.acct, o.id)) && l.all (ordOk n k)
def locOk (n k : Int) (p : Tri) : Bool := decide (2 ≤ p.1 ∧ p.1 < n ∧ 0 ≤ p.2.1 ∧ p.2.1 < k ∧ 1 ≤ p.2.2 ∧ p.2.2 ≤ MaxQty)
def locsF (av : List Int) (l : List Tri) (n k : Int) : Bool := decide ((av.length : Int) = k) && decide (l.length ≤ 32) && av.all (fun q => decide (0 ≤ q ∧ q ≤ MaxQty)) && rising (l.map fun p => (p.1, p.2.1)) && l.all (locOk n k)
theorem posOk_iff (n k a b c : Int) : posOk n k (a, b, c) = true ↔ 2 ≤ a ∧ a < n ∧ 0 ≤ b ∧ b < k ∧ c ≠ 0 ∧ -1000000000 ≤ c ∧ c ≤ 1000000000 := by unfold posOk MaxQty; rw [decide_eq_true_eq]
theorem ordOk_iff (n k a b c d e : Int) : ordOk n k ⟨a, b, c, d, e⟩ = true ↔ 2 ≤ a ∧ a < n ∧ 1 ≤ b ∧ b ≤ 1099511627776 ∧ 0 ≤ c ∧ c < k ∧ d ≠ 0 ∧ -1000000000 ≤ d ∧ d ≤ 1000000000 ∧ 1 ≤ e ∧ e ≤ 100000000000000 := by unfold ordOk MaxQty; rw [decide_eq_true_eq]
theorem locOk_iff (n k a b c : Int) : locOk n k (a, b, c) = true ↔ 2 ≤ a ∧ a < n ∧ 0 ≤ b ∧ b < k ∧ 1 ≤ c ∧ c ≤ 1000000000 := by unfold locOk MaxQty; rw [decide_eq_true_eq]
/-- the sum of an account's field over a list, as Total adds it: 'none' where it can't be told -/
def firstL : Led := ⟨0, [(1000000, 0)], [], [], [⟨-1, [0], false, 0⟩, ⟨-1, [0], false, 0⟩], [], [], [], []⟩
end Go.Proofs.YtocjfjikkdpfdaaGreatDoor.LedM
