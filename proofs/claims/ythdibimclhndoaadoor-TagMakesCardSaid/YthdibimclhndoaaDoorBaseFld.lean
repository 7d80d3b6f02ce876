/- Fields of frames: their cells; two lists of them held against one another. -/
import Derived.Test.YthdibimclhndoaaDoorBase
import Derived.Test.YthdibimclhndoaaDoorRows
import Derived.Laws.StructEq
import Derived.WalkSpells
import Derived.WalkLawsBesides
namespace Go.Proofs.YthdibimclhndoaaDoor.FldW
open Go.RowKit Go.Proofs.YthdibimclhndoaaDoor.Bas

abbrev Fld := Int × List UInt8
def fcell (f : Fld) : List Value := [.int .i64 f.1, .string ⟨f.2.toArray⟩]
def fcells (fs : List Fld) : List Value := fs.flatMap fcell
theorem fcells_len (fs : List Fld) : (fcells fs).length = fs.length * 2 := by
  unfold fcells
  induction fs with
  | nil => rfl
  | cons f fs ih => rw [List.flatMap_cons, List.length_append, ih]; simp [fcell]; omega
theorem fcells_get : ∀ (fs : List Fld) (k j : Nat) (hk : k < fs.length), j < 2 → (fcells fs)[k * 2 + j]? = (fcell (fs[k]'hk))[j]?
  | [], k, j, hk, _ => by simp at hk
  | f :: fs, 0, j, hk, hj => by
    unfold fcells
    rw [List.flatMap_cons, Nat.zero_mul, Nat.zero_add, List.getElem?_append_left (by simp [fcell]; omega)]
    rfl
  | f :: fs, k + 1, j, hk, hj => by
    have ih := fcells_get fs k j (by simpa using hk) hj
    unfold fcells at ih ⊢
    rw [List.flatMap_cons, List.getElem?_append_right (by simp [fcell]; omega)]
    rw [show (k + 1) * 2 + j - (fcell f).length = k * 2 + j by simp [fcell]; omega, ih]
    rfl
theorem fcells_append (a b : List Fld) : fcells (a ++ b) = fcells a ++ fcells b := by unfold fcells; rw [List.flatMap_append]
theorem fcells_one (f : Fld) : fcells [f] = fcell f := by unfold fcells; simp
theorem one_fcells (fs : List Fld) : ∀ u ∈ fcells fs, u.oneCell' = true := by
  intro u hu
  unfold fcells at hu
  obtain ⟨f, _, hu⟩ := List.mem_flatMap.1 hu
  simp [fcell] at hu
  rcases hu with rfl | rfl <;> rfl
/-- the two cells of a field -/
theorem fld_at {w : World} {a : Option Addr} {fs : List Fld} (h : At w a (fcells fs)) (k : Nat) (hk : k < fs.length) :
    ∃ b off, a = some ⟨b, off, none⟩ ∧ w.cell? ⟨b, off + k * 2, none⟩ = some (.int .i64 (fs[k]'hk).1) ∧ w.cell? ⟨b, off + k * 2 + 1, none⟩ = some (.string ⟨(fs[k]'hk).2.toArray⟩) := by
  obtain ⟨b, off, rfl, c0⟩ := h (k * 2 + 0) _ (fcells_get fs k 0 hk (by omega))
  obtain ⟨_, _, h1, c1⟩ := h (k * 2 + 1) _ (fcells_get fs k 1 hk (by omega))
  cases h1
  refine ⟨b, off, rfl, ?_, ?_⟩
  · simpa using c0
  · rw [← Nat.add_assoc] at c1; exact c1
theorem elemF : Elem Tryd.prog 22 31 (.agg #[.int .i64 0, .string ⟨#[]⟩]) 2 24 := ⟨Tryd.underlying22, by kernel_rfl, rfl, by decide⟩
theorem take_eq_succF (xs ys : List Fld) (k : Nat) (hx : k < xs.length) (hy : k < ys.length) : xs.take (k + 1) = ys.take (k + 1) ↔ xs.take k = ys.take k ∧ xs[k] = ys[k] := by
  rw [List.take_succ_eq_append_getElem hx, List.take_succ_eq_append_getElem hy]
  constructor
  · intro h
    have := List.append_inj h (by simp; omega)
    exact ⟨this.1, by simpa using this.2⟩
  · rintro ⟨h1, h2⟩
    rw [h1, h2]
theorem ret_boolF {a b : Bool} (h : a = b) : Ending.returned (.bool a) = .returned (.bool b) := by rw [h]

theorem neq_fld (W : World) (x1 y1 : Int) (x2 y2 : List UInt8) : (binOp .neq 31 (.agg #[.int .i64 x1, .string ⟨x2.toArray⟩]) (.agg #[.int .i64 y1, .string ⟨y2.toArray⟩])).run Tryd.prog W = .ok (.bool (!(x1 == y1 && x2 == y2))) W := by
  by_cases h1 : x1 = y1
  · subst h1
    by_cases h2 : x2 = y2
    · subst h2
      simp [go_sem]
    · simp [go_sem, h2]
  · simp [go_sem, h1]
end Go.Proofs.YthdibimclhndoaaDoor.FldW
