/- A region that draws its order and whose operations read, or call functions that leave a class of worlds: one walk in the order of the text. No program in sight. -/
import Derived.Test.YtckcnenhnniogaaDoorBase
import Derived.Deep.Quiet
set_option linter.unusedSimpArgs false
set_option linter.unusedVariables false
namespace Go.Proofs.YtckcnenhnniogaaDoor.Bas
open Go Go.RowKit
/-- the walk that is left; a structure, so that nothing unfolds it -/
structure Kept (P : Program) (ops : Array Oper) (C : World → Prop) (Q : Act → Prop) (l : List Oper) (a : Act) : Prop where
  out : wpQuiet P ops C Q l a
/-- what one operation answers, in every world of the class -/
structure KeptAt (P : Program) (C : World → Prop) (o : Oper) (a : Act) (w : World) (v : Value) : Prop where
  out : o.quietAt P a C w v
section
variable {P : Program} {ops : Array Oper} {C : World → Prop} {Q : Act → Prop}
theorem kept_go {o : Oper} {rest : List Oper} {a : Act} (v : Value) (hw : Region.wanted o (yielded ops a.tmps) = true) (hv : ∀ w, C w → KeptAt P C o a w v) (h : Kept P ops C Q rest (a.put o.dst v)) : Kept P ops C Q (o :: rest) a := by
  refine ⟨?_⟩
  unfold wpQuiet
  rw [if_pos hw]
  exact ⟨v, fun w h => (hv w h).out, h.out⟩
theorem kept_skip {o : Oper} {rest : List Oper} {a : Act} (hw : Region.wanted o (yielded ops a.tmps) = false) (h : Kept P ops C Q rest (a.put o.dst undef)) : Kept P ops C Q (o :: rest) a := by
  refine ⟨?_⟩
  unfold wpQuiet
  rw [if_neg (by rw [hw]; decide)]
  exact h.out
theorem kept_end {a : Act} (h : Q a) : Kept P ops C Q [] a := ⟨h⟩
theorem kept_region {id : Nat} {Q : Exit → Act → World → Prop} {a : Act} {w : World} {l : List Oper} (C : World → Prop) (hm : P.follows .mixedOrders = true) (hB : Region.lexB .any l.toArray = true) (hC : C w.drew)
    (h : Kept P l.toArray C (fun a' => ∀ w', C w' → Q .normal a' w') l a) : (Code.region id l.toArray true).wp P Q a w :=
  wp_region_quiet (C := C) hm hB hC (by simpa using h.out)
end
end Go.Proofs.YtckcnenhnniogaaDoor.Bas
