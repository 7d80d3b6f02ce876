/- append onto a row of the call's own, at an operation by itself; what other rows and boxes make of it. No program in sight. -/
import Derived.Test.YtckcnenhnniogaaDoorBaseRow
import Derived.Deep.Onto
set_option linter.unusedSimpArgs false
set_option linter.unusedVariables false
namespace Go.Proofs.YtckcnenhnniogaaDoor.Bas
open Go.RowKit
/-- append at one operation: wpList_append_at's law, where no list of operations stands -/
theorem wp_append_at {P : Program} {w : World} {o : Oper} {a : Act} {K : Act → World → Prop} {Q : Exit → Act → World → Prop} (s x : Operand)
    {t e : TypeId} {z : Value} {size bytes : Nat} (E : Elem P t e z size bytes)
    (ho : o.op = .call { callee := .builtin .append, args := #[s, x], argTypes := #[t, t] })
    (base : Nat) (v : Value) (n : Nat) (xs : List Value) (hs : a.eval s = v) (hown : w.ownsRow base e size v n xs)
    (A : Option Addr) (m c : Nat) (news : List Value) (hx : a.eval x = .slice A m c) (hl : news.length = m * size) (hat : At w A news) (h1 : ∀ u ∈ news, u.oneCell' = true)
    (h63 : n + m ≤ maxLen) (hbytes : (n + m) * bytes ≤ 140737488355328) (hbase : base ≤ w.heap.size)
    (h : ∀ v' w', w'.ownsRow base e size v' (n + m) (xs ++ news) → Below base w w' → w.grownBy w' v.ownBlock → (v'.ownBlock = v.ownBlock ∨ v'.ownBlock = some w.heap.size) → K (a.put o.dst v') w') : o.wp P a w K Q := by
  obtain ⟨v', w', hrun, h2, h3, h4⟩ := run_append_at (P := P) w E base o.type v n xs hown A m c news hl hat h1 h63 hbytes hbase
  unfold Oper.wp execOp
  simp only [ho, resolve, invoke, builtin, Sem.run_bind, Sem.run_pure, Result.andThen_ok, List.map_toArray, List.map_cons, List.map_nil, hs, hx, hrun]
  exact h v' w' h2 ((Below.refl _ _).grown h3 hbase (fun k hk => (hown.lt k hk).1)) h3 h4
theorem box_grown {W W' : World} {g : Nat} {t : TypeId} {cs : Array Value} (h : Box W g t cs) {b : Nat} {e : TypeId} {z : Nat} {v : Value} {n : Nat} {xs : List Value} (ho : W.ownsRow b e z v n xs) (hne : e ≠ t) (hg : W.grownBy W' v.ownBlock) : Box W' g t cs := by
  refine (hg.block g h.lt fun e0 => ?_).trans h
  rcases ho.2 with ⟨rfl, _⟩ | ⟨g', _, _, rfl, _, hh, _⟩
  · simp [Value.ownBlock] at e0
  · simp [Value.ownBlock] at e0
    subst e0
    unfold Box at h
    rw [h] at hh
    injection hh with hh
    injection hh with _ ht
    exact hne ht.symm
end Go.Proofs.YtckcnenhnniogaaDoor.Bas
