/- A ledger of the call's own, an account more; the document's First. -/
import Derived.Test.YtocjfjikkdpfdaaGreatDoorLedFirst
import Derived.Test.YtocjfjikkdpfdaaGreatDoorBaseApp
set_option linter.unusedSimpArgs false
set_option linter.unusedVariables false
namespace Go.Proofs.YtocjfjikkdpfdaaGreatDoor.LedW
open Go.RowKit Go.Proofs.YtocjfjikkdpfdaaGreatDoor.Bas Go.Proofs.YtocjfjikkdpfdaaGreatDoor.LedM

theorem own_grown {W W' : World} {b : Nat} {e : TypeId} {z : Nat} {v v' : Value} {n : Nat} {xs : List Value} (h : W.ownsRow b e z v n xs) (hg : W.grownBy W' v'.ownBlock) (ha : Apart v v') : W'.ownsRow b e z v n xs := by
  refine h.kept hg ?_
  cases hb : v.ownBlock with
  | none => exact .inl rfl
  | some g =>
    refine .inr fun e => ?_
    exact ha g hb e.symm
/-- the list of accounts has grown by one whose cash lies by itself -/
theorem LedOwn.push {base : Nat} {W W' : World} {s : Lists} {l : Led} {us : List (Value × Acc)} (h : LedOwn base W s l us) {cv : Value} {a : Acc} (hc : W.ownsRow base 3 1 cv a.cash.length (i64s a.cash)) (hx : ∀ x ∈ us, Apart x.1 cv) (hv : Apart (.slice s.a7 l.avail.length s.c7) cv)
    {n4 : Option Addr} {k4 : Nat} (hown : W'.ownsRow base 46 4 (.slice n4 (l.accts.length + 1) k4) (l.accts.length + 1) (us.flatMap accC ++ accC (cv, a))) (hg : W.grownBy W' (Value.slice s.a4 l.accts.length s.c4).ownBlock) :
    LedOwn base W' { s with a4 := n4, c4 := k4 } { l with accts := l.accts ++ [a] } (us ++ [(cv, a)]) := by
  have far : ∀ {b e z v' n xs}, W.ownsRow b e z v' n xs → e ≠ 46 → W'.ownsRow b e z v' n xs := fun hh hne => own_grown hh hg (own_kinds hh h.accts hne)
  refine ⟨far h.curs (by decide), far h.unders (by decide), far h.instrs (by decide), ?_, far h.poss (by decide), far h.orders (by decide), far h.avail (by decide), far h.locs (by decide), ?_, ?_, ?_, ?_⟩
  · show W'.ownsRow base 46 4 (.slice n4 (l.accts ++ [a]).length k4) (l.accts ++ [a]).length ((us ++ [(cv, a)]).flatMap accC)
    rw [List.length_append, List.flatMap_append]
    simpa using hown
  · show (us ++ [(cv, a)]).map (·.2) = l.accts ++ [a]
    rw [List.map_append, h.each]; rfl
  · intro x hx
    rcases List.mem_append.1 hx with hx | hx
    · exact far (h.cash x hx) (by decide)
    · rw [List.mem_singleton.1 hx]
      exact far hc (by decide)
  · rw [List.pairwise_append]
    exact ⟨h.dist, by simp, fun x hx' y hy => by rw [List.mem_singleton.1 hy]; exact hx x hx'⟩
  · intro x hx'
    rcases List.mem_append.1 hx' with hx' | hx'
    · exact h.free x hx'
    · rw [List.mem_singleton.1 hx']; exact hv
theorem apart_new {W : World} {b b' : Nat} {e e' : TypeId} {z z' : Nat} {v v' : Value} {n n' : Nat} {xs xs' : List Value} (h : W.ownsRow b e z v n xs) {W' : World} (h' : W'.ownsRow b' e' z' v' n' xs') (hb : W.heap.size ≤ b') : Apart v v' := fun g h1 h2 => by
  have a1 := (h.lt g h1).2
  have a2 := (h'.lt g h2).1
  omega
/-- the document's beginning, as far as it has come -/
def rfirstL (k : Nat) : Led := ⟨0, [(1000000, 0)], [], [], List.replicate k ⟨-1, [0], false, 0⟩, [], [], [], []⟩
end Go.Proofs.YtocjfjikkdpfdaaGreatDoor.LedW
