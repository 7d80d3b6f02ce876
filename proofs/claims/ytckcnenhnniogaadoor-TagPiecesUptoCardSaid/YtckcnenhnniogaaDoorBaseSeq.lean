/- For loops over an iterator: boxes abide what the law turns; from 'Below' to 'KeepsOthers'. No program in sight. -/
import Derived.Test.YtckcnenhnniogaaDoorBaseRow
import Derived.RangeFuncNested
import Derived.RangeFuncBound
import Derived.RangeFuncCalls
import Derived.RangeFuncLeaves
import Derived.RangeFuncFrom
import Derived.RangeFuncBox
import Derived.Shelf.Abstract
import Derived.Shelf.RegionOpen
import Derived.OwnWalkIn
import Derived.TacticsInMore
import Derived.LoopNIn
import Derived.LoopIn
import Derived.IntWalk
set_option linter.unusedSimpArgs false
set_option linter.unusedVariables false
namespace Go.Proofs.YtckcnenhnniogaaDoor.Bas
open Go.RowKit Go.Shelf

theorem keeps_below {W W' : World} (h : Below W.heap.size W W') : KeepsOthers W W' :=
  ⟨h.size, fun k o hk _ => by rw [h.block k (Array.getElem?_eq_some_iff.1 hk).1]; exact hk⟩
theorem keeps_drewN (W : World) (n : Nat) : KeepsOthers W (W.drewN n) := ⟨Nat.le_refl _, fun _ _ h _ => h⟩
theorem Box.grown {W W' : World} {row : Option Nat} {g : Nat} {t : TypeId} {cs : Array Value} (h : Box W g t cs) (hg : W.grownBy W' row) (hr : ∀ r, row = some r → ∃ o : Obj, W.heap[r]? = some o ∧ o.isCells = false) : Box W' g t cs := by
  refine (hg.block g h.lt ?_).trans h
  intro e
  obtain ⟨o, ho, hc⟩ := hr g e.symm
  have := ho.symm.trans h
  cases this
  simp [Obj.isCells] at hc
theorem box_own {β : Type} (g : Nat) (t : TypeId) (cs : Array Value) (B : Nat) : OwnFrom B (fun (_ : β) W => Box W g t cs) :=
  fun _ _ _ _ hs hg hr => hs.grown hg (fun r e => (hr r e).2)
theorem own_pure {β : Type} (p : β → Prop) (B : Nat) : OwnFrom B (fun s (_ : World) => p s) := fun _ _ _ _ hs _ _ => hs
theorem own_false {β : Type} (B : Nat) : OwnFrom B (fun (_ : β) (_ : World) => False) := fun _ _ _ _ hs _ _ => hs
/-- the block of a loop's deferred calls, none of them there -/
def MarkAt (W : World) (D : Nat) : Prop := W.heap[D]? = some (.deferred (some []))
theorem MarkAt.keep {A B : World} {D : Nat} (h : MarkAt A D) (hk : KeepsOthers A B) : MarkAt B D := hk.same D _ h rfl
theorem MarkAt.below {A B : World} {D n : Nat} (h : MarkAt A D) (hb : Below n A B) (hD : D < n) : MarkAt B D := (hb.block D hD).trans h
theorem mark_own {β : Type} (D : Nat) {B : Nat} (hD : D < B) : OwnFrom B (fun (_ : β) W => MarkAt W D) := by
  intro s A C row hs hg hr
  refine (hg.block D (Array.getElem?_eq_some_iff.1 hs).1 ?_).trans hs
  intro e
  have := (hr D e.symm).1
  omega
/-- a function's return, its loops' marks behind it -/
theorem leave_marks {F : Fence} {n : Nat} {P : Program} {fn : Func} {tmps : Array Value} {R : Ending → World → Prop} {B : Nat} : ∀ (Ds : List Nat) (W : World), (∀ D ∈ Ds, B ≤ D) → Ds.Nodup → (∀ D ∈ Ds, MarkAt W D) →
    (∀ W', Below B W W' → (∀ g t cs, Box W g t cs → Box W' g t cs) → ∃ v, (results fn tmps).run P W' = .ok v W' ∧ R (.returned v) W') →
    LeavesInM F n P fn tmps R (Ds.map fun D => { target := .collected D, args := #[] }) .returning W
  | [], W, _, _, _, hR => by
    obtain ⟨v, hv, hr⟩ := hR W (Below.refl _ _) (fun _ _ _ h => h)
    exact ⟨v, hv, hr⟩
  | D :: Ds, W, hB, hn, hK, hR => by
    have hk := hK D List.mem_cons_self
    have hd := hB D List.mem_cons_self
    rw [List.nodup_cons] at hn
    refine ⟨by simp, .inl ⟨D, _, rfl, run_takeDeferred hk, ?_⟩⟩
    have hb : Below B W (W.putObj D (.deferred none)) := (Below.refl B W).grown (grownBy_putObj' W D _) (Nat.le_trans hd (Nat.le_of_lt (Array.getElem?_eq_some_iff.1 hk).1)) (fun k e => by cases e; exact hd)
    refine leave_marks Ds _ (fun E hE => hB E (List.mem_cons_of_mem _ hE)) hn.2 (fun E hE => ?_) (fun W' hb' hx => ?_)
    · exact (World.putObj_heap_other (fun e => hn.1 (by rw [e] at hE; exact hE))).trans (hK E (List.mem_cons_of_mem _ hE))
    · exact hR W' (hb.trans hb') (fun g t cs h => hx g t cs (h.grown (grownBy_putObj' W D (.deferred none)) (fun r e => by cases e; exact ⟨_, hk, rfl⟩)))
theorem below_drewN_l {B : Nat} (w : World) (n : Nat) : Below B w (w.drewN n) := ⟨rfl, rfl, rfl, Nat.le_refl _, fun _ _ => rfl⟩
end Go.Proofs.YtckcnenhnniogaaDoor.Bas
