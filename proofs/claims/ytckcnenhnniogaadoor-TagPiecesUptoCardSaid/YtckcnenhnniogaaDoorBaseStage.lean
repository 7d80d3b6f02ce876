/- A region that draws its order and writes: reads taken first, one by one, as long as a condition on the world abides; what writes comes up alone. From a number on the operations wait for all reads, and the condition isn't asked any more. No program in sight. -/
import Derived.Test.YtckcnenhnniogaaDoorBaseKept
import Derived.OrdersHeld
import Derived.StillTail
set_option linter.unusedSimpArgs false
set_option linter.unusedVariables false
namespace Go.Proofs.YtckcnenhnniogaaDoor.Bas
open Go Go.RowKit
section
variable {P : Program} {ops : Array Oper} {md : Region.Mode} {S : World → Prop} {Q : Exit → Act → World → Prop} {t : Nat}
def staged (P : Program) (md : Region.Mode) (ops : Array Oper) (Q : Exit → Act → World → Prop) (S : World → Prop) (t : Nat) : Nat → Array Bool → Act → World → Prop
  | 0, s, a, w => Region.ready md ops s = [] ∧ Q .normal a w
  | k + 1, s, a, w => (Region.ready md ops s = [] → Q .normal a w) ∧ ∀ i ∈ Region.ready md ops s, wpOp P ops Q i (fun a' w' => (i < t → S w') ∧ staged P md ops Q S t k (s.setIfInBounds i true) a' w') a w
theorem staged_any : ∀ (k : Nat) (s : Array Bool) (a : Act) (w : World), staged P md ops Q S t k s a w → wpAny P md ops Q k s a w := by
  intro k
  induction k with
  | zero => intro s a w h; exact h
  | succ k ih => intro s a w h; exact ⟨h.1, fun i hi => wpOp_mono (fun a' w' h' => ih _ a' w' h'.2) (h.2 i hi)⟩
/-- all from number t on wait for number i -/
def awaited (md : Region.Mode) (ops : Array Oper) (t i : Nat) : Bool := (List.range ops.size).all fun j => decide (j < t) || Region.waitsFor md ops j i
theorem awaited_spec {i j : Nat} (h : awaited md ops t i = true) (hj : j < ops.size) (ht : t ≤ j) : Region.waitsFor md ops j i = true := by
  have := List.all_eq_true.1 h j (List.mem_range.2 hj)
  simpa [Nat.not_lt.2 ht] using this
theorem staged_first {i : Nat} {o : Oper} {v : Value} (ho : ops[i]? = some o) (sel : ∀ (j : Nat) (o : Oper) cs b, ops[j]? = some o → o.op ≠ .select cs b)
    (hQ : ∀ c a w, Q (.panic c) (a.put o.dst v) w → Q (.panic c) a w) (hw : awaited md ops t i = true) :
    ∀ (k : Nat) (s : Array Bool) (a : Act) (w : World),
      (∀ j oj, ops[j]? = some oj → j ≠ i → s.getD j true = false → (∀ e ∈ oj.after, Region.binds md e = true → e.on ≠ i) → o.apart ops oj = true) →
      i ∈ Region.ready md ops s → YieldsIf P ops S o v a → S w → staged P md ops Q S t k (s.setIfInBounds i true) (a.put o.dst v) w → staged P md ops Q S t (k + 1) s a w := by
  intro k
  induction k with
  | zero =>
    intro s a w _ hr hy hS H
    refine ⟨fun h => absurd h (List.ne_nil_of_mem hr), fun j hj => ?_⟩
    rcases Nat.decEq j i with ne | rfl
    · have := ready_mono hj ne
      rw [H.1] at this
      cases this
    · exact hy.wpOp ho hS ⟨fun _ => hS, H⟩
  | succ k ih =>
    intro s a w free hr hy hS H
    refine ⟨fun h => absurd h (List.ne_nil_of_mem hr), fun j hj => ?_⟩
    rcases Nat.decEq j i with ne | rfl
    · obtain ⟨hun, oj, hoj, waits⟩ := mem_ready.1 hj
      have apart : ∀ e ∈ oj.after, Region.binds md e = true → e.on ≠ i := by
        intro e he hb heq
        have h1 := waits e he hb
        rw [heq, getD_both (mem_ready.1 hr).1] at h1
        exact Bool.noConfusion h1
      have low : j < t := Nat.lt_of_not_le fun h => by
        obtain ⟨o', ho', e, he, hb, hon⟩ := Region.waitsFor_spec (awaited_spec hw (Array.getElem?_eq_some_iff.1 hoj).1 h)
        cases hoj.symm.trans ho'
        exact apart e he hb hon
      have turn := wpOp_putIf hoj (free j oj hoj ne hun apart) (fun cs b => sel i o cs b ho) (fun cs b => sel j oj cs b hoj) hQ hy (H.2 j (ready_mono hj ne))
      refine wpOp_mono (fun a' w' h => ⟨fun _ => h.2.1 low, ih _ a' w' ?_ (ready_mono hr (Ne.symm ne)) h.1 (h.2.1 low) ?_⟩) turn
      · intro m om hm hmi hmu hmw
        refine free m om hm hmi ?_ hmw
        rcases Nat.decEq j m with hjm | rfl
        · rwa [getD_set_ne true hjm] at hmu
        · exact hun
      · rw [Array.setIfInBounds_comm _ _ ne]
        exact h.2.2
    · exact hy.wpOp ho hS ⟨fun _ => hS, H⟩
/-- what is left of the region; a structure, so that nothing unfolds it -/
structure Stage (P : Program) (ops : Array Oper) (Q : Exit → Act → World → Prop) (S : World → Prop) (t k : Nat) (s : Array Bool) (a : Act) (w : World) : Prop where
  out : staged P .any ops Q S t k s a w
/-- number i is read now -/
theorem stage_take {i k : Nat} {o : Oper} {s : Array Bool} {a : Act} {w : World} (v : Value) (ho : ops[i]? = some o) (hs : Region.noSelect ops = true) (hf : Region.free .any ops s i = true) (hr : (Region.ready .any ops s).contains i = true) (hw : awaited .any ops t i = true)
    (hQ : ∀ c a w, Q (.panic c) (a.put o.dst v) w → Q (.panic c) a w) (hS : S w) (hg : Region.wanted o (yielded ops a.tmps) = true) (hy : ∀ w, S w → (execOp a.eval o).run P w = .ok (.value v) w) (h : Stage P ops Q S t k (s.setIfInBounds i true) (a.put o.dst v) w) : Stage P ops Q S t (k + 1) s a w :=
  ⟨staged_first ho (Region.noSelect_spec hs) hQ hw k s a w (Region.free_spec ho hf) (by simpa using hr) (.inl ⟨hg, hy⟩) hS h.out⟩
/-- number i isn't wanted -/
theorem stage_skip {i k : Nat} {o : Oper} {s : Array Bool} {a : Act} {w : World} (ho : ops[i]? = some o) (hs : Region.noSelect ops = true) (hf : Region.free .any ops s i = true) (hr : (Region.ready .any ops s).contains i = true) (hw : awaited .any ops t i = true)
    (hQ : ∀ c a w, Q (.panic c) (a.put o.dst undef) w → Q (.panic c) a w) (hS : S w) (hg : Region.wanted o (yielded ops a.tmps) = false) (h : Stage P ops Q S t k (s.setIfInBounds i true) (a.put o.dst undef) w) : Stage P ops Q S t (k + 1) s a w :=
  ⟨staged_first ho (Region.noSelect_spec hs) hQ hw k s a w (Region.free_spec ho hf) (by simpa using hr) (.inr ⟨hg, rfl⟩) hS h.out⟩
/-- number i alone may come up -/
theorem stage_only {i k : Nat} {o : Oper} {s : Array Bool} {a : Act} {w : World} (ho : ops[i]? = some o) (hr : Region.ready .any ops s = [i]) (hg : Region.wanted o (yielded ops a.tmps) = true)
    (h : ∀ K : Act → World → Prop, Hid (∀ a w, (i < t → S w) → Stage P ops Q S t k (s.setIfInBounds i true) a w → K a w) → o.wp P a w K Q) : Stage P ops Q S t (k + 1) s a w := by
  refine ⟨fun h0 => (by rw [hr] at h0; cases h0), fun j hj => ?_⟩
  rw [hr] at hj
  obtain rfl : j = i := by simpa using hj
  unfold wpOp
  simp only [ho]
  rw [if_pos hg]
  exact .inl (h _ fun a w h1 h2 => ⟨h1, h2.out⟩)
theorem stage_end {s : Array Bool} {a : Act} {w : World} (hr : Region.ready .any ops s = []) (h : Q .normal a w) : Stage P ops Q S t 0 s a w := ⟨hr, h⟩
theorem stage_region {id : Nat} {a : Act} {w : World} {l : List Oper} (t : Nat) (S : World → Prop) (hm : P.follows .mixedOrders = true) (h : Stage P l.toArray Q S t l.length (Array.replicate l.length false) a w.drew) : (Code.region id l.toArray true).wp P Q a w := by
  refine wp_region_any hm ?_
  have := staged_any _ _ _ _ h.out
  simpa using this
end
end Go.Proofs.YtckcnenhnniogaaDoor.Bas
