/- A ledger that is being copied: its lists are the call's own, the cash of the first accounts too. -/
import Derived.Test.YtocjfjikkdpfdaaGreatDoorLedOwn
set_option linter.unusedSimpArgs false
set_option linter.unusedVariables false
namespace Go.Proofs.YtocjfjikkdpfdaaGreatDoor.LedW
open Go.RowKit Go.Proofs.YtocjfjikkdpfdaaGreatDoor.Bas Go.Proofs.YtocjfjikkdpfdaaGreatDoor.LedM

structure LedMid (base : Nat) (W : World) (s : Lists) (l : Led) (us : List (Value × Acc)) (k : Nat) : Prop where
  curs : W.ownsRow base 55 2 (.slice s.a1 l.curs.length s.c1) l.curs.length (l.curs.flatMap curC)
  unders : W.ownsRow base 57 4 (.slice s.a2 l.unders.length s.c2) l.unders.length (l.unders.flatMap undC)
  instrs : W.ownsRow base 60 7 (.slice s.a3 l.instrs.length s.c3) l.instrs.length (l.instrs.flatMap insC)
  accts : W.ownsRow base 46 4 (.slice s.a4 l.accts.length s.c4) l.accts.length (us.flatMap accC)
  poss : W.ownsRow base 63 3 (.slice s.a5 l.poss.length s.c5) l.poss.length (l.poss.flatMap triC)
  orders : W.ownsRow base 65 5 (.slice s.a6 l.orders.length s.c6) l.orders.length (l.orders.flatMap ordC)
  avail : W.ownsRow base 3 1 (.slice s.a7 l.avail.length s.c7) l.avail.length (i64s l.avail)
  locs : W.ownsRow base 66 3 (.slice s.a8 l.locs.length s.c8) l.locs.length (l.locs.flatMap triC)
  each : us.map (·.2) = l.accts
  cash : ∀ x ∈ us.take k, W.ownsRow base 3 1 x.1 x.2.cash.length (i64s x.2.cash)
  dist : (us.take k).Pairwise fun x y => Apart x.1 y.1
  free : ∀ x ∈ us.take k, Apart (.slice s.a7 l.avail.length s.c7) x.1
theorem LedMid.own {base : Nat} {W : World} {s : Lists} {l : Led} {us : List (Value × Acc)} {k : Nat} (h : LedMid base W s l us k) (hk : us.length ≤ k) : LedOwn base W s l us := by
  have e : us.take k = us := List.take_of_length_le hk
  exact ⟨h.curs, h.unders, h.instrs, h.accts, h.poss, h.orders, h.avail, h.locs, h.each, e ▸ h.cash, e ▸ h.dist, e ▸ h.free⟩
theorem LedMid.below {base : Nat} {A B : World} {s : Lists} {l : Led} {us : List (Value × Acc)} {k : Nat} (h : LedMid base A s l us k) (b : Below A.heap.size A B) : LedMid base B s l us k :=
  ⟨owns_below h.curs b, owns_below h.unders b, owns_below h.instrs b, owns_below h.accts b, owns_below h.poss b, owns_below h.orders b, owns_below h.avail b, owns_below h.locs b, h.each, fun x hx => owns_below (h.cash x hx) b, h.dist, h.free⟩
theorem LedMid.len {base : Nat} {W : World} {s : Lists} {l : Led} {us : List (Value × Acc)} {k : Nat} (h : LedMid base W s l us k) : us.length = l.accts.length := by rw [← h.each, List.length_map]
theorem flat_set {α : Type} {f : α → List Value} {n : Nat} (hf : ∀ x, (f x).length = n) {c : Nat} (hc : c < n) {u : Value} (y : α) : ∀ (l : List α) (k : Nat) (hk : k < l.length), f y = (f l[k]).set c u → (l.set k y).flatMap f = (l.flatMap f).set (k * n + c) u
  | [], k, hk, _ => absurd hk (Nat.not_lt_zero _)
  | x :: l, 0, _, h => by
    simp only [List.set_cons_zero, List.flatMap_cons, Nat.zero_mul, Nat.zero_add]
    rw [List.set_append_left _ _ (by rw [hf]; exact hc)]
    exact congrArg (· ++ _) h
  | x :: l, k + 1, hk, h => by
    simp only [List.set_cons_succ, List.flatMap_cons]
    rw [List.set_append_right _ _ (by rw [hf, Nat.succ_mul]; omega), hf, show (k + 1) * n + c - n = k * n + c by rw [Nat.succ_mul]; omega]
    exact congrArg (_ ++ ·) (flat_set hf hc y l k (by simpa using hk) h)
/-- the next account's cash lies in new memory, and is laid into the account -/
theorem LedMid.next {base : Nat} {W W1 : World} {s : Lists} {l : Led} {us : List (Value × Acc)} {k : Nat} (h : LedMid base W s l us k) (hk : k < us.length) {v : Value} (hb : Below W.heap.size W W1) (hsz : base ≤ W.heap.size)
    (hv : W1.ownsRow W.heap.size 3 1 v us[k].2.cash.length (i64s us[k].2.cash)) :
    ∃ g, s.a4 = some ⟨g, 0, none⟩ ∧ base ≤ g ∧ g < W.heap.size ∧ W1.cell? ⟨g, k * 4 + 1, none⟩ = some us[k].1 ∧ W1.frozen? ⟨g, k * 4 + 1, none⟩ = false ∧ LedMid base (W1.setCell ⟨g, k * 4 + 1, none⟩ v) s l (us.set k (v, us[k].2)) (k + 1) := by
  have hlen := h.len
  have h1 := h.below hb
  have hrow := h1.accts
  obtain ⟨g, cap, cur, e1, hbg, hg, _⟩ : ∃ g cap cur, Value.slice s.a4 l.accts.length s.c4 = .slice (some ⟨g, 0, none⟩) l.accts.length cap ∧ base ≤ g ∧ W.heap[g]? = some (.cells cur 46 (0, 0)) ∧ True := by
    rcases h.accts.2 with ⟨_, h0⟩ | ⟨g, cap, cur, e1, hbg, hg, _⟩
    · omega
    · exact ⟨g, cap, cur, e1, hbg, hg, trivial⟩
  have ha : s.a4 = some ⟨g, 0, none⟩ := by injection e1
  rw [ha] at hrow
  have ho : (Value.slice (some ⟨g, 0, none⟩) l.accts.length s.c4).ownBlock = some g := rfl
  have hcell := hrow.cellAt (k * 4 + 1) (by omega)
  rw [flat_cell (f := accC) (n := 4) (fun _ => rfl) hk (by decide)] at hcell
  have far : ∀ {b e z v' n xs}, W1.ownsRow b e z v' n xs → e ≠ 46 → (W1.setCell ⟨g, k * 4 + 1, none⟩ v).ownsRow b e z v' n xs := fun hh hne => own_far hh ho (own_kinds hh hrow hne)
  have hst := (hrow.stored (k * 4 + 1) v).1
  have hfl := flat_set (f := accC) (n := 4) (c := 1) (u := v) (fun _ => rfl) (by decide) (v, us[k].2) us k hk rfl
  rw [← hfl] at hst
  have htake : (us.set k (v, us[k].2)).take (k + 1) = us.take k ++ [(v, us[k].2)] := by
    rw [List.take_succ_eq_append_getElem (by simpa using hk), List.getElem_set_self, List.take_set_of_le (Nat.le_refl _)]
  have hnew : ∀ x ∈ us.take k, Apart x.1 v := fun x hx g' hg1 hg2 => by
    have a1 := ((h.cash x hx).lt g' hg1).2
    have a2 := (hv.lt g' hg2).1
    omega
  refine ⟨g, ha, hbg, (Array.getElem?_eq_some_iff.1 hg).1, hcell, hrow.frozenAt _, far h1.curs (by decide), far h1.unders (by decide), far h1.instrs (by decide), ?_, far h1.poss (by decide), far h1.orders (by decide), far h1.avail (by decide), far h1.locs (by decide), ?_, ?_, ?_, ?_⟩
  · rw [ha]; exact hst
  · rw [List.map_set]
    have : (us.map (·.2))[k]'(by simpa using hk) = us[k].2 := by simp
    rw [← this, List.set_getElem_self]
    exact h.each
  · rw [htake]
    intro x hx
    rcases List.mem_append.1 hx with hx | hx
    · exact far (h1.cash x hx) (by decide)
    · rw [List.mem_singleton.1 hx]
      exact far (hv.mono hsz) (by decide)
  · rw [htake, List.pairwise_append]
    exact ⟨h.dist, by simp, fun x hx y hy => by rw [List.mem_singleton.1 hy]; exact hnew x hx⟩
  · rw [htake]
    intro x hx
    rcases List.mem_append.1 hx with hx | hx
    · exact h.free x hx
    · rw [List.mem_singleton.1 hx]
      intro g' hg1 hg2
      have a1 := (h.avail.lt g' hg1).2
      have a2 := (hv.lt g' hg2).1
      omega
end Go.Proofs.YtocjfjikkdpfdaaGreatDoor.LedW
