/- What the document's Decode tests, and what it says of what Decode answers. No program in sight. -/
import Derived.Test.YtokinnkagdjciaaGreatDoorTagBackMath
namespace Go.Proofs.YtokinnkagdjciaaGreatDoor.TagW
open Go.Proofs.YtokinnkagdjciaaGreatDoor.FldW Go.Proofs.YtokinnkagdjciaaGreatDoor.TagM Go.Proofs.YtokinnkagdjciaaGreatDoor.DecM Go.Lib

/-- the whole frame, put together anew, is what stands there just if the sum is right -/
theorem frame_is {s : List UInt8} {p n q : Nat} (h : sizeR s = ((p, n), 0)) (hq : q = p + n) (hs : ¬ s.length < q + 7) (hl : lastOk ((s.drop q).take 7) = true) :
    frameB ((s.drop p).take n) = s.take (q + 7) ↔ (((s.drop q).take 7).drop 3).take 3 = low (smallB (s.take q)) 3 := by
  subst hq
  obtain ⟨q1, q2, q3, q4, q5⟩ := sizeR_says h
  have hbl : ((s.drop p).take n).length = n := by rw [List.length_take, List.length_drop]; omega
  have hall : allB ((s.drop p).take n) = s.take (p + n) := by rw [allB_eq, hbl, ← q1, List.take_add]
  unfold frameB
  rw [hall, List.take_add (i := p + n) (j := 7), List.append_cancel_left_eq]
  conv => lhs; rhs; rw [last_says hl]
  constructor
  · intro e
    have e := List.append_cancel_right e
    exact (List.append_cancel_left e).symm
  · intro e
    rw [e]
theorem last_of {t : List UInt8} (h1 : t.take 3 = [49, 48, 61]) (h2 : ∀ i, 3 ≤ i → i < 6 → ∀ h : i < t.length, isD t[i] = true) (h3 : t.drop 6 = [1]) : lastOk t = true := by
  unfold lastOk
  rw [decide_eq_true h1, decide_eq_true h3]
  simp only [Bool.true_and, Bool.and_true]
  rw [List.all_eq_true]
  intro x hx
  obtain ⟨i, hi, e⟩ := List.getElem_of_mem hx
  rw [List.getElem_take, List.getElem_drop] at e
  have hl : i < 3 ∧ 3 + i < t.length := by
    rw [List.length_take, List.length_drop] at hi
    omega
  rw [← e]
  exact h2 (3 + i) (by omega) (by omega) hl.2
theorem last_no1 {t : List UInt8} (h : t.take 3 ≠ [49, 48, 61]) : lastOk t = false := by
  unfold lastOk; rw [decide_eq_false h]; rfl
theorem last_no3 {t : List UInt8} (h : t.drop 6 ≠ [1]) : lastOk t = false := by
  unfold lastOk; rw [decide_eq_false h, Bool.and_false]
theorem last_no2 {t : List UInt8} {i : Nat} (h3 : 3 ≤ i) (h6 : i < 6) (hi : i < t.length) (h : isD t[i] = false) : lastOk t = false := by
  unfold lastOk
  rw [show ((t.drop 3).take 3).all isD = false by
    rw [List.all_eq_false]
    refine ⟨t[i], ?_, by simp [h]⟩
    have hk : i - 3 < ((t.drop 3).take 3).length := by rw [List.length_take, List.length_drop]; omega
    have : ((t.drop 3).take 3)[i - 3] = t[i] := by
      rw [List.getElem_take, List.getElem_drop]
      congr 1
      omega
    rw [← this]
    exact List.getElem_mem _]
  rw [Bool.and_false]; rfl
theorem drop6 {t : List UInt8} (h : t.length = 7) : t.drop 6 = [t[6]] := by
  match t, h with
  | [a, b, c, d, e, f, g], _ => rfl
end Go.Proofs.YtokinnkagdjciaaGreatDoor.TagW
