/- Fields as events and replies: what Event and Reply answer. No program in sight. -/
import Derived.Test.YtbpndiegbfpigaaGreatDoorPortMath
import Derived.Test.YtbpndiegbfpigaaGreatDoorDecParseMath
namespace Go.Proofs.YtbpndiegbfpigaaGreatDoor.PortM
open Go.Proofs.YtbpndiegbfpigaaGreatDoor.DecM Go.Proofs.YtbpndiegbfpigaaGreatDoor.FixpM Go.Proofs.YtbpndiegbfpigaaGreatDoor.FldW

def Ev.zero : Ev := ⟨0, 0, 0, 0, 0, 0, 0, 0, 0, 0, false, []⟩
def Ev.ofKind (k : Int) : Ev := ⟨k, 0, 0, 0, 0, 0, 0, 0, 0, 0, false, []⟩
/-- an event with a number -/
def setN (v : Ev) (t x : Int) : Ev :=
  if t = 1 then { v with acct := x } else if t = 11 then { v with id := x } else if t = 12 then { v with amount := x } else if t = 15 then { v with cur := x } else if t = 38 then { v with qty := x } else
  if t = 41 then { v with new := x } else if t = 44 then { v with price := x } else if t = 55 then { v with instr := x } else { v with under := x }
/-- the kind of a type; 0: none -/
def kindF (s : List UInt8) : Nat := match s with
  | [b] => if b ∈ kindsL then kindsL.idxOf b + 1 else 0
  | _ => 0
/-- an event with one field more -/
def getOne (v : Ev) (t : Int) (f : Fld) : Ev × Int :=
  if f.1 ≠ t ∨ f.2 = [] then (Ev.zero, 11) else if t = 107 then ({ v with name := f.2 }, 0) else if t = 201 then (if f.2 = [89] ∨ f.2 = [78] then ({ v with call := decide (f.2 = [89]) }, 0) else (Ev.zero, 11)) else
  if (parseF f.2 0).2 = 0 then (setN v t (parseF f.2 0).1, 0) else (Ev.zero, (parseF f.2 0).2)
def getAll : Ev → List Int → List Fld → Ev × Int
  | v, [], _ => (v, 0)
  | _, _ :: _, [] => (Ev.zero, 11)
  | v, t :: ts, f :: fs => if (getOne v t f).2 = 0 then getAll (getOne v t f).1 ts fs else getOne v t f
def eventR (fs : List Fld) : Ev × Int := match fs with
  | [] => (Ev.zero, 11)
  | f :: r => if f.1 = 35 ∧ kindF f.2 ≠ 0 ∧ r.length = (tagsF (kindF f.2)).length then getAll (Ev.ofKind (kindF f.2)) (tagsF (kindF f.2)) r else (Ev.zero, 11)
def replyR (fs : List Fld) : (Int × Int) × Int := match fs with
  | [f, g, h] => if f = (35, [114]) ∧ g.1 = 39 ∧ h.1 = 37 then (if (parseF g.2 0).2 = 0 then (if (parseF h.2 0).2 = 0 then (((parseF g.2 0).1, (parseF h.2 0).1), 0) else ((0, 0), (parseF h.2 0).2)) else ((0, 0), (parseF g.2 0).2)) else ((0, 0), 11)
  | _ => ((0, 0), 11)
theorem parseF_i64 (t : List UInt8) (p : Nat) : -9223372036854775808 ≤ (parseF t p).1 ∧ (parseF t p).1 ≤ 9223372036854775807 ∧ ((parseF t p).2 ≠ 0 → (parseF t p).1 = 0) := by
  unfold parseF DecM.Max
  repeat' split
  all_goals simp
  all_goals omega
theorem getAll_step {v v' : Ev} {ts : List Int} {fs : List Fld} {k : Nat} (hk : k < ts.length) (hf : k < fs.length) {c : Ev × Int} (h : getAll v (ts.drop k) (fs.drop k) = c) (h1 : getOne v ts[k] fs[k] = (v', 0)) : getAll v' (ts.drop (k + 1)) (fs.drop (k + 1)) = c := by
  rw [List.drop_eq_getElem_cons hk, List.drop_eq_getElem_cons hf] at h
  unfold getAll at h
  rw [h1, if_pos rfl] at h
  exact h
theorem getAll_bad {v v' : Ev} {ts : List Int} {fs : List Fld} {k : Nat} {e : Int} (hk : k < ts.length) (hf : k < fs.length) {c : Ev × Int} (h : getAll v (ts.drop k) (fs.drop k) = c) (h1 : getOne v ts[k] fs[k] = (v', e)) (he : e ≠ 0) : c = (v', e) := by
  rw [List.drop_eq_getElem_cons hk, List.drop_eq_getElem_cons hf] at h
  unfold getAll at h
  rw [h1, if_neg he] at h
  exact h.symm
theorem getAll_end {v : Ev} {ts : List Int} {fs : List Fld} {c : Ev × Int} (h : getAll v (ts.drop ts.length) (fs.drop ts.length) = c) : c = (v, 0) := by
  rw [List.drop_length] at h
  unfold getAll at h
  exact h.symm
theorem one_form {v : Ev} {t : Int} {f : Fld} (h : f.1 ≠ t ∨ f.2 = []) : getOne v t f = (Ev.zero, 11) := by unfold getOne; rw [if_pos h]
theorem one_nm {v : Ev} {x : List UInt8} (h : x ≠ []) : getOne v 107 (107, x) = ({ v with name := x }, 0) := by unfold getOne; rw [if_neg (by simpa using h), if_pos rfl]
theorem one_yes {v : Ev} : getOne v 201 (201, [89]) = ({ v with call := true }, 0) := by unfold getOne; simp
theorem one_no {v : Ev} : getOne v 201 (201, [78]) = ({ v with call := false }, 0) := by unfold getOne; simp
theorem one_odd {v : Ev} {x : List UInt8} (h1 : x ≠ [89]) (h2 : x ≠ [78]) : getOne v 201 (201, x) = (Ev.zero, 11) := by unfold getOne; simp [h1, h2]
theorem one_set {v : Ev} {t x : Int} {s : List UInt8} (h1 : t ≠ 107) (h2 : t ≠ 201) (hs : s ≠ []) (hp : parseF s 0 = (x, 0)) : getOne v t (t, s) = (setN v t x, 0) := by
  unfold getOne; rw [if_neg (by simpa using hs), if_neg h1, if_neg h2, hp]; simp
theorem one_err {v : Ev} {t x e : Int} {s : List UInt8} (h1 : t ≠ 107) (h2 : t ≠ 201) (hs : s ≠ []) (hp : parseF s 0 = (x, e)) (he : e ≠ 0) : getOne v t (t, s) = (Ev.zero, e) := by
  unfold getOne; rw [if_neg (by simpa using hs), if_neg h1, if_neg h2, hp]; simp [he]
theorem eventR_not {f : Fld} {r : List Fld} (h : f.1 ≠ 35 ∨ kindF f.2 = 0 ∨ r.length ≠ (tagsF (kindF f.2)).length) : eventR (f :: r) = (Ev.zero, 11) := by
  simp only [eventR]
  rw [if_neg]
  rintro ⟨h1, h2, h3⟩
  rcases h with h | h | h
  · exact h h1
  · exact h2 h
  · exact h h3
theorem eventR_of {s : List UInt8} {r : List Fld} {k : Nat} (h : kindF s = k) (h0 : k ≠ 0) (h1 : r.length = (tagsF k).length) : eventR ((35, s) :: r) = getAll (Ev.ofKind k) (tagsF k) r := by
  simp only [eventR]
  rw [if_pos ⟨trivial, by simpa [h] using h0, by simpa [h] using h1⟩]
  simp [h]
theorem kindF_le (s : List UInt8) : kindF s ≤ 16 := by
  unfold kindF
  split
  · split
    · rename_i h
      have := List.idxOf_lt_length_of_mem h
      have h16 : kindsL.length = 16 := rfl
      omega
    · omega
  · omega
theorem kind_at {b : UInt8} {i : Nat} (hi : i < 16) : kindsL.getD i 0 = b ↔ kindF [b] = i + 1 := by
  have e : ∀ i < 16, kindF [kindsL.getD i 0] = i + 1 := by decide
  constructor
  · rintro rfl
    exact e i hi
  · intro h
    by_cases hb : b ∈ kindsL
    · unfold kindF at h
      simp only [if_pos hb] at h
      have hlt := List.idxOf_lt_length_of_mem hb
      have := List.getElem_idxOf hlt
      have h2 : kindsL.idxOf b = i := by omega
      rw [← h2, List.getD, List.getElem?_eq_getElem hlt]
      exact this
    · unfold kindF at h
      simp only [if_neg hb] at h
      omega
/-- the kind as far as the types have been gone over -/
def kindT (s : List UInt8) (i : Nat) : Nat := if kindF s ≤ i then kindF s else 0
theorem kindT_zero (s : List UInt8) : kindT s 0 = 0 := by unfold kindT; split <;> omega
theorem kindT_end (s : List UInt8) : kindT s 16 = kindF s := by unfold kindT; rw [if_pos (kindF_le s)]
theorem kindT_hit {b : UInt8} {i : Nat} (hi : i < 16) (h : kindsL.getD i 0 = b) : kindT [b] (i + 1) = i + 1 := by
  unfold kindT
  rw [(kind_at hi).1 h, if_pos (by omega)]
theorem kindT_miss {b : UInt8} {i : Nat} (hi : i < 16) (h : kindsL.getD i 0 ≠ b) : kindT [b] (i + 1) = kindT [b] i := by
  have h1 : kindF [b] ≠ i + 1 := fun e => h ((kind_at hi).2 e)
  unfold kindT
  by_cases h2 : kindF [b] ≤ i
  · rw [if_pos h2, if_pos (by omega)]
  · rw [if_neg h2, if_neg (by omega)]
theorem kindF_long {s : List UInt8} (h : s.length ≠ 1) : kindF s = 0 := by
  unfold kindF
  split
  · simp at h
  · rfl
def numTags : List Int := [1, 11, 12, 15, 38, 41, 44, 55, 311]
theorem tag_num {k t : Int} (h : t ∈ tagsF k) (h1 : t ≠ 107) (h2 : t ≠ 201) : t = 1 ∨ t = 11 ∨ t = 12 ∨ t = 15 ∨ t = 38 ∨ t = 41 ∨ t = 44 ∨ t = 55 ∨ t = 311 := by
  by_cases hk : k < 1 ∨ 15 < k
  · unfold tagsF at h
    simp only [show ¬ k = 1 by omega, show ¬ k = 2 by omega, show ¬ k = 3 by omega, show ¬ k = 4 by omega, show ¬ k = 5 by omega, show ¬ k = 6 by omega, show ¬ k = 7 by omega, show ¬ k = 8 by omega, show ¬ k = 9 by omega, show ¬ k = 10 by omega, show ¬ k = 11 by omega, show ¬ k = 12 by omega, show ¬ k = 13 by omega, show ¬ k = 14 by omega, show ¬ k = 15 by omega, if_false, List.not_mem_nil] at h
  rcases (by omega : k = 1 ∨ k = 2 ∨ k = 3 ∨ k = 4 ∨ k = 5 ∨ k = 6 ∨ k = 7 ∨ k = 8 ∨ k = 9 ∨ k = 10 ∨ k = 11 ∨ k = 12 ∨ k = 13 ∨ k = 14 ∨ k = 15) with rfl | rfl | rfl | rfl | rfl | rfl | rfl | rfl | rfl | rfl | rfl | rfl | rfl | rfl | rfl
  all_goals
    simp [tagsF] at h
    omega
theorem replyR_not {fs : List Fld} (h : fs.length ≠ 3) : replyR fs = ((0, 0), 11) := by
  unfold replyR
  split
  · simp at h
  · rfl
end Go.Proofs.YtbpndiegbfpigaaGreatDoor.PortM
