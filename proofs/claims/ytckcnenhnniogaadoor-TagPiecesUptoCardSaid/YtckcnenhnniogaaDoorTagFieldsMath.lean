/- A body's fields, one step: plain laws. -/
import Derived.Test.YtckcnenhnniogaaDoorTagSplitMath
set_option linter.unusedSimpArgs false
set_option linter.unusedVariables false
namespace Go.Proofs.YtckcnenhnniogaaDoor.TagM
open Go.Proofs.YtckcnenhnniogaaDoor.FldW Go.Proofs.YtckcnenhnniogaaDoor.DecM Go.Lib

def cutA (c : UInt8) (r : List UInt8) : List UInt8 := r.takeWhile fun x => x != c
def cutB (c : UInt8) (r : List UInt8) : List UInt8 := (r.dropWhile fun x => x != c).drop 1
theorem cutA_no (c : UInt8) (r : List UInt8) : c ∉ cutA c r := by
  unfold cutA
  induction r with
  | nil => simp
  | cons b r ih =>
    rw [List.takeWhile_cons]
    split
    · rename_i h
      intro hm
      rcases List.mem_cons.1 hm with e | e
      · subst e; simp at h
      · exact ih e
    · simp
theorem cut_hit {c : UInt8} {r : List UInt8} (h : c ∈ r) : r = cutA c r ++ c :: cutB c r := by
  unfold cutA cutB
  induction r with
  | nil => cases h
  | cons b r ih =>
    rw [List.takeWhile_cons, List.dropWhile_cons]
    by_cases hb : b = c
    · subst hb; simp
    · have hb2 : (b != c) = true := by simpa using hb
      rw [if_pos hb2, if_pos hb2]
      rcases List.mem_cons.1 h with e | e
      · exact absurd e.symm hb
      · conv => lhs; rw [ih e]
        rfl
theorem cut_miss {c : UInt8} {r : List UInt8} (h : c ∉ r) : cutA c r = r ∧ cutB c r = [] := by
  unfold cutA cutB
  induction r with
  | nil => simp
  | cons b r ih =>
    have hb : b ≠ c := fun e => h (by rw [e]; exact List.mem_cons_self)
    have hb2 : (b != c) = true := by simpa using hb
    obtain ⟨h1, h2⟩ := ih fun hm => h (List.mem_cons_of_mem _ hm)
    rw [List.takeWhile_cons, List.dropWhile_cons, if_pos hb2, if_pos hb2, h1, h2]
    exact ⟨rfl, rfl⟩
theorem cut_len (c : UInt8) (r : List UInt8) : (cutA c r).length ≤ r.length ∧ (cutB c r).length ≤ r.length := by
  by_cases h : c ∈ r
  · have := congrArg List.length (cut_hit h)
    simp at this
    omega
  · rw [(cut_miss h).1, (cut_miss h).2]; simp
theorem cut_shorter {c : UInt8} {r : List UInt8} (h : c ∈ r) : (cutA c r).length + (cutB c r).length + 1 = r.length := by
  have := congrArg List.length (cut_hit h)
  simp at this
  omega
/-- the field that stands in front, by its name and value -/
def fieldN (inner : List UInt8) : Int := atoiN (cutA 61 (cutA 1 inner))
def fieldV (inner : List UInt8) : List UInt8 := cutB 61 (cutA 1 inner)
theorem fields_ok {os : List Fld} {inner l : List UInt8} (ho : badF os = false) (h : bodyB os ++ inner = l) (he : (1 : UInt8) ∈ inner) (hi : itoa (fieldN inner) = cutA 61 (cutA 1 inner)) (hr : rightF (fieldN inner, fieldV inner) = true) :
    badF (os ++ [(fieldN inner, fieldV inner)]) = false ∧ bodyB (os ++ [(fieldN inner, fieldV inner)]) ++ cutB 1 inner = l := by
  refine ⟨badF_append.2 ⟨ho, badF_cons.2 ⟨hr, rfl⟩⟩, ?_⟩
  have h61 : (61 : UInt8) ∈ cutA 1 inner := by
    rcases Classical.em ((61 : UInt8) ∈ cutA 1 inner) with hm | hm
    · exact hm
    · have := (right_of hr).2.2.2.2.2.1
      exact absurd (cut_miss hm).2 this
  have hf : fieldB (fieldN inner, fieldV inner) = cutA 1 inner ++ [1] := field_ok hr hi (cut_hit h61)
  rw [bodyB_append, bodyB_cons, bodyB_nil, hf, ← h]
  conv => rhs; rw [cut_hit he]
  simp
theorem fields_no {os : List Fld} {inner l : List UInt8} (ho : badF os = false) (h : bodyB os ++ inner = l) (hne : inner ≠ []) (hn : ¬ ((1 : UInt8) ∈ inner ∧ itoa (fieldN inner) = cutA 61 (cutA 1 inner) ∧ rightF (fieldN inner, fieldV inner) = true)) : splitR l = none := by
  by_cases he : (1 : UInt8) ∈ inner
  · have h2 := h
    rw [cut_hit he] at h2
    refine split_field ho h2 (cutA_no _ _) ?_
    by_cases h61 : (61 : UInt8) ∈ cutA 1 inner
    · exact field_no (cutA_no _ _) (cut_hit h61) fun hh => hn ⟨he, hh⟩
    · exact field_none h61
  · exact split_end ho h he hne
def isK : List Fld → Bool
  | [] => false
  | f :: _ => decide (f.1 = 35)
theorem split_is {os : List Fld} {l : List UInt8} (ho : badF os = false) (h : bodyB os = l) : splitR l = if isK os = true then some os else none := by
  cases os with
  | nil => rw [if_neg (by simp [isK])]; exact split_no ho h (by simp)
  | cons f r =>
    unfold isK
    by_cases hf : f.1 = 35
    · rw [if_pos (by simpa using hf)]
      obtain ⟨a, v⟩ := f
      subst hf
      exact split_ok ho h
    · rw [if_neg (by simpa using hf)]
      refine split_no ho h fun v r' e => ?_
      injection e with e1 e2
      exact hf (by rw [e1])
theorem fieldV_len (inner : List UInt8) : (fieldV inner).length ≤ inner.length := Nat.le_trans (cut_len _ _).2 (cut_len _ _).1
theorem rightF_of {n : Int} {v : List UInt8} (h : rightF (n, v) = true) : 1 ≤ n ∧ n ≤ 9999 := by
  have := right_of h
  exact ⟨this.1, this.2.1⟩
/-- the document's reading, between two bytes -/
theorem rsplit_at {l : List UInt8} {f i : Nat} (hfi : f ≤ i) (hi : i < l.length) (h1 : l[i] = 1) : l = l.take f ++ ((l.drop f).take (i - f) ++ 1 :: l.drop (i + 1)) := by
  have e : l.drop f = (l.drop f).take (i - f) ++ l.drop i := by
    conv => lhs; rw [← List.take_append_drop (i - f) (l.drop f), List.drop_drop, show f + (i - f) = i by omega]
  conv => lhs; rw [← List.take_append_drop f l, e, List.drop_eq_getElem_cons hi, h1]
theorem rsplit_take {l : List UInt8} {f i : Nat} (hfi : f ≤ i) (hi : i < l.length) (h1 : l[i] = 1) : l.take (i + 1) = l.take f ++ ((l.drop f).take (i - f) ++ [1]) := by
  have := rsplit_at hfi hi h1
  have hl : (l.take f ++ ((l.drop f).take (i - f) ++ [1])).length = i + 1 := by simp; omega
  have e2 : l = (l.take f ++ ((l.drop f).take (i - f) ++ [1])) ++ l.drop (i + 1) := by
    conv => lhs; rw [this]
    simp
  conv => lhs; rw [e2, ← hl, List.take_left]
theorem rsplit_more {l : List UInt8} {f i : Nat} (hfi : f ≤ i) (hi : i < l.length) (h1 : l[i] ≠ 1) (h : (1 : UInt8) ∉ (l.drop f).take (i - f)) : (1 : UInt8) ∉ (l.drop f).take (i + 1 - f) := by
  rw [show i + 1 - f = (i - f) + 1 by omega]
  have hlt : i - f < (l.drop f).length := by simp; omega
  rw [List.take_succ_eq_append_getElem hlt]
  intro hm
  rcases List.mem_append.1 hm with e | e
  · exact h e
  · rw [List.mem_singleton, List.getElem_drop] at e
    apply h1
    rw [e]
    congr 1
    omega
theorem rsplit_ok {os : List Fld} {l : List UInt8} {f i a n : Nat} (ho : badF os = false) (hb : bodyB os = l.take f) (hfi : f ≤ i) (hi : i < l.length) (h1 : l[i] = 1)
    (hd : (((l.drop f).take (i - f)).take a).all isD = true) (hn : val (((l.drop f).take (i - f)).take a) = n) (ha : a ≠ 0) (hlt : a < ((l.drop f).take (i - f)).length)
    (h61 : ((l.drop f).take (i - f))[a] = 61) (h48 : ((l.drop f).take (i - f)).head? ≠ some 48) (hr : rightF ((n : Int), ((l.drop f).take (i - f)).drop (a + 1)) = true) :
    badF (os ++ [((n : Int), ((l.drop f).take (i - f)).drop (a + 1))]) = false ∧ bodyB (os ++ [((n : Int), ((l.drop f).take (i - f)).drop (a + 1))]) = l.take (i + 1) := by
  refine ⟨badF_append.2 ⟨ho, badF_cons.2 ⟨hr, rfl⟩⟩, ?_⟩
  rw [bodyB_append, bodyB_cons, bodyB_nil, hb, rsplit_take hfi hi h1, List.append_nil]
  congr 1
  generalize (l.drop f).take (i - f) = cur at *
  refine rfield_ok (D := cur.take a) hd ?_ ?_ hn ?_ hr
  · intro h
    have := congrArg List.length h
    rw [List.length_take, List.length_nil] at this
    omega
  · rw [List.head?_take, if_neg ha]; exact h48
  · conv => lhs; rw [← List.take_append_drop a cur, List.drop_eq_getElem_cons hlt, h61]
theorem rsplit_no {os : List Fld} {l : List UInt8} {f i a n : Nat} (ho : badF os = false) (hb : bodyB os = l.take f) (hfi : f ≤ i) (hi : i < l.length) (h1 : l[i] = 1) (hno : (1 : UInt8) ∉ (l.drop f).take (i - f))
    (hd : (((l.drop f).take (i - f)).take a).all isD = true) (hn : val (((l.drop f).take (i - f)).take a) = n)
    (hs : 100000 ≤ n ∨ ∀ h : a < ((l.drop f).take (i - f)).length, isD ((l.drop f).take (i - f))[a] = false)
    (hbad : a = 0 ∨ ((l.drop f).take (i - f)).length ≤ a ∨ (∀ h : a < ((l.drop f).take (i - f)).length, ((l.drop f).take (i - f))[a] ≠ 61) ∨ ((l.drop f).take (i - f)).head? = some 48 ∨ rightF ((n : Int), ((l.drop f).take (i - f)).drop (a + 1)) = false) : splitR l = none :=
  split_field ho (by rw [hb]; exact (rsplit_at hfi hi h1).symm) hno (rfield_no hd hn hs hbad)
theorem rsplit_tail {os : List Fld} {l : List UInt8} {f : Nat} (ho : badF os = false) (hb : bodyB os = l.take f) (hf : f < l.length) (hno : (1 : UInt8) ∉ (l.drop f).take (l.length - f)) : splitR l = none := by
  have e : (l.drop f).take (l.length - f) = l.drop f := List.take_of_length_le (by simp)
  rw [e] at hno
  refine split_end ho (by rw [hb, List.take_append_drop]) hno ?_
  intro h
  have := congrArg List.length h
  simp at this
  omega
end Go.Proofs.YtckcnenhnniogaaDoor.TagM
