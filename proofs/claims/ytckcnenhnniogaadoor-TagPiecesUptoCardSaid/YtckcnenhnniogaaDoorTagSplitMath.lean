/- Frames read: a body's fields, each of them, and the whole frame. No program in sight. -/
import Derived.Test.YtckcnenhnniogaaDoorTagDecMath
import Derived.Test.YtckcnenhnniogaaDoorDecParseMath
import Derived.Lib.AtoiAllCases
import Derived.Lib.ItoaMem
set_option linter.unusedSimpArgs false
set_option linter.unusedVariables false
namespace Go.Proofs.YtckcnenhnniogaaDoor.TagM
open Go.Proofs.YtckcnenhnniogaaDoor.FldW Go.Proofs.YtckcnenhnniogaaDoor.DecM Go.Lib

theorem dec_digits (n : Nat) : (decDigits n).all isD = true := by rw [dec_low]; exact low_digits _ _
theorem val_dec (n : Nat) : val (decDigits n) = n := by rw [dec_low, val_low]; exact Nat.mod_eq_of_lt (lt_pow_nDigits n)
theorem dec_inj {n m : Nat} (h : decDigits n = decDigits m) : n = m := by have := congrArg val h; rwa [val_dec, val_dec] at this
theorem dec_notin {n : Nat} {b : UInt8} (h : isD b = false) : b ∉ decDigits n := by
  intro hb
  have := List.all_eq_true.1 (dec_digits n) b hb
  rw [h] at this; cases this
theorem nd_pos (n : Nat) : 1 ≤ nDigits n := by
  by_cases h : n < 10
  · rw [nDigits_small h]; exact Nat.le_refl _
  · rw [nDigits_big h]; omega
theorem dec_ne (n : Nat) : decDigits n ≠ [] := by
  intro h
  have h1 := congrArg List.length h
  rw [decDigits_length] at h1
  have := nd_pos n
  simp at h1; omega
theorem list_split {c : UInt8} {a b : List UInt8} (ha : c ∉ a) : ∀ {x y : List UInt8}, c ∉ x → a ++ c :: b = x ++ c :: y → a = x ∧ b = y := by
  induction a with
  | nil =>
    intro x y hx h
    cases x with
    | nil => simp at h; exact ⟨rfl, h⟩
    | cons d x => simp at h; exact absurd (by rw [h.1]; exact List.mem_cons_self) hx
  | cons e a ih =>
    intro x y hx h
    cases x with
    | nil => simp at h; exact absurd (by rw [h.1]; exact List.mem_cons_self) ha
    | cons d x =>
      simp at h
      obtain ⟨h1, h2⟩ := ih (fun hm => ha (List.mem_cons_of_mem _ hm)) (fun hm => hx (List.mem_cons_of_mem _ hm)) h.2
      exact ⟨by rw [h.1, h1], h2⟩
theorem fieldB_init {f : Fld} (h : rightF f = true) : fieldB f = (decDigits f.1.toNat ++ 61 :: f.2) ++ [1] ∧ (1 : UInt8) ∉ decDigits f.1.toNat ++ 61 :: f.2 := by
  refine ⟨by unfold fieldB; simp, ?_⟩
  intro hm
  rcases List.mem_append.1 hm with h1 | h1
  · exact dec_notin (by decide) h1
  · rcases List.mem_cons.1 h1 with h2 | h2
    · cases h2
    · exact (right_of h).2.2.2.2.2.2 h2
theorem fieldB_inj {f g : Fld} (hf : rightF f = true) (hg : rightF g = true) (h : fieldB f = fieldB g) : f = g := by
  rw [(fieldB_init hf).1, (fieldB_init hg).1] at h
  have h := List.append_cancel_right h
  obtain ⟨h1, h2⟩ := list_split (dec_notin (by decide)) (dec_notin (by decide)) h
  have h3 := dec_inj h1
  have := right_of hf
  have := right_of hg
  exact Prod.ext (by omega) h2
theorem badF_cons {f : Fld} {r : List Fld} : badF (f :: r) = false ↔ rightF f = true ∧ badF r = false := by
  unfold badF
  rw [List.any_cons]
  cases rightF f <;> simp
theorem badF_append {a b : List Fld} : badF (a ++ b) = false ↔ badF a = false ∧ badF b = false := by
  unfold badF
  rw [List.any_append]
  simp [Bool.or_eq_false_iff]
theorem bodyB_cons (f : Fld) (r : List Fld) : bodyB (f :: r) = fieldB f ++ bodyB r := by unfold bodyB; rw [List.flatMap_cons]
theorem bodyB_append (a b : List Fld) : bodyB (a ++ b) = bodyB a ++ bodyB b := by unfold bodyB; rw [List.flatMap_append]
theorem bodyB_nil : bodyB [] = [] := rfl
theorem body_cons {fs : List Fld} {x y : List UInt8} (hb : badF fs = false) (h : bodyB fs = x ++ 1 :: y) (hx : (1 : UInt8) ∉ x) : ∃ f r, fs = f :: r ∧ fieldB f = x ++ [1] ∧ bodyB r = y := by
  cases fs with
  | nil => rw [bodyB_nil] at h; simp at h
  | cons f r =>
    obtain ⟨hf, hr⟩ := badF_cons.1 hb
    obtain ⟨h1, h2⟩ := fieldB_init hf
    rw [bodyB_cons, h1, List.append_assoc] at h
    obtain ⟨e1, e2⟩ := list_split h2 hx h
    exact ⟨f, r, rfl, by rw [h1, e1], e2⟩
theorem body_inj : ∀ {a b : List Fld}, badF a = false → badF b = false → bodyB a = bodyB b → a = b := by
  intro a
  induction a with
  | nil =>
    intro b _ hb h
    cases b with
    | nil => rfl
    | cons g r =>
      rw [bodyB_nil, bodyB_cons, (fieldB_init (badF_cons.1 hb).1).1] at h
      simp at h
  | cons f r ih =>
    intro b ha hb h
    obtain ⟨hf, hr⟩ := badF_cons.1 ha
    obtain ⟨h1, h2⟩ := fieldB_init hf
    rw [bodyB_cons, h1, List.append_assoc] at h
    obtain ⟨g, q, rfl, e1, e2⟩ := body_cons hb h.symm h2
    obtain ⟨hg, hq⟩ := badF_cons.1 hb
    rw [fieldB_inj hf hg (by rw [h1, e1]), ih hr hq e2.symm]
theorem body_from : ∀ {a fs : List Fld} {y : List UInt8}, badF a = false → badF fs = false → bodyB fs = bodyB a ++ y → ∃ r, fs = a ++ r ∧ bodyB r = y := by
  intro a
  induction a with
  | nil => intro fs y _ _ h; exact ⟨fs, rfl, by simpa [bodyB_nil] using h⟩
  | cons f a ih =>
    intro fs y ha hb h
    obtain ⟨hf, hr⟩ := badF_cons.1 ha
    obtain ⟨h1, h2⟩ := fieldB_init hf
    rw [bodyB_cons, h1, List.append_assoc, List.append_assoc] at h
    obtain ⟨g, q, rfl, e1, e2⟩ := body_cons hb h h2
    obtain ⟨hg, hq⟩ := badF_cons.1 hb
    obtain ⟨r, e3, e4⟩ := ih hr hq e2
    exact ⟨r, by rw [fieldB_inj hf hg (by rw [h1, e1]), e3]; rfl, e4⟩
theorem body_end {fs : List Fld} {y : List UInt8} (hb : badF fs = false) (h : bodyB fs = y) (hy : (1 : UInt8) ∉ y) : y = [] := by
  cases fs with
  | nil => rw [← h]; rfl
  | cons f r =>
    rw [bodyB_cons, (fieldB_init (badF_cons.1 hb).1).1] at h
    exact absurd (by rw [← h]; simp) hy
/-- the fields of a body -/
def goodB (fs : List Fld) : Prop := badF fs = false ∧ ∃ v r, fs = ((35 : Int), v) :: r
noncomputable def splitR (l : List UInt8) : Option (List Fld) := by
  classical
  exact if h : ∃ fs, goodB fs ∧ bodyB fs = l then some h.choose else none
theorem splitR_some {fs : List Fld} {l : List UInt8} (h : goodB fs) (h2 : bodyB fs = l) : splitR l = some fs := by
  unfold splitR
  have hx : ∃ fs, goodB fs ∧ bodyB fs = l := ⟨fs, h, h2⟩
  rw [dif_pos hx]
  have := hx.choose_spec
  exact congrArg some (body_inj this.1.1 h.1 (by rw [this.2, h2]))
theorem splitR_none {l : List UInt8} (h : ∀ fs, goodB fs → bodyB fs ≠ l) : splitR l = none := by
  unfold splitR
  rw [dif_neg]
  rintro ⟨fs, h1, h2⟩
  exact h fs h1 h2
theorem splitR_iff {fs : List Fld} {l : List UInt8} : splitR l = some fs ↔ goodB fs ∧ bodyB fs = l := by
  constructor
  · intro h
    unfold splitR at h
    split at h
    · rename_i hx
      injection h with h
      rw [← h]
      exact hx.choose_spec
    · cases h
  · rintro ⟨h1, h2⟩
    exact splitR_some h1 h2
theorem split_field {out : List Fld} {cur y l : List UInt8} (ho : badF out = false) (h : bodyB out ++ (cur ++ 1 :: y) = l) (hc : (1 : UInt8) ∉ cur) (hn : ∀ f, rightF f = true → fieldB f ≠ cur ++ [1]) : splitR l = none := by
  refine splitR_none ?_
  intro fs hg hb
  rw [← h] at hb
  obtain ⟨r, rfl, e⟩ := body_from ho hg.1 hb
  obtain ⟨f, q, rfl, e1, _⟩ := body_cons (badF_append.1 hg.1).2 e hc
  exact hn f (badF_cons.1 (badF_append.1 hg.1).2).1 e1
theorem split_end {out : List Fld} {cur l : List UInt8} (ho : badF out = false) (h : bodyB out ++ cur = l) (hc : (1 : UInt8) ∉ cur) (hn : cur ≠ []) : splitR l = none := by
  refine splitR_none ?_
  intro fs hg hb
  rw [← h] at hb
  obtain ⟨r, rfl, e⟩ := body_from ho hg.1 hb
  exact hn (body_end (badF_append.1 hg.1).2 e hc)
theorem split_ok {v : List UInt8} {r : List Fld} {l : List UInt8} (ho : badF (((35 : Int), v) :: r) = false) (h : bodyB (((35 : Int), v) :: r) = l) : splitR l = some (((35 : Int), v) :: r) := splitR_some ⟨ho, v, r, rfl⟩ h
theorem split_no {out : List Fld} {l : List UInt8} (ho : badF out = false) (h : bodyB out = l) (hn : ∀ v r, out ≠ ((35 : Int), v) :: r) : splitR l = none := by
  refine splitR_none ?_
  rintro fs ⟨hg, v, r, e⟩ hb
  rw [← h] at hb
  exact hn v r (by rw [← e]; exact (body_inj hg ho hb).symm)

/-- the number that Atoi answers -/
def atoiN (l : List UInt8) : Int := match atoiAll l with
  | .ok v => v
  | .syntax => 0
  | .range => atoiSat l
theorem isD_num {b : UInt8} (h : isD b = true) : 48 ≤ b.toNat ∧ b.toNat ≤ 57 := isD_iff.1 h
theorem parse_digits : ∀ (l : List UInt8) (a : Nat), l.all isD = true → valA a l ≤ 99999 → parseUint10 a l = .ok (valA a l)
  | [], a, _, _ => by simp [parseUint10, valA_nil]
  | c :: r, a, h, hv => by
    have hc : isD c = true ∧ r.all isD = true := by simpa using h
    rw [valA_cons] at hv ⊢
    have := isD_num hc.1
    have hle : a * 10 + (c.toNat - 48) ≤ 99999 := Nat.le_trans (by rw [valA_eq]; exact Nat.le_trans (Nat.le_mul_of_pos_right _ (Nat.pow_pos (by decide))) (Nat.le_add_right _ _)) hv
    unfold parseUint10
    rw [if_pos this, if_neg (by omega), if_neg (by omega)]
    exact parse_digits r _ hc.2 hv
theorem atoiN_dec {n : Nat} (h : n ≤ 9999) : atoiN (decDigits n) = n := by
  have hd := dec_digits n
  have hv := val_dec n
  have hne := dec_ne n
  revert hd hv hne
  generalize decDigits n = l
  intro hd hv hne
  cases l with
  | nil => exact absurd rfl hne
  | cons c r =>
    have hc : isD c = true ∧ r.all isD = true := by simpa using hd
    have := isD_num hc.1
    unfold atoiN
    rw [atoiAll_plain c r (by omega) (by omega)]
    have hp : parseMag (c :: r) = .ok n := by
      unfold parseMag
      rw [if_neg (by simp), parse_digits _ 0 hd (by have : valA 0 (c :: r) = n := hv; omega)]
      exact congrArg _ hv
    rw [hp]
    have h9 : ¬ 9223372036854775808 ≤ n := by omega
    unfold signless
    simp [h9]
/-- a field, by its name and its value -/
theorem field_ok {n : Int} {name v cur : List UInt8} (hr : rightF (n, v) = true) (hi : itoa n = name) (hc : cur = name ++ 61 :: v) : fieldB (n, v) = cur ++ [1] := by
  have := right_of hr
  rw [(fieldB_init hr).1, hc, ← hi]
  congr 3
  have hn : n = (n.toNat : Int) := by have := this.1; simp at this; omega
  conv => rhs; rw [hn]
  rw [itoa_nonneg]
theorem field_no {name v cur : List UInt8} (hname : (61 : UInt8) ∉ name) (hc : cur = name ++ 61 :: v) (h : ¬ (itoa (atoiN name) = name ∧ rightF (atoiN name, v) = true)) : ∀ f, rightF f = true → fieldB f ≠ cur ++ [1] := by
  intro f hf e
  rw [(fieldB_init hf).1, hc] at e
  have e := List.append_cancel_right e
  obtain ⟨e1, e2⟩ := list_split (dec_notin (by decide)) hname e
  have hr := right_of hf
  have hn : f.1 = (f.1.toNat : Int) := by have := hr.1; omega
  apply h
  rw [← e1, ← e2, atoiN_dec (by omega), itoa_nonneg, ← hn]
  exact ⟨rfl, hf⟩
theorem field_none {cur : List UInt8} (h : (61 : UInt8) ∉ cur) : ∀ f, rightF f = true → fieldB f ≠ cur ++ [1] := by
  intro f hf e
  rw [(fieldB_init hf).1] at e
  have e := List.append_cancel_right e
  exact h (by rw [← e]; simp)
/-- a field, as the document reads it -/
theorem rfield_ok {D v cur : List UInt8} {n : Nat} (hD : D.all isD = true) (h0 : D ≠ []) (h1 : D.head? ≠ some 48) (hn : val D = n) (hc : cur = D ++ 61 :: v) (hr : rightF ((n : Int), v) = true) : fieldB ((n : Int), v) = cur ++ [1] := by
  rw [(fieldB_init hr).1, hc]
  congr 3
  show decDigits (n : Int).toNat = D
  rw [Int.toNat_natCast, dec_low, ← hn, nd_val D hD h0 (.inr h1), low_val D hD]
theorem val_take_le (l : List UInt8) (k : Nat) : val (l.take k) ≤ val l := by
  conv => rhs; rw [← List.take_append_drop k l, val_append]
  exact Nat.le_trans (Nat.le_mul_of_pos_right _ (Nat.pow_pos (by decide))) (Nat.le_add_right _ _)
theorem dec_head {n : Nat} (h : 1 ≤ n) : (decDigits n).head? ≠ some 48 := by
  intro hh
  have hd := dec_digits n
  have hv := val_dec n
  have hl := decDigits_length n
  have hne := dec_ne n
  revert hd hv hl hne hh
  generalize decDigits n = l
  intro hh hd hv hl hne
  cases l with
  | nil => exact absurd rfl hne
  | cons c r =>
    simp at hh
    subst hh
    have hd' : r.all isD = true := by rw [List.all_cons, Bool.and_eq_true] at hd; exact hd.2
    rw [val_cons] at hv
    have := val_lt r hd'
    simp at hl
    have h2 : 1 < nDigits n ∨ r = [] := by
      cases r with
      | nil => exact .inr rfl
      | cons _ _ => left; rw [← hl]; simp
    rcases h2 with h2 | h2
    · have := nd_low n h2
      rw [show nDigits n - 1 = r.length by omega] at this
      simp at hv
      omega
    · subst h2
      simp [val_nil] at hv
      omega
theorem rfield_no {cur : List UInt8} {at_ n : Nat} (hd : (cur.take at_).all isD = true) (hn : val (cur.take at_) = n)
    (hs : 100000 ≤ n ∨ ∀ h : at_ < cur.length, isD cur[at_] = false)
    (hb : at_ = 0 ∨ cur.length ≤ at_ ∨ (∀ h : at_ < cur.length, cur[at_] ≠ 61) ∨ cur.head? = some 48 ∨ rightF ((n : Int), cur.drop (at_ + 1)) = false) : ∀ f, rightF f = true → fieldB f ≠ cur ++ [1] := by
  intro f hf e
  rw [(fieldB_init hf).1] at e
  have e := (List.append_cancel_right e).symm
  have hr := right_of hf
  generalize hk : f.1.toNat = k at e
  have hk1 : 1 ≤ k ∧ k ≤ 9999 := by omega
  have hfk : f.1 = (k : Int) := by omega
  have hlen := decDigits_length k
  have hle : at_ ≤ (decDigits k).length := by
    rcases Nat.lt_or_ge (decDigits k).length at_ with h | h
    · exfalso
      have h1 := List.all_eq_true.1 hd 61 (by
        rw [e, List.take_append, List.mem_append]
        right
        rw [show at_ - (decDigits k).length = (at_ - (decDigits k).length - 1) + 1 by omega, List.take_succ_cons]
        exact List.mem_cons_self)
      exact absurd h1 (by decide)
    · exact h
  have hlt : at_ < cur.length := by rw [e]; simp; omega
  have hnk : n ≤ k := by
    rw [← hn, e, List.take_append_of_le_length hle]
    have := val_take_le (decDigits k) at_
    rw [val_dec] at this
    exact this
  have heq : at_ = (decDigits k).length := by
    rcases Nat.lt_or_ge at_ (decDigits k).length with h | h
    · exfalso
      rcases hs with h1 | h1
      · omega
      · have h2 := h1 hlt
        have h3 : cur[at_]'hlt = (decDigits k)[at_] := by
          have : cur[at_]? = (decDigits k)[at_]? := by rw [e, List.getElem?_append_left h]
          rw [List.getElem?_eq_getElem hlt, List.getElem?_eq_getElem h] at this
          exact Option.some.inj this
        have h4 := List.all_eq_true.1 (dec_digits k) _ (List.getElem_mem h)
        rw [h3] at h2
        rw [h2] at h4; cases h4
    · omega
  have h61 : cur[at_]'hlt = 61 := by
    have : cur[at_]? = some 61 := by rw [e, heq, List.getElem?_append_right (Nat.le_refl _)]; simp
    rw [List.getElem?_eq_getElem hlt] at this
    exact Option.some.inj this
  have htk : cur.take at_ = decDigits k := by rw [e, heq]; simp
  have hdr : cur.drop (at_ + 1) = f.2 := by
    rw [e, heq, List.drop_append]
    simp
  have hnk2 : n = k := by rw [← hn, htk, val_dec]
  have hhd : cur.head? = (decDigits k).head? := by
    rw [e]
    have := dec_ne k
    revert this
    generalize decDigits k = q
    intro this
    cases q with
    | nil => exact absurd rfl this
    | cons _ _ => rfl
  rcases hb with h | h | h | h | h
  · have := dec_ne k
    rw [heq] at h
    exact this (List.length_eq_zero_iff.1 h)
  · omega
  · exact h hlt h61
  · rw [hhd] at h
    exact dec_head hk1.1 h
  · rw [hdr, hnk2, ← hfk] at h
    rw [show ((f.1, f.2) : Fld) = f from rfl, hf] at h
    cases h
/-- can these be the last seven bytes, but for the sum? -/
def lastOk (t : List UInt8) : Bool := decide (t.take 3 = [49, 48, 61]) && ((t.drop 3).take 3).all isD && decide (t.drop 6 = [1])
/-- what Decode answers -/
noncomputable def decodeR (s : List UInt8) : (List Fld × Nat) × Int :=
  if (sizeR s).2 = 10 then (([], 0), 10)
  else if (sizeR s).2 ≠ 0 then (([], skipR s), 11)
  else if s.length < (sizeR s).1.1 + (sizeR s).1.2 + 7 then (([], 0), 10)
  else if lastOk ((s.drop ((sizeR s).1.1 + (sizeR s).1.2)).take 7) = false then (([], skipR s), 11)
  else if (((s.drop ((sizeR s).1.1 + (sizeR s).1.2)).take 7).drop 3).take 3 ≠ low (smallB (s.take ((sizeR s).1.1 + (sizeR s).1.2))) 3 then (([], skipR s), 12)
  else match splitR ((s.drop (sizeR s).1.1).take (sizeR s).1.2) with
    | none => (([], skipR s), 11)
    | some fs => ((fs, (sizeR s).1.1 + (sizeR s).1.2 + 7), 0)
end Go.Proofs.YtckcnenhnniogaaDoor.TagM
