/- How much is passed over, and the size of a frame: plain laws. -/
import Derived.Test.YtckcnenhnniogaaDoorTagSkip
import Derived.Test.YtckcnenhnniogaaDoorTagSplitMath
import Derived.Lib.IndexMore
set_option linter.unusedSimpArgs false
set_option linter.unusedVariables false
namespace Go.Proofs.YtckcnenhnniogaaDoor.TagW
open Go.Proofs.YtckcnenhnniogaaDoor.FldW Go.Proofs.YtckcnenhnniogaaDoor.TagM Go.Proofs.YtckcnenhnniogaaDoor.DecM

theorem skipA_from {s : List UInt8} : ∀ {i : Nat}, 1 ≤ i → i ≤ s.length → (∀ j, 1 ≤ j → j < i → ¬ hdrB <+: s.drop j) → skipA s 1 (s.length - 1) = skipA s i (s.length - i) := by
  intro i
  induction i with
  | zero => intro h; omega
  | succ i ih =>
    intro h1 h2 h3
    cases i with
    | zero => rfl
    | succ i => rw [ih (by omega) (by omega) (fun j a b => h3 j a (by omega)), skipA_miss (by omega) (h3 (i + 1) (by omega) (by omega))]
theorem skipB_from {s : List UInt8} : ∀ {i : Nat}, 1 ≤ i → i ≤ s.length → (∀ j, 1 ≤ j → j < i → ¬ s.drop j <+: hdrB) → skipB s 1 (s.length - 1) = skipB s i (s.length - i) := by
  intro i
  induction i with
  | zero => intro h; omega
  | succ i ih =>
    intro h1 h2 h3
    cases i with
    | zero => rfl
    | succ i => rw [ih (by omega) (by omega) (fun j a b => h3 j a (by omega)), skipB_miss (by omega) (h3 (i + 1) (by omega) (by omega))]
theorem skip_A {s : List UInt8} {i : Nat} (h1 : 1 ≤ i) (h2 : i < s.length) (h3 : ∀ j, 1 ≤ j → j < i → ¬ hdrB <+: s.drop j) (h : hdrB <+: s.drop i) : skipR s = i :=
  skipR_A (by rw [skipA_from h1 (by omega) h3, skipA_hit h2 h])
theorem skip_B {s : List UInt8} {i : Nat} (h1 : 1 ≤ i) (h2 : i < s.length) (h0 : ∀ j, 1 ≤ j → j < s.length → ¬ hdrB <+: s.drop j) (h3 : ∀ j, 1 ≤ j → j < i → ¬ s.drop j <+: hdrB) (h : s.drop i <+: hdrB) : skipR s = i :=
  skipR_B (by rw [skipA_from (i := s.length) (by omega) (Nat.le_refl _) h0, skipA_end (Nat.le_refl _)]) (by rw [skipB_from h1 (by omega) h3, skipB_hit h2 h])
theorem skip_none {s : List UInt8} (h1 : 1 ≤ s.length) (h0 : ∀ j, 1 ≤ j → j < s.length → ¬ hdrB <+: s.drop j) (h3 : ∀ j, 1 ≤ j → j < s.length → ¬ s.drop j <+: hdrB) : skipR s = s.length :=
  skipR_none (by rw [skipA_from (i := s.length) (by omega) (Nat.le_refl _) h0, skipA_end (Nat.le_refl _)]) (by rw [skipB_from (i := s.length) (by omega) (Nat.le_refl _) h3, skipB_end (Nat.le_refl _)])
/-- the two places at which the search begins -/
theorem skip_late {s : List UInt8} (h0 : ∀ j, 1 ≤ j → j < s.length → ¬ hdrB <+: s.drop j) {j : Nat} (h1 : 1 ≤ j) (h2 : j + 10 ≤ s.length) : ¬ s.drop j <+: hdrB := by
  intro h
  have hl := h.length_le
  have h10 : hdrB.length = 10 := rfl
  rw [List.length_drop, h10] at hl
  have he : s.drop j = hdrB := h.eq_of_length (by rw [List.length_drop, h10]; omega)
  exact h0 j h1 (by omega) (by rw [he]; exact List.prefix_refl _)
theorem skip_index {s : List UInt8} (h : 1 ≤ s.length) : (∃ i : Nat, Lib.index (s.drop 1) hdrB = i ∧ i + 11 ≤ s.length ∧ skipR s = i + 1) ∨ (Lib.index (s.drop 1) hdrB = -1 ∧ ∀ j, 1 ≤ j → j < s.length → ¬ hdrB <+: s.drop j) := by
  rcases Lib.index_spec (s.drop 1) hdrB with ⟨h1, h2⟩ | ⟨i, h1, h2, h3, h4⟩
  · right
    refine ⟨h1, fun j hj1 hj2 hp => ?_⟩
    have := h2 (j - 1) (by simp; omega)
    unfold Lib.occAt at this
    rw [List.drop_drop, show 1 + (j - 1) = j by omega] at this
    rw [List.isPrefixOf_iff_prefix.2 hp] at this
    cases this
  · left
    unfold Lib.occAt at h3
    rw [List.drop_drop, List.isPrefixOf_iff_prefix] at h3
    have hl := h3.length_le
    have h10 : hdrB.length = 10 := rfl
    rw [List.length_drop, h10] at hl
    refine ⟨i, h1, by omega, ?_⟩
    rw [skip_A (i := 1 + i) (by omega) (by omega) ?_ h3]
    · omega
    · intro j hj1 hj2 hp
      have := h4 (j - 1) (by omega)
      unfold Lib.occAt at this
      rw [List.drop_drop, show 1 + (j - 1) = j by omega] at this
      rw [List.isPrefixOf_iff_prefix.2 hp] at this
      cases this
theorem skip_bounds {s : List UInt8} (h : 1 ≤ s.length) : 1 ≤ skipR s ∧ skipR s ≤ s.length := by
  have hA : ∀ k i r, skipA s i k = some r → i ≤ r ∧ r < i + k := by
    intro k
    induction k with
    | zero => intro i r h; cases h
    | succ k ih =>
      intro i r h
      unfold skipA at h
      split at h
      · injection h with h; omega
      · have := ih _ _ h; omega
  have hB : ∀ k i r, skipB s i k = some r → i ≤ r ∧ r < i + k := by
    intro k
    induction k with
    | zero => intro i r h; cases h
    | succ k ih =>
      intro i r h
      unfold skipB at h
      split at h
      · injection h with h; omega
      · have := ih _ _ h; omega
  cases ha : skipA s 1 (s.length - 1) with
  | some r => rw [skipR_A ha]; have := hA _ _ _ ha; omega
  | none =>
    cases hb : skipB s 1 (s.length - 1) with
    | some r => rw [skipR_B ha hb]; have := hB _ _ _ hb; omega
    | none => rw [skipR_none ha hb]; omega
/-- what the size of a frame says of its bytes -/
theorem scanA_says : ∀ (l : List UInt8) (p n : Nat) {q m : Nat}, scanA p n l = ((q, m), 0) → ∃ D, D.all isD = true ∧ (n = 0 → D.head? ≠ some 48) ∧ D ++ [1] <+: l ∧ q = p + D.length + 1 ∧ m = valA n D ∧ (D = [] ∨ m ≤ 4096) ∧ (n = 0 → D ≠ [])
  | [], p, n, q, m, h => by unfold scanA at h; simp at h
  | b :: l, p, n, q, m, h => by
    unfold scanA at h
    split at h
    · rename_i hb
      obtain ⟨rfl, hn⟩ := hb
      simp at h
      exact ⟨[], rfl, fun _ => by simp, by simp, by simp; omega, by rw [valA_nil]; exact h.2.symm, .inl rfl, fun h0 => by omega⟩
    · split at h
      · simp at h
      · rename_i h1 h2
        have h2 : badD b n = false := by simpa using h2
        obtain ⟨d1, d2, d3, d4⟩ := badD_of h2
        obtain ⟨D, e1, e2, e3, e4, e5, e6, e7⟩ := scanA_says l _ _ h
        refine ⟨b :: D, ?_, ?_, ?_, ?_, ?_, ?_, ?_⟩
        · simp [e1, isD_iff]; omega
        · intro hn
          simp
          intro hb
          exact d3 ⟨hb, hn⟩
        · simpa using e3
        · simp; omega
        · rw [valA_cons]; exact e5
        · right
          rcases e6 with e6 | e6
          · subst e6; rw [valA_nil] at e5; omega
          · exact e6
        · intro _; simp
theorem sizeR_says {s : List UInt8} {p n : Nat} (h : sizeR s = ((p, n), 0)) : s.take p = leadL ++ Lib.decDigits n ++ [1] ∧ 1 ≤ n ∧ n ≤ 4096 ∧ p ≤ s.length ∧ p = 13 + (Lib.decDigits n).length := by
  unfold sizeR at h
  split at h
  · simp at h
  · split at h
    · rename_i hl
      obtain ⟨t, rfl⟩ := hl
      have hd : (leadL ++ t).drop 12 = t := by
        rw [show 12 = leadL.length from rfl, List.drop_left]
      rw [hd] at h
      obtain ⟨D, e1, e2, e3, e4, e5, e6, e7⟩ := scanA_says _ _ _ h
      have hne := e7 rfl
      have hn : val D = n := e5.symm
      have hD : Lib.decDigits n = D := by rw [dec_low, ← hn, nd_val D e1 hne (.inr (e2 rfl)), low_val D e1]
      obtain ⟨u, rfl⟩ := e3
      have hp : p = (leadL ++ D ++ [1]).length := by rw [e4]; simp [leadL, hdrB]; omega
      have h1 : 1 ≤ n := by
        rcases Nat.eq_zero_or_pos n with h0 | h0
        · exfalso
          rw [h0] at hD
          rw [show Lib.decDigits 0 = [48] from by rw [Lib.decDigits_one (by decide)]; rfl] at hD
          exact e2 rfl (by rw [← hD]; rfl)
        · exact h0
      refine ⟨?_, h1, ?_, ?_, ?_⟩
      · rw [hD, hp, show leadL ++ (D ++ [1] ++ u) = (leadL ++ D ++ [1]) ++ u by simp, List.take_left]
      · rcases e6 with e6 | e6
        · exact absurd e6 hne
        · exact e6
      · rw [hp]; simp
      · rw [hp, hD]; simp [leadL, hdrB]; omega
    · simp at h
theorem scanA_digits : ∀ (D : List UInt8) (p n : Nat) (l : List UInt8), D.all isD = true → (n = 0 → D.head? ≠ some 48) → valA n D ≤ 4096 → scanA p n (D ++ l) = scanA (p + D.length) (valA n D) l
  | [], p, n, l, _, _, _ => by simp [valA_nil]
  | b :: D, p, n, l, h, h0, hv => by
    have hb : isD b = true ∧ D.all isD = true := by simpa using h
    have hn := isD_iff.1 hb.1
    rw [valA_cons] at hv ⊢
    have hle : n * 10 + (b.toNat - 48) ≤ 4096 := Nat.le_trans (by rw [valA_eq]; exact Nat.le_trans (Nat.le_mul_of_pos_right _ (Nat.pow_pos (by decide))) (Nat.le_add_right _ _)) hv
    have h1 : ¬ (b = 1 ∧ 1 ≤ n) := by rintro ⟨rfl, _⟩; simp at hn
    have h48 : ¬ (b = 48 ∧ n = 0) := by
      rintro ⟨rfl, hn0⟩
      exact h0 hn0 rfl
    have h2 : badD b n = false := by
      cases hbd : badD b n with
      | false => rfl
      | true =>
        have := badD_iff.1 hbd
        rcases this with h | h | h | h
        · omega
        · omega
        · exact absurd ⟨UInt8.toNat_inj.1 h.1, h.2⟩ h48
        · omega
    show scanA p n (b :: (D ++ l)) = _
    conv => lhs; unfold scanA
    rw [if_neg h1, if_neg (by simp [h2]), scanA_digits D _ _ l hb.2 ?_ hv, List.length_cons]
    · congr 1; omega
    · intro hz
      exfalso
      have : b.toNat - 48 = 0 := by omega
      exact h48 ⟨UInt8.toNat_inj.1 (by show b.toNat = 48; omega), by omega⟩
theorem sizeR_of {n : Nat} {l : List UInt8} (h1 : 1 ≤ n) (h2 : n ≤ 4096) : sizeR (leadL ++ Lib.decDigits n ++ [1] ++ l) = ((13 + (Lib.decDigits n).length, n), 0) := by
  unfold sizeR
  have hl : leadL.length = 12 := rfl
  rw [if_neg (by simp only [List.length_append, hl]; omega), if_pos (by rw [List.append_assoc, List.append_assoc]; exact List.prefix_append _ _)]
  have hd : (leadL ++ Lib.decDigits n ++ [1] ++ l).drop 12 = Lib.decDigits n ++ ([1] ++ l) := by
    rw [show (12 : Nat) = leadL.length from rfl, List.append_assoc, List.append_assoc, List.drop_left]
  rw [hd]
  rw [scanA_digits _ _ _ _ (dec_digits n) (fun _ => dec_head h1) (by show val (Lib.decDigits n) ≤ 4096; rw [val_dec]; exact h2)]
  rw [show valA 0 (Lib.decDigits n) = n from val_dec n]
  show scanA _ _ (1 :: l) = _
  unfold scanA
  rw [if_pos ⟨rfl, h1⟩]
  congr 2
  omega
end Go.Proofs.YtckcnenhnniogaaDoor.TagW
