/- The walk of the document's Parse. -/
import Derived.Test.YtbpndiegbfpigaaGreatDoorDecParse
namespace Go.Proofs.YtbpndiegbfpigaaGreatDoor.DecW
open Go.RowKit Go.Proofs.YtbpndiegbfpigaaGreatDoor.Bas Go.Proofs.YtbpndiegbfpigaaGreatDoor.DecM Go.Proofs.YtbpndiegbfpigaaGreatDoor.FixpM Go.Proofs.YtbpndiegbfpigaaGreatDoor.FixpW

theorem isD_no {c : UInt8} (h : isD c = false) : (c.toNat : Int) < 48 ∨ (57 : Int) < c.toNat := by
  have : ¬ (48 ≤ c.toNat ∧ c.toNat ≤ 57) := fun hh => by rw [isD_iff.2 hh] at h; cases h
  omega
theorem c46 {c : UInt8} : ((c.toNat : Int) == 46) = decide (c = 46) := by
  rw [Bool.eq_iff_iff]
  simp
  constructor
  · intro h; exact UInt8.toNat_inj.1 (by have : (46 : UInt8).toNat = 46 := rfl; omega)
  · rintro rfl; rfl
theorem take_snoc8 (r : List UInt8) (j : Nat) (h : j < r.length) : r.take (j + 1) = r.take j ++ [r[j]] := List.take_succ_eq_append_getElem h
/-- a multiplication by ten -/
theorem acc_ten {V : Nat} {x : Int} (h : Acc V x false) : (decide ((M10 : Int) < x) = true → Acc (V * 10) x true) ∧ (decide ((M10 : Int) < x) = false → Acc (V * 10) (x * 10) false) := by
  have := acc_digit (d := 0) h (by decide)
  simp only [Nat.add_zero, Int.natCast_zero, Int.add_zero] at this
  exact ⟨fun h1 => this.1 h1 x, this.2⟩
theorem acc_ten_over {V : Nat} {x : Int} (h : Acc V x true) : Acc (V * 10) x true := by
  have := acc_over (d := 0) h x
  simpa using this
/-- the text behind its sign -/
structure Sign (s : ByteArray) (r : List UInt8) (f : Nat) : Prop where
  len : s.size = f + r.length
  get : ∀ (j : Nat) (h : j < r.length) (h2 : f + j < s.size), s[f + j]'h2 = r[j]
theorem sign_of (s : ByteArray) : Sign s (restT s.data.toList) (if negT s.data.toList then 1 else 0) := by
  have hz : s.size = s.data.toList.length := rfl
  have hg : ∀ (k : Nat) (h : k < s.data.toList.length) (h2 : k < s.size), s[k]'h2 = s.data.toList[k] := fun k h h2 => rfl
  unfold restT
  by_cases hn : negT s.data.toList = true
  · rw [if_pos hn, if_pos hn]
    have hne : s.data.toList ≠ [] := by intro e; unfold negT at hn; rw [e] at hn; simp at hn
    refine ⟨?_, fun j h h2 => ?_⟩
    · rw [hz, List.length_tail]; have := List.length_pos_iff.2 hne; omega
    · rw [hg (1 + j) (by rw [hz] at h2; exact h2) h2, List.getElem_tail]
      congr 1; omega
  · rw [if_neg hn, if_neg hn]
    exact ⟨by rw [hz]; omega, fun j h h2 => by rw [hg (0 + j) (by rw [hz] at h2; exact h2) h2]; congr 1; omega⟩

theorem fine_of {t r : List UInt8} {q : Nat} (hr : restT t = r) (h : bad t q = false) : parseF t q = if DecM.Max < amt r q then (0, 4) else (if negT t then -(amt r q : Int) else (amt r q : Int), 0) := by
  unfold parseF
  rw [h, hr]; rfl
/-- between two multiplications -/
def MulR (q m V : Nat) (o x n : Value) : Prop :=
  ∃ (k : Nat) (X : Int) (O : Bool), m ≤ k ∧ k ≤ q ∧ n = .int .i64 k ∧ o = .bool O ∧ x = .int .i64 X ∧ Hid (Acc (V * 10 ^ (k - m)) X O) ∧ Hid (O = false → 0 ≤ X ∧ X ≤ 4611686018427387909)
theorem MulR.mk {q m V : Nat} {n : Value} (k : Nat) (X : Int) (O : Bool) (h1 : m ≤ k) (h2 : k ≤ q) (hn : n = .int .i64 (k : Int)) (ha : Acc (V * 10 ^ (k - m)) X O) (hX : O = false → 0 ≤ X ∧ X ≤ 4611686018427387909) :
    MulR q m V (.bool O) (.int .i64 X) n := ⟨k, X, O, h1, h2, hn, rfl, rfl, ha, hX⟩
/-- between two bytes of the scan -/
def ScanR (s : ByteArray) (r : List UInt8) (f : Nat) (a wh pt ov x : Value) : Prop :=
  ∃ (k : Nat) (W P X : Int) (O : Bool), f ≤ k ∧ k ≤ s.size ∧ a = .int .i64 k ∧ wh = .int .i64 W ∧ pt = .int .i64 P ∧ ov = .bool O ∧ x = .int .i64 X ∧ Hid (Scan (r.take (k - f)) W P O X) ∧ 0 ≤ W ∧ W ≤ k ∧ -1 ≤ P ∧ P ≤ k ∧ Hid (O = false → 0 ≤ X ∧ X ≤ 4611686018427387909)
theorem ScanR.mk {s : ByteArray} {r : List UInt8} {f : Nat} {a : Value} (k : Nat) (W P X : Int) (O : Bool) (h1 : f ≤ k) (h2 : k ≤ s.size) (ha : a = .int .i64 (k : Int)) (hs : Scan (r.take (k - f)) W P O X) (h3 : 0 ≤ W) (h4 : W ≤ k) (h5 : -1 ≤ P) (h6 : P ≤ k) (h7 : O = false → 0 ≤ X ∧ X ≤ 4611686018427387909) :
    ScanR s r f a (.int .i64 W) (.int .i64 P) (.bool O) (.int .i64 X) := ⟨k, W, P, X, O, h1, h2, ha, rfl, rfl, rfl, rfl, hs, h3, h4, h5, h6, h7⟩
end Go.Proofs.YtbpndiegbfpigaaGreatDoor.DecW
