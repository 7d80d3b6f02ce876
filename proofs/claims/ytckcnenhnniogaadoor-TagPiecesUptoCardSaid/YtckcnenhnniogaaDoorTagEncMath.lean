/- Frames: what Encode answers. No program in sight. -/
import Derived.Test.YtckcnenhnniogaaDoorTagMath
import Derived.Test.YtckcnenhnniogaaDoorSumMath
set_option linter.unusedSimpArgs false
set_option linter.unusedVariables false
namespace Go.Proofs.YtckcnenhnniogaaDoor.TagM
open Go.Proofs.YtckcnenhnniogaaDoor.FldW Go.Proofs.YtckcnenhnniogaaDoor.DecM Go.Lib

def hdrB : List UInt8 := [56, 61, 70, 73, 88, 46, 52, 46, 52, 1]
/-- all ahead of the last field -/
def allB (body : List UInt8) : List UInt8 := hdrB ++ [57, 61] ++ decDigits body.length ++ [1] ++ body
def smallB (l : List UInt8) : Nat := (l.map (·.toNat)).foldl (fun n x => (n + x) % 256) 0
def frameB (body : List UInt8) : List UInt8 := allB body ++ ([49, 48, 61] ++ low (smallB (allB body)) 3 ++ [1])
def encodeR (fs : List Fld) : List UInt8 × Int := if validR fs = 0 then (frameB (bodyB fs), 0) else ([], validR fs)
theorem smallB_lt (l : List UInt8) : smallB l < 256 := by
  unfold smallB
  generalize l.map (·.toNat) = m
  have : ∀ (m : List Nat) (s : Nat), s < 256 → m.foldl (fun n x => (n + x) % 256) s < 256 := by
    intro m
    induction m with
    | nil => intro s h; exact h
    | cons x m ih => intro s _; exact ih _ (Nat.mod_lt _ (by decide))
  exact this m 0 (by decide)
theorem three_digits {n : Nat} (h : n < 1000) : decDigits (1000 + n) = 49 :: low n 3 := by
  have h4 : nDigits (1000 + n) = 4 := nDigits_unique 3 (1000 + n) (by omega) (by omega)
  rw [dec_low, h4]
  simp only [low, List.nil_append, List.cons_append]
  have e1 : (1000 + n) / 10 / 10 / 10 % 10 = 1 := by omega
  have e2 : (1000 + n) / 10 / 10 % 10 = n / 10 / 10 % 10 := by omega
  have e3 : (1000 + n) / 10 % 10 = n / 10 % 10 := by omega
  have e4 : (1000 + n) % 10 = n % 10 := by omega
  rw [e1, e2, e3, e4]
  rfl
theorem three_pad {n : Nat} (h : n < 1000) : List.replicate (3 - nDigits n) 48 ++ decDigits n = low n 3 := by
  have h3 : nDigits n ≤ 3 := by
    by_cases h1 : n < 10
    · rw [nDigits_small h1]; omega
    rw [nDigits_big h1]
    by_cases h2 : n / 10 < 10
    · rw [nDigits_small h2]; omega
    rw [nDigits_big h2, nDigits_small (by omega)]
    exact Nat.le_refl _
  rw [dec_low, ← low_pad n _ _ (lt_pow_nDigits n)]
  congr 1
  omega
theorem frame_len (body : List UInt8) (h : body.length ≤ 4096) : (frameB body).length ≤ 4200 := by
  unfold frameB allB hdrB
  have := digits_le body.length (by omega)
  simp [low_len]
  omega
end Go.Proofs.YtckcnenhnniogaaDoor.TagM
