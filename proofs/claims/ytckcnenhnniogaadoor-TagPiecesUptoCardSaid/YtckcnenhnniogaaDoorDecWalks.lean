/- The walks of dec.Format and of the document's. -/
import Derived.Test.YtckcnenhnniogaaDoorDecParseMath
import Derived.Test.YtckcnenhnniogaaDoorFixpWalks
import Derived.Test.YtckcnenhnniogaaDoorBase
import Derived.Shelf.Strings.SlTrimAscii
import Derived.Lib.AppendIntMem
import Derived.Deep.Cut
set_option linter.unusedSimpArgs false
set_option linter.unusedVariables false
namespace Go.Proofs.YtckcnenhnniogaaDoor.DecW
open Go.RowKit Go.Proofs.YtckcnenhnniogaaDoor.Bas Go.Proofs.YtckcnenhnniogaaDoor.DecM Go.Proofs.YtckcnenhnniogaaDoor.FixpM Go.Proofs.YtckcnenhnniogaaDoor.FixpW

/-- the table of powers of ten -/
def Pow (w : World) : Prop := Lib.TabIs Tryd.prog w "internal/strconv.uint64pow10" .u64 Lib.pow10Tab
theorem Pow.keep {w w' : World} (h : Pow w) (hb : Below w.heap.size w w') : Pow w' := Lib.tabBelow_of_tabIs h w' hb
theorem ba_app (a b : List UInt8) : ((⟨a.toArray⟩ : ByteArray) ++ (⟨b.toArray⟩ : ByteArray)) = ⟨(a ++ b).toArray⟩ := by
  apply ByteArray.ext
  rw [ByteArray.data_append]
  simp
theorem ba_size (a : List UInt8) : (⟨a.toArray⟩ : ByteArray).size = a.length := rfl
theorem ba_of (s : ByteArray) : s = ⟨s.data.toList.toArray⟩ := by cases s; simp
theorem ba_inj {a b : List UInt8} (h : (⟨a.toArray⟩ : ByteArray) = ⟨b.toArray⟩) : a = b := by
  have := congrArg ByteArray.data h
  simpa using this
/-- what Format answers -/
def FmtR (x p : Int) : List UInt8 × Int := if p < 0 ∨ 9 < p then ([], 1) else if fits x = false then ([], 4) else (fmtF x p.toNat, 0)
def FmtV (x p : Int) : Value := .tuple #[.string ⟨(FmtR x p).1.toArray⟩, .int .i64 (FmtR x p).2]
theorem FmtV_arg {x p : Int} (h : p < 0 ∨ 9 < p) : FmtV x p = .tuple #[.string ⟨#[]⟩, .int .i64 1] := by unfold FmtV FmtR; rw [if_pos h]
theorem FmtV_over {x p : Int} (h : ¬ (p < 0 ∨ 9 < p)) (hf : fits x = false) : FmtV x p = .tuple #[.string ⟨#[]⟩, .int .i64 4] := by unfold FmtV FmtR; rw [if_neg h, if_pos hf]
theorem FmtV_ok {x p : Int} (h : ¬ (p < 0 ∨ 9 < p)) (hf : fits x = true) : FmtV x p = .tuple #[.string ⟨(fmtF x p.toNat).toArray⟩, .int .i64 0] := by unfold FmtV FmtR; rw [if_neg h, if_neg (by simp [hf])]

theorem itoa_calls (X : Nat) (w : World) (hX : X ≤ 4611686018427387904) (ht : Pow w) :
    Calls Tryd.prog 12 #[.int .i64 (X : Int)] w fun e w' => e = .returned (.string ⟨(Lib.decDigits X).toArray⟩) ∧ Below w.heap.size w w' := by
  refine (Tryd.strconv_Itoa (X : Int) (by omega) (by omega) w ht).mono ?_
  rintro e w' ⟨rfl, k, os, rfl⟩
  rw [Lib.itoa_nonneg]
  exact ⟨rfl, Lib.below_grow _ _ (Nat.le_refl _) _ _⟩
theorem fmt_bytes (X q : Nat) (hq : q ≠ 0) (S : ByteArray) (hS : S = ⟨(low X (len X q)).toArray⟩) (sg : List UInt8) :
    (⟨sg.toArray⟩ : ByteArray) ++ S.extract 0 (len X q - q) ++ ⟨#[46]⟩ ++ S.extract (len X q - q) S.size = ⟨(sg ++ fmtL X q).toArray⟩ := by
  have h := fmt_split X q hq
  rw [← h]
  apply ByteArray.ext
  simp only [ByteArray.data_append, ByteArray.data_extract, hS]
  apply Array.toList_inj.1
  have hl : (low X (len X q)).length = len X q := low_len _ _
  simp [ByteArray.size, hl]
  exact List.take_of_length_le (by simp; omega)
theorem fmt_bytes0 (X : Nat) (S : ByteArray) (hS : S = ⟨(low X (len X 0)).toArray⟩) (sg : List UInt8) :
    (⟨sg.toArray⟩ : ByteArray) ++ S = ⟨(sg ++ fmtL X 0).toArray⟩ := by
  rw [hS, ba_app]; rfl

theorem ret_fmt {a b : ByteArray} {c : Int} (h : a = b) : Ending.returned (.tuple #[.string a, .int .i64 c]) = .returned (.tuple #[.string b, .int .i64 c]) := by rw [h]
end Go.Proofs.YtckcnenhnniogaaDoor.DecW
