/- strings.Cut at a point, strings.Trim, the program's digits. -/
import Derived.Test.YtckcnenhnniogaaDoorDecWalks
import Derived.IntWalk
set_option linter.unusedSimpArgs false
set_option linter.unusedVariables false
namespace Go.Proofs.YtckcnenhnniogaaDoor.DecW
open Go.RowKit Go.Proofs.YtckcnenhnniogaaDoor.Bas Go.Proofs.YtckcnenhnniogaaDoor.DecM Go.Proofs.YtckcnenhnniogaaDoor.FixpM Go.Proofs.YtckcnenhnniogaaDoor.FixpW

theorem index_none (r : List UInt8) (h : pointT r = false) : Lib.indexByte r 46 = -1 := by
  induction r with
  | nil => rfl
  | cons b l ih =>
    rcases split_eq (b :: l) with ⟨h1, _⟩ | ⟨_, h2, _⟩
    · rw [h1] at h; cases h
    · have hb : b ≠ 46 := by
        rintro rfl
        have : wholeT ((46 : UInt8) :: l) = [] := rfl
        rw [this] at h2; cases h2
      have hl : pointT l = false := by
        unfold pointT wholeT at h ⊢
        rw [List.takeWhile_cons_of_pos (by simpa using hb)] at h
        simpa using h
      unfold Lib.indexByte
      rw [if_neg (by simpa using hb), ih hl]; rfl
theorem index_some (r : List UInt8) (h : pointT r = true) : Lib.indexByte r 46 = (wholeT r).length := by
  induction r with
  | nil => unfold pointT at h; simp at h
  | cons b l ih =>
    unfold Lib.indexByte
    by_cases hb : b = 46
    · subst hb
      rw [if_pos (by simp)]
      rfl
    · rw [if_neg (by simpa using hb)]
      have hw : wholeT (b :: l) = b :: wholeT l := by unfold wholeT; rw [List.takeWhile_cons_of_pos (by simpa using hb)]
      have hl : pointT l = true := by
        unfold pointT at h ⊢
        rw [hw] at h
        simpa using h
      rw [ih hl, hw, if_neg (by simp)]
      simp
/-- what Cut answers -/
def CutV (r : List UInt8) : Value := .tuple #[.string ⟨(wholeT r).toArray⟩, .string ⟨(partT r).toArray⟩, .bool (pointT r)]
theorem wholeT_take (r : List UInt8) : wholeT r = r.take (wholeT r).length := by
  have : wholeT r <+: r := List.takeWhile_prefix _
  exact (List.prefix_iff_eq_take.1 this)

theorem scut_calls (r : List UInt8) (w : World) (hs : r.length ≤ 9223372036854775806) :
    Calls Tryd.prog 65 #[.string ⟨r.toArray⟩, .string ⟨#[46]⟩] w fun e w' => e = .returned (CutV r) ∧ Below w.heap.size w w' := by
  have hsz : (⟨r.toArray⟩ : ByteArray).size = r.length := rfl
  have hC := fun W => Tryd.stringslite_Index_one ⟨r.toArray⟩ 46 W
  rw [show (⟨r.toArray⟩ : ByteArray).data.toList = r by simp] at hC
  have hle : (wholeT r).length ≤ r.length := by unfold wholeT; exact (List.takeWhile_prefix _).length_le
  have hw := wholeT_take r
  by_cases h : pointT r = true
  · rw [index_some r h] at hC
    have hlt : (wholeT r).length < r.length := by unfold pointT at h; exact of_decide_eq_true h
    have HV : Hid (∀ s1 s2 : ByteArray, s1 = (⟨r.toArray⟩ : ByteArray).extract 0 (wholeT r).length → s2 = (⟨r.toArray⟩ : ByteArray).extract ((wholeT r).length + 1) r.length → Value.tuple #[.string s1, .string s2, .bool true] = CutV r) := by
      rintro s1 s2 rfl rfl
      unfold CutV
      rw [h]
      have e1 : (⟨r.toArray⟩ : ByteArray).extract 0 (wholeT r).length = ⟨(wholeT r).toArray⟩ := by
        apply ByteArray.ext
        rw [ByteArray.data_extract]
        apply Array.toList_inj.1
        simp
        exact hw.symm
      have e2 : (⟨r.toArray⟩ : ByteArray).extract ((wholeT r).length + 1) r.length = ⟨(partT r).toArray⟩ := by
        apply ByteArray.ext
        rw [ByteArray.data_extract]
        apply Array.toList_inj.1
        simp
        unfold partT
        exact List.take_of_length_le (by simp)
      rw [e1, e2]
    have HC := Lib.hid hC
    clear hC h hw
    generalize (⟨r.toArray⟩ : ByteArray) = s at *
    generalize (wholeT r).length = n at *
    generalize r.length = m at *
    go_enter Tryd.func65, Tryd.ntmps65
    go_wp2_with (go_at_call 68; refine (HC.out _).mono ?_; rintro e w2 ⟨rfl, rfl⟩)
    have hw1 : IntKind.i64.wrap ((n : Int) + 1) = (n : Int) + 1 := IntWalk.i64_in _ (by omega)
    have hn1 : (0 : Int) ≤ (n : Int) + 1 := by omega
    have hn2 : ((n : Int) + 1).toNat = n + 1 := by omega
    have hn3 : (n : Int) + 1 ≤ s.size := by omega
    have hn4 : (n : Int) ≤ s.size := by omega
    go_quiet (fail)
    go_wp2_with fail
    exact bodyPost_ret (v := .tuple #[.string (s.extract 0 n), .string (s.extract (n + 1) m), .bool true]) (by simp [results, Tryd.f65, go_sem]) rfl ⟨by rw [HV.out _ _ rfl rfl], below_drewN (Below.refl _ _) nq⟩
  · have h' : pointT r = false := by simpa using h
    rw [index_none r h'] at hC
    have HC := Lib.hid hC
    have HV : Hid (Value.tuple #[.string ⟨r.toArray⟩, .string ⟨#[]⟩, .bool false] = CutV r) := by
      rcases split_eq r with ⟨h1, _⟩ | ⟨_, h2, h3⟩
      · exact absurd h1 h
      · unfold CutV Hid
        rw [h', h3, ← h2]
    clear hC h h' hw
    go_enter Tryd.func65, Tryd.ntmps65
    go_wp2_with (go_at_call 68; refine (HC.out _).mono ?_; rintro e w2 ⟨rfl, rfl⟩)
    exact bodyPost_ret (v := .tuple #[.string ⟨r.toArray⟩, .string ⟨#[]⟩, .bool false]) (by simp [results, Tryd.f65, go_sem]) rfl ⟨by rw [HV.out], Below.refl _ _⟩
theorem cut_calls (r : List UInt8) (w : World) (hs : r.length ≤ 9223372036854775806) :
    Calls Tryd.prog 44 #[.string ⟨r.toArray⟩, .string ⟨#[46]⟩] w fun e w' => e = .returned (CutV r) ∧ Below w.heap.size w w' := by
  have HC := Lib.hid (scut_calls r w hs)
  go_enter Tryd.func44, Tryd.ntmps44
  unfold CutV at HC ⊢
  go_wp2_with (go_at_call 65; refine HC.out.mono ?_; rintro e w2 ⟨rfl, b2⟩)
  exact bodyPost_ret (v := .tuple #[.string ⟨(wholeT r).toArray⟩, .string ⟨(partT r).toArray⟩, .bool (pointT r)]) (by simp [results, Tryd.f44, go_sem]) rfl ⟨rfl, b2⟩
theorem trim_calls (s : ByteArray) (cs : List UInt8) (w : World) (hs : s.size ≤ 9223372036854775807) (hc : cs.length < 4294967281) (ha : cs.all (fun b => decide (b.toNat < 128)) = true) :
    Calls Tryd.prog 26 #[.string s, .string ⟨cs.toArray⟩] w fun e w' => e = .returned (.string ⟨(Lib.trimS s.data.toList cs).toArray⟩) ∧ Below w.heap.size w w' :=
  Any.strings_Trim_laid Tryd.lays160 (by kernel_rfl) s ⟨cs.toArray⟩ w hs hc (ascii_of_all ha)

end Go.Proofs.YtckcnenhnniogaaDoor.DecW
