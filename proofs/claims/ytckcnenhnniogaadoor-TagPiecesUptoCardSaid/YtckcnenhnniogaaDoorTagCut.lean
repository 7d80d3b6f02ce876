/- strings.Cut at one byte. -/
import Derived.Test.YtckcnenhnniogaaDoorDecWalks
import Derived.Test.YtckcnenhnniogaaDoorTagFieldsMath
import Derived.IntWalk
set_option linter.unusedSimpArgs false
set_option linter.unusedVariables false
namespace Go.Proofs.YtckcnenhnniogaaDoor.TagW
open Go.RowKit Go.Proofs.YtckcnenhnniogaaDoor.Bas Go.Proofs.YtckcnenhnniogaaDoor.FixpM Go.Proofs.YtckcnenhnniogaaDoor.FixpW Go.Proofs.YtckcnenhnniogaaDoor.DecW

theorem byte_none (c : UInt8) : ∀ (r : List UInt8), c ∉ r → Lib.indexByte r c = -1
  | [], _ => rfl
  | b :: l, h => by
    have hb : b ≠ c := fun e => h (by rw [e]; exact List.mem_cons_self)
    unfold Lib.indexByte
    rw [if_neg (by simpa using hb), byte_none c l (fun hm => h (List.mem_cons_of_mem _ hm))]; rfl
theorem byte_some (c : UInt8) (y : List UInt8) : ∀ (x : List UInt8), c ∉ x → Lib.indexByte (x ++ c :: y) c = x.length
  | [], _ => by
    show Lib.indexByte (c :: y) c = _
    unfold Lib.indexByte
    rw [if_pos (by simp)]; rfl
  | b :: l, h => by
    have hb : b ≠ c := fun e => h (by rw [e]; exact List.mem_cons_self)
    show Lib.indexByte (b :: (l ++ c :: y)) c = _
    unfold Lib.indexByte
    rw [if_neg (by simpa using hb), byte_some c y l (fun hm => h (List.mem_cons_of_mem _ hm)), if_neg (by simp)]
    simp
theorem tcut_hit (c : UInt8) (x y : List UInt8) (w : World) (hx : c ∉ x) (hs : x.length + 1 + y.length ≤ 9223372036854775806) :
    Calls Tryd.prog 44 #[.string ⟨(x ++ c :: y).toArray⟩, .string ⟨#[c]⟩] w fun e w' => e = .returned (.tuple #[.string ⟨x.toArray⟩, .string ⟨y.toArray⟩, .bool true]) ∧ Below w.heap.size w w' := by
  have hL : (x ++ c :: y).length = x.length + 1 + y.length := by simp; omega
  have hsz : (⟨(x ++ c :: y).toArray⟩ : ByteArray).size = x.length + 1 + y.length := hL
  have hC := fun W => Tryd.stringslite_Index_one ⟨(x ++ c :: y).toArray⟩ c W
  rw [show (⟨(x ++ c :: y).toArray⟩ : ByteArray).data.toList = x ++ c :: y by simp, byte_some c y x hx] at hC
  have HV : Hid (∀ s1 s2 : ByteArray, s1 = (⟨(x ++ c :: y).toArray⟩ : ByteArray).extract 0 x.length → s2 = (⟨(x ++ c :: y).toArray⟩ : ByteArray).extract (x.length + 1) (x.length + 1 + y.length) → Value.tuple #[.string s1, .string s2, .bool true] = .tuple #[.string ⟨x.toArray⟩, .string ⟨y.toArray⟩, .bool true]) := by
    rintro s1 s2 rfl rfl
    have e1 : (⟨(x ++ c :: y).toArray⟩ : ByteArray).extract 0 x.length = ⟨x.toArray⟩ := by
      apply ByteArray.ext
      rw [ByteArray.data_extract]
      apply Array.toList_inj.1
      simp
    have e2 : (⟨(x ++ c :: y).toArray⟩ : ByteArray).extract (x.length + 1) (x.length + 1 + y.length) = ⟨y.toArray⟩ := by
      apply ByteArray.ext
      rw [ByteArray.data_extract]
      apply Array.toList_inj.1
      have hd : (x ++ c :: y).drop (x.length + 1) = y := by
        rw [show x.length + 1 = (x ++ [c]).length by simp, show x ++ c :: y = (x ++ [c]) ++ y by simp, List.drop_left]
      simp
      try exact hd
    rw [e1, e2]
  have HC := Lib.hid hC
  clear hC hL
  generalize (⟨(x ++ c :: y).toArray⟩ : ByteArray) = s at *
  have HS : Calls Tryd.prog 65 #[.string s, .string ⟨#[c]⟩] w fun e w' => e = .returned (.tuple #[.string ⟨x.toArray⟩, .string ⟨y.toArray⟩, .bool true]) ∧ Below w.heap.size w w' := by
    obtain ⟨m, hm⟩ : ∃ m, m = x.length + 1 + y.length := ⟨_, rfl⟩
    rw [← hm] at HV hsz hs
    obtain ⟨X, hX⟩ : ∃ X, X = Value.tuple #[.string ⟨x.toArray⟩, .string ⟨y.toArray⟩, .bool true] := ⟨_, rfl⟩
    rw [← hX] at HV ⊢
    have hn : x.length + 1 ≤ m := by omega
    clear hX hm hx
    generalize x.length = n at *
    go_enter Tryd.func65, Tryd.ntmps65
    go_wp2_with (go_at_call 68; refine (HC.out _).mono ?_; rintro e w2 ⟨rfl, rfl⟩)
    have hw1 : IntKind.i64.wrap ((n : Int) + 1) = (n : Int) + 1 := IntWalk.i64_in _ (by omega)
    have hn1 : (0 : Int) ≤ (n : Int) + 1 := by omega
    have hn2 : ((n : Int) + 1).toNat = n + 1 := by omega
    have hn3 : (n : Int) + 1 ≤ s.size := by omega
    have hn4 : (n : Int) ≤ s.size := by omega
    go_quiet (fail)
    go_wp2_with fail
    exact bodyPost_ret (v := .tuple #[.string (s.extract 0 n), .string (s.extract (n + 1) m), .bool true]) (by simp [results, Tryd.f65, go_sem]) rfl ⟨by rw [HV.out _ _ rfl rfl], below_drewN (Below.refl _ _) nq⟩
  have HS := Lib.hid HS
  go_enter Tryd.func44, Tryd.ntmps44
  go_wp2_with (go_at_call 65; refine HS.out.mono ?_; rintro e w2 ⟨rfl, b2⟩)
  exact bodyPost_ret (v := .tuple #[.string ⟨x.toArray⟩, .string ⟨y.toArray⟩, .bool true]) (by simp [results, Tryd.f44, go_sem]) rfl ⟨rfl, b2⟩
theorem tcut_miss (c : UInt8) (r : List UInt8) (w : World) (hx : c ∉ r) :
    Calls Tryd.prog 44 #[.string ⟨r.toArray⟩, .string ⟨#[c]⟩] w fun e w' => e = .returned (.tuple #[.string ⟨r.toArray⟩, .string ⟨#[]⟩, .bool false]) ∧ Below w.heap.size w w' := by
  have hC := fun W => Tryd.stringslite_Index_one ⟨r.toArray⟩ c W
  rw [show (⟨r.toArray⟩ : ByteArray).data.toList = r by simp, byte_none c r hx] at hC
  have HC := Lib.hid hC
  have HS : Calls Tryd.prog 65 #[.string ⟨r.toArray⟩, .string ⟨#[c]⟩] w fun e w' => e = .returned (.tuple #[.string ⟨r.toArray⟩, .string ⟨#[]⟩, .bool false]) ∧ Below w.heap.size w w' := by
    clear hC hx
    go_enter Tryd.func65, Tryd.ntmps65
    go_wp2_with (go_at_call 68; refine (HC.out _).mono ?_; rintro e w2 ⟨rfl, rfl⟩)
    exact bodyPost_ret (v := .tuple #[.string ⟨r.toArray⟩, .string ⟨#[]⟩, .bool false]) (by simp [results, Tryd.f65, go_sem]) rfl ⟨rfl, Below.refl _ _⟩
  have HS := Lib.hid HS
  go_enter Tryd.func44, Tryd.ntmps44
  go_wp2_with (go_at_call 65; refine HS.out.mono ?_; rintro e w2 ⟨rfl, b2⟩)
  exact bodyPost_ret (v := .tuple #[.string ⟨r.toArray⟩, .string ⟨#[]⟩, .bool false]) (by simp [results, Tryd.f44, go_sem]) rfl ⟨rfl, b2⟩
theorem tcut_calls (c : UInt8) (r : List UInt8) (w : World) (hs : r.length ≤ 9223372036854775806) :
    Calls Tryd.prog 44 #[.string ⟨r.toArray⟩, .string ⟨#[c]⟩] w fun e w' => e = .returned (.tuple #[.string ⟨(TagM.cutA c r).toArray⟩, .string ⟨(TagM.cutB c r).toArray⟩, .bool (decide (c ∈ r))]) ∧ Below w.heap.size w w' := by
  by_cases h : c ∈ r
  · have e := TagM.cut_hit h
    have hl := TagM.cut_shorter h
    rw [decide_eq_true h]
    conv in (occs := 1) (⟨r.toArray⟩ : ByteArray) => rw [e]
    exact tcut_hit c _ _ w (TagM.cutA_no c r) (by omega)
  · rw [(TagM.cut_miss h).1, (TagM.cut_miss h).2, decide_eq_false h]
    exact tcut_miss c r w h
end Go.Proofs.YtckcnenhnniogaaDoor.TagW
