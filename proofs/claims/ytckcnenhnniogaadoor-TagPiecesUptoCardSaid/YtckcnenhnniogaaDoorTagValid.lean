/- The walks of tag.right, isAll, body and Valid. -/
import Derived.Test.YtckcnenhnniogaaDoorTagMath
import Derived.Test.YtckcnenhnniogaaDoorDecWalks
import Derived.Test.YtckcnenhnniogaaDoorBaseRow
import Derived.Lib.Buffer
import Derived.IntWalk
set_option linter.unusedSimpArgs false
set_option linter.unusedVariables false
namespace Go.Proofs.YtckcnenhnniogaaDoor.TagW
open Go.RowKit Go.Proofs.YtckcnenhnniogaaDoor.Bas Go.Proofs.YtckcnenhnniogaaDoor.FixpW Go.Proofs.YtckcnenhnniogaaDoor.DecW Go.Proofs.YtckcnenhnniogaaDoor.FldW Go.Proofs.YtckcnenhnniogaaDoor.TagM

theorem index_mem (l : List UInt8) (c : UInt8) : 0 ≤ Lib.indexByte l c ↔ c ∈ l := by
  induction l with
  | nil => simp [Lib.indexByte]
  | cons b l ih =>
    unfold Lib.indexByte
    by_cases h : b = c
    · subst h; simp
    · rw [if_neg (by simpa using h)]
      have hge := Lib.indexByte_ge l c
      by_cases h1 : Lib.indexByte l c = -1
      · rw [h1]
        have : c ∉ l := fun hm => by have := ih.2 hm; omega
        simp [this, Ne.symm h]
      · rw [if_neg (by simpa using h1)]
        have : c ∈ l := ih.1 (by omega)
        simp [this]; omega
theorem contains_calls (s : List UInt8) (w : World) :
    Calls Tryd.prog 30 #[.string ⟨s.toArray⟩, .string ⟨#[1]⟩] w fun e w' => e = .returned (.bool (decide ((1 : UInt8) ∈ s))) ∧ w = w' := by
  have HCT := Tryd.strings_Contains_one ⟨s.toArray⟩ 1 w
  rw [show (⟨s.toArray⟩ : ByteArray).data.toList = s by simp] at HCT
  refine HCT.mono ?_
  rintro e w' ⟨rfl, rfl⟩
  refine ⟨?_, rfl⟩
  by_cases h : (1 : UInt8) ∈ s
  · rw [decide_eq_true h, decide_eq_true ((index_mem _ _).2 h)]
  · rw [decide_eq_false h, decide_eq_false (fun h' => h ((index_mem _ _).1 h'))]
set_option maxHeartbeats 1000000 in
theorem right_calls (f : Fld) (w : World) :
    Calls Tryd.prog 19 #[.agg #[.int .i64 f.1, .string ⟨f.2.toArray⟩]] w fun e w' => e = .returned (.bool (rightF f)) ∧ Below w.heap.size w w' := by
  obtain ⟨t, s⟩ := f
  have HC := Lib.hid (fun W => contains_calls s W)
  simp only
  go_enter Tryd.func19, Tryd.ntmps19
  have X := Box.new w 39 #[.int .i64 t, .string ⟨s.toArray⟩]
  have B := (Below.refl w.heap.size w).alloc (Nat.le_refl _) (.cells #[.int .i64 t, .string ⟨s.toArray⟩] 39)
  go_upto_region 1 with fail
  generalize w.alloc (.cells #[.int .i64 t, .string ⟨s.toArray⟩] 39) = w1 at *
  have c0 : w1.cell? ⟨w.heap.size, 0, none⟩ = some (.int .i64 t) := X.cell 0
  have c1 : w1.cell? ⟨w.heap.size, 1, none⟩ = some (.string ⟨s.toArray⟩) := X.cell 1
  by_cases h8 : t = 8
  · subst h8
    go_wp2_with fail
    go_ret
    exact ⟨ret_bool (by simp [rightF]), B⟩
  by_cases h9 : t = 9
  · subst h9
    go_wp2_with fail
    go_ret
    exact ⟨ret_bool (by simp [rightF]), B⟩
  by_cases h10 : t = 10
  · subst h10
    go_wp2_with fail
    go_ret
    exact ⟨ret_bool (by simp [rightF]), B⟩
  by_cases hlo : 1 ≤ t
  · by_cases hhi : t ≤ 9999
    · by_cases hs : s = []
      · subst hs
        go_wp2_with fail
        go_ret
        exact ⟨ret_bool (by simp [rightF]), B⟩
      · have hem : (s == []) = false := by simpa using hs
        have hR : rightF (t, s) = !decide ((1 : UInt8) ∈ s) := by simp [rightF, h8, h9, h10, hlo, hhi, hs]
        have HR := Lib.hid hR
        clear hR
        generalize decide ((1 : UInt8) ∈ s) = bb at HC HR
        go_wp2_with (go_at_call 30; refine (HC.out _).mono ?_; rintro e w2 ⟨rfl, rfl⟩)
        go_ret
        exact ⟨ret_bool (by rw [HR.out]), B⟩
    · go_wp2_with fail
      go_ret
      exact ⟨ret_bool (by simp [rightF]; omega), B⟩
  · go_wp2_with fail
    go_ret
    exact ⟨ret_bool (by simp [rightF]; omega), B⟩
def rightV : Value := .func (.func 19) #[] #[]
def predV (p : Nat) : Value := .func (.func 29) #[] #[.pointer (some ⟨p, 0, none⟩)]
theorem pred_calls (f : Fld) (p : Nat) (w : World) (hp : w.cell? ⟨p, 0, none⟩ = some rightV) :
    Calls Tryd.prog 29 #[.agg #[.int .i64 f.1, .string ⟨f.2.toArray⟩], .pointer (some ⟨p, 0, none⟩)] w fun e w' => e = .returned (.bool (!rightF f)) ∧ Below w.heap.size w w' := by
  have HC := Lib.hid (fun W => right_calls f W)
  obtain ⟨t, s⟩ := f
  have hlt := World.block_lt_of_cell? w _ hp
  unfold rightV at hp
  simp only at HC ⊢
  generalize rightF (t, s) = bb at *
  have B0 := (Below.refl w.heap.size w).alloc (Nat.le_refl _) (.cells #[.int .i64 t, .string ⟨s.toArray⟩] 39)
  go_enter Tryd.func29, Tryd.ntmps29
  go_wp2_with (go_at_call 19; refine (HC.out _).mono ?_; rintro e w2 ⟨rfl, b2⟩; have B2 := B0.trans (b2.mono B0.size))
  go_ret
  exact ⟨rfl, B2⟩
set_option maxHeartbeats 1000000 in
theorem indexFunc_calls (fs : List Fld) (a : Option Addr) (cap p : Nat) (w : World) (hl : fs.length ≤ 9223372036854775807) (hat : At w a (fcells fs)) (hp : w.cell? ⟨p, 0, none⟩ = some rightV) :
    Calls Tryd.prog 46 #[.slice a fs.length cap, .func (.func 29) #[] #[.pointer (some ⟨p, 0, none⟩)]] w fun e w' => ∃ r : Int, e = .returned (.int .i64 r) ∧ decide (0 ≤ r) = badF fs ∧ Below w.heap.size w w' := by
  have HP := Lib.hid (fun f W h => pred_calls f p W h)
  go_enter Tryd.func46, Tryd.ntmps46
  go_wp2_with fail
  go_loopw [8] (fun i wr => ∃ k : Nat, k ≤ fs.length ∧ i = .int .i64 k ∧ At wr a (fcells fs) ∧ wr.cell? ⟨p, 0, none⟩ = some rightV ∧ Below w.heap.size w wr ∧ Hid (∀ f ∈ fs.take k, rightF f = true)) (fun i _ => fs.length - (intOf i).toNat)
  case atStart => exact ⟨0, Nat.zero_le _, rfl, hat, hp, Below.refl _ _, by simp [Hid]⟩
  case round =>
    clear hat hp
    obtain ⟨k, hk, rfl, hA, hp, hB, HR⟩ := hrel
    by_cases hlt : k < fs.length
    · obtain ⟨b, off, rfl, c0, c1⟩ := fld_at hA k hlt
      have C := fun W h => HP.out fs[k] W h
      have hT := Lib.hid (fun h => badF_true hlt h)
      have hN := Lib.hid (show rightF fs[k] = true → ∀ f ∈ fs.take (k + 1), rightF f = true by
        intro h f hf
        rw [List.take_succ_eq_append_getElem hlt] at hf
        rcases List.mem_append.1 hf with hf | hf
        · exact HR.out f hf
        · rw [List.mem_singleton.1 hf]; exact h)
      have HA := Lib.hid hA
      have HB := Lib.hid hB
      have HPp := Lib.hid hp
      clear HR hA hB hp
      generalize fs[k] = f at *
      obtain ⟨t, s⟩ := f
      simp only at c0 c1 C
      have C := Lib.hid C
      cases hr : rightF (t, s) with
      | true =>
        have HX := Lib.hid (hN.out hr)
        rw [hr] at C
        clear hT hN hr
        go_wp2_with (go_at_call 29; refine (C.out _ HPp.out).mono ?_; rintro e w2 ⟨rfl, b2⟩)
        go_roundw
        case rel => exact ⟨k + 1, by omega, by go_num, HA.out.keep b2, (b2.cell (World.block_lt_of_cell? wr _ HPp.out)).trans HPp.out, HB.out.trans (b2.mono HB.out.size), HX.out⟩
        case measure => simp [intOf]; omega
      | false =>
        have HX := Lib.hid (hT.out hr)
        rw [hr] at C
        clear hT hN hr
        go_wp2_with (go_at_call 29; refine (C.out _ HPp.out).mono ?_; rintro e w2 ⟨rfl, b2⟩)
        go_ret
        exact ⟨_, rfl, by rw [HX.out]; simp, HB.out.trans (b2.mono HB.out.size)⟩
    · have hkk : k = fs.length := by omega
      subst hkk
      have HX := Lib.hid (badF_none HR.out)
      clear HR
      go_wp2_with fail
      go_ret
      exact ⟨_, rfl, by rw [HX.out]; simp, hB⟩
theorem containsFunc_calls (fs : List Fld) (a : Option Addr) (cap p : Nat) (w : World) (hl : fs.length ≤ 9223372036854775807) (hat : At w a (fcells fs)) (hp : w.cell? ⟨p, 0, none⟩ = some rightV) :
    Calls Tryd.prog 28 #[.slice a fs.length cap, .func (.func 29) #[] #[.pointer (some ⟨p, 0, none⟩)]] w fun e w' => e = .returned (.bool (badF fs)) ∧ Below w.heap.size w w' := by
  have C := Lib.hid (indexFunc_calls fs a cap p w hl hat hp)
  clear hat hp
  go_enter Tryd.func28, Tryd.ntmps28
  go_wp2_with (go_at_call 46; refine C.out.mono ?_; rintro e w2 ⟨r, rfl, hr, b2⟩; have HR := Lib.hid hr; clear hr)
  go_ret
  exact ⟨ret_bool (by rw [← HR.out]), b2⟩
theorem isAll_calls (fs : List Fld) (a : Option Addr) (cap : Nat) (w : World) (hl : fs.length ≤ 9223372036854775807) (hat : At w a (fcells fs)) :
    Calls Tryd.prog 18 #[.slice a fs.length cap, .func (.func 19) #[] #[]] w fun e w' => e = .returned (.bool (!badF fs)) ∧ Below w.heap.size w w' := by
  have B0 := (Below.refl w.heap.size w).alloc (Nat.le_refl _) (.cells #[rightV] 47)
  have X := Box.new w 47 #[rightV]
  have C := Lib.hid (containsFunc_calls fs a cap w.heap.size _ hl (hat.keep ((Below.refl _ w).alloc (Nat.le_refl _) (.cells #[rightV] 47))) (X.cell 0))
  unfold rightV at C B0
  clear X hat
  go_enter Tryd.func18, Tryd.ntmps18
  go_wp2_with (go_at_call 28; refine C.out.mono ?_; rintro e w2 ⟨rfl, b2⟩; have B2 := B0.trans (b2.mono B0.size))
  go_ret
  exact ⟨rfl, B2⟩
end Go.Proofs.YtckcnenhnniogaaDoor.TagW
