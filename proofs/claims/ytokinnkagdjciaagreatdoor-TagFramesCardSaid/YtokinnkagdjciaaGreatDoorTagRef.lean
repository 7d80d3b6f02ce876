/- The walks of the document's right, Body and Valid. -/
import Derived.Test.YtokinnkagdjciaaGreatDoorTagBody
namespace Go.Proofs.YtokinnkagdjciaaGreatDoor.TagW
open Go.RowKit Go.Proofs.YtokinnkagdjciaaGreatDoor.Bas Go.Proofs.YtokinnkagdjciaaGreatDoor.FixpW Go.Proofs.YtokinnkagdjciaaGreatDoor.DecW Go.Proofs.YtokinnkagdjciaaGreatDoor.FldW Go.Proofs.YtokinnkagdjciaaGreatDoor.TagM

/-- between two bytes of a text -/
def ScanT (l : List UInt8) (W : World) (i : Value) (wr : World) : Prop := ∃ n : Nat, n ≤ l.length ∧ i = .int .i64 n ∧ (∀ m (h : m < l.length), m < n → l[m] ≠ 1) ∧ wr = W
theorem ScanT.mk {l : List UInt8} {W : World} {n : Nat} (h1 : n ≤ l.length) (h2 : ∀ m (h : m < l.length), m < n → l[m] ≠ 1) : ScanT l W (.int .i64 n) W := ⟨n, h1, rfl, h2, rfl⟩
theorem byte_1 {c : UInt8} : ((c.toNat : Int) == 1) = decide (c = 1) := by
  rw [Bool.eq_iff_iff]
  simp
  constructor
  · intro h; exact UInt8.toNat_inj.1 (by have : (1 : UInt8).toNat = 1 := rfl; omega)
  · rintro rfl; rfl
set_option maxHeartbeats 1000000 in
theorem rright_calls (f : Fld) (w : World) (hlen : f.2.length ≤ 140737488351232) :
    Calls Tryz.prog 43 #[.agg #[.int .i64 f.1, .string ⟨f.2.toArray⟩]] w fun e w' => e = .returned (.bool (rightF f)) ∧ Below w.heap.size w w' := by
  obtain ⟨t, s⟩ := f
  simp only at hlen ⊢
  go_enter Tryz.func43, Tryz.ntmps43
  have X := Box.new w 43 #[.int .i64 t, .string ⟨s.toArray⟩]
  have B := (Below.refl w.heap.size w).alloc (Nat.le_refl _) (.cells #[.int .i64 t, .string ⟨s.toArray⟩] 43)
  go_upto_region 1 with fail
  generalize w.alloc (.cells #[.int .i64 t, .string ⟨s.toArray⟩] 43) = w1 at *
  have c0 : w1.cell? ⟨w.heap.size, 0, none⟩ = some (.int .i64 t) := X.cell 0
  have c1 : w1.cell? ⟨w.heap.size, 1, none⟩ = some (.string ⟨s.toArray⟩) := X.cell 1
  by_cases hlo : 1 ≤ t
  · by_cases hhi : t ≤ 9999
    · by_cases h8 : t = 8
      · subst h8
        go_wp2_with fail
        go_ret
        exact ⟨ret_bool (by simp [rightF]), B⟩
      by_cases h9 : t = 9
      · subst h9
        go_wp2_with fail
        go_ret
        exact ⟨ret_bool (by simp [rightF]), B⟩
      by_cases h10 : t = 10
      · subst h10
        go_wp2_with fail
        go_ret
        exact ⟨ret_bool (by simp [rightF]), B⟩
      have e8 : (t == 8) = false := by simpa using h8
      have e9 : (t == 9) = false := by simpa using h9
      have e10 : (t == 10) = false := by simpa using h10
      by_cases hs : s = []
      · subst hs
        go_wp2_with fail
        go_ret
        exact ⟨ret_bool (by simp [rightF]), B⟩
      · have hsl : ¬ ((s.length : Int) = 0) := by
          have := List.length_pos_iff.2 hs
          omega
        have hsb : ((s.length : Int) == 0) = false := by simpa using hsl
        have hR := Lib.hid (show rightF (t, s) = !decide ((1 : UInt8) ∈ s) by simp [rightF, h8, h9, h10, hlo, hhi, hs])
        have hsz : (⟨s.toArray⟩ : ByteArray).size = s.length := rfl
        clear hs h8 h9 h10
        go_wp2_with fail
        go_loopw [3] (ScanT s w1) (fun i _ => s.length - (intOf i).toNat)
        case atStart => exact ScanT.mk (Nat.zero_le _) (fun m h h0 => absurd h0 (Nat.not_lt_zero _))
        case round =>
          obtain ⟨n, hn, rfl, hno, hw⟩ := hrel
          rw [hw]
          clear hw
          by_cases hlt2 : n < s.length
          · have hlt3 : n < (⟨s.toArray⟩ : ByteArray).size := hlt2
            have hb : ((((⟨s.toArray⟩ : ByteArray)[n]'hlt3).toNat : Int) == 1) = decide (s[n] = 1) := byte_1
            by_cases h1 : s[n] = 1
            · rw [decide_eq_true h1] at hb
              have HM := Lib.hid (show (1 : UInt8) ∈ s by rw [← h1]; exact List.getElem_mem _)
              clear h1 hno
              go_wp2_with fail
              go_ret
              exact ⟨ret_bool (by rw [hR.out]; simpa using HM.out), B⟩
            · rw [decide_eq_false h1] at hb
              have HNO := Lib.hid (fun m (h : m < s.length) (hm : m < n + 1) => (by
                rcases (by omega : m < n ∨ m = n) with h2 | rfl
                · exact hno m h h2
                · exact h1 : s[m] ≠ 1))
              clear hno h1
              go_wp2_with fail
              go_roundw
              case rel => exact ScanT.mk (n := n + 1) (by omega) HNO.out
              case measure => simp [intOf]; omega
          · have hnn : n = s.length := by omega
            subst hnn
            have HM := Lib.hid (show ¬ (1 : UInt8) ∈ s from fun hm => by
              obtain ⟨m, h, e⟩ := List.getElem_of_mem hm
              exact hno m h h e)
            clear hno hlt2
            go_wp2_with fail
            go_ret
            exact ⟨ret_bool (by rw [hR.out]; simpa using HM.out), B⟩
    · go_wp2_with fail
      go_ret
      exact ⟨ret_bool (by simp [rightF]; omega), B⟩
  · go_wp2_with fail
    go_ret
    exact ⟨ret_bool (by simp [rightF]; omega), B⟩
theorem ret_int {a b : Int} (h : a = b) : Ending.returned (.int .i64 a) = .returned (.int .i64 b) := by rw [h]
theorem ret_str {S T : ByteArray} (h : S = T) : Ending.returned (.string S) = .returned (.string T) := by rw [h]
def RBodyR (w : World) (a : Option Addr) (fs : List Fld) (o i : Value) (wr : World) : Prop := ∃ (k : Nat) (S : ByteArray), k ≤ fs.length ∧ i = .int .i64 k ∧ o = .string S ∧ Hid (S = ⟨(bodyB (fs.take k)).toArray⟩) ∧ At wr a (fcells fs) ∧ Below w.heap.size w wr
theorem body_step (B A s : List UInt8) : (⟨B.toArray⟩ ++ ⟨A.toArray⟩ ++ ⟨#[61]⟩ ++ ⟨s.toArray⟩ ++ ⟨#[1]⟩ : ByteArray) = ⟨(B ++ (A ++ [61] ++ s ++ [1])).toArray⟩ := by
  apply ByteArray.ext
  simp
theorem validR_bad {f : Fld} {r : List Fld} (h : f.1 ≠ 35 ∨ badF (f :: r) = true) : validR (f :: r) = 11 := by simp only [validR]; rw [if_pos h]
theorem validR_ok {f : Fld} {r : List Fld} (h1 : f.1 = 35) (h2 : badF (f :: r) = false) : validR (f :: r) = if 4096 < (bodyB (f :: r)).length then 3 else 0 := by
  simp only [validR]
  rw [if_neg (by simp [h1, h2])]
end Go.Proofs.YtokinnkagdjciaaGreatDoor.TagW
