/- Name, of the program and of the document. -/
import Derived.Test.YtocjfjikkdpfdaaGreatDoorRefWalks
import Derived.Shelf.Strings.SlTrimAscii
set_option linter.unusedSimpArgs false
set_option linter.unusedVariables false
namespace Go.Proofs.YtocjfjikkdpfdaaGreatDoor.RefW
open Go.RowKit Go.Proofs.YtocjfjikkdpfdaaGreatDoor.Bas Go.Proofs.YtocjfjikkdpfdaaGreatDoor.FixpM Go.Proofs.YtocjfjikkdpfdaaGreatDoor.FixpW Go.Proofs.YtocjfjikkdpfdaaGreatDoor.FixpR

def capital (b : UInt8) : Bool := decide (65 ≤ b.toNat ∧ b.toNat ≤ 90)
def capitals (l : List UInt8) : Bool := l.all capital
/-- can it be a name? -/
def nameF (s : ByteArray) : Bool := decide (1 ≤ s.size ∧ s.size ≤ 8) && capitals s.data.toList
def letters : List UInt8 := [65, 66, 67, 68, 69, 70, 71, 72, 73, 74, 75, 76, 77, 78, 79, 80, 81, 82, 83, 84, 85, 86, 87, 88, 89, 90]
set_option maxRecDepth 100000 in
theorem letter_iff (b : UInt8) : letters.contains b = capital b := by
  have h : ∀ n, n < 256 → letters.contains (UInt8.ofNat n) = capital (UInt8.ofNat n) := by decide
  have := h b.toNat b.toNat_lt
  rwa [UInt8.ofNat_toNat] at this
theorem dropWhile_nil {p : UInt8 → Bool} : ∀ l : List UInt8, l.dropWhile p = [] ↔ l.all p = true
  | [] => by simp
  | x :: l => by
    simp only [List.dropWhile_cons, List.all_cons]
    cases h : p x
    · simp
    · simp [dropWhile_nil l]
theorem trim_nil (l : List UInt8) : Lib.trimS l letters = [] ↔ capitals l = true := by
  have e : (fun b => letters.contains b) = capital := funext letter_iff
  have h1 : ∀ l, Lib.trimLeftS l letters = l.dropWhile capital := fun l => by unfold Lib.trimLeftS; rw [e]
  have h2 : ∀ l, Lib.trimRightS l letters = (l.reverse.dropWhile capital).reverse := fun l => by unfold Lib.trimRightS; rw [e]
  unfold Lib.trimS
  rw [h1, h2, dropWhile_nil]
  unfold capitals
  constructor
  · intro h
    rw [List.all_reverse] at h
    have hd : l.reverse.dropWhile capital = [] := by
      generalize hm : l.reverse.dropWhile capital = m at h
      cases m with
      | nil => rfl
      | cons x m =>
        have hx := List.head?_dropWhile_not capital l.reverse
        rw [hm] at hx
        simp at hx h
        rw [hx] at h
        simp at h
    have := (dropWhile_nil l.reverse).1 hd
    rwa [List.all_reverse] at this
  · intro h
    have : l.reverse.dropWhile capital = [] := (dropWhile_nil _).2 (by rw [List.all_reverse]; exact h)
    rw [this]; rfl

theorem size_list (s : ByteArray) : s.toList.length = s.size := by rw [ByteArray.toList_eq]; rfl
theorem trim_calls (s : ByteArray) (w : World) (hs : s.size ≤ 9223372036854775807) :
    Calls Tryz.prog 100 #[.string s, .string ⟨letters.toArray⟩] w fun e w' => e = .returned (.string ⟨(Lib.trimS s.data.toList letters).toArray⟩) ∧ Below w.heap.size w w' :=
  Any.strings_Trim_laid Tryz.lays160 (by kernel_rfl) s ⟨letters.toArray⟩ w hs (by decide) (ascii_of_all (by decide))

set_option maxHeartbeats 400000 in
theorem name_calls (s : ByteArray) (w : World) (hs : s.size ≤ 9223372036854775807) :
    Calls Tryz.prog 89 #[.string s] w fun e w' => e = .returned (.bool (nameF s)) ∧ Below w.heap.size w w' := by
  have C := fun W => trim_calls s W hs
  have HS := Lib.hid (size_list s)
  have hN : nameF s = (decide (1 ≤ s.size ∧ s.size ≤ 8) && (Lib.trimS s.data.toList letters).isEmpty) := by
    unfold nameF
    congr 1
    rw [Bool.eq_iff_iff, List.isEmpty_iff]
    exact (trim_nil _).symm
  have HN := Lib.hid hN
  clear hN
  generalize Lib.trimS s.data.toList letters = r at C HN
  have D := Lib.hid C
  clear C
  go_enter Tryz.func89, Tryz.ntmps89
  go_wp2_with (go_at_call 100; refine (D.out _).mono ?_; rintro e w1 ⟨rfl, b1⟩)
  · have h : s.toList = [] := by assumption
    have hz : s.size = 0 := by rw [← HS.out, h]; rfl
    go_ret
    exact ⟨ret_bool (by rw [HN.out, hz]; rfl), Below.refl _ _⟩
  · have h : ¬ s.toList = [] := by assumption
    have h8 : (s.size : Int) ≤ 8 := by assumption
    have hz : s.size ≠ 0 := by rw [← HS.out]; intro e; exact h (List.eq_nil_of_length_eq_zero e)
    go_ret
    refine ⟨ret_bool ?_, b1⟩
    rw [HN.out, decide_eq_true (by omega)]
    simp [h]
  · have h8 : (8 : Int) < s.size := by assumption
    go_ret
    refine ⟨ret_bool ?_, Below.refl _ _⟩
    rw [HN.out, decide_eq_false (by omega)]
    rfl

theorem capitals_take (l : List UInt8) (k : Nat) (h : k < l.length) : capitals (l.take (k + 1)) = (capitals (l.take k) && capital l[k]) := by
  unfold capitals
  rw [List.take_succ_eq_append_getElem h, List.all_append]
  simp
theorem capitals_all (l : List UInt8) (k : Nat) (h : k < l.length) (hc : capital l[k] = false) : capitals l = false := by
  unfold capitals
  rw [Bool.eq_false_iff]
  intro e
  rw [List.all_eq_true] at e
  have := e l[k] (List.getElem_mem h)
  rw [hc] at this; simp at this

set_option maxHeartbeats 400000 in
theorem rname_calls (s : ByteArray) (w : World) (hs : s.size ≤ 9223372036854775807) :
    Calls Tryz.prog 83 #[.string s] w fun e w' => e = .returned (.bool (nameF s)) ∧ w = w' := by
  go_enter Tryz.func83, Tryz.ntmps83
  go_wp2_with fail
  go_loop [3] (fun i => ∃ k : Nat, k ≤ s.size ∧ i = .int .i64 k ∧ Hid (capitals (s.data.toList.take k) = true)) (fun i => s.size - (intOf i).toNat)
  case atStart => exact ⟨0, by omega, rfl, rfl⟩
  case round =>
    obtain ⟨k, hk, rfl, H⟩ := hrel
    by_cases hlt : k < s.size
    · have hl : k < s.data.toList.length := hlt
      have HT := Lib.hid (capitals_take s.data.toList k hl)
      have HA := Lib.hid (capitals_all s.data.toList k hl)
      have e : s.data.toList[k] = s[k] := rfl
      rw [e] at HT HA
      have hx : s[k].toNat < 256 := s[k].toNat_lt
      clear e
      by_cases h1 : s[k].toNat < 65
      · have HC := Lib.hid (show capital s[k] = false by simp [capital]; omega)
        go_wp2_with fail
        go_ret
        exact ⟨ret_bool (by unfold nameF; rw [HA.out HC.out, Bool.and_false]), rfl⟩
      · by_cases h2 : 90 < s[k].toNat
        · have HC := Lib.hid (show capital s[k] = false by simp [capital]; omega)
          go_wp2_with fail
          go_ret
          exact ⟨ret_bool (by unfold nameF; rw [HA.out HC.out, Bool.and_false]), rfl⟩
        · have HC := Lib.hid (show capital s[k] = true by simp [capital]; omega)
          go_wp2_with fail
          go_round
          case rel => exact ⟨k + 1, by omega, by go_num, by show capitals _ = true; rw [HT.out, H.out, HC.out]; rfl⟩
          case measure => simp [intOf]; omega
    · have hc : capitals s.data.toList = true := by
        have := H.out
        rwa [List.take_of_length_le (by show s.data.toList.length ≤ k; have : s.data.toList.length = s.size := rfl; omega)] at this
      have HN := Lib.hid (show nameF s = decide (1 ≤ s.size ∧ s.size ≤ 8) by unfold nameF; rw [hc, Bool.and_true])
      clear hc
      go_wp2_with fail
      all_goals
        go_ret
        exact ⟨ret_bool (by rw [HN.out, Bool.eq_iff_iff]; simp; try omega), rfl⟩

theorem name_ibm : nameF ⟨#[73, 66, 77]⟩ = true := by decide
theorem name_low : nameF ⟨#[105, 98, 109]⟩ = false := by decide
theorem worth_w : worthF 1500000 1000 7 = (9, 0) ∧ worthF 1500000 1000 (-7) = (-13, 0) := by decide

end Go.Proofs.YtocjfjikkdpfdaaGreatDoor.RefW
