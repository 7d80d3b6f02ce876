/- slices.IndexFunc and slices.ContainsFunc at each list of a ledger, for a closure whose contract is handed in. Written by genfinds.py. -/
import Derived.Test.YtocjfjikkdpfdaaGreatDoorLedLists
set_option linter.unusedSimpArgs false
set_option linter.unusedVariables false
namespace Go.Proofs.YtocjfjikkdpfdaaGreatDoor.LedW
open Go.RowKit Go.Proofs.YtocjfjikkdpfdaaGreatDoor.Bas Go.Proofs.YtocjfjikkdpfdaaGreatDoor.LedM

theorem ret_int {a b : Int} (h : a = b) : Ending.returned (.int .i64 a) = .returned (.int .i64 b) := by rw [h]
/-- the first place; -1 where there is none -/
def idxF {α : Type} (p : α → Bool) (xs : List α) : Int := match xs.findIdx? p with | some i => (i : Int) | none => -1
theorem idxF_at {α : Type} {p : α → Bool} {xs : List α} {k : Nat} (hk : k < xs.length) (h : ∀ x ∈ xs.take k, p x = false) (hp : p xs[k] = true) : idxF p xs = k := by
  have : xs.findIdx? p = some k := by
    rw [List.findIdx?_eq_some_iff_getElem]
    refine ⟨hk, hp, fun j hj => ?_⟩
    have := h xs[j] (List.mem_take_iff_getElem.2 ⟨j, by omega, rfl⟩)
    simp [this]
  unfold idxF
  rw [this]
theorem idxF_none {α : Type} {p : α → Bool} {xs : List α} (h : ∀ x ∈ xs, p x = false) : idxF p xs = -1 := by
  have : xs.findIdx? p = none := by
    rw [List.findIdx?_eq_none_iff]
    exact h
  unfold idxF
  rw [this]
theorem idxF_any {α : Type} (p : α → Bool) (xs : List α) : decide (0 ≤ idxF p xs) = xs.any p := by
  unfold idxF
  cases h : xs.findIdx? p with
  | none =>
    rw [List.findIdx?_eq_none_iff] at h
    have : xs.any p = false := by rw [List.any_eq_false]; intro x hx; simp [h x hx]
    rw [this]; rfl
  | some i =>
    rw [List.findIdx?_eq_some_iff_getElem] at h
    obtain ⟨hi, hp, _⟩ := h
    have : xs.any p = true := List.any_eq_true.2 ⟨_, List.getElem_mem hi, hp⟩
    rw [this]; simp
theorem take_no {α : Type} {p : α → Bool} {xs : List α} {k : Nat} (hk : k < xs.length) (h : ∀ x ∈ xs.take k, p x = false) (hp : p xs[k] = false) : ∀ x ∈ xs.take (k + 1), p x = false := by
  intro x hx
  rw [List.take_succ_eq_append_getElem hk] at hx
  rcases List.mem_append.1 hx with hx | hx
  · exact h x hx
  · rw [List.mem_singleton.1 hx]; exact hp
/-- what a call of the closure answers, at every element -/
def Asks (P : Program) (f : FuncId) (caps : Array Value) {α : Type} (v : α → Value) (p : α → Bool) (xs : List α) (Inv : World → Prop) : Prop :=
  ∀ x ∈ xs, ∀ W, Inv W → Calls P f (#[v x] ++ caps) W fun e W' => e = .returned (.bool (p x)) ∧ Below W.heap.size W W'
def Keeps (Inv : World → Prop) : Prop := ∀ A B, Inv A → Below A.heap.size A B → Inv B

def undV (x : Und) : Value := .agg (undC x).toArray
def insV (x : Ins) : Value := .agg (insC x).toArray
def ordV (x : Ord) : Value := .agg (ordC x).toArray
def posV (x : Tri) : Value := .agg (triC x).toArray
def intV (x : Int) : Value := .int .i64 x
set_option maxHeartbeats 1000000 in
theorem index_named (a : Option Addr) (cap : Nat) (xs : List (Und)) (g1 : Nat) (p : Und → Bool) (Inv : World → Prop) (w : World) (hl : xs.length ≤ 9223372036854775807) (hat : At w a (xs.flatMap undC)) (hi : Inv w) (hk : Keeps Inv)
    (HP : Asks Tryz.prog 91 #[.pointer (some ⟨g1, 0, none⟩)] undV p xs Inv) :
    Calls Tryz.prog 90 #[.slice a xs.length cap, .func (.func 91) #[] #[.pointer (some ⟨g1, 0, none⟩)]] w fun e w' => e = .returned (.int .i64 (idxF p xs)) ∧ Below w.heap.size w w' := by
  have HK := Lib.hid hk
  have HQ := Lib.hid HP
  clear hk HP
  go_enter Tryz.func90, Tryz.ntmps90
  go_wp2_with fail
  go_loopw [8] (fun i wr => ∃ k : Nat, k ≤ xs.length ∧ i = .int .i64 k ∧ At wr a (xs.flatMap undC) ∧ Inv wr ∧ Below w.heap.size w wr ∧ Hid (∀ x ∈ xs.take k, p x = false)) (fun i _ => xs.length - (intOf i).toNat)
  case atStart => exact ⟨0, Nat.zero_le _, rfl, hat, hi, Below.refl _ _, by simp [Hid]⟩
  case round =>
    clear hat hi
    obtain ⟨k, hk, rfl, hA, hi, hB, HR⟩ := hrel
    have HI := Lib.hid hi
    have HB := Lib.hid hB
    have HA := Lib.hid hA
    clear hi hB
    by_cases hlt : k < xs.length
    · have C := Lib.hid (HQ.out xs[k] (List.getElem_mem hlt))
      have HT := Lib.hid (fun h => idxF_at hlt HR.out h)
      have HN := Lib.hid (fun h => take_no hlt HR.out h)
      obtain ⟨b, off, rfl, C1⟩ := rec_at len_und (by decide) hA hlt
      clear HR hA
      generalize xs[k] = x at *
      obtain ⟨x0, x1, x2, x3⟩ := x
      have c0 := C1 0 _ rfl
      have c1 := C1 1 _ rfl
      have c2 := C1 2 _ rfl
      have c3 := C1 3 _ rfl
      clear C1
      simp only [← Nat.add_assoc, Nat.add_zero] at c0 c1 c2 c3
      cases hr : p ⟨x0, x1, x2, x3⟩ with
      | false =>
        have HX := Lib.hid (HN.out hr)
        rw [hr] at C
        clear HT HN hr
        go_wp2_with (go_at_call 91; refine (C.out _ HI.out).mono ?_; rintro e w2 ⟨rfl, b2⟩)
        go_roundw
        case rel => exact ⟨k + 1, by omega, by go_num, HA.out.keep b2, HK.out _ _ HI.out b2, HB.out.trans (b2.mono HB.out.size), HX⟩
        case measure => simp [intOf]; omega
      | true =>
        have HX := Lib.hid (HT.out hr)
        rw [hr] at C
        clear HT HN hr
        go_wp2_with (go_at_call 91; refine (C.out _ HI.out).mono ?_; rintro e w2 ⟨rfl, b2⟩)
        go_ret
        exact ⟨ret_int HX.out.symm, HB.out.trans (b2.mono HB.out.size)⟩
    · have hkk : k = xs.length := by omega
      subst hkk
      have HX := Lib.hid (idxF_none (p := p) (xs := xs) (fun x hx => HR.out x (by rw [List.take_length]; exact hx)))
      clear HR
      go_wp2_with fail
      go_ret
      exact ⟨ret_int HX.out.symm, HB.out⟩

set_option maxHeartbeats 1000000 in
theorem index_instrs (a : Option Addr) (cap : Nat) (xs : List (Ins)) (g1 : Nat) (p : Ins → Bool) (Inv : World → Prop) (w : World) (hl : xs.length ≤ 9223372036854775807) (hat : At w a (xs.flatMap insC)) (hi : Inv w) (hk : Keeps Inv)
    (HP : Asks Tryz.prog 64 #[.pointer (some ⟨g1, 0, none⟩)] insV p xs Inv) :
    Calls Tryz.prog 92 #[.slice a xs.length cap, .func (.func 64) #[] #[.pointer (some ⟨g1, 0, none⟩)]] w fun e w' => e = .returned (.int .i64 (idxF p xs)) ∧ Below w.heap.size w w' := by
  have HK := Lib.hid hk
  have HQ := Lib.hid HP
  clear hk HP
  go_enter Tryz.func92, Tryz.ntmps92
  go_wp2_with fail
  go_loopw [8] (fun i wr => ∃ k : Nat, k ≤ xs.length ∧ i = .int .i64 k ∧ At wr a (xs.flatMap insC) ∧ Inv wr ∧ Below w.heap.size w wr ∧ Hid (∀ x ∈ xs.take k, p x = false)) (fun i _ => xs.length - (intOf i).toNat)
  case atStart => exact ⟨0, Nat.zero_le _, rfl, hat, hi, Below.refl _ _, by simp [Hid]⟩
  case round =>
    clear hat hi
    obtain ⟨k, hk, rfl, hA, hi, hB, HR⟩ := hrel
    have HI := Lib.hid hi
    have HB := Lib.hid hB
    have HA := Lib.hid hA
    clear hi hB
    by_cases hlt : k < xs.length
    · have C := Lib.hid (HQ.out xs[k] (List.getElem_mem hlt))
      have HT := Lib.hid (fun h => idxF_at hlt HR.out h)
      have HN := Lib.hid (fun h => take_no hlt HR.out h)
      obtain ⟨b, off, rfl, C1⟩ := rec_at len_ins (by decide) hA hlt
      clear HR hA
      generalize xs[k] = x at *
      obtain ⟨x0, x1, x2, x3, x4, x5, x6⟩ := x
      have c0 := C1 0 _ rfl
      have c1 := C1 1 _ rfl
      have c2 := C1 2 _ rfl
      have c3 := C1 3 _ rfl
      have c4 := C1 4 _ rfl
      have c5 := C1 5 _ rfl
      have c6 := C1 6 _ rfl
      clear C1
      simp only [← Nat.add_assoc, Nat.add_zero] at c0 c1 c2 c3 c4 c5 c6
      cases hr : p ⟨x0, x1, x2, x3, x4, x5, x6⟩ with
      | false =>
        have HX := Lib.hid (HN.out hr)
        rw [hr] at C
        clear HT HN hr
        go_wp2_with (go_at_call 64; refine (C.out _ HI.out).mono ?_; rintro e w2 ⟨rfl, b2⟩)
        go_roundw
        case rel => exact ⟨k + 1, by omega, by go_num, HA.out.keep b2, HK.out _ _ HI.out b2, HB.out.trans (b2.mono HB.out.size), HX⟩
        case measure => simp [intOf]; omega
      | true =>
        have HX := Lib.hid (HT.out hr)
        rw [hr] at C
        clear HT HN hr
        go_wp2_with (go_at_call 64; refine (C.out _ HI.out).mono ?_; rintro e w2 ⟨rfl, b2⟩)
        go_ret
        exact ⟨ret_int HX.out.symm, HB.out.trans (b2.mono HB.out.size)⟩
    · have hkk : k = xs.length := by omega
      subst hkk
      have HX := Lib.hid (idxF_none (p := p) (xs := xs) (fun x hx => HR.out x (by rw [List.take_length]; exact hx)))
      clear HR
      go_wp2_with fail
      go_ret
      exact ⟨ret_int HX.out.symm, HB.out⟩

theorem contains_instrs (a : Option Addr) (cap : Nat) (xs : List (Ins)) (g1 : Nat) (p : Ins → Bool) (Inv : World → Prop) (w : World) (hl : xs.length ≤ 9223372036854775807) (hat : At w a (xs.flatMap insC)) (hi : Inv w) (hk : Keeps Inv)
    (HP : Asks Tryz.prog 64 #[.pointer (some ⟨g1, 0, none⟩)] insV p xs Inv) :
    Calls Tryz.prog 63 #[.slice a xs.length cap, .func (.func 64) #[] #[.pointer (some ⟨g1, 0, none⟩)]] w fun e w' => e = .returned (.bool (xs.any p)) ∧ Below w.heap.size w w' := by
  have C := Lib.hid (index_instrs a cap xs g1 p Inv w hl hat hi hk HP)
  have HX := Lib.hid (idxF_any p xs)
  clear hat hi hk HP
  generalize idxF p xs = r at C HX
  generalize xs.any p = b at HX ⊢
  go_enter Tryz.func63, Tryz.ntmps63
  go_wp2_with (go_at_call 92; refine C.out.mono ?_; rintro e w2 ⟨rfl, b2⟩)
  go_ret
  exact ⟨ret_bool (by simpa using HX.out), b2⟩

set_option maxHeartbeats 1000000 in
theorem index_good (a : Option Addr) (cap : Nat) (xs : List (Ord)) (g1 : Nat) (p : Ord → Bool) (Inv : World → Prop) (w : World) (hl : xs.length ≤ 9223372036854775807) (hat : At w a (xs.flatMap ordC)) (hi : Inv w) (hk : Keeps Inv)
    (HP : Asks Tryz.prog 43 #[.pointer (some ⟨g1, 0, none⟩)] ordV p xs Inv) :
    Calls Tryz.prog 82 #[.slice a xs.length cap, .func (.func 43) #[] #[.pointer (some ⟨g1, 0, none⟩)]] w fun e w' => e = .returned (.int .i64 (idxF p xs)) ∧ Below w.heap.size w w' := by
  have HK := Lib.hid hk
  have HQ := Lib.hid HP
  clear hk HP
  go_enter Tryz.func82, Tryz.ntmps82
  go_wp2_with fail
  go_loopw [8] (fun i wr => ∃ k : Nat, k ≤ xs.length ∧ i = .int .i64 k ∧ At wr a (xs.flatMap ordC) ∧ Inv wr ∧ Below w.heap.size w wr ∧ Hid (∀ x ∈ xs.take k, p x = false)) (fun i _ => xs.length - (intOf i).toNat)
  case atStart => exact ⟨0, Nat.zero_le _, rfl, hat, hi, Below.refl _ _, by simp [Hid]⟩
  case round =>
    clear hat hi
    obtain ⟨k, hk, rfl, hA, hi, hB, HR⟩ := hrel
    have HI := Lib.hid hi
    have HB := Lib.hid hB
    have HA := Lib.hid hA
    clear hi hB
    by_cases hlt : k < xs.length
    · have C := Lib.hid (HQ.out xs[k] (List.getElem_mem hlt))
      have HT := Lib.hid (fun h => idxF_at hlt HR.out h)
      have HN := Lib.hid (fun h => take_no hlt HR.out h)
      obtain ⟨b, off, rfl, C1⟩ := rec_at len_ord (by decide) hA hlt
      clear HR hA
      generalize xs[k] = x at *
      obtain ⟨x0, x1, x2, x3, x4⟩ := x
      have c0 := C1 0 _ rfl
      have c1 := C1 1 _ rfl
      have c2 := C1 2 _ rfl
      have c3 := C1 3 _ rfl
      have c4 := C1 4 _ rfl
      clear C1
      simp only [← Nat.add_assoc, Nat.add_zero] at c0 c1 c2 c3 c4
      cases hr : p ⟨x0, x1, x2, x3, x4⟩ with
      | false =>
        have HX := Lib.hid (HN.out hr)
        rw [hr] at C
        clear HT HN hr
        go_wp2_with (go_at_call 43; refine (C.out _ HI.out).mono ?_; rintro e w2 ⟨rfl, b2⟩)
        go_roundw
        case rel => exact ⟨k + 1, by omega, by go_num, HA.out.keep b2, HK.out _ _ HI.out b2, HB.out.trans (b2.mono HB.out.size), HX⟩
        case measure => simp [intOf]; omega
      | true =>
        have HX := Lib.hid (HT.out hr)
        rw [hr] at C
        clear HT HN hr
        go_wp2_with (go_at_call 43; refine (C.out _ HI.out).mono ?_; rintro e w2 ⟨rfl, b2⟩)
        go_ret
        exact ⟨ret_int HX.out.symm, HB.out.trans (b2.mono HB.out.size)⟩
    · have hkk : k = xs.length := by omega
      subst hkk
      have HX := Lib.hid (idxF_none (p := p) (xs := xs) (fun x hx => HR.out x (by rw [List.take_length]; exact hx)))
      clear HR
      go_wp2_with fail
      go_ret
      exact ⟨ret_int HX.out.symm, HB.out⟩

theorem contains_good (a : Option Addr) (cap : Nat) (xs : List (Ord)) (g1 : Nat) (p : Ord → Bool) (Inv : World → Prop) (w : World) (hl : xs.length ≤ 9223372036854775807) (hat : At w a (xs.flatMap ordC)) (hi : Inv w) (hk : Keeps Inv)
    (HP : Asks Tryz.prog 43 #[.pointer (some ⟨g1, 0, none⟩)] ordV p xs Inv) :
    Calls Tryz.prog 42 #[.slice a xs.length cap, .func (.func 43) #[] #[.pointer (some ⟨g1, 0, none⟩)]] w fun e w' => e = .returned (.bool (xs.any p)) ∧ Below w.heap.size w w' := by
  have C := Lib.hid (index_good a cap xs g1 p Inv w hl hat hi hk HP)
  have HX := Lib.hid (idxF_any p xs)
  clear hat hi hk HP
  generalize idxF p xs = r at C HX
  generalize xs.any p = b at HX ⊢
  go_enter Tryz.func42, Tryz.ntmps42
  go_wp2_with (go_at_call 82; refine C.out.mono ?_; rintro e w2 ⟨rfl, b2⟩)
  go_ret
  exact ⟨ret_bool (by simpa using HX.out), b2⟩

set_option maxHeartbeats 1000000 in
theorem index_poss (a : Option Addr) (cap : Nat) (xs : List (Tri)) (g1 g2 : Nat) (p : Tri → Bool) (Inv : World → Prop) (w : World) (hl : xs.length ≤ 9223372036854775807) (hat : At w a (xs.flatMap triC)) (hi : Inv w) (hk : Keeps Inv)
    (HP : Asks Tryz.prog 71 #[.pointer (some ⟨g1, 0, none⟩), .pointer (some ⟨g2, 0, none⟩)] posV p xs Inv) :
    Calls Tryz.prog 97 #[.slice a xs.length cap, .func (.func 71) #[] #[.pointer (some ⟨g1, 0, none⟩), .pointer (some ⟨g2, 0, none⟩)]] w fun e w' => e = .returned (.int .i64 (idxF p xs)) ∧ Below w.heap.size w w' := by
  have HK := Lib.hid hk
  have HQ := Lib.hid HP
  clear hk HP
  go_enter Tryz.func97, Tryz.ntmps97
  go_wp2_with fail
  go_loopw [8] (fun i wr => ∃ k : Nat, k ≤ xs.length ∧ i = .int .i64 k ∧ At wr a (xs.flatMap triC) ∧ Inv wr ∧ Below w.heap.size w wr ∧ Hid (∀ x ∈ xs.take k, p x = false)) (fun i _ => xs.length - (intOf i).toNat)
  case atStart => exact ⟨0, Nat.zero_le _, rfl, hat, hi, Below.refl _ _, by simp [Hid]⟩
  case round =>
    clear hat hi
    obtain ⟨k, hk, rfl, hA, hi, hB, HR⟩ := hrel
    have HI := Lib.hid hi
    have HB := Lib.hid hB
    have HA := Lib.hid hA
    clear hi hB
    by_cases hlt : k < xs.length
    · have C := Lib.hid (HQ.out xs[k] (List.getElem_mem hlt))
      have HT := Lib.hid (fun h => idxF_at hlt HR.out h)
      have HN := Lib.hid (fun h => take_no hlt HR.out h)
      obtain ⟨b, off, rfl, C1⟩ := rec_at len_pos (by decide) hA hlt
      clear HR hA
      generalize xs[k] = x at *
      obtain ⟨x0, x1, x2⟩ := x
      have c0 := C1 0 _ rfl
      have c1 := C1 1 _ rfl
      have c2 := C1 2 _ rfl
      clear C1
      simp only [← Nat.add_assoc, Nat.add_zero] at c0 c1 c2
      cases hr : p ⟨x0, x1, x2⟩ with
      | false =>
        have HX := Lib.hid (HN.out hr)
        rw [hr] at C
        clear HT HN hr
        go_wp2_with (go_at_call 71; refine (C.out _ HI.out).mono ?_; rintro e w2 ⟨rfl, b2⟩)
        go_roundw
        case rel => exact ⟨k + 1, by omega, by go_num, HA.out.keep b2, HK.out _ _ HI.out b2, HB.out.trans (b2.mono HB.out.size), HX⟩
        case measure => simp [intOf]; omega
      | true =>
        have HX := Lib.hid (HT.out hr)
        rw [hr] at C
        clear HT HN hr
        go_wp2_with (go_at_call 71; refine (C.out _ HI.out).mono ?_; rintro e w2 ⟨rfl, b2⟩)
        go_ret
        exact ⟨ret_int HX.out.symm, HB.out.trans (b2.mono HB.out.size)⟩
    · have hkk : k = xs.length := by omega
      subst hkk
      have HX := Lib.hid (idxF_none (p := p) (xs := xs) (fun x hx => HR.out x (by rw [List.take_length]; exact hx)))
      clear HR
      go_wp2_with fail
      go_ret
      exact ⟨ret_int HX.out.symm, HB.out⟩

theorem contains_poss (a : Option Addr) (cap : Nat) (xs : List (Tri)) (g1 g2 : Nat) (p : Tri → Bool) (Inv : World → Prop) (w : World) (hl : xs.length ≤ 9223372036854775807) (hat : At w a (xs.flatMap triC)) (hi : Inv w) (hk : Keeps Inv)
    (HP : Asks Tryz.prog 71 #[.pointer (some ⟨g1, 0, none⟩), .pointer (some ⟨g2, 0, none⟩)] posV p xs Inv) :
    Calls Tryz.prog 76 #[.slice a xs.length cap, .func (.func 71) #[] #[.pointer (some ⟨g1, 0, none⟩), .pointer (some ⟨g2, 0, none⟩)]] w fun e w' => e = .returned (.bool (xs.any p)) ∧ Below w.heap.size w w' := by
  have C := Lib.hid (index_poss a cap xs g1 g2 p Inv w hl hat hi hk HP)
  have HX := Lib.hid (idxF_any p xs)
  clear hat hi hk HP
  generalize idxF p xs = r at C HX
  generalize xs.any p = b at HX ⊢
  go_enter Tryz.func76, Tryz.ntmps76
  go_wp2_with (go_at_call 97; refine C.out.mono ?_; rintro e w2 ⟨rfl, b2⟩)
  go_ret
  exact ⟨ret_bool (by simpa using HX.out), b2⟩

set_option maxHeartbeats 1000000 in
theorem index_orders (a : Option Addr) (cap : Nat) (xs : List (Ord)) (g1 g2 : Nat) (p : Ord → Bool) (Inv : World → Prop) (w : World) (hl : xs.length ≤ 9223372036854775807) (hat : At w a (xs.flatMap ordC)) (hi : Inv w) (hk : Keeps Inv)
    (HP : Asks Tryz.prog 77 #[.pointer (some ⟨g1, 0, none⟩), .pointer (some ⟨g2, 0, none⟩)] ordV p xs Inv) :
    Calls Tryz.prog 82 #[.slice a xs.length cap, .func (.func 77) #[] #[.pointer (some ⟨g1, 0, none⟩), .pointer (some ⟨g2, 0, none⟩)]] w fun e w' => e = .returned (.int .i64 (idxF p xs)) ∧ Below w.heap.size w w' := by
  have HK := Lib.hid hk
  have HQ := Lib.hid HP
  clear hk HP
  go_enter Tryz.func82, Tryz.ntmps82
  go_wp2_with fail
  go_loopw [8] (fun i wr => ∃ k : Nat, k ≤ xs.length ∧ i = .int .i64 k ∧ At wr a (xs.flatMap ordC) ∧ Inv wr ∧ Below w.heap.size w wr ∧ Hid (∀ x ∈ xs.take k, p x = false)) (fun i _ => xs.length - (intOf i).toNat)
  case atStart => exact ⟨0, Nat.zero_le _, rfl, hat, hi, Below.refl _ _, by simp [Hid]⟩
  case round =>
    clear hat hi
    obtain ⟨k, hk, rfl, hA, hi, hB, HR⟩ := hrel
    have HI := Lib.hid hi
    have HB := Lib.hid hB
    have HA := Lib.hid hA
    clear hi hB
    by_cases hlt : k < xs.length
    · have C := Lib.hid (HQ.out xs[k] (List.getElem_mem hlt))
      have HT := Lib.hid (fun h => idxF_at hlt HR.out h)
      have HN := Lib.hid (fun h => take_no hlt HR.out h)
      obtain ⟨b, off, rfl, C1⟩ := rec_at len_ord (by decide) hA hlt
      clear HR hA
      generalize xs[k] = x at *
      obtain ⟨x0, x1, x2, x3, x4⟩ := x
      have c0 := C1 0 _ rfl
      have c1 := C1 1 _ rfl
      have c2 := C1 2 _ rfl
      have c3 := C1 3 _ rfl
      have c4 := C1 4 _ rfl
      clear C1
      simp only [← Nat.add_assoc, Nat.add_zero] at c0 c1 c2 c3 c4
      cases hr : p ⟨x0, x1, x2, x3, x4⟩ with
      | false =>
        have HX := Lib.hid (HN.out hr)
        rw [hr] at C
        clear HT HN hr
        go_wp2_with (go_at_call 77; refine (C.out _ HI.out).mono ?_; rintro e w2 ⟨rfl, b2⟩)
        go_roundw
        case rel => exact ⟨k + 1, by omega, by go_num, HA.out.keep b2, HK.out _ _ HI.out b2, HB.out.trans (b2.mono HB.out.size), HX⟩
        case measure => simp [intOf]; omega
      | true =>
        have HX := Lib.hid (HT.out hr)
        rw [hr] at C
        clear HT HN hr
        go_wp2_with (go_at_call 77; refine (C.out _ HI.out).mono ?_; rintro e w2 ⟨rfl, b2⟩)
        go_ret
        exact ⟨ret_int HX.out.symm, HB.out.trans (b2.mono HB.out.size)⟩
    · have hkk : k = xs.length := by omega
      subst hkk
      have HX := Lib.hid (idxF_none (p := p) (xs := xs) (fun x hx => HR.out x (by rw [List.take_length]; exact hx)))
      clear HR
      go_wp2_with fail
      go_ret
      exact ⟨ret_int HX.out.symm, HB.out⟩

theorem contains_orders (a : Option Addr) (cap : Nat) (xs : List (Ord)) (g1 g2 : Nat) (p : Ord → Bool) (Inv : World → Prop) (w : World) (hl : xs.length ≤ 9223372036854775807) (hat : At w a (xs.flatMap ordC)) (hi : Inv w) (hk : Keeps Inv)
    (HP : Asks Tryz.prog 77 #[.pointer (some ⟨g1, 0, none⟩), .pointer (some ⟨g2, 0, none⟩)] ordV p xs Inv) :
    Calls Tryz.prog 42 #[.slice a xs.length cap, .func (.func 77) #[] #[.pointer (some ⟨g1, 0, none⟩), .pointer (some ⟨g2, 0, none⟩)]] w fun e w' => e = .returned (.bool (xs.any p)) ∧ Below w.heap.size w w' := by
  have C := Lib.hid (index_orders a cap xs g1 g2 p Inv w hl hat hi hk HP)
  have HX := Lib.hid (idxF_any p xs)
  clear hat hi hk HP
  generalize idxF p xs = r at C HX
  generalize xs.any p = b at HX ⊢
  go_enter Tryz.func42, Tryz.ntmps42
  go_wp2_with (go_at_call 82; refine C.out.mono ?_; rintro e w2 ⟨rfl, b2⟩)
  go_ret
  exact ⟨ret_bool (by simpa using HX.out), b2⟩

set_option maxHeartbeats 1000000 in
theorem index_cash (a : Option Addr) (cap : Nat) (xs : List (Int)) (p : Int → Bool) (Inv : World → Prop) (w : World) (hl : xs.length ≤ 9223372036854775807) (hat : At w a (i64s xs)) (hi : Inv w) (hk : Keeps Inv)
    (HP : Asks Tryz.prog 69 #[] intV p xs Inv) :
    Calls Tryz.prog 93 #[.slice a xs.length cap, .func (.func 69) #[] #[]] w fun e w' => e = .returned (.int .i64 (idxF p xs)) ∧ Below w.heap.size w w' := by
  have HK := Lib.hid hk
  have HQ := Lib.hid HP
  clear hk HP
  go_enter Tryz.func93, Tryz.ntmps93
  go_wp2_with fail
  go_loopw [8] (fun i wr => ∃ k : Nat, k ≤ xs.length ∧ i = .int .i64 k ∧ At wr a (i64s xs) ∧ Inv wr ∧ Below w.heap.size w wr ∧ Hid (∀ x ∈ xs.take k, p x = false)) (fun i _ => xs.length - (intOf i).toNat)
  case atStart => exact ⟨0, Nat.zero_le _, rfl, hat, hi, Below.refl _ _, by simp [Hid]⟩
  case round =>
    clear hat hi
    obtain ⟨k, hk, rfl, hA, hi, hB, HR⟩ := hrel
    have HI := Lib.hid hi
    have HB := Lib.hid hB
    have HA := Lib.hid hA
    clear hi hB
    by_cases hlt : k < xs.length
    · have C := Lib.hid (HQ.out xs[k] (List.getElem_mem hlt))
      have HT := Lib.hid (fun h => idxF_at hlt HR.out h)
      have HN := Lib.hid (fun h => take_no hlt HR.out h)
      obtain ⟨b, off, rfl, c0⟩ := hA k _ (i64s_get xs k hlt)
      clear HR hA
      generalize xs[k] = x at *
      cases hr : p x with
      | false =>
        have HX := Lib.hid (HN.out hr)
        rw [hr] at C
        clear HT HN hr
        go_wp2_with (go_at_call 69; refine (C.out _ HI.out).mono ?_; rintro e w2 ⟨rfl, b2⟩)
        go_roundw
        case rel => exact ⟨k + 1, by omega, by go_num, HA.out.keep b2, HK.out _ _ HI.out b2, HB.out.trans (b2.mono HB.out.size), HX⟩
        case measure => simp [intOf]; omega
      | true =>
        have HX := Lib.hid (HT.out hr)
        rw [hr] at C
        clear HT HN hr
        go_wp2_with (go_at_call 69; refine (C.out _ HI.out).mono ?_; rintro e w2 ⟨rfl, b2⟩)
        go_ret
        exact ⟨ret_int HX.out.symm, HB.out.trans (b2.mono HB.out.size)⟩
    · have hkk : k = xs.length := by omega
      subst hkk
      have HX := Lib.hid (idxF_none (p := p) (xs := xs) (fun x hx => HR.out x (by rw [List.take_length]; exact hx)))
      clear HR
      go_wp2_with fail
      go_ret
      exact ⟨ret_int HX.out.symm, HB.out⟩

theorem contains_cash (a : Option Addr) (cap : Nat) (xs : List (Int)) (p : Int → Bool) (Inv : World → Prop) (w : World) (hl : xs.length ≤ 9223372036854775807) (hat : At w a (i64s xs)) (hi : Inv w) (hk : Keeps Inv)
    (HP : Asks Tryz.prog 69 #[] intV p xs Inv) :
    Calls Tryz.prog 68 #[.slice a xs.length cap, .func (.func 69) #[] #[]] w fun e w' => e = .returned (.bool (xs.any p)) ∧ Below w.heap.size w w' := by
  have C := Lib.hid (index_cash a cap xs p Inv w hl hat hi hk HP)
  have HX := Lib.hid (idxF_any p xs)
  clear hat hi hk HP
  generalize idxF p xs = r at C HX
  generalize xs.any p = b at HX ⊢
  go_enter Tryz.func68, Tryz.ntmps68
  go_wp2_with (go_at_call 93; refine C.out.mono ?_; rintro e w2 ⟨rfl, b2⟩)
  go_ret
  exact ⟨ret_bool (by simpa using HX.out), b2⟩

set_option maxHeartbeats 1000000 in
theorem index_avail (a : Option Addr) (cap : Nat) (xs : List (Int)) (p : Int → Bool) (Inv : World → Prop) (w : World) (hl : xs.length ≤ 9223372036854775807) (hat : At w a (i64s xs)) (hi : Inv w) (hk : Keeps Inv)
    (HP : Asks Tryz.prog 80 #[] intV p xs Inv) :
    Calls Tryz.prog 93 #[.slice a xs.length cap, .func (.func 80) #[] #[]] w fun e w' => e = .returned (.int .i64 (idxF p xs)) ∧ Below w.heap.size w w' := by
  have HK := Lib.hid hk
  have HQ := Lib.hid HP
  clear hk HP
  go_enter Tryz.func93, Tryz.ntmps93
  go_wp2_with fail
  go_loopw [8] (fun i wr => ∃ k : Nat, k ≤ xs.length ∧ i = .int .i64 k ∧ At wr a (i64s xs) ∧ Inv wr ∧ Below w.heap.size w wr ∧ Hid (∀ x ∈ xs.take k, p x = false)) (fun i _ => xs.length - (intOf i).toNat)
  case atStart => exact ⟨0, Nat.zero_le _, rfl, hat, hi, Below.refl _ _, by simp [Hid]⟩
  case round =>
    clear hat hi
    obtain ⟨k, hk, rfl, hA, hi, hB, HR⟩ := hrel
    have HI := Lib.hid hi
    have HB := Lib.hid hB
    have HA := Lib.hid hA
    clear hi hB
    by_cases hlt : k < xs.length
    · have C := Lib.hid (HQ.out xs[k] (List.getElem_mem hlt))
      have HT := Lib.hid (fun h => idxF_at hlt HR.out h)
      have HN := Lib.hid (fun h => take_no hlt HR.out h)
      obtain ⟨b, off, rfl, c0⟩ := hA k _ (i64s_get xs k hlt)
      clear HR hA
      generalize xs[k] = x at *
      cases hr : p x with
      | false =>
        have HX := Lib.hid (HN.out hr)
        rw [hr] at C
        clear HT HN hr
        go_wp2_with (go_at_call 80; refine (C.out _ HI.out).mono ?_; rintro e w2 ⟨rfl, b2⟩)
        go_roundw
        case rel => exact ⟨k + 1, by omega, by go_num, HA.out.keep b2, HK.out _ _ HI.out b2, HB.out.trans (b2.mono HB.out.size), HX⟩
        case measure => simp [intOf]; omega
      | true =>
        have HX := Lib.hid (HT.out hr)
        rw [hr] at C
        clear HT HN hr
        go_wp2_with (go_at_call 80; refine (C.out _ HI.out).mono ?_; rintro e w2 ⟨rfl, b2⟩)
        go_ret
        exact ⟨ret_int HX.out.symm, HB.out.trans (b2.mono HB.out.size)⟩
    · have hkk : k = xs.length := by omega
      subst hkk
      have HX := Lib.hid (idxF_none (p := p) (xs := xs) (fun x hx => HR.out x (by rw [List.take_length]; exact hx)))
      clear HR
      go_wp2_with fail
      go_ret
      exact ⟨ret_int HX.out.symm, HB.out⟩

theorem contains_avail (a : Option Addr) (cap : Nat) (xs : List (Int)) (p : Int → Bool) (Inv : World → Prop) (w : World) (hl : xs.length ≤ 9223372036854775807) (hat : At w a (i64s xs)) (hi : Inv w) (hk : Keeps Inv)
    (HP : Asks Tryz.prog 80 #[] intV p xs Inv) :
    Calls Tryz.prog 68 #[.slice a xs.length cap, .func (.func 80) #[] #[]] w fun e w' => e = .returned (.bool (xs.any p)) ∧ Below w.heap.size w w' := by
  have C := Lib.hid (index_avail a cap xs p Inv w hl hat hi hk HP)
  have HX := Lib.hid (idxF_any p xs)
  clear hat hi hk HP
  generalize idxF p xs = r at C HX
  generalize xs.any p = b at HX ⊢
  go_enter Tryz.func68, Tryz.ntmps68
  go_wp2_with (go_at_call 93; refine C.out.mono ?_; rintro e w2 ⟨rfl, b2⟩)
  go_ret
  exact ⟨ret_bool (by simpa using HX.out), b2⟩

end Go.Proofs.YtocjfjikkdpfdaaGreatDoor.LedW
