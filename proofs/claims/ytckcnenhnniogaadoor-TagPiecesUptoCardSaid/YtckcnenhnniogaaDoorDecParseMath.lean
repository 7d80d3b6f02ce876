/- What Parse answers; the scan of the document's Parse; the library's words. No program in sight. -/
import Derived.Test.YtckcnenhnniogaaDoorDecMath
import Derived.Lib.SlTrimSet
import Derived.Lib.ParseIntB
set_option linter.unusedSimpArgs false
set_option linter.unusedVariables false
namespace Go.Proofs.YtckcnenhnniogaaDoor.DecM
open Go.Lib

def M10 : Nat := 461168601842738790
def Max : Nat := 4611686018427387904
def negT (t : List UInt8) : Bool := t.head? == some 45
def restT (t : List UInt8) : List UInt8 := if negT t then t.tail else t
def wholeT (r : List UInt8) : List UInt8 := r.takeWhile (· != 46)
def pointT (r : List UInt8) : Bool := decide ((wholeT r).length < r.length)
def partT (r : List UInt8) : List UInt8 := r.drop ((wholeT r).length + 1)
def digs (l : List UInt8) : Bool := !l.isEmpty && l.all isD
def badW (r : List UInt8) : Bool := !digs (wholeT r) || (decide (1 < (wholeT r).length) && (wholeT r).head? == some 48)
def badP (r : List UInt8) (p : Nat) : Bool := pointT r && (!digs (partT r) || decide (p < (partT r).length))
def badN (t : List UInt8) : Bool := negT t && decide (val (wholeT (restT t) ++ partT (restT t)) = 0)
def bad (t : List UInt8) (p : Nat) : Bool := badW (restT t) || badP (restT t) p || badN t
def amt (r : List UInt8) (p : Nat) : Nat := val (wholeT r ++ partT r) * 10 ^ (p - (partT r).length)
def parseF (t : List UInt8) (p : Nat) : Int × Int :=
  if bad t p then (0, 11) else if Max < amt (restT t) p then (0, 4) else (if negT t then -(amt (restT t) p : Int) else (amt (restT t) p : Int), 0)

theorem split_of {w q : List UInt8} (hw : w.all isD = true) : wholeT (w ++ 46 :: q) = w ∧ partT (w ++ 46 :: q) = q ∧ pointT (w ++ 46 :: q) = true := by
  have h1 : wholeT (w ++ 46 :: q) = w := by
    unfold wholeT
    rw [List.takeWhile_append_of_pos]
    · simp
    · intro b hb
      have := isD_iff.1 (List.all_eq_true.1 hw b hb)
      simp
      rintro rfl
      simp at this
  refine ⟨h1, ?_, ?_⟩
  · unfold partT; rw [h1]
    rw [show w.length + 1 = (w ++ [46]).length by simp, show w ++ 46 :: q = (w ++ [46]) ++ q by simp, List.drop_left]
  · unfold pointT; rw [h1]; simp
theorem split_none {w : List UInt8} (hw : w.all isD = true) : wholeT w = w ∧ partT w = [] ∧ pointT w = false := by
  have h1 : wholeT w = w := by
    unfold wholeT
    have h2 := List.takeWhile_append_of_pos (p := (· != (46 : UInt8))) (l₁ := w) (l₂ := []) (by
      intro b hb
      have := isD_iff.1 (List.all_eq_true.1 hw b hb)
      simp
      rintro rfl
      simp at this)
    simpa using h2
  refine ⟨h1, ?_, ?_⟩
  · unfold partT; rw [h1]; simp
  · unfold pointT; rw [h1]; simp
/-- a text is its parts -/
theorem split_eq (r : List UInt8) : (pointT r = true ∧ r = wholeT r ++ 46 :: partT r) ∨ (pointT r = false ∧ r = wholeT r ∧ partT r = []) := by
  unfold pointT partT
  have hle : (wholeT r).length ≤ r.length := by unfold wholeT; exact (List.takeWhile_prefix _).length_le
  have hp : wholeT r <+: r := List.takeWhile_prefix _
  obtain ⟨s, hs⟩ := hp
  by_cases h : (wholeT r).length < r.length
  · refine .inl ⟨by simp [h], ?_⟩
    cases s with
    | nil => rw [List.append_nil] at hs; rw [hs] at h; omega
    | cons b s =>
      have hb : b = 46 := by
        have h1 : (r.takeWhile (· != 46)) ++ (r.dropWhile (· != 46)) = r := List.takeWhile_append_dropWhile
        have h2 : r.dropWhile (· != 46) = b :: s := by
          have : wholeT r ++ r.dropWhile (· != 46) = wholeT r ++ (b :: s) := by rw [hs]; exact h1
          exact List.append_cancel_left this
        have h3 := List.head?_dropWhile_not (fun x : UInt8 => x != 46) r
        rw [h2] at h3
        simpa using h3
      subst hb
      have e : r.drop ((wholeT r).length + 1) = s := by
        have h9 : (wholeT r ++ 46 :: s).drop ((wholeT r).length + 1) = s := by
          rw [show (wholeT r).length + 1 = (wholeT r ++ [46]).length by simp, show wholeT r ++ 46 :: s = (wholeT r ++ [46]) ++ s by simp, List.drop_left]
        rwa [hs] at h9
      rw [e]; exact hs.symm
  · refine .inr ⟨by simp [h], ?_, ?_⟩
    · cases s with
      | nil => rw [List.append_nil] at hs; exact hs.symm
      | cons b s => have := congrArg List.length hs; simp at this; omega
    · exact List.drop_of_length_le (by omega)

/-! ### the scan -/
def Acc (V : Nat) (x : Int) (over : Bool) : Prop := (over = false ∧ x = V ∧ V ≤ 10 * M10 + 9) ∨ (over = true ∧ Max < V)
theorem acc_digit {V : Nat} {x : Int} {d : Nat} (h : Acc V x false) (hd : d ≤ 9) : (decide ((M10 : Int) < x) = true → ∀ y, Acc (V * 10 + d) y true) ∧ (decide ((M10 : Int) < x) = false → Acc (V * 10 + d) (x * 10 + d) false) := by
  unfold M10
  rcases h with ⟨_, rfl, h⟩ | ⟨h, _⟩
  · refine ⟨fun h1 y => .inr ⟨rfl, ?_⟩, fun h1 => .inl ⟨rfl, by simp, ?_⟩⟩
    · have := of_decide_eq_true h1; unfold Max; omega
    · have := of_decide_eq_false h1; unfold M10; omega
  · cases h
theorem acc_over {V : Nat} {x : Int} {d : Nat} (h : Acc V x true) (y : Int) : Acc (V * 10 + d) y true := by
  rcases h with ⟨h, _⟩ | ⟨_, h⟩
  · cases h
  · exact .inr ⟨rfl, by omega⟩
theorem acc_bound {V : Nat} {x : Int} (h : Acc V x false) : 0 ≤ x ∧ x ≤ 4611686018427387909 := by
  rcases h with ⟨_, rfl, h⟩ | ⟨h, _⟩
  · unfold M10 at h; omega
  · cases h
theorem acc_zero : Acc 0 0 false := .inl ⟨rfl, rfl, by omega⟩

structure Scan (u : List UInt8) (wh pt : Int) (ov : Bool) (x : Int) : Prop where
  ex : ∃ w q : List UInt8, w.all isD = true ∧ q.all isD = true ∧ wh = w.length ∧ Acc (val (w ++ q)) x ov ∧ ((pt = -1 ∧ u = w ∧ q = []) ∨ (pt = q.length ∧ u = w ++ 46 :: q ∧ w ≠ []))
theorem Scan.nil : Scan [] 0 (-1) false 0 := ⟨[], [], rfl, rfl, rfl, acc_zero, .inl ⟨rfl, rfl, rfl⟩⟩
theorem Scan.bounds {u : List UInt8} {wh pt : Int} {ov : Bool} {x : Int} (h : Scan u wh pt ov x) : 0 ≤ wh ∧ wh ≤ u.length ∧ -1 ≤ pt ∧ pt ≤ u.length := by
  obtain ⟨w, q, _, _, rfl, _, ⟨rfl, rfl, rfl⟩ | ⟨rfl, rfl, _⟩⟩ := h.ex
  · omega
  · simp; omega
theorem Scan.acc {u : List UInt8} {wh pt : Int} {x : Int} (h : Scan u wh pt false x) : 0 ≤ x ∧ x ≤ 4611686018427387909 := by
  obtain ⟨w, q, _, _, rfl, ha, _⟩ := h.ex
  exact acc_bound ha
theorem Scan.dot {u : List UInt8} {wh pt : Int} {ov : Bool} {x : Int} (h : Scan u wh pt ov x) (h1 : pt < 0) (h2 : 0 < wh) : Scan (u ++ [46]) wh 0 ov x := by
  obtain ⟨w, q, hw, hq, rfl, ha, ⟨rfl, rfl, rfl⟩ | ⟨rfl, rfl, _⟩⟩ := h.ex
  · exact ⟨u, [], hw, rfl, rfl, ha, .inr ⟨rfl, rfl, by rintro rfl; simp at h2⟩⟩
  · omega
theorem Scan.digit {u : List UInt8} {wh pt : Int} {ov ov' : Bool} {x x' : Int} {c : UInt8} (h : Scan u wh pt ov x) (hc : isD c = true) (ha : ∀ V, Acc V x ov → Acc (V * 10 + (c.toNat - 48)) x' ov') :
    (0 ≤ pt → Scan (u ++ [c]) wh (pt + 1) ov' x') ∧ (pt < 0 → Scan (u ++ [c]) (wh + 1) pt ov' x') := by
  obtain ⟨w, q, hw, hq, rfl, h0, ⟨rfl, rfl, rfl⟩ | ⟨rfl, rfl, hne⟩⟩ := h.ex
  · refine ⟨fun h => absurd h (by omega), fun _ => ⟨u ++ [c], [], by simp [hc]; simpa using hw, rfl, by simp, ?_, .inl ⟨rfl, rfl, rfl⟩⟩⟩
    rw [List.append_nil, val_snoc]
    rw [List.append_nil] at h0
    exact ha _ h0
  · refine ⟨fun _ => ⟨w, q ++ [c], hw, by simp [hc]; simpa using hq, rfl, ?_, .inr ⟨by simp, by simp, hne⟩⟩, fun h => absurd h (by omega)⟩
    rw [← List.append_assoc, val_snoc]
    exact ha _ h0
theorem scan_ov {x : Int} {d : Nat} (y : Int) : ∀ V, Acc V x true → Acc (V * 10 + d) y true := fun _ h => acc_over h y
theorem scan_to {x : Int} {d : Nat} (hd : d ≤ 9) (h : decide ((M10 : Int) < x) = true) (y : Int) : ∀ V, Acc V x false → Acc (V * 10 + d) y true := fun _ ha => (acc_digit ha hd).1 h y
theorem scan_on {x : Int} {d : Nat} (hd : d ≤ 9) (h : decide ((M10 : Int) < x) = false) : ∀ V, Acc V x false → Acc (V * 10 + d) (x * 10 + d) false := fun _ ha => (acc_digit ha hd).2 h

theorem digs_false_of {l : List UInt8} {c : UInt8} (h : c ∈ l) (hc : isD c = false) : digs l = false := by
  unfold digs
  have : l.all isD = false := by rw [List.all_eq_false]; exact ⟨c, h, by simp [hc]⟩
  simp [this]
/-- a byte that does not fit makes the text bad -/
theorem Scan.stuck {u r : List UInt8} {wh pt : Int} {ov : Bool} {x : Int} {c : UInt8} (h : Scan u wh pt ov x) (hp : u ++ [c] <+: r) (hc : isD c = false) (hd : ¬ (c = 46 ∧ pt < 0 ∧ 0 < wh)) (t : List UInt8) (hr : restT t = r) (p : Nat) : parseF t p = (0, 11) := by
  have key : badW r = true ∨ badP r p = true := by
    obtain ⟨s, hs⟩ := hp
    obtain ⟨w, q, hw, hq, rfl, h0, ⟨rfl, rfl, rfl⟩ | ⟨rfl, rfl, hne⟩⟩ := h.ex
    · by_cases hc6 : c = 46
      · have hu : u = [] := by
          cases u with
          | nil => rfl
          | cons b l => exact absurd ⟨hc6, by omega, by simp⟩ hd
        subst hu hc6
        refine .inl ?_
        have : wholeT r = [] := by rw [← hs]; rfl
        unfold badW digs
        rw [this]; rfl
      · refine .inl ?_
        have hin : c ∈ wholeT r := by
          rw [← hs]
          unfold wholeT
          rw [List.append_assoc, List.takeWhile_append_of_pos]
          · simp [hc6]
          · intro b hb
            have := isD_iff.1 (List.all_eq_true.1 hw b hb)
            simp
            rintro rfl
            simp at this
        unfold badW
        rw [digs_false_of hin hc]; rfl
    · refine .inr ?_
      have e : r = w ++ 46 :: (q ++ [c] ++ s) := by rw [← hs]; simp
      obtain ⟨_, h2, h3⟩ := split_of (w := w) (q := q ++ [c] ++ s) hw
      rw [← e] at h2 h3
      unfold badP
      rw [h2, h3, digs_false_of (c := c) (by simp) hc]; rfl
  unfold parseF bad
  rw [hr]
  rcases key with h | h <;> simp [h]
/-- what the scan has found at its end -/
theorem Scan.done {r : List UInt8} {wh pt : Int} {ov : Bool} {x : Int} (h : Scan r wh pt ov x) :
    wh = (wholeT r).length ∧ (wholeT r).all isD = true ∧ (partT r).all isD = true ∧ pointT r = decide (0 ≤ pt) ∧ (if pt < 0 then 0 else pt) = (partT r).length ∧ Acc (val (wholeT r ++ partT r)) x ov := by
  obtain ⟨w, q, hw, hq, rfl, h0, ⟨rfl, rfl, rfl⟩ | ⟨rfl, rfl, hne⟩⟩ := h.ex
  · obtain ⟨h1, h2, h3⟩ := split_none hw
    rw [h1, h2, h3]
    exact ⟨rfl, hw, rfl, by simp, by simp, h0⟩
  · obtain ⟨h1, h2, h3⟩ := split_of (q := q) hw
    rw [h1, h2, h3]
    exact ⟨rfl, hw, hq, by simp, by rw [if_neg (by omega)], h0⟩
/-- the document's last test is 'bad' -/
def lastTest (wh pt : Int) (p : Nat) (z : Bool) (neg : Bool) (x : Int) (ov : Bool) : Bool :=
  ((((decide (wh = 0) || decide (pt = 0)) || decide ((p : Int) < pt)) || (decide (1 < wh) && z)) || ((neg && decide (x = 0)) && !ov))
theorem Scan.last {t r : List UInt8} {wh pt : Int} {ov : Bool} {x : Int} (hr : restT t = r) (h : Scan r wh pt ov x) (p : Nat) : bad t p = lastTest wh pt p (r.head? == some 48) (negT t) x ov := by
  obtain ⟨h1, h2, h3, h4, h5, h6⟩ := h.done
  have hz : ((wholeT r).length > 1) → (wholeT r).head? = r.head? := by
    intro hl
    rcases split_eq r with ⟨_, e⟩ | ⟨_, e, _⟩
    · conv => rhs; rw [e]
      generalize wholeT r = w at hl ⊢
      cases w with
      | nil => simp at hl
      | cons b l => rfl
    · rw [← e]
  have hx : (val (wholeT r ++ partT r) = 0) ↔ (x = 0 ∧ ov = false) := by
    rcases h6 with ⟨ho, hx, _⟩ | ⟨ho, hv⟩
    · rw [hx, ho]; simp
    · rw [ho]; simp
      unfold Max at hv; omega
  unfold bad badW badP badN lastTest digs
  rw [hr, h4, h2, h3, h1]
  rw [Bool.eq_iff_iff]
  by_cases hp : 0 ≤ pt
  · have h5' : pt = (partT r).length := by rw [if_neg (by omega)] at h5; exact h5
    simp only [Bool.and_true, Bool.not_not, Bool.or_eq_true, Bool.and_eq_true, List.isEmpty_iff, decide_eq_true_eq, beq_iff_eq, hx, Bool.not_eq_true', hp, true_and, decide_true]
    rw [h5']
    have e1 : ((wholeT r).length : Int) = 0 ↔ wholeT r = [] := by simp
    have e2 : ((partT r).length : Int) = 0 ↔ partT r = [] := by simp
    rw [e1, e2]
    constructor
    · intro hh
      rcases hh with ((h | ⟨h, h'⟩) | h | h) | ⟨h, h', h''⟩
      · exact .inl (.inl (.inl (.inl h)))
      · exact .inl (.inr ⟨by omega, by rw [← hz h]; exact h'⟩)
      · exact .inl (.inl (.inl (.inr h)))
      · exact .inl (.inl (.inr (by omega)))
      · exact .inr ⟨⟨h, h'⟩, h''⟩
    · intro hh
      rcases hh with (((h | h) | h) | ⟨h, h'⟩) | ⟨⟨h, h'⟩, h''⟩
      · exact .inl (.inl (.inl h))
      · exact .inl (.inr (.inl h))
      · exact .inl (.inr (.inr (by omega)))
      · exact .inl (.inl (.inr ⟨by omega, by rw [hz (by omega)]; exact h'⟩))
      · exact .inr ⟨h, h', h''⟩
  · have hd : decide (0 ≤ pt) = false := decide_eq_false hp
    simp only [Bool.and_true, Bool.not_not, Bool.or_eq_true, Bool.and_eq_true, List.isEmpty_iff, decide_eq_true_eq, beq_iff_eq, hx, Bool.not_eq_true', hd, Bool.false_and, Bool.false_eq_true, or_false]
    have e1 : ((wholeT r).length : Int) = 0 ↔ wholeT r = [] := by simp
    rw [e1]
    constructor
    · intro hh
      rcases hh with (h | ⟨h, h'⟩) | ⟨h, h', h''⟩
      · exact .inl (.inl (.inl (.inl h)))
      · exact .inl (.inr ⟨by omega, by rw [← hz h]; exact h'⟩)
      · exact .inr ⟨⟨h, h'⟩, h''⟩
    · intro hh
      rcases hh with (((h | h) | h) | ⟨h, h'⟩) | ⟨⟨h, h'⟩, h''⟩
      · exact .inl (.inl h)
      · omega
      · omega
      · exact .inl (.inr ⟨by omega, by rw [hz (by omega)]; exact h'⟩)
      · exact .inr ⟨h, h', h''⟩
theorem acc_end {V : Nat} {x : Int} {ov : Bool} (h : Acc V x ov) : (ov || decide ((Max : Int) < x)) = decide (Max < V) ∧ ((ov || decide ((Max : Int) < x)) = false → x = V) := by
  rcases h with ⟨rfl, rfl, _⟩ | ⟨rfl, h⟩
  · simp
  · simp [h]

/-! ### the library's words -/
theorem trim_nil (l cs : List UInt8) : trimS l cs = [] ↔ ∀ b ∈ l, b ∈ cs := by
  have key : ∀ (l : List UInt8), l.dropWhile (cs.contains ·) = [] ↔ ∀ b ∈ l, b ∈ cs := by
    intro l
    induction l with
    | nil => simp
    | cons b l ih =>
      rw [List.dropWhile_cons]
      by_cases h : cs.contains b = true
      · rw [if_pos h, ih]
        have : b ∈ cs := by simpa using h
        simp [this]
      · rw [if_neg h]
        have : b ∉ cs := by simpa using h
        simp [this]
  unfold trimS trimLeftS trimRightS
  rw [key]
  simp only [List.mem_reverse]
  constructor
  · intro h b hb
    have h2 : (l.reverse.takeWhile (cs.contains ·)) ++ (l.reverse.dropWhile (cs.contains ·)) = l.reverse := List.takeWhile_append_dropWhile
    have hb' : b ∈ l.reverse := by simpa using hb
    rw [← h2, List.mem_append] at hb'
    rcases hb' with h3 | h3
    · have := List.all_eq_true.1 (List.all_takeWhile (p := (cs.contains ·)) (l := l.reverse)) b h3
      simpa using this
    · exact h b h3
  · intro h b hb
    have h2 : b ∈ l.reverse := List.dropWhile_sublist _ |>.mem hb
    exact h b (by simpa using h2)
def tenD : List UInt8 := [48, 49, 50, 51, 52, 53, 54, 55, 56, 57]
theorem mem_ten (b : UInt8) : b ∈ tenD ↔ isD b = true := by
  rw [isD_iff]
  unfold tenD
  constructor
  · intro h
    simp only [List.mem_cons, List.not_mem_nil, or_false] at h
    rcases h with rfl | rfl | rfl | rfl | rfl | rfl | rfl | rfl | rfl | rfl <;> decide
  · intro h
    have : b.toNat = 48 ∨ b.toNat = 49 ∨ b.toNat = 50 ∨ b.toNat = 51 ∨ b.toNat = 52 ∨ b.toNat = 53 ∨ b.toNat = 54 ∨ b.toNat = 55 ∨ b.toNat = 56 ∨ b.toNat = 57 := by omega
    simp only [List.mem_cons, List.not_mem_nil, or_false, ← UInt8.toNat_inj]
    exact this
theorem trim_ten (l : List UInt8) : trimS l tenD = [] ↔ l.all isD = true := by
  rw [trim_nil, List.all_eq_true]
  exact ⟨fun h b hb => (mem_ten b).1 (h b hb), fun h b hb => (mem_ten b).2 (h b hb)⟩
theorem val_all_zero : ∀ (l : List UInt8), l.all isD = true → (val l = 0 ↔ ∀ b ∈ l, b = 48)
  | [], _ => by simp [val_nil]
  | b :: l, h => by
    rw [List.all_cons, Bool.and_eq_true] at h
    have ih := val_all_zero l h.2
    have hb := isD_iff.1 h.1
    rw [val_cons, Nat.add_eq_zero_iff, ih, Nat.mul_eq_zero]
    have : (10 : Nat) ^ l.length ≠ 0 := Nat.ne_of_gt (Nat.pow_pos (by decide))
    simp only [this, or_false, List.forall_mem_cons]
    constructor
    · rintro ⟨h1, h2⟩
      exact ⟨UInt8.toNat_inj.1 (by have : (48 : UInt8).toNat = 48 := rfl; omega), h2⟩
    · rintro ⟨h1, h2⟩
      exact ⟨by rw [h1]; rfl, h2⟩
theorem trim_zero {r : List UInt8} (hw : (wholeT r).all isD = true) (hq : (partT r).all isD = true) : trimS r [48, 46] = [] ↔ val (wholeT r ++ partT r) = 0 := by
  rw [trim_nil, val_all_zero _ (by rw [List.all_append, hw, hq]; rfl)]
  have h46 : ∀ b ∈ wholeT r ++ partT r, b ≠ 46 := by
    intro b hb
    have : isD b = true := by
      rcases List.mem_append.1 hb with h | h
      · exact List.all_eq_true.1 hw b h
      · exact List.all_eq_true.1 hq b h
    rintro rfl
    exact absurd this (by decide)
  have hm : ∀ b, b ∈ r ↔ b ∈ wholeT r ++ partT r ∨ (pointT r = true ∧ b = 46) := by
    intro b
    rcases split_eq r with ⟨h1, e⟩ | ⟨h1, e, h2⟩
    · rw [h1]
      conv => lhs; rw [e]
      simp
      constructor
      · rintro (h | h | h)
        · exact .inl (.inl h)
        · exact .inr h
        · exact .inl (.inr h)
      · rintro ((h | h) | h)
        · exact .inl h
        · exact .inr (.inr h)
        · exact .inr (.inl h)
    · rw [h1, h2, List.append_nil, ← e]; simp
  constructor
  · intro h b hb
    have := h b ((hm b).2 (.inl hb))
    simp only [List.mem_cons, List.not_mem_nil, or_false] at this
    exact this.resolve_right (h46 b hb)
  · intro h b hb
    rcases (hm b).1 hb with h1 | ⟨_, h1⟩
    · rw [h b h1]; simp
    · rw [h1]; simp
theorem val_drop : ∀ (l : List UInt8), val (trimLeftS l [48]) = val l
  | [] => rfl
  | b :: l => by
    unfold trimLeftS
    rw [List.dropWhile_cons]
    by_cases h : [48].contains b = true
    · rw [if_pos h]
      have hb : b = 48 := by simpa using h
      have := val_drop l
      unfold trimLeftS at this
      rw [this, val_cons, hb]
      simp
    · rw [if_neg h]
theorem drop_digits (l : List UInt8) (h : l.all isD = true) : (trimLeftS l [48]).all isD = true := by
  unfold trimLeftS
  rw [List.all_eq_true] at h ⊢
  exact fun b hb => h b ((List.dropWhile_sublist _).mem hb)
theorem drop_head (l : List UInt8) : (trimLeftS l [48]).head? ≠ some 48 := by
  unfold trimLeftS
  have := List.head?_dropWhile_not (fun x : UInt8 => [48].contains x) l
  intro h
  rw [h] at this
  simp at this
theorem big_val {l : List UInt8} (h : l.all isD = true) (h0 : l.head? ≠ some 48) (hl : l ≠ []) : 10 ^ (l.length - 1) ≤ val l := by
  have h1 := nd_val l h hl (.inr h0)
  by_cases h2 : 1 < nDigits (val l)
  · have := nd_low _ h2
    rwa [h1] at this
  · have : l.length = 1 := by have := List.length_pos_iff.2 hl; omega
    rw [this]
    match l, hl with
    | b :: m, _ =>
      have hm : m = [] := List.eq_nil_of_length_eq_zero (by simpa using this)
      subst hm
      have hb := isD_iff.1 (by simpa using h : isD b = true)
      have : b.toNat ≠ 48 := fun e => h0 (by simp; exact UInt8.toNat_inj.1 (by rw [e]; rfl))
      rw [val_cons]; simp [val_nil]; omega
theorem uint_ok : ∀ (l : List UInt8) (a : Nat), l.all isD = true → valA a l ≤ 2 ^ 64 - 1 → parseUintM (2 ^ 64 - 1) a l = .ok (valA a l)
  | [], _, _, _ => rfl
  | b :: l, a, h, hv => by
    rw [List.all_cons, Bool.and_eq_true] at h
    have hb := isD_iff.1 h.1
    rw [valA_cons] at hv ⊢
    have hv2 := hv
    rw [valA_eq] at hv2
    have h1 : 1 ≤ 10 ^ l.length := Nat.one_le_pow _ _ (by decide)
    have h2 : (a * 10 + (b.toNat - 48)) * 1 ≤ (a * 10 + (b.toNat - 48)) * 10 ^ l.length := Nat.mul_le_mul_left _ h1
    have ih := uint_ok l (a * 10 + (b.toNat - 48)) h.2 hv
    unfold parseUintM
    rw [if_pos hb, if_neg (by omega), if_neg (by omega), ih]
theorem uint_of {l : List UInt8} (h : l.all isD = true) (h0 : l ≠ []) (hl : l.length ≤ 19) : parseUintB 64 l = .ok (val l) := by
  unfold parseUintB
  rw [if_neg h0]
  refine uint_ok l 0 h ?_
  have h1 := val_lt l h
  have h2 : 10 ^ l.length ≤ 10 ^ 19 := Nat.pow_le_pow_right (by decide) hl
  unfold val at h1
  omega
/-- the text of digits that Parse makes -/
def allT (r : List UInt8) (p : Nat) : List UInt8 := trimLeftS (wholeT r ++ partT r ++ repeatL [48] (p - (partT r).length)) [48]
theorem all_ok {r : List UInt8} {p : Nat} (hw : (wholeT r).all isD = true) (hq : (partT r).all isD = true) :
    (allT r p).all isD = true ∧ val (allT r p) = amt r p ∧ (allT r p = [] ↔ amt r p = 0) ∧ (19 < (allT r p).length → Max < amt r p) := by
  have hz : repeatL [48] (p - (partT r).length) = List.replicate (p - (partT r).length) 48 := by
    have := repeatL_replicate 48 1 (p - (partT r).length)
    rwa [Nat.mul_one] at this
  have h1 : (wholeT r ++ partT r ++ repeatL [48] (p - (partT r).length)).all isD = true := by
    rw [List.all_append, List.all_append, hw, hq, hz]
    simp
    exact .inr (by decide)
  have h2 : val (allT r p) = amt r p := by
    unfold allT amt
    rw [val_drop, val_append, hz, val_zeros, List.length_replicate, Nat.add_zero]
  have h3 : (allT r p).all isD = true := drop_digits _ h1
  refine ⟨h3, h2, ⟨fun h => by rw [← h2, h]; rfl, fun h => ?_⟩, fun h => ?_⟩
  · cases hc : allT r p with
    | nil => rfl
    | cons b m =>
      have := big_val h3 (drop_head _) (by rw [hc]; simp)
      rw [h2, h] at this
      have h4 : 0 < 10 ^ ((allT r p).length - 1) := Nat.pow_pos (by decide)
      omega
  · have h4 := big_val h3 (drop_head _) (by intro e; rw [e] at h; simp at h)
    rw [h2] at h4
    have h5 : 10 ^ 19 ≤ 10 ^ ((allT r p).length - 1) := Nat.pow_le_pow_right (by decide) (by omega)
    unfold Max
    omega
end Go.Proofs.YtckcnenhnniogaaDoor.DecM
