/- What readings answer of writings, and the way back; what the laws share; the reader of ledgers walked; Read. -/
import Derived.Test.YtocjfjikkdpfdaaGreatDoorImgD
set_option linter.unusedSimpArgs false
set_option linter.unusedVariables false
namespace Go.Proofs.YtocjfjikkdpfdaaGreatDoor.ImgW
open Go.RowKit Go.Proofs.YtocjfjikkdpfdaaGreatDoor.Bas Go.Proofs.YtocjfjikkdpfdaaGreatDoor.LedM Go.Proofs.YtocjfjikkdpfdaaGreatDoor.LedW

/-- bytes are read as this, whatever stands behind; each beginning of them is short -/
structure Reads {α : Type} (rd : List UInt8 → Except Int (α × List UInt8)) (c : List UInt8) (x : α) : Prop where
  all : ∀ r, rd (c ++ r) = .ok (x, r)
  part : ∀ i, i < c.length → rd (c.take i) = .error 10
theorem reads_thn {α β : Type} {rd : List UInt8 → Except Int (α × List UInt8)} {F : α → List UInt8 → Except Int (β × List UInt8)} {c c' : List UInt8} {x : α} {y : β} (h : Reads rd c x) (k : Reads (F x) c' y) : Reads (fun b => thn (rd b) F) (c ++ c') y := by
  refine ⟨fun r => ?_, fun i hi => ?_⟩
  · show thn (rd (c ++ c' ++ r)) F = _
    rw [List.append_assoc, thn_ok (h.all _)]
    exact k.all r
  · show thn (rd ((c ++ c').take i)) F = _
    by_cases hc : i < c.length
    · rw [List.take_append_of_le_length (by omega), thn_err (h.part i hc)]
    · have e : (c ++ c').take i = c ++ c'.take (i - c.length) := by
        rw [List.take_append, List.take_of_length_le (by omega)]
      rw [e, thn_ok (h.all _)]
      exact k.part _ (by rw [List.length_append] at hi; omega)
theorem reads_end {α : Type} (x : α) : Reads (fun b => .ok (x, b)) [] x := ⟨fun _ => rfl, fun i hi => by simp at hi⟩
theorem valN_enc (x : Int) : valN (encN x) = bitsN x := by
  have hb := bits_lt x
  unfold encN
  simp only [valN, byteN, UInt8.toNat_ofNat']
  generalize bitsN x = a at *
  simp only [Nat.reducePow, Nat.pow_zero, Nat.div_one]
  omega
theorem dec_enc {x : Int} (hx : FixpW.I64 x) (r : List UInt8) : decN (encN x ++ r) = x := by
  unfold decN
  rw [List.take_append_of_le_length (by rw [encN_len]; omega), List.take_of_length_le (by rw [encN_len]; omega), valN_enc]
  obtain ⟨h1, h2⟩ := hx
  unfold bitsN wrap64
  omega
theorem valN_inj : ∀ {a b : List UInt8}, a.length = b.length → valN a = valN b → a = b
  | [], [], _, _ => rfl
  | x :: a, y :: b, hl, h => by
    unfold valN at h
    have h1 := x.toNat_lt
    have h2 := y.toNat_lt
    have e1 : x.toNat = y.toNat := by omega
    have e2 : valN a = valN b := by omega
    rw [UInt8.toNat_inj.1 e1, valN_inj (by simpa using hl) e2]
  | [], _ :: _, hl, _ => by simp at hl
  | _ :: _, [], hl, _ => by simp at hl
theorem enc_dec {b : List UInt8} (h : 8 ≤ b.length) : encN (decN b) = b.take 8 := by
  refine valN_inj (by rw [encN_len, List.length_take]; omega) ?_
  rw [valN_enc]
  have hv := valN_lt (b.take 8)
  rw [List.length_take, Nat.min_eq_left h] at hv
  unfold decN bitsN wrap64
  have : (256 : Nat) ^ 8 = 18446744073709551616 := by decide
  omega
theorem reads_num {x : Int} (hx : FixpW.I64 x) : Reads rdN (encN x) x := by
  refine ⟨fun r => ?_, fun i hi => ?_⟩
  · unfold rdN
    rw [if_neg (by rw [List.length_append, encN_len]; omega), dec_enc hx, List.drop_append_of_le_length (by rw [encN_len]; omega), List.drop_of_length_le (by rw [encN_len]; omega)]
    rfl
  · rw [encN_len] at hi
    exact if_pos (by rw [List.length_take, encN_len]; omega)
theorem rdC_ok {m : Int} {bs : List UInt8} {n : Int} {r : List UInt8} (h : rdN bs = .ok (n, r)) (h1 : 0 ≤ n) (h2 : n ≤ m) : rdC m bs = .ok (n, r) := by
  unfold rdC
  rw [h]
  exact if_neg (by omega)
theorem rdC_err {m : Int} {bs : List UInt8} {k : Int} (h : rdN bs = .error k) : rdC m bs = .error k := by
  unfold rdC
  rw [h]
theorem rdB_ok {bs : List UInt8} {n : Int} {r : List UInt8} (h : rdC 1 bs = .ok (n, r)) : rdB bs = .ok (decide (n = 1), r) := by
  unfold rdB
  rw [h]
theorem rdB_err {bs : List UInt8} {k : Int} (h : rdC 1 bs = .error k) : rdB bs = .error k := by
  unfold rdB
  rw [h]
theorem rdT_ok {m : Int} {bs : List UInt8} {n : Int} {r : List UInt8} (h : rdC m bs = .ok (n, r)) (h1 : n ≤ r.length) : rdT m bs = .ok (r.take n.toNat, r.drop n.toNat) := by
  unfold rdT
  rw [h]
  exact if_neg (by omega)
theorem rdT_short {m : Int} {bs : List UInt8} {n : Int} {r : List UInt8} (h : rdC m bs = .ok (n, r)) (h1 : (r.length : Int) < n) : rdT m bs = .error 10 := by
  unfold rdT
  rw [h]
  exact if_pos h1
theorem rdT_err {m : Int} {bs : List UInt8} {k : Int} (h : rdC m bs = .error k) : rdT m bs = .error k := by
  unfold rdT
  rw [h]
theorem reads_count {x m : Int} (h1 : 0 ≤ x) (h2 : x ≤ m) (hm : m ≤ 1000000) : Reads (rdC m) (encN x) x := by
  have h := reads_num (x := x) ⟨by omega, by omega⟩
  exact ⟨fun r => rdC_ok (h.all r) h1 h2, fun i hi => rdC_err (h.part i hi)⟩
theorem reads_bit (b : Bool) : Reads rdB (encN (bitF b)) b := by
  have h1 : 0 ≤ bitF b ∧ bitF b ≤ 1 := by cases b <;> simp [bitF]
  have h2 : decide (bitF b = 1) = b := by cases b <;> simp [bitF]
  have h := reads_count (x := bitF b) (m := 1) h1.1 h1.2 (by decide)
  refine ⟨fun r => (rdB_ok (h.all r)).trans (by rw [h2]), fun i hi => rdB_err (h.part i hi)⟩
theorem reads_text {s : List UInt8} (h : s.length ≤ 8) : Reads (rdT 8) (encT s) s := by
  have hc := reads_count (x := (s.length : Int)) (m := 8) (by omega) (by omega) (by decide)
  refine ⟨fun r => ?_, fun i hi => ?_⟩
  · have e : encT s ++ r = encN (s.length : Int) ++ (s ++ r) := by unfold encT; rw [List.append_assoc]
    have h1 := rdT_ok (hc.all (s ++ r)) (by rw [List.length_append]; omega)
    rw [e, h1]
    simp
  · unfold encT at hi ⊢
    by_cases hi8 : i < (encN (s.length : Int)).length
    · rw [List.take_append_of_le_length (by omega)]
      exact rdT_err (hc.part i hi8)
    · have e : (encN (s.length : Int) ++ s).take i = encN (s.length : Int) ++ s.take (i - (encN (s.length : Int)).length) := by
        rw [List.take_append, List.take_of_length_le (by omega)]
      rw [e]
      rw [List.length_append] at hi
      exact rdT_short (hc.all _) (by rw [List.length_take]; omega)
theorem reads_cond {α : Type} {p : Prop} [Decidable p] {k : Int} {x : α} (h : ¬p) : Reads (fun b => if p then .error k else .ok (x, b)) [] x := ⟨fun r => if_neg h, fun i hi => by simp at hi⟩
theorem encE_bytes (x : EvR) : encE x = encN x.kind ++ (encN x.acct ++ (encN x.id ++ (encN x.new ++ (encN x.instr ++ (encN x.under ++ (encN x.cur ++ (encN x.qty ++ (encN x.price ++ (encN x.amount ++ (encN (bitF x.call) ++ (encT x.name ++ []))))))))))) := by
  unfold encE encs
  simp
theorem reads_ev {x : EvR} (f : EvFit x) (h1 : 1 ≤ x.kind) (h2 : x.kind ≤ 16) (hn : x.name.length ≤ 8) : Reads rdE (encE x) x := by
  obtain ⟨a0, a1, a2, a3, a4, a5, a6, a7, a8, a9⟩ := f.nums
  rw [encE_bytes]
  unfold rdE
  refine reads_thn (reads_count (by omega) h2 (by decide)) ?_
  refine reads_thn (reads_num a1) ?_
  refine reads_thn (reads_num a2) ?_
  refine reads_thn (reads_num a3) ?_
  refine reads_thn (reads_num a4) ?_
  refine reads_thn (reads_num a5) ?_
  refine reads_thn (reads_num a6) ?_
  refine reads_thn (reads_num a7) ?_
  refine reads_thn (reads_num a8) ?_
  refine reads_thn (reads_num a9) ?_
  refine reads_thn (reads_bit x.call) ?_
  refine reads_thn (reads_text hn) ?_
  exact reads_cond (by omega)
/-- what is read is written so -/
theorem thn_back {α β : Type} {m : Except Int (α × List UInt8)} {F : α → List UInt8 → Except Int β} {y : β} (h : thn m F = .ok y) : ∃ x r, m = .ok (x, r) ∧ F x r = .ok y := by
  cases m with
  | error k => cases h
  | ok p => exact ⟨p.1, p.2, rfl, h⟩
theorem num_back {b r : List UInt8} {x : Int} (h : rdN b = .ok (x, r)) : b = encN x ++ r := by
  unfold rdN at h
  split at h
  · cases h
  · next hl =>
    simp only [Except.ok.injEq, Prod.mk.injEq] at h
    obtain ⟨rfl, rfl⟩ := h
    rw [enc_dec (by omega), List.take_append_drop]
theorem count_back {b r : List UInt8} {x m : Int} (h : rdC m b = .ok (x, r)) : b = encN x ++ r ∧ 0 ≤ x ∧ x ≤ m := by
  unfold rdC at h
  split at h
  · cases h
  · next n r' hn =>
    split at h
    · cases h
    · simp only [Except.ok.injEq, Prod.mk.injEq] at h
      obtain ⟨rfl, rfl⟩ := h
      exact ⟨num_back hn, by omega, by omega⟩
theorem bit_back {b r : List UInt8} {x : Bool} (h : rdB b = .ok (x, r)) : b = encN (bitF x) ++ r := by
  unfold rdB at h
  split at h
  · cases h
  · next n r' hn =>
    simp only [Except.ok.injEq, Prod.mk.injEq] at h
    obtain ⟨rfl, rfl⟩ := h
    obtain ⟨e, h1, h2⟩ := count_back hn
    rw [e]
    have : n = 0 ∨ n = 1 := by omega
    rcases this with rfl | rfl <;> rfl
theorem text_back {b r s : List UInt8} {m : Int} (h : rdT m b = .ok (s, r)) : b = encT s ++ r ∧ (s.length : Int) ≤ m := by
  unfold rdT at h
  split at h
  · cases h
  · next n r' hn =>
    obtain ⟨e, h1, h2⟩ := count_back hn
    split at h
    · cases h
    · next hl =>
      simp only [Except.ok.injEq, Prod.mk.injEq] at h
      obtain ⟨rfl, rfl⟩ := h
      have hlen : ((r'.take n.toNat).length : Int) = n := by rw [List.length_take]; omega
      refine ⟨?_, by omega⟩
      unfold encT
      rw [hlen, List.append_assoc, List.take_append_drop, e]
theorem ev_back {b r : List UInt8} {x : EvR} (h : rdE b = .ok (x, r)) : b = encE x ++ r ∧ EvFit x ∧ 1 ≤ x.kind ∧ x.kind ≤ 16 ∧ x.name.length ≤ 8 := by
  unfold rdE at h
  obtain ⟨x0, r0, h0, h⟩ := thn_back h
  obtain ⟨x1, r1, h1, h⟩ := thn_back h
  obtain ⟨x2, r2, h2, h⟩ := thn_back h
  obtain ⟨x3, r3, h3, h⟩ := thn_back h
  obtain ⟨x4, r4, h4, h⟩ := thn_back h
  obtain ⟨x5, r5, h5, h⟩ := thn_back h
  obtain ⟨x6, r6, h6, h⟩ := thn_back h
  obtain ⟨x7, r7, h7, h⟩ := thn_back h
  obtain ⟨x8, r8, h8, h⟩ := thn_back h
  obtain ⟨x9, r9, h9, h⟩ := thn_back h
  obtain ⟨x10, r10, h10, h⟩ := thn_back h
  obtain ⟨x11, r11, h11, h⟩ := thn_back h
  split at h
  · cases h
  · next hk =>
    simp only [Except.ok.injEq, Prod.mk.injEq] at h
    obtain ⟨rfl, rfl⟩ := h
    obtain ⟨e0, p0, q0⟩ := count_back h0
    obtain ⟨e11, hn⟩ := text_back h11
    have i1 := rdN_i64 h1
    have i2 := rdN_i64 h2
    have i3 := rdN_i64 h3
    have i4 := rdN_i64 h4
    have i5 := rdN_i64 h5
    have i6 := rdN_i64 h6
    have i7 := rdN_i64 h7
    have i8 := rdN_i64 h8
    have i9 := rdN_i64 h9
    refine ⟨?_, ⟨by show x11.length ≤ _; omega, ⟨by show (-9223372036854775808 : Int) ≤ x0; omega, by show x0 ≤ 9223372036854775807; omega⟩, i1, i2, i3, i4, i5, i6, i7, i8, i9⟩, by show 1 ≤ x0; omega, q0, by show x11.length ≤ 8; omega⟩
    rw [encE_bytes, e0, num_back h1, num_back h2, num_back h3, num_back h4, num_back h5, num_back h6, num_back h7, num_back h8, num_back h9, bit_back h10, e11]
    simp only [List.append_assoc, List.append_nil]
/-- what is wrong with bytes: they are short, or of no form -/
def Errs {α : Type} (rd : List UInt8 → Except Int α) : Prop := ∀ b k, rd b = .error k → k = 10 ∨ k = 11
theorem errs_thn {α β : Type} {rd : List UInt8 → Except Int (α × List UInt8)} {F : α → List UInt8 → Except Int β} (h : Errs rd) (k : ∀ x, Errs (F x)) : Errs (fun b => thn (rd b) F) := fun b e he => by
  have he' : thn (rd b) F = .error e := he
  cases hr : rd b with
  | error j =>
    rw [thn_err hr] at he'
    cases he'
    exact h b _ hr
  | ok p =>
    obtain ⟨x, r⟩ := p
    rw [thn_ok hr] at he'
    exact k x r e he'
theorem errs_ok {β : Type} (f : List UInt8 → β) : Errs (fun b => (.ok (f b) : Except Int β)) := fun b k h => by cases h
theorem errs_num : Errs rdN := fun b k h => by
  unfold rdN at h
  split at h
  · cases h; exact .inl rfl
  · cases h
theorem errs_count (m : Int) : Errs (rdC m) := fun b k h => by
  unfold rdC at h
  split at h
  · next j hj =>
    cases h
    exact errs_num _ _ hj
  · split at h
    · cases h; exact .inr rfl
    · cases h
theorem errs_bit : Errs rdB := fun b k h => by
  unfold rdB at h
  split at h
  · next j hj =>
    cases h
    exact errs_count 1 _ _ hj
  · cases h
theorem errs_text (m : Int) : Errs (rdT m) := fun b k h => by
  unfold rdT at h
  split at h
  · next j hj =>
    cases h
    exact errs_count m _ _ hj
  · split at h
    · cases h; exact .inl rfl
    · cases h
theorem errs_cond {α : Type} {p : Prop} [Decidable p] {rd : List UInt8 → Except Int α} (h : Errs rd) : Errs (fun b => if p then .error 11 else rd b) := fun b k hk => by
  by_cases hp : p
  · simp only [if_pos hp] at hk
    cases hk; exact .inr rfl
  · simp only [if_neg hp] at hk
    exact h b k hk
theorem errs_ev (b : List UInt8) (k : Int) (h : rdE b = .error k) : k = 10 ∨ k = 11 := by
  unfold rdE at h
  exact (errs_thn (errs_count 16) fun x0 => errs_thn errs_num fun x1 => errs_thn errs_num fun x2 => errs_thn errs_num fun x3 => errs_thn errs_num fun x4 => errs_thn errs_num fun x5 => errs_thn errs_num fun x6 => errs_thn errs_num fun x7 => errs_thn errs_num fun x8 => errs_thn errs_num fun x9 => errs_thn errs_bit fun x10 => errs_thn (errs_text 8) fun x11 => errs_cond (errs_ok (fun b => ((⟨x0, x1, x2, x3, x4, x5, x6, x7, x8, x9, x10, x11⟩ : EvR), b)))) b k h
/-- readings of all bytes -/
theorem readE_err {bs : List UInt8} {k : Int} (h : rdE bs = .error k) : readE bs = (zeroE, k) := by
  unfold readE
  rw [h]
theorem readE_tail {bs : List UInt8} {x : EvR} {r : List UInt8} (h : rdE bs = .ok (x, r)) (hr : 0 < r.length) : readE bs = (zeroE, 13) := by
  unfold readE
  rw [h]
  exact if_pos hr
theorem readE_ok {bs : List UInt8} {x : EvR} (h : rdE bs = .ok (x, [])) : readE bs = (x, 0) := by
  unfold readE
  rw [h]
  exact if_neg (by simp)
theorem readE_enc {x : EvR} (f : EvFit x) (h : eventF x = (encE x, 0)) : readE (encE x) = (x, 0) ∧ (∀ i, i < (encE x).length → readE ((encE x).take i) = (zeroE, 10)) ∧ readE (encE x ++ [0]) = (zeroE, 13) := by
  unfold eventF at h
  split at h
  · simp at h
  · split at h
    · simp at h
    · have R := reads_ev f (by omega) (by omega) (by omega)
      refine ⟨?_, fun i hi => readE_err (R.part i hi), readE_tail (R.all [0]) (by simp)⟩
      have := R.all []
      rw [List.append_nil] at this
      exact readE_ok this
theorem readE_back {b : List UInt8} {x : EvR} (h : readE b = (x, 0)) : eventF x = (b, 0) ∧ x.name.length ≤ 140737488351232 := by
  unfold readE at h
  split at h
  · next k hk =>
    simp only [Prod.mk.injEq] at h
    obtain ⟨rfl, rfl⟩ := h
    exact absurd (errs_ev _ _ hk) (by decide)
  · next y r hy =>
    split at h
    · simp at h
    · next hr =>
      simp only [Prod.mk.injEq, and_true] at h
      subst h
      obtain ⟨e, f, h1, h2, h3⟩ := ev_back hy
      have hr0 : r = [] := by
        cases r with
        | nil => rfl
        | cons a b => simp at hr
      subst hr0
      rw [List.append_nil] at e
      refine ⟨?_, f.name⟩
      unfold eventF
      rw [if_neg (by omega), if_neg (by omega), e]
theorem readE_zero {b : List UInt8} (h : (readE b).2 ≠ 0) : (readE b).1 = zeroE := by
  unfold readE at *
  split
  · rfl
  · next y r hy =>
    rw [hy] at h
    split
    · rfl
    · next hr => simp [hr] at h
end Go.Proofs.YtocjfjikkdpfdaaGreatDoor.ImgW
namespace Go.Proofs.YtocjfjikkdpfdaaGreatDoor.ImgW
open Go.RowKit Go.Proofs.YtocjfjikkdpfdaaGreatDoor.Bas Go.Proofs.YtocjfjikkdpfdaaGreatDoor.LedM Go.Proofs.YtocjfjikkdpfdaaGreatDoor.LedW

/-- so many, one behind the other -/
def rdPush {σ α : Type} (rd : List UInt8 → Except Int (α × List UInt8)) (push : σ → α → σ) : Nat → σ → List UInt8 → Except Int (σ × List UInt8)
  | 0, s, b => .ok (s, b)
  | n + 1, s, b => thn (rd b) fun x b => rdPush rd push n (push s x) b
def rdCur (b : List UInt8) : Except Int ((Int × Int) × List UInt8) := thn (rdN b) fun x0 b => thn (rdN b) fun x1 b => .ok ((x0, x1), b)
def rdUnd (b : List UInt8) : Except Int (Und × List UInt8) := thn (rdT 8 b) fun x0 b => thn (rdN b) fun x1 b => thn (rdN b) fun x2 b => thn (rdN b) fun x3 b => .ok (⟨x0, x1, x2, x3⟩, b)
def rdIns (b : List UInt8) : Except Int ((Ins × Int) × List UInt8) := thn (rdN b) fun x0 b => thn (rdN b) fun x1 b => thn (rdN b) fun x2 b => thn (rdN b) fun x3 b => thn (rdN b) fun x4 b => thn (rdB b) fun x5 b => thn (rdN b) fun x6 b => thn (rdN b) fun x7 b => .ok ((⟨x0, x1, x2, x3, x4, x5, x6⟩, x7), b)
def addCash (a : Acc) (x : Int) : Acc := { a with cash := a.cash ++ [x] }
def rdAcct (n : Nat) (b : List UInt8) : Except Int (Acc × List UInt8) := thn (rdN b) fun x0 b => thn (rdB b) fun x1 b => thn (rdN b) fun x2 b => rdPush rdN addCash n ⟨x0, [], x1, x2⟩ b
def rdTri (b : List UInt8) : Except Int (Tri × List UInt8) := thn (rdN b) fun x0 b => thn (rdN b) fun x1 b => thn (rdN b) fun x2 b => .ok ((x0, x1, x2), b)
def rdOrd (b : List UInt8) : Except Int (Ord × List UInt8) := thn (rdN b) fun x0 b => thn (rdN b) fun x1 b => thn (rdN b) fun x2 b => thn (rdN b) fun x3 b => thn (rdN b) fun x4 b => .ok (⟨x0, x1, x2, x3, x4⟩, b)
def addCur (l : Led) (x : Int × Int) : Led := { l with curs := l.curs ++ [x] }
def addUnd (l : Led) (x : Und) : Led := { l with unders := l.unders ++ [x] }
def addIns (l : Led) (x : Ins × Int) : Led := { l with instrs := l.instrs ++ [x.1], avail := l.avail ++ [x.2] }
def addAcct (l : Led) (x : Acc) : Led := { l with accts := l.accts ++ [x] }
def addPos (l : Led) (x : Tri) : Led := { l with poss := l.poss ++ [x] }
def addOrd (l : Led) (x : Ord) : Led := { l with orders := l.orders ++ [x] }
def addLoc (l : Led) (x : Tri) : Led := { l with locs := l.locs ++ [x] }
def dayL (d : Int) : Led := ⟨d, [], [], [], [], [], [], [], []⟩
/-- the lists, with so many of each -/
def rdLists (n0 n1 n2 n3 n4 n5 n6 : Nat) (l : Led) (b : List UInt8) : Except Int (Led × List UInt8) :=
  thn (rdPush rdCur addCur n0 l b) fun l b => thn (rdPush rdUnd addUnd n1 l b) fun l b => thn (rdPush rdIns addIns n2 l b) fun l b => thn (rdPush (rdAcct n0) addAcct n3 l b) fun l b => thn (rdPush rdTri addPos n4 l b) fun l b => thn (rdPush rdOrd addOrd n5 l b) fun l b => rdPush rdTri addLoc n6 l b
/-- the ledger of bytes, and what is left of them -/
def rdL (b : List UInt8) : Except Int (Led × List UInt8) :=
  thn (rdN b) fun x0 b => thn (rdC 4 b) fun n0 b => thn (rdC 6 b) fun n1 b => thn (rdC 12 b) fun n2 b => thn (rdC 16 b) fun n3 b => thn (rdC 64 b) fun n4 b => thn (rdC 32 b) fun n5 b => thn (rdC 32 b) fun n6 b =>
    rdLists n0.toNat n1.toNat n2.toNat n3.toNat n4.toNat n5.toNat n6.toNat (dayL x0) b

theorem fold_cur : ∀ (xs : List (Int × Int)) (l : Led), xs.foldl addCur l = { l with curs := l.curs ++ xs }
  | [], l => by simp
  | x :: xs, l => by rw [List.foldl_cons, fold_cur xs]; simp [addCur]
theorem fold_und : ∀ (xs : List Und) (l : Led), xs.foldl addUnd l = { l with unders := l.unders ++ xs }
  | [], l => by simp
  | x :: xs, l => by rw [List.foldl_cons, fold_und xs]; simp [addUnd]
theorem fold_ins : ∀ (xs : List (Ins × Int)) (l : Led), xs.foldl addIns l = { l with instrs := l.instrs ++ xs.map (·.1), avail := l.avail ++ xs.map (·.2) }
  | [], l => by simp
  | x :: xs, l => by rw [List.foldl_cons, fold_ins xs]; simp [addIns]
theorem fold_acct : ∀ (xs : List Acc) (l : Led), xs.foldl addAcct l = { l with accts := l.accts ++ xs }
  | [], l => by simp
  | x :: xs, l => by rw [List.foldl_cons, fold_acct xs]; simp [addAcct]
theorem fold_pos : ∀ (xs : List Tri) (l : Led), xs.foldl addPos l = { l with poss := l.poss ++ xs }
  | [], l => by simp
  | x :: xs, l => by rw [List.foldl_cons, fold_pos xs]; simp [addPos]
theorem fold_ord : ∀ (xs : List Ord) (l : Led), xs.foldl addOrd l = { l with orders := l.orders ++ xs }
  | [], l => by simp
  | x :: xs, l => by rw [List.foldl_cons, fold_ord xs]; simp [addOrd]
theorem fold_loc : ∀ (xs : List Tri) (l : Led), xs.foldl addLoc l = { l with locs := l.locs ++ xs }
  | [], l => by simp
  | x :: xs, l => by rw [List.foldl_cons, fold_loc xs]; simp [addLoc]
theorem fold_cash : ∀ (xs : List Int) (a : Acc), xs.foldl addCash a = { a with cash := a.cash ++ xs }
  | [], a => by simp
  | x :: xs, a => by rw [List.foldl_cons, fold_cash xs]; simp [addCash]

theorem reads_push {σ α : Type} {rd : List UInt8 → Except Int (α × List UInt8)} {push : σ → α → σ} {f : α → List UInt8} : ∀ (xs : List α) (s : σ), (∀ x ∈ xs, Reads rd (f x) x) → Reads (rdPush rd push xs.length s) (xs.flatMap f) (xs.foldl push s)
  | [], s, _ => reads_end s
  | x :: xs, s, h => by
    rw [List.flatMap_cons]
    exact reads_thn (h x List.mem_cons_self) (reads_push xs (push s x) (fun y hy => h y (List.mem_cons_of_mem _ hy)))
theorem reads_cur {x : Int × Int} (h : FixpW.I64 x.1 ∧ FixpW.I64 x.2) : Reads rdCur (encC x) x := by
  rw [show encC x = encN x.1 ++ (encN x.2 ++ []) by unfold encC encs; simp]
  unfold rdCur
  exact reads_thn (reads_num h.1) (reads_thn (reads_num h.2) (reads_end _))
theorem reads_und {x : Und} (h0 : x.name.length ≤ 8) (h1 : FixpW.I64 x.cur) (h2 : FixpW.I64 x.price) (h3 : FixpW.I64 x.vol) : Reads rdUnd (encU x) x := by
  rw [show encU x = encT x.name ++ (encN x.cur ++ (encN x.price ++ (encN x.vol ++ []))) by unfold encU encs; simp]
  unfold rdUnd
  exact reads_thn (reads_text h0) (reads_thn (reads_num h1) (reads_thn (reads_num h2) (reads_thn (reads_num h3) (reads_end _))))
theorem reads_ins {x : Ins × Int} (h : (FixpW.I64 x.1.kind ∧ FixpW.I64 x.1.under ∧ FixpW.I64 x.1.mult ∧ FixpW.I64 x.1.strike ∧ FixpW.I64 x.1.expiry ∧ FixpW.I64 x.1.mark) ∧ FixpW.I64 x.2) : Reads rdIns (encI x) x := by
  obtain ⟨⟨h0, h1, h2, h3, h4, h6⟩, h7⟩ := h
  rw [show encI x = encN x.1.kind ++ (encN x.1.under ++ (encN x.1.mult ++ (encN x.1.strike ++ (encN x.1.expiry ++ (encN (bitF x.1.call) ++ (encN x.1.mark ++ (encN x.2 ++ []))))))) by unfold encI encs; simp]
  unfold rdIns
  exact reads_thn (reads_num h0) (reads_thn (reads_num h1) (reads_thn (reads_num h2) (reads_thn (reads_num h3) (reads_thn (reads_num h4) (reads_thn (reads_bit _) (reads_thn (reads_num h6) (reads_thn (reads_num h7) (reads_end _))))))))
theorem reads_acct {x : Acc} {n : Nat} (h0 : FixpW.I64 x.parent) (h1 : FixpW.I64 x.last) (h2 : ∀ z ∈ x.cash, FixpW.I64 z) (hn : x.cash.length = n) : Reads (rdAcct n) (encA x) x := by
  subst hn
  rw [show encA x = encN x.parent ++ (encN (bitF x.flag) ++ (encN x.last ++ x.cash.flatMap encN)) by unfold encA encs; simp]
  unfold rdAcct
  refine reads_thn (reads_num h0) (reads_thn (reads_bit _) (reads_thn (reads_num h1) ?_))
  have h := reads_push (push := addCash) (f := encN) x.cash ⟨x.parent, [], x.flag, x.last⟩ (fun z hz => reads_num (h2 z hz))
  rw [fold_cash] at h
  simpa using h
theorem reads_tri {x : Tri} (h : FixpW.I64 x.1 ∧ FixpW.I64 x.2.1 ∧ FixpW.I64 x.2.2) : Reads rdTri (encP x) x := by
  rw [show encP x = encN x.1 ++ (encN x.2.1 ++ (encN x.2.2 ++ [])) by unfold encP encs; simp]
  unfold rdTri
  exact reads_thn (reads_num h.1) (reads_thn (reads_num h.2.1) (reads_thn (reads_num h.2.2) (reads_end _)))
theorem reads_ord {x : Ord} (h : FixpW.I64 x.acct ∧ FixpW.I64 x.id ∧ FixpW.I64 x.instr ∧ FixpW.I64 x.qty ∧ FixpW.I64 x.price) : Reads rdOrd (encO x) x := by
  obtain ⟨h0, h1, h2, h3, h4⟩ := h
  rw [show encO x = encN x.acct ++ (encN x.id ++ (encN x.instr ++ (encN x.qty ++ (encN x.price ++ [])))) by unfold encO encs; simp]
  unfold rdOrd
  exact reads_thn (reads_num h0) (reads_thn (reads_num h1) (reads_thn (reads_num h2) (reads_thn (reads_num h3) (reads_thn (reads_num h4) (reads_end _)))))
theorem good_sizes {l : Led} (h : goodF l = true) : l.curs.length ≤ 4 ∧ l.unders.length ≤ 6 ∧ l.instrs.length ≤ 12 ∧ l.accts.length ≤ 16 ∧ l.poss.length ≤ 64 ∧ l.orders.length ≤ 32 ∧ l.locs.length ≤ 32 := by
  unfold goodF at h
  simp only [Bool.and_eq_true] at h
  obtain ⟨_, h2, h3, h4, h5, h6, _⟩ := h
  unfold thingsF at h2
  simp only [Bool.and_eq_true, decide_eq_true_eq] at h2
  unfold accountsF at h3
  rw [Bool.and_eq_true, decide_eq_true_eq] at h3
  unfold possF at h4
  simp only [Bool.and_eq_true, decide_eq_true_eq] at h4
  unfold ordersF at h5
  simp only [Bool.and_eq_true, decide_eq_true_eq] at h5
  unfold locsF at h6
  simp only [Bool.and_eq_true, decide_eq_true_eq] at h6
  have h7 : (parents l).length ≤ 16 := by
    rcases TreeM.checkF_cases (parents l) with ⟨_, ok⟩ | ⟨h0 | h0, _⟩
    · exact ok.2.1
    · rw [h3.1] at h0; exact absurd h0 (by decide)
    · rw [h3.1] at h0; exact absurd h0 (by decide)
  unfold parents at h7
  rw [List.length_map] at h7
  obtain ⟨⟨_, a1, a2, a3⟩, _⟩ := h2
  exact ⟨a1, a2, a3, h7, h4.1.1, h5.1.1, h6.1.1.1.2⟩
theorem encL_bytes (l : Led) : encL l = encN l.day ++ (encN l.curs.length ++ (encN l.unders.length ++ (encN l.instrs.length ++ (encN l.accts.length ++ (encN l.poss.length ++ (encN l.orders.length ++ (encN l.locs.length ++ (l.curs.flatMap encC ++ (l.unders.flatMap encU ++ ((l.instrs.zip l.avail).flatMap encI ++ (l.accts.flatMap encA ++ (l.poss.flatMap encP ++ (l.orders.flatMap encO ++ l.locs.flatMap encP))))))))))))) := by
  unfold encL headL encs
  simp
theorem reads_led {l : Led} (f : LedFit l) (g : goodF l = true) : Reads rdL (encL l) l := by
  obtain ⟨n0, n1, n2, n3, n4, n5, n6⟩ := good_sizes g
  have hv : l.instrs.length = l.avail.length := (good_parts g).2.2.2.symm
  have hzl : (l.instrs.zip l.avail).length = l.instrs.length := by rw [List.length_zip]; omega
  have hz1 : (l.instrs.zip l.avail).map (·.1) = l.instrs := List.map_fst_zip (by omega)
  have hz2 : (l.instrs.zip l.avail).map (·.2) = l.avail := List.map_snd_zip (by omega)
  rw [encL_bytes]
  unfold rdL
  refine reads_thn (reads_num f.day) ?_
  refine reads_thn (reads_count (by omega) (by omega) (by decide)) ?_
  refine reads_thn (reads_count (by omega) (by omega) (by decide)) ?_
  refine reads_thn (reads_count (by omega) (by omega) (by decide)) ?_
  refine reads_thn (reads_count (by omega) (by omega) (by decide)) ?_
  refine reads_thn (reads_count (by omega) (by omega) (by decide)) ?_
  refine reads_thn (reads_count (by omega) (by omega) (by decide)) ?_
  refine reads_thn (reads_count (by omega) (by omega) (by decide)) ?_
  simp only [Int.toNat_natCast]
  unfold rdLists
  have r0 := reads_push (push := addCur) l.curs (dayL l.day) (fun x hx => reads_cur (f.curs x hx))
  rw [fold_cur] at r0
  refine reads_thn r0 ?_
  have r1 := reads_push (push := addUnd) l.unders { dayL l.day with curs := (dayL l.day).curs ++ l.curs } (fun x hx => reads_und (good_name g x hx) (f.unders x hx).2.1 (f.unders x hx).2.2.1 (f.unders x hx).2.2.2)
  rw [fold_und] at r1
  refine reads_thn r1 ?_
  have r2 := reads_push (push := addIns) (l.instrs.zip l.avail) { dayL l.day with curs := (dayL l.day).curs ++ l.curs, unders := (dayL l.day).unders ++ l.unders } (fun x hx => reads_ins ⟨f.instrs x.1 (List.of_mem_zip hx).1, f.avail x.2 (List.of_mem_zip hx).2⟩)
  rw [fold_ins, hzl, hz1, hz2] at r2
  refine reads_thn r2 ?_
  have r3 := reads_push (push := addAcct) l.accts { dayL l.day with curs := (dayL l.day).curs ++ l.curs, unders := (dayL l.day).unders ++ l.unders, instrs := (dayL l.day).instrs ++ l.instrs, avail := (dayL l.day).avail ++ l.avail } (fun x hx => reads_acct (f.accts x hx).1 (f.accts x hx).2.1 (f.accts x hx).2.2.1 (good_cashLen g x hx))
  rw [fold_acct] at r3
  refine reads_thn r3 ?_
  have r4 := reads_push (push := addPos) l.poss { dayL l.day with curs := (dayL l.day).curs ++ l.curs, unders := (dayL l.day).unders ++ l.unders, instrs := (dayL l.day).instrs ++ l.instrs, avail := (dayL l.day).avail ++ l.avail, accts := (dayL l.day).accts ++ l.accts } (fun x hx => reads_tri (f.poss x hx))
  rw [fold_pos] at r4
  refine reads_thn r4 ?_
  have r5 := reads_push (push := addOrd) l.orders { dayL l.day with curs := (dayL l.day).curs ++ l.curs, unders := (dayL l.day).unders ++ l.unders, instrs := (dayL l.day).instrs ++ l.instrs, avail := (dayL l.day).avail ++ l.avail, accts := (dayL l.day).accts ++ l.accts, poss := (dayL l.day).poss ++ l.poss } (fun x hx => reads_ord (f.orders x hx))
  rw [fold_ord] at r5
  refine reads_thn r5 ?_
  have r6 := reads_push (push := addLoc) l.locs { dayL l.day with curs := (dayL l.day).curs ++ l.curs, unders := (dayL l.day).unders ++ l.unders, instrs := (dayL l.day).instrs ++ l.instrs, avail := (dayL l.day).avail ++ l.avail, accts := (dayL l.day).accts ++ l.accts, poss := (dayL l.day).poss ++ l.poss, orders := (dayL l.day).orders ++ l.orders } (fun x hx => reads_tri (f.locs x hx))
  rw [fold_loc] at r6
  exact r6

/-- the way back -/
theorem push_back {σ α : Type} {rd : List UInt8 → Except Int (α × List UInt8)} {push : σ → α → σ} {f : α → List UInt8} {ok : α → Prop} (hb : ∀ b x r, rd b = .ok (x, r) → b = f x ++ r ∧ ok x) :
    ∀ (n : Nat) (s s' : σ) (b r : List UInt8), rdPush rd push n s b = .ok (s', r) → ∃ xs : List α, xs.length = n ∧ s' = xs.foldl push s ∧ b = xs.flatMap f ++ r ∧ ∀ x ∈ xs, ok x
  | 0, s, s', b, r, h => by
    unfold rdPush at h
    simp only [Except.ok.injEq, Prod.mk.injEq] at h
    obtain ⟨rfl, rfl⟩ := h
    exact ⟨[], rfl, rfl, rfl, by simp⟩
  | n + 1, s, s', b, r, h => by
    unfold rdPush at h
    obtain ⟨x, r1, h1, h2⟩ := thn_back h
    obtain ⟨e1, o1⟩ := hb _ _ _ h1
    obtain ⟨xs, l1, e2, e3, o2⟩ := push_back hb n _ _ _ _ h2
    refine ⟨x :: xs, by simp [l1], e2, by rw [List.flatMap_cons, List.append_assoc, ← e3, e1], ?_⟩
    intro y hy
    rcases List.mem_cons.1 hy with rfl | hy
    · exact o1
    · exact o2 y hy
theorem cur_back {b r : List UInt8} {x : Int × Int} (h : rdCur b = .ok (x, r)) : b = encC x ++ r ∧ FixpW.I64 x.1 ∧ FixpW.I64 x.2 := by
  unfold rdCur at h
  obtain ⟨x0, r0, h0, h⟩ := thn_back h
  obtain ⟨x1, r1, h1, h⟩ := thn_back h
  simp only [Except.ok.injEq, Prod.mk.injEq] at h
  obtain ⟨rfl, rfl⟩ := h
  refine ⟨?_, rdN_i64 h0, rdN_i64 h1⟩
  rw [num_back h0, num_back h1]
  unfold encC encs
  simp
theorem und_back {b r : List UInt8} {x : Und} (h : rdUnd b = .ok (x, r)) : b = encU x ++ r ∧ x.name.length ≤ 140737488351232 ∧ FixpW.I64 x.cur ∧ FixpW.I64 x.price ∧ FixpW.I64 x.vol := by
  unfold rdUnd at h
  obtain ⟨x0, r0, h0, h⟩ := thn_back h
  obtain ⟨x1, r1, h1, h⟩ := thn_back h
  obtain ⟨x2, r2, h2, h⟩ := thn_back h
  obtain ⟨x3, r3, h3, h⟩ := thn_back h
  simp only [Except.ok.injEq, Prod.mk.injEq] at h
  obtain ⟨rfl, rfl⟩ := h
  obtain ⟨e0, hl⟩ := text_back h0
  refine ⟨?_, by show x0.length ≤ _; omega, rdN_i64 h1, rdN_i64 h2, rdN_i64 h3⟩
  rw [e0, num_back h1, num_back h2, num_back h3]
  unfold encU encs
  simp
theorem ins_back {b r : List UInt8} {x : Ins × Int} (h : rdIns b = .ok (x, r)) : b = encI x ++ r ∧ (FixpW.I64 x.1.kind ∧ FixpW.I64 x.1.under ∧ FixpW.I64 x.1.mult ∧ FixpW.I64 x.1.strike ∧ FixpW.I64 x.1.expiry ∧ FixpW.I64 x.1.mark) ∧ FixpW.I64 x.2 := by
  unfold rdIns at h
  obtain ⟨x0, r0, h0, h⟩ := thn_back h
  obtain ⟨x1, r1, h1, h⟩ := thn_back h
  obtain ⟨x2, r2, h2, h⟩ := thn_back h
  obtain ⟨x3, r3, h3, h⟩ := thn_back h
  obtain ⟨x4, r4, h4, h⟩ := thn_back h
  obtain ⟨x5, r5, h5, h⟩ := thn_back h
  obtain ⟨x6, r6, h6, h⟩ := thn_back h
  obtain ⟨x7, r7, h7, h⟩ := thn_back h
  simp only [Except.ok.injEq, Prod.mk.injEq] at h
  obtain ⟨rfl, rfl⟩ := h
  refine ⟨?_, ⟨rdN_i64 h0, rdN_i64 h1, rdN_i64 h2, rdN_i64 h3, rdN_i64 h4, rdN_i64 h6⟩, rdN_i64 h7⟩
  rw [num_back h0, num_back h1, num_back h2, num_back h3, num_back h4, bit_back h5, num_back h6, num_back h7]
  unfold encI encs
  simp
theorem acct_back {n : Nat} {b r : List UInt8} {x : Acc} (h : rdAcct n b = .ok (x, r)) : b = encA x ++ r ∧ x.cash.length = n ∧ FixpW.I64 x.parent ∧ FixpW.I64 x.last ∧ ∀ z ∈ x.cash, FixpW.I64 z := by
  unfold rdAcct at h
  obtain ⟨x0, r0, h0, h⟩ := thn_back h
  obtain ⟨x1, r1, h1, h⟩ := thn_back h
  obtain ⟨x2, r2, h2, h⟩ := thn_back h
  obtain ⟨xs, l3, e3, e4, o3⟩ := push_back (f := encN) (ok := FixpW.I64) (fun b x r h => ⟨num_back h, rdN_i64 h⟩) _ _ _ _ _ h
  rw [fold_cash] at e3
  subst e3
  refine ⟨?_, by simpa using l3, rdN_i64 h0, rdN_i64 h2, by simpa using o3⟩
  rw [num_back h0, bit_back h1, num_back h2, e4]
  unfold encA encs
  simp
theorem tri_back {b r : List UInt8} {x : Tri} (h : rdTri b = .ok (x, r)) : b = encP x ++ r ∧ FixpW.I64 x.1 ∧ FixpW.I64 x.2.1 ∧ FixpW.I64 x.2.2 := by
  unfold rdTri at h
  obtain ⟨x0, r0, h0, h⟩ := thn_back h
  obtain ⟨x1, r1, h1, h⟩ := thn_back h
  obtain ⟨x2, r2, h2, h⟩ := thn_back h
  simp only [Except.ok.injEq, Prod.mk.injEq] at h
  obtain ⟨rfl, rfl⟩ := h
  refine ⟨?_, rdN_i64 h0, rdN_i64 h1, rdN_i64 h2⟩
  rw [num_back h0, num_back h1, num_back h2]
  unfold encP encs
  simp
theorem ord_back {b r : List UInt8} {x : Ord} (h : rdOrd b = .ok (x, r)) : b = encO x ++ r ∧ FixpW.I64 x.acct ∧ FixpW.I64 x.id ∧ FixpW.I64 x.instr ∧ FixpW.I64 x.qty ∧ FixpW.I64 x.price := by
  unfold rdOrd at h
  obtain ⟨x0, r0, h0, h⟩ := thn_back h
  obtain ⟨x1, r1, h1, h⟩ := thn_back h
  obtain ⟨x2, r2, h2, h⟩ := thn_back h
  obtain ⟨x3, r3, h3, h⟩ := thn_back h
  obtain ⟨x4, r4, h4, h⟩ := thn_back h
  simp only [Except.ok.injEq, Prod.mk.injEq] at h
  obtain ⟨rfl, rfl⟩ := h
  refine ⟨?_, rdN_i64 h0, rdN_i64 h1, rdN_i64 h2, rdN_i64 h3, rdN_i64 h4⟩
  rw [num_back h0, num_back h1, num_back h2, num_back h3, num_back h4]
  unfold encO encs
  simp
theorem zip_maps {α β : Type} : ∀ xs : List (α × β), (xs.map (·.1)).zip (xs.map (·.2)) = xs
  | [] => rfl
  | x :: xs => by simp [zip_maps xs]
/-- bytes that are read as a ledger are its bytes -/
theorem led_back {b r : List UInt8} {l : Led} (h : rdL b = .ok (l, r)) : b = encL l ++ r ∧ LedFit l := by
  unfold rdL at h
  obtain ⟨d, rd, hd, h⟩ := thn_back h
  obtain ⟨n0, r0, h0, h⟩ := thn_back h
  obtain ⟨n1, r1, h1, h⟩ := thn_back h
  obtain ⟨n2, r2, h2, h⟩ := thn_back h
  obtain ⟨n3, r3, h3, h⟩ := thn_back h
  obtain ⟨n4, r4, h4, h⟩ := thn_back h
  obtain ⟨n5, r5, h5, h⟩ := thn_back h
  obtain ⟨n6, r6, h6, h⟩ := thn_back h
  unfold rdLists at h
  obtain ⟨l0, s0, k0, h⟩ := thn_back h
  obtain ⟨l1, s1, k1, h⟩ := thn_back h
  obtain ⟨l2, s2, k2, h⟩ := thn_back h
  obtain ⟨l3, s3, k3, h⟩ := thn_back h
  obtain ⟨l4, s4, k4, h⟩ := thn_back h
  obtain ⟨l5, s5, k5, h⟩ := thn_back h
  obtain ⟨e0, a0, b0⟩ := count_back h0
  obtain ⟨e1, a1, b1⟩ := count_back h1
  obtain ⟨e2, a2, b2⟩ := count_back h2
  obtain ⟨e3, a3, b3⟩ := count_back h3
  obtain ⟨e4, a4, b4⟩ := count_back h4
  obtain ⟨e5, a5, b5⟩ := count_back h5
  obtain ⟨e6, a6, b6⟩ := count_back h6
  obtain ⟨x0, z0, f0, c0, o0⟩ := push_back (f := encC) (fun b x r h => cur_back h) _ _ _ _ _ k0
  obtain ⟨x1, z1, f1, c1, o1⟩ := push_back (f := encU) (fun b x r h => und_back h) _ _ _ _ _ k1
  obtain ⟨x2, z2, f2, c2, o2⟩ := push_back (f := encI) (fun b x r h => ins_back h) _ _ _ _ _ k2
  obtain ⟨x3, z3, f3, c3, o3⟩ := push_back (f := encA) (fun b x r h => acct_back h) _ _ _ _ _ k3
  obtain ⟨x4, z4, f4, c4, o4⟩ := push_back (f := encP) (fun b x r h => tri_back h) _ _ _ _ _ k4
  obtain ⟨x5, z5, f5, c5, o5⟩ := push_back (f := encO) (fun b x r h => ord_back h) _ _ _ _ _ k5
  obtain ⟨x6, z6, f6, c6, o6⟩ := push_back (f := encP) (fun b x r h => tri_back h) _ _ _ _ _ h
  rw [fold_cur] at f0
  rw [fold_und] at f1
  rw [fold_ins] at f2
  rw [fold_acct] at f3
  rw [fold_pos] at f4
  rw [fold_ord] at f5
  rw [fold_loc] at f6
  subst f0 f1 f2 f3 f4 f5 f6
  simp only [dayL, List.nil_append]
  refine ⟨?_, ⟨?_, rdN_i64 hd, o0, o1, ?_, ?_, o4, o5, ?_, o6⟩⟩
  · rw [encL_bytes]
    simp only [zip_maps, List.length_map]
    rw [z0, z1, z2, z3, z4, z5, z6]
    simp only [Int.toNat_of_nonneg, *]
    rw [num_back hd, e0, e1, e2, e3, e4, e5, e6, c0, c1, c2, c3, c4, c5, c6]
    simp only [List.append_assoc]
  · simp only [List.length_map]
    rw [z0, z1, z2, z3, z4, z5, z6]
    omega
  · intro x hx
    obtain ⟨y, hy, rfl⟩ := List.mem_map.1 hx
    exact (o2 y hy).1
  · intro x hx
    obtain ⟨q1, q2, q3, q4⟩ := o3 x hx
    exact ⟨q2, q3, q4, by omega⟩
  · intro x hx
    obtain ⟨y, hy, rfl⟩ := List.mem_map.1 hx
    exact (o2 y hy).2
theorem errs_push {σ α : Type} {rd : List UInt8 → Except Int (α × List UInt8)} {push : σ → α → σ} (h : Errs rd) : ∀ (n : Nat) (s : σ), Errs (rdPush rd push n s)
  | 0, s => fun b k hk => by unfold rdPush at hk; cases hk
  | n + 1, s => fun b k hk => by
    unfold rdPush at hk
    exact errs_thn h (fun x => errs_push h n (push s x)) b k hk
theorem errs_cur : Errs rdCur := errs_thn errs_num fun _ => errs_thn errs_num fun _ => errs_ok _
theorem errs_und : Errs rdUnd := errs_thn (errs_text 8) fun _ => errs_thn errs_num fun _ => errs_thn errs_num fun _ => errs_thn errs_num fun _ => errs_ok _
theorem errs_ins : Errs rdIns := errs_thn errs_num fun _ => errs_thn errs_num fun _ => errs_thn errs_num fun _ => errs_thn errs_num fun _ => errs_thn errs_num fun _ => errs_thn errs_bit fun _ => errs_thn errs_num fun _ => errs_thn errs_num fun _ => errs_ok _
theorem errs_acct (n : Nat) : Errs (rdAcct n) := errs_thn errs_num fun _ => errs_thn errs_bit fun _ => errs_thn errs_num fun _ => errs_push errs_num n _
theorem errs_tri : Errs rdTri := errs_thn errs_num fun _ => errs_thn errs_num fun _ => errs_thn errs_num fun _ => errs_ok _
theorem errs_ord : Errs rdOrd := errs_thn errs_num fun _ => errs_thn errs_num fun _ => errs_thn errs_num fun _ => errs_thn errs_num fun _ => errs_thn errs_num fun _ => errs_ok _
theorem errs_led : Errs rdL := errs_thn errs_num fun _ => errs_thn (errs_count _) fun _ => errs_thn (errs_count _) fun _ => errs_thn (errs_count _) fun _ => errs_thn (errs_count _) fun _ => errs_thn (errs_count _) fun _ => errs_thn (errs_count _) fun _ => errs_thn (errs_count _) fun _ =>
  errs_thn (errs_push errs_cur _ _) fun _ => errs_thn (errs_push errs_und _ _) fun _ => errs_thn (errs_push errs_ins _ _) fun _ => errs_thn (errs_push (errs_acct _) _ _) fun _ => errs_thn (errs_push errs_tri _ _) fun _ => errs_thn (errs_push errs_ord _ _) fun _ => errs_push errs_tri _ _

def zeroLed : Led := dayL 0
/-- the ledger of bytes, all of them; or what is wrong: before it is seen whether it can be -/
def readB (bs : List UInt8) : Led × Int := match rdL bs with
  | .error k => (zeroLed, k)
  | .ok (x, r) => if 0 < r.length then (zeroLed, 13) else (x, 0)
/-- .. and behind that -/
def readL (bs : List UInt8) : Led × Int := if (readB bs).2 = 0 ∧ goodF (readB bs).1 = false then (zeroLed, 43) else readB bs
theorem zero_fit : LedFit zeroLed := ⟨by decide, (⟨by decide, by decide⟩ : FixpW.I64 0), by simp [zeroLed, dayL], by simp [zeroLed, dayL], by simp [zeroLed, dayL], by simp [zeroLed, dayL], by simp [zeroLed, dayL], by simp [zeroLed, dayL], by simp [zeroLed, dayL], by simp [zeroLed, dayL]⟩
theorem readB_fit (bs : List UInt8) : LedFit (readB bs).1 := by
  unfold readB
  split
  · exact zero_fit
  · next x r h =>
    split
    · exact zero_fit
    · exact (led_back h).2
theorem readL_fit (bs : List UInt8) : LedFit (readL bs).1 := by
  unfold readL
  split
  · exact zero_fit
  · exact readB_fit bs
theorem readB_err {bs : List UInt8} {k : Int} (h : rdL bs = .error k) : readB bs = (zeroLed, k) := by
  unfold readB
  rw [h]
theorem readB_tail {bs : List UInt8} {x : Led} {r : List UInt8} (h : rdL bs = .ok (x, r)) (hr : 0 < r.length) : readB bs = (zeroLed, 13) := by
  unfold readB
  rw [h]
  exact if_pos hr
theorem readB_ok {bs : List UInt8} {x : Led} (h : rdL bs = .ok (x, [])) : readB bs = (x, 0) := by
  unfold readB
  rw [h]
  exact if_neg (by simp)
theorem readL_of {bs : List UInt8} {x : Led} {k : Int} (h : readB bs = (x, k)) (hg : ¬ (k = 0 ∧ goodF x = false)) : readL bs = (x, k) := by
  unfold readL
  rw [h]
  exact if_neg hg
theorem readL_enc {l : Led} (f : LedFit l) (g : goodF l = true) : readL (encL l) = (l, 0) ∧ (∀ i, i < (encL l).length → readL ((encL l).take i) = (zeroLed, 10)) ∧ readL (encL l ++ [0]) = (zeroLed, 13) := by
  have R := reads_led f g
  refine ⟨?_, fun i hi => readL_of (readB_err (R.part i hi)) (by simp), readL_of (readB_tail (R.all [0]) (by simp)) (by simp)⟩
  have h := R.all []
  rw [List.append_nil] at h
  exact readL_of (readB_ok h) (by simp [g])
theorem readB_back {b : List UInt8} {l : Led} (h : readB b = (l, 0)) : b = encL l := by
  unfold readB at h
  split at h
  · next k hk =>
    simp only [Prod.mk.injEq] at h
    obtain ⟨rfl, rfl⟩ := h
    exact absurd (errs_led _ _ hk) (by decide)
  · next y r hy =>
    split at h
    · simp at h
    · next hr =>
      simp only [Prod.mk.injEq, and_true] at h
      subst h
      have hr0 : r = [] := by
        cases r with
        | nil => rfl
        | cons a b => simp at hr
      subst hr0
      have := (led_back hy).1
      rwa [List.append_nil] at this
theorem readL_back {b : List UInt8} {l : Led} (h : readL b = (l, 0)) : imageF l = (b, 0) := by
  unfold readL at h
  split at h
  · simp at h
  · next hg =>
    have e := readB_back h
    rw [h] at hg
    have hg' : goodF l = true := by simpa using hg
    unfold imageF
    rw [if_pos hg', ← e]
theorem readL_zero {b : List UInt8} (h : (readL b).2 ≠ 0) : (readL b).1 = zeroLed := by
  unfold readL at *
  split
  · rfl
  · next hg =>
    rw [if_neg hg] at h
    unfold readB at *
    split
    · rfl
    · next y r hy =>
      rw [hy] at h
      split
      · rfl
      · next hr => simp [hr] at h
end Go.Proofs.YtocjfjikkdpfdaaGreatDoor.ImgW
namespace Go.Proofs.YtocjfjikkdpfdaaGreatDoor.ImgW
open Go.RowKit Go.Proofs.YtocjfjikkdpfdaaGreatDoor.Bas Go.Proofs.YtocjfjikkdpfdaaGreatDoor.LedM Go.Proofs.YtocjfjikkdpfdaaGreatDoor.LedW

/-- what is left of the bytes, or the first error -/
abbrev ST := Except Int (List UInt8)
/-- a reading by the document: behind an error nothing is read -/
def lft {α : Type} (z : α) (rd : List UInt8 → Except Int (α × List UInt8)) (st : ST) : α × ST := match st with
  | .error k => (z, .error k)
  | .ok b => match rd b with
    | .error k => (z, .error k)
    | .ok (x, r) => (x, .ok r)
def stp {α β : Type} (p : α × ST) (F : α → ST → β × ST) : β × ST := F p.1 p.2
def sN : ST → Int × ST := lft 0 rdN
def sC (m : Int) : ST → Int × ST := lft 0 (rdC m)
def sT : ST → List UInt8 × ST := lft [] (rdT 8)
def sB (st : ST) : Bool × ST := (decide ((sC 1 st).1 = 1), (sC 1 st).2)
def sPush {σ α : Type} (rd : ST → α × ST) (push : σ → α → σ) : Nat → σ → ST → σ × ST
  | 0, s, st => (s, st)
  | n + 1, s, st => stp (rd st) fun x st => sPush rd push n (push s x) st
def sCur (b : ST) : (Int × Int) × ST := stp (sN b) fun x0 b => stp (sN b) fun x1 b => ((x0, x1), b)
def sUnd (b : ST) : Und × ST := stp (sT b) fun x0 b => stp (sN b) fun x1 b => stp (sN b) fun x2 b => stp (sN b) fun x3 b => (⟨x0, x1, x2, x3⟩, b)
def sIns (b : ST) : (Ins × Int) × ST := stp (sN b) fun x0 b => stp (sN b) fun x1 b => stp (sN b) fun x2 b => stp (sN b) fun x3 b => stp (sN b) fun x4 b => stp (sB b) fun x5 b => stp (sN b) fun x6 b => stp (sN b) fun x7 b => ((⟨x0, x1, x2, x3, x4, x5, x6⟩, x7), b)
def sAcct (n : Nat) (b : ST) : Acc × ST := stp (sN b) fun x0 b => stp (sB b) fun x1 b => stp (sN b) fun x2 b => sPush sN addCash n ⟨x0, [], x1, x2⟩ b
def sTri (b : ST) : Tri × ST := stp (sN b) fun x0 b => stp (sN b) fun x1 b => stp (sN b) fun x2 b => ((x0, x1, x2), b)
def sOrd (b : ST) : Ord × ST := stp (sN b) fun x0 b => stp (sN b) fun x1 b => stp (sN b) fun x2 b => stp (sN b) fun x3 b => stp (sN b) fun x4 b => (⟨x0, x1, x2, x3, x4⟩, b)
def sLists (n0 n1 n2 n3 n4 n5 n6 : Nat) (l : Led) (b : ST) : Led × ST :=
  stp (sPush sCur addCur n0 l b) fun l b => stp (sPush sUnd addUnd n1 l b) fun l b => stp (sPush sIns addIns n2 l b) fun l b => stp (sPush (sAcct n0) addAcct n3 l b) fun l b => stp (sPush sTri addPos n4 l b) fun l b => stp (sPush sOrd addOrd n5 l b) fun l b => sPush sTri addLoc n6 l b
def sL (b : ST) : Led × ST :=
  stp (sN b) fun x0 b => stp (sC 4 b) fun n0 b => stp (sC 6 b) fun n1 b => stp (sC 12 b) fun n2 b => stp (sC 16 b) fun n3 b => stp (sC 64 b) fun n4 b => stp (sC 32 b) fun n5 b => stp (sC 32 b) fun n6 b =>
    sLists n0.toNat n1.toNat n2.toNat n3.toNat n4.toNat n5.toNat n6.toNat (dayL x0) b
def sE (b : ST) : EvR × ST := stp (sC 16 b) fun x0 b => stp (sN b) fun x1 b => stp (sN b) fun x2 b => stp (sN b) fun x3 b => stp (sN b) fun x4 b => stp (sN b) fun x5 b => stp (sN b) fun x6 b => stp (sN b) fun x7 b => stp (sN b) fun x8 b => stp (sN b) fun x9 b => stp (sB b) fun x10 b => stp (sT b) fun x11 b => (⟨x0, x1, x2, x3, x4, x5, x6, x7, x8, x9, x10, x11⟩, b)

/-- both tell the same -/
structure Sim {α : Type} (rd : List UInt8 → Except Int (α × List UInt8)) (s : ST → α × ST) : Prop where
  err : ∀ b k, rd b = .error k → (s (.ok b)).2 = .error k
  ok : ∀ b x r, rd b = .ok (x, r) → s (.ok b) = (x, .ok r)
  stick : ∀ k, (s (.error k)).2 = .error k
theorem sim_lft {α : Type} (z : α) (rd : List UInt8 → Except Int (α × List UInt8)) : Sim rd (lft z rd) := ⟨fun b k h => (by simp only [lft, h]), fun b x r h => (by simp only [lft, h]), fun k => rfl⟩
theorem sim_stp {α β : Type} {rd : List UInt8 → Except Int (α × List UInt8)} {s : ST → α × ST} {F : α → List UInt8 → Except Int (β × List UInt8)} {G : α → ST → β × ST} (h : Sim rd s) (k : ∀ x, Sim (F x) (G x)) : Sim (fun b => thn (rd b) F) (fun b => stp (s b) G) := by
  refine ⟨fun b e he => ?_, fun b y r he => ?_, fun e => ?_⟩
  · have he' : thn (rd b) F = .error e := he
    show (G (s (.ok b)).1 (s (.ok b)).2).2 = _
    cases hr : rd b with
    | error j =>
      rw [thn_err hr] at he'
      cases he'
      rw [h.err b _ hr]
      exact (k _).stick _
    | ok p =>
      obtain ⟨x, r⟩ := p
      rw [thn_ok hr] at he'
      rw [h.ok b x r hr]
      exact (k x).err r e he'
  · have he' : thn (rd b) F = .ok (y, r) := he
    obtain ⟨x, r1, h1, h2⟩ := thn_back he'
    show G (s (.ok b)).1 (s (.ok b)).2 = _
    rw [h.ok b x r1 h1]
    exact (k x).ok r1 y r h2
  · show (G (s (.error e)).1 (s (.error e)).2).2 = _
    rw [h.stick e]
    exact (k _).stick e
theorem sim_end {α : Type} (x : α) : Sim (fun b => .ok (x, b)) (fun b => (x, b)) := ⟨fun b k h => (by cases h), fun b y r h => (by simp only [Except.ok.injEq, Prod.mk.injEq] at h; obtain ⟨rfl, rfl⟩ := h; rfl), fun k => rfl⟩
theorem sim_push {σ α : Type} {rd : List UInt8 → Except Int (α × List UInt8)} {s : ST → α × ST} {push : σ → α → σ} (h : Sim rd s) : ∀ (n : Nat) (a : σ), Sim (rdPush rd push n a) (sPush s push n a)
  | 0, a => sim_end a
  | n + 1, a => sim_stp h fun x => sim_push h n (push a x)
theorem sim_num : Sim rdN sN := sim_lft _ _
theorem sim_count (m : Int) : Sim (rdC m) (sC m) := sim_lft _ _
theorem sim_text : Sim (rdT 8) sT := sim_lft _ _
theorem sim_bit : Sim rdB sB := by
  have h := sim_count 1
  refine ⟨fun b k hk => ?_, fun b x r hk => ?_, fun k => rfl⟩
  · unfold rdB at hk
    split at hk
    · next j hj =>
      cases hk
      exact h.err b _ hj
    · cases hk
  · unfold rdB at hk
    split at hk
    · cases hk
    · next n r' hn =>
      simp only [Except.ok.injEq, Prod.mk.injEq] at hk
      obtain ⟨rfl, rfl⟩ := hk
      unfold sB
      rw [h.ok b n r' hn]
theorem sim_cur : Sim rdCur sCur := sim_stp sim_num fun _ => sim_stp sim_num fun _ => sim_end _
theorem sim_und : Sim rdUnd sUnd := sim_stp sim_text fun _ => sim_stp sim_num fun _ => sim_stp sim_num fun _ => sim_stp sim_num fun _ => sim_end _
theorem sim_ins : Sim rdIns sIns := sim_stp sim_num fun _ => sim_stp sim_num fun _ => sim_stp sim_num fun _ => sim_stp sim_num fun _ => sim_stp sim_num fun _ => sim_stp sim_bit fun _ => sim_stp sim_num fun _ => sim_stp sim_num fun _ => sim_end _
theorem sim_acct (n : Nat) : Sim (rdAcct n) (sAcct n) := sim_stp sim_num fun _ => sim_stp sim_bit fun _ => sim_stp sim_num fun _ => sim_push sim_num n _
theorem sim_tri : Sim rdTri sTri := sim_stp sim_num fun _ => sim_stp sim_num fun _ => sim_stp sim_num fun _ => sim_end _
theorem sim_ord : Sim rdOrd sOrd := sim_stp sim_num fun _ => sim_stp sim_num fun _ => sim_stp sim_num fun _ => sim_stp sim_num fun _ => sim_stp sim_num fun _ => sim_end _
theorem sim_led : Sim rdL sL := sim_stp sim_num fun _ => sim_stp (sim_count _) fun _ => sim_stp (sim_count _) fun _ => sim_stp (sim_count _) fun _ => sim_stp (sim_count _) fun _ => sim_stp (sim_count _) fun _ => sim_stp (sim_count _) fun _ => sim_stp (sim_count _) fun _ =>
  sim_stp (sim_push sim_cur _ _) fun _ => sim_stp (sim_push sim_und _ _) fun _ => sim_stp (sim_push sim_ins _ _) fun _ => sim_stp (sim_push (sim_acct _) _ _) fun _ => sim_stp (sim_push sim_tri _ _) fun _ => sim_stp (sim_push sim_ord _ _) fun _ => sim_push sim_tri _ _
/-- an event: the kind is looked at in the end -/
def rdE0 (bs : List UInt8) : Except Int (EvR × List UInt8) := thn (rdC 16 bs) fun x0 b => thn (rdN b) fun x1 b => thn (rdN b) fun x2 b => thn (rdN b) fun x3 b => thn (rdN b) fun x4 b => thn (rdN b) fun x5 b => thn (rdN b) fun x6 b => thn (rdN b) fun x7 b => thn (rdN b) fun x8 b => thn (rdN b) fun x9 b => thn (rdB b) fun x10 b => thn (rdT 8 b) fun x11 b => .ok (⟨x0, x1, x2, x3, x4, x5, x6, x7, x8, x9, x10, x11⟩, b)
theorem sim_ev : Sim rdE0 sE := sim_stp (sim_count 16) fun _ => sim_stp sim_num fun _ => sim_stp sim_num fun _ => sim_stp sim_num fun _ => sim_stp sim_num fun _ => sim_stp sim_num fun _ => sim_stp sim_num fun _ => sim_stp sim_num fun _ => sim_stp sim_num fun _ => sim_stp sim_num fun _ => sim_stp sim_bit fun _ => sim_stp sim_text fun _ => sim_end _
theorem thn_thn {α β γ : Type} (m : Except Int (α × List UInt8)) (F : α → List UInt8 → Except Int (β × List UInt8)) (G : β → List UInt8 → Except Int γ) : thn (thn m F) G = thn m fun x b => thn (F x b) G := by
  cases m <;> rfl
theorem rdE_split (bs : List UInt8) : rdE bs = thn (rdE0 bs) fun x b => if x.kind = 0 then .error 11 else .ok (x, b) := by
  unfold rdE rdE0
  simp only [thn_thn]
  rfl
/-- what the document makes of it in the end -/
def endE (p : EvR × ST) : EvR × Int := match p.2 with
  | .error k => (zeroE, k)
  | .ok r => if p.1.kind = 0 then (zeroE, 11) else if 0 < r.length then (zeroE, 13) else (p.1, 0)
theorem endE_read (bs : List UInt8) : endE (sE (.ok bs)) = readE bs := by
  unfold readE
  rw [rdE_split]
  cases h : rdE0 bs with
  | error k =>
    rw [thn_err rfl]
    unfold endE
    rw [sim_ev.err bs k h]
  | ok p =>
    obtain ⟨x, r⟩ := p
    rw [thn_ok rfl, sim_ev.ok bs x r h]
    unfold endE
    by_cases hk : x.kind = 0
    · simp only [if_pos hk]
    · simp only [if_neg hk]
def endL (p : Led × ST) : Led × Int := match p.2 with
  | .error k => (zeroLed, k)
  | .ok r => if 0 < r.length then (zeroLed, 13) else if goodF p.1 = true then (p.1, 0) else (zeroLed, 43)
theorem endL_read (bs : List UInt8) : endL (sL (.ok bs)) = readL bs := by
  unfold readL readB
  cases h : rdL bs with
  | error k =>
    unfold endL
    rw [sim_led.err bs k h]
    have hk : k ≠ 0 := by rcases errs_led _ _ h with rfl | rfl <;> decide
    simp [hk]
  | ok p =>
    obtain ⟨x, r⟩ := p
    rw [sim_led.ok bs x r h]
    unfold endL
    by_cases hr : 0 < r.length
    · simp [hr]
    · cases hg : goodF x <;> simp [hr, hg]
theorem sled_fit (bs : List UInt8) {l : Led} {r : List UInt8} (h : sL (.ok bs) = (l, .ok r)) : LedFit l := by
  cases hr : rdL bs with
  | error k =>
    have := sim_led.err bs k hr
    rw [h] at this
    cases this
  | ok p =>
    obtain ⟨x, r'⟩ := p
    have := sim_led.ok bs x r' hr
    rw [h] at this
    simp only [Prod.mk.injEq, Except.ok.injEq] at this
    rw [this.1]
    exact (led_back hr).2
theorem sN_i64 (st : ST) : FixpW.I64 (sN st).1 := by
  have hz : FixpW.I64 0 := ⟨by decide, by decide⟩
  unfold sN lft
  split
  · exact hz
  · split
    · exact hz
    · next h => exact rdN_i64 h
theorem sC_range (m : Int) (hm : 0 ≤ m) (st : ST) : 0 ≤ (sC m st).1 ∧ (sC m st).1 ≤ m := by
  unfold sC lft
  split
  · exact ⟨Int.le_refl _, hm⟩
  · split
    · exact ⟨Int.le_refl _, hm⟩
    · next h => exact (count_back h).2
end Go.Proofs.YtocjfjikkdpfdaaGreatDoor.ImgW
namespace Go.Proofs.YtocjfjikkdpfdaaGreatDoor.ImgW
open Go.RowKit Go.Proofs.YtocjfjikkdpfdaaGreatDoor.Bas Go.Proofs.YtocjfjikkdpfdaaGreatDoor.LedM Go.Proofs.YtocjfjikkdpfdaaGreatDoor.LedW

theorem image_two (l : Led) : (goodF l = true ∧ imageF l = (encL l, 0)) ∨ (goodF l = false ∧ imageF l = ([], 43)) := by
  unfold imageF
  cases h : goodF l
  · exact .inr ⟨rfl, if_neg (by decide)⟩
  · exact .inl ⟨rfl, if_pos rfl⟩
theorem event_two (x : EvR) : eventF x = (encE x, 0) ∨ ∃ c, eventF x = ([], c) ∧ (c == 0) = false := by
  unfold eventF
  split
  · exact .inr ⟨_, rfl, rfl⟩
  · split
    · exact .inr ⟨_, rfl, rfl⟩
    · exact .inl rfl
theorem encE_min (x : EvR) : 96 ≤ (encE x).length := by
  unfold encE encT
  rw [List.length_append, List.length_append, encs_len, encN_len]
  simp only [List.length_cons, List.length_nil]
  omega
theorem encE_max {x : EvR} (h : eventF x = (encE x, 0)) : (encE x).length ≤ 104 := by
  have h0 := encE_min x
  unfold eventF at h
  split at h
  · simp at h
  · split at h
    · simp at h
    · unfold encE encT
      rw [List.length_append, List.length_append, encs_len, encN_len]
      simp only [List.length_cons, List.length_nil]
      omega
theorem bytes8 : Tryz.prog.bytesOf 5 = 1 := by kernel_rfl
theorem cells8 : Tryz.prog.cellsOf 5 = 1 := by kernel_rfl
theorem u8s_take (l : List UInt8) (n : Nat) : u8s (l.take n) = (u8s l).take n := List.map_take
/-- ReadEvent of bytes with a nought behind -/
theorem readevent_tail (bs : List UInt8) (a : Option Addr) (cap : Nat) (w : World) (hat : At w a (u8s bs ++ [.int .u8 0])) (hl : bs.length + 1 ≤ cap) (hm : cap ≤ maxLen) :
    Calls Tryz.prog 16 #[.slice a (bs.length + 1) cap] w fun e w' => e = .returned (.tuple #[evV (readE (bs ++ [0])).1, .int .i64 (readE (bs ++ [0])).2]) ∧ Below w.heap.size w w' := by
  have h := readevent_calls (bs ++ [0]) a cap w (by rw [u8s_append]; exact hat) (by simpa using hl) hm
  simpa using h
/-- ReadEvent of a beginning -/
theorem readevent_take (bs : List UInt8) (a : Option Addr) (cap : Nat) (w : World) (hat : At w a (u8s bs)) (i : Nat) (hi : i ≤ bs.length) (hl : bs.length ≤ cap) (hm : cap ≤ maxLen) :
    Calls Tryz.prog 16 #[.slice a i cap] w fun e w' => e = .returned (.tuple #[evV (readE (bs.take i)).1, .int .i64 (readE (bs.take i)).2]) ∧ Below w.heap.size w w' := by
  have h := readevent_calls (bs.take i) a cap w (by rw [u8s_take]; exact hat.take i) (by rw [List.length_take]; omega) hm
  rwa [List.length_take, Nat.min_eq_left hi] at h
end Go.Proofs.YtocjfjikkdpfdaaGreatDoor.ImgW
namespace Go.Proofs.YtocjfjikkdpfdaaGreatDoor.ImgW
open Go.RowKit Go.Proofs.YtocjfjikkdpfdaaGreatDoor.Bas Go.Proofs.YtocjfjikkdpfdaaGreatDoor.LedM Go.Proofs.YtocjfjikkdpfdaaGreatDoor.LedW

/-- the lists, once more, step by step -/
def rL6 (n6 : Nat) (l : Led) (b : List UInt8) : Except Int (Led × List UInt8) := rdPush rdTri addLoc n6 l b
def rL5 (n5 n6 : Nat) (l : Led) (b : List UInt8) : Except Int (Led × List UInt8) := thn (rdPush rdOrd addOrd n5 l b) (rL6 n6)
def rL4 (n4 n5 n6 : Nat) (l : Led) (b : List UInt8) : Except Int (Led × List UInt8) := thn (rdPush rdTri addPos n4 l b) (rL5 n5 n6)
def rL3 (n0 n3 n4 n5 n6 : Nat) (l : Led) (b : List UInt8) : Except Int (Led × List UInt8) := thn (rdPush (rdAcct n0) addAcct n3 l b) (rL4 n4 n5 n6)
def rL2 (n0 n2 n3 n4 n5 n6 : Nat) (l : Led) (b : List UInt8) : Except Int (Led × List UInt8) := thn (rdPush rdIns addIns n2 l b) (rL3 n0 n3 n4 n5 n6)
def rL1 (n0 n1 n2 n3 n4 n5 n6 : Nat) (l : Led) (b : List UInt8) : Except Int (Led × List UInt8) := thn (rdPush rdUnd addUnd n1 l b) (rL2 n0 n2 n3 n4 n5 n6)
theorem lists_steps (n0 n1 n2 n3 n4 n5 n6 : Nat) (l : Led) (b : List UInt8) : rdLists n0 n1 n2 n3 n4 n5 n6 l b = thn (rdPush rdCur addCur n0 l b) (rL1 n0 n1 n2 n3 n4 n5 n6) := rfl
theorem thn_pure {α β : Type} (x : α) (r : List UInt8) (f : α → List UInt8 → Except Int β) : thn (.ok (x, r)) f = f x r := rfl
theorem thn_id {α : Type} (m : Except Int (α × List UInt8)) : thn m (fun x b => .ok (x, b)) = m := by
  cases m <;> rfl
theorem push_zero {σ α β : Type} {q : Except Int β} {rd : List UInt8 → Except Int (α × List UInt8)} {push : σ → α → σ} {s : σ} {b : List UInt8} {F : σ → List UInt8 → Except Int β} {n : Nat} (h : q = thn (rdPush rd push n s b) F) (hn : n = 0) : q = F s b := by
  subst hn
  exact h
theorem push_succ {σ α β : Type} {q : Except Int β} {rd : List UInt8 → Except Int (α × List UInt8)} {push : σ → α → σ} {s : σ} {b : List UInt8} {F : σ → List UInt8 → Except Int β} {n m : Nat} (h : q = thn (rdPush rd push n s b) F) (hn : n = m + 1) : q = thn (rd b) fun x b => thn (rdPush rd push m (push s x) b) F := by
  subst hn
  rw [h]
  show thn (thn (rd b) fun x b => rdPush rd push m (push s x) b) F = _
  exact thn_thn _ _ _

end Go.Proofs.YtocjfjikkdpfdaaGreatDoor.ImgW
namespace Go.Proofs.YtocjfjikkdpfdaaGreatDoor.LedW
open Go.RowKit Go.Proofs.YtocjfjikkdpfdaaGreatDoor.Bas Go.Proofs.YtocjfjikkdpfdaaGreatDoor.LedM Go.Proofs.YtocjfjikkdpfdaaGreatDoor.ImgW

theorem owns_other {W W' : World} {b : Nat} {e : TypeId} {z : Nat} {v : Value} {n : Nat} {xs : List Value} (h : W.ownsRow b e z v n xs) {g : Nat} (hg : W.grownBy W' (some g)) (hb : g < b) : W'.ownsRow b e z v n xs := by
  refine h.kept hg ?_
  cases hv : v.ownBlock with
  | none => exact .inl rfl
  | some j =>
    refine .inr fun e => ?_
    have e' := Option.some.inj e
    have := (h.lt j hv).1
    omega
theorem LedOwn.other {base : Nat} {A B : World} {s : Lists} {l : Led} {vs : List (Value × Acc)} (h : LedOwn base A s l vs) {g : Nat} (hg : A.grownBy B (some g)) (hb : g < base) : LedOwn base B s l vs :=
  ⟨owns_other h.curs hg hb, owns_other h.unders hg hb, owns_other h.instrs hg hb, owns_other h.accts hg hb, owns_other h.poss hg hb, owns_other h.orders hg hb, owns_other h.avail hg hb, owns_other h.locs hg hb, h.each, fun x hx => owns_other (h.cash x hx) hg hb, h.dist, h.free⟩
section
variable {base : Nat} {W W' : World} {s : Lists} {l : Led} {us : List (Value × Acc)} {n4 : Option Addr} {k4 : Nat}
/-- a list of accounts' own kind apart, every other row stays -/
theorem LedOwn.pushCur (h : LedOwn base W s l us) {x : Int × Int} (hown : W'.ownsRow base 55 2 (.slice n4 (l.curs.length + 1) k4) (l.curs.length + 1) (l.curs.flatMap curC ++ curC x)) (hg : W.grownBy W' (Value.slice s.a1 l.curs.length s.c1).ownBlock) :
    LedOwn base W' { s with a1 := n4, c1 := k4 } (addCur l x) us := by
  have far : ∀ {b e z v' n xs}, W.ownsRow b e z v' n xs → e ≠ 55 → W'.ownsRow b e z v' n xs := fun hh hne => own_grown hh hg (own_kinds hh h.curs hne)
  refine ⟨?_, far h.unders (by decide), far h.instrs (by decide), far h.accts (by decide), far h.poss (by decide), far h.orders (by decide), far h.avail (by decide), far h.locs (by decide), h.each, fun x hx => far (h.cash x hx) (by decide), h.dist, h.free⟩
  show W'.ownsRow base 55 2 (.slice n4 (l.curs ++ [x]).length k4) (l.curs ++ [x]).length ((l.curs ++ [x]).flatMap curC)
  rw [List.length_append, List.flatMap_append]
  simpa using hown
theorem LedOwn.pushUnd (h : LedOwn base W s l us) {x : Und} (hown : W'.ownsRow base 57 4 (.slice n4 (l.unders.length + 1) k4) (l.unders.length + 1) (l.unders.flatMap undC ++ undC x)) (hg : W.grownBy W' (Value.slice s.a2 l.unders.length s.c2).ownBlock) :
    LedOwn base W' { s with a2 := n4, c2 := k4 } (addUnd l x) us := by
  have far : ∀ {b e z v' n xs}, W.ownsRow b e z v' n xs → e ≠ 57 → W'.ownsRow b e z v' n xs := fun hh hne => own_grown hh hg (own_kinds hh h.unders hne)
  refine ⟨far h.curs (by decide), ?_, far h.instrs (by decide), far h.accts (by decide), far h.poss (by decide), far h.orders (by decide), far h.avail (by decide), far h.locs (by decide), h.each, fun x hx => far (h.cash x hx) (by decide), h.dist, h.free⟩
  show W'.ownsRow base 57 4 (.slice n4 (l.unders ++ [x]).length k4) (l.unders ++ [x]).length ((l.unders ++ [x]).flatMap undC)
  rw [List.length_append, List.flatMap_append]
  simpa using hown
theorem LedOwn.pushInstr (h : LedOwn base W s l us) {x : Ins} (hown : W'.ownsRow base 60 7 (.slice n4 (l.instrs.length + 1) k4) (l.instrs.length + 1) (l.instrs.flatMap insC ++ insC x)) (hg : W.grownBy W' (Value.slice s.a3 l.instrs.length s.c3).ownBlock) :
    LedOwn base W' { s with a3 := n4, c3 := k4 } { l with instrs := l.instrs ++ [x] } us := by
  have far : ∀ {b e z v' n xs}, W.ownsRow b e z v' n xs → e ≠ 60 → W'.ownsRow b e z v' n xs := fun hh hne => own_grown hh hg (own_kinds hh h.instrs hne)
  refine ⟨far h.curs (by decide), far h.unders (by decide), ?_, far h.accts (by decide), far h.poss (by decide), far h.orders (by decide), far h.avail (by decide), far h.locs (by decide), h.each, fun x hx => far (h.cash x hx) (by decide), h.dist, h.free⟩
  show W'.ownsRow base 60 7 (.slice n4 (l.instrs ++ [x]).length k4) (l.instrs ++ [x]).length ((l.instrs ++ [x]).flatMap insC)
  rw [List.length_append, List.flatMap_append]
  simpa using hown
theorem LedOwn.pushPos (h : LedOwn base W s l us) {x : Tri} (hown : W'.ownsRow base 63 3 (.slice n4 (l.poss.length + 1) k4) (l.poss.length + 1) (l.poss.flatMap triC ++ triC x)) (hg : W.grownBy W' (Value.slice s.a5 l.poss.length s.c5).ownBlock) :
    LedOwn base W' { s with a5 := n4, c5 := k4 } (addPos l x) us := by
  have far : ∀ {b e z v' n xs}, W.ownsRow b e z v' n xs → e ≠ 63 → W'.ownsRow b e z v' n xs := fun hh hne => own_grown hh hg (own_kinds hh h.poss hne)
  refine ⟨far h.curs (by decide), far h.unders (by decide), far h.instrs (by decide), far h.accts (by decide), ?_, far h.orders (by decide), far h.avail (by decide), far h.locs (by decide), h.each, fun x hx => far (h.cash x hx) (by decide), h.dist, h.free⟩
  show W'.ownsRow base 63 3 (.slice n4 (l.poss ++ [x]).length k4) (l.poss ++ [x]).length ((l.poss ++ [x]).flatMap triC)
  rw [List.length_append, List.flatMap_append]
  simpa using hown
theorem LedOwn.pushOrd (h : LedOwn base W s l us) {x : Ord} (hown : W'.ownsRow base 65 5 (.slice n4 (l.orders.length + 1) k4) (l.orders.length + 1) (l.orders.flatMap ordC ++ ordC x)) (hg : W.grownBy W' (Value.slice s.a6 l.orders.length s.c6).ownBlock) :
    LedOwn base W' { s with a6 := n4, c6 := k4 } (addOrd l x) us := by
  have far : ∀ {b e z v' n xs}, W.ownsRow b e z v' n xs → e ≠ 65 → W'.ownsRow b e z v' n xs := fun hh hne => own_grown hh hg (own_kinds hh h.orders hne)
  refine ⟨far h.curs (by decide), far h.unders (by decide), far h.instrs (by decide), far h.accts (by decide), far h.poss (by decide), ?_, far h.avail (by decide), far h.locs (by decide), h.each, fun x hx => far (h.cash x hx) (by decide), h.dist, h.free⟩
  show W'.ownsRow base 65 5 (.slice n4 (l.orders ++ [x]).length k4) (l.orders ++ [x]).length ((l.orders ++ [x]).flatMap ordC)
  rw [List.length_append, List.flatMap_append]
  simpa using hown
theorem LedOwn.pushLoc (h : LedOwn base W s l us) {x : Tri} (hown : W'.ownsRow base 66 3 (.slice n4 (l.locs.length + 1) k4) (l.locs.length + 1) (l.locs.flatMap triC ++ triC x)) (hg : W.grownBy W' (Value.slice s.a8 l.locs.length s.c8).ownBlock) :
    LedOwn base W' { s with a8 := n4, c8 := k4 } (addLoc l x) us := by
  have far : ∀ {b e z v' n xs}, W.ownsRow b e z v' n xs → e ≠ 66 → W'.ownsRow b e z v' n xs := fun hh hne => own_grown hh hg (own_kinds hh h.locs hne)
  refine ⟨far h.curs (by decide), far h.unders (by decide), far h.instrs (by decide), far h.accts (by decide), far h.poss (by decide), far h.orders (by decide), far h.avail (by decide), ?_, h.each, fun x hx => far (h.cash x hx) (by decide), h.dist, h.free⟩
  show W'.ownsRow base 66 3 (.slice n4 (l.locs ++ [x]).length k4) (l.locs ++ [x]).length ((l.locs ++ [x]).flatMap triC)
  rw [List.length_append, List.flatMap_append]
  simpa using hown
theorem LedOwn.pushAvail (h : LedOwn base W s l []) {x : Int} (hown : W'.ownsRow base 3 1 (.slice n4 (l.avail.length + 1) k4) (l.avail.length + 1) (i64s l.avail ++ [.int .i64 x])) (hg : W.grownBy W' (Value.slice s.a7 l.avail.length s.c7).ownBlock) :
    LedOwn base W' { s with a7 := n4, c7 := k4 } { l with avail := l.avail ++ [x] } [] := by
  have far : ∀ {b e z v' n xs}, W.ownsRow b e z v' n xs → e ≠ 3 → W'.ownsRow b e z v' n xs := fun hh hne => own_grown hh hg (own_kinds hh h.avail hne)
  refine ⟨far h.curs (by decide), far h.unders (by decide), far h.instrs (by decide), far h.accts (by decide), far h.poss (by decide), far h.orders (by decide), ?_, far h.locs (by decide), h.each, by simp, by simp, by simp⟩
  show W'.ownsRow base 3 1 (.slice n4 (l.avail ++ [x]).length k4) (l.avail ++ [x]).length (i64s (l.avail ++ [x]))
  rw [List.length_append]
  unfold i64s at hown ⊢
  rw [List.map_append]
  simpa using hown
/-- a row of cash grows that belongs to no account yet -/
theorem LedOwn.beside (h : LedOwn base W s l us) {cv : Value} {b n : Nat} {xs : List Value} (hc : W.ownsRow b 3 1 cv n xs) (hx : ∀ x ∈ us, Apart x.1 cv) (hv : Apart (.slice s.a7 l.avail.length s.c7) cv) (hg : W.grownBy W' cv.ownBlock) : LedOwn base W' s l us := by
  have far : ∀ {b e z v' n xs}, W.ownsRow b e z v' n xs → e ≠ 3 → W'.ownsRow b e z v' n xs := fun hh hne => own_grown hh hg (own_kinds hh hc hne)
  exact ⟨far h.curs (by decide), far h.unders (by decide), far h.instrs (by decide), far h.accts (by decide), far h.poss (by decide), far h.orders (by decide), own_grown h.avail hg hv, far h.locs (by decide), h.each, fun x hx' => own_grown (h.cash x hx') hg (hx x hx'), h.dist, h.free⟩
end
/-- a row that has grown: it lies where it lay, or in new memory; what was apart from it is so still -/
theorem apart_moved {W : World} {b : Nat} {e : TypeId} {z n : Nat} {u v v' : Value} {xs : List Value} (hu : W.ownsRow b e z u n xs) (h : Apart u v) (hv : v'.ownBlock = v.ownBlock ∨ v'.ownBlock = some W.heap.size) : Apart u v' := fun g h1 h2 => by
  rcases hv with hv | hv
  · exact h g h1 (hv ▸ h2)
  · rw [hv] at h2
    cases h2
    have := (hu.lt _ h1).2
    omega
/-- all a ledger's rows lie below a number -/
structure LedUnder (N : Nat) (s : Lists) (l : Led) (us : List (Value × Acc)) : Prop where
  u1 : ∀ j, (Value.slice s.a1 l.curs.length s.c1).ownBlock = some j → j < N
  u2 : ∀ j, (Value.slice s.a2 l.unders.length s.c2).ownBlock = some j → j < N
  u3 : ∀ j, (Value.slice s.a3 l.instrs.length s.c3).ownBlock = some j → j < N
  u4 : ∀ j, (Value.slice s.a4 l.accts.length s.c4).ownBlock = some j → j < N
  u5 : ∀ j, (Value.slice s.a5 l.poss.length s.c5).ownBlock = some j → j < N
  u6 : ∀ j, (Value.slice s.a6 l.orders.length s.c6).ownBlock = some j → j < N
  u7 : ∀ j, (Value.slice s.a7 l.avail.length s.c7).ownBlock = some j → j < N
  u8 : ∀ j, (Value.slice s.a8 l.locs.length s.c8).ownBlock = some j → j < N
  uc : ∀ x ∈ us, ∀ j, x.1.ownBlock = some j → j < N
theorem LedOwn.lies {base : Nat} {W : World} {s : Lists} {l : Led} {us : List (Value × Acc)} (h : LedOwn base W s l us) : LedUnder W.heap.size s l us :=
  ⟨fun j hj => (h.curs.lt j hj).2, fun j hj => (h.unders.lt j hj).2, fun j hj => (h.instrs.lt j hj).2, fun j hj => (h.accts.lt j hj).2, fun j hj => (h.poss.lt j hj).2, fun j hj => (h.orders.lt j hj).2, fun j hj => (h.avail.lt j hj).2, fun j hj => (h.locs.lt j hj).2, fun x hx j hj => ((h.cash x hx).lt j hj).2⟩
theorem LedUnder.mono {N M : Nat} {s : Lists} {l : Led} {us : List (Value × Acc)} (h : LedUnder N s l us) (k : N ≤ M) : LedUnder M s l us :=
  ⟨fun j hj => Nat.lt_of_lt_of_le (h.u1 j hj) k, fun j hj => Nat.lt_of_lt_of_le (h.u2 j hj) k, fun j hj => Nat.lt_of_lt_of_le (h.u3 j hj) k, fun j hj => Nat.lt_of_lt_of_le (h.u4 j hj) k, fun j hj => Nat.lt_of_lt_of_le (h.u5 j hj) k, fun j hj => Nat.lt_of_lt_of_le (h.u6 j hj) k, fun j hj => Nat.lt_of_lt_of_le (h.u7 j hj) k, fun j hj => Nat.lt_of_lt_of_le (h.u8 j hj) k, fun x hx j hj => Nat.lt_of_lt_of_le (h.uc x hx j hj) k⟩
theorem owns_under {A B : World} {b N : Nat} {e : TypeId} {z : Nat} {v : Value} {n : Nat} {xs : List Value} (h : A.ownsRow b e z v n xs) (hu : ∀ j, v.ownBlock = some j → j < N) (k : Below N A B) : B.ownsRow b e z v n xs := by
  refine ⟨h.1, ?_⟩
  rcases h.2 with h0 | ⟨g, cap, cur, e1, hb, hg, hr⟩
  · exact .inl h0
  · refine .inr ⟨g, cap, cur, e1, hb, ?_, hr⟩
    rw [k.block g (hu g (by rw [e1]; rfl))]
    exact hg
theorem LedOwn.under {base N : Nat} {A B : World} {s : Lists} {l : Led} {us : List (Value × Acc)} (h : LedOwn base A s l us) (u : LedUnder N s l us) (k : Below N A B) : LedOwn base B s l us :=
  ⟨owns_under h.curs u.u1 k, owns_under h.unders u.u2 k, owns_under h.instrs u.u3 k, owns_under h.accts u.u4 k, owns_under h.poss u.u5 k, owns_under h.orders u.u6 k, owns_under h.avail u.u7 k, owns_under h.locs u.u8 k, h.each, fun x hx => owns_under (h.cash x hx) (u.uc x hx) k, h.dist, h.free⟩
/-- a row beyond is apart from all of them -/
theorem LedUnder.apart {N b : Nat} {s : Lists} {l : Led} {us : List (Value × Acc)} (u : LedUnder N s l us) {W : World} {e : TypeId} {z n : Nat} {cv : Value} {xs : List Value} (h : W.ownsRow b e z cv n xs) (hb : N ≤ b) : (∀ x ∈ us, Apart x.1 cv) ∧ Apart (.slice s.a7 l.avail.length s.c7) cv :=
  ⟨fun x hx j h1 h2 => by have := u.uc x hx j h1; have := (h.lt j h2).1; omega, fun j h1 h2 => by have := u.u7 j h1; have := (h.lt j h2).1; omega⟩
end Go.Proofs.YtocjfjikkdpfdaaGreatDoor.LedW
namespace Go.Proofs.YtocjfjikkdpfdaaGreatDoor.ImgW
open Go.RowKit Go.Proofs.YtocjfjikkdpfdaaGreatDoor.Bas Go.Proofs.YtocjfjikkdpfdaaGreatDoor.LedM Go.Proofs.YtocjfjikkdpfdaaGreatDoor.LedW

theorem rd_drew {w : World} {g : Nat} {bs : List UInt8} (h : Rd w g bs) : Rd w.drew g bs := by
  obtain ⟨a, c, hx, hat, h1, h2, h3⟩ := h.ex
  exact ⟨a, c, box_drew hx, hat.keep (bel_of ⟨1, rfl⟩), h1, h2, h3⟩
theorem rd_grownR {w w' : World} {g : Nat} {row : Option Nat} {bs : List UInt8} (h : Rd w g bs) (hg : w.grownBy w' row) (hb : ∀ j, row = some j → g < j) : Rd w' g bs := by
  obtain ⟨a, c, hx, hat, h1, h2, h3⟩ := h.ex
  have hne : ∀ k, k ≤ g → some k ≠ row := fun k hk e => by have := hb k e.symm; omega
  refine ⟨a, c, (hg.block g hx.lt (hne g (Nat.le_refl _))).trans hx, fun j u hj => ?_, h1, h2, h3⟩
  obtain ⟨b', off', e, hc⟩ := hat j u hj
  have hl := h3 _ e (fun e0 => by rw [e0] at hj; simp [u8s] at hj)
  exact ⟨b', off', e, (World.cell?_of_block (a := ⟨b', off' + j, none⟩) (hg.block b' (Nat.lt_trans hl hx.lt) (hne b' (Nat.le_of_lt hl)))).trans hc⟩
theorem grown_of_below {w A B : World} {g N : Nat} (h : w.grownBy A (some g)) (b : Below N A B) (hw : w.heap.size ≤ N) : w.grownBy B (some g) :=
  ⟨b.os.trans h.os, b.tape.trans h.tape, b.output.trans h.output, Nat.le_trans h.size b.size, fun k hk hne => (b.block k (by omega)).trans (h.block k hk hne)⟩
/-- which lists are empty still -/
def nil7 (l : Led) : Prop := l.locs = []
def nil6 (l : Led) : Prop := l.orders = [] ∧ nil7 l
def nil5 (l : Led) : Prop := l.poss = [] ∧ nil6 l
def nil4 (l : Led) : Prop := l.accts = [] ∧ nil5 l
def nil3 (l : Led) : Prop := l.instrs = [] ∧ l.avail = [] ∧ nil4 l
def nil2 (l : Led) : Prop := l.unders = [] ∧ nil3 l
def nil8 (_ : Led) : Prop := True
/-- a ledger that is being read: its box gl, the result's -/
structure RX (w W : World) (g gl : Nat) (s : Lists) (l : Led) : Prop where
  gr : w.grownBy W (some g)
  rb : Box W w.heap.size 31 #[.int .i64 0, .slice none 0 0, .slice none 0 0, .slice none 0 0, .slice none 0 0, .slice none 0 0, .slice none 0 0, .slice none 0 0, .slice none 0 0]
  bx : Box W gl 31 #[.int .i64 l.day, .slice s.a1 l.curs.length s.c1, .slice s.a2 l.unders.length s.c2, .slice s.a3 l.instrs.length s.c3, .slice s.a4 l.accts.length s.c4, .slice s.a5 l.poss.length s.c5, .slice s.a6 l.orders.length s.c6, .slice s.a7 l.avail.length s.c7, .slice s.a8 l.locs.length s.c8]
  lt : g < gl ∧ w.heap.size < gl ∧ g ≠ w.heap.size
/-- .. and its lists -/
structure RI (w W : World) (g gl : Nat) (s : Lists) (l : Led) (us : List (Value × Acc)) : Prop where
  rx : RX w W g gl s l
  ow : LedOwn (gl + 1) W s l us
section
variable {w A B : World} {g gl : Nat} {s s' : Lists} {l l' : Led} {us us' : List (Value × Acc)}
theorem RX.beside (h : RX w A g gl s l) (b : Below (gl + 1) A B) : RX w B g gl s l := ⟨grown_of_below h.gr b (by have := h.lt; omega), h.rb.below b (by have := h.lt; omega), h.bx.below b (by omega), h.lt⟩
theorem RX.below (h : RX w A g gl s l) (b : Below A.heap.size A B) : RX w B g gl s l := h.beside (b.mono h.bx.lt)
theorem RX.drew (h : RX w A g gl s l) : RX w A.drew g gl s l := h.below (bel_of ⟨1, rfl⟩)
theorem RX.alloc (h : RX w A g gl s l) (o : Obj) : RX w (A.alloc o) g gl s l := h.below ((Below.refl _ _).alloc (Nat.le_refl _) o)
/-- the reader has read on -/
theorem RX.call (h : RX w A g gl s l) (k : A.grownBy B (some g)) : RX w B g gl s l :=
  ⟨h.gr.trans k, box_grown h.rb k (Ne.symm h.lt.2.2), box_grown h.bx k (by have := h.lt.1; omega), h.lt⟩
/-- a list has grown -/
theorem RX.step (h : RX w B g gl s l) (ho : LedOwn (gl + 1) B s' l' us') (j : Nat) (v : Value) (hc : (#[.int .i64 l.day, .slice s.a1 l.curs.length s.c1, .slice s.a2 l.unders.length s.c2, .slice s.a3 l.instrs.length s.c3, .slice s.a4 l.accts.length s.c4, .slice s.a5 l.poss.length s.c5, .slice s.a6 l.orders.length s.c6, .slice s.a7 l.avail.length s.c7, .slice s.a8 l.locs.length s.c8] : Array Value).setIfInBounds j v = #[.int .i64 l'.day, .slice s'.a1 l'.curs.length s'.c1, .slice s'.a2 l'.unders.length s'.c2, .slice s'.a3 l'.instrs.length s'.c3, .slice s'.a4 l'.accts.length s'.c4, .slice s'.a5 l'.poss.length s'.c5, .slice s'.a6 l'.orders.length s'.c6, .slice s'.a7 l'.avail.length s'.c7, .slice s'.a8 l'.locs.length s'.c8]) : RI w (B.setCell ⟨gl, j, none⟩ v) g gl s' l' us' := by
  have hl := h.lt
  refine ⟨⟨grown_of_below (N := w.heap.size) h.gr ((Below.refl _ _).setCell (p := ⟨gl, j, none⟩) (by show w.heap.size ≤ gl; omega) v) (Nat.le_refl _), h.rb.far (p := ⟨gl, j, none⟩) (by simp; omega) v, ?_, h.lt⟩, ho.box h.bx j v⟩
  rw [← hc]
  exact h.bx.set j v
theorem RI.below (h : RI w A g gl s l us) (b : Below A.heap.size A B) : RI w B g gl s l us := ⟨h.rx.below b, h.ow.below b⟩
theorem RI.call (h : RI w A g gl s l us) (k : A.grownBy B (some g)) : RI w B g gl s l us := ⟨h.rx.call k, h.ow.other k (by have := h.rx.lt.1; omega)⟩
theorem RI.beside (h : RI w A g gl s l us) (b : Below (gl + 1) A B) (ho : LedOwn (gl + 1) B s l us) : RI w B g gl s l us := ⟨h.rx.beside b, ho⟩
end
end Go.Proofs.YtocjfjikkdpfdaaGreatDoor.ImgW
namespace Go.Proofs.YtocjfjikkdpfdaaGreatDoor.ImgW
open Go.RowKit Go.Proofs.YtocjfjikkdpfdaaGreatDoor.Bas Go.Proofs.YtocjfjikkdpfdaaGreatDoor.LedM Go.Proofs.YtocjfjikkdpfdaaGreatDoor.LedW

set_option maxRecDepth 100000 in
set_option maxHeartbeats 64000000 in
theorem ledger_rd (g : Nat) (bs : List UInt8) (w : World) (h : Rd w g bs) :
    Calls Tryz.prog 28 #[.pointer (some ⟨g, 0, none⟩)] w fun e w' => w.grownBy w' (some g) ∧
      ((∃ k, rdL bs = .error k ∧ e = .panicked [{ v := up k, recovered := false }]) ∨ ∃ l s us r, rdL bs = .ok (l, r) ∧ e = .returned (ledV s l) ∧ Rd w' g r ∧ LedOwn w.heap.size w' s l us) := by
  obtain ⟨q, hq⟩ : ∃ q, q = rdL bs := ⟨_, rfl⟩
  rw [← hq]
  unfold rdL at hq
  have E0 := Lib.hid hq
  clear hq
  have hlt : g < w.heap.size := by obtain ⟨a, c, hb, _⟩ := h.ex; exact hb.lt
  have hbox := Box.new w 31 #[.int .i64 0, .slice none 0 0, .slice none 0 0, .slice none 0 0, .slice none 0 0, .slice none 0 0, .slice none 0 0, .slice none 0 0, .slice none 0 0]
  have GW := Lib.hid (World.grownBy_alloc w (.cells #[.int .i64 0, .slice none 0 0, .slice none 0 0, .slice none 0 0, .slice none 0 0, .slice none 0 0, .slice none 0 0, .slice none 0 0, .slice none 0 0] 31) (some g))
  have RD0 := Lib.hid (rd_alloc h (.cells #[.int .i64 0, .slice none 0 0, .slice none 0 0, .slice none 0 0, .slice none 0 0, .slice none 0 0, .slice none 0 0, .slice none 0 0, .slice none 0 0] 31))
  have hz0 : (w.alloc (.cells #[.int .i64 0, .slice none 0 0, .slice none 0 0, .slice none 0 0, .slice none 0 0, .slice none 0 0, .slice none 0 0, .slice none 0 0, .slice none 0 0] 31)).heap.size = w.heap.size + 1 := World.size_alloc _ _
  clear h
  unfold ledV
  go_enter Tryz.func28, Tryz.ntmps28
  go_upto_region 1 with fail
  generalize w.alloc (.cells #[.int .i64 0, .slice none 0 0, .slice none 0 0, .slice none 0 0, .slice none 0 0, .slice none 0 0, .slice none 0 0, .slice none 0 0, .slice none 0 0] 31) = w0 at *
  have G0 := Lib.hid (World.grownBy.refl w0 (some g))
  have HB0 := Lib.hid hbox
  clear hbox
  go_upto_region 2 with (first | (go_at_call 46; refine (number_rd g _ _ RD0.out).mono ?_; rintro e w1 ⟨g1, ⟨k, h1, rfl⟩ | ⟨x1, r1, h1, rfl, rd1, d1⟩⟩; exact ⟨rfl, GW.out.trans (G0.out.trans g1), .inl ⟨k, E0.out.trans (thn_err h1), rfl⟩⟩; have G1 := Lib.hid (G0.out.trans g1); have E1 := Lib.hid (E0.out.trans (thn_ok h1)); have RD1 := Lib.hid rd1; clear g1 h1 rd1 E0 G0 RD0; have HB1 := Box.new w1 31 #[.int .i64 0, .slice none 0 0, .slice none 0 0, .slice none 0 0, .slice none 0 0, .slice none 0 0, .slice none 0 0, .slice none 0 0, .slice none 0 0]; have hz1 := G1.out.size) | ((with_reducible refine wpList_store_box rfl 31 (.tmp 3) (.tmp 14) rfl #[.int .i64 x1, .slice none 0 0, .slice none 0 0, .slice none 0 0, .slice none 0 0, .slice none 0 0, .slice none 0 0, .slice none 0 0, .slice none 0 0] HB1 ?_ ?_ ?_ ?_ ?_ ?_); (· kernel_rfl); (· rfl); (· simp [Value.oneCell']); (· rfl); (· rfl)))
  have b2 : Below w1.heap.size w1 ((w1.alloc (.cells #[.int .i64 0, .slice none 0 0, .slice none 0 0, .slice none 0 0, .slice none 0 0, .slice none 0 0, .slice none 0 0, .slice none 0 0, .slice none 0 0] 31)).setRow w1.heap.size #[.int .i64 x1, .slice none 0 0, .slice none 0 0, .slice none 0 0, .slice none 0 0, .slice none 0 0, .slice none 0 0, .slice none 0 0, .slice none 0 0]) := below_setRow ((Below.refl _ _).alloc (Nat.le_refl _) _) (Nat.le_refl _) _
  have hl : g < w1.heap.size ∧ w.heap.size < w1.heap.size ∧ g ≠ w.heap.size := ⟨by omega, by omega, by omega⟩
  have X : RI w ((w1.alloc (.cells #[.int .i64 0, .slice none 0 0, .slice none 0 0, .slice none 0 0, .slice none 0 0, .slice none 0 0, .slice none 0 0, .slice none 0 0, .slice none 0 0] 31)).setRow w1.heap.size #[.int .i64 x1, .slice none 0 0, .slice none 0 0, .slice none 0 0, .slice none 0 0, .slice none 0 0, .slice none 0 0, .slice none 0 0, .slice none 0 0]) g w1.heap.size zeroS (dayL x1) [] :=
    ⟨⟨grown_of_below (GW.out.trans G1.out) b2 (by omega), (box_grown HB0.out G1.out (by omega)).keep b2, HB1.row _, hl⟩, ⟨World.ownsRow_nil _ _ _ _, World.ownsRow_nil _ _ _ _, World.ownsRow_nil _ _ _ _, World.ownsRow_nil _ _ _ _, World.ownsRow_nil _ _ _ _, World.ownsRow_nil _ _ _ _, World.ownsRow_nil _ _ _ _, World.ownsRow_nil _ _ _ _, rfl, by simp, by simp, by simp⟩⟩
  have RDA : Rd ((w1.alloc (.cells #[.int .i64 0, .slice none 0 0, .slice none 0 0, .slice none 0 0, .slice none 0 0, .slice none 0 0, .slice none 0 0, .slice none 0 0, .slice none 0 0] 31)).setRow w1.heap.size #[.int .i64 x1, .slice none 0 0, .slice none 0 0, .slice none 0 0, .slice none 0 0, .slice none 0 0, .slice none 0 0, .slice none 0 0, .slice none 0 0]) g r1 := rd_grown (rd_alloc RD1.out _) (grown_row _ _) hl.1
  clear b2 HB1 HB0 G1 RD1
  generalize (w1.alloc (.cells #[.int .i64 0, .slice none 0 0, .slice none 0 0, .slice none 0 0, .slice none 0 0, .slice none 0 0, .slice none 0 0, .slice none 0 0, .slice none 0 0] 31)).setRow w1.heap.size #[.int .i64 x1, .slice none 0 0, .slice none 0 0, .slice none 0 0, .slice none 0 0, .slice none 0 0, .slice none 0 0, .slice none 0 0, .slice none 0 0] = w2 at *
  generalize w1.heap.size = gl at *
  have GW2 := Lib.hid X.rx.gr
  have XA := Lib.hid X
  have RDB := Lib.hid RDA
  have G2 := Lib.hid (World.grownBy.refl w2 (some g))
  clear GW X RDA hz0 hz1
  have E2 := E1
  clear E1
  clear d1
  go_upto_region 3 with (first | (go_at_call 47; refine (count_rd g _ 16 _ RD5.out).mono ?_; rintro e w6 ⟨g6, ⟨k, h6, rfl⟩ | ⟨x6, r6, h6, rfl, rd6, i6, j6⟩⟩; exact ⟨rfl, GW2.out.trans (G5.out.trans g6), .inl ⟨k, E5.out.trans (thn_err h6), rfl⟩⟩; have G6 := Lib.hid (G5.out.trans g6); have E6 := Lib.hid (E5.out.trans (thn_ok h6)); have RD6 := Lib.hid rd6; clear g6 h6 rd6 E5 G5 RD5) | (go_at_call 47; refine (count_rd g _ 12 _ RD4.out).mono ?_; rintro e w5 ⟨g5, ⟨k, h5, rfl⟩ | ⟨x5, r5, h5, rfl, rd5, i5, j5⟩⟩; exact ⟨rfl, GW2.out.trans (G4.out.trans g5), .inl ⟨k, E4.out.trans (thn_err h5), rfl⟩⟩; have G5 := Lib.hid (G4.out.trans g5); have E5 := Lib.hid (E4.out.trans (thn_ok h5)); have RD5 := Lib.hid rd5; clear g5 h5 rd5 E4 G4 RD4) | (go_at_call 47; refine (count_rd g _ 6 _ RD3.out).mono ?_; rintro e w4 ⟨g4, ⟨k, h4, rfl⟩ | ⟨x4, r4, h4, rfl, rd4, i4, j4⟩⟩; exact ⟨rfl, GW2.out.trans (G3.out.trans g4), .inl ⟨k, E3.out.trans (thn_err h4), rfl⟩⟩; have G4 := Lib.hid (G3.out.trans g4); have E4 := Lib.hid (E3.out.trans (thn_ok h4)); have RD4 := Lib.hid rd4; clear g4 h4 rd4 E3 G3 RD3) | (go_at_call 47; refine (count_rd g _ 4 _ RDB.out).mono ?_; rintro e w3 ⟨g3, ⟨k, h3, rfl⟩ | ⟨x3, r3, h3, rfl, rd3, i3, j3⟩⟩; exact ⟨rfl, GW2.out.trans (G2.out.trans g3), .inl ⟨k, E2.out.trans (thn_err h3), rfl⟩⟩; have G3 := Lib.hid (G2.out.trans g3); have E3 := Lib.hid (E2.out.trans (thn_ok h3)); have RD3 := Lib.hid rd3; clear g3 h3 rd3 E2 G2 RDB))
  go_upto_region 4 with (first | (go_at_call 47; refine (count_rd g _ 32 _ RD8.out).mono ?_; rintro e w9 ⟨g9, ⟨k, h9, rfl⟩ | ⟨x9, r9, h9, rfl, rd9, i9, j9⟩⟩; exact ⟨rfl, GW2.out.trans (G8.out.trans g9), .inl ⟨k, E8.out.trans (thn_err h9), rfl⟩⟩; have G9 := Lib.hid (G8.out.trans g9); have E9 := Lib.hid (E8.out.trans (thn_ok h9)); have RD9 := Lib.hid rd9; clear g9 h9 rd9 E8 G8 RD8) | (go_at_call 47; refine (count_rd g _ 32 _ RD7.out).mono ?_; rintro e w8 ⟨g8, ⟨k, h8, rfl⟩ | ⟨x8, r8, h8, rfl, rd8, i8, j8⟩⟩; exact ⟨rfl, GW2.out.trans (G7.out.trans g8), .inl ⟨k, E7.out.trans (thn_err h8), rfl⟩⟩; have G8 := Lib.hid (G7.out.trans g8); have E8 := Lib.hid (E7.out.trans (thn_ok h8)); have RD8 := Lib.hid rd8; clear g8 h8 rd8 E7 G7 RD7) | (go_at_call 47; refine (count_rd g _ 64 _ RD6.out).mono ?_; rintro e w7 ⟨g7, ⟨k, h7, rfl⟩ | ⟨x7, r7, h7, rfl, rd7, i7, j7⟩⟩; exact ⟨rfl, GW2.out.trans (G6.out.trans g7), .inl ⟨k, E6.out.trans (thn_err h7), rfl⟩⟩; have G7 := Lib.hid (G6.out.trans g7); have E7 := Lib.hid (E6.out.trans (thn_ok h7)); have RD7 := Lib.hid rd7; clear g7 h7 rd7 E6 G6 RD6))
  obtain ⟨m0, rfl⟩ : ∃ m : Nat, x3 = m := ⟨x3.toNat, by omega⟩
  obtain ⟨m1, rfl⟩ : ∃ m : Nat, x4 = m := ⟨x4.toNat, by omega⟩
  obtain ⟨m2, rfl⟩ : ∃ m : Nat, x5 = m := ⟨x5.toNat, by omega⟩
  obtain ⟨m3, rfl⟩ : ∃ m : Nat, x6 = m := ⟨x6.toNat, by omega⟩
  obtain ⟨m4, rfl⟩ : ∃ m : Nat, x7 = m := ⟨x7.toNat, by omega⟩
  obtain ⟨m5, rfl⟩ : ∃ m : Nat, x8 = m := ⟨x8.toNat, by omega⟩
  obtain ⟨m6, rfl⟩ : ∃ m : Nat, x9 = m := ⟨x9.toNat, by omega⟩
  have E := Lib.hid (E9.out.trans (lists_steps _ _ _ _ _ _ _ _ _))
  simp only [Int.toNat_natCast] at E
  have XI := Lib.hid (XA.out.call G9.out)
  have RD := RD9
  have hgw := Lib.hid hlt
  clear E9 XA G9 GW2 RD9 hlt hl w3 w4 w5 w6 w7 w8
  have hl := XI.out.rx.lt
  go_wp2_with fail
  go_loopw [30] (fun i wr => ∃ (k : Nat) (l : Led) (s : Lists) (us : List (Value × Acc)) (b : List UInt8), k ≤ m0 ∧ i = .int .i64 (k : Int) ∧ RI w wr g gl s l us ∧ Rd wr g b ∧ Hid (q = thn (rdPush rdCur addCur (m0 - k) l b) (rL1 m0 m1 m2 m3 m4 m5 m6)) ∧ Hid (l.curs.length = k) ∧ Hid (nil2 l) ∧ us = []) (fun i _ => m0 - (intOf i).toNat)
  case atStart => exact ⟨0, _, _, _, _, by omega, rfl, XI.out, RD.out, E, rfl, ⟨rfl, rfl, rfl, rfl, rfl, rfl, rfl⟩, rfl⟩
  case round =>
    clear XI E RD
    obtain ⟨k, l, s, us, b, hk, rfl, XR, RDR, ER, HLen, HNil, rfl⟩ := hrel
    have XI := Lib.hid XR
    have RD0 := Lib.hid RDR
    clear XR RDR
    by_cases hlt : k < m0
    · have E0 := Lib.hid (push_succ (m := m0 - (k + 1)) ER.out (by omega))
      clear ER
      simp only [rdCur, thn_thn, thn_pure] at E0
      go_upto_region 6 with fail
      have HO := Lib.hid (XI.out.ow.below (bel_of ⟨1, rfl⟩ : Below wr.heap.size wr wr.drew))
      refine stage_region 9 (fun W => W.cell? ⟨gl, 1, none⟩ = some (.slice s.a1 l.curs.length s.c1) ∧ RX w W g gl s l) (by kernel_rfl) ?_
      have HS := XI.out.rx.drew
      refine' stage_take (i := 0) _ rfl (by kernel_rfl) (by kernel_rfl) (by kernel_rfl) (by kernel_rfl) (fun _ _ _ h => h) ⟨HS.bx.cell 1, HS⟩ _ (fun W hW => _) _
      rotate_left
      focus (go_simp; done)
      focus (obtain ⟨k1, X9⟩ := hW; go_simp; first | done | (with_reducible rfl))
      simp only [Act.put, List.setIfInBounds_toArray, List.set_cons_zero, List.set_cons_succ]
      refine' stage_take (i := 1) _ rfl (by kernel_rfl) (by kernel_rfl) (by kernel_rfl) (by kernel_rfl) (fun _ _ _ h => h) ⟨HS.bx.cell 1, HS⟩ _ (fun W hW => _) _
      rotate_left
      focus (go_simp; done)
      focus (obtain ⟨k1, X9⟩ := hW; go_simp; first | done | (with_reducible rfl))
      simp only [Act.put, List.setIfInBounds_toArray, List.set_cons_zero, List.set_cons_succ]
      refine' stage_take (i := 2) _ rfl (by kernel_rfl) (by kernel_rfl) (by kernel_rfl) (by kernel_rfl) (fun _ _ _ h => h) ⟨HS.bx.cell 1, HS⟩ _ (fun W hW => _) _
      rotate_left
      focus (go_simp; done)
      focus (obtain ⟨k1, X9⟩ := hW; go_simp; first | done | (with_reducible rfl))
      simp only [Act.put, List.setIfInBounds_toArray, List.set_cons_zero, List.set_cons_succ]
      refine' stage_take (i := 4) _ rfl (by kernel_rfl) (by kernel_rfl) (by kernel_rfl) (by kernel_rfl) (fun _ _ _ h => h) ⟨HS.bx.cell 1, HS⟩ _ (fun W hW => _) _
      rotate_left
      focus (go_simp; done)
      focus (obtain ⟨k1, X9⟩ := hW; go_simp; first | done | (with_reducible rfl))
      simp only [Act.put, List.setIfInBounds_toArray, List.set_cons_zero, List.set_cons_succ]
      refine stage_only (i := 3) rfl (by kernel_rfl) ?_ (fun K hK => ?_)
      focus (go_simp; done)
      go_simp
      go_at_call 46
      refine (number_rd g _ _ (rd_drew RD0.out)).mono ?_
      rintro e w1 ⟨gg, ⟨k9, h9, rfl⟩ | ⟨x0, r9, h9, rfl, rd9, d0⟩⟩
      · go_simp; exact ⟨rfl, HS.gr.trans gg, .inl ⟨k9, E0.out.trans (thn_err h9), rfl⟩⟩
      go_simp
      have E1 := Lib.hid (E0.out.trans (thn_ok h9))
      have RD1 := Lib.hid rd9
      clear h9 rd9 E0 RD0
      replace HS := HS.call gg
      replace HO := Lib.hid (HO.out.other gg (by omega))
      clear gg
      replace HS := HS
      refine hK.out _ _ (fun _ => ⟨HS.bx.cell 1, HS⟩) ?_
      clear hK K
      try simp only [Act.put, List.setIfInBounds_toArray, List.set_cons_zero, List.set_cons_succ]
      refine stage_only (i := 5) rfl (by kernel_rfl) ?_ (fun K hK => ?_)
      focus (go_simp; done)
      go_simp
      go_at_call 46
      refine (number_rd g _ _ RD1.out).mono ?_
      rintro e w2 ⟨gg, ⟨k9, h9, rfl⟩ | ⟨x1, r9, h9, rfl, rd9, d1⟩⟩
      · go_simp; exact ⟨rfl, HS.gr.trans gg, .inl ⟨k9, E1.out.trans (thn_err h9), rfl⟩⟩
      go_simp
      have E2 := Lib.hid (E1.out.trans (thn_ok h9))
      have RD2 := Lib.hid rd9
      clear h9 rd9 E1 RD1
      replace HS := HS.call gg
      replace HO := Lib.hid (HO.out.other gg (by omega))
      clear gg
      replace HS := HS
      refine hK.out _ _ (fun _ => ⟨HS.bx.cell 1, HS⟩) ?_
      clear hK K
      try simp only [Act.put, List.setIfInBounds_toArray, List.set_cons_zero, List.set_cons_succ]
      refine' stage_take (i := 6) _ rfl (by kernel_rfl) (by kernel_rfl) (by kernel_rfl) (by kernel_rfl) (fun _ _ _ h => h) ⟨HS.bx.cell 1, HS⟩ _ (fun W hW => _) _
      rotate_left
      focus (go_simp; done)
      focus (obtain ⟨k1, X9⟩ := hW; go_simp; first | done | (with_reducible rfl))
      simp only [Act.put, List.setIfInBounds_toArray, List.set_cons_zero, List.set_cons_succ]
      refine stage_only (i := 7) rfl (by kernel_rfl) ?_ (fun K hK => ?_)
      focus (go_simp; done)
      go_simp
      replace HO := Lib.hid (HO.out.below ((Below.refl _ _).alloc (Nat.le_refl _) (.cells #[.int .i64 x0, .int .i64 x1] 55)))
      replace HS := HS.alloc (.cells #[.int .i64 x0, .int .i64 x1] 55)
      refine hK.out _ _ (fun _ => ⟨HS.bx.cell 1, HS⟩) ?_
      clear hK K
      try simp only [Act.put, List.setIfInBounds_toArray, List.set_cons_zero, List.set_cons_succ]
      refine stage_only (i := 8) rfl (by kernel_rfl) ?_ (fun K hK => ?_)
      focus (go_simp; done)
      have HR := HO.out.curs
      have hbase : gl + 1 ≤ (w2.alloc (.cells #[.int .i64 x0, .int .i64 x1] 55)).heap.size := HS.bx.lt
      have hnew : At (w2.alloc (.cells #[.int .i64 x0, .int .i64 x1] 55)) (some ⟨w2.heap.size, 0, none⟩) [.int .i64 x0, .int .i64 x1] := at_alloc w2 #[.int .i64 x0, .int .i64 x1] 55 (0, 0)
      refine wp_append_at (.tmp 33) (.tmp 39) elem_cur rfl (gl + 1) (.slice s.a1 l.curs.length s.c1) l.curs.length (l.curs.flatMap curC) rfl HR (some ⟨w2.heap.size, 0, none⟩) 1 1 [.int .i64 x0, .int .i64 x1] rfl rfl hnew (by simp [Value.oneCell']) (by have := HLen.out; unfold maxLen; omega) (by have := HLen.out; omega) hbase ?_
      intro v9 wz own9 bel9 g9 _
      obtain ⟨p9, q9, rfl, _⟩ := at_of_owns own9
      replace RD2 := Lib.hid (rd_grownR (rd_alloc RD2.out _) g9 (fun j hj => by have := (HR.lt j hj).1; omega))
      replace HO := Lib.hid (HO.out.pushCur (x := (x0, x1)) own9 g9)
      clear HR hbase hnew own9 g9
      replace HS := HS.beside bel9
      refine hK.out _ _ (fun _ => ⟨HS.bx.cell 1, HS⟩) ?_
      clear hK K
      try simp only [Act.put, List.setIfInBounds_toArray, List.set_cons_zero, List.set_cons_succ]
      refine stage_only (i := 9) rfl (by kernel_rfl) ?_ (fun K hK => ?_)
      focus (go_simp; done)
      go_simp
      refine hK.out _ _ (fun h => absurd h (by decide)) ?_
      clear hK K
      try simp only [Act.put, List.setIfInBounds_toArray, List.set_cons_zero, List.set_cons_succ]
      refine stage_only (i := 10) rfl (by kernel_rfl) ?_ (fun K hK => ?_)
      focus (go_simp; done)
      have ck : wz.cell? ⟨gl, 1, none⟩ = some (.slice s.a1 l.curs.length s.c1) := HS.bx.cell 1
      have fk : wz.frozen? ⟨gl, 1, none⟩ = false := HS.bx.frozen 1
      go_simp
      clear ck fk
      refine hK.out _ _ (fun h => absurd h (by decide)) ?_
      clear hK K
      try simp only [Act.put, List.setIfInBounds_toArray, List.set_cons_zero, List.set_cons_succ]
      refine stage_end (by kernel_rfl) ?_
      have XF := Lib.hid (HS.step HO.out 1 (.slice p9 (l.curs.length + 1) q9) (by simp [addCur, addUnd, addIns, addPos, addOrd, addLoc]))
      have RF := Lib.hid (rd_grown RD2.out (grown_set gl 1 (.slice p9 (l.curs.length + 1) q9)) hl.1)
      clear HS HO RD2
      clear XI
      go_wp2_with fail
      go_roundw
      case rel => exact ⟨k + 1, _, _, _, _, by omega, by go_num, XF.out, RF.out, E2, by have := HLen.out; unfold Hid; simp [addCur, this], HNil, rfl⟩
      case measure => simp [intOf]; omega
    · obtain rfl : m0 = k := by omega
      have E := Lib.hid (push_zero ER.out (by omega))
      have RD := RD0
      clear ER RD0
      simp only [rL1] at E
      go_wp2_with fail
      go_loopw [44] (fun i wr => ∃ (k : Nat) (l : Led) (s : Lists) (us : List (Value × Acc)) (b : List UInt8), k ≤ m1 ∧ i = .int .i64 (k : Int) ∧ RI w wr g gl s l us ∧ Rd wr g b ∧ Hid (q = thn (rdPush rdUnd addUnd (m1 - k) l b) (rL2 m0 m2 m3 m4 m5 m6)) ∧ Hid (l.unders.length = k) ∧ Hid (nil3 l) ∧ us = []) (fun i _ => m1 - (intOf i).toNat)
      case atStart => exact ⟨0, _, _, _, _, by omega, rfl, XI.out, RD.out, E, by have := HNil.out.1; unfold Hid; rw [this]; rfl, HNil.out.2, rfl⟩
      case round =>
        clear XI E RD HNil HLen
        obtain ⟨k, l, s, us, b, hk, rfl, XR, RDR, ER, HLen, HNil, rfl⟩ := hrel
        have XI := Lib.hid XR
        have RD0 := Lib.hid RDR
        clear XR RDR
        by_cases hlt : k < m1
        · have E0 := Lib.hid (push_succ (m := m1 - (k + 1)) ER.out (by omega))
          clear ER
          simp only [rdUnd, thn_thn, thn_pure] at E0
          go_upto_region 10 with fail
          have HO := Lib.hid (XI.out.ow.below (bel_of ⟨1, rfl⟩ : Below wr.heap.size wr wr.drew))
          refine stage_region 13 (fun W => W.cell? ⟨gl, 2, none⟩ = some (.slice s.a2 l.unders.length s.c2) ∧ RX w W g gl s l) (by kernel_rfl) ?_
          have HS := XI.out.rx.drew
          refine' stage_take (i := 0) _ rfl (by kernel_rfl) (by kernel_rfl) (by kernel_rfl) (by kernel_rfl) (fun _ _ _ h => h) ⟨HS.bx.cell 2, HS⟩ _ (fun W hW => _) _
          rotate_left
          focus (go_simp; done)
          focus (obtain ⟨k1, X9⟩ := hW; go_simp; first | done | (with_reducible rfl))
          simp only [Act.put, List.setIfInBounds_toArray, List.set_cons_zero, List.set_cons_succ]
          refine' stage_take (i := 1) _ rfl (by kernel_rfl) (by kernel_rfl) (by kernel_rfl) (by kernel_rfl) (fun _ _ _ h => h) ⟨HS.bx.cell 2, HS⟩ _ (fun W hW => _) _
          rotate_left
          focus (go_simp; done)
          focus (obtain ⟨k1, X9⟩ := hW; go_simp; first | done | (with_reducible rfl))
          simp only [Act.put, List.setIfInBounds_toArray, List.set_cons_zero, List.set_cons_succ]
          refine' stage_take (i := 2) _ rfl (by kernel_rfl) (by kernel_rfl) (by kernel_rfl) (by kernel_rfl) (fun _ _ _ h => h) ⟨HS.bx.cell 2, HS⟩ _ (fun W hW => _) _
          rotate_left
          focus (go_simp; done)
          focus (obtain ⟨k1, X9⟩ := hW; go_simp; first | done | (with_reducible rfl))
          simp only [Act.put, List.setIfInBounds_toArray, List.set_cons_zero, List.set_cons_succ]
          refine' stage_take (i := 4) _ rfl (by kernel_rfl) (by kernel_rfl) (by kernel_rfl) (by kernel_rfl) (fun _ _ _ h => h) ⟨HS.bx.cell 2, HS⟩ _ (fun W hW => _) _
          rotate_left
          focus (go_simp; done)
          focus (obtain ⟨k1, X9⟩ := hW; go_simp; first | done | (with_reducible rfl))
          simp only [Act.put, List.setIfInBounds_toArray, List.set_cons_zero, List.set_cons_succ]
          refine' stage_take (i := 6) _ rfl (by kernel_rfl) (by kernel_rfl) (by kernel_rfl) (by kernel_rfl) (fun _ _ _ h => h) ⟨HS.bx.cell 2, HS⟩ _ (fun W hW => _) _
          rotate_left
          focus (go_simp; done)
          focus (obtain ⟨k1, X9⟩ := hW; go_simp; first | done | (with_reducible rfl))
          simp only [Act.put, List.setIfInBounds_toArray, List.set_cons_zero, List.set_cons_succ]
          refine' stage_take (i := 8) _ rfl (by kernel_rfl) (by kernel_rfl) (by kernel_rfl) (by kernel_rfl) (fun _ _ _ h => h) ⟨HS.bx.cell 2, HS⟩ _ (fun W hW => _) _
          rotate_left
          focus (go_simp; done)
          focus (obtain ⟨k1, X9⟩ := hW; go_simp; first | done | (with_reducible rfl))
          simp only [Act.put, List.setIfInBounds_toArray, List.set_cons_zero, List.set_cons_succ]
          refine stage_only (i := 3) rfl (by kernel_rfl) ?_ (fun K hK => ?_)
          focus (go_simp; done)
          go_simp
          go_at_call 48
          refine (text_rd g _ 8 (by decide) _ (rd_drew RD0.out)).mono ?_
          rintro e w1 ⟨gg, ⟨k9, h9, rfl⟩ | ⟨x0, r9, h9, rfl, rd9, d0⟩⟩
          · go_simp; exact ⟨rfl, HS.gr.trans gg, .inl ⟨k9, E0.out.trans (thn_err h9), rfl⟩⟩
          go_simp
          have E1 := Lib.hid (E0.out.trans (thn_ok h9))
          have RD1 := Lib.hid rd9
          clear h9 rd9 E0 RD0
          replace HS := HS.call gg
          replace HO := Lib.hid (HO.out.other gg (by omega))
          clear gg
          replace HS := HS
          refine hK.out _ _ (fun _ => ⟨HS.bx.cell 2, HS⟩) ?_
          clear hK K
          try simp only [Act.put, List.setIfInBounds_toArray, List.set_cons_zero, List.set_cons_succ]
          refine stage_only (i := 5) rfl (by kernel_rfl) ?_ (fun K hK => ?_)
          focus (go_simp; done)
          go_simp
          go_at_call 46
          refine (number_rd g _ _ RD1.out).mono ?_
          rintro e w2 ⟨gg, ⟨k9, h9, rfl⟩ | ⟨x1, r9, h9, rfl, rd9, d1⟩⟩
          · go_simp; exact ⟨rfl, HS.gr.trans gg, .inl ⟨k9, E1.out.trans (thn_err h9), rfl⟩⟩
          go_simp
          have E2 := Lib.hid (E1.out.trans (thn_ok h9))
          have RD2 := Lib.hid rd9
          clear h9 rd9 E1 RD1
          replace HS := HS.call gg
          replace HO := Lib.hid (HO.out.other gg (by omega))
          clear gg
          replace HS := HS
          refine hK.out _ _ (fun _ => ⟨HS.bx.cell 2, HS⟩) ?_
          clear hK K
          try simp only [Act.put, List.setIfInBounds_toArray, List.set_cons_zero, List.set_cons_succ]
          refine stage_only (i := 7) rfl (by kernel_rfl) ?_ (fun K hK => ?_)
          focus (go_simp; done)
          go_simp
          go_at_call 46
          refine (number_rd g _ _ RD2.out).mono ?_
          rintro e w3 ⟨gg, ⟨k9, h9, rfl⟩ | ⟨x2, r9, h9, rfl, rd9, d2⟩⟩
          · go_simp; exact ⟨rfl, HS.gr.trans gg, .inl ⟨k9, E2.out.trans (thn_err h9), rfl⟩⟩
          go_simp
          have E3 := Lib.hid (E2.out.trans (thn_ok h9))
          have RD3 := Lib.hid rd9
          clear h9 rd9 E2 RD2
          replace HS := HS.call gg
          replace HO := Lib.hid (HO.out.other gg (by omega))
          clear gg
          replace HS := HS
          refine hK.out _ _ (fun _ => ⟨HS.bx.cell 2, HS⟩) ?_
          clear hK K
          try simp only [Act.put, List.setIfInBounds_toArray, List.set_cons_zero, List.set_cons_succ]
          refine stage_only (i := 9) rfl (by kernel_rfl) ?_ (fun K hK => ?_)
          focus (go_simp; done)
          go_simp
          go_at_call 46
          refine (number_rd g _ _ RD3.out).mono ?_
          rintro e w4 ⟨gg, ⟨k9, h9, rfl⟩ | ⟨x3, r9, h9, rfl, rd9, d3⟩⟩
          · go_simp; exact ⟨rfl, HS.gr.trans gg, .inl ⟨k9, E3.out.trans (thn_err h9), rfl⟩⟩
          go_simp
          have E4 := Lib.hid (E3.out.trans (thn_ok h9))
          have RD4 := Lib.hid rd9
          clear h9 rd9 E3 RD3
          replace HS := HS.call gg
          replace HO := Lib.hid (HO.out.other gg (by omega))
          clear gg
          replace HS := HS
          refine hK.out _ _ (fun _ => ⟨HS.bx.cell 2, HS⟩) ?_
          clear hK K
          try simp only [Act.put, List.setIfInBounds_toArray, List.set_cons_zero, List.set_cons_succ]
          refine' stage_take (i := 10) _ rfl (by kernel_rfl) (by kernel_rfl) (by kernel_rfl) (by kernel_rfl) (fun _ _ _ h => h) ⟨HS.bx.cell 2, HS⟩ _ (fun W hW => _) _
          rotate_left
          focus (go_simp; done)
          focus (obtain ⟨k1, X9⟩ := hW; go_simp; first | done | (with_reducible rfl))
          simp only [Act.put, List.setIfInBounds_toArray, List.set_cons_zero, List.set_cons_succ]
          refine stage_only (i := 11) rfl (by kernel_rfl) ?_ (fun K hK => ?_)
          focus (go_simp; done)
          go_simp
          replace HO := Lib.hid (HO.out.below ((Below.refl _ _).alloc (Nat.le_refl _) (.cells #[.string ⟨x0.toArray⟩, .int .i64 x1, .int .i64 x2, .int .i64 x3] 57)))
          replace HS := HS.alloc (.cells #[.string ⟨x0.toArray⟩, .int .i64 x1, .int .i64 x2, .int .i64 x3] 57)
          refine hK.out _ _ (fun _ => ⟨HS.bx.cell 2, HS⟩) ?_
          clear hK K
          try simp only [Act.put, List.setIfInBounds_toArray, List.set_cons_zero, List.set_cons_succ]
          refine stage_only (i := 12) rfl (by kernel_rfl) ?_ (fun K hK => ?_)
          focus (go_simp; done)
          have HR := HO.out.unders
          have hbase : gl + 1 ≤ (w4.alloc (.cells #[.string ⟨x0.toArray⟩, .int .i64 x1, .int .i64 x2, .int .i64 x3] 57)).heap.size := HS.bx.lt
          have hnew : At (w4.alloc (.cells #[.string ⟨x0.toArray⟩, .int .i64 x1, .int .i64 x2, .int .i64 x3] 57)) (some ⟨w4.heap.size, 0, none⟩) [.string ⟨x0.toArray⟩, .int .i64 x1, .int .i64 x2, .int .i64 x3] := at_alloc w4 #[.string ⟨x0.toArray⟩, .int .i64 x1, .int .i64 x2, .int .i64 x3] 57 (0, 0)
          refine wp_append_at (.tmp 47) (.tmp 57) elem_und rfl (gl + 1) (.slice s.a2 l.unders.length s.c2) l.unders.length (l.unders.flatMap undC) rfl HR (some ⟨w4.heap.size, 0, none⟩) 1 1 [.string ⟨x0.toArray⟩, .int .i64 x1, .int .i64 x2, .int .i64 x3] rfl rfl hnew (by simp [Value.oneCell']) (by have := HLen.out; unfold maxLen; omega) (by have := HLen.out; omega) hbase ?_
          intro v9 wz own9 bel9 g9 _
          obtain ⟨p9, q9, rfl, _⟩ := at_of_owns own9
          replace RD4 := Lib.hid (rd_grownR (rd_alloc RD4.out _) g9 (fun j hj => by have := (HR.lt j hj).1; omega))
          replace HO := Lib.hid (HO.out.pushUnd (x := ⟨x0, x1, x2, x3⟩) own9 g9)
          clear HR hbase hnew own9 g9
          replace HS := HS.beside bel9
          refine hK.out _ _ (fun _ => ⟨HS.bx.cell 2, HS⟩) ?_
          clear hK K
          try simp only [Act.put, List.setIfInBounds_toArray, List.set_cons_zero, List.set_cons_succ]
          refine stage_only (i := 13) rfl (by kernel_rfl) ?_ (fun K hK => ?_)
          focus (go_simp; done)
          go_simp
          refine hK.out _ _ (fun h => absurd h (by decide)) ?_
          clear hK K
          try simp only [Act.put, List.setIfInBounds_toArray, List.set_cons_zero, List.set_cons_succ]
          refine stage_only (i := 14) rfl (by kernel_rfl) ?_ (fun K hK => ?_)
          focus (go_simp; done)
          have ck : wz.cell? ⟨gl, 2, none⟩ = some (.slice s.a2 l.unders.length s.c2) := HS.bx.cell 2
          have fk : wz.frozen? ⟨gl, 2, none⟩ = false := HS.bx.frozen 2
          go_simp
          clear ck fk
          refine hK.out _ _ (fun h => absurd h (by decide)) ?_
          clear hK K
          try simp only [Act.put, List.setIfInBounds_toArray, List.set_cons_zero, List.set_cons_succ]
          refine stage_end (by kernel_rfl) ?_
          have XF := Lib.hid (HS.step HO.out 2 (.slice p9 (l.unders.length + 1) q9) (by simp [addCur, addUnd, addIns, addPos, addOrd, addLoc]))
          have RF := Lib.hid (rd_grown RD4.out (grown_set gl 2 (.slice p9 (l.unders.length + 1) q9)) hl.1)
          clear HS HO RD4
          clear XI
          go_wp2_with fail
          go_roundw
          case rel => exact ⟨k + 1, _, _, _, _, by omega, by go_num, XF.out, RF.out, E4, by have := HLen.out; unfold Hid; simp [addUnd, this], HNil, rfl⟩
          case measure => simp [intOf]; omega
        · obtain rfl : m1 = k := by omega
          have E := Lib.hid (push_zero ER.out (by omega))
          have RD := RD0
          clear ER RD0
          simp only [rL2] at E
          go_wp2_with fail
          go_loopw [62] (fun i wr => ∃ (k : Nat) (l : Led) (s : Lists) (us : List (Value × Acc)) (b : List UInt8), k ≤ m2 ∧ i = .int .i64 (k : Int) ∧ RI w wr g gl s l us ∧ Rd wr g b ∧ Hid (q = thn (rdPush rdIns addIns (m2 - k) l b) (rL3 m0 m3 m4 m5 m6)) ∧ Hid (l.instrs.length = k ∧ l.avail.length = k) ∧ Hid (nil4 l) ∧ us = []) (fun i _ => m2 - (intOf i).toNat)
          case atStart => exact ⟨0, _, _, _, _, by omega, rfl, XI.out, RD.out, E, by have h1 := HNil.out.1; have h2 := HNil.out.2.1; unfold Hid; rw [h1, h2]; exact ⟨rfl, rfl⟩, HNil.out.2.2, rfl⟩
          case round =>
            clear XI E RD HNil HLen
            obtain ⟨k, l, s, us, b, hk, rfl, XR, RDR, ER, HLen, HNil, rfl⟩ := hrel
            have XI := Lib.hid XR
            have RD0 := Lib.hid RDR
            clear XR RDR
            by_cases hlt : k < m2
            · have E0 := Lib.hid (push_succ (m := m2 - (k + 1)) ER.out (by omega))
              clear ER
              simp only [rdIns, thn_thn, thn_pure] at E0
              go_upto_region 14 with fail
              have HO := Lib.hid (XI.out.ow.below (bel_of ⟨1, rfl⟩ : Below wr.heap.size wr wr.drew))
              refine stage_region 19 (fun W => W.cell? ⟨gl, 3, none⟩ = some (.slice s.a3 l.instrs.length s.c3) ∧ RX w W g gl s l) (by kernel_rfl) ?_
              have HS := XI.out.rx.drew
              refine' stage_take (i := 0) _ rfl (by kernel_rfl) (by kernel_rfl) (by kernel_rfl) (by kernel_rfl) (fun _ _ _ h => h) ⟨HS.bx.cell 3, HS⟩ _ (fun W hW => _) _
              rotate_left
              focus (go_simp; done)
              focus (obtain ⟨k1, X9⟩ := hW; go_simp; first | done | (with_reducible rfl))
              simp only [Act.put, List.setIfInBounds_toArray, List.set_cons_zero, List.set_cons_succ]
              refine' stage_take (i := 1) _ rfl (by kernel_rfl) (by kernel_rfl) (by kernel_rfl) (by kernel_rfl) (fun _ _ _ h => h) ⟨HS.bx.cell 3, HS⟩ _ (fun W hW => _) _
              rotate_left
              focus (go_simp; done)
              focus (obtain ⟨k1, X9⟩ := hW; go_simp; first | done | (with_reducible rfl))
              simp only [Act.put, List.setIfInBounds_toArray, List.set_cons_zero, List.set_cons_succ]
              refine' stage_take (i := 2) _ rfl (by kernel_rfl) (by kernel_rfl) (by kernel_rfl) (by kernel_rfl) (fun _ _ _ h => h) ⟨HS.bx.cell 3, HS⟩ _ (fun W hW => _) _
              rotate_left
              focus (go_simp; done)
              focus (obtain ⟨k1, X9⟩ := hW; go_simp; first | done | (with_reducible rfl))
              simp only [Act.put, List.setIfInBounds_toArray, List.set_cons_zero, List.set_cons_succ]
              refine' stage_take (i := 4) _ rfl (by kernel_rfl) (by kernel_rfl) (by kernel_rfl) (by kernel_rfl) (fun _ _ _ h => h) ⟨HS.bx.cell 3, HS⟩ _ (fun W hW => _) _
              rotate_left
              focus (go_simp; done)
              focus (obtain ⟨k1, X9⟩ := hW; go_simp; first | done | (with_reducible rfl))
              simp only [Act.put, List.setIfInBounds_toArray, List.set_cons_zero, List.set_cons_succ]
              refine' stage_take (i := 6) _ rfl (by kernel_rfl) (by kernel_rfl) (by kernel_rfl) (by kernel_rfl) (fun _ _ _ h => h) ⟨HS.bx.cell 3, HS⟩ _ (fun W hW => _) _
              rotate_left
              focus (go_simp; done)
              focus (obtain ⟨k1, X9⟩ := hW; go_simp; first | done | (with_reducible rfl))
              simp only [Act.put, List.setIfInBounds_toArray, List.set_cons_zero, List.set_cons_succ]
              refine' stage_take (i := 8) _ rfl (by kernel_rfl) (by kernel_rfl) (by kernel_rfl) (by kernel_rfl) (fun _ _ _ h => h) ⟨HS.bx.cell 3, HS⟩ _ (fun W hW => _) _
              rotate_left
              focus (go_simp; done)
              focus (obtain ⟨k1, X9⟩ := hW; go_simp; first | done | (with_reducible rfl))
              simp only [Act.put, List.setIfInBounds_toArray, List.set_cons_zero, List.set_cons_succ]
              refine' stage_take (i := 10) _ rfl (by kernel_rfl) (by kernel_rfl) (by kernel_rfl) (by kernel_rfl) (fun _ _ _ h => h) ⟨HS.bx.cell 3, HS⟩ _ (fun W hW => _) _
              rotate_left
              focus (go_simp; done)
              focus (obtain ⟨k1, X9⟩ := hW; go_simp; first | done | (with_reducible rfl))
              simp only [Act.put, List.setIfInBounds_toArray, List.set_cons_zero, List.set_cons_succ]
              refine' stage_take (i := 12) _ rfl (by kernel_rfl) (by kernel_rfl) (by kernel_rfl) (by kernel_rfl) (fun _ _ _ h => h) ⟨HS.bx.cell 3, HS⟩ _ (fun W hW => _) _
              rotate_left
              focus (go_simp; done)
              focus (obtain ⟨k1, X9⟩ := hW; go_simp; first | done | (with_reducible rfl))
              simp only [Act.put, List.setIfInBounds_toArray, List.set_cons_zero, List.set_cons_succ]
              refine' stage_take (i := 14) _ rfl (by kernel_rfl) (by kernel_rfl) (by kernel_rfl) (by kernel_rfl) (fun _ _ _ h => h) ⟨HS.bx.cell 3, HS⟩ _ (fun W hW => _) _
              rotate_left
              focus (go_simp; done)
              focus (obtain ⟨k1, X9⟩ := hW; go_simp; first | done | (with_reducible rfl))
              simp only [Act.put, List.setIfInBounds_toArray, List.set_cons_zero, List.set_cons_succ]
              refine stage_only (i := 3) rfl (by kernel_rfl) ?_ (fun K hK => ?_)
              focus (go_simp; done)
              go_simp
              go_at_call 46
              refine (number_rd g _ _ (rd_drew RD0.out)).mono ?_
              rintro e w1 ⟨gg, ⟨k9, h9, rfl⟩ | ⟨x0, r9, h9, rfl, rd9, d0⟩⟩
              · go_simp; exact ⟨rfl, HS.gr.trans gg, .inl ⟨k9, E0.out.trans (thn_err h9), rfl⟩⟩
              go_simp
              have E1 := Lib.hid (E0.out.trans (thn_ok h9))
              have RD1 := Lib.hid rd9
              clear h9 rd9 E0 RD0
              replace HS := HS.call gg
              replace HO := Lib.hid (HO.out.other gg (by omega))
              clear gg
              replace HS := HS
              refine hK.out _ _ (fun _ => ⟨HS.bx.cell 3, HS⟩) ?_
              clear hK K
              try simp only [Act.put, List.setIfInBounds_toArray, List.set_cons_zero, List.set_cons_succ]
              refine stage_only (i := 5) rfl (by kernel_rfl) ?_ (fun K hK => ?_)
              focus (go_simp; done)
              go_simp
              go_at_call 46
              refine (number_rd g _ _ RD1.out).mono ?_
              rintro e w2 ⟨gg, ⟨k9, h9, rfl⟩ | ⟨x1, r9, h9, rfl, rd9, d1⟩⟩
              · go_simp; exact ⟨rfl, HS.gr.trans gg, .inl ⟨k9, E1.out.trans (thn_err h9), rfl⟩⟩
              go_simp
              have E2 := Lib.hid (E1.out.trans (thn_ok h9))
              have RD2 := Lib.hid rd9
              clear h9 rd9 E1 RD1
              replace HS := HS.call gg
              replace HO := Lib.hid (HO.out.other gg (by omega))
              clear gg
              replace HS := HS
              refine hK.out _ _ (fun _ => ⟨HS.bx.cell 3, HS⟩) ?_
              clear hK K
              try simp only [Act.put, List.setIfInBounds_toArray, List.set_cons_zero, List.set_cons_succ]
              refine stage_only (i := 7) rfl (by kernel_rfl) ?_ (fun K hK => ?_)
              focus (go_simp; done)
              go_simp
              go_at_call 46
              refine (number_rd g _ _ RD2.out).mono ?_
              rintro e w3 ⟨gg, ⟨k9, h9, rfl⟩ | ⟨x2, r9, h9, rfl, rd9, d2⟩⟩
              · go_simp; exact ⟨rfl, HS.gr.trans gg, .inl ⟨k9, E2.out.trans (thn_err h9), rfl⟩⟩
              go_simp
              have E3 := Lib.hid (E2.out.trans (thn_ok h9))
              have RD3 := Lib.hid rd9
              clear h9 rd9 E2 RD2
              replace HS := HS.call gg
              replace HO := Lib.hid (HO.out.other gg (by omega))
              clear gg
              replace HS := HS
              refine hK.out _ _ (fun _ => ⟨HS.bx.cell 3, HS⟩) ?_
              clear hK K
              try simp only [Act.put, List.setIfInBounds_toArray, List.set_cons_zero, List.set_cons_succ]
              refine stage_only (i := 9) rfl (by kernel_rfl) ?_ (fun K hK => ?_)
              focus (go_simp; done)
              go_simp
              go_at_call 46
              refine (number_rd g _ _ RD3.out).mono ?_
              rintro e w4 ⟨gg, ⟨k9, h9, rfl⟩ | ⟨x3, r9, h9, rfl, rd9, d3⟩⟩
              · go_simp; exact ⟨rfl, HS.gr.trans gg, .inl ⟨k9, E3.out.trans (thn_err h9), rfl⟩⟩
              go_simp
              have E4 := Lib.hid (E3.out.trans (thn_ok h9))
              have RD4 := Lib.hid rd9
              clear h9 rd9 E3 RD3
              replace HS := HS.call gg
              replace HO := Lib.hid (HO.out.other gg (by omega))
              clear gg
              replace HS := HS
              refine hK.out _ _ (fun _ => ⟨HS.bx.cell 3, HS⟩) ?_
              clear hK K
              try simp only [Act.put, List.setIfInBounds_toArray, List.set_cons_zero, List.set_cons_succ]
              refine stage_only (i := 11) rfl (by kernel_rfl) ?_ (fun K hK => ?_)
              focus (go_simp; done)
              go_simp
              go_at_call 46
              refine (number_rd g _ _ RD4.out).mono ?_
              rintro e w5 ⟨gg, ⟨k9, h9, rfl⟩ | ⟨x4, r9, h9, rfl, rd9, d4⟩⟩
              · go_simp; exact ⟨rfl, HS.gr.trans gg, .inl ⟨k9, E4.out.trans (thn_err h9), rfl⟩⟩
              go_simp
              have E5 := Lib.hid (E4.out.trans (thn_ok h9))
              have RD5 := Lib.hid rd9
              clear h9 rd9 E4 RD4
              replace HS := HS.call gg
              replace HO := Lib.hid (HO.out.other gg (by omega))
              clear gg
              replace HS := HS
              refine hK.out _ _ (fun _ => ⟨HS.bx.cell 3, HS⟩) ?_
              clear hK K
              try simp only [Act.put, List.setIfInBounds_toArray, List.set_cons_zero, List.set_cons_succ]
              refine stage_only (i := 13) rfl (by kernel_rfl) ?_ (fun K hK => ?_)
              focus (go_simp; done)
              go_simp
              go_at_call 49
              refine (bit_rd g _ _ RD5.out).mono ?_
              rintro e w6 ⟨gg, ⟨k9, h9, rfl⟩ | ⟨x5, r9, h9, rfl, rd9⟩⟩
              · go_simp; exact ⟨rfl, HS.gr.trans gg, .inl ⟨k9, E5.out.trans (thn_err h9), rfl⟩⟩
              go_simp
              have E6 := Lib.hid (E5.out.trans (thn_ok h9))
              have RD6 := Lib.hid rd9
              clear h9 rd9 E5 RD5
              replace HS := HS.call gg
              replace HO := Lib.hid (HO.out.other gg (by omega))
              clear gg
              replace HS := HS
              refine hK.out _ _ (fun _ => ⟨HS.bx.cell 3, HS⟩) ?_
              clear hK K
              try simp only [Act.put, List.setIfInBounds_toArray, List.set_cons_zero, List.set_cons_succ]
              refine stage_only (i := 15) rfl (by kernel_rfl) ?_ (fun K hK => ?_)
              focus (go_simp; done)
              go_simp
              go_at_call 46
              refine (number_rd g _ _ RD6.out).mono ?_
              rintro e w7 ⟨gg, ⟨k9, h9, rfl⟩ | ⟨x6, r9, h9, rfl, rd9, d6⟩⟩
              · go_simp; exact ⟨rfl, HS.gr.trans gg, .inl ⟨k9, E6.out.trans (thn_err h9), rfl⟩⟩
              go_simp
              have E7 := Lib.hid (E6.out.trans (thn_ok h9))
              have RD7 := Lib.hid rd9
              clear h9 rd9 E6 RD6
              replace HS := HS.call gg
              replace HO := Lib.hid (HO.out.other gg (by omega))
              clear gg
              replace HS := HS
              refine hK.out _ _ (fun _ => ⟨HS.bx.cell 3, HS⟩) ?_
              clear hK K
              try simp only [Act.put, List.setIfInBounds_toArray, List.set_cons_zero, List.set_cons_succ]
              refine' stage_take (i := 16) _ rfl (by kernel_rfl) (by kernel_rfl) (by kernel_rfl) (by kernel_rfl) (fun _ _ _ h => h) ⟨HS.bx.cell 3, HS⟩ _ (fun W hW => _) _
              rotate_left
              focus (go_simp; done)
              focus (obtain ⟨k1, X9⟩ := hW; go_simp; first | done | (with_reducible rfl))
              simp only [Act.put, List.setIfInBounds_toArray, List.set_cons_zero, List.set_cons_succ]
              refine stage_only (i := 17) rfl (by kernel_rfl) ?_ (fun K hK => ?_)
              focus (go_simp; done)
              go_simp
              replace HO := Lib.hid (HO.out.below ((Below.refl _ _).alloc (Nat.le_refl _) (.cells #[.int .i64 x0, .int .i64 x1, .int .i64 x2, .int .i64 x3, .int .i64 x4, .bool x5, .int .i64 x6] 60)))
              replace HS := HS.alloc (.cells #[.int .i64 x0, .int .i64 x1, .int .i64 x2, .int .i64 x3, .int .i64 x4, .bool x5, .int .i64 x6] 60)
              refine hK.out _ _ (fun _ => ⟨HS.bx.cell 3, HS⟩) ?_
              clear hK K
              try simp only [Act.put, List.setIfInBounds_toArray, List.set_cons_zero, List.set_cons_succ]
              refine stage_only (i := 18) rfl (by kernel_rfl) ?_ (fun K hK => ?_)
              focus (go_simp; done)
              have HR := HO.out.instrs
              have hbase : gl + 1 ≤ (w7.alloc (.cells #[.int .i64 x0, .int .i64 x1, .int .i64 x2, .int .i64 x3, .int .i64 x4, .bool x5, .int .i64 x6] 60)).heap.size := HS.bx.lt
              have hnew : At (w7.alloc (.cells #[.int .i64 x0, .int .i64 x1, .int .i64 x2, .int .i64 x3, .int .i64 x4, .bool x5, .int .i64 x6] 60)) (some ⟨w7.heap.size, 0, none⟩) [.int .i64 x0, .int .i64 x1, .int .i64 x2, .int .i64 x3, .int .i64 x4, .bool x5, .int .i64 x6] := at_alloc w7 #[.int .i64 x0, .int .i64 x1, .int .i64 x2, .int .i64 x3, .int .i64 x4, .bool x5, .int .i64 x6] 60 (0, 0)
              refine wp_append_at (.tmp 65) (.tmp 81) elem_ins rfl (gl + 1) (.slice s.a3 l.instrs.length s.c3) l.instrs.length (l.instrs.flatMap insC) rfl HR (some ⟨w7.heap.size, 0, none⟩) 1 1 [.int .i64 x0, .int .i64 x1, .int .i64 x2, .int .i64 x3, .int .i64 x4, .bool x5, .int .i64 x6] rfl rfl hnew (by simp [Value.oneCell']) (by have := HLen.out; unfold maxLen; omega) (by have := HLen.out; omega) hbase ?_
              intro v9 wz own9 bel9 g9 _
              obtain ⟨p9, q9, rfl, _⟩ := at_of_owns own9
              replace RD7 := Lib.hid (rd_grownR (rd_alloc RD7.out _) g9 (fun j hj => by have := (HR.lt j hj).1; omega))
              replace HO := Lib.hid (HO.out.pushInstr (x := ⟨x0, x1, x2, x3, x4, x5, x6⟩) own9 g9)
              clear HR hbase hnew own9 g9
              replace HS := HS.beside bel9
              refine hK.out _ _ (fun _ => ⟨HS.bx.cell 3, HS⟩) ?_
              clear hK K
              try simp only [Act.put, List.setIfInBounds_toArray, List.set_cons_zero, List.set_cons_succ]
              refine stage_only (i := 19) rfl (by kernel_rfl) ?_ (fun K hK => ?_)
              focus (go_simp; done)
              go_simp
              refine hK.out _ _ (fun h => absurd h (by decide)) ?_
              clear hK K
              try simp only [Act.put, List.setIfInBounds_toArray, List.set_cons_zero, List.set_cons_succ]
              refine stage_only (i := 20) rfl (by kernel_rfl) ?_ (fun K hK => ?_)
              focus (go_simp; done)
              have ck : wz.cell? ⟨gl, 3, none⟩ = some (.slice s.a3 l.instrs.length s.c3) := HS.bx.cell 3
              have fk : wz.frozen? ⟨gl, 3, none⟩ = false := HS.bx.frozen 3
              go_simp
              clear ck fk
              refine hK.out _ _ (fun h => absurd h (by decide)) ?_
              clear hK K
              try simp only [Act.put, List.setIfInBounds_toArray, List.set_cons_zero, List.set_cons_succ]
              refine stage_end (by kernel_rfl) ?_
              have XF := Lib.hid (HS.step HO.out 3 (.slice p9 (l.instrs.length + 1) q9) (by simp [addCur, addUnd, addIns, addPos, addOrd, addLoc]))
              have RF := Lib.hid (rd_grown RD7.out (grown_set gl 3 (.slice p9 (l.instrs.length + 1) q9)) hl.1)
              clear HS HO RD7
              clear XI
              go_upto_region 15 with fail
              have XI := XF
              have RD7 := RF
              clear XF RF
              generalize wz.setCell ⟨gl, 3, none⟩ (.slice p9 (l.instrs.length + 1) q9) = wy at *
              have HO := Lib.hid (XI.out.ow.below (bel_of ⟨1, rfl⟩ : Below wy.heap.size wy wy.drew))
              refine stage_region 6 (fun W => W.cell? ⟨gl, 7, none⟩ = some (.slice s.a7 l.avail.length s.c7) ∧ RX w W g gl ({ s with a3 := p9, c3 := q9 } : Lists) ({ l with instrs := l.instrs ++ [(⟨x0, x1, x2, x3, x4, x5, x6⟩ : Ins)] } : Led)) (by kernel_rfl) ?_
              have HS := XI.out.rx.drew
              refine' stage_take (i := 0) _ rfl (by kernel_rfl) (by kernel_rfl) (by kernel_rfl) (by kernel_rfl) (fun _ _ _ h => h) ⟨HS.bx.cell 7, HS⟩ _ (fun W hW => _) _
              rotate_left
              focus (go_simp; done)
              focus (obtain ⟨k1, X9⟩ := hW; go_simp; first | done | (with_reducible rfl))
              simp only [Act.put, List.setIfInBounds_toArray, List.set_cons_zero, List.set_cons_succ]
              refine' stage_take (i := 1) _ rfl (by kernel_rfl) (by kernel_rfl) (by kernel_rfl) (by kernel_rfl) (fun _ _ _ h => h) ⟨HS.bx.cell 7, HS⟩ _ (fun W hW => _) _
              rotate_left
              focus (go_simp; done)
              focus (obtain ⟨k1, X9⟩ := hW; go_simp; first | done | (with_reducible rfl))
              simp only [Act.put, List.setIfInBounds_toArray, List.set_cons_zero, List.set_cons_succ]
              refine' stage_take (i := 2) _ rfl (by kernel_rfl) (by kernel_rfl) (by kernel_rfl) (by kernel_rfl) (fun _ _ _ h => h) ⟨HS.bx.cell 7, HS⟩ _ (fun W hW => _) _
              rotate_left
              focus (go_simp; done)
              focus (obtain ⟨k1, X9⟩ := hW; go_simp; first | done | (with_reducible rfl))
              simp only [Act.put, List.setIfInBounds_toArray, List.set_cons_zero, List.set_cons_succ]
              refine stage_only (i := 3) rfl (by kernel_rfl) ?_ (fun K hK => ?_)
              focus (go_simp; done)
              go_simp
              go_at_call 46
              refine (number_rd g _ _ (rd_drew RD7.out)).mono ?_
              rintro e w8 ⟨gg, ⟨k9, h9, rfl⟩ | ⟨x7, r9, h9, rfl, rd9, d7⟩⟩
              · go_simp; exact ⟨rfl, HS.gr.trans gg, .inl ⟨k9, E7.out.trans (thn_err h9), rfl⟩⟩
              go_simp
              have E8 := Lib.hid (E7.out.trans (thn_ok h9))
              have RD8 := Lib.hid rd9
              clear h9 rd9 E7 RD7
              replace HS := HS.call gg
              replace HO := Lib.hid (HO.out.other gg (by omega))
              clear gg
              replace HS := HS
              refine hK.out _ _ (fun _ => ⟨HS.bx.cell 7, HS⟩) ?_
              clear hK K
              try simp only [Act.put, List.setIfInBounds_toArray, List.set_cons_zero, List.set_cons_succ]
              refine stage_only (i := 4) rfl (by kernel_rfl) ?_ (fun K hK => ?_)
              focus (go_simp; done)
              go_simp
              replace HO := Lib.hid (HO.out.below ((Below.refl _ _).alloc (Nat.le_refl _) (.cells #[.int .i64 x7] 3)))
              replace HS := HS.alloc (.cells #[.int .i64 x7] 3)
              refine hK.out _ _ (fun _ => ⟨HS.bx.cell 7, HS⟩) ?_
              clear hK K
              try simp only [Act.put, List.setIfInBounds_toArray, List.set_cons_zero, List.set_cons_succ]
              refine stage_only (i := 5) rfl (by kernel_rfl) ?_ (fun K hK => ?_)
              focus (go_simp; done)
              have HR := HO.out.avail
              have hbase : gl + 1 ≤ (w8.alloc (.cells #[.int .i64 x7] 3)).heap.size := HS.bx.lt
              have hnew : At (w8.alloc (.cells #[.int .i64 x7] 3)) (some ⟨w8.heap.size, 0, none⟩) [.int .i64 x7] := at_alloc w8 #[.int .i64 x7] 3 (0, 0)
              refine wp_append_at (.tmp 85) (.tmp 88) elem_int rfl (gl + 1) (.slice s.a7 l.avail.length s.c7) l.avail.length (i64s l.avail) rfl HR (some ⟨w8.heap.size, 0, none⟩) 1 1 [.int .i64 x7] rfl rfl hnew (by simp [Value.oneCell']) (by have := HLen.out; unfold maxLen; omega) (by have := HLen.out; omega) hbase ?_
              intro v9 wz own9 bel9 g9 _
              obtain ⟨p9, q9, rfl, _⟩ := at_of_owns own9
              replace RD8 := Lib.hid (rd_grownR (rd_alloc RD8.out _) g9 (fun j hj => by have := (HR.lt j hj).1; omega))
              replace HO := Lib.hid (HO.out.pushAvail (x := x7) own9 g9)
              clear HR hbase hnew own9 g9
              replace HS := HS.beside bel9
              refine hK.out _ _ (fun _ => ⟨HS.bx.cell 7, HS⟩) ?_
              clear hK K
              try simp only [Act.put, List.setIfInBounds_toArray, List.set_cons_zero, List.set_cons_succ]
              refine stage_only (i := 6) rfl (by kernel_rfl) ?_ (fun K hK => ?_)
              focus (go_simp; done)
              go_simp
              refine hK.out _ _ (fun h => absurd h (by decide)) ?_
              clear hK K
              try simp only [Act.put, List.setIfInBounds_toArray, List.set_cons_zero, List.set_cons_succ]
              refine stage_only (i := 7) rfl (by kernel_rfl) ?_ (fun K hK => ?_)
              focus (go_simp; done)
              have ck : wz.cell? ⟨gl, 7, none⟩ = some (.slice s.a7 l.avail.length s.c7) := HS.bx.cell 7
              have fk : wz.frozen? ⟨gl, 7, none⟩ = false := HS.bx.frozen 7
              go_simp
              clear ck fk
              refine hK.out _ _ (fun h => absurd h (by decide)) ?_
              clear hK K
              try simp only [Act.put, List.setIfInBounds_toArray, List.set_cons_zero, List.set_cons_succ]
              refine stage_end (by kernel_rfl) ?_
              have XF := Lib.hid (HS.step HO.out 7 (.slice p9 (l.avail.length + 1) q9) (by simp [addCur, addUnd, addIns, addPos, addOrd, addLoc]))
              have RF := Lib.hid (rd_grown RD8.out (grown_set gl 7 (.slice p9 (l.avail.length + 1) q9)) hl.1)
              clear HS HO RD8
              clear XI
              go_wp2_with fail
              go_roundw
              case rel => exact ⟨k + 1, addIns l ((⟨x0, x1, x2, x3, x4, x5, x6⟩ : Ins), x7), _, _, _, by omega, by go_num, XF.out, RF.out, E8, by have := HLen.out; unfold Hid; simp [addIns, this], HNil, rfl⟩
              case measure => simp [intOf]; omega
            · obtain rfl : m2 = k := by omega
              have E := Lib.hid (push_zero ER.out (by omega))
              have RD := RD0
              clear ER RD0
              simp only [rL3] at E
              go_wp2_with fail
              go_loopw [93] (fun i wr => ∃ (k : Nat) (l : Led) (s : Lists) (us : List (Value × Acc)) (b : List UInt8), k ≤ m3 ∧ i = .int .i64 (k : Int) ∧ RI w wr g gl s l us ∧ Rd wr g b ∧ Hid (q = thn (rdPush (rdAcct m0) addAcct (m3 - k) l b) (rL4 m4 m5 m6)) ∧ Hid (l.accts.length = k) ∧ Hid (nil5 l)) (fun i _ => m3 - (intOf i).toNat)
              case atStart => exact ⟨0, _, _, _, _, by omega, rfl, XI.out, RD.out, E, by have := HNil.out.1; unfold Hid; rw [this]; rfl, HNil.out.2⟩
              case round =>
                clear XI E RD HNil HLen
                obtain ⟨k, l, s, us, b, hk, rfl, XR, RDR, ER, HLen, HNil⟩ := hrel
                have XI := Lib.hid XR
                have RD0 := Lib.hid RDR
                clear XR RDR
                by_cases hlt : k < m3
                · have E0 := Lib.hid (push_succ (m := m3 - (k + 1)) ER.out (by omega))
                  clear ER
                  simp only [rdAcct, thn_thn, thn_pure] at E0
                  go_upto_region 19 with fail
                  have XA0 := XI
                  clear XI
                  go_upto_region 20 with (first | ((with_reducible refine wpList_store_box rfl 46 (.tmp 11) (.tmp 101) rfl #[.int .i64 x0, .slice none 0 0, .bool x1, .int .i64 x2] HB11 ?_ ?_ ?_ ?_ ?_ ?_); (· kernel_rfl); (· rfl); (· simp [Value.oneCell']); (· rfl); (· rfl)) | (go_at_call 46; refine (number_rd g _ _ RD2.out).mono ?_; rintro e w3 ⟨gg, ⟨k9, h9, rfl⟩ | ⟨x2, r9, h9, rfl, rd9, d2⟩⟩; exact ⟨rfl, XA2.out.rx.gr.trans gg, .inl ⟨k9, E2.out.trans (thn_err h9), rfl⟩⟩; have XA3 := Lib.hid (XA2.out.call gg); have E3 := Lib.hid (E2.out.trans (thn_ok h9)); have RD3 := Lib.hid rd9; clear gg h9 rd9 E2 RD2 XA2; have HB11 := Box.new w3 46 #[.int .i64 0, .slice none 0 0, .bool false, .int .i64 0]) | (go_at_call 49; refine (bit_rd g _ _ RD1.out).mono ?_; rintro e w2 ⟨gg, ⟨k9, h9, rfl⟩ | ⟨x1, r9, h9, rfl, rd9⟩⟩; exact ⟨rfl, XA1.out.rx.gr.trans gg, .inl ⟨k9, E1.out.trans (thn_err h9), rfl⟩⟩; have XA2 := Lib.hid (XA1.out.call gg); have E2 := Lib.hid (E1.out.trans (thn_ok h9)); have RD2 := Lib.hid rd9; clear gg h9 rd9 E1 RD1 XA1) | (go_at_call 46; refine (number_rd g _ _ RD0.out).mono ?_; rintro e w1 ⟨gg, ⟨k9, h9, rfl⟩ | ⟨x0, r9, h9, rfl, rd9, d0⟩⟩; exact ⟨rfl, XA0.out.rx.gr.trans gg, .inl ⟨k9, E0.out.trans (thn_err h9), rfl⟩⟩; have XA1 := Lib.hid (XA0.out.call gg); have E1 := Lib.hid (E0.out.trans (thn_ok h9)); have RD1 := Lib.hid rd9; clear gg h9 rd9 E0 RD0 XA0))
                  have bq : Below w3.heap.size w3 ((w3.alloc (.cells #[.int .i64 0, .slice none 0 0, .bool false, .int .i64 0] 46)).setRow w3.heap.size #[.int .i64 x0, .slice none 0 0, .bool x1, .int .i64 x2]) := below_setRow ((Below.refl _ _).alloc (Nat.le_refl _) _) (Nat.le_refl _) _
                  have hga : gl + 1 ≤ w3.heap.size := XA3.out.rx.bx.lt
                  have XQ := Lib.hid (XA3.out.below bq)
                  have BQ := Lib.hid (HB11.row #[.int .i64 x0, .slice none 0 0, .bool x1, .int .i64 x2])
                  have HU := Lib.hid XA3.out.ow.lies
                  have RQ := Lib.hid (rd_grown (rd_alloc RD3.out (.cells #[.int .i64 0, .slice none 0 0, .bool false, .int .i64 0] 46)) (grown_row w3.heap.size #[.int .i64 x0, .slice none 0 0, .bool x1, .int .i64 x2]) (by omega))
                  clear bq XA3 HB11 RD3
                  generalize (w3.alloc (.cells #[.int .i64 0, .slice none 0 0, .bool false, .int .i64 0] 46)).setRow w3.heap.size #[.int .i64 x0, .slice none 0 0, .bool x1, .int .i64 x2] = wq at *
                  generalize w3.heap.size = ga at *
                  go_wp2_with fail
                  go_loopw [103] (fun i wr => ∃ (j : Nat) (cs : List Int) (ca : Option Addr) (cc : Nat) (b : List UInt8), j ≤ m0 ∧ i = .int .i64 (j : Int) ∧ RI w wr g gl s l us ∧ Box wr ga 46 #[.int .i64 x0, .slice ca cs.length cc, .bool x1, .int .i64 x2] ∧ wr.ownsRow (ga + 1) 3 1 (.slice ca cs.length cc) cs.length (i64s cs) ∧ Rd wr g b ∧ Hid (q = thn (rdPush rdN addCash (m0 - j) ⟨x0, cs, x1, x2⟩ b) (fun x b => thn (rdPush (rdAcct m0) addAcct (m3 - (k + 1)) (addAcct l x) b) (rL4 m4 m5 m6))) ∧ Hid (cs.length = j)) (fun i _ => m0 - (intOf i).toNat)
                  case atStart => exact ⟨0, [], none, 0, _, by omega, rfl, XQ.out, BQ.out, World.ownsRow_nil _ _ _ _, RQ.out, E3, rfl⟩
                  case round =>
                    clear XQ BQ RQ E3
                    obtain ⟨j, cs, ca, cc, b, hj, rfl, XR, BR, CR, RDR, ER, HCl⟩ := hrel
                    have XI := Lib.hid XR
                    have BI := Lib.hid BR
                    have CI := Lib.hid CR
                    have RD0 := Lib.hid RDR
                    clear XR BR CR RDR
                    by_cases hlj : j < m0
                    · have E0 := Lib.hid (push_succ (m := m0 - (j + 1)) ER.out (by omega))
                      clear ER
                      go_upto_region 22 with fail
                      have HO := Lib.hid (XI.out.ow.below (bel_of ⟨1, rfl⟩ : Below wr.heap.size wr wr.drew))
                      have HC := Lib.hid (own_drew CI.out)
                      refine stage_region 6 (fun W => W.cell? ⟨ga, 1, none⟩ = some (.slice ca cs.length cc) ∧ RX w W g gl s l ∧ Box W ga 46 #[.int .i64 x0, .slice ca cs.length cc, .bool x1, .int .i64 x2]) (by kernel_rfl) ?_
                      have HS := And.intro XI.out.rx.drew (box_drew BI.out)
                      refine' stage_take (i := 0) _ rfl (by kernel_rfl) (by kernel_rfl) (by kernel_rfl) (by kernel_rfl) (fun _ _ _ h => h) ⟨HS.2.cell 1, HS⟩ _ (fun W hW => _) _
                      rotate_left
                      focus (go_simp; done)
                      focus (obtain ⟨k1, X9⟩ := hW; go_simp; first | done | (with_reducible rfl))
                      simp only [Act.put, List.setIfInBounds_toArray, List.set_cons_zero, List.set_cons_succ]
                      refine' stage_take (i := 1) _ rfl (by kernel_rfl) (by kernel_rfl) (by kernel_rfl) (by kernel_rfl) (fun _ _ _ h => h) ⟨HS.2.cell 1, HS⟩ _ (fun W hW => _) _
                      rotate_left
                      focus (go_simp; done)
                      focus (obtain ⟨k1, X9⟩ := hW; go_simp; first | done | (with_reducible rfl))
                      simp only [Act.put, List.setIfInBounds_toArray, List.set_cons_zero, List.set_cons_succ]
                      refine' stage_take (i := 2) _ rfl (by kernel_rfl) (by kernel_rfl) (by kernel_rfl) (by kernel_rfl) (fun _ _ _ h => h) ⟨HS.2.cell 1, HS⟩ _ (fun W hW => _) _
                      rotate_left
                      focus (go_simp; done)
                      focus (obtain ⟨k1, X9⟩ := hW; go_simp; first | done | (with_reducible rfl))
                      simp only [Act.put, List.setIfInBounds_toArray, List.set_cons_zero, List.set_cons_succ]
                      refine stage_only (i := 3) rfl (by kernel_rfl) ?_ (fun K hK => ?_)
                      focus (go_simp; done)
                      go_simp
                      go_at_call 46
                      refine (number_rd g _ _ (rd_drew RD0.out)).mono ?_
                      rintro e w9 ⟨gg, ⟨k9, h9, rfl⟩ | ⟨y0, r9, h9, rfl, rd9, dy⟩⟩
                      · go_simp; exact ⟨rfl, HS.1.gr.trans gg, .inl ⟨k9, E0.out.trans (thn_err h9), rfl⟩⟩
                      go_simp
                      have E1 := Lib.hid (E0.out.trans (thn_ok h9))
                      have RD1 := Lib.hid rd9
                      clear h9 rd9 E0 RD0
                      replace HS := And.intro (HS.1.call gg) (box_grown HS.2 gg (by omega))
                      replace HO := Lib.hid (HO.out.other gg (by omega))
                      replace HC := Lib.hid (owns_other HC.out gg (by omega))
                      clear gg
                      replace HS := HS
                      refine hK.out _ _ (fun _ => ⟨HS.2.cell 1, HS⟩) ?_
                      clear hK K
                      try simp only [Act.put, List.setIfInBounds_toArray, List.set_cons_zero, List.set_cons_succ]
                      refine stage_only (i := 4) rfl (by kernel_rfl) ?_ (fun K hK => ?_)
                      focus (go_simp; done)
                      go_simp
                      replace HO := Lib.hid (HO.out.below ((Below.refl _ _).alloc (Nat.le_refl _) (.cells #[.int .i64 y0] 3)))
                      replace HC := Lib.hid (owns_below HC.out ((Below.refl _ _).alloc (Nat.le_refl _) (.cells #[.int .i64 y0] 3)))
                      replace HS := And.intro (HS.1.alloc (.cells #[.int .i64 y0] 3)) (HS.2.alloc (.cells #[.int .i64 y0] 3))
                      refine hK.out _ _ (fun _ => ⟨HS.2.cell 1, HS⟩) ?_
                      clear hK K
                      try simp only [Act.put, List.setIfInBounds_toArray, List.set_cons_zero, List.set_cons_succ]
                      refine stage_only (i := 5) rfl (by kernel_rfl) ?_ (fun K hK => ?_)
                      focus (go_simp; done)
                      have hbase : ga + 1 ≤ (w9.alloc (.cells #[.int .i64 y0] 3)).heap.size := HS.2.lt
                      have hnew : At (w9.alloc (.cells #[.int .i64 y0] 3)) (some ⟨w9.heap.size, 0, none⟩) [.int .i64 y0] := at_alloc w9 #[.int .i64 y0] 3 (0, 0)
                      have HCR := HC.out
                      refine wp_append_at (.tmp 106) (.tmp 109) elem_int rfl (ga + 1) (.slice ca cs.length cc) cs.length (i64s cs) rfl HCR (some ⟨w9.heap.size, 0, none⟩) 1 1 [.int .i64 y0] rfl rfl hnew (by simp [Value.oneCell']) (by have := HCl.out; unfold maxLen; omega) (by have := HCl.out; omega) hbase ?_
                      intro v9 wz own9 bel9 g9 _
                      obtain ⟨p9, q9, rfl, _⟩ := at_of_owns own9
                      replace RD1 := Lib.hid (rd_grownR (rd_alloc RD1.out _) g9 (fun j hj => by have := (HCR.lt j hj).1; omega))
                      replace HO := Lib.hid (HO.out.under HU.out (bel9.mono (by omega)))
                      replace HC := Lib.hid own9
                      clear hbase hnew HCR g9 own9
                      replace HS := And.intro (HS.1.beside (bel9.mono (by omega))) (HS.2.below bel9 (by omega))
                      refine hK.out _ _ (fun _ => ⟨HS.2.cell 1, HS⟩) ?_
                      clear hK K
                      try simp only [Act.put, List.setIfInBounds_toArray, List.set_cons_zero, List.set_cons_succ]
                      refine stage_only (i := 6) rfl (by kernel_rfl) ?_ (fun K hK => ?_)
                      focus (go_simp; done)
                      go_simp
                      refine hK.out _ _ (fun h => absurd h (by decide)) ?_
                      clear hK K
                      try simp only [Act.put, List.setIfInBounds_toArray, List.set_cons_zero, List.set_cons_succ]
                      refine stage_only (i := 7) rfl (by kernel_rfl) ?_ (fun K hK => ?_)
                      focus (go_simp; done)
                      have ck : wz.cell? ⟨ga, 1, none⟩ = some (.slice ca cs.length cc) := HS.2.cell 1
                      have fk : wz.frozen? ⟨ga, 1, none⟩ = false := HS.2.frozen 1
                      go_simp
                      clear ck fk
                      refine hK.out _ _ (fun h => absurd h (by decide)) ?_
                      clear hK K
                      try simp only [Act.put, List.setIfInBounds_toArray, List.set_cons_zero, List.set_cons_succ]
                      refine stage_end (by kernel_rfl) ?_
                      have XF : Hid (RI w (wz.setCell ⟨ga, 1, none⟩ (.slice p9 (cs.length + 1) q9)) g gl s l us) := ⟨HS.1.beside ((Below.refl _ _).setCell (p := ⟨ga, 1, none⟩) (by show gl + 1 ≤ ga; omega) _), HO.out.under HU.out ((Below.refl _ _).setCell (p := ⟨ga, 1, none⟩) (by show ga ≤ ga; omega) _)⟩
                      have BF : Hid (Box (wz.setCell ⟨ga, 1, none⟩ (.slice p9 (cs.length + 1) q9)) ga 46 #[.int .i64 x0, .slice p9 (cs.length + 1) q9, .bool x1, .int .i64 x2]) := HS.2.set 1 _
                      have CF := Lib.hid (own_box HC.out HS.2 (k := 1) (u := (.slice p9 (cs.length + 1) q9)) (by decide))
                      have RF := Lib.hid (rd_grown RD1.out (grown_set ga 1 (.slice p9 (cs.length + 1) q9)) (by omega))
                      clear HS HO HC RD1 XI BI CI
                      go_wp2_with fail
                      go_roundw
                      case rel => exact ⟨j + 1, cs ++ [y0], p9, q9, _, by omega, by go_num, XF.out, by rw [List.length_append]; exact BF.out, by have h := CF.out; unfold i64s at h ⊢; rw [List.length_append, List.map_append]; exact h, RF.out, E1, by have := HCl.out; unfold Hid; simp [this]⟩
                      case measure => simp [intOf]; omega
                    · obtain rfl : m0 = j := by omega
                      have E1 : Hid (q = thn (rdPush (rdAcct m0) addAcct (m3 - (k + 1)) (addAcct l ⟨x0, cs, x1, x2⟩) b) (rL4 m4 m5 m6)) := push_zero ER.out (by omega)
                      clear ER
                      go_upto_region 24 with fail
                      have k4 : wr.cell? ⟨gl, 4, none⟩ = some (.slice s.a4 l.accts.length s.c4) := XI.out.rx.bx.cell 4
                      have a0 : wr.cell? ⟨ga, 0, none⟩ = some (.int .i64 x0) := BI.out.cell 0
                      have a1 : wr.cell? ⟨ga, 1, none⟩ = some (.slice ca cs.length cc) := BI.out.cell 1
                      have a2 : wr.cell? ⟨ga, 2, none⟩ = some (.bool x1) := BI.out.cell 2
                      have a3 : wr.cell? ⟨ga, 3, none⟩ = some (.int .i64 x2) := BI.out.cell 3
                      have hbase : gl + 1 ≤ (wr.alloc (.cells #[.int .i64 x0, .slice ca cs.length cc, .bool x1, .int .i64 x2] 46)).heap.size := (XI.out.rx.alloc (.cells #[.int .i64 x0, .slice ca cs.length cc, .bool x1, .int .i64 x2] 46)).bx.lt
                      have HO := Lib.hid (XI.out.ow.below ((Below.refl _ _).alloc (Nat.le_refl _) (.cells #[.int .i64 x0, .slice ca cs.length cc, .bool x1, .int .i64 x2] 46)))
                      have HR := Lib.hid HO.out.accts
                      have HX := Lib.hid (XI.out.rx.alloc (.cells #[.int .i64 x0, .slice ca cs.length cc, .bool x1, .int .i64 x2] 46))
                      have HC := Lib.hid (owns_below CI.out ((Below.refl _ _).alloc (Nat.le_refl _) (.cells #[.int .i64 x0, .slice ca cs.length cc, .bool x1, .int .i64 x2] 46)))
                      have hnew := Lib.hid (at_alloc wr #[.int .i64 x0, .slice ca cs.length cc, .bool x1, .int .i64 x2] 46 (0, 0))
                      have HAp := Lib.hid (HU.out.apart CI.out (by omega))
                      clear XI BI CI
                      go_upto_region 25 with (at_builtin; refine wpList_append_at _ rfl (.tmp 114) (.tmp 116) elem_acc rfl (gl + 1) (.slice s.a4 l.accts.length s.c4) l.accts.length (us.flatMap accC) rfl HR.out (some ⟨wr.heap.size, 0, none⟩) 1 1 [.int .i64 x0, .slice ca cs.length cc, .bool x1, .int .i64 x2] rfl rfl hnew.out (by simp [Value.oneCell']) (by have := HLen.out; unfold maxLen; omega) (by have := HLen.out; omega) hbase ?_; intro v9 wz own9 bel9 g9 _; obtain ⟨p9, q9, rfl, _⟩ := at_of_owns own9; have ck : wz.cell? ⟨gl, 4, none⟩ = some (.slice s.a4 l.accts.length s.c4) := (HX.out.beside bel9).bx.cell 4; have fk : wz.frozen? ⟨gl, 4, none⟩ = false := (HX.out.beside bel9).bx.frozen 4)
                      have HP := HO.out.push (a := ⟨x0, cs, x1, x2⟩) (HC.out.mono (by omega)) HAp.out.1 HAp.out.2 own9 g9
                      have XF := Lib.hid ((HX.out.beside bel9).step HP 4 (.slice p9 (l.accts.length + 1) q9) (by simp))
                      have RF := Lib.hid (rd_grown (rd_grownR (rd_alloc RD0.out (.cells #[.int .i64 x0, .slice ca cs.length cc, .bool x1, .int .i64 x2] 46)) g9 (fun j hj => by have := (HR.out.lt j hj).1; omega)) (grown_set gl 4 (.slice p9 (l.accts.length + 1) q9)) hl.1)
                      clear HP HX HR HO HC HAp hnew hbase k4 a0 a1 a2 a3 ck fk own9 bel9 g9 RD0
                      go_wp2_with fail
                      go_roundw
                      case rel => exact ⟨k + 1, addAcct l ⟨x0, cs, x1, x2⟩, _, _, _, by omega, by go_num, XF.out, RF.out, E1, by have := HLen.out; unfold Hid; simp [addAcct, this], HNil⟩
                      case measure => simp [intOf]; omega
                · obtain rfl : m3 = k := by omega
                  have E := Lib.hid (push_zero ER.out (by omega))
                  have RD := RD0
                  clear ER RD0
                  simp only [rL4] at E
                  go_wp2_with fail
                  go_loopw [121] (fun i wr => ∃ (k : Nat) (l : Led) (s : Lists) (us : List (Value × Acc)) (b : List UInt8), k ≤ m4 ∧ i = .int .i64 (k : Int) ∧ RI w wr g gl s l us ∧ Rd wr g b ∧ Hid (q = thn (rdPush rdTri addPos (m4 - k) l b) (rL5 m5 m6)) ∧ Hid (l.poss.length = k) ∧ Hid (nil6 l)) (fun i _ => m4 - (intOf i).toNat)
                  case atStart => exact ⟨0, _, _, _, _, by omega, rfl, XI.out, RD.out, E, by have := HNil.out.1; unfold Hid; rw [this]; rfl, HNil.out.2⟩
                  case round =>
                    clear XI E RD HNil HLen
                    obtain ⟨k, l, s, us, b, hk, rfl, XR, RDR, ER, HLen, HNil⟩ := hrel
                    have XI := Lib.hid XR
                    have RD0 := Lib.hid RDR
                    clear XR RDR
                    by_cases hlt : k < m4
                    · have E0 := Lib.hid (push_succ (m := m4 - (k + 1)) ER.out (by omega))
                      clear ER
                      simp only [rdTri, thn_thn, thn_pure] at E0
                      go_upto_region 28 with fail
                      have HO := Lib.hid (XI.out.ow.below (bel_of ⟨1, rfl⟩ : Below wr.heap.size wr wr.drew))
                      refine stage_region 11 (fun W => W.cell? ⟨gl, 5, none⟩ = some (.slice s.a5 l.poss.length s.c5) ∧ RX w W g gl s l) (by kernel_rfl) ?_
                      have HS := XI.out.rx.drew
                      refine' stage_take (i := 0) _ rfl (by kernel_rfl) (by kernel_rfl) (by kernel_rfl) (by kernel_rfl) (fun _ _ _ h => h) ⟨HS.bx.cell 5, HS⟩ _ (fun W hW => _) _
                      rotate_left
                      focus (go_simp; done)
                      focus (obtain ⟨k1, X9⟩ := hW; go_simp; first | done | (with_reducible rfl))
                      simp only [Act.put, List.setIfInBounds_toArray, List.set_cons_zero, List.set_cons_succ]
                      refine' stage_take (i := 1) _ rfl (by kernel_rfl) (by kernel_rfl) (by kernel_rfl) (by kernel_rfl) (fun _ _ _ h => h) ⟨HS.bx.cell 5, HS⟩ _ (fun W hW => _) _
                      rotate_left
                      focus (go_simp; done)
                      focus (obtain ⟨k1, X9⟩ := hW; go_simp; first | done | (with_reducible rfl))
                      simp only [Act.put, List.setIfInBounds_toArray, List.set_cons_zero, List.set_cons_succ]
                      refine' stage_take (i := 2) _ rfl (by kernel_rfl) (by kernel_rfl) (by kernel_rfl) (by kernel_rfl) (fun _ _ _ h => h) ⟨HS.bx.cell 5, HS⟩ _ (fun W hW => _) _
                      rotate_left
                      focus (go_simp; done)
                      focus (obtain ⟨k1, X9⟩ := hW; go_simp; first | done | (with_reducible rfl))
                      simp only [Act.put, List.setIfInBounds_toArray, List.set_cons_zero, List.set_cons_succ]
                      refine' stage_take (i := 4) _ rfl (by kernel_rfl) (by kernel_rfl) (by kernel_rfl) (by kernel_rfl) (fun _ _ _ h => h) ⟨HS.bx.cell 5, HS⟩ _ (fun W hW => _) _
                      rotate_left
                      focus (go_simp; done)
                      focus (obtain ⟨k1, X9⟩ := hW; go_simp; first | done | (with_reducible rfl))
                      simp only [Act.put, List.setIfInBounds_toArray, List.set_cons_zero, List.set_cons_succ]
                      refine' stage_take (i := 6) _ rfl (by kernel_rfl) (by kernel_rfl) (by kernel_rfl) (by kernel_rfl) (fun _ _ _ h => h) ⟨HS.bx.cell 5, HS⟩ _ (fun W hW => _) _
                      rotate_left
                      focus (go_simp; done)
                      focus (obtain ⟨k1, X9⟩ := hW; go_simp; first | done | (with_reducible rfl))
                      simp only [Act.put, List.setIfInBounds_toArray, List.set_cons_zero, List.set_cons_succ]
                      refine stage_only (i := 3) rfl (by kernel_rfl) ?_ (fun K hK => ?_)
                      focus (go_simp; done)
                      go_simp
                      go_at_call 46
                      refine (number_rd g _ _ (rd_drew RD0.out)).mono ?_
                      rintro e w1 ⟨gg, ⟨k9, h9, rfl⟩ | ⟨x0, r9, h9, rfl, rd9, d0⟩⟩
                      · go_simp; exact ⟨rfl, HS.gr.trans gg, .inl ⟨k9, E0.out.trans (thn_err h9), rfl⟩⟩
                      go_simp
                      have E1 := Lib.hid (E0.out.trans (thn_ok h9))
                      have RD1 := Lib.hid rd9
                      clear h9 rd9 E0 RD0
                      replace HS := HS.call gg
                      replace HO := Lib.hid (HO.out.other gg (by omega))
                      clear gg
                      replace HS := HS
                      refine hK.out _ _ (fun _ => ⟨HS.bx.cell 5, HS⟩) ?_
                      clear hK K
                      try simp only [Act.put, List.setIfInBounds_toArray, List.set_cons_zero, List.set_cons_succ]
                      refine stage_only (i := 5) rfl (by kernel_rfl) ?_ (fun K hK => ?_)
                      focus (go_simp; done)
                      go_simp
                      go_at_call 46
                      refine (number_rd g _ _ RD1.out).mono ?_
                      rintro e w2 ⟨gg, ⟨k9, h9, rfl⟩ | ⟨x1, r9, h9, rfl, rd9, d1⟩⟩
                      · go_simp; exact ⟨rfl, HS.gr.trans gg, .inl ⟨k9, E1.out.trans (thn_err h9), rfl⟩⟩
                      go_simp
                      have E2 := Lib.hid (E1.out.trans (thn_ok h9))
                      have RD2 := Lib.hid rd9
                      clear h9 rd9 E1 RD1
                      replace HS := HS.call gg
                      replace HO := Lib.hid (HO.out.other gg (by omega))
                      clear gg
                      replace HS := HS
                      refine hK.out _ _ (fun _ => ⟨HS.bx.cell 5, HS⟩) ?_
                      clear hK K
                      try simp only [Act.put, List.setIfInBounds_toArray, List.set_cons_zero, List.set_cons_succ]
                      refine stage_only (i := 7) rfl (by kernel_rfl) ?_ (fun K hK => ?_)
                      focus (go_simp; done)
                      go_simp
                      go_at_call 46
                      refine (number_rd g _ _ RD2.out).mono ?_
                      rintro e w3 ⟨gg, ⟨k9, h9, rfl⟩ | ⟨x2, r9, h9, rfl, rd9, d2⟩⟩
                      · go_simp; exact ⟨rfl, HS.gr.trans gg, .inl ⟨k9, E2.out.trans (thn_err h9), rfl⟩⟩
                      go_simp
                      have E3 := Lib.hid (E2.out.trans (thn_ok h9))
                      have RD3 := Lib.hid rd9
                      clear h9 rd9 E2 RD2
                      replace HS := HS.call gg
                      replace HO := Lib.hid (HO.out.other gg (by omega))
                      clear gg
                      replace HS := HS
                      refine hK.out _ _ (fun _ => ⟨HS.bx.cell 5, HS⟩) ?_
                      clear hK K
                      try simp only [Act.put, List.setIfInBounds_toArray, List.set_cons_zero, List.set_cons_succ]
                      refine' stage_take (i := 8) _ rfl (by kernel_rfl) (by kernel_rfl) (by kernel_rfl) (by kernel_rfl) (fun _ _ _ h => h) ⟨HS.bx.cell 5, HS⟩ _ (fun W hW => _) _
                      rotate_left
                      focus (go_simp; done)
                      focus (obtain ⟨k1, X9⟩ := hW; go_simp; first | done | (with_reducible rfl))
                      simp only [Act.put, List.setIfInBounds_toArray, List.set_cons_zero, List.set_cons_succ]
                      refine stage_only (i := 9) rfl (by kernel_rfl) ?_ (fun K hK => ?_)
                      focus (go_simp; done)
                      go_simp
                      replace HO := Lib.hid (HO.out.below ((Below.refl _ _).alloc (Nat.le_refl _) (.cells #[.int .i64 x0, .int .i64 x1, .int .i64 x2] 63)))
                      replace HS := HS.alloc (.cells #[.int .i64 x0, .int .i64 x1, .int .i64 x2] 63)
                      refine hK.out _ _ (fun _ => ⟨HS.bx.cell 5, HS⟩) ?_
                      clear hK K
                      try simp only [Act.put, List.setIfInBounds_toArray, List.set_cons_zero, List.set_cons_succ]
                      refine stage_only (i := 10) rfl (by kernel_rfl) ?_ (fun K hK => ?_)
                      focus (go_simp; done)
                      have HR := HO.out.poss
                      have hbase : gl + 1 ≤ (w3.alloc (.cells #[.int .i64 x0, .int .i64 x1, .int .i64 x2] 63)).heap.size := HS.bx.lt
                      have hnew : At (w3.alloc (.cells #[.int .i64 x0, .int .i64 x1, .int .i64 x2] 63)) (some ⟨w3.heap.size, 0, none⟩) [.int .i64 x0, .int .i64 x1, .int .i64 x2] := at_alloc w3 #[.int .i64 x0, .int .i64 x1, .int .i64 x2] 63 (0, 0)
                      refine wp_append_at (.tmp 124) (.tmp 132) elem_pos rfl (gl + 1) (.slice s.a5 l.poss.length s.c5) l.poss.length (l.poss.flatMap triC) rfl HR (some ⟨w3.heap.size, 0, none⟩) 1 1 [.int .i64 x0, .int .i64 x1, .int .i64 x2] rfl rfl hnew (by simp [Value.oneCell']) (by have := HLen.out; unfold maxLen; omega) (by have := HLen.out; omega) hbase ?_
                      intro v9 wz own9 bel9 g9 _
                      obtain ⟨p9, q9, rfl, _⟩ := at_of_owns own9
                      replace RD3 := Lib.hid (rd_grownR (rd_alloc RD3.out _) g9 (fun j hj => by have := (HR.lt j hj).1; omega))
                      replace HO := Lib.hid (HO.out.pushPos (x := (x0, x1, x2)) own9 g9)
                      clear HR hbase hnew own9 g9
                      replace HS := HS.beside bel9
                      refine hK.out _ _ (fun _ => ⟨HS.bx.cell 5, HS⟩) ?_
                      clear hK K
                      try simp only [Act.put, List.setIfInBounds_toArray, List.set_cons_zero, List.set_cons_succ]
                      refine stage_only (i := 11) rfl (by kernel_rfl) ?_ (fun K hK => ?_)
                      focus (go_simp; done)
                      go_simp
                      refine hK.out _ _ (fun h => absurd h (by decide)) ?_
                      clear hK K
                      try simp only [Act.put, List.setIfInBounds_toArray, List.set_cons_zero, List.set_cons_succ]
                      refine stage_only (i := 12) rfl (by kernel_rfl) ?_ (fun K hK => ?_)
                      focus (go_simp; done)
                      have ck : wz.cell? ⟨gl, 5, none⟩ = some (.slice s.a5 l.poss.length s.c5) := HS.bx.cell 5
                      have fk : wz.frozen? ⟨gl, 5, none⟩ = false := HS.bx.frozen 5
                      go_simp
                      clear ck fk
                      refine hK.out _ _ (fun h => absurd h (by decide)) ?_
                      clear hK K
                      try simp only [Act.put, List.setIfInBounds_toArray, List.set_cons_zero, List.set_cons_succ]
                      refine stage_end (by kernel_rfl) ?_
                      have XF := Lib.hid (HS.step HO.out 5 (.slice p9 (l.poss.length + 1) q9) (by simp [addCur, addUnd, addIns, addPos, addOrd, addLoc]))
                      have RF := Lib.hid (rd_grown RD3.out (grown_set gl 5 (.slice p9 (l.poss.length + 1) q9)) hl.1)
                      clear HS HO RD3
                      clear XI
                      go_wp2_with fail
                      go_roundw
                      case rel => exact ⟨k + 1, _, _, _, _, by omega, by go_num, XF.out, RF.out, E3, by have := HLen.out; unfold Hid; simp [addPos, this], HNil⟩
                      case measure => simp [intOf]; omega
                    · obtain rfl : m4 = k := by omega
                      have E := Lib.hid (push_zero ER.out (by omega))
                      have RD := RD0
                      clear ER RD0
                      simp only [rL5] at E
                      go_wp2_with fail
                      go_loopw [137] (fun i wr => ∃ (k : Nat) (l : Led) (s : Lists) (us : List (Value × Acc)) (b : List UInt8), k ≤ m5 ∧ i = .int .i64 (k : Int) ∧ RI w wr g gl s l us ∧ Rd wr g b ∧ Hid (q = thn (rdPush rdOrd addOrd (m5 - k) l b) (rL6 m6)) ∧ Hid (l.orders.length = k) ∧ Hid (nil7 l)) (fun i _ => m5 - (intOf i).toNat)
                      case atStart => exact ⟨0, _, _, _, _, by omega, rfl, XI.out, RD.out, E, by have := HNil.out.1; unfold Hid; rw [this]; rfl, HNil.out.2⟩
                      case round =>
                        clear XI E RD HNil HLen
                        obtain ⟨k, l, s, us, b, hk, rfl, XR, RDR, ER, HLen, HNil⟩ := hrel
                        have XI := Lib.hid XR
                        have RD0 := Lib.hid RDR
                        clear XR RDR
                        by_cases hlt : k < m5
                        · have E0 := Lib.hid (push_succ (m := m5 - (k + 1)) ER.out (by omega))
                          clear ER
                          simp only [rdOrd, thn_thn, thn_pure] at E0
                          go_upto_region 32 with fail
                          have HO := Lib.hid (XI.out.ow.below (bel_of ⟨1, rfl⟩ : Below wr.heap.size wr wr.drew))
                          refine stage_region 15 (fun W => W.cell? ⟨gl, 6, none⟩ = some (.slice s.a6 l.orders.length s.c6) ∧ RX w W g gl s l) (by kernel_rfl) ?_
                          have HS := XI.out.rx.drew
                          refine' stage_take (i := 0) _ rfl (by kernel_rfl) (by kernel_rfl) (by kernel_rfl) (by kernel_rfl) (fun _ _ _ h => h) ⟨HS.bx.cell 6, HS⟩ _ (fun W hW => _) _
                          rotate_left
                          focus (go_simp; done)
                          focus (obtain ⟨k1, X9⟩ := hW; go_simp; first | done | (with_reducible rfl))
                          simp only [Act.put, List.setIfInBounds_toArray, List.set_cons_zero, List.set_cons_succ]
                          refine' stage_take (i := 1) _ rfl (by kernel_rfl) (by kernel_rfl) (by kernel_rfl) (by kernel_rfl) (fun _ _ _ h => h) ⟨HS.bx.cell 6, HS⟩ _ (fun W hW => _) _
                          rotate_left
                          focus (go_simp; done)
                          focus (obtain ⟨k1, X9⟩ := hW; go_simp; first | done | (with_reducible rfl))
                          simp only [Act.put, List.setIfInBounds_toArray, List.set_cons_zero, List.set_cons_succ]
                          refine' stage_take (i := 2) _ rfl (by kernel_rfl) (by kernel_rfl) (by kernel_rfl) (by kernel_rfl) (fun _ _ _ h => h) ⟨HS.bx.cell 6, HS⟩ _ (fun W hW => _) _
                          rotate_left
                          focus (go_simp; done)
                          focus (obtain ⟨k1, X9⟩ := hW; go_simp; first | done | (with_reducible rfl))
                          simp only [Act.put, List.setIfInBounds_toArray, List.set_cons_zero, List.set_cons_succ]
                          refine' stage_take (i := 4) _ rfl (by kernel_rfl) (by kernel_rfl) (by kernel_rfl) (by kernel_rfl) (fun _ _ _ h => h) ⟨HS.bx.cell 6, HS⟩ _ (fun W hW => _) _
                          rotate_left
                          focus (go_simp; done)
                          focus (obtain ⟨k1, X9⟩ := hW; go_simp; first | done | (with_reducible rfl))
                          simp only [Act.put, List.setIfInBounds_toArray, List.set_cons_zero, List.set_cons_succ]
                          refine' stage_take (i := 6) _ rfl (by kernel_rfl) (by kernel_rfl) (by kernel_rfl) (by kernel_rfl) (fun _ _ _ h => h) ⟨HS.bx.cell 6, HS⟩ _ (fun W hW => _) _
                          rotate_left
                          focus (go_simp; done)
                          focus (obtain ⟨k1, X9⟩ := hW; go_simp; first | done | (with_reducible rfl))
                          simp only [Act.put, List.setIfInBounds_toArray, List.set_cons_zero, List.set_cons_succ]
                          refine' stage_take (i := 8) _ rfl (by kernel_rfl) (by kernel_rfl) (by kernel_rfl) (by kernel_rfl) (fun _ _ _ h => h) ⟨HS.bx.cell 6, HS⟩ _ (fun W hW => _) _
                          rotate_left
                          focus (go_simp; done)
                          focus (obtain ⟨k1, X9⟩ := hW; go_simp; first | done | (with_reducible rfl))
                          simp only [Act.put, List.setIfInBounds_toArray, List.set_cons_zero, List.set_cons_succ]
                          refine' stage_take (i := 10) _ rfl (by kernel_rfl) (by kernel_rfl) (by kernel_rfl) (by kernel_rfl) (fun _ _ _ h => h) ⟨HS.bx.cell 6, HS⟩ _ (fun W hW => _) _
                          rotate_left
                          focus (go_simp; done)
                          focus (obtain ⟨k1, X9⟩ := hW; go_simp; first | done | (with_reducible rfl))
                          simp only [Act.put, List.setIfInBounds_toArray, List.set_cons_zero, List.set_cons_succ]
                          refine stage_only (i := 3) rfl (by kernel_rfl) ?_ (fun K hK => ?_)
                          focus (go_simp; done)
                          go_simp
                          go_at_call 46
                          refine (number_rd g _ _ (rd_drew RD0.out)).mono ?_
                          rintro e w1 ⟨gg, ⟨k9, h9, rfl⟩ | ⟨x0, r9, h9, rfl, rd9, d0⟩⟩
                          · go_simp; exact ⟨rfl, HS.gr.trans gg, .inl ⟨k9, E0.out.trans (thn_err h9), rfl⟩⟩
                          go_simp
                          have E1 := Lib.hid (E0.out.trans (thn_ok h9))
                          have RD1 := Lib.hid rd9
                          clear h9 rd9 E0 RD0
                          replace HS := HS.call gg
                          replace HO := Lib.hid (HO.out.other gg (by omega))
                          clear gg
                          replace HS := HS
                          refine hK.out _ _ (fun _ => ⟨HS.bx.cell 6, HS⟩) ?_
                          clear hK K
                          try simp only [Act.put, List.setIfInBounds_toArray, List.set_cons_zero, List.set_cons_succ]
                          refine stage_only (i := 5) rfl (by kernel_rfl) ?_ (fun K hK => ?_)
                          focus (go_simp; done)
                          go_simp
                          go_at_call 46
                          refine (number_rd g _ _ RD1.out).mono ?_
                          rintro e w2 ⟨gg, ⟨k9, h9, rfl⟩ | ⟨x1, r9, h9, rfl, rd9, d1⟩⟩
                          · go_simp; exact ⟨rfl, HS.gr.trans gg, .inl ⟨k9, E1.out.trans (thn_err h9), rfl⟩⟩
                          go_simp
                          have E2 := Lib.hid (E1.out.trans (thn_ok h9))
                          have RD2 := Lib.hid rd9
                          clear h9 rd9 E1 RD1
                          replace HS := HS.call gg
                          replace HO := Lib.hid (HO.out.other gg (by omega))
                          clear gg
                          replace HS := HS
                          refine hK.out _ _ (fun _ => ⟨HS.bx.cell 6, HS⟩) ?_
                          clear hK K
                          try simp only [Act.put, List.setIfInBounds_toArray, List.set_cons_zero, List.set_cons_succ]
                          refine stage_only (i := 7) rfl (by kernel_rfl) ?_ (fun K hK => ?_)
                          focus (go_simp; done)
                          go_simp
                          go_at_call 46
                          refine (number_rd g _ _ RD2.out).mono ?_
                          rintro e w3 ⟨gg, ⟨k9, h9, rfl⟩ | ⟨x2, r9, h9, rfl, rd9, d2⟩⟩
                          · go_simp; exact ⟨rfl, HS.gr.trans gg, .inl ⟨k9, E2.out.trans (thn_err h9), rfl⟩⟩
                          go_simp
                          have E3 := Lib.hid (E2.out.trans (thn_ok h9))
                          have RD3 := Lib.hid rd9
                          clear h9 rd9 E2 RD2
                          replace HS := HS.call gg
                          replace HO := Lib.hid (HO.out.other gg (by omega))
                          clear gg
                          replace HS := HS
                          refine hK.out _ _ (fun _ => ⟨HS.bx.cell 6, HS⟩) ?_
                          clear hK K
                          try simp only [Act.put, List.setIfInBounds_toArray, List.set_cons_zero, List.set_cons_succ]
                          refine stage_only (i := 9) rfl (by kernel_rfl) ?_ (fun K hK => ?_)
                          focus (go_simp; done)
                          go_simp
                          go_at_call 46
                          refine (number_rd g _ _ RD3.out).mono ?_
                          rintro e w4 ⟨gg, ⟨k9, h9, rfl⟩ | ⟨x3, r9, h9, rfl, rd9, d3⟩⟩
                          · go_simp; exact ⟨rfl, HS.gr.trans gg, .inl ⟨k9, E3.out.trans (thn_err h9), rfl⟩⟩
                          go_simp
                          have E4 := Lib.hid (E3.out.trans (thn_ok h9))
                          have RD4 := Lib.hid rd9
                          clear h9 rd9 E3 RD3
                          replace HS := HS.call gg
                          replace HO := Lib.hid (HO.out.other gg (by omega))
                          clear gg
                          replace HS := HS
                          refine hK.out _ _ (fun _ => ⟨HS.bx.cell 6, HS⟩) ?_
                          clear hK K
                          try simp only [Act.put, List.setIfInBounds_toArray, List.set_cons_zero, List.set_cons_succ]
                          refine stage_only (i := 11) rfl (by kernel_rfl) ?_ (fun K hK => ?_)
                          focus (go_simp; done)
                          go_simp
                          go_at_call 46
                          refine (number_rd g _ _ RD4.out).mono ?_
                          rintro e w5 ⟨gg, ⟨k9, h9, rfl⟩ | ⟨x4, r9, h9, rfl, rd9, d4⟩⟩
                          · go_simp; exact ⟨rfl, HS.gr.trans gg, .inl ⟨k9, E4.out.trans (thn_err h9), rfl⟩⟩
                          go_simp
                          have E5 := Lib.hid (E4.out.trans (thn_ok h9))
                          have RD5 := Lib.hid rd9
                          clear h9 rd9 E4 RD4
                          replace HS := HS.call gg
                          replace HO := Lib.hid (HO.out.other gg (by omega))
                          clear gg
                          replace HS := HS
                          refine hK.out _ _ (fun _ => ⟨HS.bx.cell 6, HS⟩) ?_
                          clear hK K
                          try simp only [Act.put, List.setIfInBounds_toArray, List.set_cons_zero, List.set_cons_succ]
                          refine' stage_take (i := 12) _ rfl (by kernel_rfl) (by kernel_rfl) (by kernel_rfl) (by kernel_rfl) (fun _ _ _ h => h) ⟨HS.bx.cell 6, HS⟩ _ (fun W hW => _) _
                          rotate_left
                          focus (go_simp; done)
                          focus (obtain ⟨k1, X9⟩ := hW; go_simp; first | done | (with_reducible rfl))
                          simp only [Act.put, List.setIfInBounds_toArray, List.set_cons_zero, List.set_cons_succ]
                          refine stage_only (i := 13) rfl (by kernel_rfl) ?_ (fun K hK => ?_)
                          focus (go_simp; done)
                          go_simp
                          replace HO := Lib.hid (HO.out.below ((Below.refl _ _).alloc (Nat.le_refl _) (.cells #[.int .i64 x0, .int .i64 x1, .int .i64 x2, .int .i64 x3, .int .i64 x4] 65)))
                          replace HS := HS.alloc (.cells #[.int .i64 x0, .int .i64 x1, .int .i64 x2, .int .i64 x3, .int .i64 x4] 65)
                          refine hK.out _ _ (fun _ => ⟨HS.bx.cell 6, HS⟩) ?_
                          clear hK K
                          try simp only [Act.put, List.setIfInBounds_toArray, List.set_cons_zero, List.set_cons_succ]
                          refine stage_only (i := 14) rfl (by kernel_rfl) ?_ (fun K hK => ?_)
                          focus (go_simp; done)
                          have HR := HO.out.orders
                          have hbase : gl + 1 ≤ (w5.alloc (.cells #[.int .i64 x0, .int .i64 x1, .int .i64 x2, .int .i64 x3, .int .i64 x4] 65)).heap.size := HS.bx.lt
                          have hnew : At (w5.alloc (.cells #[.int .i64 x0, .int .i64 x1, .int .i64 x2, .int .i64 x3, .int .i64 x4] 65)) (some ⟨w5.heap.size, 0, none⟩) [.int .i64 x0, .int .i64 x1, .int .i64 x2, .int .i64 x3, .int .i64 x4] := at_alloc w5 #[.int .i64 x0, .int .i64 x1, .int .i64 x2, .int .i64 x3, .int .i64 x4] 65 (0, 0)
                          refine wp_append_at (.tmp 140) (.tmp 152) elem_ord rfl (gl + 1) (.slice s.a6 l.orders.length s.c6) l.orders.length (l.orders.flatMap ordC) rfl HR (some ⟨w5.heap.size, 0, none⟩) 1 1 [.int .i64 x0, .int .i64 x1, .int .i64 x2, .int .i64 x3, .int .i64 x4] rfl rfl hnew (by simp [Value.oneCell']) (by have := HLen.out; unfold maxLen; omega) (by have := HLen.out; omega) hbase ?_
                          intro v9 wz own9 bel9 g9 _
                          obtain ⟨p9, q9, rfl, _⟩ := at_of_owns own9
                          replace RD5 := Lib.hid (rd_grownR (rd_alloc RD5.out _) g9 (fun j hj => by have := (HR.lt j hj).1; omega))
                          replace HO := Lib.hid (HO.out.pushOrd (x := ⟨x0, x1, x2, x3, x4⟩) own9 g9)
                          clear HR hbase hnew own9 g9
                          replace HS := HS.beside bel9
                          refine hK.out _ _ (fun _ => ⟨HS.bx.cell 6, HS⟩) ?_
                          clear hK K
                          try simp only [Act.put, List.setIfInBounds_toArray, List.set_cons_zero, List.set_cons_succ]
                          refine stage_only (i := 15) rfl (by kernel_rfl) ?_ (fun K hK => ?_)
                          focus (go_simp; done)
                          go_simp
                          refine hK.out _ _ (fun h => absurd h (by decide)) ?_
                          clear hK K
                          try simp only [Act.put, List.setIfInBounds_toArray, List.set_cons_zero, List.set_cons_succ]
                          refine stage_only (i := 16) rfl (by kernel_rfl) ?_ (fun K hK => ?_)
                          focus (go_simp; done)
                          have ck : wz.cell? ⟨gl, 6, none⟩ = some (.slice s.a6 l.orders.length s.c6) := HS.bx.cell 6
                          have fk : wz.frozen? ⟨gl, 6, none⟩ = false := HS.bx.frozen 6
                          go_simp
                          clear ck fk
                          refine hK.out _ _ (fun h => absurd h (by decide)) ?_
                          clear hK K
                          try simp only [Act.put, List.setIfInBounds_toArray, List.set_cons_zero, List.set_cons_succ]
                          refine stage_end (by kernel_rfl) ?_
                          have XF := Lib.hid (HS.step HO.out 6 (.slice p9 (l.orders.length + 1) q9) (by simp [addCur, addUnd, addIns, addPos, addOrd, addLoc]))
                          have RF := Lib.hid (rd_grown RD5.out (grown_set gl 6 (.slice p9 (l.orders.length + 1) q9)) hl.1)
                          clear HS HO RD5
                          clear XI
                          go_wp2_with fail
                          go_roundw
                          case rel => exact ⟨k + 1, _, _, _, _, by omega, by go_num, XF.out, RF.out, E5, by have := HLen.out; unfold Hid; simp [addOrd, this], HNil⟩
                          case measure => simp [intOf]; omega
                        · obtain rfl : m5 = k := by omega
                          have E := Lib.hid (push_zero ER.out (by omega))
                          have RD := RD0
                          clear ER RD0
                          simp only [rL6] at E
                          have E1 := Lib.hid (E.out.trans (thn_id _).symm)
                          clear E
                          have E := E1
                          clear E1
                          go_wp2_with fail
                          go_loopw [157] (fun i wr => ∃ (k : Nat) (l : Led) (s : Lists) (us : List (Value × Acc)) (b : List UInt8), k ≤ m6 ∧ i = .int .i64 (k : Int) ∧ RI w wr g gl s l us ∧ Rd wr g b ∧ Hid (q = thn (rdPush rdTri addLoc (m6 - k) l b) (fun l b => .ok (l, b))) ∧ Hid (l.locs.length = k) ∧ Hid (nil8 l)) (fun i _ => m6 - (intOf i).toNat)
                          case atStart => exact ⟨0, _, _, _, _, by omega, rfl, XI.out, RD.out, E, by have := HNil.out; unfold Hid; rw [this]; rfl, trivial⟩
                          case round =>
                            clear XI E RD HNil HLen
                            obtain ⟨k, l, s, us, b, hk, rfl, XR, RDR, ER, HLen, HNil⟩ := hrel
                            have XI := Lib.hid XR
                            have RD0 := Lib.hid RDR
                            clear XR RDR
                            by_cases hlt : k < m6
                            · have E0 := Lib.hid (push_succ (m := m6 - (k + 1)) ER.out (by omega))
                              clear ER
                              simp only [rdTri, thn_thn, thn_pure] at E0
                              go_upto_region 36 with fail
                              have HO := Lib.hid (XI.out.ow.below (bel_of ⟨1, rfl⟩ : Below wr.heap.size wr wr.drew))
                              refine stage_region 11 (fun W => W.cell? ⟨gl, 8, none⟩ = some (.slice s.a8 l.locs.length s.c8) ∧ RX w W g gl s l) (by kernel_rfl) ?_
                              have HS := XI.out.rx.drew
                              refine' stage_take (i := 0) _ rfl (by kernel_rfl) (by kernel_rfl) (by kernel_rfl) (by kernel_rfl) (fun _ _ _ h => h) ⟨HS.bx.cell 8, HS⟩ _ (fun W hW => _) _
                              rotate_left
                              focus (go_simp; done)
                              focus (obtain ⟨k1, X9⟩ := hW; go_simp; first | done | (with_reducible rfl))
                              simp only [Act.put, List.setIfInBounds_toArray, List.set_cons_zero, List.set_cons_succ]
                              refine' stage_take (i := 1) _ rfl (by kernel_rfl) (by kernel_rfl) (by kernel_rfl) (by kernel_rfl) (fun _ _ _ h => h) ⟨HS.bx.cell 8, HS⟩ _ (fun W hW => _) _
                              rotate_left
                              focus (go_simp; done)
                              focus (obtain ⟨k1, X9⟩ := hW; go_simp; first | done | (with_reducible rfl))
                              simp only [Act.put, List.setIfInBounds_toArray, List.set_cons_zero, List.set_cons_succ]
                              refine' stage_take (i := 2) _ rfl (by kernel_rfl) (by kernel_rfl) (by kernel_rfl) (by kernel_rfl) (fun _ _ _ h => h) ⟨HS.bx.cell 8, HS⟩ _ (fun W hW => _) _
                              rotate_left
                              focus (go_simp; done)
                              focus (obtain ⟨k1, X9⟩ := hW; go_simp; first | done | (with_reducible rfl))
                              simp only [Act.put, List.setIfInBounds_toArray, List.set_cons_zero, List.set_cons_succ]
                              refine' stage_take (i := 4) _ rfl (by kernel_rfl) (by kernel_rfl) (by kernel_rfl) (by kernel_rfl) (fun _ _ _ h => h) ⟨HS.bx.cell 8, HS⟩ _ (fun W hW => _) _
                              rotate_left
                              focus (go_simp; done)
                              focus (obtain ⟨k1, X9⟩ := hW; go_simp; first | done | (with_reducible rfl))
                              simp only [Act.put, List.setIfInBounds_toArray, List.set_cons_zero, List.set_cons_succ]
                              refine' stage_take (i := 6) _ rfl (by kernel_rfl) (by kernel_rfl) (by kernel_rfl) (by kernel_rfl) (fun _ _ _ h => h) ⟨HS.bx.cell 8, HS⟩ _ (fun W hW => _) _
                              rotate_left
                              focus (go_simp; done)
                              focus (obtain ⟨k1, X9⟩ := hW; go_simp; first | done | (with_reducible rfl))
                              simp only [Act.put, List.setIfInBounds_toArray, List.set_cons_zero, List.set_cons_succ]
                              refine stage_only (i := 3) rfl (by kernel_rfl) ?_ (fun K hK => ?_)
                              focus (go_simp; done)
                              go_simp
                              go_at_call 46
                              refine (number_rd g _ _ (rd_drew RD0.out)).mono ?_
                              rintro e w1 ⟨gg, ⟨k9, h9, rfl⟩ | ⟨x0, r9, h9, rfl, rd9, d0⟩⟩
                              · go_simp; exact ⟨rfl, HS.gr.trans gg, .inl ⟨k9, E0.out.trans (thn_err h9), rfl⟩⟩
                              go_simp
                              have E1 := Lib.hid (E0.out.trans (thn_ok h9))
                              have RD1 := Lib.hid rd9
                              clear h9 rd9 E0 RD0
                              replace HS := HS.call gg
                              replace HO := Lib.hid (HO.out.other gg (by omega))
                              clear gg
                              replace HS := HS
                              refine hK.out _ _ (fun _ => ⟨HS.bx.cell 8, HS⟩) ?_
                              clear hK K
                              try simp only [Act.put, List.setIfInBounds_toArray, List.set_cons_zero, List.set_cons_succ]
                              refine stage_only (i := 5) rfl (by kernel_rfl) ?_ (fun K hK => ?_)
                              focus (go_simp; done)
                              go_simp
                              go_at_call 46
                              refine (number_rd g _ _ RD1.out).mono ?_
                              rintro e w2 ⟨gg, ⟨k9, h9, rfl⟩ | ⟨x1, r9, h9, rfl, rd9, d1⟩⟩
                              · go_simp; exact ⟨rfl, HS.gr.trans gg, .inl ⟨k9, E1.out.trans (thn_err h9), rfl⟩⟩
                              go_simp
                              have E2 := Lib.hid (E1.out.trans (thn_ok h9))
                              have RD2 := Lib.hid rd9
                              clear h9 rd9 E1 RD1
                              replace HS := HS.call gg
                              replace HO := Lib.hid (HO.out.other gg (by omega))
                              clear gg
                              replace HS := HS
                              refine hK.out _ _ (fun _ => ⟨HS.bx.cell 8, HS⟩) ?_
                              clear hK K
                              try simp only [Act.put, List.setIfInBounds_toArray, List.set_cons_zero, List.set_cons_succ]
                              refine stage_only (i := 7) rfl (by kernel_rfl) ?_ (fun K hK => ?_)
                              focus (go_simp; done)
                              go_simp
                              go_at_call 46
                              refine (number_rd g _ _ RD2.out).mono ?_
                              rintro e w3 ⟨gg, ⟨k9, h9, rfl⟩ | ⟨x2, r9, h9, rfl, rd9, d2⟩⟩
                              · go_simp; exact ⟨rfl, HS.gr.trans gg, .inl ⟨k9, E2.out.trans (thn_err h9), rfl⟩⟩
                              go_simp
                              have E3 := Lib.hid (E2.out.trans (thn_ok h9))
                              have RD3 := Lib.hid rd9
                              clear h9 rd9 E2 RD2
                              replace HS := HS.call gg
                              replace HO := Lib.hid (HO.out.other gg (by omega))
                              clear gg
                              replace HS := HS
                              refine hK.out _ _ (fun _ => ⟨HS.bx.cell 8, HS⟩) ?_
                              clear hK K
                              try simp only [Act.put, List.setIfInBounds_toArray, List.set_cons_zero, List.set_cons_succ]
                              refine' stage_take (i := 8) _ rfl (by kernel_rfl) (by kernel_rfl) (by kernel_rfl) (by kernel_rfl) (fun _ _ _ h => h) ⟨HS.bx.cell 8, HS⟩ _ (fun W hW => _) _
                              rotate_left
                              focus (go_simp; done)
                              focus (obtain ⟨k1, X9⟩ := hW; go_simp; first | done | (with_reducible rfl))
                              simp only [Act.put, List.setIfInBounds_toArray, List.set_cons_zero, List.set_cons_succ]
                              refine stage_only (i := 9) rfl (by kernel_rfl) ?_ (fun K hK => ?_)
                              focus (go_simp; done)
                              go_simp
                              replace HO := Lib.hid (HO.out.below ((Below.refl _ _).alloc (Nat.le_refl _) (.cells #[.int .i64 x0, .int .i64 x1, .int .i64 x2] 66)))
                              replace HS := HS.alloc (.cells #[.int .i64 x0, .int .i64 x1, .int .i64 x2] 66)
                              refine hK.out _ _ (fun _ => ⟨HS.bx.cell 8, HS⟩) ?_
                              clear hK K
                              try simp only [Act.put, List.setIfInBounds_toArray, List.set_cons_zero, List.set_cons_succ]
                              refine stage_only (i := 10) rfl (by kernel_rfl) ?_ (fun K hK => ?_)
                              focus (go_simp; done)
                              have HR := HO.out.locs
                              have hbase : gl + 1 ≤ (w3.alloc (.cells #[.int .i64 x0, .int .i64 x1, .int .i64 x2] 66)).heap.size := HS.bx.lt
                              have hnew : At (w3.alloc (.cells #[.int .i64 x0, .int .i64 x1, .int .i64 x2] 66)) (some ⟨w3.heap.size, 0, none⟩) [.int .i64 x0, .int .i64 x1, .int .i64 x2] := at_alloc w3 #[.int .i64 x0, .int .i64 x1, .int .i64 x2] 66 (0, 0)
                              refine wp_append_at (.tmp 160) (.tmp 168) elem_loc rfl (gl + 1) (.slice s.a8 l.locs.length s.c8) l.locs.length (l.locs.flatMap triC) rfl HR (some ⟨w3.heap.size, 0, none⟩) 1 1 [.int .i64 x0, .int .i64 x1, .int .i64 x2] rfl rfl hnew (by simp [Value.oneCell']) (by have := HLen.out; unfold maxLen; omega) (by have := HLen.out; omega) hbase ?_
                              intro v9 wz own9 bel9 g9 _
                              obtain ⟨p9, q9, rfl, _⟩ := at_of_owns own9
                              replace RD3 := Lib.hid (rd_grownR (rd_alloc RD3.out _) g9 (fun j hj => by have := (HR.lt j hj).1; omega))
                              replace HO := Lib.hid (HO.out.pushLoc (x := (x0, x1, x2)) own9 g9)
                              clear HR hbase hnew own9 g9
                              replace HS := HS.beside bel9
                              refine hK.out _ _ (fun _ => ⟨HS.bx.cell 8, HS⟩) ?_
                              clear hK K
                              try simp only [Act.put, List.setIfInBounds_toArray, List.set_cons_zero, List.set_cons_succ]
                              refine stage_only (i := 11) rfl (by kernel_rfl) ?_ (fun K hK => ?_)
                              focus (go_simp; done)
                              go_simp
                              refine hK.out _ _ (fun h => absurd h (by decide)) ?_
                              clear hK K
                              try simp only [Act.put, List.setIfInBounds_toArray, List.set_cons_zero, List.set_cons_succ]
                              refine stage_only (i := 12) rfl (by kernel_rfl) ?_ (fun K hK => ?_)
                              focus (go_simp; done)
                              have ck : wz.cell? ⟨gl, 8, none⟩ = some (.slice s.a8 l.locs.length s.c8) := HS.bx.cell 8
                              have fk : wz.frozen? ⟨gl, 8, none⟩ = false := HS.bx.frozen 8
                              go_simp
                              clear ck fk
                              refine hK.out _ _ (fun h => absurd h (by decide)) ?_
                              clear hK K
                              try simp only [Act.put, List.setIfInBounds_toArray, List.set_cons_zero, List.set_cons_succ]
                              refine stage_end (by kernel_rfl) ?_
                              have XF := Lib.hid (HS.step HO.out 8 (.slice p9 (l.locs.length + 1) q9) (by simp [addCur, addUnd, addIns, addPos, addOrd, addLoc]))
                              have RF := Lib.hid (rd_grown RD3.out (grown_set gl 8 (.slice p9 (l.locs.length + 1) q9)) hl.1)
                              clear HS HO RD3
                              clear XI
                              go_wp2_with fail
                              go_roundw
                              case rel => exact ⟨k + 1, _, _, _, _, by omega, by go_num, XF.out, RF.out, E3, by have := HLen.out; unfold Hid; simp [addLoc, this], HNil⟩
                              case measure => simp [intOf]; omega
                            · obtain rfl : m6 = k := by omega
                              have E := Lib.hid (push_zero ER.out (by omega))
                              have RD := RD0
                              clear ER RD0
                              go_wp2_with (first | ((with_reducible refine wpList_load_box rfl 31 (.tmp 3) rfl XI.out.rx.bx Tryz.underlying31 ?_ ?_ ?_ ?_); (· rfl); (· kernel_rfl); (· rfl)) | ((with_reducible refine wpList_store_box rfl 31 (.tmp 2) (.tmp 172) rfl #[.int .i64 l.day, .slice s.a1 l.curs.length s.c1, .slice s.a2 l.unders.length s.c2, .slice s.a3 l.instrs.length s.c3, .slice s.a4 l.accts.length s.c4, .slice s.a5 l.poss.length s.c5, .slice s.a6 l.orders.length s.c6, .slice s.a7 l.avail.length s.c7, .slice s.a8 l.locs.length s.c8] XI.out.rx.rb ?_ ?_ ?_ ?_ ?_ ?_); (· kernel_rfl); (· rfl); (· simp [Value.oneCell']); (· rfl); (· rfl)))
                              refine bodyPost_ret (results_cell (by rfl) _ _ (XI.out.rx.rb.row #[.int .i64 l.day, .slice s.a1 l.curs.length s.c1, .slice s.a2 l.unders.length s.c2, .slice s.a3 l.instrs.length s.c3, .slice s.a4 l.accts.length s.c4, .slice s.a5 l.poss.length s.c5, .slice s.a6 l.orders.length s.c6, .slice s.a7 l.avail.length s.c7, .slice s.a8 l.locs.length s.c8]) Tryz.underlying31 rfl (by kernel_rfl) rfl) rfl ⟨grown_of_below (N := w.heap.size) XI.out.rx.gr (below_setRow (Below.refl _ _) (Nat.le_refl _) _) (Nat.le_refl _), .inr ⟨l, s, us, b, E.out, rfl, rd_grownR RD.out (grown_row w.heap.size #[.int .i64 l.day, .slice s.a1 l.curs.length s.c1, .slice s.a2 l.unders.length s.c2, .slice s.a3 l.instrs.length s.c3, .slice s.a4 l.accts.length s.c4, .slice s.a5 l.poss.length s.c5, .slice s.a6 l.orders.length s.c6, .slice s.a7 l.avail.length s.c7, .slice s.a8 l.locs.length s.c8]) (fun j hj => by have := hgw.out; have := Option.some.inj hj; omega), (XI.out.ow.other (grown_row w.heap.size #[.int .i64 l.day, .slice s.a1 l.curs.length s.c1, .slice s.a2 l.unders.length s.c2, .slice s.a3 l.instrs.length s.c3, .slice s.a4 l.accts.length s.c4, .slice s.a5 l.poss.length s.c5, .slice s.a6 l.orders.length s.c6, .slice s.a7 l.avail.length s.c7, .slice s.a8 l.locs.length s.c8]) (by omega)).mono (by omega)⟩⟩
end Go.Proofs.YtocjfjikkdpfdaaGreatDoor.ImgW
namespace Go.Proofs.YtocjfjikkdpfdaaGreatDoor.ImgW
open Go.RowKit Go.Proofs.YtocjfjikkdpfdaaGreatDoor.Bas Go.Proofs.YtocjfjikkdpfdaaGreatDoor.LedM Go.Proofs.YtocjfjikkdpfdaaGreatDoor.LedW

theorem own_zero (base : Nat) (W : World) : LedOwn base W zeroS zeroLed [] := ⟨World.ownsRow_nil _ _ _ _, World.ownsRow_nil _ _ _ _, World.ownsRow_nil _ _ _ _, World.ownsRow_nil _ _ _ _, World.ownsRow_nil _ _ _ _, World.ownsRow_nil _ _ _ _, World.ownsRow_nil _ _ _ _, World.ownsRow_nil _ _ _ _, rfl, by simp, by simp, by simp⟩
set_option maxRecDepth 100000 in
set_option maxHeartbeats 4000000 in
theorem readb_calls (bs : List UInt8) (a : Option Addr) (cap : Nat) (w : World) (hat : At w a (u8s bs)) (hl : bs.length ≤ cap) (hm : cap ≤ maxLen) :
    Calls Tryz.prog 27 #[.slice a bs.length cap, .func (.func 28) #[] #[]] w fun e w' => ∃ s us, e = .returned (.tuple #[ledV s (readB bs).1, .int .i64 (readB bs).2]) ∧ LedOwn w.heap.size w' s (readB bs).1 us ∧ Below w.heap.size w w' := by
  have hmf := hmf
  have n0 : RV w (((w.alloc (.cells #[.int .i64 0, .slice none 0 0, .slice none 0 0, .slice none 0 0, .slice none 0 0, .slice none 0 0, .slice none 0 0, .slice none 0 0, .slice none 0 0] 31)).alloc (.cells #[.int .i64 0] 38)).alloc (.cells #[.slice a bs.length cap] 94)) 31 #[.int .i64 0, .slice none 0 0, .slice none 0 0, .slice none 0 0, .slice none 0 0, .slice none 0 0, .slice none 0 0, .slice none 0 0, .slice none 0 0] 0 := by
    refine ⟨((Box.new w _ _).alloc _).alloc _, ?_, (((Below.refl _ _).alloc (Nat.le_refl _) _).alloc (by rw [World.size_alloc]; omega) _).alloc (by rw [World.size_alloc, World.size_alloc]; omega) _⟩
    have := (Box.new (w.alloc (.cells #[.int .i64 0, .slice none 0 0, .slice none 0 0, .slice none 0 0, .slice none 0 0, .slice none 0 0, .slice none 0 0, .slice none 0 0, .slice none 0 0] 31)) 38 #[.int .i64 0]).alloc (.cells #[.slice a bs.length cap] 94)
    rwa [World.size_alloc] at this
  have n1 : Rd (((w.alloc (.cells #[.int .i64 0, .slice none 0 0, .slice none 0 0, .slice none 0 0, .slice none 0 0, .slice none 0 0, .slice none 0 0, .slice none 0 0, .slice none 0 0] 31)).alloc (.cells #[.int .i64 0] 38)).alloc (.cells #[.slice a bs.length cap] 94)) (w.heap.size + 1 + 1) bs := by
    have := Box.new ((w.alloc (.cells #[.int .i64 0, .slice none 0 0, .slice none 0 0, .slice none 0 0, .slice none 0 0, .slice none 0 0, .slice none 0 0, .slice none 0 0, .slice none 0 0] 31)).alloc (.cells #[.int .i64 0] 38)) 94 #[.slice a bs.length cap]
    rw [World.size_alloc, World.size_alloc] at this
    by_cases hb : bs = []
    · exact ⟨a, cap, this, by rw [hb]; exact At.nil _ _, hl, hm, fun _ _ h => absurd hb h⟩
    · refine ⟨a, cap, this, hat.keep n0.low, hl, hm, fun p hp _ => ?_⟩
      obtain ⟨b, off, s⟩ := p
      have := hat.lt b off s hp (by simpa [u8s] using hb)
      show b < _
      omega
  have hz0 : w.heap.size + 1 + 1 + 1 = (((w.alloc (.cells #[.int .i64 0, .slice none 0 0, .slice none 0 0, .slice none 0 0, .slice none 0 0, .slice none 0 0, .slice none 0 0, .slice none 0 0, .slice none 0 0] 31)).alloc (.cells #[.int .i64 0] 38)).alloc (.cells #[.slice a bs.length cap] 94)).heap.size := by rw [World.size_alloc, World.size_alloc, World.size_alloc]
  have HE : Hid (∀ k, rdL bs = .error k → readB bs = (zeroLed, k)) := fun k h => readB_err h
  have HT : Hid (∀ x r, rdL bs = .ok (x, r) → 0 < r.length → readB bs = (zeroLed, 13)) := fun x r h hr => readB_tail h hr
  have HK : Hid (∀ x, rdL bs = .ok (x, []) → readB bs = (x, 0)) := fun x h => readB_ok h
  have OZ := Lib.hid own_zero
  clear hat
  unfold ledV
  go_enter_defers Tryz.func27, Tryz.ntmps27
  go_upto_region 3 with fail
  generalize ((w.alloc (.cells #[.int .i64 0, .slice none 0 0, .slice none 0 0, .slice none 0 0, .slice none 0 0, .slice none 0 0, .slice none 0 0, .slice none 0 0, .slice none 0 0] 31)).alloc (.cells #[.int .i64 0] 38)).alloc (.cells #[.slice a bs.length cap] 94) = w0 at *
  have X := Lib.hid n0
  have RD := Lib.hid n1
  have HZ0 := Lib.hid hz0
  clear n0 n1 hmf hz0
  go_upto_region 4 with (first | (go_at_call 28; refine (ledger_rd _ bs _ RD.out).mono ?_; rintro e w1 ⟨g1, ⟨k, h1, rfl⟩ | ⟨x, s, us, r, h1, rfl, rd1, own1⟩⟩; (· refine ledleave_up _ _ k 0 #[.int .i64 0, .slice none 0 0, .slice none 0 0, .slice none 0 0, .slice none 0 0, .slice none 0 0, .slice none 0 0, .slice none 0 0, .slice none 0 0] rfl _ _ (by omega) _ rfl rfl (X.out.grown g1).bx (X.out.grown g1).be (fun w' hb => ⟨zeroS, [], ?_, ?_, (X.out.grown g1).low.trans (hb _ (by omega) (by omega))⟩); (· rw [HE.out k h1]; rfl); (· rw [HE.out k h1]; exact OZ.out _ _)); have X1 := Lib.hid (X.out.grown g1); have RD1 := Lib.hid rd1; have H1 := Lib.hid h1; have OW := Lib.hid own1; clear g1 rd1 h1 X RD own1; unfold ledV) | ((with_reducible refine wpList_store_box rfl 31 (.tmp 4) (.tmp 13) rfl #[.int .i64 x.day, .slice s.a1 x.curs.length s.c1, .slice s.a2 x.unders.length s.c2, .slice s.a3 x.instrs.length s.c3, .slice s.a4 x.accts.length s.c4, .slice s.a5 x.poss.length s.c5, .slice s.a6 x.orders.length s.c6, .slice s.a7 x.avail.length s.c7, .slice s.a8 x.locs.length s.c8] X1.out.bx ?_ ?_ ?_ ?_ ?_ ?_); (· kernel_rfl); (· rfl); (· simp [Value.oneCell']); (· rfl); (· rfl)))
  have X2 : Hid (RV w (w1.setRow w.heap.size #[.int .i64 x.day, .slice s.a1 x.curs.length s.c1, .slice s.a2 x.unders.length s.c2, .slice s.a3 x.instrs.length s.c3, .slice s.a4 x.accts.length s.c4, .slice s.a5 x.poss.length s.c5, .slice s.a6 x.orders.length s.c6, .slice s.a7 x.avail.length s.c7, .slice s.a8 x.locs.length s.c8]) 31 #[.int .i64 x.day, .slice s.a1 x.curs.length s.c1, .slice s.a2 x.unders.length s.c2, .slice s.a3 x.instrs.length s.c3, .slice s.a4 x.accts.length s.c4, .slice s.a5 x.poss.length s.c5, .slice s.a6 x.orders.length s.c6, .slice s.a7 x.avail.length s.c7, .slice s.a8 x.locs.length s.c8] 0) := ⟨X1.out.bx.row _, X1.out.be.farRow (by omega) _, below_setRow X1.out.low (by omega) _⟩
  have OW2 := Lib.hid (OW.out.other (grown_row w.heap.size #[.int .i64 x.day, .slice s.a1 x.curs.length s.c1, .slice s.a2 x.unders.length s.c2, .slice s.a3 x.instrs.length s.c3, .slice s.a4 x.accts.length s.c4, .slice s.a5 x.poss.length s.c5, .slice s.a6 x.orders.length s.c6, .slice s.a7 x.avail.length s.c7, .slice s.a8 x.locs.length s.c8]) (by have := HZ0.out; omega))
  obtain ⟨a1, c1, hb1, _⟩ := RD1.out.ex
  have k0 : (w1.setRow w.heap.size #[.int .i64 x.day, .slice s.a1 x.curs.length s.c1, .slice s.a2 x.unders.length s.c2, .slice s.a3 x.instrs.length s.c3, .slice s.a4 x.accts.length s.c4, .slice s.a5 x.poss.length s.c5, .slice s.a6 x.orders.length s.c6, .slice s.a7 x.avail.length s.c7, .slice s.a8 x.locs.length s.c8]).cell? ⟨w.heap.size + 1 + 1, 0, none⟩ = some (.slice a1 r.length c1) := (hb1.farRow (k := w.heap.size) (by omega) #[.int .i64 x.day, .slice s.a1 x.curs.length s.c1, .slice s.a2 x.unders.length s.c2, .slice s.a3 x.instrs.length s.c3, .slice s.a4 x.accts.length s.c4, .slice s.a5 x.poss.length s.c5, .slice s.a6 x.orders.length s.c6, .slice s.a7 x.avail.length s.c7, .slice s.a8 x.locs.length s.c8]).cell 0
  clear hb1 X1 RD1 OW
  generalize w1.setRow w.heap.size #[.int .i64 x.day, .slice s.a1 x.curs.length s.c1, .slice s.a2 x.unders.length s.c2, .slice s.a3 x.instrs.length s.c3, .slice s.a4 x.accts.length s.c4, .slice s.a5 x.poss.length s.c5, .slice s.a6 x.orders.length s.c6, .slice s.a7 x.avail.length s.c7, .slice s.a8 x.locs.length s.c8] = w2 at *
  by_cases hr : 0 < r.length
  · have EE := Lib.hid (HT.out x r H1.out hr)
    clear H1 HT HK HE
    go_wp2_with fail
    refine ledleave_up _ _ 13 0 #[.int .i64 x.day, .slice s.a1 x.curs.length s.c1, .slice s.a2 x.unders.length s.c2, .slice s.a3 x.instrs.length s.c3, .slice s.a4 x.accts.length s.c4, .slice s.a5 x.poss.length s.c5, .slice s.a6 x.orders.length s.c6, .slice s.a7 x.avail.length s.c7, .slice s.a8 x.locs.length s.c8] rfl _ _ (by omega) _ rfl rfl X2.out.bx X2.out.be (fun w' hb => ⟨zeroS, [], ?_, ?_, X2.out.low.trans (hb _ (by omega) (by omega))⟩)
    · rw [EE.out]
      rfl
    · rw [EE.out]
      exact OZ.out _ _
  · have EE := Lib.hid (HK.out x (by have e := List.length_eq_zero_iff.1 (Nat.eq_zero_of_not_pos hr); rw [← e]; exact H1.out))
    clear H1 HT HK HE
    have X3 : Hid (RV w (w2.setRow w.heap.size #[.int .i64 x.day, .slice s.a1 x.curs.length s.c1, .slice s.a2 x.unders.length s.c2, .slice s.a3 x.instrs.length s.c3, .slice s.a4 x.accts.length s.c4, .slice s.a5 x.poss.length s.c5, .slice s.a6 x.orders.length s.c6, .slice s.a7 x.avail.length s.c7, .slice s.a8 x.locs.length s.c8]) 31 #[.int .i64 x.day, .slice s.a1 x.curs.length s.c1, .slice s.a2 x.unders.length s.c2, .slice s.a3 x.instrs.length s.c3, .slice s.a4 x.accts.length s.c4, .slice s.a5 x.poss.length s.c5, .slice s.a6 x.orders.length s.c6, .slice s.a7 x.avail.length s.c7, .slice s.a8 x.locs.length s.c8] 0) := ⟨X2.out.bx.row _, X2.out.be.farRow (by omega) _, below_setRow X2.out.low (by omega) _⟩
    have OW3 := Lib.hid (OW2.out.other (grown_row w.heap.size #[.int .i64 x.day, .slice s.a1 x.curs.length s.c1, .slice s.a2 x.unders.length s.c2, .slice s.a3 x.instrs.length s.c3, .slice s.a4 x.accts.length s.c4, .slice s.a5 x.poss.length s.c5, .slice s.a6 x.orders.length s.c6, .slice s.a7 x.avail.length s.c7, .slice s.a8 x.locs.length s.c8]) (by have := HZ0.out; omega))
    have ke : (w2.setRow w.heap.size #[.int .i64 x.day, .slice s.a1 x.curs.length s.c1, .slice s.a2 x.unders.length s.c2, .slice s.a3 x.instrs.length s.c3, .slice s.a4 x.accts.length s.c4, .slice s.a5 x.poss.length s.c5, .slice s.a6 x.orders.length s.c6, .slice s.a7 x.avail.length s.c7, .slice s.a8 x.locs.length s.c8]).cell? ⟨w.heap.size + 1, 0, none⟩ = some (.int .i64 0) := X3.out.be.cell 0
    have fe := X3.out.be.frozen 0
    go_wp2_with (first | ((with_reducible refine wpList_load_box rfl 31 (.tmp 4) rfl X2.out.bx Tryz.underlying31 ?_ ?_ ?_ ?_); (· rfl); (· kernel_rfl); (· rfl)) | ((with_reducible refine wpList_store_box rfl 31 (.tmp 4) (.tmp 22) rfl #[.int .i64 x.day, .slice s.a1 x.curs.length s.c1, .slice s.a2 x.unders.length s.c2, .slice s.a3 x.instrs.length s.c3, .slice s.a4 x.accts.length s.c4, .slice s.a5 x.poss.length s.c5, .slice s.a6 x.orders.length s.c6, .slice s.a7 x.avail.length s.c7, .slice s.a8 x.locs.length s.c8] X2.out.bx ?_ ?_ ?_ ?_ ?_ ?_); (· kernel_rfl); (· rfl); (· simp [Value.oneCell']); (· rfl); (· rfl)))
    refine ledleave_ok _ _ (.int .i64 x.day) (.slice s.a1 x.curs.length s.c1) (.slice s.a2 x.unders.length s.c2) (.slice s.a3 x.instrs.length s.c3) (.slice s.a4 x.accts.length s.c4) (.slice s.a5 x.poss.length s.c5) (.slice s.a6 x.orders.length s.c6) (.slice s.a7 x.avail.length s.c7) (.slice s.a8 x.locs.length s.c8) _ _ _ rfl rfl (X3.out.bx.far (p := ⟨w.heap.size + 1, 0, none⟩) (by simp) _) (X3.out.be.set 0 _) ⟨s, us, ?_, ?_, ?_⟩
    · rw [EE.out]
    · rw [EE.out]
      exact ((OW3.out.other (grown_set (w.heap.size + 1) 0 _) (by have := HZ0.out; omega)).below ((Below.refl _ _).alloc (Nat.le_refl _) _)).mono (by have := HZ0.out; omega)
    · exact (X3.out.low.setCell (p := ⟨w.heap.size + 1, 0, none⟩) (by simp) _).alloc (by have := X3.out.be.lt; simp at this ⊢; omega) _
set_option maxRecDepth 100000 in
set_option maxHeartbeats 4000000 in
/-- Read -/
theorem readl_calls (bs : List UInt8) (a : Option Addr) (cap : Nat) (w : World) (hat : At w a (u8s bs)) (hl : bs.length ≤ cap) (hm : cap ≤ maxLen) :
    Calls Tryz.prog 11 #[.slice a bs.length cap] w fun e w' => ∃ s us, e = .returned (.tuple #[ledV s (readL bs).1, .int .i64 (readL bs).2]) ∧ LedOwn w.heap.size w' s (readL bs).1 us ∧ Below w.heap.size w w' := by
  have HC := Lib.hid (fun W h => readb_calls bs a cap W h hl hm)
  have HF := Lib.hid (readB_fit bs)
  have HD : Hid (readL bs = if (readB bs).2 = 0 ∧ goodF (readB bs).1 = false then (zeroLed, 43) else readB bs) := rfl
  have hb := Box.new w 31 #[.int .i64 0, .slice none 0 0, .slice none 0 0, .slice none 0 0, .slice none 0 0, .slice none 0 0, .slice none 0 0, .slice none 0 0, .slice none 0 0]
  have hlow := (Below.refl w.heap.size w).alloc (Nat.le_refl _) (.cells #[.int .i64 0, .slice none 0 0, .slice none 0 0, .slice none 0 0, .slice none 0 0, .slice none 0 0, .slice none 0 0, .slice none 0 0, .slice none 0 0] 31)
  have HA := Lib.hid (hat.keep hlow)
  have OZ := Lib.hid own_zero
  generalize readB bs = p at *
  obtain ⟨x, k⟩ := p
  simp only at HC HF HD
  generalize readL bs = q at HD ⊢
  unfold ledV at *
  clear hat
  go_enter Tryz.func11, Tryz.ntmps11
  go_upto_region 1 with fail
  have hsz : (w.alloc (.cells #[.int .i64 0, .slice none 0 0, .slice none 0 0, .slice none 0 0, .slice none 0 0, .slice none 0 0, .slice none 0 0, .slice none 0 0, .slice none 0 0] 31)).heap.size = w.heap.size + 1 := World.size_alloc _ _
  generalize w.alloc (.cells #[.int .i64 0, .slice none 0 0, .slice none 0 0, .slice none 0 0, .slice none 0 0, .slice none 0 0, .slice none 0 0, .slice none 0 0, .slice none 0 0] 31) = w0 at *
  go_upto_region 2 with (first | (go_at_call 27; refine (HC.out _ HA.out).mono ?_; rintro e w1 ⟨s, us, rfl, own1, b1⟩; have HB := Lib.hid (hb.below b1 (by omega)); have HL := Lib.hid (hlow.trans (b1.mono (by omega))); have hz1 := b1.size; have OW := Lib.hid own1; have HB4 := Box.new w1 31 #[.int .i64 0, .slice none 0 0, .slice none 0 0, .slice none 0 0, .slice none 0 0, .slice none 0 0, .slice none 0 0, .slice none 0 0, .slice none 0 0]; clear hb hlow b1 own1) | ((with_reducible refine wpList_store_box rfl 31 (.tmp 4) (.tmp 9) rfl #[.int .i64 x.day, .slice s.a1 x.curs.length s.c1, .slice s.a2 x.unders.length s.c2, .slice s.a3 x.instrs.length s.c3, .slice s.a4 x.accts.length s.c4, .slice s.a5 x.poss.length s.c5, .slice s.a6 x.orders.length s.c6, .slice s.a7 x.avail.length s.c7, .slice s.a8 x.locs.length s.c8] HB4 ?_ ?_ ?_ ?_ ?_ ?_); (· kernel_rfl); (· rfl); (· simp [Value.oneCell']); (· rfl); (· rfl)))
  have b4 : Below w1.heap.size w1 ((w1.alloc (.cells #[.int .i64 0, .slice none 0 0, .slice none 0 0, .slice none 0 0, .slice none 0 0, .slice none 0 0, .slice none 0 0, .slice none 0 0, .slice none 0 0] 31)).setRow w1.heap.size #[.int .i64 x.day, .slice s.a1 x.curs.length s.c1, .slice s.a2 x.unders.length s.c2, .slice s.a3 x.instrs.length s.c3, .slice s.a4 x.accts.length s.c4, .slice s.a5 x.poss.length s.c5, .slice s.a6 x.orders.length s.c6, .slice s.a7 x.avail.length s.c7, .slice s.a8 x.locs.length s.c8]) := below_setRow ((Below.refl _ _).alloc (Nat.le_refl _) _) (Nat.le_refl _) _
  have Y4 := Lib.hid (HB4.row #[.int .i64 x.day, .slice s.a1 x.curs.length s.c1, .slice s.a2 x.unders.length s.c2, .slice s.a3 x.instrs.length s.c3, .slice s.a4 x.accts.length s.c4, .slice s.a5 x.poss.length s.c5, .slice s.a6 x.orders.length s.c6, .slice s.a7 x.avail.length s.c7, .slice s.a8 x.locs.length s.c8])
  have Y2 := Lib.hid (HB.out.keep b4)
  have YO := Lib.hid (OW.out.below b4)
  have YL := Lib.hid (HL.out.trans (b4.mono (by omega)))
  have hz2 := b4.size
  clear b4 HB4 HB HL OW HC HA
  have hg4 : w.heap.size < w1.heap.size := by omega
  generalize (w1.alloc (.cells #[.int .i64 0, .slice none 0 0, .slice none 0 0, .slice none 0 0, .slice none 0 0, .slice none 0 0, .slice none 0 0, .slice none 0 0, .slice none 0 0] 31)).setRow w1.heap.size #[.int .i64 x.day, .slice s.a1 x.curs.length s.c1, .slice s.a2 x.unders.length s.c2, .slice s.a3 x.instrs.length s.c3, .slice s.a4 x.accts.length s.c4, .slice s.a5 x.poss.length s.c5, .slice s.a6 x.orders.length s.c6, .slice s.a7 x.avail.length s.c7, .slice s.a8 x.locs.length s.c8] = w2 at *
  generalize w1.heap.size = g4 at *
  have G := Lib.hid (fun W h => lgood_calls s x us W h HF.out)
  unfold ledV at G
  have c0 : w2.cell? ⟨g4, 0, none⟩ = some (.int .i64 x.day) := Y4.out.cell 0
  have c1 : w2.cell? ⟨g4, 1, none⟩ = some (.slice s.a1 x.curs.length s.c1) := Y4.out.cell 1
  have c2 : w2.cell? ⟨g4, 2, none⟩ = some (.slice s.a2 x.unders.length s.c2) := Y4.out.cell 2
  have c3 : w2.cell? ⟨g4, 3, none⟩ = some (.slice s.a3 x.instrs.length s.c3) := Y4.out.cell 3
  have c4 : w2.cell? ⟨g4, 4, none⟩ = some (.slice s.a4 x.accts.length s.c4) := Y4.out.cell 4
  have c5 : w2.cell? ⟨g4, 5, none⟩ = some (.slice s.a5 x.poss.length s.c5) := Y4.out.cell 5
  have c6 : w2.cell? ⟨g4, 6, none⟩ = some (.slice s.a6 x.orders.length s.c6) := Y4.out.cell 6
  have c7 : w2.cell? ⟨g4, 7, none⟩ = some (.slice s.a7 x.avail.length s.c7) := Y4.out.cell 7
  have c8 : w2.cell? ⟨g4, 8, none⟩ = some (.slice s.a8 x.locs.length s.c8) := Y4.out.cell 8
  by_cases hk : k = 0
  · subst hk
    cases hg : goodF x with
    | false =>
      rw [hg] at G HD
      have HQ : Hid (q = (zeroLed, 43)) := by unfold Hid; rw [HD.out]; exact if_pos ⟨rfl, rfl⟩
      clear hg HD
      go_wp2_with (first | (go_at_call 19; refine (G.out _ YO.out.at_).mono ?_; rintro e w3 ⟨rfl, b3⟩) | ((with_reducible refine wpList_store_box rfl 31 (.tmp 2) (.tmp 18) rfl #[.int .i64 0, .slice none 0 0, .slice none 0 0, .slice none 0 0, .slice none 0 0, .slice none 0 0, .slice none 0 0, .slice none 0 0, .slice none 0 0] (Y2.out.keep b3) ?_ ?_ ?_ ?_ ?_ ?_); (· kernel_rfl); (· rfl); (· simp [Value.oneCell']); (· rfl); (· rfl)))
      refine bodyPost_ret (results_cell_slot (by rfl) _ _ ((Y2.out.keep b3).row _) Tryz.underlying31 rfl (by kernel_rfl) rfl) rfl ⟨zeroS, [], ?_, ?_, ?_⟩
      · rw [HQ.out]; rfl
      · rw [HQ.out]; exact OZ.out _ _
      · exact below_setRow (YL.out.trans (b3.mono (by omega))) (Nat.le_refl _) _
    | true =>
      rw [hg] at G HD
      have HQ : Hid (q = (x, 0)) := by unfold Hid; rw [HD.out]; exact if_neg (by simp)
      clear hg HD
      go_upto_region 4 with (go_at_call 19; refine (G.out _ YO.out.at_).mono ?_; rintro e w3 ⟨rfl, b3⟩)
      have Y4b := Lib.hid (Y4.out.keep b3)
      have Y2b := Lib.hid (Y2.out.keep b3)
      have YOb := Lib.hid (YO.out.below b3)
      have YLb := Lib.hid (YL.out.trans (b3.mono (by omega)))
      clear c0 c1 c2 c3 c4 c5 c6 c7 c8 Y4 Y2 YO YL
      go_wp2_with (first | ((with_reducible refine wpList_load_box rfl 31 (.tmp 4) rfl Y4b.out Tryz.underlying31 ?_ ?_ ?_ ?_); (· rfl); (· kernel_rfl); (· rfl)) | ((with_reducible refine wpList_store_box rfl 31 (.tmp 2) (.tmp 19) rfl #[.int .i64 x.day, .slice s.a1 x.curs.length s.c1, .slice s.a2 x.unders.length s.c2, .slice s.a3 x.instrs.length s.c3, .slice s.a4 x.accts.length s.c4, .slice s.a5 x.poss.length s.c5, .slice s.a6 x.orders.length s.c6, .slice s.a7 x.avail.length s.c7, .slice s.a8 x.locs.length s.c8] Y2b.out ?_ ?_ ?_ ?_ ?_ ?_); (· kernel_rfl); (· rfl); (· simp [Value.oneCell']); (· rfl); (· rfl)))
      refine bodyPost_ret (results_cell_slot (by rfl) _ _ (Y2b.out.row _) Tryz.underlying31 rfl (by kernel_rfl) rfl) rfl ⟨s, us, ?_, ?_, ?_⟩
      · rw [HQ.out]; rfl
      · rw [HQ.out]
        exact (YOb.out.other (grown_row w.heap.size #[.int .i64 x.day, .slice s.a1 x.curs.length s.c1, .slice s.a2 x.unders.length s.c2, .slice s.a3 x.instrs.length s.c3, .slice s.a4 x.accts.length s.c4, .slice s.a5 x.poss.length s.c5, .slice s.a6 x.orders.length s.c6, .slice s.a7 x.avail.length s.c7, .slice s.a8 x.locs.length s.c8]) (by omega)).mono (by omega)
      · exact below_setRow YLb.out (Nat.le_refl _) _
  · have HQ : Hid (q = (x, k)) := by unfold Hid; rw [HD.out]; exact if_neg (fun h => hk h.1)
    have hkb : (k == 0) = false := by simpa using hk
    clear HD hk
    go_upto_region 4 with fail
    clear c0 c1 c2 c3 c4 c5 c6 c7 c8
    go_wp2_with (first | ((with_reducible refine wpList_load_box rfl 31 (.tmp 4) rfl Y4.out Tryz.underlying31 ?_ ?_ ?_ ?_); (· rfl); (· kernel_rfl); (· rfl)) | ((with_reducible refine wpList_store_box rfl 31 (.tmp 2) (.tmp 19) rfl #[.int .i64 x.day, .slice s.a1 x.curs.length s.c1, .slice s.a2 x.unders.length s.c2, .slice s.a3 x.instrs.length s.c3, .slice s.a4 x.accts.length s.c4, .slice s.a5 x.poss.length s.c5, .slice s.a6 x.orders.length s.c6, .slice s.a7 x.avail.length s.c7, .slice s.a8 x.locs.length s.c8] Y2.out ?_ ?_ ?_ ?_ ?_ ?_); (· kernel_rfl); (· rfl); (· simp [Value.oneCell']); (· rfl); (· rfl)))
    refine bodyPost_ret (results_cell_slot (by rfl) _ _ (Y2.out.row _) Tryz.underlying31 rfl (by kernel_rfl) rfl) rfl ⟨s, us, ?_, ?_, ?_⟩
    · rw [HQ.out]; rfl
    · rw [HQ.out]
      exact (YO.out.other (grown_row w.heap.size #[.int .i64 x.day, .slice s.a1 x.curs.length s.c1, .slice s.a2 x.unders.length s.c2, .slice s.a3 x.instrs.length s.c3, .slice s.a4 x.accts.length s.c4, .slice s.a5 x.poss.length s.c5, .slice s.a6 x.orders.length s.c6, .slice s.a7 x.avail.length s.c7, .slice s.a8 x.locs.length s.c8]) (by omega)).mono (by omega)
    · exact below_setRow YL.out (Nat.le_refl _) _
end Go.Proofs.YtocjfjikkdpfdaaGreatDoor.ImgW
