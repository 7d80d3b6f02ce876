/- What readings answer of writings, and the way back; the reading with an error that sticks; what the laws share. -/
import Derived.Test.YtocjfjikkdpfdaaDoorImgD
set_option linter.unusedSimpArgs false
set_option linter.unusedVariables false
namespace Go.Proofs.YtocjfjikkdpfdaaDoor.ImgW
open Go.RowKit Go.Proofs.YtocjfjikkdpfdaaDoor.Bas Go.Proofs.YtocjfjikkdpfdaaDoor.LedM Go.Proofs.YtocjfjikkdpfdaaDoor.LedW

/-- bytes are read as this, whatever stands behind; each beginning of them is short -/
structure Reads {α : Type} (rd : List UInt8 → Except Int (α × List UInt8)) (c : List UInt8) (x : α) : Prop where
  all : ∀ r, rd (c ++ r) = .ok (x, r)
  part : ∀ i, i < c.length → rd (c.take i) = .error 10
theorem reads_thn {α β : Type} {rd : List UInt8 → Except Int (α × List UInt8)} {F : α → List UInt8 → Except Int (β × List UInt8)} {c c' : List UInt8} {x : α} {y : β} (h : Reads rd c x) (k : Reads (F x) c' y) : Reads (fun b => thn (rd b) F) (c ++ c') y := by
  refine ⟨fun r => ?_, fun i hi => ?_⟩
  · show thn (rd (c ++ c' ++ r)) F = _
    rw [List.append_assoc, thn_ok (h.all _)]
    exact k.all r
  · show thn (rd ((c ++ c').take i)) F = _
    by_cases hc : i < c.length
    · rw [List.take_append_of_le_length (by omega), thn_err (h.part i hc)]
    · have e : (c ++ c').take i = c ++ c'.take (i - c.length) := by
        rw [List.take_append, List.take_of_length_le (by omega)]
      rw [e, thn_ok (h.all _)]
      exact k.part _ (by rw [List.length_append] at hi; omega)
theorem reads_end {α : Type} (x : α) : Reads (fun b => .ok (x, b)) [] x := ⟨fun _ => rfl, fun i hi => by simp at hi⟩
theorem valN_enc (x : Int) : valN (encN x) = bitsN x := by
  have hb := bits_lt x
  unfold encN
  simp only [valN, byteN, UInt8.toNat_ofNat']
  generalize bitsN x = a at *
  simp only [Nat.reducePow, Nat.pow_zero, Nat.div_one]
  omega
theorem dec_enc {x : Int} (hx : FixpW.I64 x) (r : List UInt8) : decN (encN x ++ r) = x := by
  unfold decN
  rw [List.take_append_of_le_length (by rw [encN_len]; omega), List.take_of_length_le (by rw [encN_len]; omega), valN_enc]
  obtain ⟨h1, h2⟩ := hx
  unfold bitsN wrap64
  omega
theorem valN_inj : ∀ {a b : List UInt8}, a.length = b.length → valN a = valN b → a = b
  | [], [], _, _ => rfl
  | x :: a, y :: b, hl, h => by
    unfold valN at h
    have h1 := x.toNat_lt
    have h2 := y.toNat_lt
    have e1 : x.toNat = y.toNat := by omega
    have e2 : valN a = valN b := by omega
    rw [UInt8.toNat_inj.1 e1, valN_inj (by simpa using hl) e2]
  | [], _ :: _, hl, _ => by simp at hl
  | _ :: _, [], hl, _ => by simp at hl
theorem enc_dec {b : List UInt8} (h : 8 ≤ b.length) : encN (decN b) = b.take 8 := by
  refine valN_inj (by rw [encN_len, List.length_take]; omega) ?_
  rw [valN_enc]
  have hv := valN_lt (b.take 8)
  rw [List.length_take, Nat.min_eq_left h] at hv
  unfold decN bitsN wrap64
  have : (256 : Nat) ^ 8 = 18446744073709551616 := by decide
  omega
theorem reads_num {x : Int} (hx : FixpW.I64 x) : Reads rdN (encN x) x := by
  refine ⟨fun r => ?_, fun i hi => ?_⟩
  · unfold rdN
    rw [if_neg (by rw [List.length_append, encN_len]; omega), dec_enc hx, List.drop_append_of_le_length (by rw [encN_len]; omega), List.drop_of_length_le (by rw [encN_len]; omega)]
    rfl
  · rw [encN_len] at hi
    exact if_pos (by rw [List.length_take, encN_len]; omega)
theorem rdC_ok {m : Int} {bs : List UInt8} {n : Int} {r : List UInt8} (h : rdN bs = .ok (n, r)) (h1 : 0 ≤ n) (h2 : n ≤ m) : rdC m bs = .ok (n, r) := by
  unfold rdC
  rw [h]
  exact if_neg (by omega)
theorem rdC_err {m : Int} {bs : List UInt8} {k : Int} (h : rdN bs = .error k) : rdC m bs = .error k := by
  unfold rdC
  rw [h]
theorem rdB_ok {bs : List UInt8} {n : Int} {r : List UInt8} (h : rdC 1 bs = .ok (n, r)) : rdB bs = .ok (decide (n = 1), r) := by
  unfold rdB
  rw [h]
theorem rdB_err {bs : List UInt8} {k : Int} (h : rdC 1 bs = .error k) : rdB bs = .error k := by
  unfold rdB
  rw [h]
theorem rdT_ok {m : Int} {bs : List UInt8} {n : Int} {r : List UInt8} (h : rdC m bs = .ok (n, r)) (h1 : n ≤ r.length) : rdT m bs = .ok (r.take n.toNat, r.drop n.toNat) := by
  unfold rdT
  rw [h]
  exact if_neg (by omega)
theorem rdT_short {m : Int} {bs : List UInt8} {n : Int} {r : List UInt8} (h : rdC m bs = .ok (n, r)) (h1 : (r.length : Int) < n) : rdT m bs = .error 10 := by
  unfold rdT
  rw [h]
  exact if_pos h1
theorem rdT_err {m : Int} {bs : List UInt8} {k : Int} (h : rdC m bs = .error k) : rdT m bs = .error k := by
  unfold rdT
  rw [h]
theorem reads_count {x m : Int} (h1 : 0 ≤ x) (h2 : x ≤ m) (hm : m ≤ 1000000) : Reads (rdC m) (encN x) x := by
  have h := reads_num (x := x) ⟨by omega, by omega⟩
  exact ⟨fun r => rdC_ok (h.all r) h1 h2, fun i hi => rdC_err (h.part i hi)⟩
theorem reads_bit (b : Bool) : Reads rdB (encN (bitF b)) b := by
  have h1 : 0 ≤ bitF b ∧ bitF b ≤ 1 := by cases b <;> simp [bitF]
  have h2 : decide (bitF b = 1) = b := by cases b <;> simp [bitF]
  have h := reads_count (x := bitF b) (m := 1) h1.1 h1.2 (by decide)
  refine ⟨fun r => (rdB_ok (h.all r)).trans (by rw [h2]), fun i hi => rdB_err (h.part i hi)⟩
theorem reads_text {s : List UInt8} (h : s.length ≤ 8) : Reads (rdT 8) (encT s) s := by
  have hc := reads_count (x := (s.length : Int)) (m := 8) (by omega) (by omega) (by decide)
  refine ⟨fun r => ?_, fun i hi => ?_⟩
  · have e : encT s ++ r = encN (s.length : Int) ++ (s ++ r) := by unfold encT; rw [List.append_assoc]
    have h1 := rdT_ok (hc.all (s ++ r)) (by rw [List.length_append]; omega)
    rw [e, h1]
    simp
  · unfold encT at hi ⊢
    by_cases hi8 : i < (encN (s.length : Int)).length
    · rw [List.take_append_of_le_length (by omega)]
      exact rdT_err (hc.part i hi8)
    · have e : (encN (s.length : Int) ++ s).take i = encN (s.length : Int) ++ s.take (i - (encN (s.length : Int)).length) := by
        rw [List.take_append, List.take_of_length_le (by omega)]
      rw [e]
      rw [List.length_append] at hi
      exact rdT_short (hc.all _) (by rw [List.length_take]; omega)
theorem reads_cond {α : Type} {p : Prop} [Decidable p] {k : Int} {x : α} (h : ¬p) : Reads (fun b => if p then .error k else .ok (x, b)) [] x := ⟨fun r => if_neg h, fun i hi => by simp at hi⟩
theorem encE_bytes (x : EvR) : encE x = encN x.kind ++ (encN x.acct ++ (encN x.id ++ (encN x.new ++ (encN x.instr ++ (encN x.under ++ (encN x.cur ++ (encN x.qty ++ (encN x.price ++ (encN x.amount ++ (encN (bitF x.call) ++ (encT x.name ++ []))))))))))) := by
  unfold encE encs
  simp
theorem reads_ev {x : EvR} (f : EvFit x) (h1 : 1 ≤ x.kind) (h2 : x.kind ≤ 16) (hn : x.name.length ≤ 8) : Reads rdE (encE x) x := by
  obtain ⟨a0, a1, a2, a3, a4, a5, a6, a7, a8, a9⟩ := f.nums
  rw [encE_bytes]
  unfold rdE
  refine reads_thn (reads_count (by omega) h2 (by decide)) ?_
  refine reads_thn (reads_num a1) ?_
  refine reads_thn (reads_num a2) ?_
  refine reads_thn (reads_num a3) ?_
  refine reads_thn (reads_num a4) ?_
  refine reads_thn (reads_num a5) ?_
  refine reads_thn (reads_num a6) ?_
  refine reads_thn (reads_num a7) ?_
  refine reads_thn (reads_num a8) ?_
  refine reads_thn (reads_num a9) ?_
  refine reads_thn (reads_bit x.call) ?_
  refine reads_thn (reads_text hn) ?_
  exact reads_cond (by omega)
/-- what is read is written so -/
theorem thn_back {α β : Type} {m : Except Int (α × List UInt8)} {F : α → List UInt8 → Except Int β} {y : β} (h : thn m F = .ok y) : ∃ x r, m = .ok (x, r) ∧ F x r = .ok y := by
  cases m with
  | error k => cases h
  | ok p => exact ⟨p.1, p.2, rfl, h⟩
theorem num_back {b r : List UInt8} {x : Int} (h : rdN b = .ok (x, r)) : b = encN x ++ r := by
  unfold rdN at h
  split at h
  · cases h
  · next hl =>
    simp only [Except.ok.injEq, Prod.mk.injEq] at h
    obtain ⟨rfl, rfl⟩ := h
    rw [enc_dec (by omega), List.take_append_drop]
theorem count_back {b r : List UInt8} {x m : Int} (h : rdC m b = .ok (x, r)) : b = encN x ++ r ∧ 0 ≤ x ∧ x ≤ m := by
  unfold rdC at h
  split at h
  · cases h
  · next n r' hn =>
    split at h
    · cases h
    · simp only [Except.ok.injEq, Prod.mk.injEq] at h
      obtain ⟨rfl, rfl⟩ := h
      exact ⟨num_back hn, by omega, by omega⟩
theorem bit_back {b r : List UInt8} {x : Bool} (h : rdB b = .ok (x, r)) : b = encN (bitF x) ++ r := by
  unfold rdB at h
  split at h
  · cases h
  · next n r' hn =>
    simp only [Except.ok.injEq, Prod.mk.injEq] at h
    obtain ⟨rfl, rfl⟩ := h
    obtain ⟨e, h1, h2⟩ := count_back hn
    rw [e]
    have : n = 0 ∨ n = 1 := by omega
    rcases this with rfl | rfl <;> rfl
theorem text_back {b r s : List UInt8} {m : Int} (h : rdT m b = .ok (s, r)) : b = encT s ++ r ∧ (s.length : Int) ≤ m := by
  unfold rdT at h
  split at h
  · cases h
  · next n r' hn =>
    obtain ⟨e, h1, h2⟩ := count_back hn
    split at h
    · cases h
    · next hl =>
      simp only [Except.ok.injEq, Prod.mk.injEq] at h
      obtain ⟨rfl, rfl⟩ := h
      have hlen : ((r'.take n.toNat).length : Int) = n := by rw [List.length_take]; omega
      refine ⟨?_, by omega⟩
      unfold encT
      rw [hlen, List.append_assoc, List.take_append_drop, e]
theorem ev_back {b r : List UInt8} {x : EvR} (h : rdE b = .ok (x, r)) : b = encE x ++ r ∧ EvFit x ∧ 1 ≤ x.kind ∧ x.kind ≤ 16 ∧ x.name.length ≤ 8 := by
  unfold rdE at h
  obtain ⟨x0, r0, h0, h⟩ := thn_back h
  obtain ⟨x1, r1, h1, h⟩ := thn_back h
  obtain ⟨x2, r2, h2, h⟩ := thn_back h
  obtain ⟨x3, r3, h3, h⟩ := thn_back h
  obtain ⟨x4, r4, h4, h⟩ := thn_back h
  obtain ⟨x5, r5, h5, h⟩ := thn_back h
  obtain ⟨x6, r6, h6, h⟩ := thn_back h
  obtain ⟨x7, r7, h7, h⟩ := thn_back h
  obtain ⟨x8, r8, h8, h⟩ := thn_back h
  obtain ⟨x9, r9, h9, h⟩ := thn_back h
  obtain ⟨x10, r10, h10, h⟩ := thn_back h
  obtain ⟨x11, r11, h11, h⟩ := thn_back h
  split at h
  · cases h
  · next hk =>
    simp only [Except.ok.injEq, Prod.mk.injEq] at h
    obtain ⟨rfl, rfl⟩ := h
    obtain ⟨e0, p0, q0⟩ := count_back h0
    obtain ⟨e11, hn⟩ := text_back h11
    have i1 := rdN_i64 h1
    have i2 := rdN_i64 h2
    have i3 := rdN_i64 h3
    have i4 := rdN_i64 h4
    have i5 := rdN_i64 h5
    have i6 := rdN_i64 h6
    have i7 := rdN_i64 h7
    have i8 := rdN_i64 h8
    have i9 := rdN_i64 h9
    refine ⟨?_, ⟨by show x11.length ≤ _; omega, ⟨by show (-9223372036854775808 : Int) ≤ x0; omega, by show x0 ≤ 9223372036854775807; omega⟩, i1, i2, i3, i4, i5, i6, i7, i8, i9⟩, by show 1 ≤ x0; omega, q0, by show x11.length ≤ 8; omega⟩
    rw [encE_bytes, e0, num_back h1, num_back h2, num_back h3, num_back h4, num_back h5, num_back h6, num_back h7, num_back h8, num_back h9, bit_back h10, e11]
    simp only [List.append_assoc, List.append_nil]
/-- what is wrong with bytes: they are short, or of no form -/
def Errs {α : Type} (rd : List UInt8 → Except Int α) : Prop := ∀ b k, rd b = .error k → k = 10 ∨ k = 11
theorem errs_thn {α β : Type} {rd : List UInt8 → Except Int (α × List UInt8)} {F : α → List UInt8 → Except Int β} (h : Errs rd) (k : ∀ x, Errs (F x)) : Errs (fun b => thn (rd b) F) := fun b e he => by
  have he' : thn (rd b) F = .error e := he
  cases hr : rd b with
  | error j =>
    rw [thn_err hr] at he'
    cases he'
    exact h b _ hr
  | ok p =>
    obtain ⟨x, r⟩ := p
    rw [thn_ok hr] at he'
    exact k x r e he'
theorem errs_ok {β : Type} (f : List UInt8 → β) : Errs (fun b => (.ok (f b) : Except Int β)) := fun b k h => by cases h
theorem errs_num : Errs rdN := fun b k h => by
  unfold rdN at h
  split at h
  · cases h; exact .inl rfl
  · cases h
theorem errs_count (m : Int) : Errs (rdC m) := fun b k h => by
  unfold rdC at h
  split at h
  · next j hj =>
    cases h
    exact errs_num _ _ hj
  · split at h
    · cases h; exact .inr rfl
    · cases h
theorem errs_bit : Errs rdB := fun b k h => by
  unfold rdB at h
  split at h
  · next j hj =>
    cases h
    exact errs_count 1 _ _ hj
  · cases h
theorem errs_text (m : Int) : Errs (rdT m) := fun b k h => by
  unfold rdT at h
  split at h
  · next j hj =>
    cases h
    exact errs_count m _ _ hj
  · split at h
    · cases h; exact .inl rfl
    · cases h
theorem errs_cond {α : Type} {p : Prop} [Decidable p] {rd : List UInt8 → Except Int α} (h : Errs rd) : Errs (fun b => if p then .error 11 else rd b) := fun b k hk => by
  by_cases hp : p
  · simp only [if_pos hp] at hk
    cases hk; exact .inr rfl
  · simp only [if_neg hp] at hk
    exact h b k hk
theorem errs_ev (b : List UInt8) (k : Int) (h : rdE b = .error k) : k = 10 ∨ k = 11 := by
  unfold rdE at h
  exact (errs_thn (errs_count 16) fun x0 => errs_thn errs_num fun x1 => errs_thn errs_num fun x2 => errs_thn errs_num fun x3 => errs_thn errs_num fun x4 => errs_thn errs_num fun x5 => errs_thn errs_num fun x6 => errs_thn errs_num fun x7 => errs_thn errs_num fun x8 => errs_thn errs_num fun x9 => errs_thn errs_bit fun x10 => errs_thn (errs_text 8) fun x11 => errs_cond (errs_ok (fun b => ((⟨x0, x1, x2, x3, x4, x5, x6, x7, x8, x9, x10, x11⟩ : EvR), b)))) b k h
/-- readings of all bytes -/
theorem readE_err {bs : List UInt8} {k : Int} (h : rdE bs = .error k) : readE bs = (zeroE, k) := by
  unfold readE
  rw [h]
theorem readE_tail {bs : List UInt8} {x : EvR} {r : List UInt8} (h : rdE bs = .ok (x, r)) (hr : 0 < r.length) : readE bs = (zeroE, 13) := by
  unfold readE
  rw [h]
  exact if_pos hr
theorem readE_ok {bs : List UInt8} {x : EvR} (h : rdE bs = .ok (x, [])) : readE bs = (x, 0) := by
  unfold readE
  rw [h]
  exact if_neg (by simp)
theorem readE_enc {x : EvR} (f : EvFit x) (h : eventF x = (encE x, 0)) : readE (encE x) = (x, 0) ∧ (∀ i, i < (encE x).length → readE ((encE x).take i) = (zeroE, 10)) ∧ readE (encE x ++ [0]) = (zeroE, 13) := by
  unfold eventF at h
  split at h
  · simp at h
  · split at h
    · simp at h
    · have R := reads_ev f (by omega) (by omega) (by omega)
      refine ⟨?_, fun i hi => readE_err (R.part i hi), readE_tail (R.all [0]) (by simp)⟩
      have := R.all []
      rw [List.append_nil] at this
      exact readE_ok this
theorem readE_back {b : List UInt8} {x : EvR} (h : readE b = (x, 0)) : eventF x = (b, 0) ∧ x.name.length ≤ 140737488351232 := by
  unfold readE at h
  split at h
  · next k hk =>
    simp only [Prod.mk.injEq] at h
    obtain ⟨rfl, rfl⟩ := h
    exact absurd (errs_ev _ _ hk) (by decide)
  · next y r hy =>
    split at h
    · simp at h
    · next hr =>
      simp only [Prod.mk.injEq, and_true] at h
      subst h
      obtain ⟨e, f, h1, h2, h3⟩ := ev_back hy
      have hr0 : r = [] := by
        cases r with
        | nil => rfl
        | cons a b => simp at hr
      subst hr0
      rw [List.append_nil] at e
      refine ⟨?_, f.name⟩
      unfold eventF
      rw [if_neg (by omega), if_neg (by omega), e]
theorem readE_zero {b : List UInt8} (h : (readE b).2 ≠ 0) : (readE b).1 = zeroE := by
  unfold readE at *
  split
  · rfl
  · next y r hy =>
    rw [hy] at h
    split
    · rfl
    · next hr => simp [hr] at h
end Go.Proofs.YtocjfjikkdpfdaaDoor.ImgW
namespace Go.Proofs.YtocjfjikkdpfdaaDoor.ImgW
open Go.RowKit Go.Proofs.YtocjfjikkdpfdaaDoor.Bas Go.Proofs.YtocjfjikkdpfdaaDoor.LedM Go.Proofs.YtocjfjikkdpfdaaDoor.LedW

/-- so many, one behind the other -/
def rdPush {σ α : Type} (rd : List UInt8 → Except Int (α × List UInt8)) (push : σ → α → σ) : Nat → σ → List UInt8 → Except Int (σ × List UInt8)
  | 0, s, b => .ok (s, b)
  | n + 1, s, b => thn (rd b) fun x b => rdPush rd push n (push s x) b
def rdCur (b : List UInt8) : Except Int ((Int × Int) × List UInt8) := thn (rdN b) fun x0 b => thn (rdN b) fun x1 b => .ok ((x0, x1), b)
def rdUnd (b : List UInt8) : Except Int (Und × List UInt8) := thn (rdT 8 b) fun x0 b => thn (rdN b) fun x1 b => thn (rdN b) fun x2 b => thn (rdN b) fun x3 b => .ok (⟨x0, x1, x2, x3⟩, b)
def rdIns (b : List UInt8) : Except Int ((Ins × Int) × List UInt8) := thn (rdN b) fun x0 b => thn (rdN b) fun x1 b => thn (rdN b) fun x2 b => thn (rdN b) fun x3 b => thn (rdN b) fun x4 b => thn (rdB b) fun x5 b => thn (rdN b) fun x6 b => thn (rdN b) fun x7 b => .ok ((⟨x0, x1, x2, x3, x4, x5, x6⟩, x7), b)
def addCash (a : Acc) (x : Int) : Acc := { a with cash := a.cash ++ [x] }
def rdAcct (n : Nat) (b : List UInt8) : Except Int (Acc × List UInt8) := thn (rdN b) fun x0 b => thn (rdB b) fun x1 b => thn (rdN b) fun x2 b => rdPush rdN addCash n ⟨x0, [], x1, x2⟩ b
def rdTri (b : List UInt8) : Except Int (Tri × List UInt8) := thn (rdN b) fun x0 b => thn (rdN b) fun x1 b => thn (rdN b) fun x2 b => .ok ((x0, x1, x2), b)
def rdOrd (b : List UInt8) : Except Int (Ord × List UInt8) := thn (rdN b) fun x0 b => thn (rdN b) fun x1 b => thn (rdN b) fun x2 b => thn (rdN b) fun x3 b => thn (rdN b) fun x4 b => .ok (⟨x0, x1, x2, x3, x4⟩, b)
def addCur (l : Led) (x : Int × Int) : Led := { l with curs := l.curs ++ [x] }
def addUnd (l : Led) (x : Und) : Led := { l with unders := l.unders ++ [x] }
def addIns (l : Led) (x : Ins × Int) : Led := { l with instrs := l.instrs ++ [x.1], avail := l.avail ++ [x.2] }
def addAcct (l : Led) (x : Acc) : Led := { l with accts := l.accts ++ [x] }
def addPos (l : Led) (x : Tri) : Led := { l with poss := l.poss ++ [x] }
def addOrd (l : Led) (x : Ord) : Led := { l with orders := l.orders ++ [x] }
def addLoc (l : Led) (x : Tri) : Led := { l with locs := l.locs ++ [x] }
def dayL (d : Int) : Led := ⟨d, [], [], [], [], [], [], [], []⟩
/-- the lists, with so many of each -/
def rdLists (n0 n1 n2 n3 n4 n5 n6 : Nat) (l : Led) (b : List UInt8) : Except Int (Led × List UInt8) :=
  thn (rdPush rdCur addCur n0 l b) fun l b => thn (rdPush rdUnd addUnd n1 l b) fun l b => thn (rdPush rdIns addIns n2 l b) fun l b => thn (rdPush (rdAcct n0) addAcct n3 l b) fun l b => thn (rdPush rdTri addPos n4 l b) fun l b => thn (rdPush rdOrd addOrd n5 l b) fun l b => rdPush rdTri addLoc n6 l b
/-- the ledger of bytes, and what is left of them -/
def rdL (b : List UInt8) : Except Int (Led × List UInt8) :=
  thn (rdN b) fun x0 b => thn (rdC 4 b) fun n0 b => thn (rdC 6 b) fun n1 b => thn (rdC 12 b) fun n2 b => thn (rdC 16 b) fun n3 b => thn (rdC 64 b) fun n4 b => thn (rdC 32 b) fun n5 b => thn (rdC 32 b) fun n6 b =>
    rdLists n0.toNat n1.toNat n2.toNat n3.toNat n4.toNat n5.toNat n6.toNat (dayL x0) b

theorem fold_cur : ∀ (xs : List (Int × Int)) (l : Led), xs.foldl addCur l = { l with curs := l.curs ++ xs }
  | [], l => by simp
  | x :: xs, l => by rw [List.foldl_cons, fold_cur xs]; simp [addCur]
theorem fold_und : ∀ (xs : List Und) (l : Led), xs.foldl addUnd l = { l with unders := l.unders ++ xs }
  | [], l => by simp
  | x :: xs, l => by rw [List.foldl_cons, fold_und xs]; simp [addUnd]
theorem fold_ins : ∀ (xs : List (Ins × Int)) (l : Led), xs.foldl addIns l = { l with instrs := l.instrs ++ xs.map (·.1), avail := l.avail ++ xs.map (·.2) }
  | [], l => by simp
  | x :: xs, l => by rw [List.foldl_cons, fold_ins xs]; simp [addIns]
theorem fold_acct : ∀ (xs : List Acc) (l : Led), xs.foldl addAcct l = { l with accts := l.accts ++ xs }
  | [], l => by simp
  | x :: xs, l => by rw [List.foldl_cons, fold_acct xs]; simp [addAcct]
theorem fold_pos : ∀ (xs : List Tri) (l : Led), xs.foldl addPos l = { l with poss := l.poss ++ xs }
  | [], l => by simp
  | x :: xs, l => by rw [List.foldl_cons, fold_pos xs]; simp [addPos]
theorem fold_ord : ∀ (xs : List Ord) (l : Led), xs.foldl addOrd l = { l with orders := l.orders ++ xs }
  | [], l => by simp
  | x :: xs, l => by rw [List.foldl_cons, fold_ord xs]; simp [addOrd]
theorem fold_loc : ∀ (xs : List Tri) (l : Led), xs.foldl addLoc l = { l with locs := l.locs ++ xs }
  | [], l => by simp
  | x :: xs, l => by rw [List.foldl_cons, fold_loc xs]; simp [addLoc]
theorem fold_cash : ∀ (xs : List Int) (a : Acc), xs.foldl addCash a = { a with cash := a.cash ++ xs }
  | [], a => by simp
  | x :: xs, a => by rw [List.foldl_cons, fold_cash xs]; simp [addCash]

theorem reads_push {σ α : Type} {rd : List UInt8 → Except Int (α × List UInt8)} {push : σ → α → σ} {f : α → List UInt8} : ∀ (xs : List α) (s : σ), (∀ x ∈ xs, Reads rd (f x) x) → Reads (rdPush rd push xs.length s) (xs.flatMap f) (xs.foldl push s)
  | [], s, _ => reads_end s
  | x :: xs, s, h => by
    rw [List.flatMap_cons]
    exact reads_thn (h x List.mem_cons_self) (reads_push xs (push s x) (fun y hy => h y (List.mem_cons_of_mem _ hy)))
theorem reads_cur {x : Int × Int} (h : FixpW.I64 x.1 ∧ FixpW.I64 x.2) : Reads rdCur (encC x) x := by
  rw [show encC x = encN x.1 ++ (encN x.2 ++ []) by unfold encC encs; simp]
  unfold rdCur
  exact reads_thn (reads_num h.1) (reads_thn (reads_num h.2) (reads_end _))
theorem reads_und {x : Und} (h0 : x.name.length ≤ 8) (h1 : FixpW.I64 x.cur) (h2 : FixpW.I64 x.price) (h3 : FixpW.I64 x.vol) : Reads rdUnd (encU x) x := by
  rw [show encU x = encT x.name ++ (encN x.cur ++ (encN x.price ++ (encN x.vol ++ []))) by unfold encU encs; simp]
  unfold rdUnd
  exact reads_thn (reads_text h0) (reads_thn (reads_num h1) (reads_thn (reads_num h2) (reads_thn (reads_num h3) (reads_end _))))
theorem reads_ins {x : Ins × Int} (h : (FixpW.I64 x.1.kind ∧ FixpW.I64 x.1.under ∧ FixpW.I64 x.1.mult ∧ FixpW.I64 x.1.strike ∧ FixpW.I64 x.1.expiry ∧ FixpW.I64 x.1.mark) ∧ FixpW.I64 x.2) : Reads rdIns (encI x) x := by
  obtain ⟨⟨h0, h1, h2, h3, h4, h6⟩, h7⟩ := h
  rw [show encI x = encN x.1.kind ++ (encN x.1.under ++ (encN x.1.mult ++ (encN x.1.strike ++ (encN x.1.expiry ++ (encN (bitF x.1.call) ++ (encN x.1.mark ++ (encN x.2 ++ []))))))) by unfold encI encs; simp]
  unfold rdIns
  exact reads_thn (reads_num h0) (reads_thn (reads_num h1) (reads_thn (reads_num h2) (reads_thn (reads_num h3) (reads_thn (reads_num h4) (reads_thn (reads_bit _) (reads_thn (reads_num h6) (reads_thn (reads_num h7) (reads_end _))))))))
theorem reads_acct {x : Acc} {n : Nat} (h0 : FixpW.I64 x.parent) (h1 : FixpW.I64 x.last) (h2 : ∀ z ∈ x.cash, FixpW.I64 z) (hn : x.cash.length = n) : Reads (rdAcct n) (encA x) x := by
  subst hn
  rw [show encA x = encN x.parent ++ (encN (bitF x.flag) ++ (encN x.last ++ x.cash.flatMap encN)) by unfold encA encs; simp]
  unfold rdAcct
  refine reads_thn (reads_num h0) (reads_thn (reads_bit _) (reads_thn (reads_num h1) ?_))
  have h := reads_push (push := addCash) (f := encN) x.cash ⟨x.parent, [], x.flag, x.last⟩ (fun z hz => reads_num (h2 z hz))
  rw [fold_cash] at h
  simpa using h
theorem reads_tri {x : Tri} (h : FixpW.I64 x.1 ∧ FixpW.I64 x.2.1 ∧ FixpW.I64 x.2.2) : Reads rdTri (encP x) x := by
  rw [show encP x = encN x.1 ++ (encN x.2.1 ++ (encN x.2.2 ++ [])) by unfold encP encs; simp]
  unfold rdTri
  exact reads_thn (reads_num h.1) (reads_thn (reads_num h.2.1) (reads_thn (reads_num h.2.2) (reads_end _)))
theorem reads_ord {x : Ord} (h : FixpW.I64 x.acct ∧ FixpW.I64 x.id ∧ FixpW.I64 x.instr ∧ FixpW.I64 x.qty ∧ FixpW.I64 x.price) : Reads rdOrd (encO x) x := by
  obtain ⟨h0, h1, h2, h3, h4⟩ := h
  rw [show encO x = encN x.acct ++ (encN x.id ++ (encN x.instr ++ (encN x.qty ++ (encN x.price ++ [])))) by unfold encO encs; simp]
  unfold rdOrd
  exact reads_thn (reads_num h0) (reads_thn (reads_num h1) (reads_thn (reads_num h2) (reads_thn (reads_num h3) (reads_thn (reads_num h4) (reads_end _)))))
theorem good_sizes {l : Led} (h : goodF l = true) : l.curs.length ≤ 4 ∧ l.unders.length ≤ 6 ∧ l.instrs.length ≤ 12 ∧ l.accts.length ≤ 16 ∧ l.poss.length ≤ 64 ∧ l.orders.length ≤ 32 ∧ l.locs.length ≤ 32 := by
  unfold goodF at h
  simp only [Bool.and_eq_true] at h
  obtain ⟨_, h2, h3, h4, h5, h6, _⟩ := h
  unfold thingsF at h2
  simp only [Bool.and_eq_true, decide_eq_true_eq] at h2
  unfold accountsF at h3
  rw [Bool.and_eq_true, decide_eq_true_eq] at h3
  unfold possF at h4
  simp only [Bool.and_eq_true, decide_eq_true_eq] at h4
  unfold ordersF at h5
  simp only [Bool.and_eq_true, decide_eq_true_eq] at h5
  unfold locsF at h6
  simp only [Bool.and_eq_true, decide_eq_true_eq] at h6
  have h7 : (parents l).length ≤ 16 := by
    rcases TreeM.checkF_cases (parents l) with ⟨_, ok⟩ | ⟨h0 | h0, _⟩
    · exact ok.2.1
    · rw [h3.1] at h0; exact absurd h0 (by decide)
    · rw [h3.1] at h0; exact absurd h0 (by decide)
  unfold parents at h7
  rw [List.length_map] at h7
  obtain ⟨⟨_, a1, a2, a3⟩, _⟩ := h2
  exact ⟨a1, a2, a3, h7, h4.1.1, h5.1.1, h6.1.1.1.2⟩
theorem encL_bytes (l : Led) : encL l = encN l.day ++ (encN l.curs.length ++ (encN l.unders.length ++ (encN l.instrs.length ++ (encN l.accts.length ++ (encN l.poss.length ++ (encN l.orders.length ++ (encN l.locs.length ++ (l.curs.flatMap encC ++ (l.unders.flatMap encU ++ ((l.instrs.zip l.avail).flatMap encI ++ (l.accts.flatMap encA ++ (l.poss.flatMap encP ++ (l.orders.flatMap encO ++ l.locs.flatMap encP))))))))))))) := by
  unfold encL headL encs
  simp
theorem reads_led {l : Led} (f : LedFit l) (g : goodF l = true) : Reads rdL (encL l) l := by
  obtain ⟨n0, n1, n2, n3, n4, n5, n6⟩ := good_sizes g
  have hv : l.instrs.length = l.avail.length := (good_parts g).2.2.2.symm
  have hzl : (l.instrs.zip l.avail).length = l.instrs.length := by rw [List.length_zip]; omega
  have hz1 : (l.instrs.zip l.avail).map (·.1) = l.instrs := List.map_fst_zip (by omega)
  have hz2 : (l.instrs.zip l.avail).map (·.2) = l.avail := List.map_snd_zip (by omega)
  rw [encL_bytes]
  unfold rdL
  refine reads_thn (reads_num f.day) ?_
  refine reads_thn (reads_count (by omega) (by omega) (by decide)) ?_
  refine reads_thn (reads_count (by omega) (by omega) (by decide)) ?_
  refine reads_thn (reads_count (by omega) (by omega) (by decide)) ?_
  refine reads_thn (reads_count (by omega) (by omega) (by decide)) ?_
  refine reads_thn (reads_count (by omega) (by omega) (by decide)) ?_
  refine reads_thn (reads_count (by omega) (by omega) (by decide)) ?_
  refine reads_thn (reads_count (by omega) (by omega) (by decide)) ?_
  simp only [Int.toNat_natCast]
  unfold rdLists
  have r0 := reads_push (push := addCur) l.curs (dayL l.day) (fun x hx => reads_cur (f.curs x hx))
  rw [fold_cur] at r0
  refine reads_thn r0 ?_
  have r1 := reads_push (push := addUnd) l.unders { dayL l.day with curs := (dayL l.day).curs ++ l.curs } (fun x hx => reads_und (good_name g x hx) (f.unders x hx).2.1 (f.unders x hx).2.2.1 (f.unders x hx).2.2.2)
  rw [fold_und] at r1
  refine reads_thn r1 ?_
  have r2 := reads_push (push := addIns) (l.instrs.zip l.avail) { dayL l.day with curs := (dayL l.day).curs ++ l.curs, unders := (dayL l.day).unders ++ l.unders } (fun x hx => reads_ins ⟨f.instrs x.1 (List.of_mem_zip hx).1, f.avail x.2 (List.of_mem_zip hx).2⟩)
  rw [fold_ins, hzl, hz1, hz2] at r2
  refine reads_thn r2 ?_
  have r3 := reads_push (push := addAcct) l.accts { dayL l.day with curs := (dayL l.day).curs ++ l.curs, unders := (dayL l.day).unders ++ l.unders, instrs := (dayL l.day).instrs ++ l.instrs, avail := (dayL l.day).avail ++ l.avail } (fun x hx => reads_acct (f.accts x hx).1 (f.accts x hx).2.1 (f.accts x hx).2.2.1 (good_cashLen g x hx))
  rw [fold_acct] at r3
  refine reads_thn r3 ?_
  have r4 := reads_push (push := addPos) l.poss { dayL l.day with curs := (dayL l.day).curs ++ l.curs, unders := (dayL l.day).unders ++ l.unders, instrs := (dayL l.day).instrs ++ l.instrs, avail := (dayL l.day).avail ++ l.avail, accts := (dayL l.day).accts ++ l.accts } (fun x hx => reads_tri (f.poss x hx))
  rw [fold_pos] at r4
  refine reads_thn r4 ?_
  have r5 := reads_push (push := addOrd) l.orders { dayL l.day with curs := (dayL l.day).curs ++ l.curs, unders := (dayL l.day).unders ++ l.unders, instrs := (dayL l.day).instrs ++ l.instrs, avail := (dayL l.day).avail ++ l.avail, accts := (dayL l.day).accts ++ l.accts, poss := (dayL l.day).poss ++ l.poss } (fun x hx => reads_ord (f.orders x hx))
  rw [fold_ord] at r5
  refine reads_thn r5 ?_
  have r6 := reads_push (push := addLoc) l.locs { dayL l.day with curs := (dayL l.day).curs ++ l.curs, unders := (dayL l.day).unders ++ l.unders, instrs := (dayL l.day).instrs ++ l.instrs, avail := (dayL l.day).avail ++ l.avail, accts := (dayL l.day).accts ++ l.accts, poss := (dayL l.day).poss ++ l.poss, orders := (dayL l.day).orders ++ l.orders } (fun x hx => reads_tri (f.locs x hx))
  rw [fold_loc] at r6
  exact r6

/-- the way back -/
theorem push_back {σ α : Type} {rd : List UInt8 → Except Int (α × List UInt8)} {push : σ → α → σ} {f : α → List UInt8} {ok : α → Prop} (hb : ∀ b x r, rd b = .ok (x, r) → b = f x ++ r ∧ ok x) :
    ∀ (n : Nat) (s s' : σ) (b r : List UInt8), rdPush rd push n s b = .ok (s', r) → ∃ xs : List α, xs.length = n ∧ s' = xs.foldl push s ∧ b = xs.flatMap f ++ r ∧ ∀ x ∈ xs, ok x
  | 0, s, s', b, r, h => by
    unfold rdPush at h
    simp only [Except.ok.injEq, Prod.mk.injEq] at h
    obtain ⟨rfl, rfl⟩ := h
    exact ⟨[], rfl, rfl, rfl, by simp⟩
  | n + 1, s, s', b, r, h => by
    unfold rdPush at h
    obtain ⟨x, r1, h1, h2⟩ := thn_back h
    obtain ⟨e1, o1⟩ := hb _ _ _ h1
    obtain ⟨xs, l1, e2, e3, o2⟩ := push_back hb n _ _ _ _ h2
    refine ⟨x :: xs, by simp [l1], e2, by rw [List.flatMap_cons, List.append_assoc, ← e3, e1], ?_⟩
    intro y hy
    rcases List.mem_cons.1 hy with rfl | hy
    · exact o1
    · exact o2 y hy
theorem cur_back {b r : List UInt8} {x : Int × Int} (h : rdCur b = .ok (x, r)) : b = encC x ++ r ∧ FixpW.I64 x.1 ∧ FixpW.I64 x.2 := by
  unfold rdCur at h
  obtain ⟨x0, r0, h0, h⟩ := thn_back h
  obtain ⟨x1, r1, h1, h⟩ := thn_back h
  simp only [Except.ok.injEq, Prod.mk.injEq] at h
  obtain ⟨rfl, rfl⟩ := h
  refine ⟨?_, rdN_i64 h0, rdN_i64 h1⟩
  rw [num_back h0, num_back h1]
  unfold encC encs
  simp
theorem und_back {b r : List UInt8} {x : Und} (h : rdUnd b = .ok (x, r)) : b = encU x ++ r ∧ x.name.length ≤ 140737488351232 ∧ FixpW.I64 x.cur ∧ FixpW.I64 x.price ∧ FixpW.I64 x.vol := by
  unfold rdUnd at h
  obtain ⟨x0, r0, h0, h⟩ := thn_back h
  obtain ⟨x1, r1, h1, h⟩ := thn_back h
  obtain ⟨x2, r2, h2, h⟩ := thn_back h
  obtain ⟨x3, r3, h3, h⟩ := thn_back h
  simp only [Except.ok.injEq, Prod.mk.injEq] at h
  obtain ⟨rfl, rfl⟩ := h
  obtain ⟨e0, hl⟩ := text_back h0
  refine ⟨?_, by show x0.length ≤ _; omega, rdN_i64 h1, rdN_i64 h2, rdN_i64 h3⟩
  rw [e0, num_back h1, num_back h2, num_back h3]
  unfold encU encs
  simp
theorem ins_back {b r : List UInt8} {x : Ins × Int} (h : rdIns b = .ok (x, r)) : b = encI x ++ r ∧ (FixpW.I64 x.1.kind ∧ FixpW.I64 x.1.under ∧ FixpW.I64 x.1.mult ∧ FixpW.I64 x.1.strike ∧ FixpW.I64 x.1.expiry ∧ FixpW.I64 x.1.mark) ∧ FixpW.I64 x.2 := by
  unfold rdIns at h
  obtain ⟨x0, r0, h0, h⟩ := thn_back h
  obtain ⟨x1, r1, h1, h⟩ := thn_back h
  obtain ⟨x2, r2, h2, h⟩ := thn_back h
  obtain ⟨x3, r3, h3, h⟩ := thn_back h
  obtain ⟨x4, r4, h4, h⟩ := thn_back h
  obtain ⟨x5, r5, h5, h⟩ := thn_back h
  obtain ⟨x6, r6, h6, h⟩ := thn_back h
  obtain ⟨x7, r7, h7, h⟩ := thn_back h
  simp only [Except.ok.injEq, Prod.mk.injEq] at h
  obtain ⟨rfl, rfl⟩ := h
  refine ⟨?_, ⟨rdN_i64 h0, rdN_i64 h1, rdN_i64 h2, rdN_i64 h3, rdN_i64 h4, rdN_i64 h6⟩, rdN_i64 h7⟩
  rw [num_back h0, num_back h1, num_back h2, num_back h3, num_back h4, bit_back h5, num_back h6, num_back h7]
  unfold encI encs
  simp
theorem acct_back {n : Nat} {b r : List UInt8} {x : Acc} (h : rdAcct n b = .ok (x, r)) : b = encA x ++ r ∧ x.cash.length = n ∧ FixpW.I64 x.parent ∧ FixpW.I64 x.last ∧ ∀ z ∈ x.cash, FixpW.I64 z := by
  unfold rdAcct at h
  obtain ⟨x0, r0, h0, h⟩ := thn_back h
  obtain ⟨x1, r1, h1, h⟩ := thn_back h
  obtain ⟨x2, r2, h2, h⟩ := thn_back h
  obtain ⟨xs, l3, e3, e4, o3⟩ := push_back (f := encN) (ok := FixpW.I64) (fun b x r h => ⟨num_back h, rdN_i64 h⟩) _ _ _ _ _ h
  rw [fold_cash] at e3
  subst e3
  refine ⟨?_, by simpa using l3, rdN_i64 h0, rdN_i64 h2, by simpa using o3⟩
  rw [num_back h0, bit_back h1, num_back h2, e4]
  unfold encA encs
  simp
theorem tri_back {b r : List UInt8} {x : Tri} (h : rdTri b = .ok (x, r)) : b = encP x ++ r ∧ FixpW.I64 x.1 ∧ FixpW.I64 x.2.1 ∧ FixpW.I64 x.2.2 := by
  unfold rdTri at h
  obtain ⟨x0, r0, h0, h⟩ := thn_back h
  obtain ⟨x1, r1, h1, h⟩ := thn_back h
  obtain ⟨x2, r2, h2, h⟩ := thn_back h
  simp only [Except.ok.injEq, Prod.mk.injEq] at h
  obtain ⟨rfl, rfl⟩ := h
  refine ⟨?_, rdN_i64 h0, rdN_i64 h1, rdN_i64 h2⟩
  rw [num_back h0, num_back h1, num_back h2]
  unfold encP encs
  simp
theorem ord_back {b r : List UInt8} {x : Ord} (h : rdOrd b = .ok (x, r)) : b = encO x ++ r ∧ FixpW.I64 x.acct ∧ FixpW.I64 x.id ∧ FixpW.I64 x.instr ∧ FixpW.I64 x.qty ∧ FixpW.I64 x.price := by
  unfold rdOrd at h
  obtain ⟨x0, r0, h0, h⟩ := thn_back h
  obtain ⟨x1, r1, h1, h⟩ := thn_back h
  obtain ⟨x2, r2, h2, h⟩ := thn_back h
  obtain ⟨x3, r3, h3, h⟩ := thn_back h
  obtain ⟨x4, r4, h4, h⟩ := thn_back h
  simp only [Except.ok.injEq, Prod.mk.injEq] at h
  obtain ⟨rfl, rfl⟩ := h
  refine ⟨?_, rdN_i64 h0, rdN_i64 h1, rdN_i64 h2, rdN_i64 h3, rdN_i64 h4⟩
  rw [num_back h0, num_back h1, num_back h2, num_back h3, num_back h4]
  unfold encO encs
  simp
theorem zip_maps {α β : Type} : ∀ xs : List (α × β), (xs.map (·.1)).zip (xs.map (·.2)) = xs
  | [] => rfl
  | x :: xs => by simp [zip_maps xs]
/-- bytes that are read as a ledger are its bytes -/
theorem led_back {b r : List UInt8} {l : Led} (h : rdL b = .ok (l, r)) : b = encL l ++ r ∧ LedFit l := by
  unfold rdL at h
  obtain ⟨d, rd, hd, h⟩ := thn_back h
  obtain ⟨n0, r0, h0, h⟩ := thn_back h
  obtain ⟨n1, r1, h1, h⟩ := thn_back h
  obtain ⟨n2, r2, h2, h⟩ := thn_back h
  obtain ⟨n3, r3, h3, h⟩ := thn_back h
  obtain ⟨n4, r4, h4, h⟩ := thn_back h
  obtain ⟨n5, r5, h5, h⟩ := thn_back h
  obtain ⟨n6, r6, h6, h⟩ := thn_back h
  unfold rdLists at h
  obtain ⟨l0, s0, k0, h⟩ := thn_back h
  obtain ⟨l1, s1, k1, h⟩ := thn_back h
  obtain ⟨l2, s2, k2, h⟩ := thn_back h
  obtain ⟨l3, s3, k3, h⟩ := thn_back h
  obtain ⟨l4, s4, k4, h⟩ := thn_back h
  obtain ⟨l5, s5, k5, h⟩ := thn_back h
  obtain ⟨e0, a0, b0⟩ := count_back h0
  obtain ⟨e1, a1, b1⟩ := count_back h1
  obtain ⟨e2, a2, b2⟩ := count_back h2
  obtain ⟨e3, a3, b3⟩ := count_back h3
  obtain ⟨e4, a4, b4⟩ := count_back h4
  obtain ⟨e5, a5, b5⟩ := count_back h5
  obtain ⟨e6, a6, b6⟩ := count_back h6
  obtain ⟨x0, z0, f0, c0, o0⟩ := push_back (f := encC) (fun b x r h => cur_back h) _ _ _ _ _ k0
  obtain ⟨x1, z1, f1, c1, o1⟩ := push_back (f := encU) (fun b x r h => und_back h) _ _ _ _ _ k1
  obtain ⟨x2, z2, f2, c2, o2⟩ := push_back (f := encI) (fun b x r h => ins_back h) _ _ _ _ _ k2
  obtain ⟨x3, z3, f3, c3, o3⟩ := push_back (f := encA) (fun b x r h => acct_back h) _ _ _ _ _ k3
  obtain ⟨x4, z4, f4, c4, o4⟩ := push_back (f := encP) (fun b x r h => tri_back h) _ _ _ _ _ k4
  obtain ⟨x5, z5, f5, c5, o5⟩ := push_back (f := encO) (fun b x r h => ord_back h) _ _ _ _ _ k5
  obtain ⟨x6, z6, f6, c6, o6⟩ := push_back (f := encP) (fun b x r h => tri_back h) _ _ _ _ _ h
  rw [fold_cur] at f0
  rw [fold_und] at f1
  rw [fold_ins] at f2
  rw [fold_acct] at f3
  rw [fold_pos] at f4
  rw [fold_ord] at f5
  rw [fold_loc] at f6
  subst f0 f1 f2 f3 f4 f5 f6
  simp only [dayL, List.nil_append]
  refine ⟨?_, ⟨?_, rdN_i64 hd, o0, o1, ?_, ?_, o4, o5, ?_, o6⟩⟩
  · rw [encL_bytes]
    simp only [zip_maps, List.length_map]
    rw [z0, z1, z2, z3, z4, z5, z6]
    simp only [Int.toNat_of_nonneg, *]
    rw [num_back hd, e0, e1, e2, e3, e4, e5, e6, c0, c1, c2, c3, c4, c5, c6]
    simp only [List.append_assoc]
  · simp only [List.length_map]
    rw [z0, z1, z2, z3, z4, z5, z6]
    omega
  · intro x hx
    obtain ⟨y, hy, rfl⟩ := List.mem_map.1 hx
    exact (o2 y hy).1
  · intro x hx
    obtain ⟨q1, q2, q3, q4⟩ := o3 x hx
    exact ⟨q2, q3, q4, by omega⟩
  · intro x hx
    obtain ⟨y, hy, rfl⟩ := List.mem_map.1 hx
    exact (o2 y hy).2
theorem errs_push {σ α : Type} {rd : List UInt8 → Except Int (α × List UInt8)} {push : σ → α → σ} (h : Errs rd) : ∀ (n : Nat) (s : σ), Errs (rdPush rd push n s)
  | 0, s => fun b k hk => by unfold rdPush at hk; cases hk
  | n + 1, s => fun b k hk => by
    unfold rdPush at hk
    exact errs_thn h (fun x => errs_push h n (push s x)) b k hk
theorem errs_cur : Errs rdCur := errs_thn errs_num fun _ => errs_thn errs_num fun _ => errs_ok _
theorem errs_und : Errs rdUnd := errs_thn (errs_text 8) fun _ => errs_thn errs_num fun _ => errs_thn errs_num fun _ => errs_thn errs_num fun _ => errs_ok _
theorem errs_ins : Errs rdIns := errs_thn errs_num fun _ => errs_thn errs_num fun _ => errs_thn errs_num fun _ => errs_thn errs_num fun _ => errs_thn errs_num fun _ => errs_thn errs_bit fun _ => errs_thn errs_num fun _ => errs_thn errs_num fun _ => errs_ok _
theorem errs_acct (n : Nat) : Errs (rdAcct n) := errs_thn errs_num fun _ => errs_thn errs_bit fun _ => errs_thn errs_num fun _ => errs_push errs_num n _
theorem errs_tri : Errs rdTri := errs_thn errs_num fun _ => errs_thn errs_num fun _ => errs_thn errs_num fun _ => errs_ok _
theorem errs_ord : Errs rdOrd := errs_thn errs_num fun _ => errs_thn errs_num fun _ => errs_thn errs_num fun _ => errs_thn errs_num fun _ => errs_thn errs_num fun _ => errs_ok _
theorem errs_led : Errs rdL := errs_thn errs_num fun _ => errs_thn (errs_count _) fun _ => errs_thn (errs_count _) fun _ => errs_thn (errs_count _) fun _ => errs_thn (errs_count _) fun _ => errs_thn (errs_count _) fun _ => errs_thn (errs_count _) fun _ => errs_thn (errs_count _) fun _ =>
  errs_thn (errs_push errs_cur _ _) fun _ => errs_thn (errs_push errs_und _ _) fun _ => errs_thn (errs_push errs_ins _ _) fun _ => errs_thn (errs_push (errs_acct _) _ _) fun _ => errs_thn (errs_push errs_tri _ _) fun _ => errs_thn (errs_push errs_ord _ _) fun _ => errs_push errs_tri _ _

def zeroLed : Led := dayL 0
/-- the ledger of bytes, all of them; or what is wrong: before it is seen whether it can be -/
def readB (bs : List UInt8) : Led × Int := match rdL bs with
  | .error k => (zeroLed, k)
  | .ok (x, r) => if 0 < r.length then (zeroLed, 13) else (x, 0)
/-- .. and behind that -/
def readL (bs : List UInt8) : Led × Int := if (readB bs).2 = 0 ∧ goodF (readB bs).1 = false then (zeroLed, 43) else readB bs
theorem zero_fit : LedFit zeroLed := ⟨by decide, (⟨by decide, by decide⟩ : FixpW.I64 0), by simp [zeroLed, dayL], by simp [zeroLed, dayL], by simp [zeroLed, dayL], by simp [zeroLed, dayL], by simp [zeroLed, dayL], by simp [zeroLed, dayL], by simp [zeroLed, dayL], by simp [zeroLed, dayL]⟩
theorem readB_fit (bs : List UInt8) : LedFit (readB bs).1 := by
  unfold readB
  split
  · exact zero_fit
  · next x r h =>
    split
    · exact zero_fit
    · exact (led_back h).2
theorem readL_fit (bs : List UInt8) : LedFit (readL bs).1 := by
  unfold readL
  split
  · exact zero_fit
  · exact readB_fit bs
theorem readB_err {bs : List UInt8} {k : Int} (h : rdL bs = .error k) : readB bs = (zeroLed, k) := by
  unfold readB
  rw [h]
theorem readB_tail {bs : List UInt8} {x : Led} {r : List UInt8} (h : rdL bs = .ok (x, r)) (hr : 0 < r.length) : readB bs = (zeroLed, 13) := by
  unfold readB
  rw [h]
  exact if_pos hr
theorem readB_ok {bs : List UInt8} {x : Led} (h : rdL bs = .ok (x, [])) : readB bs = (x, 0) := by
  unfold readB
  rw [h]
  exact if_neg (by simp)
theorem readL_of {bs : List UInt8} {x : Led} {k : Int} (h : readB bs = (x, k)) (hg : ¬ (k = 0 ∧ goodF x = false)) : readL bs = (x, k) := by
  unfold readL
  rw [h]
  exact if_neg hg
theorem readL_enc {l : Led} (f : LedFit l) (g : goodF l = true) : readL (encL l) = (l, 0) ∧ (∀ i, i < (encL l).length → readL ((encL l).take i) = (zeroLed, 10)) ∧ readL (encL l ++ [0]) = (zeroLed, 13) := by
  have R := reads_led f g
  refine ⟨?_, fun i hi => readL_of (readB_err (R.part i hi)) (by simp), readL_of (readB_tail (R.all [0]) (by simp)) (by simp)⟩
  have h := R.all []
  rw [List.append_nil] at h
  exact readL_of (readB_ok h) (by simp [g])
theorem readB_back {b : List UInt8} {l : Led} (h : readB b = (l, 0)) : b = encL l := by
  unfold readB at h
  split at h
  · next k hk =>
    simp only [Prod.mk.injEq] at h
    obtain ⟨rfl, rfl⟩ := h
    exact absurd (errs_led _ _ hk) (by decide)
  · next y r hy =>
    split at h
    · simp at h
    · next hr =>
      simp only [Prod.mk.injEq, and_true] at h
      subst h
      have hr0 : r = [] := by
        cases r with
        | nil => rfl
        | cons a b => simp at hr
      subst hr0
      have := (led_back hy).1
      rwa [List.append_nil] at this
theorem readL_back {b : List UInt8} {l : Led} (h : readL b = (l, 0)) : imageF l = (b, 0) := by
  unfold readL at h
  split at h
  · simp at h
  · next hg =>
    have e := readB_back h
    rw [h] at hg
    have hg' : goodF l = true := by simpa using hg
    unfold imageF
    rw [if_pos hg', ← e]
theorem readL_zero {b : List UInt8} (h : (readL b).2 ≠ 0) : (readL b).1 = zeroLed := by
  unfold readL at *
  split
  · rfl
  · next hg =>
    rw [if_neg hg] at h
    unfold readB at *
    split
    · rfl
    · next y r hy =>
      rw [hy] at h
      split
      · rfl
      · next hr => simp [hr] at h
end Go.Proofs.YtocjfjikkdpfdaaDoor.ImgW
namespace Go.Proofs.YtocjfjikkdpfdaaDoor.ImgW
open Go.RowKit Go.Proofs.YtocjfjikkdpfdaaDoor.Bas Go.Proofs.YtocjfjikkdpfdaaDoor.LedM Go.Proofs.YtocjfjikkdpfdaaDoor.LedW

/-- what is left of the bytes, or the first error -/
abbrev ST := Except Int (List UInt8)
/-- a reading by the document: behind an error nothing is read -/
def lft {α : Type} (z : α) (rd : List UInt8 → Except Int (α × List UInt8)) (st : ST) : α × ST := match st with
  | .error k => (z, .error k)
  | .ok b => match rd b with
    | .error k => (z, .error k)
    | .ok (x, r) => (x, .ok r)
def stp {α β : Type} (p : α × ST) (F : α → ST → β × ST) : β × ST := F p.1 p.2
def sN : ST → Int × ST := lft 0 rdN
def sC (m : Int) : ST → Int × ST := lft 0 (rdC m)
def sT : ST → List UInt8 × ST := lft [] (rdT 8)
def sB (st : ST) : Bool × ST := (decide ((sC 1 st).1 = 1), (sC 1 st).2)
def sPush {σ α : Type} (rd : ST → α × ST) (push : σ → α → σ) : Nat → σ → ST → σ × ST
  | 0, s, st => (s, st)
  | n + 1, s, st => stp (rd st) fun x st => sPush rd push n (push s x) st
def sCur (b : ST) : (Int × Int) × ST := stp (sN b) fun x0 b => stp (sN b) fun x1 b => ((x0, x1), b)
def sUnd (b : ST) : Und × ST := stp (sT b) fun x0 b => stp (sN b) fun x1 b => stp (sN b) fun x2 b => stp (sN b) fun x3 b => (⟨x0, x1, x2, x3⟩, b)
def sIns (b : ST) : (Ins × Int) × ST := stp (sN b) fun x0 b => stp (sN b) fun x1 b => stp (sN b) fun x2 b => stp (sN b) fun x3 b => stp (sN b) fun x4 b => stp (sB b) fun x5 b => stp (sN b) fun x6 b => stp (sN b) fun x7 b => ((⟨x0, x1, x2, x3, x4, x5, x6⟩, x7), b)
def sAcct (n : Nat) (b : ST) : Acc × ST := stp (sN b) fun x0 b => stp (sB b) fun x1 b => stp (sN b) fun x2 b => sPush sN addCash n ⟨x0, [], x1, x2⟩ b
def sTri (b : ST) : Tri × ST := stp (sN b) fun x0 b => stp (sN b) fun x1 b => stp (sN b) fun x2 b => ((x0, x1, x2), b)
def sOrd (b : ST) : Ord × ST := stp (sN b) fun x0 b => stp (sN b) fun x1 b => stp (sN b) fun x2 b => stp (sN b) fun x3 b => stp (sN b) fun x4 b => (⟨x0, x1, x2, x3, x4⟩, b)
def sLists (n0 n1 n2 n3 n4 n5 n6 : Nat) (l : Led) (b : ST) : Led × ST :=
  stp (sPush sCur addCur n0 l b) fun l b => stp (sPush sUnd addUnd n1 l b) fun l b => stp (sPush sIns addIns n2 l b) fun l b => stp (sPush (sAcct n0) addAcct n3 l b) fun l b => stp (sPush sTri addPos n4 l b) fun l b => stp (sPush sOrd addOrd n5 l b) fun l b => sPush sTri addLoc n6 l b
def sL (b : ST) : Led × ST :=
  stp (sN b) fun x0 b => stp (sC 4 b) fun n0 b => stp (sC 6 b) fun n1 b => stp (sC 12 b) fun n2 b => stp (sC 16 b) fun n3 b => stp (sC 64 b) fun n4 b => stp (sC 32 b) fun n5 b => stp (sC 32 b) fun n6 b =>
    sLists n0.toNat n1.toNat n2.toNat n3.toNat n4.toNat n5.toNat n6.toNat (dayL x0) b
def sE (b : ST) : EvR × ST := stp (sC 16 b) fun x0 b => stp (sN b) fun x1 b => stp (sN b) fun x2 b => stp (sN b) fun x3 b => stp (sN b) fun x4 b => stp (sN b) fun x5 b => stp (sN b) fun x6 b => stp (sN b) fun x7 b => stp (sN b) fun x8 b => stp (sN b) fun x9 b => stp (sB b) fun x10 b => stp (sT b) fun x11 b => (⟨x0, x1, x2, x3, x4, x5, x6, x7, x8, x9, x10, x11⟩, b)

/-- both tell the same -/
structure Sim {α : Type} (rd : List UInt8 → Except Int (α × List UInt8)) (s : ST → α × ST) : Prop where
  err : ∀ b k, rd b = .error k → (s (.ok b)).2 = .error k
  ok : ∀ b x r, rd b = .ok (x, r) → s (.ok b) = (x, .ok r)
  stick : ∀ k, (s (.error k)).2 = .error k
theorem sim_lft {α : Type} (z : α) (rd : List UInt8 → Except Int (α × List UInt8)) : Sim rd (lft z rd) := ⟨fun b k h => (by simp only [lft, h]), fun b x r h => (by simp only [lft, h]), fun k => rfl⟩
theorem sim_stp {α β : Type} {rd : List UInt8 → Except Int (α × List UInt8)} {s : ST → α × ST} {F : α → List UInt8 → Except Int (β × List UInt8)} {G : α → ST → β × ST} (h : Sim rd s) (k : ∀ x, Sim (F x) (G x)) : Sim (fun b => thn (rd b) F) (fun b => stp (s b) G) := by
  refine ⟨fun b e he => ?_, fun b y r he => ?_, fun e => ?_⟩
  · have he' : thn (rd b) F = .error e := he
    show (G (s (.ok b)).1 (s (.ok b)).2).2 = _
    cases hr : rd b with
    | error j =>
      rw [thn_err hr] at he'
      cases he'
      rw [h.err b _ hr]
      exact (k _).stick _
    | ok p =>
      obtain ⟨x, r⟩ := p
      rw [thn_ok hr] at he'
      rw [h.ok b x r hr]
      exact (k x).err r e he'
  · have he' : thn (rd b) F = .ok (y, r) := he
    obtain ⟨x, r1, h1, h2⟩ := thn_back he'
    show G (s (.ok b)).1 (s (.ok b)).2 = _
    rw [h.ok b x r1 h1]
    exact (k x).ok r1 y r h2
  · show (G (s (.error e)).1 (s (.error e)).2).2 = _
    rw [h.stick e]
    exact (k _).stick e
theorem sim_end {α : Type} (x : α) : Sim (fun b => .ok (x, b)) (fun b => (x, b)) := ⟨fun b k h => (by cases h), fun b y r h => (by simp only [Except.ok.injEq, Prod.mk.injEq] at h; obtain ⟨rfl, rfl⟩ := h; rfl), fun k => rfl⟩
theorem sim_push {σ α : Type} {rd : List UInt8 → Except Int (α × List UInt8)} {s : ST → α × ST} {push : σ → α → σ} (h : Sim rd s) : ∀ (n : Nat) (a : σ), Sim (rdPush rd push n a) (sPush s push n a)
  | 0, a => sim_end a
  | n + 1, a => sim_stp h fun x => sim_push h n (push a x)
theorem sim_num : Sim rdN sN := sim_lft _ _
theorem sim_count (m : Int) : Sim (rdC m) (sC m) := sim_lft _ _
theorem sim_text : Sim (rdT 8) sT := sim_lft _ _
theorem sim_bit : Sim rdB sB := by
  have h := sim_count 1
  refine ⟨fun b k hk => ?_, fun b x r hk => ?_, fun k => rfl⟩
  · unfold rdB at hk
    split at hk
    · next j hj =>
      cases hk
      exact h.err b _ hj
    · cases hk
  · unfold rdB at hk
    split at hk
    · cases hk
    · next n r' hn =>
      simp only [Except.ok.injEq, Prod.mk.injEq] at hk
      obtain ⟨rfl, rfl⟩ := hk
      unfold sB
      rw [h.ok b n r' hn]
theorem sim_cur : Sim rdCur sCur := sim_stp sim_num fun _ => sim_stp sim_num fun _ => sim_end _
theorem sim_und : Sim rdUnd sUnd := sim_stp sim_text fun _ => sim_stp sim_num fun _ => sim_stp sim_num fun _ => sim_stp sim_num fun _ => sim_end _
theorem sim_ins : Sim rdIns sIns := sim_stp sim_num fun _ => sim_stp sim_num fun _ => sim_stp sim_num fun _ => sim_stp sim_num fun _ => sim_stp sim_num fun _ => sim_stp sim_bit fun _ => sim_stp sim_num fun _ => sim_stp sim_num fun _ => sim_end _
theorem sim_acct (n : Nat) : Sim (rdAcct n) (sAcct n) := sim_stp sim_num fun _ => sim_stp sim_bit fun _ => sim_stp sim_num fun _ => sim_push sim_num n _
theorem sim_tri : Sim rdTri sTri := sim_stp sim_num fun _ => sim_stp sim_num fun _ => sim_stp sim_num fun _ => sim_end _
theorem sim_ord : Sim rdOrd sOrd := sim_stp sim_num fun _ => sim_stp sim_num fun _ => sim_stp sim_num fun _ => sim_stp sim_num fun _ => sim_stp sim_num fun _ => sim_end _
theorem sim_led : Sim rdL sL := sim_stp sim_num fun _ => sim_stp (sim_count _) fun _ => sim_stp (sim_count _) fun _ => sim_stp (sim_count _) fun _ => sim_stp (sim_count _) fun _ => sim_stp (sim_count _) fun _ => sim_stp (sim_count _) fun _ => sim_stp (sim_count _) fun _ =>
  sim_stp (sim_push sim_cur _ _) fun _ => sim_stp (sim_push sim_und _ _) fun _ => sim_stp (sim_push sim_ins _ _) fun _ => sim_stp (sim_push (sim_acct _) _ _) fun _ => sim_stp (sim_push sim_tri _ _) fun _ => sim_stp (sim_push sim_ord _ _) fun _ => sim_push sim_tri _ _
/-- an event: the kind is looked at in the end -/
def rdE0 (bs : List UInt8) : Except Int (EvR × List UInt8) := thn (rdC 16 bs) fun x0 b => thn (rdN b) fun x1 b => thn (rdN b) fun x2 b => thn (rdN b) fun x3 b => thn (rdN b) fun x4 b => thn (rdN b) fun x5 b => thn (rdN b) fun x6 b => thn (rdN b) fun x7 b => thn (rdN b) fun x8 b => thn (rdN b) fun x9 b => thn (rdB b) fun x10 b => thn (rdT 8 b) fun x11 b => .ok (⟨x0, x1, x2, x3, x4, x5, x6, x7, x8, x9, x10, x11⟩, b)
theorem sim_ev : Sim rdE0 sE := sim_stp (sim_count 16) fun _ => sim_stp sim_num fun _ => sim_stp sim_num fun _ => sim_stp sim_num fun _ => sim_stp sim_num fun _ => sim_stp sim_num fun _ => sim_stp sim_num fun _ => sim_stp sim_num fun _ => sim_stp sim_num fun _ => sim_stp sim_num fun _ => sim_stp sim_bit fun _ => sim_stp sim_text fun _ => sim_end _
theorem thn_thn {α β γ : Type} (m : Except Int (α × List UInt8)) (F : α → List UInt8 → Except Int (β × List UInt8)) (G : β → List UInt8 → Except Int γ) : thn (thn m F) G = thn m fun x b => thn (F x b) G := by
  cases m <;> rfl
theorem rdE_split (bs : List UInt8) : rdE bs = thn (rdE0 bs) fun x b => if x.kind = 0 then .error 11 else .ok (x, b) := by
  unfold rdE rdE0
  simp only [thn_thn]
  rfl
/-- what the document makes of it in the end -/
def endE (p : EvR × ST) : EvR × Int := match p.2 with
  | .error k => (zeroE, k)
  | .ok r => if p.1.kind = 0 then (zeroE, 11) else if 0 < r.length then (zeroE, 13) else (p.1, 0)
theorem endE_read (bs : List UInt8) : endE (sE (.ok bs)) = readE bs := by
  unfold readE
  rw [rdE_split]
  cases h : rdE0 bs with
  | error k =>
    rw [thn_err rfl]
    unfold endE
    rw [sim_ev.err bs k h]
  | ok p =>
    obtain ⟨x, r⟩ := p
    rw [thn_ok rfl, sim_ev.ok bs x r h]
    unfold endE
    by_cases hk : x.kind = 0
    · simp only [if_pos hk]
    · simp only [if_neg hk]
def endL (p : Led × ST) : Led × Int := match p.2 with
  | .error k => (zeroLed, k)
  | .ok r => if 0 < r.length then (zeroLed, 13) else if goodF p.1 = true then (p.1, 0) else (zeroLed, 43)
theorem endL_read (bs : List UInt8) : endL (sL (.ok bs)) = readL bs := by
  unfold readL readB
  cases h : rdL bs with
  | error k =>
    unfold endL
    rw [sim_led.err bs k h]
    have hk : k ≠ 0 := by rcases errs_led _ _ h with rfl | rfl <;> decide
    simp [hk]
  | ok p =>
    obtain ⟨x, r⟩ := p
    rw [sim_led.ok bs x r h]
    unfold endL
    by_cases hr : 0 < r.length
    · simp [hr]
    · cases hg : goodF x <;> simp [hr, hg]
theorem sled_fit (bs : List UInt8) {l : Led} {r : List UInt8} (h : sL (.ok bs) = (l, .ok r)) : LedFit l := by
  cases hr : rdL bs with
  | error k =>
    have := sim_led.err bs k hr
    rw [h] at this
    cases this
  | ok p =>
    obtain ⟨x, r'⟩ := p
    have := sim_led.ok bs x r' hr
    rw [h] at this
    simp only [Prod.mk.injEq, Except.ok.injEq] at this
    rw [this.1]
    exact (led_back hr).2
theorem sN_i64 (st : ST) : FixpW.I64 (sN st).1 := by
  have hz : FixpW.I64 0 := ⟨by decide, by decide⟩
  unfold sN lft
  split
  · exact hz
  · split
    · exact hz
    · next h => exact rdN_i64 h
theorem sC_range (m : Int) (hm : 0 ≤ m) (st : ST) : 0 ≤ (sC m st).1 ∧ (sC m st).1 ≤ m := by
  unfold sC lft
  split
  · exact ⟨Int.le_refl _, hm⟩
  · split
    · exact ⟨Int.le_refl _, hm⟩
    · next h => exact (count_back h).2
end Go.Proofs.YtocjfjikkdpfdaaDoor.ImgW
namespace Go.Proofs.YtocjfjikkdpfdaaDoor.ImgW
open Go.RowKit Go.Proofs.YtocjfjikkdpfdaaDoor.Bas Go.Proofs.YtocjfjikkdpfdaaDoor.LedM Go.Proofs.YtocjfjikkdpfdaaDoor.LedW

theorem image_two (l : Led) : (goodF l = true ∧ imageF l = (encL l, 0)) ∨ (goodF l = false ∧ imageF l = ([], 43)) := by
  unfold imageF
  cases h : goodF l
  · exact .inr ⟨rfl, if_neg (by decide)⟩
  · exact .inl ⟨rfl, if_pos rfl⟩
theorem event_two (x : EvR) : eventF x = (encE x, 0) ∨ ∃ c, eventF x = ([], c) ∧ (c == 0) = false := by
  unfold eventF
  split
  · exact .inr ⟨_, rfl, rfl⟩
  · split
    · exact .inr ⟨_, rfl, rfl⟩
    · exact .inl rfl
theorem encE_min (x : EvR) : 96 ≤ (encE x).length := by
  unfold encE encT
  rw [List.length_append, List.length_append, encs_len, encN_len]
  simp only [List.length_cons, List.length_nil]
  omega
theorem encE_max {x : EvR} (h : eventF x = (encE x, 0)) : (encE x).length ≤ 104 := by
  have h0 := encE_min x
  unfold eventF at h
  split at h
  · simp at h
  · split at h
    · simp at h
    · unfold encE encT
      rw [List.length_append, List.length_append, encs_len, encN_len]
      simp only [List.length_cons, List.length_nil]
      omega
theorem bytes8 : Tryd.prog.bytesOf 5 = 1 := by kernel_rfl
theorem cells8 : Tryd.prog.cellsOf 5 = 1 := by kernel_rfl
theorem u8s_take (l : List UInt8) (n : Nat) : u8s (l.take n) = (u8s l).take n := List.map_take
/-- ReadEvent of bytes with a nought behind -/
theorem readevent_tail (bs : List UInt8) (a : Option Addr) (cap : Nat) (w : World) (hat : At w a (u8s bs ++ [.int .u8 0])) (hl : bs.length + 1 ≤ cap) (hm : cap ≤ maxLen) :
    Calls Tryd.prog 15 #[.slice a (bs.length + 1) cap] w fun e w' => e = .returned (.tuple #[evV (readE (bs ++ [0])).1, .int .i64 (readE (bs ++ [0])).2]) ∧ Below w.heap.size w w' := by
  have h := readevent_calls (bs ++ [0]) a cap w (by rw [u8s_append]; exact hat) (by simpa using hl) hm
  simpa using h
/-- ReadEvent of a beginning -/
theorem readevent_take (bs : List UInt8) (a : Option Addr) (cap : Nat) (w : World) (hat : At w a (u8s bs)) (i : Nat) (hi : i ≤ bs.length) (hl : bs.length ≤ cap) (hm : cap ≤ maxLen) :
    Calls Tryd.prog 15 #[.slice a i cap] w fun e w' => e = .returned (.tuple #[evV (readE (bs.take i)).1, .int .i64 (readE (bs.take i)).2]) ∧ Below w.heap.size w w' := by
  have h := readevent_calls (bs.take i) a cap w (by rw [u8s_take]; exact hat.take i) (by rw [List.length_take]; omega) hm
  rwa [List.length_take, Nat.min_eq_left hi] at h
end Go.Proofs.YtocjfjikkdpfdaaDoor.ImgW
