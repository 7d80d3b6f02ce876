/- The walks of tag.body and tag.Valid. -/
import Derived.Test.YtckcnenhnniogaaDoorTagValid
set_option linter.unusedSimpArgs false
set_option linter.unusedVariables false
namespace Go.Proofs.YtckcnenhnniogaaDoor.TagW
open Go.RowKit Go.Proofs.YtckcnenhnniogaaDoor.Bas Go.Proofs.YtckcnenhnniogaaDoor.FixpW Go.Proofs.YtckcnenhnniogaaDoor.DecW Go.Proofs.YtckcnenhnniogaaDoor.FldW Go.Proofs.YtckcnenhnniogaaDoor.TagM

/-- what stays while the bytes are gathered -/
structure BufS (w W : World) (a : Option Addr) (fs : List Fld) (bs : List UInt8) : Prop where
  buf : Lib.IsBuffer 51 5 w.heap.size w.heap.size (Lib.byteCells bs) W
  at_ : At W a (fcells fs)
  low : Below w.heap.size w W
  ab : ∀ b off s, a = some ⟨b, off, s⟩ → fcells fs ≠ [] → b < w.heap.size
theorem buf_keep {T e : TypeId} {B b : Nat} {bs : List Value} {W W' : World} (h : Lib.IsBuffer T e B b bs W) (hb : Below W.heap.size W W') : Lib.IsBuffer T e B b bs W' := by
  have hlt := h.lt
  obtain ⟨hB, v, lr, hw, ho, hne⟩ := h
  exact ⟨hB, v, lr, (hb.block b hlt).trans hw, owns_below ho hb, hne⟩
theorem BufS.keep {w W W' : World} {a : Option Addr} {fs : List Fld} {bs : List UInt8} (h : BufS w W a fs bs) (hb : Below W.heap.size W W') : BufS w W' a fs bs := ⟨buf_keep h.buf hb, h.at_.keep hb, h.low.trans (hb.mono h.low.size), h.ab⟩
theorem BufS.alloc {w W : World} {a : Option Addr} {fs : List Fld} {bs : List UInt8} (h : BufS w W a fs bs) (o : Obj) : BufS w (W.alloc o) a fs bs := h.keep ((Below.refl _ _).alloc (Nat.le_refl _) _)
theorem BufS.drewN {w W : World} {a : Option Addr} {fs : List Fld} {bs : List UInt8} (h : BufS w W a fs bs) (n : Nat) : BufS w (W.drewN n) a fs bs := ⟨h.buf, h.at_, below_drewN h.low n, h.ab⟩
theorem BufS.drew {w W : World} {a : Option Addr} {fs : List Fld} {bs : List UInt8} (h : BufS w W a fs bs) : BufS w W.drew a fs bs := ⟨h.buf, h.at_, h.low.drew, h.ab⟩
theorem BufS.write {w W W' : World} {a : Option Addr} {fs : List Fld} {bs s : List UInt8} (h : BufS w W a fs bs) (hb : Lib.IsBuffer 51 5 w.heap.size w.heap.size (Lib.byteCells bs ++ Lib.byteCells s) W') (hlow : Below w.heap.size W W') : BufS w W' a fs (bs ++ s) := by
  refine ⟨?_, h.at_.below hlow h.ab, h.low.trans hlow, h.ab⟩
  have : Lib.byteCells (bs ++ s) = Lib.byteCells bs ++ Lib.byteCells s := by simp [Lib.byteCells]
  rw [this]; exact hb
theorem one_byteCells (l : List UInt8) : ∀ v ∈ Lib.byteCells l, v.oneCell' = true := by
  intro v hv
  simp [Lib.byteCells] at hv
  obtain ⟨b, _, rfl⟩ := hv
  rfl
def BodyR (w : World) (a : Option Addr) (fs : List Fld) (i : Value) (wr : World) : Prop := ∃ k : Nat, k ≤ fs.length ∧ i = .int .i64 k ∧ BufS w wr a fs (bodyB (fs.take k))
def sumL (fs : List Fld) : Nat := (fs.map fun f => 6 + f.2.length).sum
theorem body_len {fs : List Fld} (h : ∀ f ∈ fs, rightF f = true) : (bodyB fs).length ≤ sumL fs := by
  unfold bodyB sumL
  induction fs with
  | nil => simp
  | cons f fs ih =>
    have h1 := fieldB_len (h f List.mem_cons_self)
    have h2 := ih (fun g hg => h g (List.mem_cons_of_mem _ hg))
    simp only [List.flatMap_cons, List.length_append, List.map_cons, List.sum_cons]
    omega
theorem sumL_take (fs : List Fld) (k : Nat) : sumL (fs.take k) ≤ sumL fs := by
  have : sumL fs = sumL (fs.take k) + sumL (fs.drop k) := by
    unfold sumL
    rw [← List.sum_append, ← List.map_append, List.take_append_drop]
  omega
set_option maxHeartbeats 2000000 in
set_option maxRecDepth 20000 in
theorem body_calls (fs : List Fld) (a : Option Addr) (cap : Nat) (w : World) (hl : sumL fs ≤ 140737488355328) (hn : fs.length ≤ 140737488355328) (hr : ∀ f ∈ fs, rightF f = true) (hat : At w a (fcells fs)) (ht : Pow w) :
    Calls Tryd.prog 11 #[.slice a fs.length cap] w fun e w' => ∃ v, e = .returned v ∧ w'.ownsRow w.heap.size 5 1 v (bodyB fs).length (Lib.byteCells (bodyB fs)) ∧ Below w.heap.size w w' := by
  have HT := Lib.hid ht
  have HR := Lib.hid hr
  have S0 : BufS w (w.alloc (.cells #[.slice none 0 0, .int .i64 0, .int .i8 0] 51)) a fs [] := ⟨Lib.fresh_isBuffer _ _ w, hat.keep ((Below.refl _ _).alloc (Nat.le_refl _) _), (Below.refl _ _).alloc (Nat.le_refl _) _, hat.lt⟩
  clear hr ht hat
  go_enter Tryd.func11, Tryd.ntmps11
  go_wp2_with fail
  go_loopw [8] (BodyR w a fs) (fun i _ => fs.length - (intOf i).toNat)
  case atStart => exact ⟨0, Nat.zero_le _, rfl, S0⟩
  case round =>
    clear S0
    obtain ⟨k, hk, rfl, S⟩ := hrel
    by_cases hlt : k < fs.length
    · obtain ⟨b, off, rfl, c0, c1⟩ := fld_at S.at_ k hlt
      have hB := Lib.hid (bodyB_snoc hlt)
      have hrf := HR.out _ (List.getElem_mem hlt)
      have hR := right_of hrf
      have hf1 := Lib.hid (show fieldB fs[k] = Lib.decDigits fs[k].1.toNat ++ [61] ++ fs[k].2 ++ [1] from rfl)
      have hlen : (bodyB (fs.take k)).length + (fieldB fs[k]).length ≤ 140737488355328 := by
        have h1 := body_len (fs := fs.take (k + 1)) (fun f hf => HR.out f (List.mem_of_mem_take hf))
        have h2 := sumL_take fs (k + 1)
        rw [bodyB_snoc hlt, List.length_append] at h1
        omega
      generalize fs[k] = f at *
      obtain ⟨t, s⟩ := f
      simp only at c0 c1 hR hf1
      obtain ⟨X, hX⟩ : ∃ X : Nat, t = (X : Int) := ⟨t.toNat, by omega⟩
      have HI := Lib.hid (fun W h => itoa_calls X W (by omega) h)
      have hXt : t.toNat = X := by omega
      rw [hXt] at hf1
      subst hX
      have hw := fun W h hz => Tryd.Buffer_WriteString w.heap.size w.heap.size (Lib.byteCells (bodyB (fs.take k))) (⟨(Lib.decDigits X).toArray⟩ ++ ⟨#[61]⟩ ++ ⟨s.toArray⟩ ++ ⟨#[1]⟩) W h hz (one_byteCells _) (by
        have e : (bodyB (fs.take k)).length = (Lib.byteCells (bodyB (fs.take k))).length := by simp [Lib.byteCells]
        have e2 : (⟨(Lib.decDigits X).toArray⟩ ++ ⟨#[61]⟩ ++ ⟨s.toArray⟩ ++ ⟨#[1]⟩ : ByteArray).size = (Lib.decDigits X ++ [61] ++ s ++ [1]).length := by simp [ByteArray.size]
        rw [hf1.out] at hlen
        rw [← e, e2]; exact hlen)
      rw [show (⟨(Lib.decDigits X).toArray⟩ ++ ⟨#[61]⟩ ++ ⟨s.toArray⟩ ++ ⟨#[1]⟩ : ByteArray).data.toList = Lib.decDigits X ++ [61] ++ s ++ [1] by simp] at hw
      have HW := Lib.hid hw
      clear hw
      have HS := Lib.hid S
      have hz := S.low.size
      have hdl := digits_le X (by omega)
      have hsl : s.length ≤ 140737488355328 := by rw [hf1.out] at hlen; simp at hlen; omega
      clear S hrf hR hXt
      go_upto_region 5 with fail
      have S5 := HS.out.alloc (.cells #[.int .i64 (X : Int), .string ⟨s.toArray⟩] 39)
      have X5 := Box.new wr 39 #[.int .i64 (X : Int), .string ⟨s.toArray⟩]
      have d0 : (wr.alloc (.cells #[.int .i64 (X : Int), .string ⟨s.toArray⟩] 39)).cell? ⟨wr.heap.size, 0, none⟩ = some (.int .i64 (X : Int)) := X5.cell 0
      have d1 : (wr.alloc (.cells #[.int .i64 (X : Int), .string ⟨s.toArray⟩] 39)).cell? ⟨wr.heap.size, 1, none⟩ = some (.string ⟨s.toArray⟩) := X5.cell 1
      generalize wr.alloc (.cells #[.int .i64 (X : Int), .string ⟨s.toArray⟩] 39) = W5 at *
      generalize wr.heap.size = g5 at *
      clear X5 HS c0 c1
      have hz5 := S5.low.size
      go_region_with (first
        | (go_at_call 12; refine (HI.out _ (by first | exact HT.out.keep S5.low | exact HT.out.keep (below_drewN S5.low _) | exact HT.out.keep S5.low.drew)).mono ?_; rintro e w6 ⟨rfl, b6⟩; have S6 : BufS w w6 (some ⟨b, off, none⟩) fs (bodyB (fs.take k)) := (by first | exact S5.keep b6 | exact S5.drew.keep b6 | exact (S5.drewN _).keep b6); have d6 : w6.cell? ⟨g5, 1, none⟩ = some (.string ⟨s.toArray⟩) := (by first | exact (b6.cell (World.block_lt_of_cell? W5 _ d1)).trans d1))
        | (go_at_call 20; refine (HW.out _ (by first | exact S6.buf | exact (S6.drewN _).buf | exact S6.drew.buf) (by first | exact S6.low.size | exact (S6.drewN _).low.size | exact S6.drew.low.size)).mono ?_; rintro e w7 ⟨rfl, hb7, b7⟩; have S7 := Lib.hid (BufS.write (by first | exact S6 | exact S6.drewN _ | exact S6.drew) hb7 b7)))
      all_goals
        go_wp2_with fail
        go_roundw
        case rel => exact ⟨k + 1, by omega, by go_num, by rw [hB.out, hf1.out]; exact S7.out⟩
        case measure => simp [intOf]; omega
    · have hkk : k = fs.length := by omega
      subst hkk
      rw [List.take_length] at S
      have HB := Lib.hid (fun W h => Tryd.Buffer_Bytes w.heap.size w.heap.size (Lib.byteCells (bodyB fs)) W h)
      go_wp2_with (go_at_call 21; refine (HB.out _ S.buf).mono ?_; rintro e w2 ⟨v, rfl, own, n, rfl⟩)
      go_ret
      rw [show (Lib.byteCells (bodyB fs)).length = (bodyB fs).length by simp [Lib.byteCells]] at own
      exact ⟨_, rfl, own, below_drewN S.low n⟩
theorem valid_calls (fs : List Fld) (a : Option Addr) (cap : Nat) (w : World) (hl : sumL fs ≤ 140737488355328) (hn : fs.length ≤ 140737488355328) (hat : At w a (fcells fs)) (ht : Pow w) :
    Calls Tryd.prog 9 #[.slice a fs.length cap] w fun e w' => e = .returned (.int .i64 (validR fs)) ∧ Below w.heap.size w w' := by
  have HT := Lib.hid ht
  cases fs with
  | nil =>
    go_enter Tryd.func9, Tryd.ntmps9
    go_wp2_with fail
    go_ret
    exact ⟨rfl, Below.refl _ _⟩
  | cons f r =>
    have HA := Lib.hid hat
    obtain ⟨f1, f2⟩ := f
    obtain ⟨b, off, rfl, c0, c1⟩ := fld_at hat 0 (by simp)
    simp only [List.getElem_cons_zero, Nat.zero_mul, Nat.add_zero] at c0 c1
    have hv := @validR.eq_2 (f1, f2) r
    have CA := Lib.hid (fun W h => isAll_calls ((f1, f2) :: r) (some ⟨b, off, none⟩) cap W (by omega) h)
    have CB := Lib.hid (fun W hr h hp => body_calls ((f1, f2) :: r) (some ⟨b, off, none⟩) cap W hl hn hr h hp)
    have hbl := Lib.hid (fun h => @body_len ((f1, f2) :: r) h)
    have hbf := Lib.hid (fun h => @badF_false ((f1, f2) :: r) h)
    have hn0 : ¬ ((((f1, f2) :: r).length : Int) = 0) := by simp; omega
    have hnb : ((((f1, f2) :: r).length : Int) == 0) = false := by simp; omega
    have hnp : 0 < ((f1, f2) :: r).length := by simp
    simp only at hv
    generalize validR ((f1, f2) :: r) = vr at *
    generalize bodyB ((f1, f2) :: r) = bb at *
    generalize sumL ((f1, f2) :: r) = sl at *
    generalize hbad : badF ((f1, f2) :: r) = bad at *
    generalize ((f1, f2) :: r).length = n at *
    clear hat
    go_enter Tryd.func9, Tryd.ntmps9
    by_cases h35 : f1 = 35
    · subst h35
      cases bad with
      | true =>
        rw [if_pos (.inr rfl)] at hv
        subst hv
        clear hbad hbf hbl CB
        go_wp2_with (go_at_call 18; refine (CA.out _ HA.out).mono ?_; rintro e w2 ⟨rfl, b2⟩)
        go_ret
        exact ⟨rfl, b2⟩
      | false =>
        rw [if_neg (by simp)] at hv
        have hr := hbf.out rfl
        have hb := hbl.out hr
        have HRr := Lib.hid hr
        clear hbad hbf hbl hr
        by_cases hbig : 4096 < bb.length
        · rw [if_pos hbig] at hv
          subst hv
          have hbig' : (4096 : Int) < (bb.length : Int) := by omega
          clear hbig
          go_wp2_with (first
            | (go_at_call 18; refine (CA.out _ HA.out).mono ?_; rintro e w2 ⟨rfl, b2⟩)
            | (go_at_call 11; refine (CB.out _ HRr.out (HA.out.keep b2) (HT.out.keep b2)).mono ?_; rintro e w3 ⟨v, rfl, own, b3⟩; obtain ⟨av, cv, rfl, _, _, _, _, _⟩ := at_of_owns own))
          go_ret
          exact ⟨rfl, b2.trans (b3.mono b2.size)⟩
        · rw [if_neg hbig] at hv
          subst hv
          have hbig' : ¬ (4096 : Int) < (bb.length : Int) := by omega
          clear hbig
          go_wp2_with (first
            | (go_at_call 18; refine (CA.out _ HA.out).mono ?_; rintro e w2 ⟨rfl, b2⟩)
            | (go_at_call 11; refine (CB.out _ HRr.out (HA.out.keep b2) (HT.out.keep b2)).mono ?_; rintro e w3 ⟨v, rfl, own, b3⟩; obtain ⟨av, cv, rfl, _, _, _, _, _⟩ := at_of_owns own))
          go_ret
          exact ⟨rfl, b2.trans (b3.mono b2.size)⟩
    · rw [if_pos (.inl h35)] at hv
      subst hv
      have hne : (f1 != 35) = true := by simpa using h35
      clear hbad hbf hbl CB
      go_wp2_with fail
      go_ret
      exact ⟨rfl, Below.refl _ _⟩
end Go.Proofs.YtckcnenhnniogaaDoor.TagW
