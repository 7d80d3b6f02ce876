/- The walks of the document's right, Body and Valid. -/
import Derived.Test.YthdibimclhndoaaDoorTagBody
namespace Go.Proofs.YthdibimclhndoaaDoor.TagW
open Go.RowKit Go.Proofs.YthdibimclhndoaaDoor.Bas Go.Proofs.YthdibimclhndoaaDoor.FixpW Go.Proofs.YthdibimclhndoaaDoor.DecW Go.Proofs.YthdibimclhndoaaDoor.FldW Go.Proofs.YthdibimclhndoaaDoor.TagM

/-- between two bytes of a text -/
def ScanT (l : List UInt8) (W : World) (i : Value) (wr : World) : Prop := ∃ n : Nat, n ≤ l.length ∧ i = .int .i64 n ∧ (∀ m (h : m < l.length), m < n → l[m] ≠ 1) ∧ wr = W
theorem ScanT.mk {l : List UInt8} {W : World} {n : Nat} (h1 : n ≤ l.length) (h2 : ∀ m (h : m < l.length), m < n → l[m] ≠ 1) : ScanT l W (.int .i64 n) W := ⟨n, h1, rfl, h2, rfl⟩
theorem byte_1 {c : UInt8} : ((c.toNat : Int) == 1) = decide (c = 1) := by
  rw [Bool.eq_iff_iff]
  simp
  constructor
  · intro h; exact UInt8.toNat_inj.1 (by have : (1 : UInt8).toNat = 1 := rfl; omega)
  · rintro rfl; rfl
set_option maxHeartbeats 1000000 in
theorem rright_calls (f : Fld) (w : World) (hlen : f.2.length ≤ 140737488351232) :
    Calls Tryd.prog 18 #[.agg #[.int .i64 f.1, .string ⟨f.2.toArray⟩]] w fun e w' => e = .returned (.bool (rightF f)) ∧ Below w.heap.size w w' := by
  obtain ⟨t, s⟩ := f
  simp only at hlen ⊢
  go_enter Tryd.func18, Tryd.ntmps18
  have X := Box.new w 31 #[.int .i64 t, .string ⟨s.toArray⟩]
  have B := (Below.refl w.heap.size w).alloc (Nat.le_refl _) (.cells #[.int .i64 t, .string ⟨s.toArray⟩] 31)
  go_upto_region 1 with fail
  generalize w.alloc (.cells #[.int .i64 t, .string ⟨s.toArray⟩] 31) = w1 at *
  have c0 : w1.cell? ⟨w.heap.size, 0, none⟩ = some (.int .i64 t) := X.cell 0
  have c1 : w1.cell? ⟨w.heap.size, 1, none⟩ = some (.string ⟨s.toArray⟩) := X.cell 1
  by_cases hlo : 1 ≤ t
  · by_cases hhi : t ≤ 9999
    · by_cases h8 : t = 8
      · subst h8
        go_wp2_with fail
        go_ret
        exact ⟨ret_bool (by simp [rightF]), B⟩
      by_cases h9 : t = 9
      · subst h9
        go_wp2_with fail
        go_ret
        exact ⟨ret_bool (by simp [rightF]), B⟩
      by_cases h10 : t = 10
      · subst h10
        go_wp2_with fail
        go_ret
        exact ⟨ret_bool (by simp [rightF]), B⟩
      have e8 : (t == 8) = false := by simpa using h8
      have e9 : (t == 9) = false := by simpa using h9
      have e10 : (t == 10) = false := by simpa using h10
      by_cases hs : s = []
      · subst hs
        go_wp2_with fail
        go_ret
        exact ⟨ret_bool (by simp [rightF]), B⟩
      · have hsl : ¬ ((s.length : Int) = 0) := by
          have := List.length_pos_iff.2 hs
          omega
        have hsb : ((s.length : Int) == 0) = false := by simpa using hsl
        have hR := Lib.hid (show rightF (t, s) = !decide ((1 : UInt8) ∈ s) by simp [rightF, h8, h9, h10, hlo, hhi, hs])
        have hsz : (⟨s.toArray⟩ : ByteArray).size = s.length := rfl
        clear hs h8 h9 h10
        go_wp2_with fail
        go_loopw [3] (ScanT s w1) (fun i _ => s.length - (intOf i).toNat)
        case atStart => exact ScanT.mk (Nat.zero_le _) (fun m h h0 => absurd h0 (Nat.not_lt_zero _))
        case round =>
          obtain ⟨n, hn, rfl, hno, hw⟩ := hrel
          rw [hw]
          clear hw
          by_cases hlt2 : n < s.length
          · have hlt3 : n < (⟨s.toArray⟩ : ByteArray).size := hlt2
            have hb : ((((⟨s.toArray⟩ : ByteArray)[n]'hlt3).toNat : Int) == 1) = decide (s[n] = 1) := byte_1
            by_cases h1 : s[n] = 1
            · rw [decide_eq_true h1] at hb
              have HM := Lib.hid (show (1 : UInt8) ∈ s by rw [← h1]; exact List.getElem_mem _)
              clear h1 hno
              go_wp2_with fail
              go_ret
              exact ⟨ret_bool (by rw [hR.out]; simpa using HM.out), B⟩
            · rw [decide_eq_false h1] at hb
              have HNO := Lib.hid (fun m (h : m < s.length) (hm : m < n + 1) => (by
                rcases (by omega : m < n ∨ m = n) with h2 | rfl
                · exact hno m h h2
                · exact h1 : s[m] ≠ 1))
              clear hno h1
              go_wp2_with fail
              go_roundw
              case rel => exact ScanT.mk (n := n + 1) (by omega) HNO.out
              case measure => simp [intOf]; omega
          · have hnn : n = s.length := by omega
            subst hnn
            have HM := Lib.hid (show ¬ (1 : UInt8) ∈ s from fun hm => by
              obtain ⟨m, h, e⟩ := List.getElem_of_mem hm
              exact hno m h h e)
            clear hno hlt2
            go_wp2_with fail
            go_ret
            exact ⟨ret_bool (by rw [hR.out]; simpa using HM.out), B⟩
    · go_wp2_with fail
      go_ret
      exact ⟨ret_bool (by simp [rightF]; omega), B⟩
  · go_wp2_with fail
    go_ret
    exact ⟨ret_bool (by simp [rightF]; omega), B⟩
theorem ret_int {a b : Int} (h : a = b) : Ending.returned (.int .i64 a) = .returned (.int .i64 b) := by rw [h]
theorem ret_str {S T : ByteArray} (h : S = T) : Ending.returned (.string S) = .returned (.string T) := by rw [h]
def RBodyR (w : World) (a : Option Addr) (fs : List Fld) (o i : Value) (wr : World) : Prop := ∃ (k : Nat) (S : ByteArray), k ≤ fs.length ∧ i = .int .i64 k ∧ o = .string S ∧ Hid (S = ⟨(bodyB (fs.take k)).toArray⟩) ∧ At wr a (fcells fs) ∧ Below w.heap.size w wr
theorem body_step (B A s : List UInt8) : (⟨B.toArray⟩ ++ ⟨A.toArray⟩ ++ ⟨#[61]⟩ ++ ⟨s.toArray⟩ ++ ⟨#[1]⟩ : ByteArray) = ⟨(B ++ (A ++ [61] ++ s ++ [1])).toArray⟩ := by
  apply ByteArray.ext
  simp
set_option maxHeartbeats 2000000 in
set_option maxRecDepth 20000 in
theorem rbody_calls (fs : List Fld) (a : Option Addr) (cap : Nat) (w : World) (hl : sumL fs ≤ 140737488355328) (hn : fs.length ≤ 140737488355328) (hr : ∀ f ∈ fs, rightF f = true) (hat : At w a (fcells fs)) (ht : Pow w) :
    Calls Tryd.prog 15 #[.slice a fs.length cap] w fun e w' => e = .returned (.string ⟨(bodyB fs).toArray⟩) ∧ Below w.heap.size w w' := by
  have HT := Lib.hid ht
  have HR := Lib.hid hr
  clear hr ht
  go_enter Tryd.func15, Tryd.ntmps15
  go_wp2_with fail
  go_loopw [3, 8] (RBodyR w a fs) (fun _ i _ => fs.length - (intOf i).toNat)
  case atStart => exact ⟨0, _, Nat.zero_le _, rfl, rfl, by simp [bodyB, Hid], hat, Below.refl _ _⟩
  case round =>
    clear hat
    obtain ⟨k, S, hk, rfl, rfl, hS, hA, hB⟩ := hrel
    by_cases hlt : k < fs.length
    · obtain ⟨b, off, rfl, c0, c1⟩ := fld_at hA k hlt
      have hBs := Lib.hid (bodyB_snoc hlt)
      have hrf := HR.out _ (List.getElem_mem hlt)
      have hR := right_of hrf
      have hf1 := Lib.hid (show fieldB fs[k] = Lib.decDigits fs[k].1.toNat ++ [61] ++ fs[k].2 ++ [1] from rfl)
      have hlen : S.size + (fieldB fs[k]).length ≤ 140737488355328 := by
        have h1 := body_len (fs := fs.take (k + 1)) (fun f hf => HR.out f (List.mem_of_mem_take hf))
        have h2 := sumL_take fs (k + 1)
        rw [bodyB_snoc hlt, List.length_append] at h1
        rw [hS.out]
        show (bodyB (fs.take k)).length + _ ≤ _
        omega
      generalize fs[k] = f at *
      obtain ⟨t, s⟩ := f
      simp only at c0 c1 hR hf1
      obtain ⟨X, hX⟩ : ∃ X : Nat, t = (X : Int) := ⟨t.toNat, by omega⟩
      have HI := Lib.hid (fun W h => itoa_calls X W (by omega) h)
      have hXt : t.toNat = X := by omega
      rw [hXt] at hf1
      subst hX
      have hdl := digits_le X (by omega)
      have hsl : S.size + s.length + 6 ≤ 140737488355340 := by rw [hf1.out] at hlen; simp at hlen; omega
      have HA := Lib.hid hA
      have HB := Lib.hid hB
      have hz := hB.size
      clear hrf hR hXt hA hB
      go_upto_region 5 with fail
      have A5 := HA.out.keep ((Below.refl _ _).alloc (Nat.le_refl _) (.cells #[.int .i64 (X : Int), .string ⟨s.toArray⟩] 31))
      have B5 := HB.out.alloc HB.out.size (.cells #[.int .i64 (X : Int), .string ⟨s.toArray⟩] 31)
      have X5 := Box.new wr 31 #[.int .i64 (X : Int), .string ⟨s.toArray⟩]
      have d0 : (wr.alloc (.cells #[.int .i64 (X : Int), .string ⟨s.toArray⟩] 31)).cell? ⟨wr.heap.size, 0, none⟩ = some (.int .i64 (X : Int)) := X5.cell 0
      have d1 : (wr.alloc (.cells #[.int .i64 (X : Int), .string ⟨s.toArray⟩] 31)).cell? ⟨wr.heap.size, 1, none⟩ = some (.string ⟨s.toArray⟩) := X5.cell 1
      generalize wr.alloc (.cells #[.int .i64 (X : Int), .string ⟨s.toArray⟩] 31) = W5 at *
      generalize wr.heap.size = g5 at *
      clear X5 HA HB c0 c1
      go_region_with (first
        | (go_at_call 11; refine (HI.out _ (by first | exact HT.out.keep B5 | exact HT.out.keep (below_drewN B5 _) | exact HT.out.keep B5.drew)).mono ?_; rintro e w6 ⟨rfl, b6⟩; have B6 : Below w.heap.size w w6 := (by first | exact B5.trans (b6.mono B5.size) | exact B5.drew.trans (b6.mono B5.size) | exact (below_drewN B5 _).trans (b6.mono B5.size)); have A6 : At w6 (some ⟨b, off, none⟩) (fcells fs) := (by first | exact A5.keep b6 | exact At.keep (w := W5.drew) A5 b6 | exact At.keep (w := W5.drewN _) A5 b6); have d6 : w6.cell? ⟨g5, 1, none⟩ = some (.string ⟨s.toArray⟩) := (by first | exact (b6.cell (World.block_lt_of_cell? W5 _ d1)).trans d1)))
      all_goals
        go_wp2_with fail
        go_roundw
        case rel => exact ⟨k + 1, _, by omega, by go_num, rfl, by rw [hBs.out, hf1.out, hS.out]; exact body_step _ _ _, by first | exact A6 | exact A6.drewN _, by first | exact B6 | exact below_drewN B6 _⟩
        case measure => simp [intOf]; omega
    · have hkk : k = fs.length := by omega
      subst hkk
      have hE := hS.out
      rw [List.take_length] at hE
      have HE := Lib.hid hE
      clear hE hS
      go_wp2_with fail
      go_ret
      exact ⟨ret_str HE.out, hB⟩
theorem validR_bad {f : Fld} {r : List Fld} (h : f.1 ≠ 35 ∨ badF (f :: r) = true) : validR (f :: r) = 11 := by simp only [validR]; rw [if_pos h]
theorem validR_ok {f : Fld} {r : List Fld} (h1 : f.1 = 35) (h2 : badF (f :: r) = false) : validR (f :: r) = if 4096 < (bodyB (f :: r)).length then 3 else 0 := by
  simp only [validR]
  rw [if_neg (by simp [h1, h2])]
set_option maxHeartbeats 2000000 in
theorem rvalid_calls (fs : List Fld) (a : Option Addr) (cap : Nat) (w : World) (hl : sumL fs ≤ 140737488355328) (hn : fs.length ≤ 140737488355328) (hok : ∀ f ∈ fs, f.2.length ≤ 140737488351232) (hat : At w a (fcells fs)) (ht : Pow w) :
    Calls Tryd.prog 9 #[.slice a fs.length cap] w fun e w' => e = .returned (.int .i64 (validR fs)) ∧ Below w.heap.size w w' := by
  have HT := Lib.hid ht
  cases fs with
  | nil =>
    go_enter Tryd.func9, Tryd.ntmps9
    go_wp2_with fail
    go_ret
    exact ⟨rfl, Below.refl _ _⟩
  | cons f r =>
    have HA := Lib.hid hat
    obtain ⟨f1, f2⟩ := f
    obtain ⟨b, off, rfl, c0, c1⟩ := fld_at hat 0 (by simp)
    simp only [List.getElem_cons_zero, Nat.zero_mul, Nat.add_zero] at c0 c1
    have HV1 := Lib.hid (fun h => @validR_bad (f1, f2) r h)
    have HV2 := Lib.hid (fun h1 h2 => @validR_ok (f1, f2) r h1 h2)
    have CB := Lib.hid (fun W hr h hp => rbody_calls ((f1, f2) :: r) (some ⟨b, off, none⟩) cap W hl hn hr h hp)
    have hn0 : ¬ ((((f1, f2) :: r).length : Int) = 0) := by simp; omega
    have hnb : ((((f1, f2) :: r).length : Int) == 0) = false := by simp; omega
    have hnp : 0 < ((f1, f2) :: r).length := by simp
    obtain ⟨vr, hvr⟩ : ∃ vr, vr = validR ((f1, f2) :: r) := ⟨_, rfl⟩
    rw [← hvr] at HV1 HV2 ⊢
    obtain ⟨fs, hfs⟩ : ∃ fs, fs = (f1, f2) :: r := ⟨_, rfl⟩
    rw [← hfs] at HV1 HV2 CB hn0 hnb hnp HA hok hl hn ⊢
    have HO := Lib.hid hok
    clear hat hvr hfs hok
    go_enter Tryd.func9, Tryd.ntmps9
    by_cases h35 : f1 = 35
    · subst h35
      go_wp2_with fail
      go_loopw [17] (fun i wr => ∃ k : Nat, k ≤ fs.length ∧ i = .int .i64 k ∧ At wr (some ⟨b, off, none⟩) (fcells fs) ∧ Below w.heap.size w wr ∧ Hid (∀ f ∈ fs.take k, rightF f = true)) (fun i _ => fs.length - (intOf i).toNat)
      case atStart => exact ⟨0, Nat.zero_le _, rfl, HA.out, Below.refl _ _, by simp [Hid]⟩
      case round =>
        obtain ⟨k, hk, rfl, hA, hB, HR⟩ := hrel
        by_cases hlt : k < fs.length
        · obtain ⟨_, _, e, d0, d1⟩ := fld_at hA k hlt
          cases e
          have C := fun W => rright_calls fs[k] W (HO.out _ (List.getElem_mem hlt))
          have hT := Lib.hid (fun h => badF_true hlt h)
          have hN := Lib.hid (show rightF fs[k] = true → ∀ f ∈ fs.take (k + 1), rightF f = true by
            intro h f hf
            rw [List.take_succ_eq_append_getElem hlt] at hf
            rcases List.mem_append.1 hf with hf | hf
            · exact HR.out f hf
            · rw [List.mem_singleton.1 hf]; exact h)
          have HAk := Lib.hid hA
          have HB := Lib.hid hB
          have hz := World.block_lt_of_cell? wr _ d0
          clear HR hA hB
          generalize fs[k] = f at *
          obtain ⟨t, s⟩ := f
          simp only at d0 d1 C
          have C := Lib.hid C
          cases hr : rightF (t, s) with
          | true =>
            have HX := Lib.hid (hN.out hr)
            rw [hr] at C
            clear hT hN hr
            go_wp2_with (go_at_call 18; refine (C.out _).mono ?_; rintro e w2 ⟨rfl, b2⟩)
            go_roundw
            case rel => exact ⟨k + 1, by omega, by go_num, (HAk.out.keep ((Below.refl _ _).alloc (Nat.le_refl _) _)).keep b2, (HB.out.alloc HB.out.size _).trans (b2.mono (HB.out.alloc HB.out.size _).size), HX.out⟩
            case measure => simp [intOf]; omega
          | false =>
            have HX := Lib.hid (HV1.out (.inr (hT.out hr)))
            rw [hr] at C
            clear hT hN hr
            go_wp2_with (go_at_call 18; refine (C.out _).mono ?_; rintro e w2 ⟨rfl, b2⟩)
            go_ret
            exact ⟨ret_int HX.out.symm, (HB.out.alloc HB.out.size _).trans (b2.mono (HB.out.alloc HB.out.size _).size)⟩
        · have hkk : k = fs.length := by omega
          subst hkk
          have hbad := badF_none HR.out
          have HV := Lib.hid (HV2.out (by first | rfl | trivial) hbad)
          have HRr := Lib.hid (badF_false hbad)
          have hbl := body_len HRr.out
          clear HR hbad HV1 HV2
          generalize bodyB fs = bb at *
          have hsz : (⟨bb.toArray⟩ : ByteArray).size = bb.length := rfl
          by_cases hbig : 4096 < bb.length
          · have hv := HV.out
            rw [if_pos hbig] at hv
            have HV' := Lib.hid hv
            have hbig' : (4096 : Int) < (bb.length : Int) := by omega
            clear hbig HV hv
            go_wp2_with (go_at_call 15; refine (CB.out _ HRr.out hA (HT.out.keep hB)).mono ?_; rintro e w3 ⟨rfl, b3⟩)
            go_ret
            exact ⟨ret_int HV'.out.symm, hB.trans (b3.mono hB.size)⟩
          · have hv := HV.out
            rw [if_neg hbig] at hv
            have HV' := Lib.hid hv
            have hbig' : ¬ (4096 : Int) < (bb.length : Int) := by omega
            clear hbig HV hv
            go_wp2_with (go_at_call 15; refine (CB.out _ HRr.out hA (HT.out.keep hB)).mono ?_; rintro e w3 ⟨rfl, b3⟩)
            go_ret
            exact ⟨ret_int HV'.out.symm, hB.trans (b3.mono hB.size)⟩
    · have HV := Lib.hid (HV1.out (.inl h35))
      have hne : (f1 != 35) = true := by simpa using h35
      clear HV1 HV2
      go_wp2_with fail
      go_ret
      exact ⟨ret_int HV.out.symm, Below.refl _ _⟩
end Go.Proofs.YthdibimclhndoaaDoor.TagW
