/- The walk of tag.size. -/
import Derived.Test.YtckcnenhnniogaaDoorTagDecMath
import Derived.Test.YtckcnenhnniogaaDoorTagValid
import Derived.Laws.BytesString
set_option linter.unusedSimpArgs false
set_option linter.unusedVariables false
namespace Go.Proofs.YtckcnenhnniogaaDoor.TagW
open Go.RowKit Go.Proofs.YtckcnenhnniogaaDoor.Bas Go.Proofs.YtckcnenhnniogaaDoor.FixpW Go.Proofs.YtckcnenhnniogaaDoor.DecW Go.Proofs.YtckcnenhnniogaaDoor.FldW Go.Proofs.YtckcnenhnniogaaDoor.TagM

theorem run_back_at {P : Program} {w : World} {e src dst : TypeId} {a : Option Addr} {cap : Nat} {L : List UInt8} (hs : P.underlying src = some (.slice e)) (he : P.underlying e = some (.int .u8)) (hd : P.underlying dst = some .string)
    (h : At w a (u8s L)) : (convert src dst (.slice a L.length cap)).run P w = .ok (.string ⟨L.toArray⟩) w := by
  cases L with
  | nil =>
    rw [run_convert_bytes_string w src dst e a _ _ hs he hd]
    cases a with
    | none => simp [Conv.bytesToString]; rfl
    | some x => simp [Conv.bytesToString, loadCells, loadCellsFrom]; rfl
  | cons b l =>
    obtain ⟨g, off, rfl, _⟩ := h 0 _ rfl
    refine run_convert_bytes_back w src dst e ⟨g, off, none⟩ _ (b :: l) hs he hd (fun j hj => ?_)
    obtain ⟨g', off', e2, hc⟩ := h j _ (u8s_get (b :: l) j hj)
    cases e2
    have hadd : (⟨g, off, none⟩ : Addr).add j = ⟨g, off + j, none⟩ := by unfold Addr.add; split <;> simp_all
    rw [hadd]; exact hc
theorem prefix_calls (l p : List UInt8) (w : World) : Calls Tryd.prog 34 #[.string ⟨l.toArray⟩, .string ⟨p.toArray⟩] w fun e w' => e = .returned (.bool (decide (p <+: l))) ∧ w = w' := by
  refine (Tryd.strings_HasPrefix ⟨l.toArray⟩ ⟨p.toArray⟩ w).mono ?_
  rintro e w' ⟨rfl, rfl⟩
  refine ⟨?_, rfl⟩
  congr 2
  unfold Lib.hasPrefix
  rw [Bool.eq_iff_iff]
  simp
/-- between two bytes of the number -/
def SizeR (s : List UInt8) (c : (Nat × Nat) × Int) (w : World) (n i : Value) (wr : World) : Prop := ∃ k m : Nat, 12 + k ≤ s.length ∧ i = .int .i64 k ∧ n = .int .i64 m ∧ m ≤ 4096 ∧ wr = w ∧ Hid (scanA (12 + k) m (s.drop (12 + k)) = c)
theorem badD_iff {x : UInt8} {m : Nat} : badD x m = true ↔ (x.toNat < 48 ∨ 57 < x.toNat ∨ (x.toNat = 48 ∧ m = 0) ∨ 4096 < m * 10 + (x.toNat - 48)) := by
  have h48 : x = 48 ↔ x.toNat = 48 := ⟨fun h => by rw [h]; rfl, fun h => UInt8.toNat_inj.1 h⟩
  unfold badD
  simp only [Bool.or_eq_true, Bool.and_eq_true, decide_eq_true_eq, Bool.not_eq_true', h48]
  constructor
  · rintro ((h | h) | h)
    · have : ¬ (48 ≤ x.toNat ∧ x.toNat ≤ 57) := fun hh => by rw [DecM.isD_iff.2 hh] at h; cases h
      omega
    · exact .inr (.inr (.inl h))
    · exact .inr (.inr (.inr h))
  · intro h
    by_cases h1 : 48 ≤ x.toNat ∧ x.toNat ≤ 57
    · rcases h with h | h | h | h
      · omega
      · omega
      · exact .inl (.inr h)
      · exact .inr h
    · left; left
      cases hd : DecM.isD x with
      | false => rfl
      | true => exact absurd (DecM.isD_iff.1 hd) h1
theorem ret_size {c : (Nat × Nat) × Int} {p n : Nat} {e : Int} {x y z : Value} (h : c = ((p, n), e)) (hx : x = .int .i64 (p : Int)) (hy : y = .int .i64 (n : Int)) (hz : z = .int .i64 e) :
    Ending.returned (.tuple #[x, y, z]) = .returned (.tuple #[.int .i64 (c.1.1 : Int), .int .i64 (c.1.2 : Int), .int .i64 c.2]) := by rw [h, hx, hy, hz]
theorem sizeR_short {s : List UInt8} (h1 : s.length < 12) (h2 : s <+: leadL) : sizeR s = ((0, 0), 10) := by unfold sizeR; rw [if_pos ⟨h1, h2⟩]
theorem sizeR_form {s : List UInt8} (h1 : ¬ (s.length < 12 ∧ s <+: leadL)) (h2 : ¬ leadL <+: s) : sizeR s = ((0, 0), 11) := by unfold sizeR; rw [if_neg h1, if_neg h2]
theorem sizeR_scan {s : List UInt8} (h1 : ¬ s.length < 12) (h2 : leadL <+: s) : sizeR s = scanA 12 0 (s.drop 12) := by unfold sizeR; rw [if_neg (fun h => h1 h.1), if_pos h2]
set_option maxHeartbeats 2000000 in
set_option maxRecDepth 20000 in
theorem tsize_calls (s : List UInt8) (a : Option Addr) (cap : Nat) (w : World) (hl : s.length ≤ 140737488351232) (hcap : s.length ≤ cap) (hat : At w a (u8s s)) :
    Calls Tryd.prog 23 #[.slice a s.length cap] w fun e w' => e = .returned (.tuple #[.int .i64 ((sizeR s).1.1 : Int), .int .i64 ((sizeR s).1.2 : Int), .int .i64 (sizeR s).2]) ∧ w = w' := by
  have hcv := run_back_at (P := Tryd.prog) (src := 25) (dst := 9) (cap := cap) Tryd.underlying25 Tryd.underlying5 Tryd.underlying9 hat
  have P1 : ∀ W, Calls Tryd.prog 34 #[.string ⟨#[56, 61, 70, 73, 88, 46, 52, 46, 52, 1, 57, 61]⟩, .string ⟨s.toArray⟩] W fun e w' => e = .returned (.bool (decide (s <+: leadL))) ∧ W = w' := fun W => prefix_calls leadL s W
  have P2 : ∀ W, Calls Tryd.prog 34 #[.string ⟨s.toArray⟩, .string ⟨#[56, 61, 70, 73, 88, 46, 52, 46, 52, 1, 57, 61]⟩] W fun e w' => e = .returned (.bool (decide (leadL <+: s))) ∧ W = w' := fun W => prefix_calls s leadL W
  by_cases hlen : s.length < 12
  · have hlen' : (s.length : Int) < 12 := by omega
    have hno : ¬ leadL <+: s := fun h => by
      have := h.length_le
      have : leadL.length = 12 := rfl
      omega
    by_cases hp : s <+: leadL
    · rw [decide_eq_true hp] at P1
      have HR := Lib.hid (sizeR_short hlen hp)
      have P1 := Lib.hid P1
      clear hlen hno hp P2 hat
      go_enter Tryd.func23, Tryd.ntmps23
      go_wp2_with (go_at_call 34; refine (P1.out _).mono ?_; rintro e w2 ⟨rfl, rfl⟩)
      exact bodyPost_ret (v := .tuple #[.int .i64 0, .int .i64 0, .int .i64 10]) (by simp [results, Tryd.f23, go_sem]) rfl ⟨ret_size HR.out rfl rfl rfl, rfl⟩
    · rw [decide_eq_false hp] at P1
      rw [decide_eq_false hno] at P2
      have HR := Lib.hid (sizeR_form (fun h => hp h.2) hno)
      have P1 := Lib.hid P1
      have P2 := Lib.hid P2
      clear hlen hno hp hat
      go_enter Tryd.func23, Tryd.ntmps23
      go_wp2_with (first | (go_at_call 34; refine (P1.out _).mono ?_; rintro e w2 ⟨rfl, rfl⟩; clear P1) | (go_at_call 34; refine (P2.out _).mono ?_; rintro e w2 ⟨rfl, rfl⟩))
      exact bodyPost_ret (v := .tuple #[.int .i64 0, .int .i64 0, .int .i64 11]) (by simp [results, Tryd.f23, go_sem]) rfl ⟨ret_size HR.out rfl rfl rfl, rfl⟩
  · have hlen' : ¬ (s.length : Int) < 12 := by omega
    clear P1
    by_cases hp : leadL <+: s
    · rw [decide_eq_true hp] at P2
      have HR := Lib.hid (sizeR_scan hlen hp)
      have P2 := Lib.hid P2
      clear hp
      obtain ⟨g, off, rfl, hc00⟩ := hat 0 _ (u8s_get s 0 (by omega))
      clear hc00
      have HA := Lib.hid hat
      clear hat
      have hle : 12 ≤ s.length := by omega
      obtain ⟨c, hc⟩ : ∃ c, c = sizeR s := ⟨_, rfl⟩
      rw [← hc] at HR ⊢
      clear hc hlen
      go_enter Tryd.func23, Tryd.ntmps23
      go_upto_region 6 with (go_at_call 34; refine (P2.out _).mono ?_; rintro e w2 ⟨rfl, rfl⟩)
      clear hcv P2
      by_cases h12 : s.length = 12
      · have HE := Lib.hid (scanA_end (Nat.le_of_eq h12) HR.out.symm)
        have h12' : (s.length : Int) = 12 := by omega
        have hz : (s.length : Int) - 12 = 0 := by omega
        go_wp2_with fail
        all_goals
          go_loopw [6, 30] (fun n i wr => i = .int .i64 0 ∧ wr = w) (fun _ i _ => 0)
          case atStart => exact ⟨rfl, rfl⟩
          case round =>
            obtain ⟨rfl, rfl⟩ := hrel
            go_wp2_with fail
            exact bodyPost_ret (v := .tuple #[.int .i64 0, .int .i64 0, .int .i64 10]) (by simp [results, Tryd.f23, go_sem]) rfl ⟨ret_size HE.out rfl rfl rfl, rfl⟩
      have hc12 : ¬ cap = 12 := by omega
      go_wp2_with fail
      go_loopw [6, 30] (SizeR s c w) (fun _ i _ => s.length - (intOf i).toNat)
      case atStart => exact ⟨0, 0, by omega, rfl, rfl, by omega, rfl, HR.out.symm⟩
      case round =>
        obtain ⟨k, m, hk, rfl, rfl, hm, hw, HS⟩ := hrel
        rw [hw]
        clear hw
        by_cases hlt : 12 + k < s.length
        · have hltI : (k : Int) < (s.length : Int) - 12 := by omega
          obtain ⟨_, _, e, c0⟩ := HA.out (12 + k) _ (u8s_get s (12 + k) hlt)
          cases e
          rw [← Nat.add_assoc] at c0
          have hS1 := Lib.hid (fun h1 h2 => scanA_step hlt HS.out h1 h2)
          have hS2 := Lib.hid (fun h1 h2 => scanA_hit hlt HS.out h1 h2)
          have hS3 := Lib.hid (fun h1 h2 => scanA_bad hlt HS.out h1 h2)
          have hw1 : IntKind.i64.wrap (12 + (k : Int)) = 12 + (k : Int) := IntWalk.i64_in _ (by omega)
          have hw2 : IntKind.i64.wrap (12 + (k : Int) + 1) = 12 + (k : Int) + 1 := IntWalk.i64_in _ (by omega)
          clear HS
          generalize s[12 + k] = x at *
          have hone : x = 1 ↔ x.toNat = 1 := ⟨fun h => by rw [h]; rfl, fun h => UInt8.toNat_inj.1 h⟩
          have hx := x.toNat_lt
          rw [badD_iff, hone] at hS3
          rw [hone] at hS1 hS2
          have hS1' := Lib.hid (fun h1 h2 => hS1.out h1 (by cases hb : badD x m with | false => rfl | true => exact absurd (badD_iff.1 hb) h2))
          clear hS1 hone
          generalize x.toNat = X at *
          by_cases h1 : X = 1
          · subst h1
            by_cases hm1 : 1 ≤ m
            · have HX := Lib.hid (hS2.out rfl hm1)
              have hm1' : (1 : Int) ≤ (m : Int) := by omega
              clear hS1' hS2 hS3
              go_wp2_with fail
              exact bodyPost_ret (v := .tuple #[.int .i64 (12 + (k : Int) + 1), .int .i64 (m : Int), .int .i64 0]) (by simp [results, Tryd.f23, go_sem]) rfl ⟨ret_size HX.out (by congr 1) rfl rfl, rfl⟩
            · have HX := Lib.hid (hS3.out (fun h => hm1 h.2) (.inl (by omega)))
              have hm1' : ¬ (1 : Int) ≤ (m : Int) := by omega
              clear hS1' hS2 hS3
              go_wp2_with fail
              exact bodyPost_ret (v := .tuple #[.int .i64 0, .int .i64 0, .int .i64 11]) (by simp [results, Tryd.f23, go_sem]) rfl ⟨ret_size HX.out rfl rfl rfl, rfl⟩
          · have n1 : ((X : Int) == 1) = false := by simp; omega
            by_cases h2 : X < 48
            · have HX := Lib.hid (hS3.out (fun h => h1 h.1) (.inl h2))
              have h2' : (X : Int) < 48 := by omega
              clear hS1' hS2 hS3
              go_wp2_with fail
              exact bodyPost_ret (v := .tuple #[.int .i64 0, .int .i64 0, .int .i64 11]) (by simp [results, Tryd.f23, go_sem]) rfl ⟨ret_size HX.out rfl rfl rfl, rfl⟩
            · have h2' : ¬ (X : Int) < 48 := by omega
              by_cases h3 : 57 < X
              · have HX := Lib.hid (hS3.out (fun h => h1 h.1) (.inr (.inl h3)))
                have h3' : (57 : Int) < (X : Int) := by omega
                clear hS1' hS2 hS3
                go_wp2_with fail
                exact bodyPost_ret (v := .tuple #[.int .i64 0, .int .i64 0, .int .i64 11]) (by simp [results, Tryd.f23, go_sem]) rfl ⟨ret_size HX.out rfl rfl rfl, rfl⟩
              · have h3' : ¬ (57 : Int) < (X : Int) := by omega
                obtain ⟨D, hD⟩ : ∃ D : Nat, D = X - 48 := ⟨_, rfl⟩
                have hDle : D ≤ 9 := by omega
                have hw3 : IntKind.u8.wrap ((X : Int) - 48) = (D : Int) := by rw [IntKind.wrap_u8]; omega
                have hw4 : IntKind.i64.wrap (m * 10 : Int) = (m * 10 : Int) := IntWalk.i64_in _ (by omega)
                have hw5 : IntKind.i64.wrap (D : Int) = (D : Int) := IntWalk.i64_in _ (by omega)
                have hw6 : IntKind.i64.wrap ((m : Int) * 10 + (D : Int)) = (m : Int) * 10 + (D : Int) := IntWalk.i64_in _ (by omega)
                rw [← hD] at hS1' hS3
                have HDX := Lib.hid hD
                clear hD
                by_cases h4 : X = 48 ∧ m = 0
                · have HX := Lib.hid (hS3.out (fun h => h1 h.1) (.inr (.inr (.inl h4))))
                  obtain ⟨rfl, rfl⟩ := h4
                  clear hS1' hS2 hS3 hw3 hw4 hw5 hw6
                  go_wp2_with fail
                  exact bodyPost_ret (v := .tuple #[.int .i64 0, .int .i64 0, .int .i64 11]) (by simp [results, Tryd.f23, go_sem]) rfl ⟨ret_size HX.out rfl rfl rfl, rfl⟩
                · by_cases hX : X = 48
                  · skip
                    obtain rfl : D = 0 := by have := HDX.out; omega
                    subst hX
                    have n5 : ((m : Int) == 0) = false := by simp; omega
                    by_cases h5 : 4096 < m * 10
                    · have HX := Lib.hid (hS3.out (fun h => h1 h.1) (.inr (.inr (.inr (by omega)))))
                      have h5' : (4096 : Int) < (m : Int) * 10 := by omega
                      clear hS1' hS2 hS3
                      go_wp2_with fail
                      exact bodyPost_ret (v := .tuple #[.int .i64 0, .int .i64 0, .int .i64 11]) (by simp [results, Tryd.f23, go_sem]) rfl ⟨ret_size HX.out rfl rfl rfl, rfl⟩
                    · have HX := Lib.hid (hS1'.out (fun h => h1 h.1) (by have := HDX.out; omega))
                      have h5' : ¬ (4096 : Int) < (m : Int) * 10 := by omega
                      have HM := Lib.hid (show m * 10 ≤ 4096 by omega)
                      have HK := Lib.hid (show 12 + (k + 1) ≤ s.length by omega)
                      clear hS1' hS2 hS3
                      go_wp2_with fail
                      go_roundw
                      case rel => exact ⟨k + 1, m * 10, HK.out, by go_num, by go_num, HM.out, rfl, HX.out⟩
                      case measure => have := HK.out; simp [intOf]; omega
                  · skip
                    have n6 : ((X : Int) == 48) = false := by simp; omega
                    by_cases h5 : 4096 < m * 10 + D
                    · have HX := Lib.hid (hS3.out (fun h => h1 h.1) (.inr (.inr (.inr (by omega)))))
                      have h5' : (4096 : Int) < (m : Int) * 10 + (D : Int) := by omega
                      clear hS1' hS2 hS3
                      go_wp2_with fail
                      exact bodyPost_ret (v := .tuple #[.int .i64 0, .int .i64 0, .int .i64 11]) (by simp [results, Tryd.f23, go_sem]) rfl ⟨ret_size HX.out rfl rfl rfl, rfl⟩
                    · have HX := Lib.hid (hS1'.out (fun h => h1 h.1) (by have := HDX.out; omega))
                      have h5' : ¬ (4096 : Int) < (m : Int) * 10 + (D : Int) := by omega
                      have HM := Lib.hid (show m * 10 + D ≤ 4096 by omega)
                      have HK := Lib.hid (show 12 + (k + 1) ≤ s.length by omega)
                      clear hS1' hS2 hS3
                      go_wp2_with fail
                      go_roundw
                      case rel => exact ⟨k + 1, m * 10 + D, HK.out, by go_num, by go_num, HM.out, rfl, HX.out⟩
                      case measure => have := HK.out; simp [intOf]; omega
        · have HX := Lib.hid (scanA_end (by omega) HS.out)
          have hltI : ¬ (k : Int) < (s.length : Int) - 12 := by omega
          clear HS
          go_wp2_with fail
          exact bodyPost_ret (v := .tuple #[.int .i64 0, .int .i64 0, .int .i64 10]) (by simp [results, Tryd.f23, go_sem]) rfl ⟨ret_size HX.out rfl rfl rfl, rfl⟩
    · rw [decide_eq_false hp] at P2
      have HR := Lib.hid (sizeR_form (fun h => hlen h.1) hp)
      have P2 := Lib.hid P2
      clear hp hat hlen
      go_enter Tryd.func23, Tryd.ntmps23
      go_wp2_with (go_at_call 34; refine (P2.out _).mono ?_; rintro e w2 ⟨rfl, rfl⟩)
      exact bodyPost_ret (v := .tuple #[.int .i64 0, .int .i64 0, .int .i64 11]) (by simp [results, Tryd.f23, go_sem]) rfl ⟨ret_size HR.out rfl rfl rfl, rfl⟩
end Go.Proofs.YtckcnenhnniogaaDoor.TagW
