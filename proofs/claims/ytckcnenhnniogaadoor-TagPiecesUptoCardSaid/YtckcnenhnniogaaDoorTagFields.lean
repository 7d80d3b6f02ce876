/- The walk of tag.fields. -/
import Derived.Test.YtckcnenhnniogaaDoorTagAtoi
import Derived.Test.YtckcnenhnniogaaDoorTagEncode
set_option linter.unusedSimpArgs false
set_option linter.unusedVariables false
namespace Go.Proofs.YtckcnenhnniogaaDoor.TagW
open Go.RowKit Go.Proofs.YtckcnenhnniogaaDoor.Bas Go.Proofs.YtckcnenhnniogaaDoor.FixpM Go.Proofs.YtckcnenhnniogaaDoor.FixpW Go.Proofs.YtckcnenhnniogaaDoor.DecW Go.Proofs.YtckcnenhnniogaaDoor.FldW Go.Proofs.YtckcnenhnniogaaDoor.TagM

/-- between two fields -/
def FieldsR (l : List UInt8) (w : World) (inner out : Value) (wr : World) : Prop :=
  ∃ (os : List Fld) (r : List UInt8) (a ao : Option Addr) (cap co : Nat), inner = .slice a r.length cap ∧ out = .slice ao os.length co ∧ At wr a (u8s r) ∧ wr.ownsRow w.heap.size 39 2 out os.length (fcells os) ∧ Below w.heap.size w wr ∧ Hid (badF os = false) ∧ Hid (bodyB os ++ r = l) ∧ os.length + r.length ≤ l.length
theorem FieldsR.mk {l : List UInt8} {w : World} {inner out : Value} {wr : World} (os : List Fld) (r : List UInt8) (a ao : Option Addr) (cap co : Nat) (h1 : inner = .slice a r.length cap) (h2 : out = .slice ao os.length co) (h3 : At wr a (u8s r)) (h4 : wr.ownsRow w.heap.size 39 2 out os.length (fcells os)) (h5 : Below w.heap.size w wr) (h6 : badF os = false) (h7 : bodyB os ++ r = l) (h8 : os.length + r.length ≤ l.length) : FieldsR l w inner out wr := ⟨os, r, a, ao, cap, co, h1, h2, h3, h4, h5, h6, h7, h8⟩
/-- what the reading of a body answers -/
def FieldsV (l : List UInt8) (base : Nat) (e : Ending) (w' : World) : Prop :=
  ∃ v, e = .returned (.tuple #[v, .bool (splitR l).isSome]) ∧ ∀ fs, splitR l = some fs → w'.ownsRow base 39 2 v fs.length (fcells fs)
theorem FieldsV_no {l : List UInt8} {base : Nat} {w' : World} {v : Value} (h : splitR l = none) : FieldsV l base (.returned (.tuple #[v, .bool false])) w' :=
  ⟨v, by rw [h]; rfl, fun fs hf => by rw [h] at hf; cases hf⟩
theorem FieldsV_of {l : List UInt8} {base : Nat} {w' : World} {v : Value} {os : List Fld} {b : Bool} (h : splitR l = if b = true then some os else none) (ho : w'.ownsRow base 39 2 v os.length (fcells os)) : FieldsV l base (.returned (.tuple #[v, .bool b])) w' := by
  refine ⟨v, ?_, fun fs hf => ?_⟩
  · rw [h]; cases b <;> rfl
  · rw [h] at hf
    cases b with
    | false => cases hf
    | true => injection hf with hf; subst hf; exact ho
def sliceLen : Value → Nat
  | .slice _ n _ => n
  | _ => 0
set_option maxHeartbeats 2000000 in
set_option maxRecDepth 20000 in
theorem tfields_calls (l : List UInt8) (a : Option Addr) (cap : Nat) (w : World) (hl : l.length ≤ 40000) (hat : At w a (u8s l)) (E : Env w) :
    Calls Tryd.prog 27 #[.slice a l.length cap] w fun e w' => FieldsV l w.heap.size e w' ∧ Below w.heap.size w w' := by
  have HE := Lib.hid E
  have HA := Lib.hid hat
  clear E hat
  go_enter Tryd.func27, Tryd.ntmps27
  go_wp2_with fail
  go_loopw [0, 4] (FieldsR l w) (fun i _ _ => sliceLen i)
  case atStart => exact FieldsR.mk [] l a none cap 0 rfl rfl HA.out (World.ownsRow_nil _ _ _ _) (Below.refl _ _) rfl rfl (by simp)
  case round =>
    clear HA
    obtain ⟨os, r, ai, ao, ci, co, rfl, rfl, hA, hO, hB, HBad, HBody, hlen⟩ := hrel
    have HA := Lib.hid hA
    have HO := Lib.hid hO
    have HB := Lib.hid hB
    clear hA hO hB
    by_cases hr : r.length = 0
    · have hr0 : r = [] := List.eq_nil_of_length_eq_zero hr
      have HS := Lib.hid (split_is HBad.out (show bodyB os = l by have := HBody.out; rw [hr0, List.append_nil] at this; exact this))
      clear HBad HBody
      cases os with
      | nil =>
        clear hlen
        go_wp2_with fail
        go_quiet (fail)
        all_goals
          go_wp2_with fail
          exact bodyPost_ret (v := .tuple #[.slice ao 0 co, .bool false]) (by simp [results, Tryd.f27, go_sem]) rfl ⟨FieldsV_of HS.out (owns_below HO.out (below_drewN (Below.refl _ _) nq)), below_drewN HB.out nq⟩
      | cons f os =>
        obtain ⟨_, _, hv, _, _, hAt, _, _⟩ := at_of_owns HO.out
        cases hv
        obtain ⟨b, off, rfl, c0, c1⟩ := fld_at hAt 0 (by simp)
        have c0 : wr.cell? ⟨b, off, none⟩ = some (.int .i64 f.1) := by simpa using c0
        clear c1 hAt hlen
        have HS := Lib.hid (show splitR l = if (f.1 == 35) = true then some (f :: os) else none by rw [show (f.1 == 35) = decide (f.1 = 35) from rfl]; exact HS.out)
        go_wp2_with fail
        go_quiet (fail)
        all_goals
          go_wp2_with fail
          exact bodyPost_ret (v := .tuple #[.slice (some ⟨b, off, none⟩) (f :: os).length co, .bool (f.1 == 35)]) (by simp [results, Tryd.f27, go_sem]) rfl ⟨FieldsV_of HS.out (owns_below HO.out (below_drewN (Below.refl _ _) nq)), below_drewN HB.out nq⟩
    · have hne : r ≠ [] := fun h => hr (by rw [h]; rfl)
      have hpos : (0 : Int) < (r.length : Int) := by omega
      have hcv := run_back_at (P := Tryd.prog) (src := 25) (dst := 9) (cap := ci) Tryd.underlying25 Tryd.underlying5 Tryd.underlying9 HA.out
      have hl1 := cut_len 1 r
      have hl2 := cut_len 61 (cutA 1 r)
      have hl3 := fieldV_len r
      have hl4 := fun h => cut_shorter (c := 1) (r := r) h
      have K1 := Lib.hid (fun W => tcut_calls 1 r W (by omega))
      have K2 := Lib.hid (show ∀ W, Calls Tryd.prog 44 #[.string ⟨(cutA 1 r).toArray⟩, .string ⟨#[61]⟩] W fun e w' => e = .returned (.tuple #[.string ⟨(cutA 61 (cutA 1 r)).toArray⟩, .string ⟨(fieldV r).toArray⟩, .bool (decide (61 ∈ cutA 1 r))]) ∧ Below W.heap.size W w' from fun W => tcut_calls 61 (cutA 1 r) W (by omega))
      have K3 := Lib.hid (show ∀ W, Env W → Calls Tryd.prog 45 #[.string ⟨(cutA 61 (cutA 1 r)).toArray⟩] W fun e w' => ∃ x, e = .returned (.tuple #[.int .i64 (fieldN r), x]) ∧ Below W.heap.size W w' from fun W h => tatoi_calls (cutA 61 (cutA 1 r)) W (by omega) h)
      have K4 := Lib.hid (show ∀ W, Env W → Calls Tryd.prog 12 #[.int .i64 (fieldN r)] W fun e w' => e = .returned (.string ⟨(Lib.itoa (fieldN r)).toArray⟩) ∧ Below W.heap.size W w' from fun W h => titoa_calls (fieldN r) W (atoiN_bounds _).1 (atoiN_bounds _).2 h)
      have K5 := Lib.hid (fun W => right_calls (fieldN r, fieldV r) W)
      have HNO := Lib.hid (fun hn => fields_no HBad.out HBody.out hne hn)
      have HOK := Lib.hid (fun he hi hr' => fields_ok HBad.out HBody.out he hi hr')
      generalize cutA 61 (cutA 1 r) = nm at *
      generalize fieldN r = N at *
      generalize fieldV r = V at *
      generalize cutA 1 r = A1 at *
      generalize cutB 1 r = R1 at *
      generalize decide ((61 : UInt8) ∈ A1) = b61 at *
      clear hne
      obtain ⟨ed, hed⟩ : ∃ ed, ed = decide ((1 : UInt8) ∈ r) := ⟨_, rfl⟩
      rw [← hed] at K1
      have HED := Lib.hid hed
      clear hed
      go_upto_region 7 with (first
        | (go_at_call 44; refine (K1.out _).mono ?_; rintro e w1 ⟨rfl, b1⟩; clear K1)
        | (go_at_call 44; refine (K2.out _).mono ?_; rintro e w2 ⟨rfl, b2⟩; have B2 := b1.trans (b2.mono b1.size); clear K2)
        | (go_at_call 45; refine (K3.out _ (HE.out.keep (HB.out.trans (B2.mono HB.out.size)))).mono ?_; rintro e w3 ⟨x3, rfl, b3⟩; have B3 := B2.trans (b3.mono B2.size); clear K3))
      have XF := Box.new w3 39 #[.int .i64 N, .string ⟨V.toArray⟩]
      have B4 := B3.alloc B3.size (.cells #[.int .i64 N, .string ⟨V.toArray⟩] 39)
      clear hcv b1 b2 b3 B2 B3
      generalize w3.alloc (.cells #[.int .i64 N, .string ⟨V.toArray⟩] 39) = W at *
      have HB4 := Lib.hid B4
      clear B4
      cases ed with
      | false =>
        have HR := Lib.hid (HNO.out (fun h => by have := HED.out; rw [decide_eq_true h.1] at this; cases this))
        clear HNO HOK hlen hl4
        go_wp2_with fail
        exact bodyPost_ret (v := .tuple #[.slice none 0 0, .bool false]) (by simp [results, Tryd.f27, go_sem]) rfl ⟨FieldsV_no HR.out, HB.out.trans (HB4.out.mono HB.out.size)⟩
      | true =>
        have he : (1 : UInt8) ∈ r := of_decide_eq_true HED.out.symm
        have hl4 := hl4 he
        by_cases hi : Lib.itoa N = nm
        · subst hi
          cases hrt : rightF (N, V) with
          | false =>
            have HR := Lib.hid (HNO.out (fun h => by have := h.2.2; rw [hrt] at this; cases this))
            rw [hrt] at K5
            clear HNO HOK hlen hl4 hrt he
            go_wp2_with (first
              | (go_at_call 12; refine (K4.out _ (HE.out.keep (HB.out.trans (HB4.out.mono HB.out.size)))).mono ?_; rintro e w6 ⟨rfl, b6⟩; have f0 := (XF.keep b6).cell 0; have f1 := (XF.keep b6).cell 1; have B6 := HB4.out.trans (b6.mono HB4.out.size))
              | (go_at_call 19; refine (K5.out _).mono ?_; rintro e w7 ⟨rfl, b7⟩; have B7 := B6.trans (b7.mono B6.size)))
            exact bodyPost_ret (v := .tuple #[.slice none 0 0, .bool false]) (by simp [results, Tryd.f27, go_sem]) rfl ⟨FieldsV_no HR.out, HB.out.trans (B7.mono HB.out.size)⟩
          | true =>
            obtain ⟨ok1, ok2⟩ := HOK.out he rfl hrt
            have OK1 := Lib.hid ok1
            have OK2 := Lib.hid ok2
            rw [hrt] at K5
            clear HNO HOK hrt he ok1 ok2
            go_wp2_with (first
              | (go_at_call 12; refine (K4.out _ (HE.out.keep (HB.out.trans (HB4.out.mono HB.out.size)))).mono ?_; rintro e w6 ⟨rfl, b6⟩; have f0 := (XF.keep b6).cell 0; have f1 := (XF.keep b6).cell 1; have B6 := HB4.out.trans (b6.mono HB4.out.size); have X6 := XF.keep b6)
              | (go_at_call 19; refine (K5.out _).mono ?_; rintro e w7 ⟨rfl, b7⟩; have B7 := B6.trans (b7.mono B6.size); have f0 := (X6.keep b7).cell 0; have f1 := (X6.keep b7).cell 1)
              | (at_builtin; refine wpList_append_at _ rfl (.tmp 51) (.tmp 53) elemF rfl w.heap.size (.slice ao os.length co) os.length (fcells os) rfl (owns_below HO.out (B7.alloc B7.size _)) (some ⟨w7.heap.size, 0, none⟩) 1 1 (fcell (N, V)) rfl rfl (at_alloc w7 (fcell (N, V)).toArray _ _) (by simp [fcell, Value.oneCell']) (by unfold maxLen; omega) (by omega) (by have := HB.out.size; have := B7.size; simp; omega) ?_; intro v9 w9 own9 bel9 g9 ob9; obtain ⟨v10, w10, hcv10, own10, b10, hv10⟩ := run_bytes_M (P := Tryd.prog) w9 9 25 5 ⟨R1.toArray⟩ Tryd.underlying9 Tryd.underlying25 Tryd.underlying5 (by simp [ByteArray.size, maxLen]; omega) w9.heap.size (Nat.le_refl _)))
            obtain ⟨a10, c10, rfl, _, _, at10⟩ := (own_str (L := R1) own10 rfl).at_
            have own9' := owns_below own9 b10
            obtain ⟨a9, c9, rfl, _, _, _, _, _⟩ := at_of_owns own9'
            have B9 := (HB.out.trans ((B7.alloc B7.size _).mono HB.out.size)).trans bel9
            go_roundw
            case rel => exact FieldsR.mk (os ++ [(N, V)]) R1 a10 a9 c10 c9 rfl (by simp) at10 (by rw [fcells_append, fcells_one]; simpa using own9') (B9.trans (b10.mono B9.size)) OK1.out OK2.out (by simp; omega)
            case measure => simp [sliceLen]; omega
        · have HR := Lib.hid (HNO.out (fun h => hi h.2.1))
          clear HNO HOK hlen hl4 he
          go_wp2_with (go_at_call 12; refine (K4.out _ (HE.out.keep (HB.out.trans (HB4.out.mono HB.out.size)))).mono ?_; rintro e w6 ⟨rfl, b6⟩; have B6 := HB4.out.trans (b6.mono HB4.out.size))
          exact bodyPost_ret (v := .tuple #[.slice none 0 0, .bool false]) (by simp [results, Tryd.f27, go_sem]) rfl ⟨FieldsV_no HR.out, HB.out.trans (B6.mono HB.out.size)⟩
end Go.Proofs.YtckcnenhnniogaaDoor.TagW
