/- The walks of skip, the program's and the document's. -/
import Derived.Test.YtckcnenhnniogaaDoorTagSkipMath
import Derived.Lib.SlBytesConst
set_option linter.unusedSimpArgs false
set_option linter.unusedVariables false
namespace Go.Proofs.YtckcnenhnniogaaDoor.TagW
open Go.RowKit Go.Proofs.YtckcnenhnniogaaDoor.Bas Go.Proofs.YtckcnenhnniogaaDoor.FixpW Go.Proofs.YtckcnenhnniogaaDoor.DecW Go.Proofs.YtckcnenhnniogaaDoor.FldW Go.Proofs.YtckcnenhnniogaaDoor.TagM

theorem At.drop {w : World} {g off : Nat} {L : List UInt8} (h : At w (some ⟨g, off, none⟩) (u8s L)) (n : Nat) : At w (some ⟨g, off + n, none⟩) (u8s (L.drop n)) := by
  intro j u hj
  have hj' : (u8s L)[n + j]? = some u := by
    rw [← hj]; unfold u8s; rw [List.map_drop, List.getElem?_drop]
  obtain ⟨g', off', e, hc⟩ := h (n + j) u hj'
  cases e
  exact ⟨g, off + n, rfl, by rw [Nat.add_assoc]; exact hc⟩
theorem nums_bytes (l : List UInt8) : Lib.bytesOf (l.map fun b => (b.toNat : Int)) = l := by
  unfold Lib.bytesOf
  rw [List.map_map]
  conv => rhs; rw [← List.map_id l]
  apply List.map_congr_left
  intro b _
  simp
theorem index_calls (s p : List UInt8) (g off c1 h o2 c2 : Nat) (w : World) (m : Int) (hs : s.length ≤ c1) (hl : s.length < 4294967281) (hp : p.length ≤ 9223372036854775807)
    (h1 : At w (some ⟨g, off, none⟩) (u8s s)) (h2 : At w (some ⟨h, o2, none⟩) (u8s p)) (hm : w.cell? ⟨1, 0, none⟩ = some (.int .i64 m)) :
    Calls Tryd.prog 35 #[.slice (some ⟨g, off, none⟩) s.length c1, .slice (some ⟨h, o2, none⟩) p.length c2] w fun e w' => e = .returned (.int .i64 (Lib.index s p)) ∧ ∃ q, w' = w.drewN q := by
  have key : ∀ (l : List UInt8) (g off : Nat), At w (some ⟨g, off, none⟩) (u8s l) → ∀ i, i < l.length → w.cell? ((⟨g, off, none⟩ : Addr).add i) = some (.int .u8 ((l.map fun b => (b.toNat : Int)).getD i 0)) := by
    intro l g off ha i hi
    obtain ⟨g', off', e, hc⟩ := ha i _ (u8s_get l i hi)
    cases e
    have hadd : (⟨g, off, none⟩ : Addr).add i = ⟨g, off + i, none⟩ := by unfold Addr.add; split <;> simp_all
    rw [hadd, hc]
    simp [hi]
  have hr : ∀ l : List UInt8, ∀ x ∈ l.map (fun b => (b.toNat : Int)), 0 ≤ x ∧ x < 256 := by
    intro l x hx
    obtain ⟨b, _, rfl⟩ := List.mem_map.1 hx
    have := b.toNat_lt
    omega
  refine (Tryd.bytes_Index_at ⟨g, off, none⟩ ⟨h, o2, none⟩ s.length c1 p.length c2 (s.map fun b => (b.toNat : Int)) (p.map fun b => (b.toNat : Int)) m w (by simp) (by simp) (hr s) (hr p) (key s g off h1) (key p h o2 h2) hs hl hp hm).mono ?_
  rintro e w' ⟨rfl, h⟩
  rw [nums_bytes, nums_bytes]
  exact ⟨rfl, h⟩
/-- between two places of the search -/
def SkipA (s : List UInt8) (w : World) (i : Value) (wr : World) : Prop := ∃ n : Nat, 1 ≤ n ∧ i = .int .i64 n ∧ wr = w ∧ Hid (∀ j, 1 ≤ j → j < n → ¬ hdrB <+: s.drop j) ∧ n ≤ s.length + 1
def SkipB (s : List UInt8) (w : World) (i : Value) (wr : World) : Prop := ∃ n : Nat, 1 ≤ n ∧ i = .int .i64 n ∧ wr = w ∧ Hid (∀ j, 1 ≤ j → j < n → ¬ s.drop j <+: hdrB) ∧ n ≤ s.length + 1
theorem extract_drop (s : List UInt8) (n : Nat) : (⟨s.toArray⟩ : ByteArray).extract n s.length = ⟨(s.drop n).toArray⟩ := by
  apply ByteArray.ext
  rw [ByteArray.data_extract]
  apply Array.toList_inj.1
  simp
  exact List.take_of_length_le (by simp)
theorem at_hdr (w : World) : At (w.alloc (.cells #[.int .u8 56, .int .u8 61, .int .u8 70, .int .u8 73, .int .u8 88, .int .u8 46, .int .u8 52, .int .u8 46, .int .u8 52, .int .u8 1] 5 (10, 11))) (some ⟨w.heap.size, 0, none⟩) (u8s hdrB) := at_alloc w (u8s hdrB).toArray 5 (10, 11)
theorem index_hdr (s : List UInt8) (g off : Nat) (w : World) (m : Int) (hl : s.length ≤ 4294967280) (h1s : 1 ≤ s.length) (hat : At w (some ⟨g, off, none⟩) (u8s s)) (hm : w.cell? ⟨1, 0, none⟩ = some (.int .i64 m)) (W : World) (A : Option Addr) (c : Nat) (hA : A = some ⟨g, off + 1, none⟩ ∨ s.length ≤ 10) (hc : s.length - 1 ≤ c) (b : Below w.heap.size w W) (ah : At W (some ⟨w.heap.size, 0, none⟩) (u8s hdrB)) :
    Calls Tryd.prog 35 #[.slice A (s.length - 1) c, .slice (some ⟨w.heap.size, 0, none⟩) 10 10] W fun e w' => e = .returned (.int .i64 (Lib.index (s.drop 1) hdrB)) ∧ Below w.heap.size w w' := by
  by_cases hlong : s.length ≤ 10
  · rcases skip_index h1s with ⟨i, _, h2, _⟩ | ⟨h, _⟩
    · omega
    · rw [h]
      refine (Tryd.bytes_Index_longer A _ (s.length - 1) c 10 10 W (by decide) (by omega) (by decide)).mono ?_
      rintro e w' ⟨rfl, rfl⟩
      exact ⟨rfl, b⟩
  · rcases hA with rfl | h
    · have hd : (s.drop 1).length = s.length - 1 := by simp
      have := index_calls (s.drop 1) hdrB g (off + 1) c w.heap.size 0 10 W m (by omega) (by omega) (by decide) (At.drop (hat.keep b) 1) ah ((b.cell (World.block_lt_of_cell? w _ hm)).trans hm)
      rw [hd] at this
      refine this.mono ?_
      rintro e w' ⟨rfl, q, rfl⟩
      exact ⟨rfl, below_drewN b q⟩
    · omega
set_option maxHeartbeats 1000000 in
set_option maxRecDepth 20000 in
theorem tskip_calls (s : List UInt8) (a : Option Addr) (cap : Nat) (w : World) (m : Int) (hl : s.length ≤ 4294967280) (h1s : 1 ≤ s.length) (hcap : s.length ≤ cap) (hat : At w a (u8s s)) (hm : w.cell? ⟨1, 0, none⟩ = some (.int .i64 m)) :
    Calls Tryd.prog 24 #[.slice a s.length cap] w fun e w' => e = .returned (.int .i64 (skipR s)) ∧ Below w.heap.size w w' := by
  obtain ⟨g, off, rfl, hc0⟩ := hat 0 _ (u8s_get s 0 (by omega))
  clear hc0
  have HI := fun W A c => index_hdr s g off w m hl h1s hat hm W A c
  have HA := Lib.hid hat
  have bH := Lib.hid ((Below.refl w.heap.size w).alloc (Nat.le_refl _) (.cells #[.int .u8 56, .int .u8 61, .int .u8 70, .int .u8 73, .int .u8 88, .int .u8 46, .int .u8 52, .int .u8 46, .int .u8 52, .int .u8 1] 5 (10, 11)))
  have hcc := Lib.run_convert_bytes_const (P := Tryd.prog) w 25 5 #[.int .u8 56, .int .u8 61, .int .u8 70, .int .u8 73, .int .u8 88, .int .u8 46, .int .u8 52, .int .u8 46, .int .u8 52, .int .u8 1] 10 10 Tryd.underlying25 Tryd.underlying5
  rw [show (#[.int .u8 56, .int .u8 61, .int .u8 70, .int .u8 73, .int .u8 88, .int .u8 46, .int .u8 52, .int .u8 46, .int .u8 52, .int .u8 1] : Array Value).size = 10 from rfl] at hcc
  have aH := Lib.hid (at_hdr w)
  clear hat hm
  rcases skip_index h1s with ⟨i, hi, hi2, hR⟩ | ⟨hi, h0⟩
  · rw [hi] at HI
    have HI := Lib.hid HI
    have HR := Lib.hid hR
    have hc1 : ¬ cap = 1 := by omega
    have hw1 : IntKind.i64.wrap (1 + (i : Int)) = 1 + (i : Int) := IntWalk.i64_in _ (by omega)
    have hge : (0 : Int) ≤ (i : Int) := by omega
    clear hi hR
    go_enter Tryd.func24, Tryd.ntmps24
    go_wp2_with (go_at_call 35; refine (HI.out _ _ _ (.inl rfl) (by omega) bH.out aH.out).mono ?_; rintro e w2 ⟨rfl, b2⟩)
    go_ret
    exact ⟨by rw [HR.out]; exact congrArg (fun x => Ending.returned (Value.int .i64 x)) (show (1 + (i : Int)) = ((i + 1 : Nat) : Int) by omega), b2⟩
  · rw [hi] at HI
    have HI := Lib.hid HI
    have H0 := Lib.hid h0
    clear hi h0
    have hB := Lib.hid (fun n W => prefix_calls hdrB (s.drop n) W)
    go_enter Tryd.func24, Tryd.ntmps24
    by_cases hc1 : cap = 1
    · go_upto_region 4 with (go_at_call 35; refine (HI.out _ _ _ (by first | exact .inr (by omega) | exact .inl rfl) (by omega) bH.out aH.out).mono ?_; rintro e w2 ⟨rfl, b2⟩)
      have HA2 := Lib.hid (HA.out.keep b2)
      obtain ⟨n0, hn0⟩ : ∃ n0, n0 = max 1 (s.length - 9) := ⟨_, rfl⟩
      have hmx : (max 1 ((s.length : Int) - 10 + 1)) = (n0 : Int) := by omega
      have H1 := Lib.hid (show ∀ j, 1 ≤ j → j < n0 → ¬ s.drop j <+: hdrB from fun j a b => skip_late H0.out a (by omega))
      have h0a : 1 ≤ n0 := by omega
      have h0b : n0 ≤ s.length + 1 := by omega
      clear hcc HI HA hn0
      go_wp2_with fail
      go_loopw [4] (SkipB s w2) (fun i _ => s.length + 1 - (intOf i).toNat)
      case atStart => exact ⟨n0, h0a, rfl, rfl, H1.out, h0b⟩
      case round =>
        clear hmx H1 h0a h0b
        obtain ⟨n, hn1, rfl, hw, HN, hn2⟩ := hrel
        rw [hw]
        clear hw
        have hlt : ¬ n < s.length := by omega
        have hltI : ¬ (n : Int) < (s.length : Int) := by omega
        have HR := Lib.hid (skip_none h1s H0.out (fun j a b => HN.out j a (by omega)))
        clear HN H0 hB
        go_wp2_with fail
        go_ret
        exact ⟨by rw [HR.out]; rfl, b2⟩
    · go_upto_region 4 with (go_at_call 35; refine (HI.out _ _ _ (by first | exact .inr (by omega) | exact .inl rfl) (by omega) bH.out aH.out).mono ?_; rintro e w2 ⟨rfl, b2⟩)
      have HA2 := Lib.hid (HA.out.keep b2)
      obtain ⟨n0, hn0⟩ : ∃ n0, n0 = max 1 (s.length - 9) := ⟨_, rfl⟩
      have hmx : (max 1 ((s.length : Int) - 10 + 1)) = (n0 : Int) := by omega
      have H1 := Lib.hid (show ∀ j, 1 ≤ j → j < n0 → ¬ s.drop j <+: hdrB from fun j a b => skip_late H0.out a (by omega))
      have h0a : 1 ≤ n0 := by omega
      have h0b : n0 ≤ s.length + 1 := by omega
      clear hcc HI HA hn0
      go_wp2_with fail
      go_loopw [4] (SkipB s w2) (fun i _ => s.length + 1 - (intOf i).toNat)
      case atStart => exact ⟨n0, h0a, rfl, rfl, H1.out, h0b⟩
      case round =>
        clear hmx H1 h0a h0b
        obtain ⟨n, hn1, rfl, hw, HN, hn2⟩ := hrel
        rw [hw]
        clear hw
        by_cases hlt : n < s.length
        · have hltI : (n : Int) < (s.length : Int) := by omega
          have hcn : ¬ cap = n := by omega
          have hdl : (s.drop n).length = s.length - n := by simp
          have hcv := run_back_at (P := Tryd.prog) (src := 25) (dst := 9) (cap := cap - n) Tryd.underlying25 Tryd.underlying5 Tryd.underlying9 (At.drop HA2.out n)
          rw [hdl] at hcv
          by_cases hp : s.drop n <+: hdrB
          · have P := Lib.hid (hB.out n)
            rw [decide_eq_true hp] at P
            have HR := Lib.hid (skip_B hn1 hlt H0.out HN.out hp)
            clear hB hp HN H0
            go_wp2_with (go_at_call 34; refine (P.out _).mono ?_; rintro e w3 ⟨rfl, rfl⟩)
            go_ret
            exact ⟨by rw [HR.out]; rfl, b2⟩
          · have P := Lib.hid (hB.out n)
            rw [decide_eq_false hp] at P
            have HX := Lib.hid (show ∀ j, 1 ≤ j → j < n + 1 → ¬ s.drop j <+: hdrB from fun j a b => by
              rcases (by omega : j < n ∨ j = n) with h | rfl
              · exact HN.out j a h
              · exact hp)
            clear hB hp HN
            go_wp2_with (go_at_call 34; refine (P.out _).mono ?_; rintro e w3 ⟨rfl, rfl⟩)
            go_roundw
            case rel => exact ⟨n + 1, by omega, by go_num, rfl, HX, by omega⟩
            case measure => simp [intOf]; omega
        · have hltI : ¬ (n : Int) < (s.length : Int) := by omega
          have HR := Lib.hid (skip_none h1s H0.out (fun j a b => HN.out j a (by omega)))
          clear HN H0 hB
          go_wp2_with fail
          go_ret
          exact ⟨by rw [HR.out]; rfl, b2⟩
end Go.Proofs.YtckcnenhnniogaaDoor.TagW
