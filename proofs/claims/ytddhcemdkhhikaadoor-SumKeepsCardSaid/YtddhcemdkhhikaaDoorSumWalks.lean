/- The walks of the four sums: each computes its list function. -/
import Derived.Test.YtddhcemdkhhikaaDoorBase
import Derived.Test.YtddhcemdkhhikaaDoorSumMath
import Derived.Test.YtddhcemdkhhikaaDoorRows
import Derived.WalkSpells
import Derived.WalkLawsBesides
import Derived.Laws.BitsAllLaws
import Derived.Lib.SlBytesConst
namespace Go.Proofs.YtddhcemdkhhikaaDoor.SumW
open Go.RowKit Go.Proofs.YtddhcemdkhhikaaDoor.Bas Go.Proofs.YtddhcemdkhhikaaDoor.SumM

def nats (l : List UInt8) : List Nat := l.map UInt8.toNat
/-- the table lies in its variable -/
def Tab (w : World) : Prop := ∀ i : Nat, i < 16 → w.cell? ⟨0, i, none⟩ = some (.int .u32 (half.getD i 0 : Nat))

theorem crcS_snoc (l : List Nat) (x : Nat) (s : Nat) : crcS s (l ++ [x]) = T (crcS s l ^^^ x) := by simp [crcS]
theorem take_snoc (l : List UInt8) (k : Nat) (h : k < l.length) : nats (l.take (k + 1)) = nats (l.take k) ++ [l[k].toNat] := by
  unfold nats
  rw [List.take_succ_eq_append_getElem h, List.map_append]; rfl
theorem nats_lt (l : List UInt8) : ∀ x ∈ nats l, x < 256 := by
  intro x hx
  simp only [nats, List.mem_map] at hx
  obtain ⟨y, _, rfl⟩ := hx
  exact y.toNat_lt
theorem ret_u32 {a b : Int} (h : a = b) : Ending.returned (.int .u32 a) = .returned (.int .u32 b) := by rw [h]

theorem not_u32 (m : Nat) (h : m < 4294967296) : bits .xor .u32 IntKind.u32.max (m : Int) = ((m ^^^ 4294967295 : Nat) : Int) := by
  have e : IntKind.u32.max = ((4294967295 : Nat) : Int) := by decide
  rw [e, u32_xor_nat _ _ (by omega) h, Nat.xor_comm]

set_option maxHeartbeats 400000 in
theorem crc_calls (a : Option Addr) (cap : Nat) (l : List UInt8) (w : World) (hbig : l.length ≤ 9223372036854775807) (hc : At w a (u8s l)) (ht : Tab w) :
    Calls Tryd.prog 8 #[.slice a l.length cap] w fun e w' => e = .returned (.int .u32 (crcN (nats l) : Nat)) ∧ w = w' := by
  go_enter Tryd.func8, Tryd.ntmps8
  go_wp2
  go_loop [3, 8] (fun n i => ∃ k m : Nat, k ≤ l.length ∧ i = .int .i64 k ∧ n = .int .u32 m ∧ m < 4294967296 ∧ Hid (m = crcS 4294967295 (nats (l.take k))))
    (fun _ i => l.length - (intOf i).toNat)
  case atStart => exact ⟨0, 4294967295, by omega, rfl, rfl, by omega, rfl⟩
  case round =>
    obtain ⟨k, m, hk, rfl, rfl, hm, H⟩ := hrel
    by_cases hlt : k < l.length
    · obtain ⟨b, off, rfl, hcell⟩ := hc k _ (u8s_get l k hlt)
      clear hc
      have hts := Lib.hid (take_snoc l k hlt)
      generalize l[k] = x at hcell hts
      have hx : x.toNat < 256 := x.toNat_lt
      have e1 : bits .xor .u32 (m : Int) (x.toNat : Int) = ((m ^^^ x.toNat : Nat) : Int) := u32_xor_nat _ _ hm (by omega)
      have hmx : m ^^^ x.toNat < 4294967296 := Nat.xor_lt_two_pow (n := 32) hm (by omega)
      go_wp2
      go_loop [3, 16] (fun n i => ∃ k q : Nat, k ≤ 2 ∧ i = .int .i64 k ∧ n = .int .u32 q ∧ q < 4294967296 ∧ Hid (q = iter nib k (m ^^^ x.toNat)))
        (fun _ i => 2 - (intOf i).toNat)
      case atStart => exact ⟨0, m ^^^ x.toNat, by omega, rfl, rfl, hmx, rfl⟩
      case round =>
        obtain ⟨j, q, hj, rfl, rfl, hq, Hq⟩ := hrel
        by_cases hjt : j < 2
        · have h1 := ht (q % 16) (by omega)
          have hn := nib_lt q hq
          have e2 : bits .and .u32 (q : Int) 15 = ((q % 16 : Nat) : Int) := by
            have := u32_and_nat q 15 hq (by omega)
            rw [nat_mask4] at this; exact this
          have hh : half.getD (q % 16) 0 < 4294967296 := by
            have : ∀ i, i < 16 → half.getD i 0 < 4294967296 := by decide
            exact this _ (by omega)
          have e3 : bits .xor .u32 (q / 16 : Int) (half.getD (q % 16) 0 : Nat) = ((nib q : Nat) : Int) := u32_xor_nat (q / 16) _ (by omega) hh
          clear ht hh
          generalize half.getD (q % 16) 0 = hv at h1 e3
          generalize hnq : nib q = nq at e3 hn
          have Hnq := Lib.hid hnq
          clear hnq
          go_wp2
          go_round
          case rel => exact ⟨j + 1, nq, by omega, by go_num, rfl, hn, by show nq = nib (iter nib j _); rw [← Hq.out, Hnq.out]⟩
          case measure => simp [intOf]; omega
        · have : j = 2 := by omega
          subst this
          go_wp2
          go_round
          case rel => exact ⟨k + 1, q, by omega, by go_num, rfl, hq, by show q = _; rw [hts.out, crcS_snoc, ← H.out]; exact Hq.out⟩
          case measure => simp [intOf]; omega
    · have hk' : k = l.length := by omega
      have e4 := not_u32 m hm
      go_wp2
      go_ret
      refine ⟨ret_u32 ?_, rfl⟩
      have := H.out
      rw [hk', List.take_length] at this
      rw [this, crcN]

theorem bitS_odd (q : Nat) (h : q % 2 = 1) : bitS q = q / 2 ^^^ 3988292384 := by unfold bitS; rw [if_pos h]
theorem bitS_evn (q : Nat) (h : q % 2 = 0) : bitS q = q / 2 := by unfold bitS; rw [if_neg (by omega)]
theorem iter8 (r : Nat) : iter bitS 8 r = T r := (T_bits r).symm

set_option maxHeartbeats 400000 in
theorem refcrc_calls (a : Option Addr) (cap : Nat) (l : List UInt8) (w : World) (hbig : l.length ≤ 9223372036854775807) (hc : At w a (u8s l)) :
    Calls Tryd.prog 9 #[.slice a l.length cap] w fun e w' => e = .returned (.int .u32 (crcN (nats l) : Nat)) ∧ w = w' := by
  go_enter Tryd.func9, Tryd.ntmps9
  go_wp2
  go_loop [3, 4] (fun n i => ∃ k m : Nat, k ≤ l.length ∧ i = .int .i64 k ∧ n = .int .u32 m ∧ m < 4294967296 ∧ Hid (m = crcS 4294967295 (nats (l.take k))))
    (fun _ i => l.length - (intOf i).toNat)
  case atStart => exact ⟨0, 4294967295, by omega, rfl, rfl, by omega, rfl⟩
  case round =>
    obtain ⟨k, m, hk, rfl, rfl, hm, H⟩ := hrel
    by_cases hlt : k < l.length
    · obtain ⟨b, off, rfl, hcell⟩ := hc k _ (u8s_get l k hlt)
      clear hc
      have hts := Lib.hid (take_snoc l k hlt)
      generalize l[k] = x at hcell hts
      have hx : x.toNat < 256 := x.toNat_lt
      have e1 : bits .xor .u32 (m : Int) (x.toNat : Int) = ((m ^^^ x.toNat : Nat) : Int) := u32_xor_nat _ _ hm (by omega)
      have hmx : m ^^^ x.toNat < 4294967296 := Nat.xor_lt_two_pow (n := 32) hm (by omega)
      go_wp2
      go_loop [3, 5] (fun n i => ∃ k q : Nat, k ≤ 8 ∧ i = .int .i64 k ∧ n = .int .u32 q ∧ q < 4294967296 ∧ Hid (q = iter bitS k (m ^^^ x.toNat)))
        (fun _ i => 8 - (intOf i).toNat)
      case atStart => exact ⟨0, m ^^^ x.toNat, by omega, rfl, rfl, hmx, rfl⟩
      case round =>
        obtain ⟨j, q, hj, rfl, rfl, hq, Hq⟩ := hrel
        by_cases hjt : j < 8
        · have hn := bitS_lt q hq
          have e2 : bits .and .u32 (q : Int) 1 = ((q % 2 : Nat) : Int) := by
            have := u32_and_nat q 1 hq (by omega)
            rw [nat_mask1] at this; exact this
          rcases Nat.mod_two_eq_zero_or_one q with h2 | h2
          · have hb := bitS_evn q h2
            rw [h2] at e2
            have Hb := Lib.hid hb
            have H2 := Lib.hid h2
            clear hb h2
            go_wp2
            go_round
            case rel => exact ⟨j + 1, q / 2, by omega, by go_num, by go_num, by omega, by show q / 2 = bitS (iter bitS j _); rw [← Hq.out, Hb.out]⟩
            case measure => simp [intOf]; omega
          · have hb := bitS_odd q h2
            rw [h2] at e2
            have e3 : bits .xor .u32 (q / 2 : Int) 3988292384 = ((q / 2 ^^^ 3988292384 : Nat) : Int) := u32_xor_nat (q / 2) 3988292384 (by omega) (by omega)
            rw [hb] at hn
            generalize q / 2 ^^^ 3988292384 = z at hb e3 hn
            have Hb := Lib.hid hb
            have H2 := Lib.hid h2
            clear hb h2
            go_wp2
            go_round
            case rel => exact ⟨j + 1, z, by omega, by go_num, by go_num, hn, by show z = bitS (iter bitS j _); rw [← Hq.out, Hb.out]⟩
            case measure => simp [intOf]; omega
        · have : j = 8 := by omega
          subst this
          go_wp2
          go_round
          case rel => exact ⟨k + 1, q, by omega, by go_num, rfl, hq, by show q = _; rw [hts.out, crcS_snoc, ← H.out, ← iter8]; exact Hq.out⟩
          case measure => simp [intOf]; omega
    · have hk' : k = l.length := by omega
      have e4 := not_u32 m hm
      go_wp2
      go_ret
      refine ⟨ret_u32 ?_, rfl⟩
      have := H.out
      rw [hk', List.take_length] at this
      rw [this, crcN]

theorem smallN_snoc (l : List Nat) (x : Nat) : smallN (l ++ [x]) = (smallN l + x) % 256 := by simp [smallN]
theorem i64_and255 (n : Nat) (h : n < 65536) : bits .and .i64 (n : Int) 255 = ((n % 256 : Nat) : Int) := by
  show IntKind.i64.wrap ((BitVec.ofInt 64 (n : Int) &&& BitVec.ofInt 64 ((255 : Nat) : Int)).toNat : Int) = _
  rw [BitVec.toNat_and, BitVec.ofInt_natCast, BitVec.ofInt_natCast, BitVec.toNat_ofNat, BitVec.toNat_ofNat, Nat.mod_eq_of_lt (by omega : n < 2 ^ 64), Nat.mod_eq_of_lt (by omega : 255 < 2 ^ 64), nat_mask8, IntKind.wrap_i64]
  omega
theorem ret_i64 {a b : Int} (h : a = b) : Ending.returned (.int .i64 a) = .returned (.int .i64 b) := by rw [h]

set_option maxHeartbeats 400000 in
theorem small_calls (a : Option Addr) (cap : Nat) (l : List UInt8) (w : World) (hbig : l.length ≤ 9223372036854775807) (hc : At w a (u8s l)) :
    Calls Tryd.prog 10 #[.slice a l.length cap] w fun e w' => e = .returned (.int .i64 (smallN (nats l) : Nat)) ∧ w = w' := by
  go_enter Tryd.func10, Tryd.ntmps10
  go_wp2
  go_loop [3, 8] (fun n i => ∃ k m : Nat, k ≤ l.length ∧ i = .int .i64 k ∧ n = .int .i64 m ∧ m < 256 ∧ Hid (m = smallN (nats (l.take k))))
    (fun _ i => l.length - (intOf i).toNat)
  case atStart => exact ⟨0, 0, by omega, rfl, rfl, by omega, rfl⟩
  case round =>
    obtain ⟨k, m, hk, rfl, rfl, hm, H⟩ := hrel
    by_cases hlt : k < l.length
    · obtain ⟨b, off, rfl, hcell⟩ := hc k _ (u8s_get l k hlt)
      clear hc
      have hts := Lib.hid (take_snoc l k hlt)
      generalize l[k] = x at hcell hts
      have hx : x.toNat < 256 := x.toNat_lt
      have e1 : bits .and .i64 ((m : Int) + (x.toNat : Int)) 255 = (((m + x.toNat) % 256 : Nat) : Int) := i64_and255 (m + x.toNat) (by omega)
      go_wp2
      go_round
      case rel => exact ⟨k + 1, (m + x.toNat) % 256, by omega, by go_num, by go_num, by omega, by show _ = smallN _; rw [hts.out, smallN_snoc, ← H.out]⟩
      case measure => simp [intOf]; omega
    · have hk' : k = l.length := by omega
      go_wp2
      go_ret
      refine ⟨ret_i64 ?_, rfl⟩
      have := H.out
      rw [hk', List.take_length] at this
      rw [this]

set_option maxHeartbeats 400000 in
theorem refsmall_calls (a : Option Addr) (cap : Nat) (l : List UInt8) (w : World) (hbig : l.length ≤ 9223372036854775807) (hc : At w a (u8s l)) :
    Calls Tryd.prog 11 #[.slice a l.length cap] w fun e w' => e = .returned (.int .i64 (smallN (nats l) : Nat)) ∧ w = w' := by
  go_enter Tryd.func11, Tryd.ntmps11
  go_wp2
  go_loop [3, 4] (fun n i => ∃ k m : Nat, k ≤ l.length ∧ i = .int .i64 k ∧ n = .int .i64 m ∧ m < 256 ∧ Hid (m = smallN (nats (l.take k))))
    (fun _ i => l.length - (intOf i).toNat)
  case atStart => exact ⟨0, 0, by omega, rfl, rfl, by omega, rfl⟩
  case round =>
    obtain ⟨k, m, hk, rfl, rfl, hm, H⟩ := hrel
    by_cases hlt : k < l.length
    · obtain ⟨b, off, rfl, hcell⟩ := hc k _ (u8s_get l k hlt)
      clear hc
      have hts := Lib.hid (take_snoc l k hlt)
      generalize l[k] = x at hcell hts
      have hx : x.toNat < 256 := x.toNat_lt
      go_wp2
      go_round
      case rel => exact ⟨k + 1, (m + x.toNat) % 256, by omega, by go_num, by go_num, by omega, by show _ = smallN _; rw [hts.out, smallN_snoc, ← H.out]⟩
      case measure => simp [intOf]; omega
    · have hk' : k = l.length := by omega
      go_wp2
      go_ret
      refine ⟨ret_i64 ?_, rfl⟩
      have := H.out
      rw [hk', List.take_length] at this
      rw [this]

def nine : List UInt8 := [49, 50, 51, 52, 53, 54, 55, 56, 57]
theorem nine_crc : crcN (nats nine) = 3421780262 := by decide
theorem nine_small : smallN (nats nine) = 221 := by decide

theorem Tab.keep {w w' : World} (h : Tab w) (hb : Below w.heap.size w w') : Tab w' := by
  intro i hi
  have h0 := h i hi
  rw [hb.cell (World.block_lt_of_cell? w _ h0)]; exact h0

theorem crc_nine (a : Option Addr) (cap : Nat) (w : World) (hc : At w a (u8s nine)) (ht : Tab w) :
    Calls Tryd.prog 8 #[.slice a 9 cap] w fun e w' => e = .returned (.int .u32 3421780262) ∧ w = w' := by
  have h := crc_calls a cap nine w (by decide) hc ht
  rw [nine_crc] at h
  exact h
theorem small_nine (a : Option Addr) (cap : Nat) (w : World) (hc : At w a (u8s nine)) :
    Calls Tryd.prog 10 #[.slice a 9 cap] w fun e w' => e = .returned (.int .i64 221) ∧ w = w' := by
  have h := small_calls a cap nine w (by decide) hc
  rw [nine_small] at h
  exact h

set_option maxHeartbeats 400000 in
theorem wakes_calls (w : World) (ht : Tab w) :
    Calls Tryd.prog 7 #[] w fun e w' => e = .returned (.bool true) ∧ Below w.heap.size w w' := by
  have kc := fun (w : World) (C : Array Value) (n c : Nat) => Lib.run_convert_bytes_const (P := Tryd.prog) w 22 5 C n c Tryd.underlying22 Tryd.underlying5
  have HT := Lib.hid ht
  clear ht
  go_enter Tryd.func7, Tryd.ntmps7
  go_wp2_with fail
  have hb1 : Below w.heap.size w (w.alloc (.cells (u8s nine).toArray 5 (9, 10))) := (Below.refl _ _).alloc (Nat.le_refl _) _
  refine (crc_nine _ _ _ (at_alloc _ _ _ _) (HT.out.keep hb1)).mono ?_
  rintro e w1 ⟨rfl, hw⟩
  have hb1' : Below w.heap.size w w1 := hw ▸ hb1
  clear hb1 hw
  go_wp2_with fail
  refine (small_nine _ _ _ (at_alloc _ _ _ _)).mono ?_
  rintro e w2 ⟨rfl, hw⟩
  have hb2 : Below w.heap.size w w2 := by rw [← hw]; exact hb1'.alloc hb1'.size _
  clear hb1' hw
  go_wp2_with fail
  go_ret
  exact ⟨rfl, hb2⟩

theorem gTab : Tryd.prog.globalNamed "bulwark/sum.half" = some 0 := by kernel_rfl
theorem gTabType : (Tryd.prog.globals[0]?).map (·.type) = some 32 := by kernel_rfl
theorem cellsA : Tryd.prog.cellsOf 32 = 16 := by kernel_rfl
theorem cellsE : Tryd.prog.cellsOf 24 = 1 := by kernel_rfl
theorem cells8 : Tryd.prog.cellsOf 5 = 1 := by kernel_rfl
theorem bytes8 : Tryd.prog.bytesOf 5 = 1 := by kernel_rfl

/-- what the rows' list gives -/
theorem tab_of_laid {W : World} (h : laidMetH Tryd.prog [("bulwark/sum.half", Rows.laid_bulwark_sum_half)] W) : Tab W := by
  have t : Lib.TabIs Tryd.prog W "bulwark/sum.half" .u32 (half.map fun (n : Nat) => (n : Int)) :=
    Lib.tabIs_of_head (rest := []) gTab gTabType Tryd.underlying32 Tryd.underlying24 cellsE cellsA h
  intro i hi
  have := t.cell gTab i (by simpa [half] using hi)
  rw [this]
  have e : ∀ i, i < 16 → (half.map fun (n : Nat) => (n : Int)).getD i 0 = (half.getD i 0 : Nat) := by decide
  rw [e i hi]
/-- the table's cells, for a witness -/
def tabCells : Array Value := (half.map fun (n : Nat) => Value.int .u32 (n : Int)).toArray
end Go.Proofs.YtddhcemdkhhikaaDoor.SumW
