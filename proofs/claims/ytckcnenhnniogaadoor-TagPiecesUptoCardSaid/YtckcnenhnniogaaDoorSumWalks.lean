/- The walks of the four sums: each computes its list function. -/
import Derived.Test.YtckcnenhnniogaaDoorBase
import Derived.Test.YtckcnenhnniogaaDoorSumMath
import Derived.Test.YtckcnenhnniogaaDoorRows
import Derived.WalkSpells
import Derived.WalkLawsBesides
import Derived.Laws.BitsAllLaws
import Derived.Lib.SlBytesConst
set_option linter.unusedSimpArgs false
set_option linter.unusedVariables false
namespace Go.Proofs.YtckcnenhnniogaaDoor.SumW
open Go.RowKit Go.Proofs.YtckcnenhnniogaaDoor.Bas Go.Proofs.YtckcnenhnniogaaDoor.SumM

def nats (l : List UInt8) : List Nat := l.map UInt8.toNat
theorem crcS_snoc (l : List Nat) (x : Nat) (s : Nat) : crcS s (l ++ [x]) = T (crcS s l ^^^ x) := by simp [crcS]
theorem take_snoc (l : List UInt8) (k : Nat) (h : k < l.length) : nats (l.take (k + 1)) = nats (l.take k) ++ [l[k].toNat] := by
  unfold nats
  rw [List.take_succ_eq_append_getElem h, List.map_append]; rfl
theorem nats_lt (l : List UInt8) : ∀ x ∈ nats l, x < 256 := by
  intro x hx
  simp only [nats, List.mem_map] at hx
  obtain ⟨y, _, rfl⟩ := hx
  exact y.toNat_lt
theorem ret_u32 {a b : Int} (h : a = b) : Ending.returned (.int .u32 a) = .returned (.int .u32 b) := by rw [h]

theorem not_u32 (m : Nat) (h : m < 4294967296) : bits .xor .u32 IntKind.u32.max (m : Int) = ((m ^^^ 4294967295 : Nat) : Int) := by
  have e : IntKind.u32.max = ((4294967295 : Nat) : Int) := by decide
  rw [e, u32_xor_nat _ _ (by omega) h, Nat.xor_comm]

theorem bitS_odd (q : Nat) (h : q % 2 = 1) : bitS q = q / 2 ^^^ 3988292384 := by unfold bitS; rw [if_pos h]
theorem bitS_evn (q : Nat) (h : q % 2 = 0) : bitS q = q / 2 := by unfold bitS; rw [if_neg (by omega)]
theorem iter8 (r : Nat) : iter bitS 8 r = T r := (T_bits r).symm

theorem smallN_snoc (l : List Nat) (x : Nat) : smallN (l ++ [x]) = (smallN l + x) % 256 := by simp [smallN]
theorem i64_and255 (n : Nat) (h : n < 65536) : bits .and .i64 (n : Int) 255 = ((n % 256 : Nat) : Int) := by
  show IntKind.i64.wrap ((BitVec.ofInt 64 (n : Int) &&& BitVec.ofInt 64 ((255 : Nat) : Int)).toNat : Int) = _
  rw [BitVec.toNat_and, BitVec.ofInt_natCast, BitVec.ofInt_natCast, BitVec.toNat_ofNat, BitVec.toNat_ofNat, Nat.mod_eq_of_lt (by omega : n < 2 ^ 64), Nat.mod_eq_of_lt (by omega : 255 < 2 ^ 64), nat_mask8, IntKind.wrap_i64]
  omega
theorem ret_i64 {a b : Int} (h : a = b) : Ending.returned (.int .i64 a) = .returned (.int .i64 b) := by rw [h]

set_option maxHeartbeats 400000 in
theorem small_calls (a : Option Addr) (cap : Nat) (l : List UInt8) (w : World) (hbig : l.length ≤ 9223372036854775807) (hc : At w a (u8s l)) :
    Calls Tryd.prog 14 #[.slice a l.length cap] w fun e w' => e = .returned (.int .i64 (smallN (nats l) : Nat)) ∧ w = w' := by
  go_enter Tryd.func14, Tryd.ntmps14
  go_wp2
  go_loop [3, 8] (fun n i => ∃ k m : Nat, k ≤ l.length ∧ i = .int .i64 k ∧ n = .int .i64 m ∧ m < 256 ∧ Hid (m = smallN (nats (l.take k))))
    (fun _ i => l.length - (intOf i).toNat)
  case atStart => exact ⟨0, 0, by omega, rfl, rfl, by omega, rfl⟩
  case round =>
    obtain ⟨k, m, hk, rfl, rfl, hm, H⟩ := hrel
    by_cases hlt : k < l.length
    · obtain ⟨b, off, rfl, hcell⟩ := hc k _ (u8s_get l k hlt)
      clear hc
      have hts := Lib.hid (take_snoc l k hlt)
      generalize l[k] = x at hcell hts
      have hx : x.toNat < 256 := x.toNat_lt
      have e1 : bits .and .i64 ((m : Int) + (x.toNat : Int)) 255 = (((m + x.toNat) % 256 : Nat) : Int) := i64_and255 (m + x.toNat) (by omega)
      go_wp2
      go_round
      case rel => exact ⟨k + 1, (m + x.toNat) % 256, by omega, by go_num, by go_num, by omega, by show _ = smallN _; rw [hts.out, smallN_snoc, ← H.out]⟩
      case measure => simp [intOf]; omega
    · have hk' : k = l.length := by omega
      go_wp2
      go_ret
      refine ⟨ret_i64 ?_, rfl⟩
      have := H.out
      rw [hk', List.take_length] at this
      rw [this]

def nine : List UInt8 := [49, 50, 51, 52, 53, 54, 55, 56, 57]
theorem nine_crc : crcN (nats nine) = 3421780262 := by decide
theorem nine_small : smallN (nats nine) = 221 := by decide

theorem small_nine (a : Option Addr) (cap : Nat) (w : World) (hc : At w a (u8s nine)) :
    Calls Tryd.prog 14 #[.slice a 9 cap] w fun e w' => e = .returned (.int .i64 221) ∧ w = w' := by
  have h := small_calls a cap nine w (by decide) hc
  rw [nine_small] at h
  exact h

theorem cellsE : Tryd.prog.cellsOf 100 = 1 := by kernel_rfl
theorem cells8 : Tryd.prog.cellsOf 5 = 1 := by kernel_rfl
theorem bytes8 : Tryd.prog.bytesOf 5 = 1 := by kernel_rfl

/-- the table's cells, for a witness -/
def tabCells : Array Value := (half.map fun (n : Nat) => Value.int .u32 (n : Int)).toArray
end Go.Proofs.YtckcnenhnniogaaDoor.SumW
