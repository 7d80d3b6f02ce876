/- The walk of the law's long. -/
import Derived.Test.YtbpndiegbfpigaaGreatDoorPortWalks
import Derived.IntWalk
namespace Go.Proofs.YtbpndiegbfpigaaGreatDoor.PortW
open Go.RowKit Go.Proofs.YtbpndiegbfpigaaGreatDoor.Bas Go.Proofs.YtbpndiegbfpigaaGreatDoor.DecM Go.Proofs.YtbpndiegbfpigaaGreatDoor.FixpM Go.Proofs.YtbpndiegbfpigaaGreatDoor.FixpW Go.Proofs.YtbpndiegbfpigaaGreatDoor.DecW Go.Proofs.YtbpndiegbfpigaaGreatDoor.FldW Go.Proofs.YtbpndiegbfpigaaGreatDoor.PortM

def tot (fs : List Fld) : Nat := (fs.map fun f => 1 + f.2.length).sum
theorem tot_succ {fs : List Fld} {k : Nat} (h : k < fs.length) : tot (fs.take (k + 1)) = tot (fs.take k) + (1 + fs[k].2.length) := by
  unfold tot
  rw [List.take_succ_eq_append_getElem h, List.map_append, List.sum_append]
  simp
theorem tot_take (fs : List Fld) (k : Nat) : tot (fs.take k) ≤ tot fs := by
  have : tot fs = tot (fs.take k) + tot (fs.drop k) := by
    unfold tot
    rw [← List.sum_append, ← List.map_append, List.take_append_drop]
  omega
theorem tot_len (fs : List Fld) : fs.length ≤ tot fs := by
  unfold tot
  induction fs with
  | nil => simp
  | cons f fs ih => simp only [List.map_cons, List.sum_cons, List.length_cons]; omega
theorem tot_mem {fs : List Fld} {f : Fld} (h : f ∈ fs) : f.2.length ≤ tot fs := by
  unfold tot
  induction fs with
  | nil => cases h
  | cons g fs ih =>
    simp only [List.map_cons, List.sum_cons]
    rcases List.mem_cons.1 h with rfl | h
    · omega
    · have := ih h; omega
set_option maxHeartbeats 1000000 in
theorem long_calls (fs : List Fld) (a : Option Addr) (cap : Nat) (w : World) (hl : fs.length ≤ 140737488351232) (hok : ∀ f ∈ fs, f.2.length ≤ 140737488351232) (hat : At w a (fcells fs)) :
    Calls Tryz.prog 6 #[.slice a fs.length cap] w fun e w' => e = .returned (.bool (decide (16384 < tot fs))) ∧ Below w.heap.size w w' := by
  have HO := Lib.hid hok
  clear hok
  go_enter Tryz.func6, Tryz.ntmps6
  go_wp2_with fail
  go_loopw [3, 8] (fun s i wr => ∃ k : Nat, k ≤ fs.length ∧ s = .int .i64 (tot (fs.take k) : Int) ∧ i = .int .i64 k ∧ tot (fs.take k) ≤ 16384 ∧ At wr a (fcells fs) ∧ Below w.heap.size w wr) (fun _ i _ => fs.length - (intOf i).toNat)
  case atStart => exact ⟨0, by omega, rfl, rfl, by simp [tot], hat, Below.refl _ _⟩
  case round =>
    obtain ⟨k, hk, rfl, rfl, ht, hA, hB⟩ := hrel
    by_cases hlt : k < fs.length
    · obtain ⟨b, off, rfl, c0, c1⟩ := fld_at hA k hlt
      have hs := tot_succ hlt
      have hle := tot_take fs (k + 1)
      have hm := HO.out _ (List.getElem_mem hlt)
      have HA := Lib.hid hA
      have hz := hB.size
      have HB := Lib.hid hB
      clear hA hB
      generalize fs[k] = f at *
      obtain ⟨f1, f2⟩ := f
      simp only at c0 c1 hs hm
      generalize tot (fs.take k) = T at *
      have hw1 : IntKind.i64.wrap (1 + (f2.length : Int)) = 1 + (f2.length : Int) := IntWalk.i64_in _ (by omega)
      have hw2 : IntKind.i64.wrap ((T : Int) + (1 + (f2.length : Int))) = (T : Int) + (1 + (f2.length : Int)) := IntWalk.i64_in _ (by omega)
      by_cases h : 16384 < T + (1 + f2.length)
      · have h' : (16384 : Int) < (T : Int) + (1 + (f2.length : Int)) := by omega
        have HR := Lib.hid (show 16384 < tot fs by omega)
        clear hs h hle ht hm
        go_wp2_with fail
        go_ret
        exact ⟨by simpa using HR.out, HB.out.alloc HB.out.size _⟩
      · have h' : ¬ (16384 : Int) < (T : Int) + (1 + (f2.length : Int)) := by omega
        have HS := Lib.hid hs
        have hle2 : T + (1 + f2.length) ≤ 16384 := by omega
        clear hs h hle ht
        go_wp2_with fail
        go_roundw
        case rel => exact ⟨k + 1, by omega, by rw [HS.out]; go_num, by go_num, by rw [HS.out]; exact hle2, HA.out.keep ((Below.refl _ _).alloc (Nat.le_refl _) _), HB.out.alloc HB.out.size _⟩
        case measure => simp [intOf]; omega
    · have hkk : k = fs.length := by omega
      subst hkk
      rw [List.take_length] at ht
      have hf : ¬ 16384 < tot fs := by omega
      have HR := Lib.hid hf
      clear ht hf
      go_wp2_with fail
      go_ret
      exact ⟨by simpa using HR.out, hB⟩
end Go.Proofs.YtbpndiegbfpigaaGreatDoor.PortW
