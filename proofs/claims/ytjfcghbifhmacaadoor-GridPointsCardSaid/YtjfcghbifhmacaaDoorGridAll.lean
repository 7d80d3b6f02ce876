/- All: what it goes over. -/
import Derived.Test.YtjfcghbifhmacaaDoorGridLawBase
import Derived.RangeFuncNested
import Derived.RangeFuncBound
import Derived.RangeFuncCalls
import Derived.RangeFuncLeaves
import Derived.RangeFuncFrom
import Derived.Shelf.Abstract
import Derived.Shelf.RegionOpen
import Derived.OwnWalkIn
import Derived.TacticsInMore
import Derived.LoopNIn
import Derived.LoopIn
import Derived.IntWalk
namespace Go.Proofs.YtjfcghbifhmacaaDoor.GridW
open Go.RowKit Go.Shelf Go.Proofs.YtjfcghbifhmacaaDoor.Bas Go.Proofs.YtjfcghbifhmacaaDoor.FixpM Go.Proofs.YtjfcghbifhmacaaDoor.FixpW Go.Proofs.YtjfcghbifhmacaaDoor.FixpR Go.Proofs.YtjfcghbifhmacaaDoor.OptW
attribute [local go_sem] Oper.semAt_some

def encS (x : Nat) : Array Value := #[.int .i64 (x : Int), .agg #[.int .i64 (shiftOf x), .int .i64 (volOf x)]]
theorem Tab.low {n₀ : Nat} {A B : World} (h : Tab A) (hb : Below n₀ A B) (h1 : 0 < n₀) (h2 : 1 < n₀) : Tab B :=
  ⟨fun i hi => (hb.cell (p := ⟨0, i, none⟩) h1).trans (h.shift i hi), fun i hi => (hb.cell (p := ⟨1, i, none⟩) h2).trans (h.vol i hi)⟩

theorem all_calls (w : World) : Calls Tryd.prog 15 #[] w fun e w' => e = .returned (.func (.func 23) #[] #[]) ∧ w = w' := by
  go_enter Tryd.func15, Tryd.ntmps15
  go_wp2_with fail
  go_ret
  exact ⟨rfl, rfl⟩

/-- how a round ended: it goes on (true), or it has said 'no more' -/
def Came (A B : World → Prop) (e : Ending) (w' : World) : Prop := ∃ b : Bool, e = .returned (.bool b) ∧ ((b = true ∧ A w') ∨ (b = false ∧ B w'))
theorem came {A B : World → Prop} {e : Ending} {w' : World} (h : (e = .returned (.bool true) ∧ A w') ∨ (e = .returned (.bool false) ∧ B w')) : Came A B e w' := by
  rcases h with ⟨rfl, h⟩ | ⟨rfl, h⟩
  · exact ⟨true, rfl, .inl ⟨rfl, h⟩⟩
  · exact ⟨false, rfl, .inr ⟨rfl, h⟩⟩

set_option maxRecDepth 100000 in
set_option maxHeartbeats 2000000 in
theorem all1_in (n : Nat) (hn : 1 ≤ n) (l n₀ : Nat) (hg1 : 0 < n₀) (hg2 : 1 < n₀) (J Jx : List Nat → World → Prop)
    (hY : ∀ pre x W, J pre W → pre.length < 21 → YieldAt Fence.wide (n - 1) Tryd.prog l (encS x) W fun e W' =>
      (e = .returned (.bool true) ∧ J (pre ++ [x]) W' ∧ Below n₀ W W') ∨ (e = .returned (.bool false) ∧ Jx (pre ++ [x]) W'))
    (W : World) (hJ : AbidesFrom W.heap.size J) (hT : Tab W) (h0 : J [] W) :
    CallsIn Fence.wide n Tryd.prog 23 #[.func (.yield l) #[] #[]] W fun e W' => (∃ v, e = .returned v) ∧
      ((∃ ys, ys = List.range 21 ∧ J ys W') ∨ (∃ pre, (∃ k, k ≤ 21 ∧ pre = List.range k) ∧ Jx pre W')) := by
  refine callsIn_of_wp Tryd.func23 rfl trivial ?_ rfl
  simp only [Tryd.ntmps23, List.size_toArray, List.length_cons, List.length_nil, Nat.reduceAdd, Nat.reduceSub, Array.replicate_succ, Array.replicate_zero, List.push_toArray, List.append_toArray, List.nil_append, List.cons_append]
  have HT := Lib.hid hT
  clear hT
  gi_wp2
  gi_loopw [3] (fun i wr => ∃ k : Nat, k ≤ 21 ∧ i = .int .i64 k ∧ J (List.range k) wr ∧ Below n₀ W wr)
    (fun i _ => 21 - (intOf i).toNat)
  case atStart => exact ⟨0, Nat.zero_le _, rfl, h0, Below.refl _ _⟩
  case round =>
    obtain ⟨k, hk, rfl, hJs, hnx⟩ := hrel
    by_cases hlt : k < 21
    · have T := HT.out.low hnx hg1 hg2
      have c1 := T.shift (k / 3) (by omega)
      have c2 := T.vol (k % 3) (by omega)
      rw [show shifts.getD (k / 3) 0 = shiftOf k from rfl] at c1
      rw [show vols.getD (k % 3) 0 = volOf k from rfl] at c2
      obtain ⟨fn, tmps, assign, body, hy, hR⟩ := hY _ k wr.drew (hJ _ wr wr.drew none hJs ⟨rfl, rfl, rfl, Nat.le_refl _, fun _ _ _ => rfl⟩ (fun r e => by cases e)) (by simp; exact hlt)
      unfold encS at hy
      clear T
      gi_wp2
      have hR2 := hR.mono (R' := Came (fun W' => J (List.range k ++ [k]) W' ∧ Below n₀ wr.drew W') (Jx (List.range k ++ [k]))) (fun e W' h => came h)
      clear hR
      have hmx : Tryd.prog.follows .mixedOrders = true := by kernel_rfl
      obtain ⟨q, hq⟩ : ∃ q, q = k / 3 := ⟨_, rfl⟩
      obtain ⟨r, hr⟩ : ∃ r, r = k % 3 := ⟨_, rfl⟩
      have q1 : (k : Int).tdiv 3 = (q : Int) := by rw [Int.tdiv_eq_ediv_of_nonneg (by omega)]; omega
      have r1 : (k : Int).tmod 3 = (r : Int) := by rw [Int.tmod_eq_emod_of_nonneg (by omega)]; omega
      have q2 : IntKind.i64.wrap (q : Int) = (q : Int) := IntWalk.i64_in _ (by omega)
      have r2 : IntKind.i64.wrap (r : Int) = (r : Int) := IntWalk.i64_in _ (by omega)
      have q3 : (q : Int) < 7 := by omega
      have r3 : (r : Int) < 3 := by omega
      have q4 : q < 7 := by omega
      have r4 : r < 3 := by omega
      rw [← hq] at c1
      rw [← hr] at c2
      clear hq hr
      gi_region_with_o (refine hR2.mono ?_; rintro e W3 ⟨b, rfl, hW⟩)
      all_goals
        clear hR2 hy c1 c2 q1 r1 q2 r2 q3 r3 q4 r4 hmx
        rcases hW with ⟨rfl, hJ3, hk3⟩ | ⟨rfl, hJx3⟩
        · gi_wp2
          go_roundw
          case rel => exact ⟨k + 1, by omega, by simp, by rw [List.range_succ]; exact hJ3, hnx.trans (Below.trans (show Below n₀ wr wr.drew from ⟨rfl, rfl, rfl, Nat.le_refl _, fun _ _ => rfl⟩) hk3)⟩
          case measure => simp [intOf]; omega
        · gi_wp2
          refine bodyPost_ret (results_none rfl _ _ _) rfl ?_
          exact ⟨⟨_, rfl⟩, .inr ⟨_, ⟨k + 1, by omega, List.range_succ.symm⟩, hJx3⟩⟩
    · obtain rfl : k = 21 := by omega
      gi_wp2
      go_end0
      exact ⟨⟨_, rfl⟩, .inl ⟨_, rfl, hJs⟩⟩

/-- what All hands back goes over the 21 scenarios, or stops where it is told to -/
theorem all_stops (n : Nat) (hn : 1 ≤ n) (n₀ : Nat) (hg1 : 0 < n₀) (hg2 : 1 < n₀) (w : World) (hT : Tab w) (hw1 : 0 < w.heap.size) (hw2 : 1 < w.heap.size) :
    SeqStopsK Fence.wide n Tryd.prog 23 #[] encS (Below n₀) (fun ys => ys = List.range 21) (fun pre => ∃ k, k ≤ 21 ∧ pre = List.range k) 21 w := fun l J Jx W hW hJ _ hY h0 => by
  exact all1_in n hn l n₀ hg1 hg2 J Jx hY W hJ (hT.low hW hw1 hw2) h0
theorem Tab.lt {w : World} (h : Tab w) : 0 < w.heap.size ∧ 1 < w.heap.size :=
  ⟨World.block_lt_of_cell? w _ (h.shift 0 (by omega)), World.block_lt_of_cell? w _ (h.vol 0 (by omega))⟩
end Go.Proofs.YtjfcghbifhmacaaDoor.GridW
