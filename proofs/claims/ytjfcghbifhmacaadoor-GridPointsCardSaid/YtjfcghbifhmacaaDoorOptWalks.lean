/- The walks of layer 11: within, must, caught, the deferred closure. -/
import Derived.Test.YtjfcghbifhmacaaDoorFixpDocDiv
import Derived.Test.YtjfcghbifhmacaaDoorFixpLaws
import Derived.Recover
namespace Go.Proofs.YtjfcghbifhmacaaDoor.OptW
open Go.RowKit Go.Proofs.YtjfcghbifhmacaaDoor.Bas Go.Proofs.YtjfcghbifhmacaaDoor.FixpM Go.Proofs.YtjfcghbifhmacaaDoor.FixpW Go.Proofs.YtjfcghbifhmacaaDoor.FixpR

def within (x lo hi : Int) : Bool := decide (lo ≤ x ∧ x ≤ hi)
theorem within_calls (x lo hi : Int) (w : World) :
    Calls Tryd.prog 24 #[.int .i64 x, .int .i64 lo, .int .i64 hi] w fun e w' => e = .returned (.bool (within x lo hi)) ∧ w = w' := by
  by_cases h1 : lo ≤ x
  · by_cases h2 : x ≤ hi
    · go_enter Tryd.func24, Tryd.ntmps24
      go_wp2_with fail
      go_ret
      exact ⟨ret_bool (by simp [within, h1, h2]), rfl⟩
    · go_enter Tryd.func24, Tryd.ntmps24
      go_wp2_with fail
      go_ret
      exact ⟨ret_bool (by simp only [within]; rw [Bool.eq_iff_iff]; simp; omega), rfl⟩
  · go_enter Tryd.func24, Tryd.ntmps24
    go_wp2_with fail
    go_ret
    exact ⟨ret_bool (by simp only [within]; rw [Bool.eq_iff_iff]; simp; omega), rfl⟩

theorem must_ok (x : Int) (w : World) :
    Calls Tryd.prog 41 #[.int .i64 x, .int .i64 0] w fun e w' => e = .returned (.int .i64 x) ∧ w = w' := by
  go_enter Tryd.func41, Tryd.ntmps41
  go_wp2_with fail
  go_ret
  exact ⟨rfl, rfl⟩

def gaveUp (k : Int) : Value := .iface 75 (.agg #[.int .i64 k])
theorem must_no (x k : Int) (hk : k ≠ 0) (w : World) :
    Calls Tryd.prog 41 #[.int .i64 x, .int .i64 k] w fun e w' => e = .panicked [{ v := gaveUp k, recovered := false }] ∧ w = w' := by
  have hkb : (k != 0) = true := by simpa using hk
  clear hk
  go_enter Tryd.func41, Tryd.ntmps41
  go_wp2_with fail
  exact ⟨rfl, rfl, rfl⟩

theorem caught_nil (p : Addr) (w : World) :
    Calls Tryd.prog 40 #[.pointer (some p), .nilIface] w fun e w' => e = .returned (.tuple #[]) ∧ w = w' := by
  go_enter Tryd.func40, Tryd.ntmps40
  go_wp2_with fail
  first | go_end0 | refine bodyPost_ret (results_none rfl _ _ _) rfl ?_
  exact ⟨rfl, rfl⟩

theorem caught_stop (b : Nat) (k x : Int) (w : World) (hx : Box w b 28 #[.int .i64 x]) :
    Calls Tryd.prog 40 #[.pointer (some ⟨b, 0, none⟩), gaveUp k] w fun e w' => e = .returned (.tuple #[]) ∧ Box w' b 28 #[.int .i64 k] ∧ (∀ g t cs, g ≠ b → Box w g t cs → Box w' g t cs) ∧ (∀ B, B ≤ b → Below B w w') := by
  have hq : ∀ (t : TypeId) (v : Value) (w : World), (binOp BinOp.eql 20 (.iface t v) .nilIface).run Tryd.prog w = .ok (.bool false) w := fun _ _ _ => rfl
  have hta : ∀ (v : Value) (w : World), (Instr.typeAssert (.iface 75 v) 20 75 true).run Tryd.prog w = .ok (.tuple #[v, .bool true]) w := fun _ _ => rfl
  have hx2 := hx.alloc (.cells #[.int .i64 k] 75)
  have c0 := hx2.cell 0
  have f0 := hx2.frozen
  have X := Lib.hid hx
  have X2 := Lib.hid hx2
  clear hx hx2
  unfold gaveUp
  go_enter Tryd.func40, Tryd.ntmps40
  go_wp2_with fail
  first | go_end0 | refine bodyPost_ret (results_none rfl _ _ _) rfl ?_
  refine ⟨rfl, X2.out.set 0 _, fun g t cs hg h => (h.alloc _).far hg _, fun B hB => ?_⟩
  exact ((Below.refl B w).alloc (by have := X.out.lt; omega) _).setCell (p := ⟨b, 0, none⟩) hB _

/-- the deferred closure, of a call that returns: nothing was given up -/
theorem door_ok (be bv : Nat) (w : World) (he : Box w be 28 #[.int .i64 0]) :
    CallsD Tryd.prog 39 #[.pointer (some ⟨be, 0, none⟩), .pointer (some ⟨bv, 0, none⟩)] .returning w fun e u' w' => e = .returned (.tuple #[]) ∧ u' = .returning ∧ w' = w := by
  have c0 : w.cell? ⟨be, 0, none⟩ = some (.int .i64 0) := he.cell 0
  refine callsD_of_wpS Tryd.func39 rfl fun c₀ cs hu => ?_
  apply wpS_seq
  apply wpS_region
  simp [wpOpsS, go_sem, recoverD, hu, Tryd.ntmps39, Exit.thenS]
  refine (caught_nil _ _).mono ?_
  rintro e w' ⟨rfl, rfl⟩
  apply wpS_seq
  apply wpS_region
  simp [wpOpsS, go_sem, c0, Exit.thenS]
  refine wpS_cond (t := false) (by simp [Act.eval, Array.replicate]) ?_
  simp only [Bool.false_eq_true, if_false]
  refine wpS_of_wp (wp_skip ?_)
  cases c₀
  simp_all [bodyPostS, results, Tryd.results39]

/-- the deferred closure, of a call that returns with an error -/
theorem door_err (be bv : Nat) (w : World) (k v : Int) (hk : k ≠ 0) (he : Box w be 28 #[.int .i64 k]) (hv : Box w bv 3 #[.int .i64 v]) :
    CallsD Tryd.prog 39 #[.pointer (some ⟨be, 0, none⟩), .pointer (some ⟨bv, 0, none⟩)] .returning w fun e u' w' => e = .returned (.tuple #[]) ∧ u' = .returning ∧ w' = w.setCell ⟨bv, 0, none⟩ (.int .i64 0) := by
  have c0 : w.cell? ⟨be, 0, none⟩ = some (.int .i64 k) := he.cell 0
  have c1 : w.cell? ⟨bv, 0, none⟩ = some (.int .i64 v) := hv.cell 0
  have f1 := hv.frozen 0
  refine callsD_of_wpS Tryd.func39 rfl fun c₀ cs hu => ?_
  apply wpS_seq
  apply wpS_region
  simp [wpOpsS, go_sem, recoverD, hu, Tryd.ntmps39, Exit.thenS]
  refine (caught_nil _ _).mono ?_
  rintro e w' ⟨rfl, rfl⟩
  apply wpS_seq
  apply wpS_region
  simp [wpOpsS, go_sem, c0, Exit.thenS]
  refine wpS_cond (t := true) (by simp [Act.eval, Array.replicate, hk]) ?_
  simp only [if_true]
  apply wpS_region
  simp [wpOpsS, go_sem, c1, f1, bodyPostS, results, Tryd.results39]
  cases c₀
  simp_all

/-- the deferred closure, of a call that was given up -/
theorem door_up (be bv : Nat) (w : World) (k v x : Int) (hk : k ≠ 0) (hne : bv ≠ be) (he : Box w be 28 #[.int .i64 x]) (hv : Box w bv 3 #[.int .i64 v]) :
    CallsD Tryd.prog 39 #[.pointer (some ⟨be, 0, none⟩), .pointer (some ⟨bv, 0, none⟩)] (.panicking [{ v := gaveUp k, recovered := false }]) w fun e u' w' => e = .returned (.tuple #[]) ∧ u' = .panicking [{ v := gaveUp k, recovered := true }] ∧ Box w' be 28 #[.int .i64 k] ∧ Box w' bv 3 #[.int .i64 0] ∧ (∀ B, B ≤ be → B ≤ bv → Below B w w') := by
  refine callsD_of_wpS Tryd.func39 rfl fun c₀ cs hu => ?_
  apply wpS_seq
  apply wpS_region
  simp [wpOpsS, go_sem, recoverD, hu, Tryd.ntmps39, Exit.thenS]
  refine (caught_stop be k x w he).mono ?_
  rintro e w1 ⟨rfl, h1, h2, h3⟩
  have hv1 := h2 _ _ _ hne hv
  have c0 : w1.cell? ⟨be, 0, none⟩ = some (.int .i64 k) := h1.cell 0
  have c1 : w1.cell? ⟨bv, 0, none⟩ = some (.int .i64 v) := hv1.cell 0
  have f1 := hv1.frozen 0
  apply wpS_seq
  apply wpS_region
  simp [wpOpsS, go_sem, c0, Exit.thenS]
  refine wpS_cond (t := true) (by simp [Act.eval, Array.replicate, hk]) ?_
  simp only [if_true]
  apply wpS_region
  have g1 : Box (w1.setCell ⟨bv, 0, none⟩ (.int .i64 0)) be 28 #[.int .i64 k] := h1.far (Ne.symm hne) _
  have g2 : Box (w1.setCell ⟨bv, 0, none⟩ (.int .i64 0)) bv 3 #[.int .i64 0] := hv1.set 0 _
  have g3 : ∀ B, B ≤ be → B ≤ bv → Below B w (w1.setCell ⟨bv, 0, none⟩ (.int .i64 0)) := fun B ha hb => (h3 B ha).setCell (p := ⟨bv, 0, none⟩) hb _
  simp [wpOpsS, go_sem, c1, f1, bodyPostS, results, Tryd.results39]
  exact ⟨g1, g2, g3⟩

/-- an option's value, by plain numbers -/
def markIn (x : Int) : Bool := within x 0 100000000000000
def gapF (call : Bool) (strike price : Int) : Int := if call then price - strike else strike - price
def posF (x : Int) : Int := max x 0
def valueF (call : Bool) (strike price vol days : Int) : Int × Int :=
  if markIn strike && markIn price && markIn vol then
    if days ≤ 0 then (posF (gapF call strike price), 0)
    else if 100000 < days then (0, 1)
    else if (mulF vol days).2 = 0 then
      let t := mulDivF strike (mulF vol days).1 3650000 0
      if t.2 = 0 then addF (posF (gapF call strike price)) (posF (t.1 - (max (gapF call strike price) (-gapF call strike price)).tdiv 2)) else (0, t.2)
    else (0, (mulF vol days).2)
  else (0, 1)
end Go.Proofs.YtjfcghbifhmacaaDoor.OptW
