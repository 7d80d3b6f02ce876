/- The walk of the document's Fields. -/
import Derived.Test.YtbpndiegbfpigaaGreatDoorPortFields
namespace Go.Proofs.YtbpndiegbfpigaaGreatDoor.PortW
open Go.RowKit Go.Proofs.YtbpndiegbfpigaaGreatDoor.Bas Go.Proofs.YtbpndiegbfpigaaGreatDoor.DecM Go.Proofs.YtbpndiegbfpigaaGreatDoor.FixpM Go.Proofs.YtbpndiegbfpigaaGreatDoor.FixpW Go.Proofs.YtbpndiegbfpigaaGreatDoor.DecW Go.Proofs.YtbpndiegbfpigaaGreatDoor.FldW Go.Proofs.YtbpndiegbfpigaaGreatDoor.PortM

set_option maxHeartbeats 4000000 in
theorem number_calls (v : Ev) (t : Int) (w : World) :
    Calls Tryz.prog 24 #[.agg (Ev.cells v), .int .i64 t] w fun e w' => e = .returned (.int .i64 (num v t)) ∧ Below w.heap.size w w' := by
  have X0 := Box.new w 23 (Ev.cells v)
  have B0 := (Below.refl w.heap.size w).alloc (Nat.le_refl _) (.cells (Ev.cells v) 23)
  by_cases h1 : t = 1
  · subst h1
    rw [show num v 1 = v.acct from rfl]
    have c0 := X0.cell 1
    rw [show (Ev.cells v)[1]? = some (.int .i64 v.acct) from rfl] at c0
    go_enter Tryz.func24, Tryz.ntmps24
    go_wp2_with fail
    go_ret
    exact ⟨rfl, B0⟩
  by_cases h11 : t = 11
  · subst h11
    rw [show num v 11 = v.id from rfl]
    have c0 := X0.cell 2
    rw [show (Ev.cells v)[2]? = some (.int .i64 v.id) from rfl] at c0
    go_enter Tryz.func24, Tryz.ntmps24
    go_wp2_with fail
    go_ret
    exact ⟨rfl, B0⟩
  by_cases h12 : t = 12
  · subst h12
    rw [show num v 12 = v.amount from rfl]
    have c0 := X0.cell 9
    rw [show (Ev.cells v)[9]? = some (.int .i64 v.amount) from rfl] at c0
    go_enter Tryz.func24, Tryz.ntmps24
    go_wp2_with fail
    go_ret
    exact ⟨rfl, B0⟩
  by_cases h15 : t = 15
  · subst h15
    rw [show num v 15 = v.cur from rfl]
    have c0 := X0.cell 6
    rw [show (Ev.cells v)[6]? = some (.int .i64 v.cur) from rfl] at c0
    go_enter Tryz.func24, Tryz.ntmps24
    go_wp2_with fail
    go_ret
    exact ⟨rfl, B0⟩
  by_cases h38 : t = 38
  · subst h38
    rw [show num v 38 = v.qty from rfl]
    have c0 := X0.cell 7
    rw [show (Ev.cells v)[7]? = some (.int .i64 v.qty) from rfl] at c0
    go_enter Tryz.func24, Tryz.ntmps24
    go_wp2_with fail
    go_ret
    exact ⟨rfl, B0⟩
  by_cases h41 : t = 41
  · subst h41
    rw [show num v 41 = v.new from rfl]
    have c0 := X0.cell 3
    rw [show (Ev.cells v)[3]? = some (.int .i64 v.new) from rfl] at c0
    go_enter Tryz.func24, Tryz.ntmps24
    go_wp2_with fail
    go_ret
    exact ⟨rfl, B0⟩
  by_cases h44 : t = 44
  · subst h44
    rw [show num v 44 = v.price from rfl]
    have c0 := X0.cell 8
    rw [show (Ev.cells v)[8]? = some (.int .i64 v.price) from rfl] at c0
    go_enter Tryz.func24, Tryz.ntmps24
    go_wp2_with fail
    go_ret
    exact ⟨rfl, B0⟩
  by_cases h55 : t = 55
  · subst h55
    rw [show num v 55 = v.instr from rfl]
    have c0 := X0.cell 4
    rw [show (Ev.cells v)[4]? = some (.int .i64 v.instr) from rfl] at c0
    go_enter Tryz.func24, Tryz.ntmps24
    go_wp2_with fail
    go_ret
    exact ⟨rfl, B0⟩
  rw [show num v t = v.under by unfold num; simp [h1, h11, h12, h15, h38, h41, h44, h55]]
  have c0 := X0.cell 5
  rw [show (Ev.cells v)[5]? = some (.int .i64 v.under) from rfl] at c0
  go_enter Tryz.func24, Tryz.ntmps24
  go_wp2_with fail
  go_ret
  exact ⟨rfl, B0⟩
theorem _root_.Go.Proofs.YtbpndiegbfpigaaGreatDoor.Bas.Box.cells12 {w : World} {g : Nat} {t : TypeId} {v : Ev} (h : Box w g t (Ev.cells v)) : w.cell? ⟨g, 0, none⟩ = some (.int .i64 v.kind) ∧ w.cell? ⟨g, 1, none⟩ = some (.int .i64 v.acct) ∧ w.cell? ⟨g, 2, none⟩ = some (.int .i64 v.id) ∧ w.cell? ⟨g, 3, none⟩ = some (.int .i64 v.new) ∧ w.cell? ⟨g, 4, none⟩ = some (.int .i64 v.instr) ∧ w.cell? ⟨g, 5, none⟩ = some (.int .i64 v.under) ∧ w.cell? ⟨g, 6, none⟩ = some (.int .i64 v.cur) ∧ w.cell? ⟨g, 7, none⟩ = some (.int .i64 v.qty) ∧ w.cell? ⟨g, 8, none⟩ = some (.int .i64 v.price) ∧ w.cell? ⟨g, 9, none⟩ = some (.int .i64 v.amount) ∧ w.cell? ⟨g, 10, none⟩ = some (.bool v.call) ∧ w.cell? ⟨g, 11, none⟩ = some (.string ⟨v.name.toArray⟩) :=
  ⟨h.cell 0, h.cell 1, h.cell 2, h.cell 3, h.cell 4, h.cell 5, h.cell 6, h.cell 7, h.cell 8, h.cell 9, h.cell 10, h.cell 11⟩
/-- between two bytes of a name -/
def ScanN (l : List UInt8) (W : World) (i : Value) (wr : World) : Prop := ∃ n : Nat, n ≤ l.length ∧ i = .int .i64 n ∧ (∀ m (h : m < l.length), m < n → l[m] ≠ 1) ∧ wr = W
theorem ScanN.mk {l : List UInt8} {W : World} {n : Nat} (h1 : n ≤ l.length) (h2 : ∀ m (h : m < l.length), m < n → l[m] ≠ 1) : ScanN l W (.int .i64 n) W := ⟨n, h1, rfl, h2, rfl⟩
theorem byte1 {c : UInt8} : ((c.toNat : Int) == 1) = decide (c = 1) := by
  rw [Bool.eq_iff_iff]
  simp
  constructor
  · intro h; exact UInt8.toNat_inj.1 (by have : (1 : UInt8).toNat = 1 := rfl; omega)
  · rintro rfl; rfl
theorem kinds_ext (j : Nat) (h : j < 16) : (⟨#[68, 70, 71, 56, 87, 82, 67, 65, 85, 73, 76, 66, 83, 86, 78, 69]⟩ : ByteArray).extract j (j + 1) = ⟨#[kindsL.getD j 0]⟩ := by
  rcases (by omega : j = 0 ∨ j = 1 ∨ j = 2 ∨ j = 3 ∨ j = 4 ∨ j = 5 ∨ j = 6 ∨ j = 7 ∨ j = 8 ∨ j = 9 ∨ j = 10 ∨ j = 11 ∨ j = 12 ∨ j = 13 ∨ j = 14 ∨ j = 15) with rfl | rfl | rfl | rfl | rfl | rfl | rfl | rfl | rfl | rfl | rfl | rfl | rfl | rfl | rfl | rfl <;> rfl
end Go.Proofs.YtbpndiegbfpigaaGreatDoor.PortW
