/- What the second form's bound gives: lengths. -/
import Derived.Test.YtmnhmlbpaebabaaBase
import Derived.Test.YtmnhmlbpaebabaaRows
namespace Go.Proofs.Ytmnhmlbpaebabaa.Bas
open Go.RowKit

theorem bulk_le {H : Type} {ds : List (DataW H)} (h : Rows.uptoSmall H ds = true) : Rows.uptoBulkAll ds ≤ 1048576 := of_decide_eq_true h

theorem bulk_pos {H : Type} (d : DataW H) : 1 ≤ Rows.uptoBulk d := by
  cases d with
  | lit l => cases l <;> simp [Rows.uptoBulk]
  | nil => simp [Rows.uptoBulk]
  | ptr d => simp [Rows.uptoBulk]
  | slice es sp => simp [Rows.uptoBulk]
  | agg ps => simp [Rows.uptoBulk]
  | iface t d => simp [Rows.uptoBulk]
  | map es => simp [Rows.uptoBulk]
  | held h => simp [Rows.uptoBulk]

theorem bulk_len {H : Type} (l : List (DataW H)) : l.length ≤ Rows.uptoBulkAll l := by
  induction l with
  | nil => simp [Rows.uptoBulkAll]
  | cons x r ih => have := bulk_pos x; simp only [Rows.uptoBulkAll, List.length_cons]; omega

theorem bulk_mem {H : Type} {d : DataW H} {l : List (DataW H)} (h : d ∈ l) : Rows.uptoBulk d ≤ Rows.uptoBulkAll l := by
  induction l with
  | nil => cases h
  | cons x r ih =>
    simp only [Rows.uptoBulkAll]
    rcases List.mem_cons.1 h with rfl | h
    · omega
    · have := ih h; omega

theorem bulk_slice {H : Type} {d : DataW H} {n cap : Nat} (hd : (d = .nil ∧ cap = 0) ∨ ∃ es sp, d = .slice es sp ∧ es.length = n ∧ es.length + sp.length = cap) : n ≤ Rows.uptoBulk d ∨ (d = .nil ∧ cap = 0) := by
  rcases hd with h | ⟨es, sp, rfl, rfl, _⟩
  · exact .inr h
  · refine .inl ?_
    have := bulk_len es
    simp only [Rows.uptoBulk]; omega
end Go.Proofs.Ytmnhmlbpaebabaa.Bas
