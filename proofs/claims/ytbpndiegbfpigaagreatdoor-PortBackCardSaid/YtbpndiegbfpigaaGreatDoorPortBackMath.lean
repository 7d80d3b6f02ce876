/- Layer 22's way back: replies and events through their fields. No program in sight. -/
import Derived.Test.YtbpndiegbfpigaaGreatDoorPortEvMath
import Derived.Test.YtbpndiegbfpigaaGreatDoorDecBackMath
import Derived.Test.YtbpndiegbfpigaaGreatDoorTagMath
import Derived.Lib.ItoaLen
namespace Go.Proofs.YtbpndiegbfpigaaGreatDoor.PortM
open Go.Proofs.YtbpndiegbfpigaaGreatDoor.DecM Go.Proofs.YtbpndiegbfpigaaGreatDoor.FixpM Go.Proofs.YtbpndiegbfpigaaGreatDoor.FldW Go.Proofs.YtbpndiegbfpigaaGreatDoor.TagM

theorem fmt0 (x : Int) : fmtF x 0 = (if x < 0 then [45] else []) ++ low x.natAbs (len x.natAbs 0) := by unfold fmtF fmtL; rw [if_pos rfl]
theorem fmt0_ne (x : Int) : fmtF x 0 ≠ [] := by
  rw [fmt0]
  intro h
  have := (List.append_eq_nil_iff.1 h).2
  exact low_ne (by have := len_ge x.natAbs 0; omega) this
theorem fmt0_one (x : Int) : (1 : UInt8) ∉ fmtF x 0 := by
  rw [fmt0]
  intro h
  rcases List.mem_append.1 h with h | h
  · split at h
    · simp at h
    · cases h
  · have := List.all_eq_true.1 (low_digits (len x.natAbs 0) x.natAbs) _ h
    exact absurd this (by decide)
theorem fits_max {x : Int} (h : fits x = true) : x.natAbs ≤ DecM.Max := by
  unfold fits at h
  have := of_decide_eq_true h
  unfold DecM.Max
  omega
theorem max_fits {x : Int} (h : x.natAbs ≤ DecM.Max) : fits x = true := by
  unfold DecM.Max at h
  unfold fits
  exact decide_eq_true (by omega)
theorem fmt0_len {x : Int} (h : fits x = true) : (fmtF x 0).length ≤ 21 := by
  have hm := fits_max h
  unfold DecM.Max at hm
  rw [fmt0, List.length_append, low_len]
  have h1 : len x.natAbs 0 ≤ 20 := by
    unfold len
    have := Lib.nDigits_le20 x.natAbs (by omega)
    omega
  split <;> simp <;> omega
def ansL (c n : Int) : List Fld := [(35, [114]), (39, fmtF c 0), (37, fmtF n 0)]
theorem ans_reply {c n : Int} (hc : fits c = true) (hn : fits n = true) : replyR (ansL c n) = ((c, n), 0) := by
  unfold ansL
  simp [replyR, parse_fmt c 0 (fits_max hc), parse_fmt n 0 (fits_max hn)]
theorem ans_event (c n : Int) : eventR (ansL c n) = (Ev.zero, 11) := by
  unfold ansL
  exact eventR_not (.inr (.inl (by decide)))
theorem right_mk {t : Int} {s : List UInt8} (h1 : 1 ≤ t) (h2 : t ≤ 9999) (h8 : t ≠ 8) (h9 : t ≠ 9) (h10 : t ≠ 10) (hs : s ≠ []) (ho : (1 : UInt8) ∉ s) : rightF (t, s) = true := by
  unfold rightF
  exact decide_eq_true ⟨h1, h2, h8, h9, h10, hs, ho⟩
theorem valid_mk {s : List UInt8} {r : List Fld} (hr : ∀ f ∈ (35, s) :: r, rightF f = true) (hb : (bodyB ((35, s) :: r)).length ≤ 4096) : validR ((35, s) :: r) = 0 := by
  have : badF ((35, s) :: r) = false := badF_none (fun f hf => hr f (by rwa [List.take_length] at hf))
  simp only [validR, this]
  rw [if_neg (by simp), if_neg (by omega)]
theorem ans_valid {c n : Int} (hc : fits c = true) (hn : fits n = true) : validR (ansL c n) = 0 := by
  unfold ansL
  have h0 : rightF (35, [114]) = true := by decide
  have h1 : rightF (39, fmtF c 0) = true := right_mk (by decide) (by decide) (by decide) (by decide) (by decide) (fmt0_ne c) (fmt0_one c)
  have h2 : rightF (37, fmtF n 0) = true := right_mk (by decide) (by decide) (by decide) (by decide) (by decide) (fmt0_ne n) (fmt0_one n)
  refine valid_mk ?_ ?_
  · intro f hf
    simp at hf
    rcases hf with rfl | rfl | rfl <;> assumption
  · have l0 := fieldB_len h0
    have l1 := fieldB_len h1
    have l2 := fieldB_len h2
    have k1 := fmt0_len hc
    have k2 := fmt0_len hn
    unfold bodyB
    simp only [List.flatMap_cons, List.flatMap_nil, List.length_append, List.length_nil]
    simp at l0 l1 l2
    omega
end Go.Proofs.YtbpndiegbfpigaaGreatDoor.PortM
