/- Events as fields: what Fields answers. No program in sight. -/
import Derived.Test.YtbpndiegbfpigaaGreatDoorDecMath
import Derived.Test.YtbpndiegbfpigaaGreatDoorFixpMath
import Derived.Test.YtbpndiegbfpigaaGreatDoorBaseFld
namespace Go.Proofs.YtbpndiegbfpigaaGreatDoor.PortM
open Go.Proofs.YtbpndiegbfpigaaGreatDoor.DecM Go.Proofs.YtbpndiegbfpigaaGreatDoor.FixpM Go.Proofs.YtbpndiegbfpigaaGreatDoor.FldW

structure Ev where
  kind : Int
  acct : Int
  id : Int
  new : Int
  instr : Int
  under : Int
  cur : Int
  qty : Int
  price : Int
  amount : Int
  call : Bool
  name : List UInt8
deriving DecidableEq
def tagsF (k : Int) : List Int :=
  if k = 1 then [1, 11, 55, 38, 44] else if k = 2 then [1, 11] else if k = 3 then [1, 11, 41, 38, 44] else if k = 4 then [1, 11, 38, 44] else if k = 5 then [311, 44, 12] else if k = 6 then [15, 44, 12] else
  if k = 7 then [1, 15, 12] else if k = 8 then [1] else if k = 9 then [107, 15, 44, 12] else if k = 10 then [41, 311, 38, 44, 12, 201] else if k = 11 then [55, 38] else if k = 12 then [1, 55, 38] else
  if k = 13 then [311, 41, 11] else if k = 14 then [311, 12] else if k = 15 then [311, 107] else []
def num (v : Ev) (t : Int) : Int :=
  if t = 1 then v.acct else if t = 11 then v.id else if t = 12 then v.amount else if t = 15 then v.cur else if t = 38 then v.qty else if t = 41 then v.new else if t = 44 then v.price else if t = 55 then v.instr else v.under
/-- the place of a tag's number among an event's fields -/
def place (t : Int) : Nat :=
  if t = 1 then 1 else if t = 11 then 2 else if t = 12 then 9 else if t = 15 then 6 else if t = 38 then 7 else if t = 41 then 3 else if t = 44 then 8 else if t = 55 then 4 else 5
def kindsL : List UInt8 := [68, 70, 71, 56, 87, 82, 67, 65, 85, 73, 76, 66, 83, 86, 78, 69]
def typeB (k : Int) : UInt8 := kindsL.getD (k - 1).toNat 0
/-- a tag's error and text -/
def one (v : Ev) (t : Int) : Int × List UInt8 :=
  if t = 107 then (if v.name = [] ∨ (1 : UInt8) ∈ v.name then (42, []) else (0, v.name)) else if t = 201 then (0, [if v.call then 89 else 78]) else if fits (num v t) then (0, fmtF (num v t) 0) else (4, [])
def outF (v : Ev) (ts : List Int) : List Fld := ts.map fun t => (t, (one v t).2)
def errF (v : Ev) (ts : List Int) : Int := match ts.find? (fun t => decide ((one v t).1 ≠ 0)) with
  | none => 0
  | some t => (one v t).1
def fieldsR (v : Ev) : List Fld × Int :=
  if v.kind < 1 ∨ 16 < v.kind then ([], 44) else if errF v (tagsF v.kind) = 0 then ((35, [typeB v.kind]) :: outF v (tagsF v.kind), 0) else ([], errF v (tagsF v.kind))
def AllOk (v : Ev) (ts : List Int) : Prop := ∀ t ∈ ts, (one v t).1 = 0
theorem errF_ok {v : Ev} {ts : List Int} (h : AllOk v ts) : errF v ts = 0 := by
  unfold errF
  rw [List.find?_eq_none.2 (fun t ht => by simp [h t ht])]
theorem errF_bad {v : Ev} {ts : List Int} {j : Nat} (hj : j < ts.length) (h : AllOk v (ts.take j)) (hb : (one v ts[j]).1 ≠ 0) : errF v ts = (one v ts[j]).1 := by
  have e : ts.find? (fun t => decide ((one v t).1 ≠ 0)) = some ts[j] := by
    rw [List.find?_eq_some_iff_getElem]
    refine ⟨by simp [hb], j, hj, rfl, fun i hi => ?_⟩
    have : ts[i]'(by omega) ∈ ts.take j := by rw [List.mem_take_iff_getElem]; exact ⟨i, by omega, rfl⟩
    simp [h _ this]
  unfold errF
  rw [e]
theorem AllOk.snoc {v : Ev} {ts : List Int} {j : Nat} (hj : j < ts.length) (h : AllOk v (ts.take j)) (hb : (one v ts[j]).1 = 0) : AllOk v (ts.take (j + 1)) := by
  rw [List.take_succ_eq_append_getElem hj]
  intro t ht
  rcases List.mem_append.1 ht with ht | ht
  · exact h t ht
  · rw [List.mem_singleton.1 ht]; exact hb
theorem outF_snoc {v : Ev} {ts : List Int} {j : Nat} (hj : j < ts.length) : outF v (ts.take (j + 1)) = outF v (ts.take j) ++ [(ts[j], (one v ts[j]).2)] := by
  rw [List.take_succ_eq_append_getElem hj]
  unfold outF
  rw [List.map_append]; rfl
theorem len_if {c : Prop} [Decidable c] {a b : List Int} (ha : a.length ≤ 6) (hb : b.length ≤ 6) : (if c then a else b).length ≤ 6 := by split <;> assumption
theorem tagsF_len (k : Int) : (tagsF k).length ≤ 6 := by
  unfold tagsF
  repeat (refine len_if (by decide) ?_)
  decide
theorem fieldsR_kind {v : Ev} (h : v.kind < 1 ∨ 16 < v.kind) : fieldsR v = ([], 44) := by unfold fieldsR; rw [if_pos h]
theorem fieldsR_ok {v : Ev} (h : ¬ (v.kind < 1 ∨ 16 < v.kind)) (ha : AllOk v (tagsF v.kind)) : fieldsR v = ((35, [typeB v.kind]) :: outF v (tagsF v.kind), 0) := by
  unfold fieldsR
  rw [if_neg h, errF_ok ha, if_pos rfl]
theorem fieldsR_bad {v : Ev} {j : Nat} (h : ¬ (v.kind < 1 ∨ 16 < v.kind)) (hj : j < (tagsF v.kind).length) (ha : AllOk v ((tagsF v.kind).take j)) (hb : (one v (tagsF v.kind)[j]).1 ≠ 0) : fieldsR v = ([], (one v (tagsF v.kind)[j]).1) := by
  unfold fieldsR
  rw [if_neg h, errF_bad hj ha hb, if_neg hb]
theorem one_name_bad {v : Ev} (h : v.name = [] ∨ (1 : UInt8) ∈ v.name) : one v 107 = (42, []) := by unfold one; rw [if_pos rfl, if_pos h]
theorem one_name {v : Ev} (h : ¬ (v.name = [] ∨ (1 : UInt8) ∈ v.name)) : one v 107 = (0, v.name) := by unfold one; rw [if_pos rfl, if_neg h]
theorem one_call {v : Ev} : one v 201 = (0, [if v.call then 89 else 78]) := by unfold one; rw [if_neg (by decide), if_pos rfl]
theorem one_num {v : Ev} {t : Int} (h1 : t ≠ 107) (h2 : t ≠ 201) : one v t = if fits (num v t) then (0, fmtF (num v t) 0) else (4, []) := by unfold one; rw [if_neg h1, if_neg h2]
/-- replies -/
def answerR (c n : Int) : List Fld × Int := if fits c = true ∧ fits n = true then ([(35, [114]), (39, fmtF c 0), (37, fmtF n 0)], 0) else ([], 4)
def ofF (k : Int) : Int := if k < 1 ∨ 16 < k then -1 else if k ≤ 3 then 0 else if k = 4 then 1 else if k ≤ 6 then 2 else 3
end Go.Proofs.YtbpndiegbfpigaaGreatDoor.PortM
