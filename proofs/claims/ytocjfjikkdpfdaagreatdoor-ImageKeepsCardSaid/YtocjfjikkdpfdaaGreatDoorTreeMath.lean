/- Accounts above one another: the chain upwards, what Check answers. No program in sight. -/
import Derived.Test.YtocjfjikkdpfdaaGreatDoorBase
set_option linter.unusedSimpArgs false
set_option linter.unusedVariables false
namespace Go.Proofs.YtocjfjikkdpfdaaGreatDoor.TreeM
open Go.Proofs.YtocjfjikkdpfdaaGreatDoor.Bas

/-- the one named as above -/
def par (ps : List Int) (v : Nat) : Int := ps.getD v (-1)
/-- an account and those above it, as long as each is named ahead of what names it -/
def chain (ps : List Int) (v : Nat) : List Nat :=
  v :: (if _h : 0 ≤ par ps v ∧ (par ps v).toNat < v then chain ps (par ps v).toNat else [])
termination_by v
def Fine (ps : List Int) (v : Nat) : Prop := par ps v = -1 ∨ (2 ≤ v ∧ 2 ≤ par ps v ∧ par ps v < v ∧ (chain ps v).length ≤ 4)
instance (ps : List Int) (v : Nat) : Decidable (Fine ps v) := by unfold Fine; infer_instance
def checkF (ps : List Int) : Int × Int :=
  if ps.length < 2 then (0, 33) else if 16 < ps.length then (16, 40) else
  match (List.range ps.length).find? (fun v => decide (¬ Fine ps v)) with
  | none => (0, 0)
  | some v => ((v : Int), 33)
def Ok (ps : List Int) : Prop := 2 ≤ ps.length ∧ ps.length ≤ 16 ∧ ∀ v, v < ps.length → Fine ps v
instance (ps : List Int) : Decidable (Ok ps) := by unfold Ok; infer_instance

theorem find_range (p : Nat → Bool) (n k : Nat) (hk : k < n) (h : ∀ i, i < k → p i = false) (hp : p k = true) : (List.range n).find? p = some k := by
  rw [List.find?_range_eq_some]
  exact ⟨hp, by simpa using hk, fun j hj => by simp [h j hj]⟩
theorem checkF_short {ps : List Int} (h : ps.length < 2) : checkF ps = (0, 33) := by simp [checkF, h]
theorem checkF_long {ps : List Int} (h : 16 < ps.length) : checkF ps = (16, 40) := by simp [checkF, h]; omega
theorem checkF_bad {ps : List Int} {k : Nat} (h1 : 2 ≤ ps.length) (h2 : ps.length ≤ 16) (hk : k < ps.length) (h : ∀ i, i < k → Fine ps i) (hb : ¬ Fine ps k) : checkF ps = ((k : Int), 33) := by
  unfold checkF
  rw [if_neg (by omega), if_neg (by omega), find_range _ _ k hk (fun i hi => by simp [h i hi]) (by simp [hb])]
theorem checkF_ok {ps : List Int} (h1 : 2 ≤ ps.length) (h2 : ps.length ≤ 16) (h : ∀ i, i < ps.length → Fine ps i) : checkF ps = (0, 0) := by
  unfold checkF
  have e : (List.range ps.length).find? (fun v => decide (¬ Fine ps v)) = none := by
    rw [List.find?_eq_none]
    intro x hx
    have := h x (by simpa using hx)
    simp [this]
  rw [if_neg (by omega), if_neg (by omega), e]
theorem checkF_of_ok {ps : List Int} (h : Ok ps) : checkF ps = (0, 0) := checkF_ok h.1 h.2.1 h.2.2
theorem checkF_cases (ps : List Int) : (checkF ps = (0, 0) ∧ Ok ps) ∨ (((checkF ps).2 = 33 ∨ (checkF ps).2 = 40) ∧ ¬ Ok ps) := by
  by_cases h : Ok ps
  · exact .inl ⟨checkF_of_ok h, h⟩
  · refine .inr ⟨?_, h⟩
    unfold checkF
    split
    · exact .inl rfl
    · split
      · exact .inr rfl
      · split
        · rename_i h1 h2 hn
          exfalso
          refine h ⟨by omega, by omega, fun v hv => ?_⟩
          rw [List.find?_eq_none] at hn
          have := hn v (by simpa using hv)
          simpa using this
        · exact .inl rfl
theorem checkF_no {ps : List Int} (h : ¬ Ok ps) : (checkF ps).2 = 33 ∨ (checkF ps).2 = 40 := by
  rcases checkF_cases ps with ⟨_, h'⟩ | ⟨h', _⟩
  · exact absurd h' h
  · exact h'

/-- what stands above from here on -/
def tail (ps : List Int) (at_ : Int) : List Nat := if 0 ≤ at_ then chain ps at_.toNat else []
theorem chain_root {ps : List Int} {v : Nat} (h : par ps v = -1) : chain ps v = [v] := by rw [chain, dif_neg (by omega)]
theorem chain_step {ps : List Int} {v : Nat} (h : 0 ≤ par ps v) (h2 : par ps v < v) : chain ps v = v :: chain ps (par ps v).toNat := by
  rw [chain, dif_pos ⟨h, by omega⟩]
theorem chain_fine {ps : List Int} {v : Nat} (h : par ps v = -1 ∨ (0 ≤ par ps v ∧ par ps v < v)) : chain ps v = v :: tail ps (par ps v) := by
  unfold tail
  rcases h with h | ⟨h1, h2⟩
  · rw [chain_root h, if_neg (by omega)]
  · rw [chain_step h1 h2, if_pos h1]
theorem Fine.up {ps : List Int} {v : Nat} (h : Fine ps v) : par ps v = -1 ∨ (0 ≤ par ps v ∧ par ps v < v) := by
  rcases h with h | ⟨_, h1, h2, _⟩
  · exact .inl h
  · exact .inr ⟨by omega, h2⟩
theorem Fine.len {ps : List Int} {v : Nat} (h : Fine ps v) : (chain ps v).length ≤ 4 := by
  rcases h with h | ⟨_, _, _, h⟩
  · rw [chain_root h]; simp
  · exact h
theorem chain_le {ps : List Int} : ∀ v x, x ∈ chain ps v → x ≤ v := by
  intro v
  induction v using Nat.strongRecOn with
  | _ v ih =>
    intro x hx
    rw [chain] at hx
    split at hx
    · rename_i h
      rcases List.mem_cons.1 hx with rfl | hx
      · omega
      · have := ih _ h.2 x hx; omega
    · simp at hx; omega
theorem chain_len (ps : List Int) : ∀ v, (chain ps v).length ≤ v + 1 := by
  intro v
  induction v using Nat.strongRecOn with
  | _ v ih =>
    rw [chain]
    split
    · rename_i h
      have := ih _ h.2
      simp only [List.length_cons]; omega
    · simp
theorem chain_pos (ps : List Int) (v : Nat) : 1 ≤ (chain ps v).length := by rw [chain]; simp
theorem chain_self (ps : List Int) (v : Nat) : v ∈ chain ps v := by rw [chain]; simp
theorem tail_len (ps : List Int) (p : Int) (v : Nat) (h : p < v) : (tail ps p).length ≤ v := by
  unfold tail
  split
  · have := chain_len ps p.toNat; omega
  · simp
/-- the whole answers -/
def aboveF (ps : List Int) (v : Int) : List Nat := if Ok ps ∧ 0 ≤ v ∧ v < ps.length then chain ps v.toNat else []
theorem aboveF_yes {ps : List Int} {v : Int} (h : Ok ps ∧ 0 ≤ v ∧ v < ps.length) : aboveF ps v = chain ps v.toNat := if_pos h
theorem aboveF_no {ps : List Int} {v : Int} (h : ¬ (Ok ps ∧ 0 ≤ v ∧ v < ps.length)) : aboveF ps v = [] := if_neg h
theorem aboveF_len (ps : List Int) (v : Int) : (aboveF ps v).length ≤ 4 := by
  unfold aboveF
  split
  · rename_i h
    exact (h.1.2.2 _ (by omega)).len
  · simp
/-- those at or below v, ahead of n -/
def belowN (ps : List Int) (v n : Nat) : List Nat := (List.range n).filter fun u => decide (v ∈ chain ps u)
def belowF (ps : List Int) (v : Int) : List Nat := if Ok ps ∧ 0 ≤ v ∧ v < ps.length then belowN ps v.toNat ps.length else []
theorem belowN_succ (ps : List Int) (v n : Nat) : belowN ps v (n + 1) = belowN ps v n ++ (if v ∈ chain ps n then [n] else []) := by
  unfold belowN
  rw [List.range_succ, List.filter_append]
  by_cases h : v ∈ chain ps n <;> simp [h]
theorem belowN_low (ps : List Int) (v n : Nat) (h : n ≤ v) : belowN ps v n = [] := by
  unfold belowN
  rw [List.filter_eq_nil_iff]
  intro u hu hd
  have := chain_le u v (by simpa using hd)
  simp at hu; omega
theorem belowN_first (ps : List Int) (v : Nat) : belowN ps v (v + 1) = [v] := by
  rw [belowN_succ, belowN_low ps v v (Nat.le_refl _), if_pos (chain_self ps v)]; rfl
theorem belowN_len (ps : List Int) (v n : Nat) : (belowN ps v n).length ≤ n := by
  unfold belowN
  have := List.length_filter_le (fun u => decide (v ∈ chain ps u)) (List.range n)
  simpa using this
theorem mem_belowN {ps : List Int} {v n x : Nat} : x ∈ belowN ps v n ↔ x < n ∧ v ∈ chain ps x := by simp [belowN]
/-- lists of accounts, as Go's numbers -/
def ints (l : List Nat) : List Int := l.map fun (x : Nat) => (x : Int)
theorem ints_len (l : List Nat) : (ints l).length = l.length := by simp [ints]
theorem ints_append (l m : List Nat) : ints (l ++ m) = ints l ++ ints m := by simp [ints]
theorem mem_ints {l : List Nat} {x : Int} : x ∈ ints l ↔ 0 ≤ x ∧ x.toNat ∈ l := by
  unfold ints
  constructor
  · intro h
    obtain ⟨y, hy, rfl⟩ := List.mem_map.1 h
    exact ⟨by omega, by simpa using hy⟩
  · rintro ⟨h, hx⟩
    exact List.mem_map.2 ⟨x.toNat, hx, by omega⟩
/-- who names one below v, is below v; later ones alone -/
theorem step_mem {ps : List Int} {v u : Nat} (h : Fine ps u) (hv : v < u) : par ps u ∈ ints (belowN ps v u) ↔ v ∈ chain ps u := by
  rw [mem_ints, mem_belowN, chain_fine h.up]
  unfold tail
  rcases h.up with h | ⟨h1, h2⟩
  · rw [h]; simp; omega
  · simp [h1]
    constructor
    · exact fun h => .inr h.2
    · rintro (rfl | h)
      · omega
      · exact ⟨by omega, h⟩
end Go.Proofs.YtocjfjikkdpfdaaGreatDoor.TreeM
