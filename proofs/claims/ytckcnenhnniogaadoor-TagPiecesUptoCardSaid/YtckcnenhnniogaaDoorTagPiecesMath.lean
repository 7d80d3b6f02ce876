/- Frames that come in pieces. No program in sight. -/
import Derived.Test.YtckcnenhnniogaaDoorTagFrMath
set_option linter.unusedSimpArgs false
set_option linter.unusedVariables false
namespace Go.Proofs.YtckcnenhnniogaaDoor.TagW
open Go.Proofs.YtckcnenhnniogaaDoor.FldW Go.Proofs.YtckcnenhnniogaaDoor.TagM Go.Proofs.YtckcnenhnniogaaDoor.DecM Go.Lib

/-- frames one behind the other -/
def catF (gs : List (List Fld)) : List UInt8 := gs.flatMap fun f => frameB (bodyB f)
theorem catF_nil : catF [] = [] := rfl
theorem catF_cons (g : List Fld) (gs : List (List Fld)) : catF (g :: gs) = frameB (bodyB g) ++ catF gs := by unfold catF; rw [List.flatMap_cons]
theorem catF_append (a b : List (List Fld)) : catF (a ++ b) = catF a ++ catF b := by unfold catF; rw [List.flatMap_append]
theorem catF_split (gs : List (List Fld)) (j : Nat) : catF gs = catF (gs.take j) ++ catF (gs.drop j) := by rw [← catF_append, List.take_append_drop]
theorem frame_pos (g : List Fld) : 0 < (frameB (bodyB g)).length := by rw [frameB_len]; omega
theorem frames_beg {g : List Fld} (h : validR g = 0) {s : List UInt8} (hs : s <+: frameB (bodyB g)) (hl : s.length < (frameB (bodyB g)).length) : framesR s = ([], s.length) := by
  have e : s = (frameB (bodyB g)).take s.length := List.prefix_iff_eq_take.1 hs
  refine framesR_stop ?_
  rw [e, decode_beg h hl]
theorem frames_prefix : ∀ {gs : List (List Fld)}, (∀ g ∈ gs, validR g = 0) → ∀ {s : List UInt8}, s <+: catF gs →
    ∃ k left, k ≤ gs.length ∧ s = catF (gs.take k) ++ left ∧ framesR s = ((gs.take k).map (fun f => (f, (0 : Int))), left.length) ∧ (s = catF gs → k = gs.length ∧ left = [])
  | [], _, s, hs => by
    have : s = [] := List.prefix_nil.1 (by rw [catF_nil] at hs; exact hs)
    subst this
    exact ⟨0, [], Nat.le_refl _, rfl, frames_nil, fun _ => ⟨rfl, rfl⟩⟩
  | g :: gs, hv, s, hs => by
    have hg := hv g List.mem_cons_self
    rw [catF_cons] at hs
    by_cases hl : s.length < (frameB (bodyB g)).length
    · have hp : s <+: frameB (bodyB g) := by
        obtain ⟨r, e⟩ := hs
        have h1 : s = (frameB (bodyB g) ++ catF gs).take s.length := by rw [← e, List.take_left]
        rw [List.take_append_of_le_length (by omega)] at h1
        rw [h1]
        exact List.take_prefix _ _
      refine ⟨0, s, Nat.zero_le _, rfl, frames_beg hg hp hl, fun e => ?_⟩
      have := congrArg List.length e
      rw [catF_cons, List.length_append] at this
      omega
    · obtain ⟨s', rfl⟩ : ∃ s', s = frameB (bodyB g) ++ s' := by
        obtain ⟨r, e⟩ := hs
        have h1 : (s ++ r).take (frameB (bodyB g)).length = frameB (bodyB g) := by rw [e, List.take_left]
        rw [List.take_append_of_le_length (by omega)] at h1
        exact ⟨s.drop (frameB (bodyB g)).length, by conv => lhs; rw [← List.take_append_drop (frameB (bodyB g)).length s, h1]⟩
      have hs' : s' <+: catF gs := (List.prefix_append_right_inj _).1 hs
      obtain ⟨k, left, hk, e, hf, hend⟩ := frames_prefix (gs := gs) (fun f hf => hv f (List.mem_cons_of_mem _ hf)) hs'
      refine ⟨k + 1, left, by simp; omega, ?_, ?_, ?_⟩
      · rw [List.take_succ_cons, catF_cons, List.append_assoc, ← e]
      · rw [frames_front hg, hf, List.take_succ_cons]; rfl
      · intro h
        rw [catF_cons] at h
        obtain ⟨h1, h2⟩ := hend (List.append_cancel_left h)
        exact ⟨by rw [List.length_cons, h1], h2⟩
theorem pieces_step {gs : List (List Fld)} (hv : ∀ g ∈ gs, validR g = 0) {j : Nat} (hj : j ≤ gs.length) {left : List UInt8} {p c : Nat} (h : catF (gs.take j) ++ left = (catF gs).take p) (h1 : p ≤ c) :
    ∃ k left', j + k ≤ gs.length ∧ framesR (left ++ ((catF gs).drop p).take (c - p)) = (((gs.drop j).take k).map (fun f => (f, (0 : Int))), left'.length) ∧ catF (gs.take (j + k)) ++ left' = (catF gs).take c ∧
      (left ++ ((catF gs).drop p).take (c - p)).drop ((left ++ ((catF gs).drop p).take (c - p)).length - left'.length) = left' ∧ left'.length ≤ (left ++ ((catF gs).drop p).take (c - p)).length ∧ (c = (catF gs).length → j + k = gs.length ∧ left' = []) := by
  obtain ⟨s, hs⟩ : ∃ s, s = left ++ ((catF gs).drop p).take (c - p) := ⟨_, rfl⟩
  rw [← hs]
  have hc : catF (gs.take j) ++ s = (catF gs).take c := by
    rw [hs, ← List.append_assoc, h, show c = p + (c - p) by omega, List.take_add, show p + (c - p) - p = c - p by omega]
  have hp : s <+: catF (gs.drop j) := by
    refine (List.prefix_append_right_inj (catF (gs.take j))).1 ?_
    rw [hc, ← catF_split]
    exact List.take_prefix _ _
  obtain ⟨k, left', hk, e, hf, hend⟩ := frames_prefix (gs := gs.drop j) (fun f hf => hv f (List.mem_of_mem_drop hf)) hp
  rw [List.length_drop] at hk
  refine ⟨k, left', by omega, hf, ?_, ?_, ?_, ?_⟩
  · rw [List.take_add, catF_append, List.append_assoc, ← e, hc]
  · rw [e, List.length_append, Nat.add_sub_cancel, List.drop_left]
  · rw [e, List.length_append]; omega
  · intro hcl
    have : s = catF (gs.drop j) := by
      rw [hcl, List.take_length] at hc
      rw [catF_split gs j] at hc
      exact List.append_cancel_left hc
    obtain ⟨h3, h4⟩ := hend this
    rw [List.length_drop] at h3
    exact ⟨by omega, h4⟩
end Go.Proofs.YtckcnenhnniogaaDoor.TagW
