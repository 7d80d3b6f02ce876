/- A frame in which one byte was turned is none. No program in sight. -/
import Derived.Test.YtokinnkagdjciaaDoorTagBackMath
namespace Go.Proofs.YtokinnkagdjciaaDoor.TagW
open Go.Proofs.YtokinnkagdjciaaDoor.FldW Go.Proofs.YtokinnkagdjciaaDoor.TagM Go.Proofs.YtokinnkagdjciaaDoor.DecM Go.Lib

theorem small_fold : ∀ (m : List Nat) (s : Nat), s < 256 → m.foldl (fun n x => (n + x) % 256) s = (s + m.sum) % 256
  | [], s, h => by simp; omega
  | x :: m, s, _ => by
    rw [List.foldl_cons, small_fold m _ (Nat.mod_lt _ (by decide)), List.sum_cons]
    omega
theorem small_sum (l : List UInt8) : smallB l = (l.map (·.toNat)).sum % 256 := by
  unfold smallB
  rw [small_fold _ 0 (by decide), Nat.zero_add]
theorem small_set {l : List UInt8} {k : Nat} {x : UInt8} (hk : k < l.length) (hx : x ≠ l[k]) : smallB (l.set k x) ≠ smallB l := by
  rw [small_sum, small_sum]
  have e1 : l.set k x = l.take k ++ x :: l.drop (k + 1) := by rw [List.set_eq_take_append_cons_drop, if_pos hk]
  have e2 : l = l.take k ++ l[k] :: l.drop (k + 1) := by
    conv => lhs; rw [← List.take_append_drop k l, List.drop_eq_getElem_cons hk]
  have hne : x.toNat ≠ l[k].toNat := fun h => hx (UInt8.toNat_inj.1 h)
  have h1 := x.toNat_lt
  have h2 := l[k].toNat_lt
  generalize l[k] = y at *
  rw [e1]
  conv => rhs; rw [e2]
  simp only [List.map_append, List.map_cons, List.sum_append, List.sum_cons]
  omega
theorem low_inj {a b : Nat} (ha : a < 1000) (hb : b < 1000) (h : low a 3 = low b 3) : a = b := by
  have := congrArg val h
  rw [val_low, val_low] at this
  omega
theorem nd_mono {a b : Nat} (h : a ≤ b) : nDigits a ≤ nDigits b := by
  induction a using Nat.strongRecOn generalizing b with
  | ind a ih =>
    by_cases ha : a < 10
    · rw [nDigits_small ha]; exact nd_pos b
    · rw [nDigits_big ha, nDigits_big (u := b) (by omega)]
      have := ih (a / 10) (by omega) (b := b / 10) (by omega)
      omega
theorem frame_same_len {a b : List UInt8} (h : (frameB a).length = (frameB b).length) : a.length = b.length := by
  rw [frameB_len, frameB_len, allB_len, allB_len, decDigits_length, decDigits_length] at h
  rcases Nat.lt_trichotomy a.length b.length with h1 | h1 | h1
  · have := nd_mono (Nat.le_of_lt h1); omega
  · exact h1
  · have := nd_mono (Nat.le_of_lt h1); omega
theorem frame_cut (a : List UInt8) : (frameB a).take (allB a).length = allB a ∧ (frameB a).drop (allB a).length = [49, 48, 61] ++ low (smallB (allB a)) 3 ++ [1] := by
  unfold frameB
  rw [List.take_left, List.drop_left]
  exact ⟨rfl, rfl⟩
theorem frame_tells {a b : List UInt8} {k : Nat} {x : UInt8} (hk : k < (frameB a).length) (hx : x ≠ (frameB a)[k]) (h : frameB b = (frameB a).set k x) : False := by
  have hl := frame_same_len (show (frameB b).length = (frameB a).length by rw [h, List.length_set])
  have hL : (allB b).length = (allB a).length := by rw [allB_len, allB_len, hl]
  obtain ⟨a1, a2⟩ := frame_cut a
  obtain ⟨b1, b2⟩ := frame_cut b
  rw [h, hL] at b1 b2
  by_cases hka : k < (allB a).length
  · rw [List.drop_set, if_pos hka, a2] at b2
    have e1 : allB b = (allB a).set k x := by rw [← b1, List.take_set, a1]
    have e2 : low (smallB (allB a)) 3 = low (smallB (allB b)) 3 := by
      have := List.append_cancel_right b2
      exact List.append_cancel_left this
    have := low_inj (by have := smallB_lt (allB a); omega) (by have := smallB_lt (allB b); omega) e2
    have hg : (frameB a)[k] = (allB a)[k] := by
      have : (frameB a)[k]? = (allB a)[k]? := by rw [← a1, List.getElem?_take, if_pos hka]
      rw [List.getElem?_eq_getElem hk, List.getElem?_eq_getElem hka] at this
      exact Option.some.inj this
    rw [hg] at hx
    exact small_set hka hx (by rw [← e1, ← this])
  · have e1 : allB b = allB a := by rw [← b1, List.take_set_of_le (by omega), a1]
    have : (frameB a).set k x = frameB a := by
      rw [← h]; unfold frameB; rw [e1]
    have h2 : ((frameB a).set k x)[k]? = (frameB a)[k]? := by rw [this]
    rw [List.getElem?_set_self hk, List.getElem?_eq_getElem hk] at h2
    exact hx (Option.some.inj h2)
theorem decode_turned {fs : List Fld} {k : Nat} {x : UInt8} (hk : k < (frameB (bodyB fs)).length) (hx : x ≠ (frameB (bodyB fs))[k]) {gs : List Fld} {n : Nat} (h : decodeR ((frameB (bodyB fs)).set k x) = ((gs, n), 0)) : n ≠ (frameB (bodyB fs)).length := by
  intro hn
  obtain ⟨_, _, _, h4⟩ := decode_ok h
  rw [hn, List.take_of_length_le (by rw [List.length_set]; exact Nat.le_refl _)] at h4
  exact frame_tells hk hx h4
end Go.Proofs.YtokinnkagdjciaaDoor.TagW
