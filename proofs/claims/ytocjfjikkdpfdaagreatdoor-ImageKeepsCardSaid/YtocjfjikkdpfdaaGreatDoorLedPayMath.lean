/- What Pay and Total answer, in plain data. -/
import Derived.Test.YtocjfjikkdpfdaaGreatDoorLedOwn
import Derived.Test.YtocjfjikkdpfdaaGreatDoorFixpMath
set_option linter.unusedSimpArgs false
set_option linter.unusedVariables false
namespace Go.Proofs.YtocjfjikkdpfdaaGreatDoor.LedW
open Go.Proofs.YtocjfjikkdpfdaaGreatDoor.LedM Go.Proofs.YtocjfjikkdpfdaaGreatDoor.FixpM

def zeroLed : Led := ⟨0, [], [], [], [], [], [], [], []⟩
def cashLen (l : Led) (v : Nat) : Nat := ((l.accts[v]?).map fun a => a.cash.length).getD 0
def cashAt (l : Led) (v c : Nat) : Int := ((l.accts[v]?).map fun a => a.cash.getD c 0).getD 0
/-- is there such an account, such a currency of it? nought: yes; else the error -/
def endF (l : Led) (cur v : Int) : Int := if 0 ≤ v ∧ v < l.accts.length then (if 0 ≤ cur ∧ cur < cashLen l v.toNat then 0 else 30) else 33
def payF (l : Led) (cur amount fr to_ : Int) : Led × Int :=
  if endF l cur fr ≠ 0 then (zeroLed, endF l cur fr) else
  if endF l cur to_ ≠ 0 then (zeroLed, endF l cur to_) else
  let x := subF (cashAt l fr.toNat cur.toNat) amount
  if x.2 ≠ 0 then (zeroLed, x.2) else
  let l1 := setCash l fr.toNat cur.toNat x.1
  let y := addF (cashAt l1 to_.toNat cur.toNat) amount
  if y.2 ≠ 0 then (zeroLed, y.2) else (setCash l1 to_.toNat cur.toNat y.1, 0)
theorem endF_ok {l : Led} {cur v : Int} (h : endF l cur v = 0) : 0 ≤ v ∧ v < l.accts.length ∧ 0 ≤ cur ∧ cur < cashLen l v.toNat := by
  unfold endF at h
  by_cases h1 : 0 ≤ v ∧ v < l.accts.length
  · rw [if_pos h1] at h
    by_cases h2 : 0 ≤ cur ∧ cur < cashLen l v.toNat
    · exact ⟨h1.1, h1.2, h2⟩
    · rw [if_neg h2] at h; omega
  · rw [if_neg h1] at h; omega
theorem endF_acct {l : Led} {cur v : Int} (h : ¬ (0 ≤ v ∧ v < l.accts.length)) : endF l cur v = 33 := if_neg h
theorem endF_cur {l : Led} {cur v : Int} (h : 0 ≤ v ∧ v < l.accts.length) (h2 : ¬ (0 ≤ cur ∧ cur < cashLen l v.toNat)) : endF l cur v = 30 := by unfold endF; rw [if_pos h, if_neg h2]
theorem endF_zero {l : Led} {cur v : Int} (h : 0 ≤ v ∧ v < l.accts.length) (h2 : 0 ≤ cur ∧ cur < cashLen l v.toNat) : endF l cur v = 0 := by unfold endF; rw [if_pos h, if_pos h2]
theorem cashLen_at {l : Led} {v : Nat} (h : v < l.accts.length) : cashLen l v = (l.accts[v]).cash.length := by unfold cashLen; rw [List.getElem?_eq_getElem h]; rfl
theorem cashAt_at {l : Led} {v c : Nat} (h : v < l.accts.length) : cashAt l v c = (l.accts[v]).cash.getD c 0 := by unfold cashAt; rw [List.getElem?_eq_getElem h]; rfl
theorem payF_bad1 {l : Led} {cur amount fr to_ e : Int} (h : endF l cur fr = e) (hne : e ≠ 0) : payF l cur amount fr to_ = (zeroLed, e) := by unfold payF; rw [if_pos (by rw [h]; exact hne), h]
theorem payF_bad2 {l : Led} {cur amount fr to_ e : Int} (h0 : endF l cur fr = 0) (h : endF l cur to_ = e) (hne : e ≠ 0) : payF l cur amount fr to_ = (zeroLed, e) := by unfold payF; rw [if_neg (by rw [h0]; decide), if_pos (by rw [h]; exact hne), h]
theorem payF_sub {l : Led} {cur amount fr to_ x1 x2 : Int} (h1 : endF l cur fr = 0) (h2 : endF l cur to_ = 0) (hx : subF (cashAt l fr.toNat cur.toNat) amount = (x1, x2)) (hne : x2 ≠ 0) : payF l cur amount fr to_ = (zeroLed, x2) := by
  unfold payF
  rw [if_neg (by rw [h1]; decide), if_neg (by rw [h2]; decide), hx]
  exact if_pos hne
theorem payF_add {l : Led} {cur amount fr to_ x1 y1 y2 : Int} (h1 : endF l cur fr = 0) (h2 : endF l cur to_ = 0) (hx : subF (cashAt l fr.toNat cur.toNat) amount = (x1, 0)) (hy : addF (cashAt (setCash l fr.toNat cur.toNat x1) to_.toNat cur.toNat) amount = (y1, y2)) (hne : y2 ≠ 0) : payF l cur amount fr to_ = (zeroLed, y2) := by
  unfold payF
  rw [if_neg (by rw [h1]; decide), if_neg (by rw [h2]; decide), hx]
  simp only [ne_eq, not_true_eq_false, if_false, hy]
  exact if_pos hne
theorem payF_ok {l : Led} {cur amount fr to_ x1 y1 : Int} (h1 : endF l cur fr = 0) (h2 : endF l cur to_ = 0) (hx : subF (cashAt l fr.toNat cur.toNat) amount = (x1, 0)) (hy : addF (cashAt (setCash l fr.toNat cur.toNat x1) to_.toNat cur.toNat) amount = (y1, 0)) : payF l cur amount fr to_ = (setCash (setCash l fr.toNat cur.toNat x1) to_.toNat cur.toNat y1, 0) := by
  unfold payF
  rw [if_neg (by rw [h1]; decide), if_neg (by rw [h2]; decide), hx]
  simp only [ne_eq, not_true_eq_false, if_false, hy]
/-- the sum of all accounts' cash of a currency, as far as they come -/
def totalF (cur : Int) : Int → List Acc → Int × Int
  | all, [] => (all, 0)
  | all, a :: r => if 0 ≤ cur ∧ cur < a.cash.length then (let x := addF all (a.cash.getD cur.toNat 0); if x.2 ≠ 0 then (0, x.2) else totalF cur x.1 r) else (0, 30)
end Go.Proofs.YtocjfjikkdpfdaaGreatDoor.LedW
