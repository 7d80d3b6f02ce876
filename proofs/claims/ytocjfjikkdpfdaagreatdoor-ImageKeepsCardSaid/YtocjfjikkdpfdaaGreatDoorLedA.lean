/- Pay and Total of a ledger, wide: what they answer, the walks. -/
import Derived.Test.YtocjfjikkdpfdaaGreatDoorLedPayMath
import Derived.Test.YtocjfjikkdpfdaaGreatDoorLedPush
import Derived.Test.YtocjfjikkdpfdaaGreatDoorFixpSub
import Derived.Test.YtocjfjikkdpfdaaGreatDoorFixpRef
import Derived.Test.YtocjfjikkdpfdaaGreatDoorLedOpen
set_option linter.unusedSimpArgs false
set_option linter.unusedVariables false
namespace Go.Proofs.YtocjfjikkdpfdaaGreatDoor.LedW
open Go.Proofs.YtocjfjikkdpfdaaGreatDoor.LedM Go.Proofs.YtocjfjikkdpfdaaGreatDoor.FixpM

theorem cashAt_set {l : Led} {v c : Nat} {x : Int} {u : Nat} (hv : v < l.accts.length) (hc : c < (l.accts[v]).cash.length) : cashAt (setCash l v c x) u c = if v = u then x else cashAt l u c := by
  unfold cashAt setCash
  simp only [List.getElem?_modify]
  by_cases h : v = u
  · subst h
    rw [if_pos rfl, List.getElem?_eq_getElem hv]
    simp [putCash, List.getD_eq_getElem?_getD, hc]
  · rw [if_neg h]
    simp [h]
theorem cashAt_other {l : Led} {v c : Nat} {x : Int} {u k : Nat} (hk : c ≠ k) : cashAt (setCash l v c x) u k = cashAt l u k := by
  unfold cashAt setCash
  simp only [List.getElem?_modify]
  cases hu : l.accts[u]? with
  | none => simp
  | some a =>
    by_cases h : v = u
    · simp [h, putCash, List.getD_eq_getElem?_getD, List.getElem?_set_ne hk]
    · simp [h]
theorem addF_ok {a b x : Int} (h : addF a b = (x, 0)) : x = a + b ∧ fits x = true := by
  unfold addF at h
  split at h
  · unfold okv at h
    split at h
    · next hf => cases h; exact ⟨rfl, hf⟩
    · cases h
  · cases h
theorem subF_ok {a b x : Int} (h : subF a b = (x, 0)) : x = a - b ∧ fits x = true := by
  unfold subF at h
  split at h
  · unfold okv at h
    split at h
    · next hf => cases h; exact ⟨rfl, hf⟩
    · cases h
  · cases h
/-- a payment that went: from where, to where, what is there now -/
structure Paid (l l' : Led) (v t c : Nat) (amount x1 y1 : Int) : Prop where
  hv : v < l.accts.length
  ht : t < l.accts.length
  hvc : c < (l.accts[v]).cash.length
  htc : c < (l.accts[t]).cash.length
  x : x1 = cashAt l v c - amount
  fx : fits x1 = true
  y : y1 = cashAt (setCash l v c x1) t c + amount
  fy : fits y1 = true
  l' : l' = setCash (setCash l v c x1) t c y1
theorem payF_paid {l l' : Led} {cur amount fr to_ er : Int} (h : payF l cur amount fr to_ = (l', er)) : (er ≠ 0 ∧ l' = zeroLed) ∨ (er = 0 ∧ 0 ≤ fr ∧ 0 ≤ to_ ∧ 0 ≤ cur ∧ ∃ x1 y1, Paid l l' fr.toNat to_.toNat cur.toNat amount x1 y1) := by
  by_cases h1 : endF l cur fr = 0
  rotate_left
  · rw [payF_bad1 rfl h1] at h
    cases h
    exact .inl ⟨h1, rfl⟩
  by_cases h2 : endF l cur to_ = 0
  rotate_left
  · rw [payF_bad2 h1 rfl h2] at h
    cases h
    exact .inl ⟨h2, rfl⟩
  obtain ⟨x1, x2, hx⟩ : ∃ x1 x2, subF (cashAt l fr.toNat cur.toNat) amount = (x1, x2) := ⟨_, _, rfl⟩
  by_cases hx2 : x2 = 0
  rotate_left
  · rw [payF_sub h1 h2 hx hx2] at h
    cases h
    exact .inl ⟨hx2, rfl⟩
  subst hx2
  obtain ⟨y1, y2, hy⟩ : ∃ y1 y2, addF (cashAt (setCash l fr.toNat cur.toNat x1) to_.toNat cur.toNat) amount = (y1, y2) := ⟨_, _, rfl⟩
  by_cases hy2 : y2 = 0
  rotate_left
  · rw [payF_add h1 h2 hx hy hy2] at h
    cases h
    exact .inl ⟨hy2, rfl⟩
  subst hy2
  rw [payF_ok h1 h2 hx hy] at h
  cases h
  obtain ⟨a1, a2, a3, a4⟩ := endF_ok h1
  obtain ⟨b1, b2, b3, b4⟩ := endF_ok h2
  have hv : fr.toNat < l.accts.length := by omega
  have ht : to_.toNat < l.accts.length := by omega
  rw [cashLen_at hv] at a4
  rw [cashLen_at ht] at b4
  obtain ⟨e1, e2⟩ := subF_ok hx
  obtain ⟨e3, e4⟩ := addF_ok hy
  exact .inr ⟨rfl, a1, b1, a3, x1, y1, hv, ht, by omega, by omega, e1, e2, e3, e4, rfl⟩
/-! ### the document's Pay -/
def giveF (l : Led) (cur amount : Int) (v : Nat) : Led × Int :=
  let x := addF (cashAt l v cur.toNat) amount
  if x.2 ≠ 0 then (l, x.2) else (setCash l v cur.toNat x.1, 0)
theorem setCash_len' (l : Led) (v c : Nat) (x : Int) : (setCash l v c x).accts.length = l.accts.length := by simp [setCash]
/-! ### totals -/
def sumC (c : Nat) (xs : List Acc) : Int := (xs.map fun a => a.cash.getD c 0).sum
theorem totalF_sum {cur : Int} : ∀ {xs : List Acc} {all x : Int}, totalF cur all xs = (x, 0) → x = all + sumC cur.toNat xs
  | [], all, x, h => by
    unfold totalF at h
    cases h
    simp [sumC]
  | a :: r, all, x, h => by
    unfold totalF at h
    split at h
    · obtain ⟨y1, y2, hy⟩ : ∃ y1 y2, addF all (a.cash.getD cur.toNat 0) = (y1, y2) := ⟨_, _, rfl⟩
      rw [hy] at h
      by_cases h2 : y2 = 0
      · subst h2
        obtain ⟨e1, _⟩ := addF_ok hy
        have := totalF_sum (by simpa using h)
        rw [this, e1]
        simp [sumC]
        omega
      · simp [h2] at h
    · cases h
theorem sum_modify (f : Acc → Int) (g : Acc → Acc) : ∀ (xs : List Acc) (v : Nat) (hv : v < xs.length), ((xs.modify v g).map f).sum = (xs.map f).sum + f (g xs[v]) - f xs[v]
  | a :: r, 0, _ => by simp; omega
  | a :: r, v + 1, hv => by
    have := sum_modify f g r v (by simpa using hv)
    simp [this]; omega
theorem sumC_set {l : Led} {v c : Nat} {x : Int} (hv : v < l.accts.length) (hc : c < (l.accts[v]).cash.length) : sumC c (setCash l v c x).accts = sumC c l.accts + x - cashAt l v c := by
  unfold sumC setCash
  rw [sum_modify _ _ _ v hv, cashAt_at hv]
  simp [putCash, List.getD_eq_getElem?_getD, hc]
theorem sumC_other {l : Led} {v c k : Nat} {x : Int} (hv : v < l.accts.length) (hk : c ≠ k) : sumC k (setCash l v c x).accts = sumC k l.accts := by
  unfold sumC setCash
  rw [sum_modify _ _ _ v hv]
  simp [putCash, List.getD_eq_getElem?_getD, List.getElem?_set_ne hk]
theorem set_cash_len {l : Led} {v c : Nat} {x : Int} {u : Nat} (hu : u < l.accts.length) : ((setCash l v c x).accts[u]'(by rw [setCash_len']; exact hu)).cash.length = (l.accts[u]).cash.length := by
  simp only [setCash, List.getElem_modify]
  split
  · simp [putCash]
  · rfl
/-- each currency's total stays -/
theorem Paid.total {l l' : Led} {v t c : Nat} {amount x1 y1 : Int} (h : Paid l l' v t c amount x1 y1) (k : Nat) : sumC k l'.accts = sumC k l.accts := by
  have ht : t < (setCash l v c x1).accts.length := by rw [setCash_len']; exact h.ht
  rw [h.l']
  by_cases hk : c = k
  · subst hk
    rw [sumC_set ht (by rw [set_cash_len h.ht]; exact h.htc), sumC_set h.hv h.hvc, h.y, h.x]
    omega
  · rw [sumC_other ht hk, sumC_other h.hv hk]
theorem allI_modify {α : Type} {f : Nat → α → Bool} {g : α → α} (hg : ∀ n a, f n a = true → f n (g a) = true) : ∀ (l : List α) (i k : Nat), allI f i l = true → allI f i (l.modify k g) = true
  | [], i, k, h => by cases k <;> simpa using h
  | a :: r, i, 0, h => by
    simp only [allI, List.modify_zero_cons, Bool.and_eq_true] at h ⊢
    exact ⟨hg _ _ h.1, h.2⟩
  | a :: r, i, k + 1, h => by
    simp only [allI, List.modify_succ_cons, Bool.and_eq_true] at h ⊢
    exact ⟨h.1, allI_modify hg r (i + 1) k h.2⟩
theorem modify_same {α β : Type} {f : α → β} {g : α → α} (h : ∀ a, f (g a) = f a) : ∀ (l : List α) (k : Nat), (l.modify k g).map f = l.map f
  | [], k => by cases k <;> simp
  | x :: l, 0 => by simp [h]
  | x :: l, k + 1 => by simp [modify_same h l k]
/-- an amount in an account: the ledger can still be -/
theorem good_set {l : Led} {v c : Nat} {x : Int} (hx : fits x = true) (h : goodF l = true) : goodF (setCash l v c x) = true := by
  have hlen := setCash_len' l v c x
  have hpar : parents (setCash l v c x) = parents l := modify_same (g := fun a => putCash a c x) (fun _ => rfl) l.accts v
  have hlast : ∀ u, lastOf (setCash l v c x).accts u = lastOf l.accts u := fun u => by
    unfold lastOf setCash
    simp only [List.getElem?_modify]
    cases l.accts[u.toNat]? with
    | none => simp
    | some a => by_cases hu : v = u.toNat <;> simp [hu, putCash]
  unfold goodF at h ⊢
  simp only [Bool.and_eq_true] at h ⊢
  obtain ⟨h1, h2, h3, h4, h5, h6, h7⟩ := h
  refine ⟨h1, h2, ?_, ?_, ?_, ?_, ?_⟩
  · unfold accountsF at h3 ⊢
    rw [Bool.and_eq_true] at h3 ⊢
    rw [hpar]
    refine ⟨h3.1, allI_modify (fun n a ha => ?_) _ _ _ h3.2⟩
    unfold accOk at ha ⊢
    rw [Bool.and_eq_true, decide_eq_true_eq, List.all_eq_true] at ha ⊢
    obtain ⟨⟨e1, e2⟩, e3⟩ := ha
    refine ⟨⟨by simpa [putCash, setCash] using e1, e2⟩, fun y hy => ?_⟩
    rcases List.mem_or_eq_of_mem_set hy with hy | rfl
    · exact e3 y hy
    · exact hx
  · rw [hlen]; exact h4
  · rw [hlen]; exact h5
  · rw [hlen]; exact h6
  · rw [List.all_eq_true] at h7 ⊢
    intro o ho
    have := h7 o ho
    unfold idOk at this ⊢
    rw [hlast]; exact this
theorem Paid.good {l l' : Led} {v t c : Nat} {amount x1 y1 : Int} (h : Paid l l' v t c amount x1 y1) (hg : goodF l = true) : goodF l' = true := by
  rw [h.l']
  exact good_set h.fy (good_set h.fx hg)
/-- what is another: the two accounts' cash in the one currency -/
theorem Paid.cash {l l' : Led} {v t c : Nat} {amount x1 y1 : Int} (h : Paid l l' v t c amount x1 y1) (u k : Nat) (hne : cashAt l' u k ≠ cashAt l u k) : k = c ∧ (u = v ∨ u = t) := by
  have ht : t < (setCash l v c x1).accts.length := by rw [setCash_len']; exact h.ht
  rw [h.l'] at hne
  by_cases hk : c = k
  · subst hk
    rw [cashAt_set ht (by rw [set_cash_len h.ht]; exact h.htc), cashAt_set h.hv h.hvc] at hne
    refine ⟨rfl, ?_⟩
    by_cases h1 : t = u
    · exact .inr h1.symm
    · by_cases h2 : v = u
      · exact .inl h2.symm
      · simp [h1, h2] at hne
  · rw [cashAt_other hk, cashAt_other hk] at hne
    exact absurd rfl hne
end Go.Proofs.YtocjfjikkdpfdaaGreatDoor.LedW
namespace Go.Proofs.YtocjfjikkdpfdaaGreatDoor.LedW
open Go.RowKit Go.Proofs.YtocjfjikkdpfdaaGreatDoor.Bas Go.Proofs.YtocjfjikkdpfdaaGreatDoor.LedM Go.Proofs.YtocjfjikkdpfdaaGreatDoor.FixpM

def zeroS : Lists := ⟨none, 0, none, 0, none, 0, none, 0, none, 0, none, 0, none, 0, none, 0⟩
theorem zero_own (base : Nat) (W : World) : LedOwn base W zeroS zeroLed [] :=
  ⟨World.ownsRow_nil _ _ _ _, World.ownsRow_nil _ _ _ _, World.ownsRow_nil _ _ _ _, World.ownsRow_nil _ _ _ _, World.ownsRow_nil _ _ _ _, World.ownsRow_nil _ _ _ _, World.ownsRow_nil _ _ _ _, World.ownsRow_nil _ _ _ _, rfl, by simp, by simp, by simp⟩
theorem LedOwn.addr {base : Nat} {W : World} {s : Lists} {l : Led} {us : List (Value × Acc)} (h : LedOwn base W s l us) (hn : 0 < l.accts.length) : ∃ g, s.a4 = some ⟨g, 0, none⟩ := by
  rcases h.accts.2 with ⟨_, h0⟩ | ⟨g, cap, cur, e1, _⟩
  · omega
  · injection e1 with e1
    exact ⟨g, e1⟩
theorem LedOwn.len {base : Nat} {W : World} {s : Lists} {l : Led} {us : List (Value × Acc)} (h : LedOwn base W s l us) : us.length = l.accts.length := by rw [← h.each, List.length_map]
theorem LedOwn.acc {base : Nat} {W : World} {s : Lists} {l : Led} {us : List (Value × Acc)} (h : LedOwn base W s l us) {k : Nat} (hk : k < us.length) (hk2 : k < l.accts.length) : us[k].2 = l.accts[k] := LedAt.acc h.at_ hk hk2
theorem LedOwn.cashCell {base : Nat} {W : World} {s : Lists} {l : Led} {us : List (Value × Acc)} (h : LedOwn base W s l us) {k : Nat} (hk : k < us.length) {g : Nat} (ha : s.a4 = some ⟨g, 0, none⟩) : W.cell? ⟨g, k * 4 + 1, none⟩ = some us[k].1 := by
  have hlen := h.len
  have hrow := h.accts
  rw [ha] at hrow
  have hcell := hrow.cellAt (k * 4 + 1) (by omega)
  rw [flat_cell (f := accC) (n := 4) (fun _ => rfl) hk (by decide)] at hcell
  rw [hcell]
  rfl
/-- where an account's cash lies -/
theorem LedOwn.row {base : Nat} {W : World} {s : Lists} {l : Led} {us : List (Value × Acc)} (h : LedOwn base W s l us) {v c : Nat} (hv : v < us.length) (hvl : v < l.accts.length) (hc : c < (l.accts[v]).cash.length) :
    ∃ g cap, us[v].1 = .slice (some ⟨g, 0, none⟩) (l.accts[v]).cash.length cap ∧ base ≤ g ∧ g < W.heap.size ∧ W.cell? ⟨g, c, none⟩ = some (.int .i64 (cashAt l v c)) ∧ W.frozen? ⟨g, c, none⟩ = false ∧
      ∀ x, LedOwn base (W.setCell ⟨g, c, none⟩ (.int .i64 x)) s (setCash l v c x) (us.modify v (putV c x)) := by
  have ha := h.acc hv hvl
  have hc' : c < us[v].2.cash.length := by rw [ha]; exact hc
  obtain ⟨g, cap, e1, h1, h2, h3, h4, _⟩ := h.put hv hc' 0
  refine ⟨g, cap, by rw [← ha]; exact e1, h1, h2, by rw [h3, cashAt_at hvl, ha], h4, fun x => ?_⟩
  obtain ⟨g', cap', e1', _, _, _, _, h5⟩ := h.put hv hc' x
  rw [e1] at e1'
  cases e1'
  exact h5
theorem own_not {base : Nat} {W : World} {s : Lists} {l : Led} {us : List (Value × Acc)} (h : LedOwn base W s l us) {v : Nat} (hv : v < us.length) {g cap n : Nat} (he : us[v].1 = .slice (some ⟨g, 0, none⟩) n cap) {j j' : Nat} {cs cs' : Array Value} (hb : Box W j 31 cs) (hb' : Box W j' 31 cs') : g ≠ j ∧ g ≠ j' := by
  have hown := h.cash _ (List.getElem_mem hv)
  rcases hown.2 with ⟨h0, _⟩ | ⟨g', cap', cur, e1, _, hg, _⟩
  · rw [he] at h0; cases h0
  · rw [he] at e1
    cases e1
    have ne : ∀ {j : Nat} {cs : Array Value}, Box W j 31 cs → g ≠ j := by
      rintro j cs hj rfl
      unfold Box at hj
      rw [hg] at hj
      injection hj with hj
      injection hj with _ ht
      exact absurd ht (by decide)
    exact ⟨ne hb, ne hb'⟩
theorem setCash_len (l : Led) (v c : Nat) (x : Int) : (setCash l v c x).accts.length = l.accts.length := by simp [setCash]
theorem setCash_cash (l : Led) (v c : Nat) (x : Int) (u : Nat) (hu : u < l.accts.length) : ((setCash l v c x).accts[u]'(by rw [setCash_len]; exact hu)).cash.length = (l.accts[u]).cash.length := by
  simp only [setCash, List.getElem_modify]
  split
  · simp [putCash]
  · rfl
theorem cash_i64 {l : Led} (hf : LedFit l) (v c : Nat) : FixpW.I64 (cashAt l v c) := by
  unfold cashAt
  cases hv : l.accts[v]? with
  | none => exact ⟨by simp, by simp⟩
  | some a =>
    have hm := List.mem_of_getElem? hv
    have h9 := (hf.accts _ hm).2.2.1
    show FixpW.I64 (a.cash.getD c 0)
    rw [List.getD_eq_getElem?_getD]
    cases hc : a.cash[c]? with
    | none => exact ⟨by simp, by simp⟩
    | some z => exact h9 _ (List.mem_of_getElem? hc)
end Go.Proofs.YtocjfjikkdpfdaaGreatDoor.LedW
namespace Go.Proofs.YtocjfjikkdpfdaaGreatDoor.LedW
open Go.RowKit Go.Proofs.YtocjfjikkdpfdaaGreatDoor.Bas Go.Proofs.YtocjfjikkdpfdaaGreatDoor.LedM Go.Proofs.YtocjfjikkdpfdaaGreatDoor.FixpM

theorem totalF_bad {cur : Int} {all : Int} {xs : List Acc} {k : Nat} (hk : k < xs.length) (h : ¬ (0 ≤ cur ∧ cur < xs[k].cash.length)) : totalF cur all (xs.drop k) = (0, 30) := by
  rw [List.drop_eq_getElem_cons hk]
  unfold totalF
  rw [if_neg h]
theorem totalF_err {cur : Int} {all x e : Int} {xs : List Acc} {k : Nat} (hk : k < xs.length) (h : 0 ≤ cur ∧ cur < xs[k].cash.length) (hx : addF all (xs[k].cash.getD cur.toNat 0) = (x, e)) (he : e ≠ 0) : totalF cur all (xs.drop k) = (0, e) := by
  rw [List.drop_eq_getElem_cons hk]
  unfold totalF
  rw [if_pos h, hx]
  simp [he]
theorem totalF_next {cur : Int} {all x : Int} {xs : List Acc} {k : Nat} (hk : k < xs.length) (h : 0 ≤ cur ∧ cur < xs[k].cash.length) (hx : addF all (xs[k].cash.getD cur.toNat 0) = (x, 0)) : totalF cur all (xs.drop k) = totalF cur x (xs.drop (k + 1)) := by
  rw [List.drop_eq_getElem_cons hk]
  conv => lhs; unfold totalF
  rw [if_pos h, hx]
  simp
theorem totalF_end {cur : Int} {all : Int} {xs : List Acc} {k : Nat} (hk : k = xs.length) : totalF cur all (xs.drop k) = (all, 0) := by
  rw [hk, List.drop_length]
  rfl
theorem ret_two {a b : Int} {p : Int × Int} (h : p = (a, b)) : Ending.returned (.tuple #[.int .i64 a, .int .i64 b]) = .returned (.tuple #[.int .i64 p.1, .int .i64 p.2]) := by rw [h]
end Go.Proofs.YtocjfjikkdpfdaaGreatDoor.LedW
namespace Go.Proofs.YtocjfjikkdpfdaaGreatDoor.LedW
open Go.ChangeShapes Go.WideShapes Go.ChangeAt Go.RowKit Go.Proofs.YtocjfjikkdpfdaaGreatDoor.Bas Go.Proofs.YtocjfjikkdpfdaaGreatDoor.LedM

/-- no list is longer than memory -/
def LedBig (l : Led) : Prop := l.curs.length ≤ 140737488351232 ∧ l.unders.length ≤ 140737488351232 ∧ l.instrs.length ≤ 140737488351232 ∧ l.accts.length ≤ 140737488351232 ∧ l.poss.length ≤ 140737488351232 ∧ l.orders.length ≤ 140737488351232 ∧ l.avail.length ≤ 140737488351232 ∧ l.locs.length ≤ 140737488351232
theorem bytes2_1 : Tryz.prog.bytesOf 55 = 16 := by kernel_rfl
theorem bytes2_2 : Tryz.prog.bytesOf 57 = 40 := by kernel_rfl
theorem bytes2_3 : Tryz.prog.bytesOf 60 = 56 := by kernel_rfl
theorem bytes2_4 : Tryz.prog.bytesOf 46 = 48 := by kernel_rfl
theorem bytes2_5 : Tryz.prog.bytesOf 63 = 24 := by kernel_rfl
theorem bytes2_6 : Tryz.prog.bytesOf 65 = 40 := by kernel_rfl
theorem bytes2_7 : Tryz.prog.bytesOf 3 = 8 := by kernel_rfl
theorem bytes2_8 : Tryz.prog.bytesOf 66 = 24 := by kernel_rfl
section
variable {H : Type} {enc : TypeId × Value → H} {W : World}
set_option maxRecDepth 100000 in
set_option maxHeartbeats 1000000 in
theorem open_ledger2 {base : Nat} {v : Value} {d : DataW H} {p : List MemPlace} (hv : Value.okWide Tryz.prog W .any base 31 v) (h : DataW.Trod enc Tryz.prog W 0 (fun _ => true) true 31 v d p) (hw : ∀ x ∈ d.weights Tryz.prog 31, x ≤ reachBytes) :
    ∃ (s : Lists) (l : Led) (vs : List (Value × Acc)), v = ledV s l ∧ LedAt W s l vs ∧ LedOk W l vs s ∧ LedBig l := by
  obtain ⟨L, ds, rfl, hL, hy, _, hg⟩ := open_fields Tryz.underlying31 hv h
  rw [cellsOf_led] at hL
  rw [hy] at hw
  match L, hL with
  | [r0, r1, r2, r3, r4, r5, r6, r7, r8], _ =>
    obtain ⟨x0, y0, m0, e0, d0, t0⟩ := hg 0 _ rfl cells64
    obtain ⟨z0, rfl, w0⟩ := int_of t0
    obtain ⟨x1, y1, m1, e1, d1, t1⟩ := hg 1 _ rfl cellsL_curs
    obtain ⟨a1, l1, c1, f1, at1, n1, p1, k1, g1⟩ := open_recs Tryz.underlying22 t1 (reach_field (i := 1) Tryz.underlying31 hw rfl d1) each_cur
    obtain rfl : x1 = .slice a1 l1.length c1 := by simpa using f1
    obtain ⟨x2, y2, m2, e2, d2, t2⟩ := hg 2 _ rfl cellsL_unders
    obtain ⟨a2, l2, c2, f2, at2, n2, p2, k2, g2⟩ := open_recs Tryz.underlying23 t2 (reach_field (i := 2) Tryz.underlying31 hw rfl d2) each_und
    obtain rfl : x2 = .slice a2 l2.length c2 := by simpa using f2
    obtain ⟨x3, y3, m3, e3, d3, t3⟩ := hg 3 _ rfl cellsL_instrs
    obtain ⟨a3, l3, c3, f3, at3, n3, p3, k3, g3⟩ := open_recs Tryz.underlying24 t3 (reach_field (i := 3) Tryz.underlying31 hw rfl d3) each_ins
    obtain rfl : x3 = .slice a3 l3.length c3 := by simpa using f3
    obtain ⟨x4, y4, m4, e4, d4, t4⟩ := hg 4 _ rfl cellsL_accts
    obtain ⟨a4, l4, c4, f4, at4, n4, p4, k4, g4⟩ := open_recs Tryz.underlying25 t4 (reach_field (i := 4) Tryz.underlying31 hw rfl d4) each_acc
    obtain rfl : x4 = .slice a4 l4.length c4 := by simpa using f4
    obtain ⟨x5, y5, m5, e5, d5, t5⟩ := hg 5 _ rfl cellsL_poss
    obtain ⟨a5, l5, c5, f5, at5, n5, p5, k5, g5⟩ := open_recs Tryz.underlying26 t5 (reach_field (i := 5) Tryz.underlying31 hw rfl d5) each_pos
    obtain rfl : x5 = .slice a5 l5.length c5 := by simpa using f5
    obtain ⟨x6, y6, m6, e6, d6, t6⟩ := hg 6 _ rfl cellsL_orders
    obtain ⟨a6, l6, c6, f6, at6, n6, p6, k6, g6⟩ := open_recs Tryz.underlying27 t6 (reach_field (i := 6) Tryz.underlying31 hw rfl d6) each_ord
    obtain rfl : x6 = .slice a6 l6.length c6 := by simpa using f6
    obtain ⟨x7, y7, m7, e7, d7, t7⟩ := hg 7 _ rfl cellsL
    obtain ⟨a7, l7, c7, f7, at7, n7, p7, k7, g7⟩ := open_recs Tryz.underlying28 t7 (reach_field (i := 7) Tryz.underlying31 hw rfl d7) each_int
    obtain rfl : x7 = .slice a7 l7.length c7 := by simpa using f7
    obtain ⟨x8, y8, m8, e8, d8, t8⟩ := hg 8 _ rfl cellsL_locs
    obtain ⟨a8, l8, c8, f8, at8, n8, p8, k8, g8⟩ := open_recs Tryz.underlying29 t8 (reach_field (i := 8) Tryz.underlying31 hw rfl d8) each_loc
    obtain rfl : x8 = .slice a8 l8.length c8 := by simpa using f8
    rw [flat_i64] at at7
    simp at e0 e1 e2 e3 e4 e5 e6 e7 e8
    subst e0 e1 e2 e3 e4 e5 e6 e7 e8
    rw [bytes2_1] at g1
    rw [bytes2_2] at g2
    rw [bytes2_3] at g3
    rw [bytes2_4] at g4
    rw [bytes2_5] at g5
    rw [bytes2_6] at g6
    rw [bytes2_7] at g7
    rw [bytes2_8] at g8
    have h4 : (l4.map (·.2)).length = l4.length := List.length_map _
    refine ⟨⟨a1, c1, a2, c2, a3, c3, a4, c4, a5, c5, a6, c6, a7, c7, a8, c8⟩, ⟨z0, l1, l2, l3, l4.map (·.2), l5, l6, l7, l8⟩, l4, ?_, ⟨at1, at2, at3, at4, rfl, fun x hx => (k4 x hx).1, at5, at6, at7, at8, ⟨n1, n2, n3, by rw [h4]; exact n4, n5, n6, n7, n8⟩⟩, ⟨w0, k1, k2, k3, k4, k5, k6, k7, k8, ⟨n1, n2, n3, by rw [h4]; exact n4, n5, n6, n7, n8⟩, ⟨p1, p2, p3, p4, p5, p6, p7, p8⟩⟩, by refine ⟨?_, ?_, ?_, ?_, ?_, ?_, ?_, ?_⟩ <;> simp only [h4] <;> omega⟩
    unfold ledV
    rw [h4]
end
end Go.Proofs.YtocjfjikkdpfdaaGreatDoor.LedW
namespace Go.Proofs.YtocjfjikkdpfdaaGreatDoor.LedW
open Go.RowKit Go.Proofs.YtocjfjikkdpfdaaGreatDoor.Bas Go.Proofs.YtocjfjikkdpfdaaGreatDoor.LedM

def accN (a : Acc) : Nat := 1 + a.cash.length
def headN (l : Led) : Nat := l.curs.length + l.unders.length + l.instrs.length + l.poss.length + l.orders.length + l.avail.length + l.locs.length
def sumN (xs : List Acc) : Nat := (xs.map accN).sum
def wideF (l : Led) : Bool := decide (4096 < headN l + sumN l.accts)
theorem sumN_next {xs : List Acc} {k : Nat} (hk : k < xs.length) : sumN (xs.take (k + 1)) = sumN (xs.take k) + accN xs[k] := by
  unfold sumN
  rw [List.take_succ_eq_append_getElem hk, List.map_append, List.sum_append]
  simp
theorem sumN_le (xs : List Acc) (k : Nat) : sumN (xs.take k) ≤ sumN xs := by
  unfold sumN
  conv => rhs; rw [← List.take_append_drop k xs, List.map_append, List.sum_append]
  omega
theorem sumN_mem {xs : List Acc} {a : Acc} (h : a ∈ xs) : accN a ≤ sumN xs := by
  unfold sumN
  induction xs with
  | nil => cases h
  | cons x r ih =>
    simp only [List.map_cons, List.sum_cons]
    rcases List.mem_cons.1 h with rfl | h
    · omega
    · have := ih h; omega
theorem sumN_len (xs : List Acc) : xs.length ≤ sumN xs := by
  unfold sumN
  induction xs with
  | nil => simp
  | cons x r ih =>
    simp only [List.map_cons, List.sum_cons, List.length_cons]
    have : 1 ≤ accN x := by unfold accN; omega
    omega
/-- a ledger that can be handed in and isn't wide -/
theorem fit_of {W : World} {s : Lists} {l : Led} {vs : List (Value × Acc)} (h : LedOk W l vs s) (ha : LedAt W s l vs) (hw : wideF l = false) : LedFit l := by
  have hn : headN l + sumN l.accts ≤ 4096 := by
    unfold wideF at hw
    have := of_decide_eq_false hw
    omega
  have h1 := sumN_len l.accts
  unfold headN at hn
  refine ⟨by omega, h.day, h.curs, h.unders, h.instrs, fun x hx => ?_, h.poss, h.orders, h.avail, h.locs⟩
  rw [← ha.each] at hx
  obtain ⟨y, hy, rfl⟩ := List.mem_map.1 hx
  obtain ⟨_, i1, i2, i3, i4⟩ := h.accts y hy
  exact ⟨i1, i2, i3, i4⟩
theorem cash_big {W : World} {s : Lists} {l : Led} {vs : List (Value × Acc)} (h : LedOk W l vs s) (ha : LedAt W s l vs) : ∀ x ∈ l.accts, x.cash.length ≤ 140737488351232 := fun x hx => by
  rw [← ha.each] at hx
  obtain ⟨y, hy, rfl⟩ := List.mem_map.1 hx
  have := (h.accts y hy).2.2.2.2
  omega
end Go.Proofs.YtocjfjikkdpfdaaGreatDoor.LedW
