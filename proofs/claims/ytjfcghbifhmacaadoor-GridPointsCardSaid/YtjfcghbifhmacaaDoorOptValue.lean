/- opt.Value's walk. -/
import Derived.Test.YtjfcghbifhmacaaDoorOptWalks
import Derived.Deep.DeepCutAuto
import Derived.Deep.CutBlock
namespace Go.Proofs.YtjfcghbifhmacaaDoor.OptW
open Go.RowKit Go.Proofs.YtjfcghbifhmacaaDoor.Bas Go.Proofs.YtjfcghbifhmacaaDoor.FixpM Go.Proofs.YtjfcghbifhmacaaDoor.FixpW Go.Proofs.YtjfcghbifhmacaaDoor.FixpR

theorem valueF_arg (call : Bool) (s p v d : Int) (h : markIn s = false ∨ markIn p = false ∨ markIn v = false) : valueF call s p v d = (0, 1) := by
  unfold valueF
  rw [if_neg]
  rcases h with h | h | h <;> simp [h]

theorem valueF_in (call : Bool) (s p v d : Int) (hs : markIn s = true) (hp : markIn p = true) (hv : markIn v = true) :
    valueF call s p v d = if d ≤ 0 then (posF (gapF call s p), 0)
    else if 100000 < d then (0, 1)
    else if (mulF v d).2 = 0 then
      let t := mulDivF s (mulF v d).1 3650000 0
      if t.2 = 0 then addF (posF (gapF call s p)) (posF (t.1 - (max (gapF call s p) (-gapF call s p)).tdiv 2)) else (0, t.2)
    else (0, (mulF v d).2) := by unfold valueF; rw [hs, hp, hv]; rfl

theorem hmf (fn : Fn) (first cap : Array Value) (w : World) : (Instr.makeFunc fn first cap).run Tryd.prog w = .ok (.func fn first cap) w := rfl

/-- the doors: how a call of Value leaves -/
theorem leave_ok (tm : Array Value) (R : Ending → World → Prop) (x : Int) (be bv : Nat) (W : World) (h10 : tm[10]? = some (.pointer (some ⟨bv, 0, none⟩))) (h11 : tm[11]? = some (.pointer (some ⟨be, 0, none⟩)))
    (hv : Box W bv 3 #[.int .i64 x]) (he : Box W be 28 #[.int .i64 0]) (hR : R (.returned (.tuple #[.int .i64 x, .int .i64 0])) W) :
    Leaves Tryd.prog Tryd.f25 tm R [{ target := Target.fn (Fn.func 39) #[.pointer (some ⟨be, 0, none⟩), .pointer (some ⟨bv, 0, none⟩)], args := #[] }] .returning W := by
  refine leaves_cons (f := 39) (args := #[.pointer (some ⟨be, 0, none⟩), .pointer (some ⟨bv, 0, none⟩)]) (by simp) (by simp [go_sem]) ?_
  refine (door_ok be bv W he).mono ?_
  rintro e u' w' ⟨rfl, rfl, rfl⟩
  have c1 : w'.cell? ⟨bv, 0, none⟩ = some (.int .i64 x) := hv.cell 0
  have c2 : w'.cell? ⟨be, 0, none⟩ = some (.int .i64 0) := he.cell 0
  have f1 : w'.frozen? ⟨bv, 0, none⟩ = false := hv.frozen 0
  simp [Leaves, settle, results, Tryd.results25, go_sem, h10, h11, c1, c2]
  exact hR
theorem leave_err (tm : Array Value) (R : Ending → World → Prop) (x k : Int) (hk : k ≠ 0) (be bv : Nat) (hne : bv ≠ be) (W : World) (h10 : tm[10]? = some (.pointer (some ⟨bv, 0, none⟩))) (h11 : tm[11]? = some (.pointer (some ⟨be, 0, none⟩)))
    (hv : Box W bv 3 #[.int .i64 x]) (he : Box W be 28 #[.int .i64 k]) (hR : R (.returned (.tuple #[.int .i64 0, .int .i64 k])) (W.setCell ⟨bv, 0, none⟩ (.int .i64 0))) :
    Leaves Tryd.prog Tryd.f25 tm R [{ target := Target.fn (Fn.func 39) #[.pointer (some ⟨be, 0, none⟩), .pointer (some ⟨bv, 0, none⟩)], args := #[] }] .returning W := by
  refine leaves_cons (f := 39) (args := #[.pointer (some ⟨be, 0, none⟩), .pointer (some ⟨bv, 0, none⟩)]) (by simp) (by simp [go_sem]) ?_
  refine (door_err be bv W k x hk he hv).mono ?_
  rintro e u' w' ⟨rfl, rfl, rfl⟩
  have c1 : (W.setCell ⟨bv, 0, none⟩ (.int .i64 0)).cell? ⟨bv, 0, none⟩ = some (.int .i64 0) := (hv.set 0 _).cell 0
  have c2 : (W.setCell ⟨bv, 0, none⟩ (.int .i64 0)).cell? ⟨be, 0, none⟩ = some (.int .i64 k) := (he.far (p := ⟨bv, 0, none⟩) (Ne.symm hne) _).cell 0
  simp only [Leaves, settle, results, Tryd.results25, go_sem]
  simp [go_sem, h10, h11, c1, c2]
  exact hR
theorem leave_up (tm : Array Value) (R : Ending → World → Prop) (x k y : Int) (hk : k ≠ 0) (be bv : Nat) (hne : bv ≠ be) (W : World) (h10 : tm[10]? = some (.pointer (some ⟨bv, 0, none⟩))) (h11 : tm[11]? = some (.pointer (some ⟨be, 0, none⟩)))
    (hv : Box W bv 3 #[.int .i64 x]) (he : Box W be 28 #[.int .i64 y]) (hR : ∀ w', (∀ B, B ≤ be → B ≤ bv → Below B W w') → R (.returned (.tuple #[.int .i64 0, .int .i64 k])) w') :
    Leaves Tryd.prog Tryd.f25 tm R [{ target := Target.fn (Fn.func 39) #[.pointer (some ⟨be, 0, none⟩), .pointer (some ⟨bv, 0, none⟩)], args := #[] }] (.panicking [{ v := gaveUp k, recovered := false }]) W := by
  refine leaves_cons (f := 39) (args := #[.pointer (some ⟨be, 0, none⟩), .pointer (some ⟨bv, 0, none⟩)]) (by simp) (by simp [go_sem]) ?_
  refine (door_up be bv W k x y hk hne he hv).mono ?_
  rintro e u' w' ⟨rfl, rfl, b1, b2, hb⟩
  have c1 : w'.cell? ⟨bv, 0, none⟩ = some (.int .i64 0) := b2.cell 0
  have c2 : w'.cell? ⟨be, 0, none⟩ = some (.int .i64 k) := b1.cell 0
  simp [Leaves, settle, results, Tryd.results25, go_sem, h10, h11, c1, c2]
  exact hR _ hb

/-- the two variables of a call -/
structure Vars (w w0 : World) (x k : Int) : Prop where
  val : Box w0 w.heap.size 3 #[.int .i64 x]
  err : Box w0 (w.heap.size + 1) 28 #[.int .i64 k]
  low : Below w.heap.size w w0
theorem vars_new (w : World) : Vars w ((w.alloc (.cells #[.int .i64 0] 3)).alloc (.cells #[.int .i64 0] 28)) 0 0 := by
  refine ⟨(Box.new w _ _).alloc _, ?_, ((Below.refl _ _).alloc (Nat.le_refl _) _).alloc (by simp) _⟩
  have := Box.new (w.alloc (.cells #[.int .i64 0] 3)) 28 #[.int .i64 0]
  simpa using this
theorem Vars.set {w w0 : World} {x k : Int} (h : Vars w w0 x k) (y j : Int) : Vars w ((w0.setCell ⟨w.heap.size, 0, none⟩ (.int .i64 y)).setCell ⟨w.heap.size + 1, 0, none⟩ (.int .i64 j)) y j := by
  refine ⟨?_, ?_, ?_⟩
  · exact (h.val.set 0 (.int .i64 y)).far (p := ⟨w.heap.size + 1, 0, none⟩) (by simp) (.int .i64 j)
  · exact (h.err.far (p := ⟨w.heap.size, 0, none⟩) (by simp) (.int .i64 y)).set 0 (.int .i64 j)
  · exact (h.low.setCell (p := ⟨w.heap.size, 0, none⟩) (Nat.le_refl _) _).setCell (p := ⟨w.heap.size + 1, 0, none⟩) (by simp) _
theorem Vars.drewN {w w0 : World} {x k : Int} (h : Vars w w0 x k) (n : Nat) : Vars w (w0.drewN n) x k := ⟨h.val.drewN n, h.err.drewN n, below_drewN h.low n⟩

set_option maxHeartbeats 2000000 in
theorem value_arg (call : Bool) (s p v d : Int) (w : World) (h : markIn s = false ∨ markIn p = false ∨ markIn v = false) :
    Calls Tryd.prog 25 #[.bool call, .int .i64 s, .int .i64 p, .int .i64 v, .int .i64 d] w fun e w' =>
      e = .returned (.tuple #[.int .i64 (valueF call s p v d).1, .int .i64 (valueF call s p v d).2]) ∧ Below w.heap.size w w' := by
  have hf := Lib.hid (valueF_arg call s p v d h)
  have hmf := hmf
  have C1 := fun W => within_calls s 0 100000000000000 W
  have C2 := fun W => within_calls p 0 100000000000000 W
  have C3 := fun W => within_calls v 0 100000000000000 W
  obtain ⟨x1, e1⟩ : ∃ x, x = markIn s := ⟨_, rfl⟩
  obtain ⟨x2, e2⟩ : ∃ x, x = markIn p := ⟨_, rfl⟩
  obtain ⟨x3, e3⟩ : ∃ x, x = markIn v := ⟨_, rfl⟩
  rw [← e1, ← e2, ← e3] at h
  rw [← show x1 = within s 0 100000000000000 from e1] at C1
  rw [← show x2 = within p 0 100000000000000 from e2] at C2
  rw [← show x3 = within v 0 100000000000000 from e3] at C3
  have D1 := Lib.hid C1
  have D2 := Lib.hid C2
  have D3 := Lib.hid C3
  clear C1 C2 C3 e1 e2 e3
  have V := Lib.hid ((vars_new w).set 0 1)
  go_enter_defers Tryd.func25, Tryd.ntmps25
  go_upto_region 2 with fail
  generalize hw0 : (w.alloc (.cells #[.int .i64 0] 3)).alloc (.cells #[.int .i64 0] 28) = w0 at V ⊢
  have v0 := vars_new w
  rw [hw0] at v0
  clear hw0 hmf
  have c0 := v0.val.cell 0
  have f0 := v0.val.frozen
  have c1 := (v0.err.far (p := ⟨w.heap.size, 0, none⟩) (by simp) (.int .i64 0)).cell 0
  have f1 := (v0.err.far (p := ⟨w.heap.size, 0, none⟩) (by simp) (.int .i64 0)).frozen
  clear v0
  cases x1
  · clear h
    go_wp2_with (first | (go_at_call 24; refine (D1.out _).mono ?_; rintro e w' ⟨rfl, rfl⟩))
    refine leave_err _ _ 0 1 (by decide) _ _ (by simp) _ rfl rfl V.out.val V.out.err ?_
    exact ⟨by rw [hf.out], V.out.low.setCell (p := ⟨w.heap.size, 0, none⟩) (Nat.le_refl _) _⟩
  · cases x2
    · clear h
      go_wp2_with (first | (go_at_call 24; refine (D1.out _).mono ?_; rintro e w' ⟨rfl, rfl⟩; clear D1) | (go_at_call 24; refine (D2.out _).mono ?_; rintro e w' ⟨rfl, rfl⟩))
      refine leave_err _ _ 0 1 (by decide) _ _ (by simp) _ rfl rfl V.out.val V.out.err ?_
      exact ⟨by rw [hf.out], V.out.low.setCell (p := ⟨w.heap.size, 0, none⟩) (Nat.le_refl _) _⟩
    · cases x3
      · clear h
        go_wp2_with (first | (go_at_call 24; refine (D1.out _).mono ?_; rintro e w' ⟨rfl, rfl⟩; clear D1) | (go_at_call 24; refine (D2.out _).mono ?_; rintro e w' ⟨rfl, rfl⟩; clear D2) | (go_at_call 24; refine (D3.out _).mono ?_; rintro e w' ⟨rfl, rfl⟩))
        refine leave_err _ _ 0 1 (by decide) _ _ (by simp) _ rfl rfl V.out.val V.out.err ?_
        exact ⟨by rw [hf.out], V.out.low.setCell (p := ⟨w.heap.size, 0, none⟩) (Nat.le_refl _) _⟩
      · simp at h

/-- behind the first tests: the arguments are in order -/
theorem marks (x : Int) (h : markIn x = true) : 0 ≤ x ∧ x ≤ 100000000000000 := by
  unfold markIn within at h; simpa using h

set_option maxHeartbeats 1000000 in
set_option maxRecDepth 100000 in
theorem value_in (call : Bool) (s p v d : Int) (w : World) (hs : markIn s = true) (hp : markIn p = true) (hv : markIn v = true) (hd : I64 d) :
    Calls Tryd.prog 25 #[.bool call, .int .i64 s, .int .i64 p, .int .i64 v, .int .i64 d] w fun e w' =>
      e = .returned (.tuple #[.int .i64 (valueF call s p v d).1, .int .i64 (valueF call s p v d).2]) ∧ Below w.heap.size w w' := by
  have hf := valueF_in call s p v d hs hp hv
  have hmf := hmf
  have C1 := fun W => within_calls s 0 100000000000000 W
  have C2 := fun W => within_calls p 0 100000000000000 W
  have C3 := fun W => within_calls v 0 100000000000000 W
  rw [show within s 0 100000000000000 = true from hs] at C1
  rw [show within p 0 100000000000000 = true from hp] at C2
  rw [show within v 0 100000000000000 = true from hv] at C3
  have D1 := Lib.hid C1
  have D2 := Lib.hid C2
  have D3 := Lib.hid C3
  clear C1 C2 C3
  obtain ⟨g, hg⟩ : ∃ g, g = gapF call s p := ⟨_, rfl⟩
  rw [← hg] at hf
  have hs' := marks s hs
  have hp' := marks p hp
  have hv' := marks v hv
  have hgap : (call = true → p - s = g) ∧ (call = false → -(p - s) = g) := by
    refine ⟨fun h => ?_, fun h => ?_⟩ <;> rw [hg, h] <;> simp only [gapF, if_true, Bool.false_eq_true, if_false] <;> omega
  have hgl : -100000000000000 ≤ g ∧ g ≤ 100000000000000 := by rw [hg]; unfold gapF; split <;> omega
  have HG := Lib.hid hgap
  have Hf := Lib.hid hf
  clear hg hgap hf hs hp hv
  go_enter_defers Tryd.func25, Tryd.ntmps25
  go_upto_region 2 with fail
  have V := vars_new w
  generalize hw0 : (w.alloc (.cells #[.int .i64 0] 3)).alloc (.cells #[.int .i64 0] 28) = w0 at V ⊢
  clear hw0 hmf
  go_upto_if 33 with (first | (go_at_call 24; refine (D1.out _).mono ?_; rintro e w' ⟨rfl, rfl⟩; clear D1) | (go_at_call 24; refine (D2.out _).mono ?_; rintro e w' ⟨rfl, rfl⟩; clear D2) | (go_at_call 24; refine (D3.out _).mono ?_; rintro e w' ⟨rfl, rfl⟩))
  clear D3
  go_cut [12] from 34 to 35 (fun x wc => x = .int .i64 g ∧ w0 = wc)
  case first =>
    clear Hf V
    cases call
    · have e1 := Lib.hid (HG.out.2 rfl)
      clear HG hgl
      go_wp2_with fail
      go_meet
      case rel => exact ⟨by rw [e1.out], rfl⟩
    · have e1 := Lib.hid (HG.out.1 rfl)
      clear HG hgl
      go_wp2_with fail
      go_meet
      case rel => exact ⟨by rw [e1.out], rfl⟩
  case rest =>
    obtain ⟨rfl, rfl⟩ := hcut
    clear HG
    go_upto_region 8 with fail
    by_cases h0 : d ≤ 0
    · have e := Hf.out
      rw [if_pos h0] at e
      have E := Lib.hid e
      clear Hf e
      have c0 := V.val.cell 0
      have f0 := V.val.frozen
      have c1 := (V.err.far (p := ⟨w.heap.size, 0, none⟩) (by simp) (.int .i64 (max g 0))).cell 0
      have f1 := (V.err.far (p := ⟨w.heap.size, 0, none⟩) (by simp) (.int .i64 (max g 0))).frozen
      have V2 := Lib.hid (V.set (max g 0) 0)
      clear V
      go_wp2_with fail
      refine leave_ok _ _ _ _ _ _ rfl rfl V2.out.val V2.out.err ?_
      exact ⟨by rw [E.out]; rfl, V2.out.low⟩
    · have e := Hf.out
      rw [if_neg h0] at e
      by_cases h1 : 100000 < d
      · rw [if_pos h1] at e
        have E := Lib.hid e
        clear Hf e
        have c0 := V.val.cell 0
        have f0 := V.val.frozen
        have c1 := (V.err.far (p := ⟨w.heap.size, 0, none⟩) (by simp) (.int .i64 0)).cell 0
        have f1 := (V.err.far (p := ⟨w.heap.size, 0, none⟩) (by simp) (.int .i64 0)).frozen
        have V2 := Lib.hid (V.set 0 1)
        clear V
        go_wp2_with fail
        refine leave_err _ _ 0 1 (by decide) _ _ (by simp) _ rfl rfl V2.out.val V2.out.err ?_
        exact ⟨by rw [E.out], V2.out.low.setCell (p := ⟨w.heap.size, 0, none⟩) (Nat.le_refl _) _⟩
      · rw [if_neg h1] at e
        have M := fun W => mul_calls v d W (by unfold I64; omega) hd
        have two := two_mulF v d
        obtain ⟨⟨m1, m2⟩, hm⟩ : ∃ m, m = mulF v d := ⟨_, rfl⟩
        rw [← hm] at M e two
        have HM := Lib.hid M
        clear M hm Hf
        by_cases h2 : m2 = 0
        · subst h2
          have fm : fits m1 = true := by
            rcases two with h | h
            · simp at h
            · exact h.2
          rw [if_pos rfl] at e
          have K := fun W => muldiv_calls s m1 3650000 0 W (by unfold I64; omega) (i64_of_fits fm) (by unfold I64; omega)
          have two2 := two_mulDivF s m1 3650000 0
          obtain ⟨⟨t1, t2⟩, ht⟩ : ∃ m, m = mulDivF s m1 3650000 0 := ⟨_, rfl⟩
          simp only [] at e
          rw [← ht] at K e two2
          have HK := Lib.hid K
          clear K ht
          by_cases h3 : t2 = 0
          · subst h3
            rw [if_pos rfl] at e
            have ft : fits t1 = true := by
              rcases two2 with h | h | h
              · simp at h
              · simp at h
              · exact h.2
            have ft' := (fits_iff t1).1 ft
            have MK1 := Lib.hid (fun W => must_ok m1 W)
            have MK2 := Lib.hid (fun W => must_ok t1 W)
            obtain ⟨half, hh⟩ : ∃ h, h = (max g (-g)).tdiv 2 := ⟨_, rfl⟩
            have hhl : 0 ≤ half ∧ half ≤ 50000000000000 := by rw [hh, Int.tdiv_eq_ediv_of_nonneg (by omega)]; omega
            have T0 : wrap64 half = half := by unfold wrap64; omega
            have T1 : wrap64 (t1 - half) = t1 - half := by unfold wrap64; omega
            have A := fun W => add_calls (max g 0) (max (t1 - half) 0) W (by unfold I64; omega) (by unfold I64; omega)
            have two3 := two_addF (max g 0) (max (t1 - half) 0)
            have e' : valueF call s p v d = addF (max g 0) (max (t1 - half) 0) := by rw [e, hh]; rfl
            obtain ⟨⟨a1, a2⟩, hA⟩ : ∃ m, m = addF (max g 0) (max (t1 - half) 0) := ⟨_, rfl⟩
            rw [← hA] at A e' two3
            have HA := Lib.hid A
            have E := Lib.hid e'
            clear A hA e e' hhl ft ft' two two2 hs' hp' hv' fm
            have hh' := hh.symm
            clear hh
            have cn := fun n => (V.drewN n).val.cell 0
            have fn := fun n => (V.drewN n).val.frozen
            by_cases h4 : a2 = 0
            · subst h4
              have MK3 := Lib.hid (fun W => must_ok a1 W)
              have c1 := fun n => ((V.drewN n).err.far (p := ⟨w.heap.size, 0, none⟩) (by simp) (.int .i64 a1)).cell 0
              have f1 := fun n => ((V.drewN n).err.far (p := ⟨w.heap.size, 0, none⟩) (by simp) (.int .i64 a1)).frozen
              have V2 := Lib.hid (fun n => (V.drewN n).set a1 0)
              clear V two3
              go_wp2_with (first | (go_at_call 42; refine (HM.out _).mono ?_; rintro e w' ⟨rfl, rfl⟩; clear HM) | (go_at_call 41; refine (MK1.out _).mono ?_; rintro e w' ⟨rfl, rfl⟩; clear MK1) | (go_at_call 21; refine (HK.out _).mono ?_; rintro e w' ⟨rfl, n, rfl⟩; clear HK) | (go_at_call 41; refine (MK2.out _).mono ?_; rintro e w' ⟨rfl, rfl⟩; clear MK2) | (go_at_call 43; refine (HA.out _).mono ?_; rintro e w' ⟨rfl, rfl⟩; clear HA) | (go_at_call 41; refine (MK3.out _).mono ?_; rintro e w' ⟨rfl, rfl⟩))
              refine leave_ok _ _ _ _ _ _ rfl rfl (V2.out n).val (V2.out n).err ?_
              exact ⟨by rw [E.out], (V2.out n).low⟩
            · have ha1 : a1 = 0 := by
                rcases two3 with h | h
                · simp at h; exact h.1
                · exact absurd h.1 h4
              subst ha1
              have MK3 := Lib.hid (fun W => must_no 0 a2 h4 W)
              clear cn fn two3
              go_wp2_with (first | (go_at_call 42; refine (HM.out _).mono ?_; rintro e w' ⟨rfl, rfl⟩; clear HM) | (go_at_call 41; refine (MK1.out _).mono ?_; rintro e w' ⟨rfl, rfl⟩; clear MK1) | (go_at_call 21; refine (HK.out _).mono ?_; rintro e w' ⟨rfl, n, rfl⟩; clear HK) | (go_at_call 41; refine (MK2.out _).mono ?_; rintro e w' ⟨rfl, rfl⟩; clear MK2) | (go_at_call 43; refine (HA.out _).mono ?_; rintro e w' ⟨rfl, rfl⟩; clear HA) | (go_at_call 41; refine (MK3.out _).mono ?_; rintro e w' ⟨rfl, rfl⟩))
              refine leave_up _ _ _ _ _ h4 _ _ (by simp) _ rfl rfl (V.drewN n).val (V.drewN n).err ?_
              exact fun w' hb => ⟨by rw [E.out], (V.drewN n).low.trans (hb _ (by simp) (by simp))⟩
          · rw [if_neg h3] at e
            have E := Lib.hid e
            have MK1 := Lib.hid (fun W => must_ok m1 W)
            have MN := Lib.hid (fun W => must_no t1 t2 h3 W)
            clear e two two2 hs' hp' hv' fm hgl
            go_wp2_with (first | (go_at_call 42; refine (HM.out _).mono ?_; rintro e w' ⟨rfl, rfl⟩; clear HM) | (go_at_call 41; refine (MK1.out _).mono ?_; rintro e w' ⟨rfl, rfl⟩; clear MK1) | (go_at_call 21; refine (HK.out _).mono ?_; rintro e w' ⟨rfl, n, rfl⟩; clear HK) | (go_at_call 41; refine (MN.out _).mono ?_; rintro e w' ⟨rfl, rfl⟩))
            refine leave_up _ _ _ _ _ h3 _ _ (by simp) _ rfl rfl (V.drewN n).val (V.drewN n).err ?_
            exact fun w' hb => ⟨by rw [E.out], (V.drewN n).low.trans (hb _ (by simp) (by simp))⟩
        · rw [if_neg h2] at e
          have E := Lib.hid e
          clear e
          go_wp2_with (first | (go_at_call 42; refine (HM.out _).mono ?_; rintro e w' ⟨rfl, rfl⟩) | (go_at_call 41; refine (must_no _ _ h2 _).mono ?_; rintro e w' ⟨rfl, rfl⟩))
          refine leave_up _ _ _ _ _ h2 _ _ (by simp) _ rfl rfl V.val V.err ?_
          exact fun w' hb => ⟨by rw [E.out], V.low.trans (hb _ (by simp) (by simp))⟩

/-- Value, of all that can be handed in -/
theorem value_calls (call : Bool) (s p v d : Int) (w : World) (hd : I64 d) :
    Calls Tryd.prog 25 #[.bool call, .int .i64 s, .int .i64 p, .int .i64 v, .int .i64 d] w fun e w' =>
      e = .returned (.tuple #[.int .i64 (valueF call s p v d).1, .int .i64 (valueF call s p v d).2]) ∧ Below w.heap.size w w' := by
  by_cases h : markIn s = false ∨ markIn p = false ∨ markIn v = false
  · exact value_arg call s p v d w h
  · simp only [not_or, Bool.not_eq_false] at h
    exact value_in call s p v d w h.1 h.2.1 h.2.2 hd
end Go.Proofs.YtjfcghbifhmacaaDoor.OptW
