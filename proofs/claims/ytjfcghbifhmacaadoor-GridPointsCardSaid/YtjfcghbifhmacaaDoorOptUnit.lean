/- Unit, of the program and of the document (printed by genunit.py). -/
import Derived.Test.YtjfcghbifhmacaaDoorOptRef
namespace Go.Proofs.YtjfcghbifhmacaaDoor.OptW
open Go.RowKit Go.Proofs.YtjfcghbifhmacaaDoor.Bas Go.Proofs.YtjfcghbifhmacaaDoor.FixpM Go.Proofs.YtjfcghbifhmacaaDoor.FixpW Go.Proofs.YtjfcghbifhmacaaDoor.FixpR

def dayIn (x : Int) : Bool := within x 0 100000
def unitF (kind strike expiry : Int) (call : Bool) (p v d : Int) : Int × Int :=
  if kind < 1 ∨ 3 < kind then (0, 32)
  else if markIn p && markIn v && dayIn d then
    (if kind < 3 then (p, 0) else if dayIn expiry then valueF call strike p v (expiry - d) else (0, 32))
  else (0, 1)
def instrV (k u m s x : Int) (c : Bool) (r : Int) : Value := .agg #[.int .i64 k, .int .i64 u, .int .i64 m, .int .i64 s, .int .i64 x, .bool c, .int .i64 r]
theorem dayIn_iff (x : Int) : dayIn x = true ↔ 0 ≤ x ∧ x ≤ 100000 := by simp [dayIn, within]
theorem unitF_kind {k s x : Int} {c : Bool} {p v d : Int} (h : k < 1 ∨ 3 < k) : unitF k s x c p v d = (0, 32) := by unfold unitF; rw [if_pos h]
theorem unitF_arg {k s x : Int} {c : Bool} {p v d : Int} (h : ¬ (k < 1 ∨ 3 < k)) (h2 : markIn p = false ∨ markIn v = false ∨ dayIn d = false) : unitF k s x c p v d = (0, 1) := by
  unfold unitF; rw [if_neg h, if_neg]
  rcases h2 with h | h | h <;> simp [h]
theorem unitF_price {k s x : Int} {c : Bool} {p v d : Int} (h : ¬ (k < 1 ∨ 3 < k)) (h1 : markIn p = true) (h2 : markIn v = true) (h3 : dayIn d = true) (h4 : k < 3) : unitF k s x c p v d = (p, 0) := by
  unfold unitF; rw [if_neg h, h1, h2, h3, if_pos h4]; rfl
theorem unitF_expiry {k s x : Int} {c : Bool} {p v d : Int} (h : ¬ (k < 1 ∨ 3 < k)) (h1 : markIn p = true) (h2 : markIn v = true) (h3 : dayIn d = true) (h4 : ¬ k < 3) (h5 : dayIn x = false) : unitF k s x c p v d = (0, 32) := by
  unfold unitF; rw [if_neg h, h1, h2, h3, if_neg h4, h5]; rfl
theorem unitF_value {k s x : Int} {c : Bool} {p v d : Int} (h : ¬ (k < 1 ∨ 3 < k)) (h1 : markIn p = true) (h2 : markIn v = true) (h3 : dayIn d = true) (h4 : ¬ k < 3) (h5 : dayIn x = true) : unitF k s x c p v d = valueF c s p v (x - d) := by
  unfold unitF; rw [if_neg h, h1, h2, h3, if_neg h4, h5]; rfl

set_option maxHeartbeats 2000000 in
theorem unit_calls (k u m s x : Int) (c : Bool) (r p v d : Int) (w : World) :
    Calls Tryd.prog 18 #[instrV k u m s x c r, .int .i64 p, .int .i64 v, .int .i64 d] w fun e w' =>
      e = .returned (.tuple #[.int .i64 (unitF k s x c p v d).1, .int .i64 (unitF k s x c p v d).2]) ∧ Below w.heap.size w w' := by
  unfold instrV
  have x0 : Box (w.alloc (.cells #[.int .i64 k, .int .i64 u, .int .i64 m, .int .i64 s, .int .i64 x, .bool c, .int .i64 r] 23)) w.heap.size 23 #[.int .i64 k, .int .i64 u, .int .i64 m, .int .i64 s, .int .i64 x, .bool c, .int .i64 r] := Box.new _ _ _
  have hB0 : Below w.heap.size w (w.alloc (.cells #[.int .i64 k, .int .i64 u, .int .i64 m, .int .i64 s, .int .i64 x, .bool c, .int .i64 r] 23)) := (Below.refl _ _).alloc (Nat.le_refl _) _
  have C1 := fun W => within_calls p 0 100000000000000 W
  have C2 := fun W => within_calls v 0 100000000000000 W
  have C3 := fun W => within_calls d 0 100000 W
  have C4 := fun W => within_calls x 0 100000 W
  rw [show within p 0 100000000000000 = markIn p from rfl] at C1
  rw [show within v 0 100000000000000 = markIn v from rfl] at C2
  rw [show within d 0 100000 = dayIn d from rfl] at C3
  rw [show within x 0 100000 = dayIn x from rfl] at C4
  obtain ⟨b1, hb1⟩ : ∃ b, markIn p = b := ⟨_, rfl⟩
  rw [hb1] at C1
  have D1 := Lib.hid C1
  have HB1 := Lib.hid hb1
  clear C1 hb1
  obtain ⟨b2, hb2⟩ : ∃ b, markIn v = b := ⟨_, rfl⟩
  rw [hb2] at C2
  have D2 := Lib.hid C2
  have HB2 := Lib.hid hb2
  clear C2 hb2
  obtain ⟨b3, hb3⟩ : ∃ b, dayIn d = b := ⟨_, rfl⟩
  rw [hb3] at C3
  have D3 := Lib.hid C3
  have HB3 := Lib.hid hb3
  clear C3 hb3
  obtain ⟨b4, hb4⟩ : ∃ b, dayIn x = b := ⟨_, rfl⟩
  rw [hb4] at C4
  have D4 := Lib.hid C4
  have HB4 := Lib.hid hb4
  clear C4 hb4
  go_enter Tryd.func18, Tryd.ntmps18
  go_upto_region 1 with fail
  generalize w.alloc (.cells #[.int .i64 k, .int .i64 u, .int .i64 m, .int .i64 s, .int .i64 x, .bool c, .int .i64 r] 23) = w0 at x0 hB0 ⊢
  have e0 := x0.cell 0
  have e3 := x0.cell 3
  have e4 := x0.cell 4
  have e5 := x0.cell 5
  clear x0
  by_cases hk : k < 1 ∨ 3 < k
  · have E := Lib.hid (unitF_kind (s := s) (x := x) (c := c) (p := p) (v := v) (d := d) hk)
    rcases hk with h | h
    · go_wp2_with (first | (go_at_call 24; refine (D1.out _).mono ?_; rintro e w' ⟨rfl, rfl⟩; clear D1) | (go_at_call 24; refine (D2.out _).mono ?_; rintro e w' ⟨rfl, rfl⟩; clear D2) | (go_at_call 24; refine (D3.out _).mono ?_; rintro e w' ⟨rfl, rfl⟩; clear D3) | (go_at_call 24; refine (D4.out _).mono ?_; rintro e w' ⟨rfl, rfl⟩; clear D4))
      go_ret2
      exact ⟨by rw [E.out]; exact ret_pair rfl rfl, hB0⟩
    · have h' : ¬ k < 1 := by omega
      go_wp2_with (first | (go_at_call 24; refine (D1.out _).mono ?_; rintro e w' ⟨rfl, rfl⟩; clear D1) | (go_at_call 24; refine (D2.out _).mono ?_; rintro e w' ⟨rfl, rfl⟩; clear D2) | (go_at_call 24; refine (D3.out _).mono ?_; rintro e w' ⟨rfl, rfl⟩; clear D3) | (go_at_call 24; refine (D4.out _).mono ?_; rintro e w' ⟨rfl, rfl⟩; clear D4))
      go_ret2
      exact ⟨by rw [E.out]; exact ret_pair rfl rfl, hB0⟩
  · have k1 : ¬ k < 1 := by omega
    have k2 : ¬ 3 < k := by omega
    cases b1
    · skip
      have E := Lib.hid (unitF_arg (s := s) (x := x) (c := c) (p := p) (v := v) (d := d) hk (.inl HB1.out))
      clear hk
      go_wp2_with (first | (go_at_call 24; refine (D1.out _).mono ?_; rintro e w' ⟨rfl, rfl⟩; clear D1) | (go_at_call 24; refine (D2.out _).mono ?_; rintro e w' ⟨rfl, rfl⟩; clear D2) | (go_at_call 24; refine (D3.out _).mono ?_; rintro e w' ⟨rfl, rfl⟩; clear D3) | (go_at_call 24; refine (D4.out _).mono ?_; rintro e w' ⟨rfl, rfl⟩; clear D4))
      go_ret2
      exact ⟨by rw [E.out]; exact ret_pair rfl rfl, hB0⟩
    · cases b2
      · skip
        have E := Lib.hid (unitF_arg (s := s) (x := x) (c := c) (p := p) (v := v) (d := d) hk (.inr (.inl HB2.out)))
        clear hk
        go_wp2_with (first | (go_at_call 24; refine (D1.out _).mono ?_; rintro e w' ⟨rfl, rfl⟩; clear D1) | (go_at_call 24; refine (D2.out _).mono ?_; rintro e w' ⟨rfl, rfl⟩; clear D2) | (go_at_call 24; refine (D3.out _).mono ?_; rintro e w' ⟨rfl, rfl⟩; clear D3) | (go_at_call 24; refine (D4.out _).mono ?_; rintro e w' ⟨rfl, rfl⟩; clear D4))
        go_ret2
        exact ⟨by rw [E.out]; exact ret_pair rfl rfl, hB0⟩
      · cases b3
        · skip
          have E := Lib.hid (unitF_arg (s := s) (x := x) (c := c) (p := p) (v := v) (d := d) hk (.inr (.inr HB3.out)))
          clear hk
          go_wp2_with (first | (go_at_call 24; refine (D1.out _).mono ?_; rintro e w' ⟨rfl, rfl⟩; clear D1) | (go_at_call 24; refine (D2.out _).mono ?_; rintro e w' ⟨rfl, rfl⟩; clear D2) | (go_at_call 24; refine (D3.out _).mono ?_; rintro e w' ⟨rfl, rfl⟩; clear D3) | (go_at_call 24; refine (D4.out _).mono ?_; rintro e w' ⟨rfl, rfl⟩; clear D4))
          go_ret2
          exact ⟨by rw [E.out]; exact ret_pair rfl rfl, hB0⟩
        · have hd3 := (dayIn_iff d).1 HB3.out
          by_cases k3 : k < 3
          · skip
            have kb : (k != 3) = true := by simp; omega
            have E := Lib.hid (unitF_price (s := s) (x := x) (c := c) (p := p) (v := v) (d := d) hk HB1.out HB2.out HB3.out k3)
            clear hk
            go_wp2_with (first | (go_at_call 24; refine (D1.out _).mono ?_; rintro e w' ⟨rfl, rfl⟩; clear D1) | (go_at_call 24; refine (D2.out _).mono ?_; rintro e w' ⟨rfl, rfl⟩; clear D2) | (go_at_call 24; refine (D3.out _).mono ?_; rintro e w' ⟨rfl, rfl⟩; clear D3) | (go_at_call 24; refine (D4.out _).mono ?_; rintro e w' ⟨rfl, rfl⟩; clear D4))
            go_ret2
            exact ⟨by rw [E.out]; exact ret_pair rfl rfl, hB0⟩
          · have kk : k = 3 := by omega
            cases b4
            · skip
              have E := Lib.hid (unitF_expiry (s := s) (x := x) (c := c) (p := p) (v := v) (d := d) hk HB1.out HB2.out HB3.out k3 HB4.out)
              clear hk
              go_wp2_with (first | (go_at_call 24; refine (D1.out _).mono ?_; rintro e w' ⟨rfl, rfl⟩; clear D1) | (go_at_call 24; refine (D2.out _).mono ?_; rintro e w' ⟨rfl, rfl⟩; clear D2) | (go_at_call 24; refine (D3.out _).mono ?_; rintro e w' ⟨rfl, rfl⟩; clear D3) | (go_at_call 24; refine (D4.out _).mono ?_; rintro e w' ⟨rfl, rfl⟩; clear D4))
              go_ret2
              exact ⟨by rw [E.out]; exact ret_pair rfl rfl, hB0⟩
            · have hx5 := (dayIn_iff x).1 HB4.out
              have HB5 := Lib.hid HB4.out
              have E := Lib.hid (unitF_value (s := s) (x := x) (c := c) (p := p) (v := v) (d := d) hk HB1.out HB2.out HB3.out k3 HB5.out)
              have V := Lib.hid (fun W => value_calls c s p v (x - d) W (by unfold I64; omega))
              clear hk
              go_wp2_with (first | (go_at_call 24; refine (D1.out _).mono ?_; rintro e w' ⟨rfl, rfl⟩; clear D1) | (go_at_call 24; refine (D2.out _).mono ?_; rintro e w' ⟨rfl, rfl⟩; clear D2) | (go_at_call 24; refine (D3.out _).mono ?_; rintro e w' ⟨rfl, rfl⟩; clear D3) | (go_at_call 24; refine (D4.out _).mono ?_; rintro e w' ⟨rfl, rfl⟩; clear D4) | (go_at_call 25; refine (V.out _).mono ?_; rintro e w3 ⟨rfl, b3⟩))
              go_ret2
              exact ⟨by rw [E.out]; exact ret_pair rfl rfl, hB0.trans (b3.mono hB0.size)⟩

set_option maxHeartbeats 2000000 in
theorem runit_calls (k u m s x : Int) (c : Bool) (r p v d : Int) (w : World) :
    Calls Tryd.prog 19 #[instrV k u m s x c r, .int .i64 p, .int .i64 v, .int .i64 d] w fun e w' =>
      e = .returned (.tuple #[.int .i64 (unitF k s x c p v d).1, .int .i64 (unitF k s x c p v d).2]) ∧ Below w.heap.size w w' := by
  unfold instrV
  have x0 : Box (w.alloc (.cells #[.int .i64 k, .int .i64 u, .int .i64 m, .int .i64 s, .int .i64 x, .bool c, .int .i64 r] 23)) w.heap.size 23 #[.int .i64 k, .int .i64 u, .int .i64 m, .int .i64 s, .int .i64 x, .bool c, .int .i64 r] := Box.new _ _ _
  have hB0 : Below w.heap.size w (w.alloc (.cells #[.int .i64 k, .int .i64 u, .int .i64 m, .int .i64 s, .int .i64 x, .bool c, .int .i64 r] 23)) := (Below.refl _ _).alloc (Nat.le_refl _) _
  have C1 := fun W => rmark_calls p W
  have C2 := fun W => rmark_calls v W
  obtain ⟨b1, hb1⟩ : ∃ b, markIn p = b := ⟨_, rfl⟩
  rw [hb1] at C1
  have D1 := Lib.hid C1
  have HB1 := Lib.hid hb1
  clear C1 hb1
  obtain ⟨b2, hb2⟩ : ∃ b, markIn v = b := ⟨_, rfl⟩
  rw [hb2] at C2
  have D2 := Lib.hid C2
  have HB2 := Lib.hid hb2
  clear C2 hb2
  go_enter Tryd.func19, Tryd.ntmps19
  go_upto_region 1 with fail
  generalize w.alloc (.cells #[.int .i64 k, .int .i64 u, .int .i64 m, .int .i64 s, .int .i64 x, .bool c, .int .i64 r] 23) = w0 at x0 hB0 ⊢
  have e0 := x0.cell 0
  have e3 := x0.cell 3
  have e4 := x0.cell 4
  have e5 := x0.cell 5
  clear x0
  by_cases hk : k < 1 ∨ 3 < k
  · have E := Lib.hid (unitF_kind (s := s) (x := x) (c := c) (p := p) (v := v) (d := d) hk)
    rcases hk with h | h
    · go_wp2_with (first | (go_at_call 26; refine (D1.out _).mono ?_; rintro e w' ⟨rfl, rfl⟩; clear D1) | (go_at_call 26; refine (D2.out _).mono ?_; rintro e w' ⟨rfl, rfl⟩; clear D2))
      go_ret2
      exact ⟨by rw [E.out]; exact ret_pair rfl rfl, hB0⟩
    · have h' : ¬ k < 1 := by omega
      go_wp2_with (first | (go_at_call 26; refine (D1.out _).mono ?_; rintro e w' ⟨rfl, rfl⟩; clear D1) | (go_at_call 26; refine (D2.out _).mono ?_; rintro e w' ⟨rfl, rfl⟩; clear D2))
      go_ret2
      exact ⟨by rw [E.out]; exact ret_pair rfl rfl, hB0⟩
  · have k1 : ¬ k < 1 := by omega
    have k2 : ¬ 3 < k := by omega
    cases b1
    · skip
      have E := Lib.hid (unitF_arg (s := s) (x := x) (c := c) (p := p) (v := v) (d := d) hk (.inl HB1.out))
      clear hk
      go_wp2_with (first | (go_at_call 26; refine (D1.out _).mono ?_; rintro e w' ⟨rfl, rfl⟩; clear D1) | (go_at_call 26; refine (D2.out _).mono ?_; rintro e w' ⟨rfl, rfl⟩; clear D2))
      go_ret2
      exact ⟨by rw [E.out]; exact ret_pair rfl rfl, hB0⟩
    · cases b2
      · skip
        have E := Lib.hid (unitF_arg (s := s) (x := x) (c := c) (p := p) (v := v) (d := d) hk (.inr (.inl HB2.out)))
        clear hk
        go_wp2_with (first | (go_at_call 26; refine (D1.out _).mono ?_; rintro e w' ⟨rfl, rfl⟩; clear D1) | (go_at_call 26; refine (D2.out _).mono ?_; rintro e w' ⟨rfl, rfl⟩; clear D2))
        go_ret2
        exact ⟨by rw [E.out]; exact ret_pair rfl rfl, hB0⟩
      · by_cases hd : dayIn d = false
        · have hd2 : ¬ (0 ≤ d ∧ d ≤ 100000) := by rw [← dayIn_iff, hd]; simp
          by_cases d0 : d < 0
          · skip
            have E := Lib.hid (unitF_arg (s := s) (x := x) (c := c) (p := p) (v := v) (d := d) hk (.inr (.inr hd)))
            clear hk
            go_wp2_with (first | (go_at_call 26; refine (D1.out _).mono ?_; rintro e w' ⟨rfl, rfl⟩; clear D1) | (go_at_call 26; refine (D2.out _).mono ?_; rintro e w' ⟨rfl, rfl⟩; clear D2))
            go_ret2
            exact ⟨by rw [E.out]; exact ret_pair rfl rfl, hB0⟩
          · have d1 : 100000 < d := by omega
            have E := Lib.hid (unitF_arg (s := s) (x := x) (c := c) (p := p) (v := v) (d := d) hk (.inr (.inr hd)))
            clear hk
            go_wp2_with (first | (go_at_call 26; refine (D1.out _).mono ?_; rintro e w' ⟨rfl, rfl⟩; clear D1) | (go_at_call 26; refine (D2.out _).mono ?_; rintro e w' ⟨rfl, rfl⟩; clear D2))
            go_ret2
            exact ⟨by rw [E.out]; exact ret_pair rfl rfl, hB0⟩
        · have hd3 : 0 ≤ d ∧ d ≤ 100000 := by rw [← dayIn_iff]; simpa using hd
          have HB3 := Lib.hid ((dayIn_iff d).2 hd3)
          have d0 : ¬ d < 0 := by omega
          have d1 : ¬ 100000 < d := by omega
          clear hd
          by_cases k3 : k < 3
          · skip
            have E := Lib.hid (unitF_price (s := s) (x := x) (c := c) (p := p) (v := v) (d := d) hk HB1.out HB2.out HB3.out k3)
            clear hk
            go_wp2_with (first | (go_at_call 26; refine (D1.out _).mono ?_; rintro e w' ⟨rfl, rfl⟩; clear D1) | (go_at_call 26; refine (D2.out _).mono ?_; rintro e w' ⟨rfl, rfl⟩; clear D2))
            go_ret2
            exact ⟨by rw [E.out]; exact ret_pair rfl rfl, hB0⟩
          · have kk : k = 3 := by omega
            by_cases hx : dayIn x = false
            · have hx2 : ¬ (0 ≤ x ∧ x ≤ 100000) := by rw [← dayIn_iff, hx]; simp
              by_cases x0 : x < 0
              · skip
                have E := Lib.hid (unitF_expiry (s := s) (x := x) (c := c) (p := p) (v := v) (d := d) hk HB1.out HB2.out HB3.out k3 hx)
                clear hk
                go_wp2_with (first | (go_at_call 26; refine (D1.out _).mono ?_; rintro e w' ⟨rfl, rfl⟩; clear D1) | (go_at_call 26; refine (D2.out _).mono ?_; rintro e w' ⟨rfl, rfl⟩; clear D2))
                go_ret2
                exact ⟨by rw [E.out]; exact ret_pair rfl rfl, hB0⟩
              · have x1 : 100000 < x := by omega
                have E := Lib.hid (unitF_expiry (s := s) (x := x) (c := c) (p := p) (v := v) (d := d) hk HB1.out HB2.out HB3.out k3 hx)
                clear hk
                go_wp2_with (first | (go_at_call 26; refine (D1.out _).mono ?_; rintro e w' ⟨rfl, rfl⟩; clear D1) | (go_at_call 26; refine (D2.out _).mono ?_; rintro e w' ⟨rfl, rfl⟩; clear D2))
                go_ret2
                exact ⟨by rw [E.out]; exact ret_pair rfl rfl, hB0⟩
            · have hx5 : 0 ≤ x ∧ x ≤ 100000 := by rw [← dayIn_iff]; simpa using hx
              have HB5 := Lib.hid ((dayIn_iff x).2 hx5)
              have x0 : ¬ x < 0 := by omega
              have x1 : ¬ 100000 < x := by omega
              clear hx
              have E := Lib.hid (unitF_value (s := s) (x := x) (c := c) (p := p) (v := v) (d := d) hk HB1.out HB2.out HB3.out k3 HB5.out)
              have V := Lib.hid (fun W => rvalue_calls c s p v (x - d) W (by unfold I64; omega))
              clear hk
              go_wp2_with (first | (go_at_call 26; refine (D1.out _).mono ?_; rintro e w' ⟨rfl, rfl⟩; clear D1) | (go_at_call 26; refine (D2.out _).mono ?_; rintro e w' ⟨rfl, rfl⟩; clear D2) | (go_at_call 27; refine (V.out _).mono ?_; rintro e w3 ⟨rfl, b3⟩))
              go_ret2
              exact ⟨by rw [E.out]; exact ret_pair rfl rfl, hB0.trans (b3.mono hB0.size)⟩
end Go.Proofs.YtjfcghbifhmacaaDoor.OptW
