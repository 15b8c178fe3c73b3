/- Walks of the laws FieldPowers and FieldLaws. -/
import Derived.Test.YtilaipdpbcfhkaaFieldW
import Derived.OpenShut
namespace Go.Proofs.Ytilaipdpbcfhkaa
set_option linter.unusedVariables false
open Go.RowKit Go.Mny
theorem toB {k : Int} (h : (Lit.int .u8 k).wf = true) : ∃ a : Nat, k = a ∧ a < 256 := by
  have := bounds_u8 h
  obtain ⟨a, rfl⟩ := Int.eq_ofNat_of_zero_le this.1
  exact ⟨a, rfl, by omega⟩
theorem mul_is (a b c : Nat) (ha : a < 256) (hb : b < 256) (h : Fld.mul a b = c) (w : World) :
    Calls Try.prog 11 #[.int .u8 a, .int .u8 b] w fun e w' => e = .returned (.int .u8 c) ∧ w = w' := by
  rw [← h]; exact mul_any a b w ha hb
theorem add_is (a b c : Nat) (ha : a < 256) (hb : b < 256) (h : a ^^^ b = c) (w : World) :
    Calls Try.prog 12 #[.int .u8 a, .int .u8 b] w fun e w' => e = .returned (.int .u8 c) ∧ w = w' := by
  rw [← h]; exact add_any a b w ha hb
theorem pow_is (a n c : Nat) (ha : a < 256) (hn : n ≤ 9223372036854775807) (h : Fld.pow a n = c) (w : World) :
    Calls Try.prog 10 #[.int .u8 a, .int .i64 n] w fun e w' => e = .returned (.tuple #[.int .u8 c, .nilIface]) ∧ w = w' := by
  rw [← h]; exact pow_ok a n w ha hn
theorem fact_pow (w : World) : Calls Try.prog 10 #[.int .u8 2, .int .i64 8] w fun e w' => e = .returned (.tuple #[.int .u8 27, .nilIface]) ∧ w = w' :=
  pow_is 2 8 27 (by decide) (by decide) (by decide +kernel) w
theorem fact_mul (w : World) : Calls Try.prog 11 #[.int .u8 3, .int .u8 7] w fun e w' => e = .returned (.int .u8 9) ∧ w = w' :=
  mul_is 3 7 9 (by decide) (by decide) (by decide +kernel) w
set_option maxHeartbeats 1000000 in
set_option maxRecDepth 100000 in
theorem fieldPowers_walk (a0 : Int) (a1 : Int) (a2 : Int) (w : World) (f0 : (Lit.int .u8 a0).wf = true) (f1 : (Lit.int .i64 a1).wf = true) (f2 : (Lit.int .i64 a2).wf = true)  :
    Calls Try.prog 4 #[.int .u8 a0, .int .i64 a1, .int .i64 a2] w fun e w' => e = .returned (.bool true) ∧ Below w.heap.size w w' := by
  obtain ⟨a, rfl, ha⟩ := toB f0
  have v1 := bounds_i64 f1; have v2 := bounds_i64 f2
  clear f0 f1 f2
  obtain ⟨p, hp⟩ : ∃ p, Fld.pow a 255 = p := ⟨_, rfl⟩
  have hpa : a = 0 ∨ p = 1 := by
    by_cases h : a = 0
    · exact .inl h
    · exact .inr (by rw [← hp]; exact Fld.fermat a ha h)
  have CP := hid (fun w => pow_is a 255 p ha (by decide) hp w)
  clear hp
  go_enter Try.func4, Try.ntmps4
  go_wp2_with fail
  refine (fact_pow _).mono ?_
  rintro e w' ⟨rfl, rfl⟩
  go_wp2_with fail
  refine (unhid CP _).mono ?_
  rintro e w' ⟨rfl, rfl⟩
  have key : (a = 0 ∨ (a ≠ 0 ∧ p = 1)) := by
    by_cases h : a = 0
    · exact .inl h
    · exact .inr ⟨h, hpa.resolve_left h⟩
  by_cases hr : a1 < 0 ∨ a2 < 0 ∨ a1 > 100000 ∨ a2 > 100000
  · have hr2 : a1 < 0 ∨ (¬ a1 < 0 ∧ a2 < 0) ∨ (¬ a1 < 0 ∧ ¬ a2 < 0 ∧ a1 > 100000) ∨ (¬ a1 < 0 ∧ ¬ a2 < 0 ∧ ¬ a1 > 100000 ∧ a2 > 100000) := by omega
    clear hr hpa CP
    rcases hr2 with h | ⟨h, h'⟩ | ⟨h, h', h''⟩ | ⟨h, h', h'', h3⟩
    all_goals
      rcases key with h0 | ⟨h0, h1⟩
      · subst h0
        go_wp2_with fail
        go_ret
        exact ⟨rfl, Below.refl _ _⟩
      · subst h1
        have hne : ((a : Int) != 0) = true := by simp; omega
        go_wp2_with fail
        go_ret
        exact ⟨rfl, Below.refl _ _⟩
  · obtain ⟨m, rfl⟩ := Int.eq_ofNat_of_zero_le (show 0 ≤ a1 by omega)
    obtain ⟨n, rfl⟩ := Int.eq_ofNat_of_zero_le (show 0 ≤ a2 by omega)
    obtain ⟨x, hx⟩ : ∃ x, Fld.pow a m = x := ⟨_, rfl⟩
    obtain ⟨y, hy⟩ : ∃ y, Fld.pow a n = y := ⟨_, rfl⟩
    obtain ⟨z, hz⟩ : ∃ z, Fld.pow a (m + n) = z := ⟨_, rfl⟩
    obtain ⟨u, hu⟩ : ∃ u, Fld.pow x n = u := ⟨_, rfl⟩
    have xb : x < 256 := hx ▸ Fld.pow_lt a m ha (by omega)
    have yb : y < 256 := hy ▸ Fld.pow_lt a n ha (by omega)
    have hxy : Fld.mul x y = z := by rw [← hx, ← hy, ← hz]; exact (Fld.pow_add a m n ha (by omega)).symm
    have hyu : Fld.pow y m = u := by rw [← hu, ← hx, ← hy]; exact (Fld.pow_pow a m n ha (by omega) (by omega)).symm
    have C1 := hid (fun w => pow_is a m x ha (by omega) hx w)
    have C2 := hid (fun w => pow_is a n y ha (by omega) hy w)
    have C3 : Hid (∀ w, Calls Try.prog 10 #[.int .u8 a, .int .i64 ((m : Int) + n)] w fun e w' => e = .returned (.tuple #[.int .u8 z, .nilIface]) ∧ w = w') := fun w => pow_is a (m + n) z ha (by omega) hz w
    have C4 := hid (fun w => pow_is x n u xb (by omega) hu w)
    have C5 := hid (fun w => pow_is y m u yb (by omega) hyu w)
    have C6 := hid (fun w => mul_is x y z xb yb hxy w)
    have hq : ¬ (m : Int) < 0 ∧ ¬ (n : Int) < 0 ∧ ¬ (m : Int) > 100000 ∧ ¬ (n : Int) > 100000 := by omega
    obtain ⟨q1, q2, q3, q4⟩ := hq
    clear hr hpa hx hy hz hu hxy hyu CP
    rcases key with h0 | ⟨h0, h1⟩
    · subst h0
      go_wp2_with fail
      refine (unhid C1 _).mono ?_
      rintro e w' ⟨rfl, rfl⟩
      go_wp2_with fail
      refine (unhid C2 _).mono ?_
      rintro e w' ⟨rfl, rfl⟩
      go_wp2_with fail
      refine (unhid C3 _).mono ?_
      rintro e w' ⟨rfl, rfl⟩
      go_wp2_with fail
      refine (unhid C4 _).mono ?_
      rintro e w' ⟨rfl, rfl⟩
      go_wp2_with fail
      refine (unhid C5 _).mono ?_
      rintro e w' ⟨rfl, rfl⟩
      go_wp2_with fail
      refine (unhid C6 _).mono ?_
      rintro e w' ⟨rfl, rfl⟩
      go_wp2_with fail
      go_ret
      exact ⟨by simp, Below.refl _ _⟩
    · subst h1
      have hne : ((a : Int) != 0) = true := by simp; omega
      go_wp2_with fail
      refine (unhid C1 _).mono ?_
      rintro e w' ⟨rfl, rfl⟩
      go_wp2_with fail
      refine (unhid C2 _).mono ?_
      rintro e w' ⟨rfl, rfl⟩
      go_wp2_with fail
      refine (unhid C3 _).mono ?_
      rintro e w' ⟨rfl, rfl⟩
      go_wp2_with fail
      refine (unhid C4 _).mono ?_
      rintro e w' ⟨rfl, rfl⟩
      go_wp2_with fail
      refine (unhid C5 _).mono ?_
      rintro e w' ⟨rfl, rfl⟩
      go_wp2_with fail
      refine (unhid C6 _).mono ?_
      rintro e w' ⟨rfl, rfl⟩
      go_wp2_with fail
      go_ret
      exact ⟨by simp, Below.refl _ _⟩
set_option maxHeartbeats 2000000 in
set_option maxRecDepth 100000 in
theorem fieldLaws_walk (a0 : Int) (a1 : Int) (a2 : Int) (w : World) (f0 : (Lit.int .u8 a0).wf = true) (f1 : (Lit.int .u8 a1).wf = true) (f2 : (Lit.int .u8 a2).wf = true)  :
    Calls Try.prog 5 #[.int .u8 a0, .int .u8 a1, .int .u8 a2] w fun e w' => e = .returned (.bool true) ∧ Below w.heap.size w w' := by
  obtain ⟨a, rfl, ha⟩ := toB f0
  obtain ⟨b, rfl, hb⟩ := toB f1
  obtain ⟨c, rfl, hc⟩ := toB f2
  clear f0 f1 f2
  obtain ⟨s1, h1⟩ : ∃ x, a ^^^ b = x := ⟨_, rfl⟩
  obtain ⟨s2, h2⟩ : ∃ x, b ^^^ c = x := ⟨_, rfl⟩
  obtain ⟨t, h3⟩ : ∃ x, s1 ^^^ c = x := ⟨_, rfl⟩
  obtain ⟨p, h4⟩ : ∃ x, Fld.mul a b = x := ⟨_, rfl⟩
  obtain ⟨q, h5⟩ : ∃ x, Fld.mul p c = x := ⟨_, rfl⟩
  obtain ⟨r, h6⟩ : ∃ x, Fld.mul b c = x := ⟨_, rfl⟩
  obtain ⟨v, h7⟩ : ∃ x, Fld.mul a s2 = x := ⟨_, rfl⟩
  obtain ⟨r2, h8⟩ : ∃ x, Fld.mul a c = x := ⟨_, rfl⟩
  have s1b : s1 < 256 := h1 ▸ Fld.xor_lt a b ha hb
  have s2b : s2 < 256 := h2 ▸ Fld.xor_lt b c hb hc
  have pb : p < 256 := h4 ▸ Fld.mul_lt a b ha
  have rb : r < 256 := h6 ▸ Fld.mul_lt b c hb
  have r2b : r2 < 256 := h8 ▸ Fld.mul_lt a c ha
  have A1 := hid (add_is a b s1 ha hb h1)
  have A2 := hid (add_is b a s1 hb ha ((Nat.xor_comm b a).trans h1))
  have A3 := hid (add_is s1 c t s1b hc h3)
  have A4 := hid (add_is b c s2 hb hc h2)
  have A5 := hid (add_is a s2 t ha s2b (by rw [← h2, ← Nat.xor_assoc, h1, h3]))
  have A6 : Hid (∀ w, Calls Try.prog 12 #[.int .u8 a, .int .u8 0] w fun e w' => e = .returned (.int .u8 a) ∧ w = w') := add_is a 0 a ha (by decide) (Nat.xor_zero a)
  have A7 : Hid (∀ w, Calls Try.prog 12 #[.int .u8 a, .int .u8 a] w fun e w' => e = .returned (.int .u8 0) ∧ w = w') := add_is a a 0 ha ha (Nat.xor_self a)
  have M1 := hid (mul_is a b p ha hb h4)
  have M2 := hid (mul_is b a p hb ha ((Fld.mul_comm b a hb ha).trans h4))
  have M3 := hid (mul_is p c q pb hc h5)
  have M4 := hid (mul_is b c r hb hc h6)
  have M5 := hid (mul_is a r q ha rb (by rw [← h6, ← Fld.mul_assoc a b c ha hb hc, h4, h5]))
  have M6 : Hid (∀ w, Calls Try.prog 11 #[.int .u8 a, .int .u8 1] w fun e w' => e = .returned (.int .u8 a) ∧ w = w') := mul_is a 1 a ha (by decide) (Fld.mul_one a ha)
  have M7 : Hid (∀ w, Calls Try.prog 11 #[.int .u8 a, .int .u8 0] w fun e w' => e = .returned (.int .u8 0) ∧ w = w') := mul_is a 0 0 ha (by decide) (Fld.mul_zero a)
  have M8 := hid (mul_is a s2 v ha s2b h7)
  have M9 := hid (mul_is a c r2 ha hc h8)
  have A8 := hid (add_is p r2 v pb r2b (by rw [← h4, ← h8, ← Fld.mul_add, h2, h7]))
  obtain ⟨i, hi⟩ : ∃ x, Fld.inv a = x := ⟨_, rfl⟩
  have I1 : a ≠ 0 → Hid (∀ w, Calls Try.prog 13 #[.int .u8 a] w fun e w' => e = .returned (.tuple #[.int .u8 i, .nilIface]) ∧ w = w') := fun h w => by have := inv_ok a w ha h; rw [hi] at this; exact this
  have M10 : a ≠ 0 → Hid (∀ w, Calls Try.prog 11 #[.int .u8 a, .int .u8 i] w fun e w' => e = .returned (.int .u8 1) ∧ w = w') := fun h => by
    obtain ⟨g1, g2⟩ := Fld.inv_spec a ha h
    rw [hi] at g1 g2
    exact mul_is a i 1 ha g2 g1
  have Z : a ≠ 0 → (((p : Int) == 0) = ((b : Int) == 0)) := fun h => by
    have := Fld.mul_eq_zero a b ha hb h
    rw [h4] at this
    rw [Bool.eq_iff_iff]; simp; omega
  clear h1 h2 h3 h4 h5 h6 h7 h8 hi s1b s2b pb rb r2b
  go_enter Try.func5, Try.ntmps5
  go_wp2_with fail
  refine (fact_mul _).mono ?_
  rintro e w' ⟨rfl, rfl⟩
  go_wp2_with fail
  refine (unhid A1 _).mono ?_
  rintro e w' ⟨rfl, rfl⟩
  go_wp2_with fail
  refine (unhid A2 _).mono ?_
  rintro e w' ⟨rfl, rfl⟩
  go_wp2_with fail
  refine (unhid A1 _).mono ?_
  rintro e w' ⟨rfl, rfl⟩
  go_wp2_with fail
  refine (unhid A3 _).mono ?_
  rintro e w' ⟨rfl, rfl⟩
  go_wp2_with fail
  refine (unhid A4 _).mono ?_
  rintro e w' ⟨rfl, rfl⟩
  go_wp2_with fail
  refine (unhid A5 _).mono ?_
  rintro e w' ⟨rfl, rfl⟩
  go_wp2_with fail
  refine (unhid A6 _).mono ?_
  rintro e w' ⟨rfl, rfl⟩
  go_wp2_with fail
  refine (unhid A7 _).mono ?_
  rintro e w' ⟨rfl, rfl⟩
  go_wp2_with fail
  refine (unhid M1 _).mono ?_
  rintro e w' ⟨rfl, rfl⟩
  go_wp2_with fail
  refine (unhid M2 _).mono ?_
  rintro e w' ⟨rfl, rfl⟩
  go_wp2_with fail
  refine (unhid M1 _).mono ?_
  rintro e w' ⟨rfl, rfl⟩
  go_wp2_with fail
  refine (unhid M3 _).mono ?_
  rintro e w' ⟨rfl, rfl⟩
  go_wp2_with fail
  refine (unhid M4 _).mono ?_
  rintro e w' ⟨rfl, rfl⟩
  go_wp2_with fail
  refine (unhid M5 _).mono ?_
  rintro e w' ⟨rfl, rfl⟩
  go_wp2_with fail
  refine (unhid M6 _).mono ?_
  rintro e w' ⟨rfl, rfl⟩
  go_wp2_with fail
  refine (unhid M7 _).mono ?_
  rintro e w' ⟨rfl, rfl⟩
  go_wp2_with fail
  refine (unhid A4 _).mono ?_
  rintro e w' ⟨rfl, rfl⟩
  go_wp2_with fail
  refine (unhid M8 _).mono ?_
  rintro e w' ⟨rfl, rfl⟩
  go_wp2_with fail
  refine (unhid M1 _).mono ?_
  rintro e w' ⟨rfl, rfl⟩
  go_wp2_with fail
  refine (unhid M9 _).mono ?_
  rintro e w' ⟨rfl, rfl⟩
  go_wp2_with fail
  by_cases h0 : a = 0
  · subst h0
    refine (unhid A8 _).mono ?_
    rintro e w' ⟨rfl, rfl⟩
    go_wp2_with fail
    go_ret
    exact ⟨rfl, Below.refl _ _⟩
  · have I1' := I1 h0
    have M10' := M10 h0
    have Z' := hid (Z h0)
    have hne : ((a : Int) == 0) = false := by simp; omega
    clear I1 M10 Z
    refine (unhid A8 _).mono ?_
    rintro e w' ⟨rfl, rfl⟩
    go_wp2_with fail
    refine (unhid I1' _).mono ?_
    rintro e w' ⟨rfl, rfl⟩
    go_wp2_with fail
    refine (unhid M1 _).mono ?_
    rintro e w' ⟨rfl, rfl⟩
    go_wp2_with fail
    refine (unhid M10' _).mono ?_
    rintro e w' ⟨rfl, rfl⟩
    go_wp2_with fail
    go_ret
    exact ⟨by rw [Z'.out]; simp, Below.refl _ _⟩
end Go.Proofs.Ytilaipdpbcfhkaa
