/- Plain laws on the digits by which a digest is signed; no program. -/
namespace Kd
/-- Of the first k bytes: what all their digits lack to 15. -/
def lackTo (m : List Int) : Nat → Int
  | 0 => 0
  | k + 1 => lackTo m k + (30 - m.getD k 0 / 16 - m.getD k 0 % 16)
def dig (m : List Int) (i : Nat) : Int :=
  if i < 64 then (if i % 2 = 0 then m.getD (i / 2) 0 / 16 else m.getD (i / 2) 0 % 16)
  else if i = 64 then lackTo m 32 / 256 else if i = 65 then lackTo m 32 / 16 % 16 else lackTo m 32 % 16
def digs (m : List Int) : List Int := (List.range 67).map (dig m)
def Bytes (m : List Int) : Prop := ∀ k, 0 ≤ m.getD k 0 ∧ m.getD k 0 < 256

theorem lack_bd (m : List Int) (hm : Bytes m) (k : Nat) : 0 ≤ lackTo m k ∧ lackTo m k ≤ 30 * k := by
  induction k with
  | zero => simp [lackTo]
  | succ k ih => have := hm k; simp only [lackTo]; omega
theorem dig_bd (m : List Int) (hm : Bytes m) (i : Nat) : 0 ≤ dig m i ∧ dig m i ≤ 15 := by
  have h := lack_bd m hm 32
  unfold dig
  split
  · have := hm (i / 2)
    split <;> omega
  · split
    · omega
    · split <;> omega
theorem dig_even (m : List Int) (k : Nat) (hk : k < 32) : dig m (2 * k) = m.getD k 0 / 16 := by
  have e : 2 * k / 2 = k := by omega
  unfold dig; rw [if_pos (by omega), if_pos (by omega), e]
theorem dig_odd (m : List Int) (k : Nat) (hk : k < 32) : dig m (2 * k + 1) = m.getD k 0 % 16 := by
  have e : (2 * k + 1) / 2 = k := by omega
  unfold dig; rw [if_pos (by omega), if_neg (by omega), e]
/-- No digit of b above a's: they are the same. -/
theorem same_of_le (a b : List Int) (ha : Bytes a) (hb : Bytes b) (h : ∀ i, i < 67 → dig b i ≤ dig a i) : ∀ k, k < 32 → a.getD k 0 = b.getD k 0 := by
  have step : ∀ k, k ≤ 32 → lackTo a k ≤ lackTo b k ∧ (lackTo a k = lackTo b k → ∀ j, j < k → a.getD j 0 = b.getD j 0) := by
    intro k; induction k with
    | zero => intro _; exact ⟨Int.le_refl _, fun _ j hj => by omega⟩
    | succ k ih =>
      intro hk
      obtain ⟨i1, i2⟩ := ih (by omega)
      have h0 := h (2 * k) (by omega)
      have h1 := h (2 * k + 1) (by omega)
      rw [dig_even a k (by omega), dig_even b k (by omega)] at h0
      rw [dig_odd a k (by omega), dig_odd b k (by omega)] at h1
      refine ⟨by simp only [lackTo]; omega, fun e j hj => ?_⟩
      simp only [lackTo] at e
      by_cases hjk : j = k
      · subst hjk; omega
      · exact i2 (by omega) j (by omega)
  have la := lack_bd a ha 32
  have lb := lack_bd b hb 32
  have c0 := h 64 (by omega)
  have c1 := h 65 (by omega)
  have c2 := h 66 (by omega)
  simp only [dig, Nat.reduceLT, Nat.reduceEqDiff, if_false, if_true] at c0 c1 c2
  obtain ⟨s1, s2⟩ := step 32 (by omega)
  exact s2 (by omega)
end Kd
