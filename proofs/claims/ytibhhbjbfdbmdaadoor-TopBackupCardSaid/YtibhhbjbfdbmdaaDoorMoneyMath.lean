/- Plain laws on sums of amounts and on what blocks make; no program. -/
namespace Mon
def big : Int := 1125899906842624
/-- what Sum tells: the sum, and the number of what is wrong -/
def sumGo : Int → List Int → Int × Int
  | acc, [] => (acc, 0)
  | acc, n :: r => if n < 0 ∨ big < n then (0, 2) else if big < acc + n then (0, 4) else sumGo (acc + n) r
def tot (l : List Int) : Int := l.foldr (· + ·) 0
def Good (l : List Int) : Prop := (∀ n ∈ l, 0 ≤ n) ∧ tot l ≤ big
theorem tot_cons (n : Int) (l : List Int) : tot (n :: l) = n + tot l := rfl
theorem tot_nonneg (l : List Int) (h : ∀ n ∈ l, 0 ≤ n) : 0 ≤ tot l := by
  induction l with
  | nil => simp [tot]
  | cons n l ih => rw [tot_cons]; have := h n (by simp); have := ih (fun m hm => h m (by simp [hm])); omega
theorem tot_append (a b : List Int) : tot (a ++ b) = tot a + tot b := by
  induction a with
  | nil => simp [tot]
  | cons n a ih => rw [List.cons_append, tot_cons, tot_cons, ih]; omega
theorem tot_reverse (a : List Int) : tot a.reverse = tot a := by
  induction a with
  | nil => rfl
  | cons n a ih => rw [List.reverse_cons, tot_append, ih, tot_cons, tot_cons]; simp [tot]; omega
theorem le_tot (l : List Int) (h : ∀ n ∈ l, 0 ≤ n) (x : Int) (hx : x ∈ l) : x ≤ tot l := by
  induction l with
  | nil => cases hx
  | cons n l ih =>
    rw [tot_cons]
    have := h n (by simp)
    have h' : ∀ m ∈ l, 0 ≤ m := fun m hm => h m (by simp [hm])
    rcases List.mem_cons.1 hx with rfl | hx
    · have := tot_nonneg l h'; omega
    · have := ih h' hx; omega
theorem sumGo_good (l : List Int) : ∀ acc, 0 ≤ acc → (∀ n ∈ l, 0 ≤ n) → acc + tot l ≤ big → sumGo acc l = (acc + tot l, 0) := by
  induction l with
  | nil => intro acc _ _ _; simp [sumGo, tot]
  | cons n l ih =>
    intro acc h0 h hs
    have hn := h n (by simp)
    have h' : ∀ m ∈ l, 0 ≤ m := fun m hm => h m (by simp [hm])
    have ht := tot_nonneg l h'
    rw [tot_cons] at hs ⊢
    simp only [sumGo]
    rw [if_neg (by omega), if_neg (by omega), ih (acc + n) (by omega) h' (by omega), Int.add_assoc]
theorem sumGo_bad (l : List Int) : ∀ acc, 0 ≤ acc → acc ≤ big → (sumGo acc l).2 = 0 → (∀ n ∈ l, 0 ≤ n) ∧ acc + tot l ≤ big := by
  induction l with
  | nil => intro acc _ hb _; exact ⟨by simp, by simpa [tot] using hb⟩
  | cons n l ih =>
    intro acc h0 hb h
    simp only [sumGo] at h
    by_cases h1 : n < 0 ∨ big < n
    · simp [h1] at h
    · by_cases h2 : big < acc + n
      · simp [h1, h2] at h
      · rw [if_neg h1, if_neg h2] at h
        obtain ⟨p, q⟩ := ih (acc + n) (by omega) (by omega) h
        refine ⟨fun m hm => ?_, by rw [tot_cons]; omega⟩
        rcases List.mem_cons.1 hm with rfl | hm
        · omega
        · exact p m hm
theorem sumGo_range (acc n : Int) (r : List Int) (h : n < 0 ∨ big < n) : sumGo acc (n :: r) = (0, 2) := by simp only [sumGo]; rw [if_pos h]
theorem sumGo_full (acc n : Int) (r : List Int) (h : ¬ (n < 0 ∨ big < n)) (h2 : big < acc + n) : sumGo acc (n :: r) = (0, 4) := by simp only [sumGo]; rw [if_neg h, if_pos h2]
theorem sumGo_next (acc n : Int) (r : List Int) (h : ¬ (n < 0 ∨ big < n)) (h2 : ¬ big < acc + n) : sumGo acc (n :: r) = sumGo (acc + n) r := by simp only [sumGo]; rw [if_neg h, if_neg h2]
theorem sum_iff (l : List Int) : (sumGo 0 l).2 = 0 ↔ Good l := by
  constructor
  · intro h; have := sumGo_bad l 0 (by omega) (by unfold big; omega) h; exact ⟨this.1, by omega⟩
  · rintro ⟨h1, h2⟩; rw [sumGo_good l 0 (by omega) h1 (by omega)]
theorem sum_val (l : List Int) (h : Good l) : sumGo 0 l = (tot l, 0) := by rw [sumGo_good l 0 (by omega) h.1 (by have := h.2; omega)]; simp
theorem good_append {a b : List Int} (h : Good (a ++ b)) : Good a ∧ Good b := by
  obtain ⟨h1, h2⟩ := h
  rw [tot_append] at h2
  have ha : ∀ n ∈ a, 0 ≤ n := fun n hn => h1 n (by simp [hn])
  have hb : ∀ n ∈ b, 0 ≤ n := fun n hn => h1 n (by simp [hn])
  have := tot_nonneg a ha; have := tot_nonneg b hb
  exact ⟨⟨ha, by omega⟩, ⟨hb, by omega⟩⟩
theorem good_reverse {a : List Int} : Good a.reverse ↔ Good a := by
  unfold Good; rw [tot_reverse]; simp
theorem sum_err (l : List Int) (acc : Int) : (sumGo acc l).2 ≠ 0 → (sumGo acc l).1 = 0 := by
  induction l generalizing acc with
  | nil => intro h; exact absurd rfl h
  | cons n l ih =>
    simp only [sumGo]
    split
    · intro _; rfl
    · split
      · intro _; rfl
      · exact ih _
theorem sum_err_vals (l : List Int) (acc : Int) : (sumGo acc l).2 = 0 ∨ (sumGo acc l).2 = 2 ∨ (sumGo acc l).2 = 4 := by
  induction l generalizing acc with
  | nil => simp [sumGo]
  | cons n l ih =>
    simp only [sumGo]
    split
    · simp
    · split
      · simp
      · exact ih _
theorem sum_bd (l : List Int) (acc : Int) (h0 : 0 ≤ acc) (hb : acc ≤ big) : 0 ≤ (sumGo acc l).1 ∧ (sumGo acc l).1 ≤ big := by
  induction l generalizing acc with
  | nil => simp [sumGo]; omega
  | cons n l ih =>
    simp only [sumGo]
    split
    · simp [big]
    · split
      · simp [big]
      · exact ih _ (by omega) (by omega)

/-- what the block at a height makes -/
def made (h : Nat) : Nat := 1073741824 / 2 ^ (h / 1000)
/-- what is made of the first l blocks, the first of which makes n -/
def supGo : Nat → Nat → Nat → Nat
  | 0, _, _ => 0
  | f + 1, n, l => if n = 0 ∨ l = 0 then 0 else n * min l 1000 + supGo f (n / 2) (l - 1000)
def sup (h : Nat) : Nat := supGo 31 1073741824 (h + 1)
/-- blocks a to a + k - 1 -/
def sumMade : Nat → Nat → Nat
  | _, 0 => 0
  | a, k + 1 => made (a + k) + sumMade a k
theorem supGo_le (f : Nat) : ∀ n l, supGo f n l ≤ 2000 * n := by
  induction f with
  | zero => intro n l; simp [supGo]
  | succ f ih =>
    intro n l
    simp only [supGo]
    split
    · omega
    · have := ih (n / 2) (l - 1000)
      have h2 : n * min l 1000 ≤ n * 1000 := Nat.mul_le_mul_left _ (Nat.min_le_right _ _)
      omega
theorem supGo_lt (f : Nat) : ∀ n l, n ≠ 0 → supGo f n l + 1000 ≤ 2000 * n := by
  induction f with
  | zero => intro n l _; simp [supGo]; omega
  | succ f ih =>
    intro n l hn
    simp only [supGo]
    split
    · omega
    · have h2 : n * min l 1000 ≤ n * 1000 := Nat.mul_le_mul_left _ (Nat.min_le_right _ _)
      by_cases h : n / 2 = 0
      · rw [h]
        have : supGo f 0 (l - 1000) = 0 := by cases f <;> simp [supGo]
        omega
      · have := ih (n / 2) (l - 1000) h; omega
/-- one block more -/
theorem supGo_succ (f : Nat) : ∀ n l, n < 2 ^ f → supGo f n (l + 1) = supGo f n l + n / 2 ^ (l / 1000) := by
  induction f with
  | zero => intro n l h; have : n = 0 := by simpa using h
            subst this; simp [supGo]
  | succ f ih =>
    intro n l h
    by_cases hn : n = 0
    · subst hn; simp [supGo]
    · have hh : n / 2 < 2 ^ f := by rw [Nat.pow_succ] at h; omega
      simp only [supGo]
      rw [if_neg (by omega)]
      by_cases hl : l = 0
      · subst hl
        have e : supGo f (n / 2) (0 + 1 - 1000) = 0 := by
          cases f <;> simp [supGo]
        rw [e]; simp
      · rw [if_neg (by omega)]
        by_cases hlt : l < 1000
        · have e1 : l + 1 - 1000 = 0 := Nat.sub_eq_zero_of_le hlt
          have e2 : l - 1000 = 0 := Nat.sub_eq_zero_of_le (Nat.le_of_lt hlt)
          have e3 : l / 1000 = 0 := Nat.div_eq_of_lt hlt
          have e : supGo f (n / 2) 0 = 0 := by cases f <;> simp [supGo]
          rw [e1, e2, e3, e, Nat.min_eq_left (by omega), Nat.min_eq_left (by omega), Nat.mul_add]; simp
        · have e1 : l + 1 - 1000 = (l - 1000) + 1 := by omega
          have e3 : l / 1000 = (l - 1000) / 1000 + 1 := by omega
          rw [e1, ih _ _ hh, Nat.min_eq_right (by omega), Nat.min_eq_right (by omega), e3, Nat.pow_succ, Nat.mul_comm (2 ^ _) 2, ← Nat.div_div_eq_div_mul]
          omega
theorem sup_succ (h : Nat) : sup (h + 1) = sup h + made (h + 1) := supGo_succ 31 1073741824 (h + 1) (by decide +kernel)
theorem sup_zero : sup 0 = made 0 := by decide +kernel
theorem sup_le (h : Nat) : sup h ≤ 2147483648000 := by have := supGo_le 31 1073741824 (h + 1); unfold sup; omega
theorem sup_lt (h : Nat) : sup h < 2147483648000 := by have := supGo_lt 31 1073741824 (h + 1) (by decide); unfold sup; omega
theorem made_le (h : Nat) : made h ≤ 1073741824 := by unfold made; exact Nat.div_le_self 1073741824 _
theorem made_succ_le (h : Nat) : made (h + 1) ≤ made h := by
  unfold made
  exact Nat.div_le_div_left (Nat.pow_le_pow_right (by decide) (Nat.div_le_div_right (by omega))) (Nat.two_pow_pos _)
theorem made_halves (h : Nat) (hh : 1000 ≤ h) : made h = made (h - 1000) / 2 := by
  unfold made
  have e3 : h / 1000 = (h - 1000) / 1000 + 1 := by omega
  rw [e3, Nat.pow_succ, ← Nat.div_div_eq_div_mul]
theorem made_first (h : Nat) (hh : h < 1000) : made h = 1073741824 := by
  unfold made; have : h / 1000 = 0 := by omega
  rw [this]
theorem made_le_sup (h : Nat) : made h ≤ sup h := by
  cases h with
  | zero => rw [sup_zero]; exact Nat.le_refl _
  | succ h => rw [sup_succ]; omega
end Mon
