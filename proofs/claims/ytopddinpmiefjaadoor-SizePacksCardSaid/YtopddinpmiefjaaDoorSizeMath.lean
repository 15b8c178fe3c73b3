/- Plain laws on numbers as bytes; no program. -/
namespace Siz
/-- The number whose bytes, the highest one first, are these. -/
def val (l : List Int) : Int := l.foldl (fun a x => a * 256 + x) 0
def wide (n : Int) : Nat := if n < 253 then 0 else if n < 65536 then 2 else if n < 4294967296 then 4 else 8
/-- The last w bytes of a number, the highest one first. -/
def bytesOf (w : Nat) (n : Int) : List Int := (List.range w).map fun j => n / 2 ^ (8 * (w - 1 - j)) % 256
def ofN (n : Int) : List Int := if n < 253 then [n] else (if n < 65536 then 253 else if n < 4294967296 then 254 else 255) :: bytesOf (wide n) n
def Bytes (l : List Int) : Prop := ∀ x ∈ l, 0 ≤ x ∧ x < 256
/-- What is read at the head: the number, how many bytes, what is wrong. -/
def read (l : List Int) : Int × Nat × Int :=
  match l with
  | [] => (0, 0, 3)
  | x :: r =>
    if x < 253 then (x, 1, 0)
    else
      let w := if x < 254 then 2 else if x < 255 then 4 else 8
      if r.length < w then (0, 0, 3)
      else if val (r.take w) / 9223372036854775808 > 0 ∨ wide (val (r.take w)) ≠ w then (0, 0, 1)
      else (val (r.take w), 1 + w, 0)

theorem bytes2 (n : Int) : bytesOf 2 n = [n / 256 % 256, n % 256] := by simp [bytesOf, List.range_succ]
theorem bytes4 (n : Int) : bytesOf 4 n = [n / 16777216 % 256, n / 65536 % 256, n / 256 % 256, n % 256] := by simp [bytesOf, List.range_succ]
theorem bytes8 (n : Int) : bytesOf 8 n = [n / 72057594037927936 % 256, n / 281474976710656 % 256, n / 1099511627776 % 256, n / 4294967296 % 256, n / 16777216 % 256, n / 65536 % 256, n / 256 % 256, n % 256] := by simp [bytesOf, List.range_succ]
theorem bytesOf_length (w : Nat) (n : Int) : (bytesOf w n).length = w := by simp [bytesOf]
theorem bytesOf_bytes (w : Nat) (n : Int) : Bytes (bytesOf w n) := by
  intro x hx; simp only [bytesOf, List.mem_map] at hx; obtain ⟨j, _, rfl⟩ := hx; omega
theorem wide_cases (n : Int) : (n < 253 ∧ wide n = 0) ∨ (253 ≤ n ∧ n < 65536 ∧ wide n = 2) ∨ (65536 ≤ n ∧ n < 4294967296 ∧ wide n = 4) ∨ (4294967296 ≤ n ∧ wide n = 8) := by
  unfold wide; split
  · left; exact ⟨by assumption, rfl⟩
  · split
    · right; left; exact ⟨by omega, by assumption, rfl⟩
    · split
      · right; right; left; exact ⟨by omega, by assumption, rfl⟩
      · right; right; right; exact ⟨by omega, rfl⟩
theorem ofN_length (n : Int) : (ofN n).length = 1 + wide n := by
  unfold ofN; rcases wide_cases n with ⟨h, e⟩ | ⟨h, _, e⟩ | ⟨h, _, e⟩ | ⟨h, e⟩
  · rw [if_pos h, e]; rfl
  all_goals rw [if_neg (by omega), List.length_cons, bytesOf_length]; omega
theorem ofN_bytes (n : Int) (h : 0 ≤ n) : Bytes (ofN n) := by
  unfold ofN; split
  · intro x hx; simp at hx; omega
  · intro x hx
    rcases List.mem_cons.1 hx with rfl | hx
    · split <;> (try split) <;> omega
    · exact bytesOf_bytes _ _ x hx
/-- What is written is read. -/
theorem read_ofN (n : Int) (h0 : 0 ≤ n) (h1 : n < 9223372036854775808) (c : List Int) : read (ofN n ++ c) = (n, (ofN n).length, 0) := by
  rw [ofN_length]
  rcases wide_cases n with ⟨h, e⟩ | ⟨h, h2, e⟩ | ⟨h, h2, e⟩ | ⟨h, e⟩
  · unfold ofN; rw [if_pos h, e]; simp [read, h]
  · have v : val (bytesOf 2 n) = n := by rw [bytes2]; simp [val]; omega
    unfold ofN; rw [if_neg (by omega), if_pos h2, e]
    simp only [read, List.cons_append]
    have t : (bytesOf 2 n ++ c).take 2 = bytesOf 2 n := by rw [List.take_append_of_le_length (by rw [bytesOf_length]; omega), List.take_of_length_le (by rw [bytesOf_length]; omega)]
    simp only [Int.reduceLT, reduceIte, t, v, List.length_append, bytesOf_length]
    rw [if_neg (by omega), if_neg (by rw [e]; omega)]
  · have v : val (bytesOf 4 n) = n := by rw [bytes4]; simp [val]; omega
    unfold ofN; rw [if_neg (by omega), if_neg (by omega), if_pos h2, e]
    simp only [read, List.cons_append]
    have t : (bytesOf 4 n ++ c).take 4 = bytesOf 4 n := by rw [List.take_append_of_le_length (by rw [bytesOf_length]; omega), List.take_of_length_le (by rw [bytesOf_length]; omega)]
    simp only [Int.reduceLT, reduceIte, t, v, List.length_append, bytesOf_length]
    rw [if_neg (by omega), if_neg (by rw [e]; omega)]
  · have v : val (bytesOf 8 n) = n := by rw [bytes8]; simp [val]; omega
    unfold ofN; rw [if_neg (by omega), if_neg (by omega), if_neg (by omega), e]
    simp only [read, List.cons_append]
    have t : (bytesOf 8 n ++ c).take 8 = bytesOf 8 n := by rw [List.take_append_of_le_length (by rw [bytesOf_length]; omega), List.take_of_length_le (by rw [bytesOf_length]; omega)]
    simp only [Int.reduceLT, reduceIte, t, v, List.length_append, bytesOf_length]
    rw [if_neg (by omega), if_neg (by rw [e]; omega)]
theorem take_ge2 {r : List Int} (h : ¬ r.length < 2) : ∃ a b s, r = a :: b :: s := by
  match r, h with
  | a :: b :: s, _ => exact ⟨a, b, s, rfl⟩
  | [a], h => simp at h
  | [], h => simp at h
theorem take_ge4 {r : List Int} (h : ¬ r.length < 4) : ∃ a b c d s, r = a :: b :: c :: d :: s := by
  obtain ⟨a, b, s, rfl⟩ := take_ge2 (r := r) (by omega)
  obtain ⟨c, d, s, rfl⟩ := take_ge2 (r := s) (by simp at h ⊢; omega)
  exact ⟨a, b, c, d, s, rfl⟩
theorem take_ge8 {r : List Int} (h : ¬ r.length < 8) : ∃ a b c d a' b' c' d' s, r = a :: b :: c :: d :: a' :: b' :: c' :: d' :: s := by
  obtain ⟨a, b, c, d, s, rfl⟩ := take_ge4 (r := r) (by omega)
  obtain ⟨a', b', c', d', s, rfl⟩ := take_ge4 (r := s) (by simp at h ⊢; omega)
  exact ⟨a, b, c, d, a', b', c', d', s, rfl⟩
/-- What is read is written so. -/
theorem ofN_read (l : List Int) (hl : Bytes l) (m : Int) (k : Nat) (h : read l = (m, k, 0)) : 0 ≤ m ∧ m < 9223372036854775808 ∧ k ≤ l.length ∧ 1 ≤ k ∧ ofN m = l.take k := by
  cases l with
  | nil => simp [read] at h
  | cons x r =>
    have hx := hl x (by simp)
    have hr : Bytes r := fun y hy => hl y (by simp [hy])
    simp only [read] at h
    by_cases c1 : x < 253
    · rw [if_pos c1] at h
      simp only [Prod.mk.injEq, and_true] at h
      obtain ⟨rfl, rfl⟩ := h
      exact ⟨hx.1, by omega, by simp, by omega, by unfold ofN; rw [if_pos c1]; simp⟩
    · rw [if_neg c1] at h
      by_cases c2 : x < 254
      · rw [if_pos c2] at h
        by_cases c3 : r.length < 2
        · rw [if_pos c3] at h; simp at h
        · rw [if_neg c3] at h
          split at h
          · simp at h
          · rename_i c4
            simp only [Prod.mk.injEq, and_true] at h
            obtain ⟨rfl, rfl⟩ := h
            obtain ⟨a, b, s, rfl⟩ := take_ge2 c3
            have ha := hr a (by simp); have hb := hr b (by simp)
            simp only [not_or, Decidable.not_not, List.take_succ_cons, List.take_zero, val, List.foldl] at c4 ⊢
            obtain ⟨c4, c5⟩ := c4
            rcases wide_cases ((0 * 256 + a) * 256 + b) with ⟨_, e⟩ | ⟨w1, w2, e⟩ | ⟨_, _, e⟩ | ⟨_, e⟩ <;> rw [e] at c5 <;> simp at c5
            refine ⟨by omega, by omega, by simp, by omega, ?_⟩
            unfold ofN; rw [if_neg (by omega), if_pos w2, e, bytes2]
            have : x = 253 := by omega
            subst this
            simp; omega
      · rw [if_neg c2] at h
        by_cases c2' : x < 255
        · rw [if_pos c2'] at h
          by_cases c3 : r.length < 4
          · rw [if_pos c3] at h; simp at h
          · rw [if_neg c3] at h
            split at h
            · simp at h
            · rename_i c4
              simp only [Prod.mk.injEq, and_true] at h
              obtain ⟨rfl, rfl⟩ := h
              obtain ⟨a, b, c, d, s, rfl⟩ := take_ge4 c3
              have ha := hr a (by simp); have hb := hr b (by simp); have hc := hr c (by simp); have hd := hr d (by simp)
              simp only [not_or, Decidable.not_not, List.take_succ_cons, List.take_zero, val, List.foldl] at c4 ⊢
              obtain ⟨c4, c5⟩ := c4
              rcases wide_cases ((((0 * 256 + a) * 256 + b) * 256 + c) * 256 + d) with ⟨_, e⟩ | ⟨w1, w2, e⟩ | ⟨w1, w2, e⟩ | ⟨_, e⟩ <;> rw [e] at c5 <;> simp at c5
              refine ⟨by omega, by omega, by simp, by omega, ?_⟩
              unfold ofN; rw [if_neg (by omega), if_neg (by omega), if_pos w2, e, bytes4]
              have : x = 254 := by omega
              subst this
              simp; omega
        · rw [if_neg c2'] at h
          by_cases c3 : r.length < 8
          · rw [if_pos c3] at h; simp at h
          · rw [if_neg c3] at h
            split at h
            · simp at h
            · rename_i c4
              simp only [Prod.mk.injEq, and_true] at h
              obtain ⟨rfl, rfl⟩ := h
              obtain ⟨a, b, c, d, a', b', c', d', s, rfl⟩ := take_ge8 c3
              have ha := hr a (by simp); have hb := hr b (by simp); have hc := hr c (by simp); have hd := hr d (by simp)
              have ha' := hr a' (by simp); have hb' := hr b' (by simp); have hc' := hr c' (by simp); have hd' := hr d' (by simp)
              simp only [not_or, Decidable.not_not, List.take_succ_cons, List.take_zero, val, List.foldl] at c4 ⊢
              obtain ⟨c4, c5⟩ := c4
              rcases wide_cases ((((((((0 * 256 + a) * 256 + b) * 256 + c) * 256 + d) * 256 + a') * 256 + b') * 256 + c') * 256 + d') with ⟨_, e⟩ | ⟨w1, w2, e⟩ | ⟨w1, w2, e⟩ | ⟨w1, e⟩ <;> rw [e] at c5 <;> simp at c5
              refine ⟨by omega, by omega, by simp, by omega, ?_⟩
              unfold ofN; rw [if_neg (by omega), if_neg (by omega), if_neg (by omega), e, bytes8]
              have : x = 255 := by omega
              subst this
              simp; omega
/-- No number begins another one. -/
theorem apart (m n : Int) (hm : 0 ≤ m) (hm1 : m < 9223372036854775808) (hn : 0 ≤ n) (hn1 : n < 9223372036854775808) (b c : List Int) (h : ofN m ++ b = ofN n ++ c) : m = n := by
  have h1 := read_ofN m hm hm1 b
  have h2 := read_ofN n hn hn1 c
  rw [h] at h1
  rw [h1] at h2
  exact (Prod.mk.inj h2).1
theorem longer (m n : Int) (h : m ≤ n) : (ofN m).length ≤ (ofN n).length := by
  rw [ofN_length, ofN_length]
  rcases wide_cases m with ⟨_, e⟩ | ⟨_, _, e⟩ | ⟨_, _, e⟩ | ⟨_, e⟩ <;> rcases wide_cases n with ⟨_, e'⟩ | ⟨_, _, e'⟩ | ⟨_, _, e'⟩ | ⟨_, e'⟩ <;> omega
end Siz
