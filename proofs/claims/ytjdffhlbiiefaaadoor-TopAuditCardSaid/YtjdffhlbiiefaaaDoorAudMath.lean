/- Plain laws on a tree of totals: its root, what a leaf needs beside it, and that these give the root; no program. -/
namespace Aud
set_option linter.unusedVariables false
/-- the greatest power of 2 below n, n above 1 -/
def half (n : Nat) : Nat := 2 ^ Nat.log2 (n - 1)
theorem half_pos (n : Nat) : 0 < half n := Nat.two_pow_pos _
theorem half_lt {n : Nat} (h : 2 ≤ n) : half n < n := by
  have := Nat.log2_self_le (n := n - 1) (by omega)
  unfold half; omega
structure Tot where
  s : Int
  d : List Nat
section
variable (nd : Tot → Tot → Tot) (e : Tot)
def root (ts : List Tot) : Tot :=
  if h : 2 ≤ ts.length then nd (root (ts.take (half ts.length))) (root (ts.drop (half ts.length)))
  else ts.headD e
termination_by ts.length
decreasing_by
  · rw [List.length_take]; have := half_lt h; omega
  · rw [List.length_drop]; have := half_pos ts.length; omega
theorem root_two {ts : List Tot} (h : 2 ≤ ts.length) : root nd e ts = nd (root nd e (ts.take (half ts.length))) (root nd e (ts.drop (half ts.length))) := by
  rw [root, dif_pos h]
theorem root_one (t : Tot) : root nd e [t] = t := by
  rw [root, dif_neg (by simp)]; rfl
theorem root_nil : root nd e [] = e := by
  rw [root, dif_neg (by simp)]; rfl
/-- what is beside the way from the root to leaf i -/
def path (ts : List Tot) (i : Nat) : List Tot :=
  if h : 2 ≤ ts.length then
    if i < half ts.length then root nd e (ts.drop (half ts.length)) :: path (ts.take (half ts.length)) i
    else root nd e (ts.take (half ts.length)) :: path (ts.drop (half ts.length)) (i - half ts.length)
  else []
termination_by ts.length
decreasing_by
  · rw [List.length_take]; have := half_lt h; omega
  · rw [List.length_drop]; have := half_pos ts.length; omega
theorem path_left {ts : List Tot} {i : Nat} (h : 2 ≤ ts.length) (hi : i < half ts.length) : path nd e ts i = root nd e (ts.drop (half ts.length)) :: path nd e (ts.take (half ts.length)) i := by
  rw [path, dif_pos h, if_pos hi]
theorem path_right {ts : List Tot} {i : Nat} (h : 2 ≤ ts.length) (hi : ¬ i < half ts.length) : path nd e ts i = root nd e (ts.take (half ts.length)) :: path nd e (ts.drop (half ts.length)) (i - half ts.length) := by
  rw [path, dif_pos h, if_neg hi]
theorem path_end {ts : List Tot} {i : Nat} (h : ¬ 2 ≤ ts.length) : path nd e ts i = [] := by
  rw [path, dif_neg h]
end
/-- the sides of leaf i of n, from the root -/
def sides (i n : Nat) : List Bool :=
  if h : 2 ≤ n then
    if i < half n then true :: sides i (half n) else false :: sides (i - half n) (n - half n)
  else []
termination_by n
decreasing_by
  · exact half_lt h
  · have := half_pos n; omega
theorem sides_left {i n : Nat} (h : 2 ≤ n) (hi : i < half n) : sides i n = true :: sides i (half n) := by rw [sides, dif_pos h, if_pos hi]
theorem sides_right {i n : Nat} (h : 2 ≤ n) (hi : ¬ i < half n) : sides i n = false :: sides (i - half n) (n - half n) := by rw [sides, dif_pos h, if_neg hi]
theorem sides_end {i n : Nat} (h : ¬ 2 ≤ n) : sides i n = [] := by rw [sides, dif_neg h]
section
variable (nd : Tot → Tot → Tot) (e : Tot)
theorem path_len (i : Nat) (ts : List Tot) : (path nd e ts i).length = (sides i ts.length).length := by
  induction h : ts.length using Nat.strongRecOn generalizing ts i with
  | _ n ih =>
    subst h
    by_cases h2 : 2 ≤ ts.length
    · have h3 := half_lt h2
      have h4 := half_pos ts.length
      by_cases hi : i < half ts.length
      · rw [path_left nd e h2 hi, sides_left h2 hi, List.length_cons, List.length_cons, ih (half ts.length) h3 i (ts.take (half ts.length)) (by rw [List.length_take]; omega)]
      · rw [path_right nd e h2 hi, sides_right h2 hi, List.length_cons, List.length_cons, ih (ts.length - half ts.length) (by omega) (i - half ts.length) (ts.drop (half ts.length)) (by rw [List.length_drop])]
    · rw [path_end nd e h2, sides_end h2]; rfl
theorem sides_len (i n : Nat) : (sides i n).length ≤ n - 1 := by
  induction n using Nat.strongRecOn generalizing i with
  | _ n ih =>
    by_cases h2 : 2 ≤ n
    · have h3 := half_lt h2
      have h4 := half_pos n
      by_cases hi : i < half n
      · have := ih (half n) h3 i
        rw [sides_left h2 hi, List.length_cons]; omega
      · have := ih (n - half n) (by omega) (i - half n)
        rw [sides_right h2 hi, List.length_cons]; omega
    · rw [sides_end h2]; simp
/-- one step up -/
def up1 (t : Tot) (x : Bool × Tot) : Tot := if x.1 then nd t x.2 else nd x.2 t
/-- all steps, from the leaf: sides and totals in this order -/
def fold (t : Tot) (bs : List Bool) (ps : List Tot) : Tot := (bs.zip ps).foldl (up1 nd) t
theorem fold_root (i : Nat) (ts : List Tot) (hi : i < ts.length) (t : Tot) (ht : ts[i]? = some t) : ((sides i ts.length).zip (path nd e ts i)).foldr (fun x a => up1 nd a x) t = root nd e ts := by
  induction h : ts.length using Nat.strongRecOn generalizing ts i with
  | _ n ih =>
    subst h
    by_cases h2 : 2 ≤ ts.length
    · have h3 := half_lt h2
      have h4 := half_pos ts.length
      by_cases hk : i < half ts.length
      · rw [path_left nd e h2 hk, sides_left h2 hk, List.zip_cons_cons, List.foldr_cons, root_two nd e h2]
        have hl : (ts.take (half ts.length)).length = half ts.length := by rw [List.length_take]; omega
        have := ih (half ts.length) h3 i (ts.take (half ts.length)) (by omega) (by rw [List.getElem?_take, if_pos hk]; exact ht) hl
        rw [this]; rfl
      · rw [path_right nd e h2 hk, sides_right h2 hk, List.zip_cons_cons, List.foldr_cons, root_two nd e h2]
        have hl : (ts.drop (half ts.length)).length = ts.length - half ts.length := by rw [List.length_drop]
        have := ih (ts.length - half ts.length) (by omega) (i - half ts.length) (ts.drop (half ts.length)) (by omega) (by rw [List.getElem?_drop]; rw [show half ts.length + (i - half ts.length) = i by omega]; exact ht) hl
        rw [this]; rfl
    · have h1 : ts.length = 1 := by omega
      obtain ⟨x, rfl⟩ := List.length_eq_one_iff.1 h1
      rw [path_end nd e h2, sides_end h2, root_one]
      simp only [List.length_singleton] at hi
      obtain rfl : i = 0 := by omega
      simpa using ht.symm
theorem fold_law (i : Nat) (ts : List Tot) (hi : i < ts.length) (t : Tot) (ht : ts[i]? = some t) : fold nd t (sides i ts.length).reverse (path nd e ts i).reverse = root nd e ts := by
  rw [← fold_root nd e i ts hi t ht]
  unfold fold
  rw [List.zip, ← List.reverse_zipWith (path_len nd e i ts).symm, List.foldl_reverse]
end
def sum (ts : List Tot) : Int := (ts.map (·.s)).foldr (· + ·) 0
theorem sum_cons (t : Tot) (l : List Tot) : sum (t :: l) = t.s + sum l := rfl
theorem sum_append (a b : List Tot) : sum (a ++ b) = sum a + sum b := by
  induction a with
  | nil => simp [sum]
  | cons n a ih => rw [List.cons_append, sum_cons, sum_cons, ih]; omega
theorem sum_reverse (a : List Tot) : sum a.reverse = sum a := by
  induction a with
  | nil => rfl
  | cons n a ih => rw [List.reverse_cons, sum_append, ih, sum_cons, sum_cons]; simp [sum]; omega
theorem sum_split (k : Nat) (ts : List Tot) : sum ts = sum (ts.take k) + sum (ts.drop k) := by rw [← sum_append, List.take_append_drop]
/-- a total that a program can hold -/
def Ok (t : Tot) : Prop := 0 ≤ t.s ∧ t.d.length = 32 ∧ ∀ x ∈ t.d, x < 256
def Oks (ts : List Tot) : Prop := ∀ t ∈ ts, Ok t
theorem Oks.take {ts : List Tot} (h : Oks ts) (k : Nat) : Oks (ts.take k) := fun t ht => h t (List.mem_of_mem_take ht)
theorem Oks.drop {ts : List Tot} (h : Oks ts) (k : Nat) : Oks (ts.drop k) := fun t ht => h t (List.mem_of_mem_drop ht)
theorem Oks.append {a b : List Tot} (h : Oks a) (k : Oks b) : Oks (a ++ b) := fun t ht => (List.mem_append.1 ht).elim (h t) (k t)
theorem Oks.reverse {a : List Tot} (h : Oks a) : Oks a.reverse := fun t ht => h t (List.mem_reverse.1 ht)
theorem sum_nonneg {ts : List Tot} (h : Oks ts) : 0 ≤ sum ts := by
  induction ts with
  | nil => simp [sum]
  | cons t l ih => rw [sum_cons]; have := (h t (by simp)).1; have := ih (fun x hx => h x (by simp [hx])); omega
theorem sum_take_le {ts : List Tot} (h : Oks ts) (k : Nat) : sum (ts.take k) ≤ sum ts := by
  have := sum_split k ts; have := sum_nonneg (h.drop k); omega
theorem sum_drop_le {ts : List Tot} (h : Oks ts) (k : Nat) : sum (ts.drop k) ≤ sum ts := by
  have := sum_split k ts; have := sum_nonneg (h.take k); omega
theorem le_sum {ts : List Tot} (h : Oks ts) {t : Tot} (ht : t ∈ ts) : t.s ≤ sum ts := by
  obtain ⟨a, b, rfl⟩ := List.append_of_mem ht
  rw [sum_append, sum_cons]
  have := sum_nonneg (fun x hx => h x (List.mem_append_left _ hx))
  have := sum_nonneg (ts := b) (fun x hx => h x (by simp [hx]))
  omega
/-- a node whose total is the sum of both -/
structure Node (nd : Tot → Tot → Tot) (e : Tot) : Prop where
  add : ∀ l r, (nd l r).s = l.s + r.s
  ok : ∀ l r, 0 ≤ l.s → 0 ≤ r.s → Ok (nd l r)
  zero : e.s = 0
  eok : Ok e
section
variable {nd : Tot → Tot → Tot} {e : Tot} (N : Node nd e)
include N
theorem root_ok (ts : List Tot) (h : Oks ts) : Ok (root nd e ts) ∧ (root nd e ts).s = sum ts := by
  induction hl : ts.length using Nat.strongRecOn generalizing ts with
  | _ n ih =>
    subst hl
    by_cases h2 : 2 ≤ ts.length
    · have h3 := half_lt h2
      have h4 := half_pos ts.length
      rw [root_two nd e h2]
      obtain ⟨a1, a2⟩ := ih (ts.take (half ts.length)).length (by rw [List.length_take]; omega) _ (h.take _) rfl
      obtain ⟨b1, b2⟩ := ih (ts.drop (half ts.length)).length (by rw [List.length_drop]; omega) _ (h.drop _) rfl
      exact ⟨N.ok _ _ a1.1 b1.1, by rw [N.add, a2, b2]; exact (sum_split _ ts).symm⟩
    · match ts, h, h2 with
      | [], _, _ => rw [root_nil]; exact ⟨N.eok, by rw [N.zero]; rfl⟩
      | [t], h, _ => rw [root_one]; exact ⟨h t (by simp), by simp [sum]⟩
      | _ :: _ :: _, _, h2 => simp at h2
theorem path_ok (i : Nat) (ts : List Tot) (h : Oks ts) (hi : i < ts.length) (t : Tot) (ht : ts[i]? = some t) : Oks (path nd e ts i) ∧ t.s + sum (path nd e ts i) = sum ts := by
  induction hl : ts.length using Nat.strongRecOn generalizing ts i with
  | _ n ih =>
    subst hl
    by_cases h2 : 2 ≤ ts.length
    · have h3 := half_lt h2
      have h4 := half_pos ts.length
      have hs := sum_split (half ts.length) ts
      by_cases hk : i < half ts.length
      · rw [path_left nd e h2 hk]
        obtain ⟨a1, a2⟩ := ih (ts.take (half ts.length)).length (by rw [List.length_take]; omega) i (ts.take (half ts.length)) (h.take _) (by rw [List.length_take]; omega) (by rw [List.getElem?_take, if_pos hk]; exact ht) rfl
        obtain ⟨b1, b2⟩ := root_ok N _ (h.drop (half ts.length))
        exact ⟨fun x hx => (List.mem_cons.1 hx).elim (fun e => e ▸ b1) (a1 x), by rw [sum_cons, b2]; omega⟩
      · rw [path_right nd e h2 hk]
        obtain ⟨a1, a2⟩ := ih (ts.drop (half ts.length)).length (by rw [List.length_drop]; omega) (i - half ts.length) (ts.drop (half ts.length)) (h.drop _) (by rw [List.length_drop]; omega) (by rw [List.getElem?_drop]; rw [show half ts.length + (i - half ts.length) = i by omega]; exact ht) rfl
        obtain ⟨b1, b2⟩ := root_ok N _ (h.take (half ts.length))
        exact ⟨fun x hx => (List.mem_cons.1 hx).elim (fun e => e ▸ b1) (a1 x), by rw [sum_cons, b2]; omega⟩
    · have h1 : ts.length = 1 := by omega
      obtain ⟨x, rfl⟩ := List.length_eq_one_iff.1 h1
      rw [path_end nd e h2]
      simp only [List.length_singleton] at hi
      obtain rfl : i = 0 := by omega
      have : x = t := by simpa using ht
      subst this
      exact ⟨fun x hx => absurd hx (List.not_mem_nil), by simp [sum]⟩
/-- what is there behind k steps up -/
theorem fold_ok (t : Tot) (bs : List Bool) (ps : List Tot) (h : Ok t) (hp : Oks ps) (hl : bs.length = ps.length) : Ok (fold nd t bs ps) ∧ (fold nd t bs ps).s = t.s + sum ps := by
  induction ps generalizing t bs with
  | nil => exact ⟨by simpa [fold] using h, by simp [fold, sum]⟩
  | cons p ps ih =>
    match bs, hl with
    | b :: bs, hl =>
      have hp1 := hp p (by simp)
      have hu : Ok (up1 nd t (b, p)) ∧ (up1 nd t (b, p)).s = t.s + p.s := by
        unfold up1
        split
        · exact ⟨N.ok _ _ h.1 hp1.1, N.add _ _⟩
        · exact ⟨N.ok _ _ hp1.1 h.1, by rw [N.add]; show p.s + t.s = t.s + p.s; omega⟩
      obtain ⟨a1, a2⟩ := ih (up1 nd t (b, p)) bs hu.1 (fun x hx => hp x (by simp [hx])) (by simpa using hl)
      refine ⟨a1, ?_⟩
      show (fold nd (up1 nd t (b, p)) bs ps).s = _
      rw [a2, hu.2, sum_cons]; omega
end
theorem fold_snoc (nd : Tot → Tot → Tot) (t : Tot) (bs : List Bool) (ps : List Tot) (hl : bs.length = ps.length) (b : Bool) (p : Tot) : fold nd t (bs ++ [b]) (ps ++ [p]) = up1 nd (fold nd t bs ps) (b, p) := by
  unfold fold
  rw [List.zip_append hl, List.foldl_append]; rfl
end Aud
