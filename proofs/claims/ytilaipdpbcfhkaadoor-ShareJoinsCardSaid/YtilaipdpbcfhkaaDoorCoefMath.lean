/- Plain facts: lists by their places, the product of differences, the polynomial through points built term by term. -/
import Derived.Test.YtilaipdpbcfhkaaDoorShr
import Derived.Test.YtilaipdpbcfhkaaDoorWeightsW
namespace Go.Mny
set_option linter.unusedVariables false
/-- a list by its places -/
def lst (m : Nat) (f : Nat → Nat) : List Nat := (List.range m).map f
theorem lst_len (m : Nat) (f : Nat → Nat) : (lst m f).length = m := by simp [lst]
theorem lst_get {m k : Nat} (f : Nat → Nat) (h : k < m) : (lst m f)[k]? = some (f k) := by
  unfold lst
  rw [List.getElem?_map, List.getElem?_range h]; rfl
theorem lst_congr {m : Nat} {f g : Nat → Nat} (h : ∀ q, q < m → f q = g q) : lst m f = lst m g :=
  List.map_congr_left fun q hq => h q (List.mem_range.1 hq)
theorem lst_set {m k x : Nat} {f g : Nat → Nat} (hg : ∀ q, q < m → g q = if q = k then x else f q) : (lst m f).set k x = lst m g := by
  refine List.ext_getElem? fun j => ?_
  by_cases hj : j < m
  · rw [lst_get g hj, hg j hj]
    by_cases hjk : j = k
    · subst hjk
      rw [List.getElem?_set_self (by rw [lst_len]; exact hj), if_pos rfl]
    · rw [List.getElem?_set_ne (by omega), lst_get f hj, if_neg hjk]
  · rw [List.getElem?_eq_none (by rw [List.length_set, lst_len]; omega), List.getElem?_eq_none (by rw [lst_len]; omega)]
theorem lst_self (l : List Nat) : lst l.length (fun q => l.getD q 0) = l := by
  refine List.ext_getElem? fun j => ?_
  by_cases hj : j < l.length
  · rw [lst_get _ hj, List.getD_eq_getElem?_getD, List.getElem?_eq_getElem hj]; rfl
  · rw [List.getElem?_eq_none (by rw [lst_len]; omega), List.getElem?_eq_none (by omega)]
theorem lst_of {l : List Nat} {m : Nat} {f : Nat → Nat} (hl : l.length = m) (h : ∀ q, q < m → f q = l.getD q 0) : lst m f = l := by
  subst hl
  rw [lst_congr h, lst_self]
theorem padd_at : ∀ (c d : List Nat) (k : Nat), (Fld.padd c d).getD k 0 = c.getD k 0 ^^^ d.getD k 0
  | [], d, k => by simp [Fld.padd]
  | a :: c, [], k => by simp [Fld.padd]
  | a :: c, b :: d, 0 => by simp [Fld.padd]
  | a :: c, b :: d, k + 1 => by
    simp only [Fld.padd, List.getD_cons_succ]
    exact padd_at c d k
theorem pscale_at (s : Nat) (c : List Nat) (k : Nat) (h : k < c.length) : (Fld.pscale s c).getD k 0 = Fld.mul (c.getD k 0) s := by
  unfold Fld.pscale
  rw [List.getD_eq_getElem?_getD, List.getElem?_map, List.getD_eq_getElem?_getD, List.getElem?_eq_getElem h]; rfl
theorem pscale_past (s : Nat) (c : List Nat) (k : Nat) (h : c.length ≤ k) : (Fld.pscale s c).getD k 0 = 0 := by
  unfold Fld.pscale
  rw [List.getD_eq_getElem?_getD, List.getElem?_eq_none (by rw [List.length_map]; omega)]; rfl
theorem getD_past (c : List Nat) (k : Nat) (h : c.length ≤ k) : c.getD k 0 = 0 := by
  rw [List.getD_eq_getElem?_getD, List.getElem?_eq_none h]; rfl
/-- c times X + b, half made -/
def nx (c : List Nat) (b k1 k2 q : Nat) : Nat := (if 1 ≤ q ∧ q ≤ k1 then c.getD (q - 1) 0 else 0) ^^^ (if q < k2 then Fld.mul (c.getD q 0) b else 0)
theorem nx_lt {c : List Nat} (h : By8s c) (b k1 k2 q : Nat) : nx c b k1 k2 q < 256 := by
  refine Fld.xor_lt _ _ ?_ ?_
  · split
    · exact getD_by h _
    · decide
  · split
    · exact Fld.mul_lt _ _ (getD_by h _)
    · decide
theorem nx_zero (c : List Nat) (b m : Nat) : lst m (nx c b 0 0) = List.replicate m 0 := by
  unfold lst
  rw [List.map_congr_left (g := fun _ => 0) (fun q _ => by unfold nx; rw [if_neg (by omega), if_neg (by omega)]; rfl), List.map_const', List.length_range]
theorem nx_one (c : List Nat) (b k m : Nat) : (lst m (nx c b k k)).set (k + 1) (nx c b k k (k + 1) ^^^ c.getD k 0) = lst m (nx c b (k + 1) k) := by
  refine lst_set fun q _ => ?_
  by_cases h : q = k + 1
  · subst h
    rw [if_pos rfl]
    unfold nx
    rw [if_pos (by omega), if_neg (by omega), if_neg (by omega), Nat.add_sub_cancel, Nat.xor_zero, Nat.xor_zero, Nat.zero_xor]
  · rw [if_neg h]
    unfold nx
    by_cases h1 : 1 ≤ q ∧ q ≤ k
    · rw [if_pos (by omega), if_pos h1]
    · rw [if_neg (by omega), if_neg h1]
theorem nx_two (c : List Nat) (b k m : Nat) : (lst m (nx c b (k + 1) k)).set k (nx c b (k + 1) k k ^^^ Fld.mul (c.getD k 0) b) = lst m (nx c b (k + 1) (k + 1)) := by
  refine lst_set fun q _ => ?_
  by_cases h : q = k
  · subst h
    rw [if_pos rfl]
    unfold nx
    rw [if_neg (by omega : ¬ q < q), if_pos (by omega : q < q + 1), Nat.xor_zero]
  · rw [if_neg h]
    unfold nx
    by_cases h1 : q < k
    · rw [if_pos (by omega : q < k + 1), if_pos h1]
    · rw [if_neg (by omega : ¬ q < k + 1), if_neg h1]
theorem nx_end (c : List Nat) (b : Nat) : lst (c.length + 1) (nx c b c.length c.length) = Fld.plin b c := by
  refine lst_of (Fld.plin_length b c) fun q hq => ?_
  unfold nx Fld.plin
  rw [padd_at]
  congr 1
  · by_cases h : 1 ≤ q ∧ q ≤ c.length
    · rw [if_pos h]
      obtain ⟨p, rfl⟩ : ∃ p, q = p + 1 := ⟨q - 1, by omega⟩
      rfl
    · rw [if_neg h]
      have : q = 0 := by omega
      subst this
      rfl
  · by_cases h : q < c.length
    · rw [if_pos h, pscale_at b c q h]
    · rw [if_neg h, pscale_past b c q (by omega)]
/-- o and c times s, half added -/
def sx (o c : List Nat) (s k q : Nat) : Nat := if q < k then o.getD q 0 ^^^ Fld.mul (c.getD q 0) s else o.getD q 0
theorem sx_zero (o c : List Nat) (s : Nat) : lst o.length (sx o c s 0) = o := lst_of rfl fun q _ => by unfold sx; rw [if_neg (by omega)]
theorem sx_lt {o c : List Nat} (h : By8s o) (h' : By8s c) (s k q : Nat) : sx o c s k q < 256 := by
  unfold sx
  split
  · exact Fld.xor_lt _ _ (getD_by h _) (Fld.mul_lt _ _ (getD_by h' _))
  · exact getD_by h _
theorem sx_step (o c : List Nat) (s k m : Nat) : (lst m (sx o c s k)).set k (sx o c s k k ^^^ Fld.mul (c.getD k 0) s) = lst m (sx o c s (k + 1)) := by
  refine lst_set fun q _ => ?_
  by_cases h : q = k
  · subst h
    unfold sx
    rw [if_pos rfl, if_pos (by omega : q < q + 1), if_neg (by omega : ¬ q < q)]
  · rw [if_neg h]
    unfold sx
    by_cases h1 : q < k
    · rw [if_pos (by omega), if_pos h1]
    · rw [if_neg (by omega), if_neg h1]
theorem sx_end (o c : List Nat) (s : Nat) (h : o.length = c.length) : lst o.length (sx o c s o.length) = Fld.padd o (Fld.pscale s c) := by
  refine lst_of (by rw [Fld.padd_length, Fld.pscale, List.length_map, h, Nat.max_self]) fun q hq => ?_
  unfold sx
  rw [if_pos hq, padd_at, pscale_at s c q (by omega)]
/-- the product of x ^^^ b -/
def prA (x : Nat) : List Nat → Nat → Nat
  | [], w => w
  | b :: l, w => prA x l (Fld.mul w (x ^^^ b))
def pr (x : Nat) (l : List Nat) : Nat := prA x l 1
theorem prA_snoc (x b : Nat) : ∀ (l : List Nat) (w : Nat), prA x (l ++ [b]) w = Fld.mul (prA x l w) (x ^^^ b)
  | [], w => rfl
  | c :: l, w => by rw [List.cons_append, prA, prA_snoc x b l, prA]
theorem pr_snoc (x b : Nat) (l : List Nat) : pr x (l ++ [b]) = Fld.mul (pr x l) (x ^^^ b) := prA_snoc x b l 1
theorem prA_lt (x : Nat) : ∀ (l : List Nat) (w : Nat), w < 256 → prA x l w < 256
  | [], w, h => h
  | b :: l, w, h => prA_lt x l _ (Fld.mul_lt _ _ h)
theorem pr_lt (x : Nat) (l : List Nat) : pr x l < 256 := prA_lt x l 1 (by decide)
theorem prA_zero (x : Nat) (hx : x < 256) : ∀ (l : List Nat) (w : Nat), By8s l → w < 256 → (w = 0 ∨ x ∈ l) → prA x l w = 0
  | [], w, _, _, h => by rcases h with rfl | h; rfl; cases h
  | b :: l, w, hl, hw, h => by
    have hb : b < 256 := hl b (by simp)
    have ht : By8s l := fun z hz => hl z (by simp [hz])
    rw [prA]
    refine prA_zero x hx l _ ht (Fld.mul_lt _ _ hw) ?_
    rcases h with rfl | h
    · exact .inl (Fld.zero_mul _ (Fld.xor_lt _ _ hx hb))
    · rcases List.mem_cons.1 h with rfl | h
      · left; rw [Nat.xor_self, Fld.mul_zero]
      · exact .inr h
theorem prA_ne (x : Nat) (hx : x < 256) : ∀ (l : List Nat) (w : Nat), By8s l → w < 256 → w ≠ 0 → x ∉ l → prA x l w ≠ 0
  | [], w, _, _, h, _ => h
  | b :: l, w, hl, hw, h, hn => by
    have hb : b < 256 := hl b (by simp)
    have ht : By8s l := fun z hz => hl z (by simp [hz])
    rw [prA]
    refine prA_ne x hx l _ ht (Fld.mul_lt _ _ hw) ?_ (fun hm => hn (by simp [hm]))
    intro e
    have := (Fld.mul_eq_zero w (x ^^^ b) hw (Fld.xor_lt _ _ hx hb) h).1 e
    exact hn (by rw [Fld.xor_eq_zero.1 this]; simp)
/-- c is the product of X + b over l -/
def Prod (c l : List Nat) : Prop := c.length = l.length + 1 ∧ By8s c ∧ ∀ x, x < 256 → Fld.ev c x = pr x l
theorem Prod.one : Prod [1] [] := ⟨rfl, by intro x hx; simp at hx; omega, fun x hx => by rw [Fld.ev_cons]; show Fld.mul 0 x ^^^ 1 = 1; rw [Fld.zero_mul x hx]; rfl⟩
theorem Prod.snoc {c l : List Nat} (h : Prod c l) {b : Nat} (hb : b < 256) : Prod (Fld.plin b c) (l ++ [b]) := by
  obtain ⟨h1, h2, h3⟩ := h
  exact ⟨by rw [Fld.plin_length, h1, List.length_append]; rfl, Fld.plin_by b c h2, fun x hx => by rw [Fld.ev_plin b x hb hx c h2, h3 x hx, pr_snoc]⟩
/-- o goes through the first i points and is 0 at the others -/
def Thr (at_ v o : List Nat) (i : Nat) : Prop := o.length = at_.length ∧ By8s o ∧ ∀ j, j < at_.length → Fld.ev o (at_.getD j 0) = if j < i then v.getD j 0 else 0
theorem ev_zeros (x : Nat) (hx : x < 256) : ∀ n, Fld.ev (List.replicate n 0) x = 0
  | 0 => rfl
  | n + 1 => by rw [List.replicate_succ, Fld.ev_cons, ev_zeros x hx n, Fld.zero_mul x hx]; rfl
theorem Thr.start (at_ v : List Nat) (h8 : By8s at_) : Thr at_ v (List.replicate at_.length 0) 0 :=
  ⟨List.length_replicate, by intro x hx; rw [(List.mem_replicate.1 hx).2]; decide, fun j hj => by rw [ev_zeros _ (getD_by h8 j), if_neg (by omega)]⟩
theorem Thr.step {at_ v o c : List Nat} {i : Nat} (h : Thr at_ v o i) (h8 : By8s at_) (v8 : By8s v) (hn : at_.Nodup) (hi : i < at_.length) (hc : Prod c (at_.eraseIdx i)) :
    pr (at_.getD i 0) (at_.eraseIdx i) ≠ 0 ∧ Thr at_ v (Fld.padd o (Fld.pscale (Fld.mul (v.getD i 0) (Fld.inv (pr (at_.getD i 0) (at_.eraseIdx i)))) c)) (i + 1) := by
  obtain ⟨o1, o2, o3⟩ := h
  obtain ⟨c1, c2, c3⟩ := hc
  have e8 : By8s (at_.eraseIdx i) := fun a ha => h8 a (List.mem_of_mem_eraseIdx ha)
  have ai := getD_by h8 i
  have vi := getD_by v8 i
  have hne : pr (at_.getD i 0) (at_.eraseIdx i) ≠ 0 := prA_ne _ ai _ _ e8 (by decide) (by decide) (Fld.not_mem_others at_ hn i hi)
  refine ⟨hne, ?_⟩
  have hlt := pr_lt (at_.getD i 0) (at_.eraseIdx i)
  obtain ⟨w, hw⟩ : ∃ w, pr (at_.getD i 0) (at_.eraseIdx i) = w := ⟨_, rfl⟩
  rw [hw] at hne hlt
  rw [hw]
  obtain ⟨i1, i2⟩ := Fld.inv_spec w hlt hne
  have hs : Fld.mul (v.getD i 0) (Fld.inv w) < 256 := Fld.mul_lt _ _ vi
  have hcl : c.length = at_.length := by rw [c1, List.length_eraseIdx_of_lt hi]; omega
  refine ⟨by rw [Fld.padd_length, Fld.pscale, List.length_map, o1, hcl, Nat.max_self], Fld.padd_by _ _ o2 (Fld.pscale_by _ _ c2), fun j hj => ?_⟩
  have aj := getD_by h8 j
  rw [Fld.ev_padd _ _ _ o2 (Fld.pscale_by _ _ c2), Fld.ev_pscale _ _ hs aj c c2, o3 j hj, c3 _ aj]
  by_cases hji : j = i
  · subst hji
    rw [if_neg (by omega), if_pos (by omega), Nat.zero_xor, hw, Fld.mul_comm (v.getD j 0) _ vi i2, ← Fld.mul_assoc _ _ _ hlt i2 vi, i1, Fld.one_mul _ vi]
  · have hz : pr (at_.getD j 0) (at_.eraseIdx i) = 0 := prA_zero _ aj _ _ e8 (by decide) (.inr (Fld.mem_others at_ i j hj hji))
    rw [hz, Fld.zero_mul _ hs, Nat.xor_zero]
    by_cases h : j < i
    · rw [if_pos h, if_pos (by omega)]
    · rw [if_neg h, if_neg (by omega)]
end Go.Mny
