/- Plain facts: Newton's divided differences over GF(256) give the polynomial through the points. -/
import Derived.Test.YtilaipdpbcfhkaaDoorCoefMath
namespace Fld
set_option linter.unusedVariables false
/-- f is a polynomial of length m and a times x^m -/
def Led (m a : Nat) (f : Nat → Nat) : Prop := a < 256 ∧ ∃ c, By c ∧ c.length ≤ m ∧ ∀ x, x < 256 → f x = ev c x ^^^ mul a (pw x m)
theorem ev_mono (m b x : Nat) (hb : b < 256) (hx : x < 256) : ev (List.replicate m 0 ++ [b]) x = mul b (pw x m) := by
  induction m with
  | zero => show mul 0 x ^^^ b = mul b 1; rw [zero_mul x hx, Nat.zero_xor, mul_one b hb]
  | succ m ih =>
    rw [List.replicate_succ, List.cons_append, ev_cons, ih, Nat.xor_zero]
    show _ = mul b (mul (pw x m) x)
    rw [mul_assoc _ _ _ hb (pw_lt x m) hx]
theorem mono_by (m b : Nat) (hb : b < 256) : By (List.replicate m 0 ++ [b]) := by
  intro y hy
  rcases List.mem_append.1 hy with h | h
  · rw [(List.mem_replicate.1 h).2]; decide
  · rw [List.mem_singleton] at h; omega
theorem Led.const (v : Nat) (hv : v < 256) : Led 0 v (fun _ => v) :=
  ⟨hv, [], by intro x hx; simp at hx, Nat.le_refl _, fun x hx => by show v = 0 ^^^ mul v 1; rw [mul_one v hv, Nat.zero_xor]⟩
theorem Led.add {m a b : Nat} {f g : Nat → Nat} (hf : Led m a f) (hg : Led m b g) : Led m (a ^^^ b) (fun x => f x ^^^ g x) := by
  obtain ⟨ha, c, c1, c2, c3⟩ := hf
  obtain ⟨hb, d, d1, d2, d3⟩ := hg
  refine ⟨xor_lt _ _ ha hb, padd c d, padd_by _ _ c1 d1, by rw [padd_length]; omega, fun x hx => ?_⟩
  show f x ^^^ g x = _
  rw [c3 x hx, d3 x hx, ev_padd x _ _ c1 d1, add_mul _ _ _ ha hb]
  exact xor4 _ _ _ _
theorem Led.scale {m a s : Nat} {f : Nat → Nat} (hf : Led m a f) (hs : s < 256) : Led m (mul a s) (fun x => mul (f x) s) := by
  obtain ⟨ha, c, c1, c2, c3⟩ := hf
  refine ⟨mul_lt _ _ ha, pscale s c, pscale_by _ _ c1, by rw [pscale, List.length_map]; exact c2, fun x hx => ?_⟩
  show mul (f x) s = _
  have hp := pw_lt x m
  rw [c3 x hx, add_mul _ _ _ (ev_lt _ _ c1) (mul_lt _ _ ha), ev_pscale s x hs hx c c1, mul_assoc a _ s ha hp hs, mul_comm _ s hp hs, ← mul_assoc a s _ ha hs hp]
theorem Led.lin {m a r : Nat} {f : Nat → Nat} (hf : Led m a f) (hr : r < 256) : Led (m + 1) a (fun x => mul (f x) (x ^^^ r)) := by
  obtain ⟨ha, c, c1, c2, c3⟩ := hf
  have hm := mul_lt a r ha
  refine ⟨ha, padd (plin r c) (List.replicate m 0 ++ [mul a r]), padd_by _ _ (plin_by _ _ c1) (mono_by m _ hm), by rw [padd_length, plin_length, List.length_append, List.length_replicate]; simp; omega, fun x hx => ?_⟩
  show mul (f x) (x ^^^ r) = _
  have hp := pw_lt x m
  rw [c3 x hx, add_mul _ _ _ (ev_lt _ _ c1) (mul_lt _ _ ha), ev_padd x _ _ (plin_by _ _ c1) (mono_by m _ hm), ev_plin r x hr hx c c1, ev_mono m _ x hm hx, mul_add (mul a (pw x m)) x r, Nat.xor_assoc]
  congr 1
  show _ = _ ^^^ mul a (mul (pw x m) x)
  rw [mul_assoc a _ x ha hp hx, mul_assoc a _ r ha hp hr, mul_comm _ r hp hr, ← mul_assoc a r _ ha hr hp, Nat.xor_comm]
theorem Led.up {m a : Nat} {f : Nat → Nat} (hf : Led m a f) : Led (m + 1) 0 f := by
  obtain ⟨ha, c, c1, c2, c3⟩ := hf
  refine ⟨by decide, padd c (List.replicate m 0 ++ [a]), padd_by _ _ c1 (mono_by m _ ha), by rw [padd_length, List.length_append, List.length_replicate]; simp; omega, fun x hx => ?_⟩
  rw [c3 x hx, ev_padd x _ _ c1 (mono_by m _ ha), ev_mono m _ x ha hx, zero_mul _ (pw_lt x _), Nat.xor_zero]
theorem Led.zero {m : Nat} {f : Nat → Nat} (hf : Led m 0 f) (ps : List Nat) (hl : m ≤ ps.length) (hn : ps.Nodup) (hz : ∀ p ∈ ps, p < 256 ∧ f p = 0) (x : Nat) (hx : x < 256) : f x = 0 := by
  obtain ⟨_, c, c1, c2, c3⟩ := hf
  have he : ∀ x, x < 256 → f x = ev c x := fun x hx => by rw [c3 x hx, zero_mul _ (pw_lt x m), Nat.xor_zero]
  rw [he x hx]
  exact zeros ps c c1 (by omega) hn (fun p hp => ⟨(hz p hp).1, by rw [← he p (hz p hp).1]; exact (hz p hp).2⟩) x hx
theorem Led.val {m a : Nat} {f : Nat → Nat} (hf : Led m a f) (x : Nat) (hx : x < 256) : f x < 256 := by
  obtain ⟨ha, c, c1, c2, c3⟩ := hf
  rw [c3 x hx]; exact xor_lt _ _ (ev_lt _ _ c1) (mul_lt _ _ ha)
section
variable (P V : Nat → Nat)
/-- the differences' product -/
def PI (x j : Nat) : Nat → Nat
  | 0 => 1
  | m + 1 => mul (PI x j m) (x ^^^ P (j + m))
/-- divided differences -/
def DV (j : Nat) : Nat → Nat
  | 0 => V j
  | m + 1 => mul (DV (j + 1) m ^^^ DV j m) (inv (P (j + m + 1) ^^^ P j))
termination_by m => m
/-- Newton's sum -/
def NW (x j : Nat) : Nat → Nat
  | 0 => V j
  | m + 1 => NW x j m ^^^ mul (PI P x j (m + 1)) (DV P V j (m + 1))
end
section
variable {P V : Nat → Nat} (hP : ∀ i, P i < 256) (hV : ∀ i, V i < 256)
include hP in
theorem PI_led (j : Nat) : ∀ m, Led m 1 (fun x => PI P x j m)
  | 0 => Led.const 1 (by decide)
  | m + 1 => (PI_led j m).lin (hP (j + m))
include hV in
theorem DV_lt (j : Nat) : ∀ m, DV P V j m < 256
  | 0 => by rw [DV]; exact hV j
  | m + 1 => by rw [DV]; exact mul_lt _ _ (xor_lt _ _ (DV_lt (j + 1) m) (DV_lt j m))
termination_by m => m
include hV hP in
theorem NW_led (j : Nat) : ∀ m, Led m (DV P V j m) (fun x => NW P V x j m)
  | 0 => by rw [DV]; exact Led.const (V j) (hV j)
  | m + 1 => by
    have h1 := (NW_led j m).up
    have h2 := (PI_led hP j (m + 1)).scale (DV_lt (P := P) hV j (m + 1))
    have h3 := h1.add h2
    rw [Nat.zero_xor, one_mul _ (DV_lt (P := P) hV j (m + 1))] at h3
    exact h3
include hP in
theorem PI_lt (x j : Nat) (hx : x < 256) (m : Nat) : PI P x j m < 256 := (PI_led hP j m).val x hx
include hP in
theorem PI_zero (j s : Nat) : ∀ m, s < m → PI P (P (j + s)) j m = 0
  | 0, h => by omega
  | m + 1, h => by
    rw [PI]
    by_cases e : s = m
    · subst e; rw [Nat.xor_self, mul_zero]
    · rw [PI_zero j s m (by omega), zero_mul _ (xor_lt _ _ (hP _) (hP _))]
include hP in
theorem PI_front (x j : Nat) (hx : x < 256) : ∀ m, PI P x j (m + 1) = mul (x ^^^ P j) (PI P x (j + 1) m)
  | 0 => by
    show mul 1 (x ^^^ P (j + 0)) = mul (x ^^^ P j) 1
    rw [Nat.add_zero, one_mul _ (xor_lt _ _ hx (hP j)), mul_one _ (xor_lt _ _ hx (hP j))]
  | m + 1 => by
    rw [PI, PI_front x j hx m, PI, show j + (m + 1) = j + 1 + m by omega, mul_assoc _ _ _ (xor_lt _ _ hx (hP j)) (PI_lt hP x (j + 1) hx m) (xor_lt _ _ hx (hP _))]
include hP hV in
theorem newton (n : Nat) (hd : ∀ i k, i < n → k < n → P i = P k → i = k) : ∀ m j, j + m < n → ∀ s, s ≤ m → NW P V (P (j + s)) j m = V (j + s)
  | 0, j, _, s, hs => by
    have : s = 0 := by omega
    subst this; rfl
  | m + 1, j, hj, s, hs => by
    by_cases hsm : s ≤ m
    · rw [NW, newton n hd m j (by omega) s hsm, PI_zero hP j s (m + 1) (by omega), zero_mul _ (DV_lt (P := P) hV j (m + 1)), Nat.xor_zero]
    · have : s = m + 1 := by omega
      subst this
      have hb := hP (j + (m + 1))
      obtain ⟨b, hbb⟩ : ∃ b, P (j + (m + 1)) = b := ⟨_, rfl⟩
      have hc := xor_lt _ _ (DV_lt (P := P) hV (j + 1) m) (DV_lt (P := P) hV j m)
      have hR := ((NW_led hP hV (j + 1) m).add (NW_led hP hV j m)).add ((PI_led hP (j + 1) m).scale hc)
      rw [one_mul _ hc, Nat.xor_self] at hR
      have hz := hR.zero ((List.range m).map fun s => P (j + 1 + s)) (by simp)
        (by
          refine List.Pairwise.map _ ?_ (List.Pairwise.and_mem.1 List.nodup_range)
          intro a b hab e
          obtain ⟨h1, h2, h3⟩ := hab
          have h1 := List.mem_range.1 h1
          have h2 := List.mem_range.1 h2
          have := hd _ _ (by omega) (by omega) e
          omega)
        (by
          intro p hp
          obtain ⟨s, hs, rfl⟩ := List.mem_map.1 hp
          have hs := List.mem_range.1 hs
          refine ⟨hP _, ?_⟩
          show NW P V (P (j + 1 + s)) (j + 1) m ^^^ NW P V (P (j + 1 + s)) j m ^^^ mul (PI P (P (j + 1 + s)) (j + 1) m) _ = 0
          rw [newton n hd m (j + 1) (by omega) s (by omega), show j + 1 + s = j + (s + 1) by omega, newton n hd m j (by omega) (s + 1) (by omega), show j + (s + 1) = j + 1 + s by omega, PI_zero hP (j + 1) s m hs, zero_mul _ hc, Nat.xor_self]
          rfl) b (hbb ▸ hb)
      have hz' : NW P V b (j + 1) m ^^^ NW P V b j m ^^^ mul (PI P b (j + 1) m) (DV P V (j + 1) m ^^^ DV P V j m) = 0 := hz
      have hq : NW P V b (j + 1) m = V (j + (m + 1)) := by
        have := newton n hd m (j + 1) (by omega) m (Nat.le_refl _)
        rw [show j + 1 + m = j + (m + 1) by omega, hbb] at this
        exact this
      have hb8 : b < 256 := hbb ▸ hb
      have hu : b ^^^ P j ≠ 0 := fun e => by
        have e2 := xor_eq_zero.1 e
        rw [← hbb] at e2
        have := hd _ _ (by omega) (by omega) e2
        omega
      have hu8 := xor_lt _ _ hb8 (hP j)
      obtain ⟨i1, i2⟩ := inv_spec _ hu8 hu
      have hpi := PI_lt hP b (j + 1) hb8 m
      rw [hbb, NW, PI_front hP b j hb8 m, DV, show j + m + 1 = j + (m + 1) by omega, hbb]
      obtain ⟨u, huu⟩ : ∃ u, b ^^^ P j = u := ⟨_, rfl⟩
      rw [huu] at i1 i2 hu8
      rw [huu]
      obtain ⟨c, hcc⟩ : ∃ c, DV P V (j + 1) m ^^^ DV P V j m = c := ⟨_, rfl⟩
      rw [hcc] at hc hz'
      rw [hcc]
      obtain ⟨p, hpp⟩ : ∃ p, PI P b (j + 1) m = p := ⟨_, rfl⟩
      rw [hpp] at hpi hz'
      rw [hpp]
      have e1 : mul (mul u p) (mul c (inv u)) = mul p c := by
        rw [mul_comm u p hu8 hpi, mul_assoc p u _ hpi hu8 (mul_lt _ _ hc), mul_comm c (inv u) hc i2, ← mul_assoc u (inv u) c hu8 i2 hc, i1, one_mul c hc]
      rw [e1]
      have e2 := xor_eq_zero.1 hz'
      rw [← e2, ← hq, Nat.xor_comm (NW P V b (j + 1) m), ← Nat.xor_assoc, Nat.xor_self, Nat.zero_xor]
/-- Horner over a window -/
def HN (P E : Nat → Nat) (x : Nat) (i : Nat) : Nat → Nat
  | 0 => 0
  | k + 1 => mul (HN P E x (i + 1) k) (x ^^^ P i) ^^^ E i
termination_by k => k
theorem HN_lt {E : Nat → Nat} (hE : ∀ i, E i < 256) (x i : Nat) (hx : x < 256) : ∀ k, HN P E x i k < 256
  | 0 => by rw [HN]; decide
  | k + 1 => by rw [HN]; exact xor_lt _ _ (mul_lt _ _ (HN_lt hE x (i + 1) hx k)) (hE i)
termination_by k => k
include hP in
theorem HN_snoc {E : Nat → Nat} (hE : ∀ i, E i < 256) (x : Nat) (hx : x < 256) : ∀ k i, HN P E x i (k + 1) = HN P E x i k ^^^ mul (PI P x i k) (E (i + k))
  | 0, i => by
    rw [HN, HN, HN, PI, zero_mul _ (xor_lt _ _ hx (hP i)), Nat.add_zero, one_mul _ (hE i)]
  | k + 1, i => by
    have hxi := xor_lt _ _ hx (hP i)
    have hp := PI_lt hP x (i + 1) hx k
    rw [HN, HN_snoc hE x hx k (i + 1), PI_front hP x i hx k, show i + (k + 1) = i + 1 + k by omega, add_mul _ _ _ (HN_lt (P := P) hE x (i + 1) hx k) (mul_lt _ _ hp)]
    conv => rhs; rw [HN]
    rw [mul_comm _ (x ^^^ P i) (mul_lt _ _ hp) hxi, mul_assoc _ _ _ hxi hp (hE _)]
    rw [Nat.xor_assoc, Nat.xor_assoc, Nat.xor_comm (E i)]
include hP in
theorem HN_newton {E : Nat → Nat} (hE : ∀ i, E i < 256) (x : Nat) (hx : x < 256) : ∀ m, (∀ t, t ≤ m → E t = DV P V 0 t) → HN P E x 0 (m + 1) = NW P V x 0 m
  | 0, h => by
    rw [HN_snoc hP hE x hx, HN, PI, Nat.zero_xor, one_mul _ (hE _), h 0 (Nat.le_refl _), DV, NW]
  | m + 1, h => by
    rw [HN_snoc hP hE x hx, HN_newton hE x hx m (fun t ht => h t (by omega)), NW, Nat.zero_add, h (m + 1) (Nat.le_refl _)]
/-- the differences in place -/
def DD (P V : Nat → Nat) : Nat → Nat → Nat
  | 0, i => V i
  | k + 1, i => if k + 1 ≤ i then mul (DD P V k i ^^^ DD P V k (i - 1)) (inv (P i ^^^ P (i - (k + 1)))) else DD P V k i
include hV in
theorem DD_lt : ∀ k i, DD P V k i < 256
  | 0, i => hV i
  | k + 1, i => by
    rw [DD]
    split
    · exact mul_lt _ _ (xor_lt _ _ (DD_lt k i) (DD_lt k (i - 1)))
    · exact DD_lt k i
omit hP hV in
theorem DD_at : ∀ k j, DD P V k (j + k) = DV P V j k
  | 0, j => by rw [DD, DV, Nat.add_zero]
  | k + 1, j => by
    rw [DD, if_pos (by omega), DV, show j + (k + 1) = j + 1 + k by omega, DD_at k (j + 1), show j + 1 + k - 1 = j + k by omega, DD_at k j, show j + 1 + k - (k + 1) = j by omega, show j + 1 + k = j + k + 1 by omega]
omit hP hV in
theorem DD_past (i : Nat) : ∀ k, i ≤ k → DD P V k i = DV P V 0 i
  | 0, h => by
    have : i = 0 := by omega
    subst this; rw [DD, DV]
  | k + 1, h => by
    by_cases e : i = k + 1
    · subst e; have := DD_at (P := P) (V := V) (k + 1) 0; rwa [Nat.zero_add] at this
    · rw [DD, if_neg (by omega), DD_past i k (by omega)]
end
/-- what Newton's way tells is what Lagrange's does -/
def newtN (at_ v : List Nat) (x : Nat) : Nat := HN (fun i => at_.getD i 0) (fun i => DD (fun i => at_.getD i 0) (fun i => v.getD i 0) (at_.length - 1) i) x 0 at_.length
theorem newtN_lag (at_ v : List Nat) (x : Nat) (ha : By at_) (hv : By v) (hn : at_.Nodup) (h1 : 1 ≤ at_.length) (hl : v.length = at_.length) (hx : x < 256) : newtN at_ v x = lag at_ v x := by
  have hP : ∀ i, at_.getD i 0 < 256 := getD_lt at_ ha
  have hV : ∀ i, v.getD i 0 < 256 := getD_lt v hv
  obtain ⟨m, hm⟩ : ∃ m, at_.length = m + 1 := ⟨at_.length - 1, by omega⟩
  have hd : ∀ i k, i < at_.length → k < at_.length → at_.getD i 0 = at_.getD k 0 → i = k := fun i k hi hk e => by
    rw [List.getD_eq_getElem?_getD, List.getD_eq_getElem?_getD, List.getElem?_eq_getElem hi, List.getElem?_eq_getElem hk] at e
    have hpw := List.pairwise_iff_getElem.1 hn
    simp only [Option.getD_some] at e
    rcases Nat.lt_trichotomy i k with h | h | h
    · exact absurd e (hpw i k hi hk h)
    · exact h
    · exact absurd e.symm (hpw k i hk hi h)
  have e1 : newtN at_ v x = NW (fun i => at_.getD i 0) (fun i => v.getD i 0) x 0 m := by
    unfold newtN
    rw [hm]
    exact HN_newton hP (fun i => DD_lt hV _ i) x hx m (fun t ht => DD_past t _ (by omega))
  obtain ⟨_, c, c1, c2, c3⟩ := (NW_led hP hV 0 m).up
  have c4 : ∀ x, x < 256 → NW (fun i => at_.getD i 0) (fun i => v.getD i 0) x 0 m = ev c x := fun x hx => by
    have := c3 x hx
    rw [zero_mul _ (pw_lt x _), Nat.xor_zero] at this
    exact this
  rw [e1, c4 x hx]
  refine (enough at_ c ha hn c1 (by omega) v hv (fun j hj => ?_) x hx).symm
  rw [← c4 _ (hP j)]
  have := newton hP hV at_.length hd m 0 (by omega) j (by omega)
  rw [Nat.zero_add] at this
  exact this.symm
end Fld
