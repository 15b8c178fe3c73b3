/- Words for shares: bytes as natural numbers, a slice of rows, append as an operation of a drawn region. -/
import Derived.Test.YtilaipdpbcfhkaaDoorTail
import Derived.Test.YtilaipdpbcfhkaaDoorFieldMath
namespace Go.Mny
open Go.RowKit
abbrev byt (b : List Nat) : List Value := b.map fun x : Nat => Value.int .u8 (x : Int)
theorem byt_one (l : List Nat) : ∀ u ∈ byt l, u.oneCell' = true := by
  intro u hu
  obtain ⟨x, _, rfl⟩ := List.mem_map.1 hu
  rfl
theorem byt_append (a b : List Nat) : byt (a ++ b) = byt a ++ byt b := List.map_append
theorem byt_len (l : List Nat) : (byt l).length = l.length := List.length_map _
theorem Row.byte {w : World} {D n : Nat} {A : Option Addr} {l : List Nat} (h : Row w D 1 A n (byt l)) {i : Nat} (hi : i < n) :
    ∃ (g o x : Nat), A = some ⟨g, o, none⟩ ∧ g < D ∧ l[i]? = some x ∧ w.cell? ⟨g, o + i, none⟩ = some (.int .u8 (x : Nat)) := by
  have hl : l.length = n := by have := h.len; rw [byt_len] at this; omega
  obtain ⟨g, o, e1, e2, e3⟩ := h.cells (by omega)
  obtain ⟨x, hx⟩ : ∃ x, l[i]? = some x := ⟨_, List.getElem?_eq_getElem (by omega)⟩
  exact ⟨g, o, x, e1, e2, hx, by rw [e3 i (by rw [byt_len]; omega), List.getElem?_map, hx]; rfl⟩
/-- append as one operation -/
theorem app_wp {P : Program} {t e s b : Nat} (E : Elt P t e s b) {w : World} {o : Oper} {a : Act} {K : Act → World → Prop} {Q : Exit → Act → World → Prop}
    (x y : Operand) (ho : o.op = .call { callee := .builtin .append, args := #[x, y], argTypes := #[t, t] })
    {B : Nat} {A : Option Addr} {n c : Nat} {xs : List Value} (hx : a.eval x = .slice A n c) (hown : Own w B e s A n c xs)
    {D : Nat} {A' : Option Addr} {m c' : Nat} {news : List Value} (hy : a.eval y = .slice A' m c') (hrow : Row w D s A' m news) (h1 : ∀ u ∈ news, u.oneCell' = true)
    (hm : n + m ≤ maxLen) (hroom : (n + m) * b ≤ 140737488355328) (hB : B ≤ w.heap.size)
    (k : ∀ A2 c2 w2, Own w2 B e s A2 (n + m) c2 (xs ++ news) → w.grownBy w2 (at_ A) → (at_ A2 = at_ A ∨ at_ A2 = some w.heap.size) → K (a.put o.dst (.slice A2 (n + m) c2)) w2) : o.wp P a w K Q := by
  obtain ⟨A2, c2, w2, hr, g1, g2, g3⟩ := run_app (P := P) (ty := o.type) E hown (c' := c') hrow h1 hm hroom hB
  unfold Oper.wp execOp
  simp only [ho, resolve, invoke, builtin, Sem.run_bind, Sem.run_pure, Result.andThen_ok, List.map_toArray, List.map_cons, List.map_nil, hx, hy, hr]
  exact k A2 c2 w2 g1 g2 g3
/-- rows of bytes -/
def Mat (w : World) (D : Nat) (A : Option Addr) (n : Nat) (M : List (List Nat)) : Prop :=
  ∃ es : List Value, Row w D 1 A n es ∧ M.length = n ∧ ∀ (i : Nat) (m : List Nat), M[i]? = some m → ∃ (A' : Option Addr) (c' : Nat), es[i]? = some (Value.slice A' m.length c') ∧ m.length ≤ c' ∧ Row w D 1 A' m.length (byt m)
theorem Mat.below {w w' : World} {D n : Nat} {A : Option Addr} {M : List (List Nat)} (h : Mat w D A n M) (hb : Below D w w') : Mat w' D A n M := by
  obtain ⟨es, h1, h2, h3⟩ := h
  exact ⟨es, h1.below hb, h2, fun i m hi => by obtain ⟨A', c', e1, e2, e3⟩ := h3 i m hi; exact ⟨A', c', e1, e2, e3.below hb⟩⟩
/-- row i: where it lies -/
theorem Mat.at {w : World} {D n : Nat} {A : Option Addr} {M : List (List Nat)} (h : Mat w D A n M) {i : Nat} (hi : i < n) :
    ∃ (g o : Nat) (m : List Nat) (A' : Option Addr) (c' : Nat), A = some ⟨g, o, none⟩ ∧ Hid (M[i]? = some m) ∧ w.cell? ⟨g, o + i, none⟩ = some (Value.slice A' m.length c') ∧ m.length ≤ c' ∧ Row w D 1 A' m.length (byt m) := by
  obtain ⟨es, h1, h2, h3⟩ := h
  obtain ⟨g, o, e1, e2, e4⟩ := h1.cells (by omega)
  have hm : M[i]? = some (M[i]'(by omega)) := List.getElem?_eq_getElem _
  obtain ⟨A', c', f1, f2, f3⟩ := h3 i _ hm
  refine ⟨g, o, _, A', c', e1, hm, ?_, f2, f3⟩
  rw [e4 i (by rw [h1.len]; omega), f1]
/-- column i of rows -/
def col (M : List (List Nat)) (i : Nat) : List Nat := M.map fun m => m.getD i 0
def datN (sec : List Nat) (M : List (List Nat)) (x j : Nat) : List Nat := (List.range j).map fun i => Fld.ev (sec.getD i 0 :: col M i) x
def splitN (sec : List Nat) (M : List (List Nat)) (k : Nat) : List (Nat × List Nat) := (List.range k).map fun q => (q + 1, datN sec M (q + 1) sec.length)
def By8s (l : List Nat) : Prop := ∀ x ∈ l, x < 256
theorem datN_len (sec : List Nat) (M : List (List Nat)) (x j : Nat) : (datN sec M x j).length = j := by simp [datN]
theorem datN_succ (sec : List Nat) (M : List (List Nat)) (x j : Nat) : datN sec M x (j + 1) = datN sec M x j ++ [Fld.ev (sec.getD j 0 :: col M j) x] := by simp [datN, List.range_succ]
theorem splitN_succ (sec : List Nat) (M : List (List Nat)) (k : Nat) : splitN sec M (k + 1) = splitN sec M k ++ [(k + 1, datN sec M (k + 1) sec.length)] := by simp [splitN, List.range_succ]
theorem splitN_len (sec : List Nat) (M : List (List Nat)) (k : Nat) : (splitN sec M k).length = k := by simp [splitN]
theorem col_snoc {M : List (List Nat)} {j : Nat} {m : List Nat} (h : M[j]? = some m) (i : Nat) : col (M.take (j + 1)) i = col (M.take j) i ++ [m.getD i 0] := by
  unfold col
  rw [List.take_add_one, h]; simp
theorem getD_by {l : List Nat} (h : By8s l) (i : Nat) : l.getD i 0 < 256 := by
  rw [List.getD_eq_getElem?_getD]
  cases hi : l[i]? with
  | none => simp
  | some x => simpa using h x (List.mem_of_getElem? hi)
theorem col_by {M : List (List Nat)} (h : ∀ m ∈ M, By8s m) (i : Nat) : By8s (col M i) := by
  intro x hx
  obtain ⟨m, hm, rfl⟩ := List.mem_map.1 hx
  exact getD_by (h m hm) i
theorem datN_by {sec : List Nat} {M : List (List Nat)} (hs : By8s sec) (hM : ∀ m ∈ M, By8s m) (x j : Nat) : By8s (datN sec M x j) := by
  intro y hy
  obtain ⟨i, _, rfl⟩ := List.mem_map.1 hy
  exact Fld.ev_lt _ _ (fun z hz => by
    rcases List.mem_cons.1 hz with rfl | hz
    · exact getD_by hs i
    · exact col_by hM i z hz)
/-- shares in a slice of the call's own -/
def Shs (w : World) (B : Nat) (st bt : Nat) (A : Option Addr) (n c : Nat) (L : List (Nat × List Nat)) : Prop :=
  ∃ es : List Value, Own w B st 2 A n c es ∧ L.length = n ∧ ∀ (i : Nat) (x : Nat) (d : List Nat), L[i]? = some (x, d) →
    ∃ (A' : Option Addr) (c' : Nat), es[i * 2]? = some (Value.int .u8 (x : Int)) ∧ es[i * 2 + 1]? = some (Value.slice A' d.length c') ∧ d.length ≤ c' ∧ (0 < d.length → Own w B bt 1 A' d.length c' (byt d))
theorem Own.other {w : World} {B B' e e' s s' n n' c c' : Nat} {A A' : Option Addr} {cs cs' : List Value} (h : Own w B e s A n c cs) (h' : Own w B' e' s' A' n' c' cs') (hn : 0 < n) (hn' : 0 < n') (he : e ≠ e') (g : Nat) (hg : at_ A = some g) : at_ A' ≠ some g := by
  intro hg'
  obtain ⟨g1, cur1, rfl, _, b1, _⟩ := h.blk hn
  obtain ⟨g2, cur2, rfl, _, b2, _⟩ := h'.blk hn'
  have e1 : g1 = g := Option.some.inj hg
  have e2 : g2 = g := Option.some.inj hg'
  subst e1; subst e2
  have b1 := b1.out
  have b2 := b2.out
  unfold Blk at b1 b2
  rw [b1] at b2
  injection b2 with b2
  injection b2 with _ b2 _
  exact he b2
theorem Shs.below {w w' : World} {B st bt n c : Nat} {A : Option Addr} {L : List (Nat × List Nat)} (h : Shs w B st bt A n c L) (hb : Below w.heap.size w w') : Shs w' B st bt A n c L := by
  obtain ⟨es, h1, h2, h3⟩ := h
  exact ⟨es, h1.below hb (Nat.le_refl _), h2, fun i x d hi => by obtain ⟨A', c', e1, e2, e3, e4⟩ := h3 i x d hi; exact ⟨A', c', e1, e2, e3, fun hd => (e4 hd).below hb (Nat.le_refl _)⟩⟩
theorem Shs.snoc {w w2 : World} {B st bt n c c2 : Nat} {A A2 : Option Addr} {L : List (Nat × List Nat)} {es : List Value} (h1 : Own w B st 2 A n c es) (h2 : L.length = n)
    (h3 : ∀ (i : Nat) (x : Nat) (d : List Nat), L[i]? = some (x, d) → ∃ (A' : Option Addr) (c' : Nat), es[i * 2]? = some (Value.int .u8 (x : Int)) ∧ es[i * 2 + 1]? = some (Value.slice A' d.length c') ∧ d.length ≤ c' ∧ (0 < d.length → Own w B bt 1 A' d.length c' (byt d)))
    (hst : bt ≠ st) (hk : Kept (fun j => at_ A = some j) w w2) (x : Nat) (d : List Nat) {A' : Option Addr} {c' : Nat} (hle : d.length ≤ c') (hd : 0 < d.length → Own w2 B bt 1 A' d.length c' (byt d))
    (ho : Own w2 B st 2 A2 (n + 1) c2 (es ++ [Value.int .u8 (x : Int), Value.slice A' d.length c'])) : Shs w2 B st bt A2 (n + 1) c2 (L ++ [(x, d)]) := by
  have hel := h1.len
  refine ⟨_, ho, by simp [h2], fun i x' d' hi => ?_⟩
  by_cases hin : i < n
  · rw [List.getElem?_append_left (by omega)] at hi
    obtain ⟨A1, c1, e1, e2, e3, e4⟩ := h3 i x' d' hi
    refine ⟨A1, c1, by rw [List.getElem?_append_left (by omega)]; exact e1, by rw [List.getElem?_append_left (by omega)]; exact e2, e3, fun hd' => ?_⟩
    exact (e4 hd').kept hk (fun g hg hg' => (e4 hd').other h1 hd' (by omega) hst g hg hg')
  · have hlt := (List.getElem?_eq_some_iff.1 hi).1
    simp only [List.length_append, List.length_cons, List.length_nil] at hlt
    have : i = n := by omega
    subst this
    rw [List.getElem?_append_right (by omega), h2, Nat.sub_self] at hi
    simp only [List.getElem?_cons_zero, Option.some.injEq, Prod.mk.injEq] at hi
    obtain ⟨rfl, rfl⟩ := hi
    refine ⟨A', c', by rw [List.getElem?_append_right (by omega), hel, Nat.sub_self]; rfl, by rw [List.getElem?_append_right (by omega), hel, Nat.add_sub_cancel_left]; rfl, hle, hd⟩
/-- shares that are read -/
def ShR (w : World) (D : Nat) (A : Option Addr) (n : Nat) (L : List (Nat × List Nat)) : Prop :=
  ∃ es : List Value, Row w D 2 A n es ∧ L.length = n ∧ ∀ (i : Nat) (x : Nat) (d : List Nat), L[i]? = some (x, d) →
    ∃ (A' : Option Addr) (c' : Nat), es[i * 2]? = some (Value.int .u8 (x : Int)) ∧ es[i * 2 + 1]? = some (Value.slice A' d.length c') ∧ d.length ≤ c' ∧ Row w D 1 A' d.length (byt d)
theorem ShR.of_shs {w : World} {B st bt n c : Nat} {A : Option Addr} {L : List (Nat × List Nat)} (h : Shs w B st bt A n c L) : ShR w w.heap.size A n L := by
  obtain ⟨es, h1, h2, h3⟩ := h
  refine ⟨es, Row.of_own h1, h2, fun i x d hi => ?_⟩
  obtain ⟨A', c', e1, e2, e3, e4⟩ := h3 i x d hi
  refine ⟨A', c', e1, e2, e3, ?_⟩
  by_cases hd : 0 < d.length
  · exact Row.of_own (e4 hd)
  · have : d = [] := List.eq_nil_of_length_eq_zero (by omega)
    subst this
    exact Row.nil _ _ _ _
theorem ShR.none (w : World) (D : Nat) (A : Option Addr) : ShR w D A 0 [] := ⟨[], Row.nil _ _ _ _, rfl, fun i x d h => by simp at h⟩
theorem ShR.below {w w' : World} {D n : Nat} {A : Option Addr} {L : List (Nat × List Nat)} (h : ShR w D A n L) (hb : Below D w w') : ShR w' D A n L := by
  obtain ⟨es, h1, h2, h3⟩ := h
  exact ⟨es, h1.below hb, h2, fun i x d hi => by obtain ⟨A', c', e1, e2, e3, e4⟩ := h3 i x d hi; exact ⟨A', c', e1, e2, e3, e4.below hb⟩⟩
theorem ShR.at {w : World} {D n : Nat} {A : Option Addr} {L : List (Nat × List Nat)} (h : ShR w D A n L) {i : Nat} (hi : i < n) {x : Nat} {d : List Nat} (hx : L[i]? = some (x, d)) :
    ∃ (g o : Nat) (A' : Option Addr) (c' : Nat), A = some ⟨g, o, Option.none⟩ ∧ g < D ∧ w.cell? ⟨g, o + i * 2, Option.none⟩ = some (.int .u8 (x : Int)) ∧ w.cell? ⟨g, o + i * 2 + 1, Option.none⟩ = some (.slice A' d.length c') ∧ d.length ≤ c' ∧ Row w D 1 A' d.length (byt d) := by
  obtain ⟨es, h1, h2, h3⟩ := h
  obtain ⟨g, o, e1, e2, e4⟩ := h1.cells (by omega)
  obtain ⟨A', c', f1, f2, f3, f4⟩ := h3 i x d hx
  have hl := h1.len
  refine ⟨g, o, A', c', e1, e2, ?_, ?_, f3, f4⟩
  · rw [e4 (i * 2) (by omega), f1]
  · rw [Nat.add_assoc, e4 (i * 2 + 1) (by omega), f2]
end Go.Mny
