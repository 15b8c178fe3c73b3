/- What comes in as a list of lists of integers. -/
import Derived.Test.YtilaipdpbcfhkaaDoorOpen
namespace Go.Proofs.YtilaipdpbcfhkaaDoor
open Go.RowKit Go.Mny
theorem Sh.rows {w : World} {D m : Nat} {k : IntKind} {v : Value} (h : (Sh.slice 1 (.slice 1 (.int k))).ok w D m [v]) :
    ∃ (A : Option Addr) (n c : Nat) (L : List (List Int)) (es : List Value), v = .slice A n c ∧ n ≤ c ∧ c ≤ maxLen ∧ Row w D 1 A n es ∧ L.length = n ∧
      (∀ (i : Nat) (l : List Int), L[i]? = some l → ∃ (A' : Option Addr) (c' : Nat), es[i]? = some (Value.slice A' l.length c') ∧ l.length ≤ c' ∧ c' ≤ maxLen ∧ Row w D 1 A' l.length (l.map (Value.int k)) ∧ ∀ z ∈ l, (Lit.int k z).wf = true) ∧ L.flatten.length + n + 1 ≤ m := by
  obtain ⟨A, n, c, es, f, hv, h1, h2, h3, h4, h5⟩ := h
  have key : ∀ q, q ≤ n → ∃ L : List (List Int), L.length = q ∧ (∀ (i : Nat) (l : List Int), L[i]? = some l → ∃ (A' : Option Addr) (c' : Nat), es[i]? = some (Value.slice A' l.length c') ∧ l.length ≤ c' ∧ c' ≤ maxLen ∧ Row w D 1 A' l.length (l.map (Value.int k)) ∧ ∀ z ∈ l, (Lit.int k z).wf = true) ∧ L.flatten.length + q ≤ sumTo f q := by
    intro q
    induction q with
    | zero => intro _; exact ⟨[], rfl, fun i l hl => by simp at hl, by simp⟩
    | succ q ih =>
      intro hq
      obtain ⟨L, e1, e2, e3⟩ := ih (by omega)
      have hx := h5 q (by omega)
      rw [chunk1] at hx
      have hlt : q < es.length := by have := h3.len; omega
      have hel : es[q]? = some es[q] := List.getElem?_eq_getElem hlt
      rw [hel] at hx
      obtain ⟨A', n', c', l, hv', g1, g2, g3, g4, g5⟩ := Sh.ints hx
      have hl : l.length = n' := g3.length
      subst hl
      refine ⟨L ++ [l], by simp [e1], fun i x hix => ?_, ?_⟩
      · by_cases hi : i < q
        · rw [List.getElem?_append_left (by omega)] at hix; exact e2 i x hix
        · have : i = q := by have := (List.getElem?_eq_some_iff.1 hix).1; simp [e1] at this; omega
          subst this
          rw [List.getElem?_append_right (by omega), e1, Nat.sub_self] at hix
          obtain rfl : l = x := by simpa using hix
          exact ⟨A', c', by rw [hel, hv'], g1, g2, g3, g4⟩
      · simp only [List.flatten_append, List.length_append, List.flatten_cons, List.flatten_nil, List.append_nil, sumTo]; omega
  obtain ⟨L, e1, e2, e3⟩ := key n (Nat.le_refl _)
  exact ⟨A, n, c, L, es, by simpa using hv, h1, h2, h3, e1, e2, by omega⟩
end Go.Proofs.YtilaipdpbcfhkaaDoor
