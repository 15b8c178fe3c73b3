/- A slice of byte slices that comes in; shares picked out of read shares into a slice of the call's own. -/
import Derived.Test.YtilaipdpbcfhkaaDoorPieces
import Derived.Test.YtilaipdpbcfhkaaDoorShr
namespace Go.Proofs.YtilaipdpbcfhkaaDoor
set_option linter.unusedVariables false
open Go.RowKit Go.Mny
theorem nats_byt {l : List Int} (h : ∀ z ∈ l, (Lit.int .u8 z).wf = true) : l.map (Value.int .u8) = byt (l.map Int.toNat) ∧ By8s (l.map Int.toNat) := by
  refine ⟨?_, ?_⟩
  · unfold byt
    rw [List.map_map]
    refine List.map_congr_left fun z hz => ?_
    have := bounds_u8 (h z hz)
    simp; omega
  · intro x hx
    obtain ⟨z, hz, rfl⟩ := List.mem_map.1 hx
    have := bounds_u8 (h z hz)
    omega
theorem Sh.mat {w : World} {D m : Nat} {v : Value} (h : (Sh.slice 1 (.slice 1 (.int .u8))).ok w D m [v]) :
    ∃ (A : Option Addr) (n c : Nat) (M : List (List Nat)), v = .slice A n c ∧ n ≤ c ∧ Mat w D A n M ∧ (∀ r ∈ M, By8s r) ∧ n + 1 ≤ m := by
  obtain ⟨A, n, c, L, es, hv, h1, h2, hR, hL, hr, hm⟩ := Sh.rows h
  refine ⟨A, n, c, L.map fun l => l.map Int.toNat, hv, h1, ⟨es, hR, by simp [hL], fun i r hi => ?_⟩, ?_, by omega⟩
  · rw [List.getElem?_map] at hi
    cases hx : L[i]? with
    | none => rw [hx] at hi; simp at hi
    | some l =>
      rw [hx] at hi
      simp only [Option.map_some, Option.some.injEq] at hi
      subst hi
      obtain ⟨A', c', e1, e2, e3, e4, e5⟩ := hr i l hx
      refine ⟨A', c', by simpa using e1, by simpa using e2, ?_⟩
      rw [List.length_map, ← (nats_byt e5).1]; exact e4
  · intro r hr'
    obtain ⟨l, hl, rfl⟩ := List.mem_map.1 hr'
    obtain ⟨i, hi, rfl⟩ := List.getElem_of_mem hl
    obtain ⟨A', c', e1, e2, e3, e4, e5⟩ := hr i _ (List.getElem?_eq_getElem hi)
    exact (nats_byt e5).2
/-- picked shares: the cells are the call's own, the rows lie below D -/
def Pik (w : World) (B st D : Nat) (A : Option Addr) (n c : Nat) (L : List (Nat × List Nat)) : Prop :=
  ∃ es : List Value, Mny.Own w B st 2 A n c es ∧ L.length = n ∧ ∀ (i : Nat) (x : Nat) (d : List Nat), L[i]? = some (x, d) →
    ∃ (A' : Option Addr) (c' : Nat), es[i * 2]? = some (Value.int .u8 (x : Int)) ∧ es[i * 2 + 1]? = some (Value.slice A' d.length c') ∧ d.length ≤ c' ∧ Row w D 1 A' d.length (byt d)
theorem Pik.none (w : World) (B st D : Nat) : Pik w B st D none 0 0 [] := ⟨[], Own.none _ _ _ _, rfl, fun i x d h => by simp at h⟩
theorem Pik.below {w w' : World} {B st D n c : Nat} {A : Option Addr} {L : List (Nat × List Nat)} (h : Pik w B st D A n c L) (hD : D ≤ w.heap.size) (hb : Below w.heap.size w w') : Pik w' B st D A n c L := by
  obtain ⟨es, h1, h2, h3⟩ := h
  exact ⟨es, h1.below hb (Nat.le_refl _), h2, fun i x d hi => by obtain ⟨A', c', e1, e2, e3, e4⟩ := h3 i x d hi; exact ⟨A', c', e1, e2, e3, e4.below (hb.mono hD)⟩⟩
theorem Pik.snoc {w w2 : World} {B st D n c2 : Nat} {A2 : Option Addr} {L : List (Nat × List Nat)} {es : List Value} (hes : es.length = n * 2) (h2 : L.length = n)
    (h3 : ∀ (i : Nat) (x : Nat) (d : List Nat), L[i]? = some (x, d) → ∃ (A' : Option Addr) (c' : Nat), es[i * 2]? = some (Value.int .u8 (x : Int)) ∧ es[i * 2 + 1]? = some (Value.slice A' d.length c') ∧ d.length ≤ c' ∧ Row w D 1 A' d.length (byt d))
    (hk : Below D w w2) (x : Nat) (d : List Nat) {A' : Option Addr} {c' : Nat} (hle : d.length ≤ c') (hd : Row w D 1 A' d.length (byt d))
    (ho : Mny.Own w2 B st 2 A2 (n + 1) c2 (es ++ [Value.int .u8 (x : Int), Value.slice A' d.length c'])) : Pik w2 B st D A2 (n + 1) c2 (L ++ [(x, d)]) := by
  refine ⟨_, ho, by simp [h2], fun i x' d' hi => ?_⟩
  by_cases hin : i < n
  · rw [List.getElem?_append_left (by omega)] at hi
    obtain ⟨A1, c1, e1, e2, e3, e4⟩ := h3 i x' d' hi
    exact ⟨A1, c1, by rw [List.getElem?_append_left (by omega)]; exact e1, by rw [List.getElem?_append_left (by omega)]; exact e2, e3, e4.below hk⟩
  · have hlt := (List.getElem?_eq_some_iff.1 hi).1
    simp only [List.length_append, List.length_cons, List.length_nil] at hlt
    have : i = n := by omega
    subst this
    rw [List.getElem?_append_right (by omega), h2, Nat.sub_self] at hi
    simp only [List.getElem?_cons_zero, Option.some.injEq, Prod.mk.injEq] at hi
    obtain ⟨rfl, rfl⟩ := hi
    exact ⟨A', c', by rw [List.getElem?_append_right (by omega), hes, Nat.sub_self]; rfl, by rw [List.getElem?_append_right (by omega), hes, Nat.add_sub_cancel_left]; rfl, hle, hd.below hk⟩
theorem Pik.shr {w : World} {B st D n c : Nat} {A : Option Addr} {L : List (Nat × List Nat)} (h : Pik w B st D A n c L) (hD : D ≤ w.heap.size) : ShR w w.heap.size A n L := by
  obtain ⟨es, h1, h2, h3⟩ := h
  exact ⟨es, Row.of_own h1, h2, fun i x d hi => by obtain ⟨A', c', e1, e2, e3, e4⟩ := h3 i x d hi; exact ⟨A', c', e1, e2, e3, e4.more hD⟩⟩
end Go.Proofs.YtilaipdpbcfhkaaDoor
