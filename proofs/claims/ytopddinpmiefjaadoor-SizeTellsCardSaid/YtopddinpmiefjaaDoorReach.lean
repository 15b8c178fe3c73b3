/- The form's own reach, for a slice that comes in: its length times its element's bytes; and the slices inside its structs. -/
import Derived.Test.YtopddinpmiefjaaDoorOpen
import Derived.SizedLaws
namespace Go.Proofs.YtopddinpmiefjaaDoor
open Go.RowKit Go.Mny
/-- A slice that reads as data within the reach is no longer than the reach. -/
theorem reach_len {H : Type} {enc : TypeId × Value → H} {P : Program} {w : World} {base : Nat} {spare : Nat → Bool} {held : Bool} {t e : TypeId} {A : Option Addr} {n c : Nat} {d : DataW H} {ps : List MemPlace}
    (hu : P.underlying t = some (.slice e)) (h : DataW.Trod enc P w base spare held t (.slice A n c) d ps) {ts : List TypeId} {ds : List (DataW H)} {j : Nat}
    (hz : (DataW.weightsEach P ts ds).all (· ≤ reachBytes) = true) (ht : ts[j]? = some t) (hd : ds[j]? = some d) : n * P.bytesOf e ≤ 140737488351232 := by
  obtain ⟨fuel, hf⟩ := h
  rcases DataW.trod_slice hu hf with ⟨hc, _⟩ | ⟨a, len, cap, elems, rest, m, _, hc, hx, _, _, _, hl, _⟩
  · simp only [Value.cells] at hc
    injection hc with hc _
    injection hc with _ h2 _
    subst h2
    simp
  · simp only [Value.cells] at hc
    injection hc with hc _
    injection hc with _ h2 _
    subst h2
    injection hx with hx _
    subst hx
    have hs := sized_slice hz ht hd hu
    rw [List.length_map, List.length_map, hl] at hs
    have h3 : n * P.bytesOf e ≤ (n + rest.length) * P.bytesOf e := Nat.mul_le_mul_right _ (by omega)
    unfold reachBytes at hs
    omega
theorem weights_mem_all {H : Type} {P : Program} {e : TypeId} : ∀ {ds : List (DataW H)} {d : DataW H}, d ∈ ds → ∀ n ∈ d.weights P e, n ∈ DataW.weightsAll P e ds
  | d0 :: ds, d, hd, n, hn => by
    simp only [DataW.weightsAll, List.mem_append]
    rcases List.mem_cons.1 hd with rfl | hd
    · exact .inl hn
    · exact .inr (weights_mem_all hd n hn)
/-- The slices in the elements of a slice of structs are no longer than the reach. -/
def Near (w : World) (A : Option Addr) (n s k : Nat) : Prop :=
  ∀ (a : Addr) (i : Nat) (A' : Option Addr) (n' c' : Nat), A = some a → i < n → w.cell? ((a.add (i * s)).add k) = some (.slice A' n' c') → n' ≤ 140737488351232
theorem reach_near {H : Type} {enc : TypeId × Value → H} {P : Program} {w : World} {base : Nat} {spare : Nat → Bool} {held : Bool} {t e u : TypeId} {fs : Array Field} {fd : Field} {A : Option Addr} {n c s q k : Nat} {d : DataW H} {ps : List MemPlace}
    (hu : P.underlying t = some (.slice e)) (hs : P.cellsOf e = s) (he : P.underlying e = some (.struct fs)) (hq : fs[q]? = some fd) (ho : fd.offset = k) (hk : k < s) (hf1 : P.cellsOf fd.type = 1) (hfu : P.underlying fd.type = some (.slice u)) (hb : 1 ≤ P.bytesOf u)
    (h : DataW.Trod enc P w base spare held t (.slice A n c) d ps) {ts : List TypeId} {ds : List (DataW H)} {j : Nat}
    (hz : (DataW.weightsEach P ts ds).all (· ≤ reachBytes) = true) (ht : ts[j]? = some t) (hd : ds[j]? = some d) : Near w A n s k := by
  intro a i A' n' c' hA hi hcell
  subst hA
  obtain ⟨fuel, hf⟩ := h
  rcases DataW.trod_slice hu hf with ⟨hc, _⟩ | ⟨a1, len, cap, elems, rest, m, _, hc, hx, _, _, _, hl, hel, _⟩
  · simp only [Value.cells] at hc
    injection hc with hc _
    injection hc with hc _
    cases hc
  · simp only [Value.cells] at hc
    injection hc with hc _
    injection hc with h1 h2 _
    injection h1 with h1
    subst h1 h2
    injection hx with hx _
    subst hx
    have hei := hel i hi
    rw [List.getElem?_eq_getElem (by omega)] at hei
    obtain ⟨cs, hcs, htr⟩ := Option.bind_eq_some_iff.1 hei
    obtain ⟨_, hcl, hcc⟩ := World.cells?_some hcs
    rw [hs] at hcl hcc
    obtain ⟨xs, m2, _, hxe, _, hxl, hxi⟩ := DataW.trod_struct he htr
    have hf := hxi q fd hq
    have hqs : q < fs.size := (Array.getElem?_eq_some_iff.1 hq).1
    rw [List.getElem?_eq_getElem (by omega), ho, hf1, List.drop_eq_getElem_cons (show k < cs.length by omega)] at hf
    have hck := hcc k hk
    rw [hcell, List.getElem?_eq_getElem (by omega)] at hck
    rw [← Option.some.inj hck] at hf
    have hf' : DataW.trod enc P w base spare held m2 fd.type [.slice A' n' c'] = some (xs[q]'(by omega)) := hf
    rcases DataW.trod_slice hfu hf' with ⟨hc, _⟩ | ⟨a2, len2, cap2, el2, rest2, m3, _, hc, hx, _, _, _, hl2, _⟩
    · injection hc with hc _
      injection hc with _ h2 _
      omega
    · injection hc with hc _
      injection hc with _ h2 _
      subst h2
      have w1 : (el2.length + rest2.length) * P.bytesOf u ∈ (xs[q]'(by omega)).1.weights P fd.type := by
        rw [hx]
        simp only [DataW.weights, hfu, List.length_map]
        exact List.mem_cons_self
      have w2 : (el2.length + rest2.length) * P.bytesOf u ∈ (elems[i]'(by omega)).1.weights P e := by
        rw [hxe]
        simp only [DataW.weights, he]
        exact DataW.weights_mem_each (j := q) (by rw [List.getElem?_map, Array.getElem?_toList, hq]; rfl) (by rw [List.getElem?_map, List.getElem?_eq_getElem (by omega)]; rfl) _ w1
      have w3 : (el2.length + rest2.length) * P.bytesOf u ∈ (DataW.slice (elems.map (·.1)) (rest.map (·.1))).weights P t := by
        simp only [DataW.weights, hu]
        exact List.mem_cons_of_mem _ (List.mem_append.2 (.inl (weights_mem_all (List.mem_map.2 ⟨_, List.getElem_mem _, rfl⟩) _ w2)))
      have hr := of_decide_eq_true (List.all_eq_true.1 hz _ (DataW.weights_mem_each ht hd _ w3))
      have h3 : (el2.length + rest2.length) * 1 ≤ (el2.length + rest2.length) * P.bytesOf u := Nat.mul_le_mul_left _ hb
      unfold reachBytes at hr
      omega
end Go.Proofs.YtopddinpmiefjaaDoor
