/- The form's own reach, for a slice that comes in: its length times its element's bytes. -/
import Derived.Test.YtilaipdpbcfhkaaOpen
import Derived.SizedLaws
namespace Go.Proofs.Ytilaipdpbcfhkaa
open Go.RowKit Go.Mny
/-- A slice that reads as data within the reach is no longer than the reach. -/
theorem reach_len {H : Type} {enc : TypeId × Value → H} {P : Program} {w : World} {base : Nat} {spare : Nat → Bool} {held : Bool} {t e : TypeId} {A : Option Addr} {n c : Nat} {d : DataW H} {ps : List MemPlace}
    (hu : P.underlying t = some (.slice e)) (h : DataW.Trod enc P w base spare held t (.slice A n c) d ps) {ts : List TypeId} {ds : List (DataW H)} {j : Nat}
    (hz : (DataW.weightsEach P ts ds).all (· ≤ reachBytes) = true) (ht : ts[j]? = some t) (hd : ds[j]? = some d) : n * P.bytesOf e ≤ 140737488351232 := by
  obtain ⟨fuel, hf⟩ := h
  rcases DataW.trod_slice hu hf with ⟨hc, _⟩ | ⟨a, len, cap, elems, rest, m, _, hc, hx, _, _, _, hl, _⟩
  · simp only [Value.cells] at hc
    injection hc with hc _
    injection hc with _ h2 _
    subst h2
    simp
  · simp only [Value.cells] at hc
    injection hc with hc _
    injection hc with _ h2 _
    subst h2
    injection hx with hx _
    subst hx
    have hs := sized_slice hz ht hd hu
    rw [List.length_map, List.length_map, hl] at hs
    have h3 : n * P.bytesOf e ≤ (n + rest.length) * P.bytesOf e := Nat.mul_le_mul_right _ (by omega)
    unfold reachBytes at hs
    omega
end Go.Proofs.Ytilaipdpbcfhkaa
