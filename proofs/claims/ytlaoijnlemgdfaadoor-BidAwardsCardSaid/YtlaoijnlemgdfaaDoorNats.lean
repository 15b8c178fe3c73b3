/- Bytes that come in, as natural numbers. -/
import Derived.Test.YtlaoijnlemgdfaaDoorShaBlockW
import Derived.Test.YtlaoijnlemgdfaaDoorRows
namespace Go.Proofs.YtlaoijnlemgdfaaDoor
open Go.RowKit Go.Mny
theorem nats_of {l : List Int} (h : ∀ z ∈ l, (Lit.int .u8 z).wf = true) : ∃ m : List Nat, l = up m ∧ B8 m := by
  refine ⟨l.map Int.toNat, ?_, ?_⟩
  · unfold up
    rw [List.map_map]
    conv => lhs; rw [← List.map_id l]
    refine List.map_congr_left fun z hz => ?_
    have := bounds_u8 (h z hz)
    simp; omega
  · intro x hx
    obtain ⟨z, hz, rfl⟩ := List.mem_map.1 hx
    have := bounds_u8 (h z hz)
    omega
theorem up_inj {a b : List Nat} (h : up a = up b) : a = b := by
  unfold up at h
  exact (List.map_inj_right (fun x y h => Int.ofNat.inj h)).1 h
end Go.Proofs.YtlaoijnlemgdfaaDoor
