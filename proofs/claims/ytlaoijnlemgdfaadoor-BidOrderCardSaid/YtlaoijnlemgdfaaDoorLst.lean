/- Plain facts: lists by their places. -/
import Derived.Test.YtlaoijnlemgdfaaDoorBase
namespace Go.Mny
set_option linter.unusedVariables false
/-- a list by its places -/
def lst (m : Nat) (f : Nat → Nat) : List Nat := (List.range m).map f
theorem lst_len (m : Nat) (f : Nat → Nat) : (lst m f).length = m := by simp [lst]
theorem lst_get {m k : Nat} (f : Nat → Nat) (h : k < m) : (lst m f)[k]? = some (f k) := by
  unfold lst
  rw [List.getElem?_map, List.getElem?_range h]; rfl
theorem lst_congr {m : Nat} {f g : Nat → Nat} (h : ∀ q, q < m → f q = g q) : lst m f = lst m g :=
  List.map_congr_left fun q hq => h q (List.mem_range.1 hq)
theorem lst_set {m k x : Nat} {f g : Nat → Nat} (hg : ∀ q, q < m → g q = if q = k then x else f q) : (lst m f).set k x = lst m g := by
  refine List.ext_getElem? fun j => ?_
  by_cases hj : j < m
  · rw [lst_get g hj, hg j hj]
    by_cases hjk : j = k
    · subst hjk
      rw [List.getElem?_set_self (by rw [lst_len]; exact hj), if_pos rfl]
    · rw [List.getElem?_set_ne (by omega), lst_get f hj, if_neg hjk]
  · rw [List.getElem?_eq_none (by rw [List.length_set, lst_len]; omega), List.getElem?_eq_none (by rw [lst_len]; omega)]
end Go.Mny
